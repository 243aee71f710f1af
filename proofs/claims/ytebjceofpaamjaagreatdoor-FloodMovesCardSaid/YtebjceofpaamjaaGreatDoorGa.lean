/- Texts of the proofs of seat YtebjceofpaamjaaGreatDoor, joined: Ids, Gen1, Gen2, Gen3, Gen4, Gen5. They have no conditions of their own. -/
import Derived.Test.YtebjceofpaamjaaGreatDoorMb
import Derived.Test.YtebjceofpaamjaaGreatDoorChecked
import Derived.KernelRfl
set_option linter.unusedVariables false
set_option linter.unusedSimpArgs false

namespace Go.Proofs.YtebjceofpaamjaaGreatDoor
abbrev F_gosem_cut_init : Nat := 2
abbrev F_milestonelaw10_FloodTells : Nat := 3
abbrev F_milestonelaw10_FloodLeast : Nat := 4
abbrev F_milestonelaw10_FloodSure : Nat := 5
abbrev F_milestonelaw10_FloodTurned : Nat := 6
abbrev F_milestonelaw10_FloodMoves : Nat := 7
abbrev F_milestonelaw10_drawn : Nat := 8
abbrev F_net_New : Nat := 9
abbrev F_milestoneref10_Same : Nat := 10
abbrev F_milestonelaw10_tree : Nat := 11
abbrev F_flood_From : Nat := 12
abbrev F_milestoneref10_From : Nat := 13
abbrev F_flood_To : Nat := 14
abbrev F_milestoneref10_To : Nat := 15
abbrev F_milestonelaw10_works : Nat := 16
abbrev F_milestoneref10_Least : Nat := 17
abbrev F_milestoneref07_Turned : Nat := 18
abbrev F_milestonelaw10_made : Nat := 19
abbrev F_dist_Add : Nat := 20
abbrev F_graph_Turned : Nat := 21
abbrev F_milestonelaw10_is : Nat := 22
abbrev F_graph_Moved : Nat := 23
abbrev F_milestonelaw10_moved : Nat := 24
abbrev F_milestoneref07_Draft_Raw : Nat := 25
abbrev F_graph_Check : Nat := 26
abbrev F_api_Told : Nat := 27
abbrev F_net_of : Nat := 28
abbrev F_net_own : Nat := 29
abbrev F_milestoneref07_Ints : Nat := 30
abbrev F_flood_flood : Nat := 31
abbrev F_net_Net_Out : Nat := 32
abbrev F_flood_From_1 : Nat := 33
abbrev F_milestoneref08_New : Nat := 34
abbrev F_milestoneref08_Heap_Push : Nat := 35
abbrev F_milestoneref08_Heap_Pop : Nat := 36
abbrev F_milestoneref07_Out : Nat := 37
abbrev F_milestoneref08_Heap_Key : Nat := 38
abbrev F_milestoneref08_Heap_Lower : Nat := 39
abbrev F_net_Net_In : Nat := 40
abbrev F_flood_To_1 : Nat := 41
abbrev F_milestoneref07_Copy : Nat := 42
abbrev F_dist_folded : Nat := 43
abbrev F_dist_way : Nat := 44
abbrev F_graph_copied : Nat := 45
abbrev F_graph_Moved_1 : Nat := 46
abbrev F_milestoneref07_Draft_Next : Nat := 47
abbrev F_milestoneref07_Draft_Weight : Nat := 48
abbrev F_graph_Check_1 : Nat := 49
abbrev F_graph_look : Nat := 50
abbrev F_errors_As : Nat := 51
abbrev F_net_of_1 : Nat := 52
abbrev F_net_of_2 : Nat := 53
abbrev F_net_of_3 : Nat := 54
abbrev F_slices_Clone_sl_int64_int64 : Nat := 55
abbrev F_slices_Clone_sl_api_Arc_api_Arc : Nat := 56
abbrev F_net_Net_Nodes : Nat := 57
abbrev F_heap_New : Nat := 58
abbrev F_slices_Repeat_sl_int64_int64 : Nat := 59
abbrev F_slices_Repeat_sl_int_int : Nat := 60
abbrev F_heap_Heap_Push : Nat := 61
abbrev F_heap_Heap_Pop : Nat := 62
abbrev F_flood_arcs : Nat := 63
abbrev F_flood_run_reach : Nat := 64
abbrev F_net_one_sl_int : Nat := 65
abbrev F_slices_Clone_sl_int_int : Nat := 66
abbrev F_milestoneref08_Heap_at : Nat := 67
abbrev F_milestoneref08_Heap_least : Nat := 68
abbrev F_dist_between_int64 : Nat := 69
abbrev F_graph_look_1 : Nat := 70
abbrev F_graph_one : Nat := 71
abbrev F_graph_look_2 : Nat := 72
abbrev F_graph_shapes : Nat := 73
abbrev F_graph_look_3 : Nat := 74
abbrev F_graph_nodes : Nat := 75
abbrev F_graph_look_4 : Nat := 76
abbrev F_graph_look_5 : Nat := 77
abbrev F_graph_arcs : Nat := 78
abbrev F_errors_as : Nat := 82
abbrev F_math_bits_Mul : Nat := 83
abbrev F_heap_row_up : Nat := 84
abbrev F_heap_Heap_Len : Nat := 85
abbrev F_heap_row_swap : Nat := 86
abbrev F_heap_row_down : Nat := 87
abbrev F_flood_arcs_1 : Nat := 88
abbrev F_net_Net_Arc : Nat := 89
abbrev F_heap_Heap_Key : Nat := 90
abbrev F_heap_Heap_Lower : Nat := 91
abbrev F_dist_between_int64_1 : Nat := 92
abbrev F_slices_Values_sl_graph_place_graph_place : Nat := 93
abbrev F_graph_nodes_1 : Nat := 94
abbrev F_graph_arcs_1 : Nat := 95
abbrev F_math_bits_Mul32 : Nat := 99
abbrev F_math_bits_Mul64 : Nat := 100
abbrev F_heap_row_ahead : Nat := 101
abbrev F_heap_row_below : Nat := 102
abbrev F_net_one_api_Arc : Nat := 103
abbrev F_slices_Values_sl_graph_place_graph_place_1 : Nat := 104
abbrev F_cmp_Or_int : Nat := 105
abbrev F_cmp_Compare_int64 : Nat := 106
abbrev F_cmp_Compare_int : Nat := 107
abbrev F_heap_row_below_1 : Nat := 108
abbrev F_cmp_isNaN_int64 : Nat := 109
abbrev F_cmp_isNaN_int : Nat := 110
abbrev F_api_Fault_Unwrap : Nat := 131
abbrev F_net_trouble_Unwrap : Nat := 132
abbrev F_graph_trouble_Unwrap : Nat := 133
abbrev F_gosem_cut_vars : Nat := 152
abbrev T_ : Nat := 0
abbrev T_func : Nat := 1
abbrev T_int64 : Nat := 2
abbrev T_int : Nat := 3
abbrev T_bool : Nat := 4
abbrev T_uint8 : Nat := 5
abbrev T_abi_BoundsErrorCode : Nat := 6
abbrev T_struct_x_int64_y_int_signed_bool_code_abi_BoundsErrorCode : Nat := 7
abbrev T_runtime_boundsError : Nat := 8
abbrev T_string : Nat := 9
abbrev T_runtime_errorString : Nat := 10
abbrev T_runtime_plainError : Nat := 11
abbrev T_uintptr : Nat := 12
abbrev T_struct_msg_string_addr_uintptr : Nat := 13
abbrev T_runtime_errorAddressString : Nat := 14
abbrev T_p_runtime_TypeAssertionError : Nat := 15
abbrev T_p_runtime_PanicNilError : Nat := 16
abbrev T_p_abi_Type : Nat := 17
abbrev T_struct_typ_p_abi_Type : Nat := 18
abbrev T_maps_unhashableTypeError : Nat := 19
abbrev T_interface : Nat := 20
abbrev T_int32 : Nat := 21
abbrev T_sl_uint8 : Nat := 22
abbrev T_sl_int64 : Nat := 23
abbrev T_sl_api_Arc : Nat := 24
abbrev T_struct_Nodes_int_X_sl_int64_Y_sl_int64_Arcs_sl_api_Arc : Nat := 25
abbrev T_api_Raw : Nat := 26
abbrev T_func_sl_uint8_api_Raw : Nat := 27
abbrev T_p_net_Net : Nat := 28
abbrev T_interface_Error_string : Nat := 29
abbrev T_error : Nat := 30
abbrev T_net_Net_error : Nat := 31
abbrev T_func_api_Raw_net_Net_error : Nat := 32
abbrev T_func_milestoneref10_Tree_milestoneref10_Tree_bool : Nat := 33
abbrev T_sl_int : Nat := 34
abbrev T_struct_Dist_sl_int64_Arc_sl_int_Order_sl_int : Nat := 35
abbrev T_milestoneref10_Tree : Nat := 36
abbrev T_func_flood_Tree_milestoneref10_Tree : Nat := 37
abbrev T_flood_Tree : Nat := 38
abbrev T_funcnet_Net_int_flood_Tree : Nat := 39
abbrev T_func_api_Raw_int_milestoneref10_Tree : Nat := 40
abbrev T_func_bool : Nat := 41
abbrev T_func_sl_uint8_int_bool : Nat := 42
abbrev T_func_api_Raw_int_sl_int64 : Nat := 43
abbrev T_func_api_Raw_api_Raw : Nat := 44
abbrev T_func_sl_uint8_bool : Nat := 45
abbrev T_func_api_Raw_p_net_Net : Nat := 46
abbrev T_struct_From_int_To_int_Weight_int64 : Nat := 47
abbrev T_api_Arc : Nat := 48
abbrev T_func_int64_int64_int64 : Nat := 49
abbrev T_func_sl_uint8_uint8_bool : Nat := 50
abbrev T_func_flood_Tree_sl_int64_sl_int_sl_int_bool : Nat := 51
abbrev T_3_uint8 : Nat := 52
abbrev T_int8 : Nat := 53
abbrev T_func_api_Raw_int_api_Raw : Nat := 54
abbrev T_func_int_int_int_int : Nat := 55
abbrev T_func_sl_uint8_3_uint8_int8_bool : Nat := 56
abbrev T_p_milestoneref07_Draft : Nat := 57
abbrev T_struct_B_sl_uint8_At_int : Nat := 58
abbrev T_milestoneref07_Draft : Nat := 59
abbrev T_func_api_Raw : Nat := 60
abbrev T_func_api_Raw_error : Nat := 61
abbrev T_api_Errno : Nat := 62
abbrev T_struct_Code_api_Errno_Phase_int_Index_int_Field_int : Nat := 63
abbrev T_api_Fault : Nat := 64
abbrev T_func_error_api_Fault : Nat := 65
abbrev T_p_api_Fault : Nat := 66
abbrev T_struct_p_api_Fault : Nat := 67
abbrev T_net_trouble : Nat := 68
abbrev T_func_sl_int_sl_int_bool : Nat := 69
abbrev T_funcnet_Net_int_func_int_sl_int_func_api_Arc_int_flood_Tree : Nat := 70
abbrev T_func_int_sl_int : Nat := 71
abbrev T_func_api_Arc_int : Nat := 72
abbrev T_sl_bool : Nat := 73
abbrev T_p_milestoneref08_Heap : Nat := 74
abbrev T_func_int_p_milestoneref08_Heap : Nat := 75
abbrev T_func_int_int64_api_Errno : Nat := 76
abbrev T_sl_milestoneref08_Held : Nat := 77
abbrev T_struct_N_int_L_sl_milestoneref08_Held : Nat := 78
abbrev T_milestoneref08_Heap : Nat := 79
abbrev T_int_int64_bool : Nat := 80
abbrev T_func_int_int64_bool : Nat := 81
abbrev T_func_api_Raw_int_sl_int : Nat := 82
abbrev T_int64_bool : Nat := 83
abbrev T_func_int_int64_bool_v2 : Nat := 84
abbrev T_func_func_int64_int64_int64_int64 : Nat := 85
abbrev T_func_int64_int64 : Nat := 86
abbrev T_func_int_int : Nat := 87
abbrev T_func_int64 : Nat := 88
abbrev T_graph_trouble : Nat := 89
abbrev T_graph_trouble_bool : Nat := 90
abbrev T_func_api_Raw_v2 : Nat := 91
abbrev T_func_error_interface_bool : Nat := 92
abbrev T_p_p_api_Fault : Nat := 93
abbrev T_p_api_Errno : Nat := 94
abbrev T_sl_sl_int : Nat := 95
abbrev T_struct_raw_api_Raw_out_sl_sl_int_in_sl_sl_int : Nat := 96
abbrev T_net_Net : Nat := 97
abbrev T_func_func_api_Arc_int_sl_sl_int : Nat := 98
abbrev T_func_sl_int64_sl_int64 : Nat := 99
abbrev T_func_sl_api_Arc_sl_api_Arc : Nat := 100
abbrev T_func_int : Nat := 101
abbrev T_p_flood_run : Nat := 102
abbrev T_p_heap_Heap : Nat := 103
abbrev T_func_int_p_heap_Heap : Nat := 104
abbrev T_func_sl_int64_int_sl_int64 : Nat := 105
abbrev T_func_sl_int_int_sl_int : Nat := 106
abbrev T_map_int_int : Nat := 107
abbrev T_struct_p_heap_Heap_flood_Tree_closed_map_int_int : Nat := 108
abbrev T_flood_run : Nat := 109
abbrev T_func_func_int_api_Arc_bool : Nat := 110
abbrev T_iter_Seq2_int_api_Arc : Nat := 111
abbrev T_funcnet_Net_sl_int_func_api_Arc_int_iter_Seq2_int_api_Arc : Nat := 112
abbrev T_func_int_int_int64 : Nat := 113
abbrev T_sl_int_bool : Nat := 114
abbrev T_func_sl_sl_int_int_sl_int_bool : Nat := 115
abbrev T_func_sl_int_sl_int : Nat := 116
abbrev T_struct_Id_int_Key_int64 : Nat := 117
abbrev T_milestoneref08_Held : Nat := 118
abbrev T_func_int64_int64_func_int64_int64 : Nat := 119
abbrev T_func_func_graph_place_bool : Nat := 120
abbrev T_iter_Seq_graph_place : Nat := 121
abbrev T_func_api_Errno_int_int_int_iter_Seq_graph_place : Nat := 122
abbrev T_func_iter_Seq_graph_place : Nat := 123
abbrev T_func_api_Raw_iter_Seq_graph_place : Nat := 124
abbrev T_sl_func_iter_Seq_graph_place : Nat := 125
abbrev T_struct_index_int_field_int_code_api_Errno_n_int64_least_int64_end_int64 : Nat := 126
abbrev T_graph_place : Nat := 127
abbrev T_unsafe_Pointer : Nat := 128
abbrev T_reflectlite_flag : Nat := 129
abbrev T_struct_typ_p_abi_Type_ptr_unsafe_Pointer_reflectlite_flag : Nat := 130
abbrev T_reflectlite_Value : Nat := 131
abbrev T_func_interface_reflectlite_Value : Nat := 132
abbrev T_interface_AssignableTo_reflectlite_Type_bool_Comparable_bool_Elem_reflectlite_Type_Implements_reflectlite_Type_bool_Kind_abi_Kind_Name_string_PkgPath_string_Size_uintptr_String_string_reflectlite_common_p_abi_Type_reflectlite_uncommon_p_abi_UncommonType : Nat := 133
abbrev T_reflectlite_Type : Nat := 134
abbrev T_func_reflectlite_Type : Nat := 135
abbrev T_abi_Kind : Nat := 136
abbrev T_func_abi_Kind : Nat := 137
abbrev T_func_reflectlite_Type_bool : Nat := 138
abbrev T_func_error_interface_reflectlite_Value_reflectlite_Type_bool : Nat := 139
abbrev T_sl_heap_held : Nat := 140
abbrev T_struct_l_sl_heap_held_at_map_int_int : Nat := 141
abbrev T_heap_row : Nat := 142
abbrev T_struct_heap_row_n_int : Nat := 143
abbrev T_heap_Heap : Nat := 144
abbrev T_uint : Nat := 145
abbrev T_uint_uint : Nat := 146
abbrev T_func_uint_uint_uint_uint : Nat := 147
abbrev T_int_bool : Nat := 148
abbrev T_struct_id_int_key_int64 : Nat := 149
abbrev T_heap_held : Nat := 150
abbrev T_func_int_v2 : Nat := 151
abbrev T_func_int_int_v2 : Nat := 152
abbrev T_func_int_api_Arc_bool : Nat := 153
abbrev T_api_Arc_bool : Nat := 154
abbrev T_func_int_api_Arc_bool_v2 : Nat := 155
abbrev T_func_sl_graph_place_iter_Seq_graph_place : Nat := 156
abbrev T_sl_graph_place : Nat := 157
abbrev T_func_graph_place_bool : Nat := 158
abbrev T_struct_p_abi_Type : Nat := 159
abbrev T_reflectlite_rtype : Nat := 160
abbrev T_p_reflectlite_ValueError : Nat := 161
abbrev T_func_interface_reflectlite_Type : Nat := 162
abbrev T_func_reflectlite_Value : Nat := 163
abbrev T_func_reflectlite_Value_v2 : Nat := 164
abbrev T_interface_As_interface_bool : Nat := 165
abbrev T_interface_As_interface_bool_bool : Nat := 166
abbrev T_func_interface_bool : Nat := 167
abbrev T_interface_Unwrap_error : Nat := 168
abbrev T_func_error : Nat := 169
abbrev T_interface_Unwrap_sl_error : Nat := 170
abbrev T_sl_error : Nat := 171
abbrev T_func_sl_error : Nat := 172
abbrev T_uint32 : Nat := 173
abbrev T_uint32_uint32 : Nat := 174
abbrev T_func_uint32_uint32_uint32_uint32 : Nat := 175
abbrev T_uint64 : Nat := 176
abbrev T_uint64_uint64 : Nat := 177
abbrev T_func_uint64_uint64_uint64_uint64 : Nat := 178
abbrev T_p_heap_row : Nat := 179
abbrev T_func_int_int_bool : Nat := 180
abbrev T_func_func_int_bool : Nat := 181
abbrev T_iter_Seq_int : Nat := 182
abbrev T_func_int_iter_Seq_int : Nat := 183
abbrev T_func_sl_api_Arc_int_api_Arc_bool : Nat := 184
abbrev T_func_int_int_v3 : Nat := 185
abbrev T_func_int64_int64_int : Nat := 186
abbrev T_func_int_int_int : Nat := 187
abbrev T_func_int_bool : Nat := 188
abbrev T_func_int64_bool : Nat := 189
abbrev T_func_string : Nat := 190
abbrev T_struct_interface_p_abi_Type_concrete_p_abi_Type_asserted_p_abi_Type_missingMethod_string : Nat := 191
abbrev T_runtime_TypeAssertionError : Nat := 192
abbrev T_0_p_runtime_PanicNilError : Nat := 193
abbrev T_struct_0_p_runtime_PanicNilError : Nat := 194
abbrev T_runtime_PanicNilError : Nat := 195
abbrev T_func_p_abi_Type : Nat := 196
abbrev T_abi_TFlag : Nat := 197
abbrev T_func_unsafe_Pointer_unsafe_Pointer_bool : Nat := 198
abbrev T_p_uint8 : Nat := 199
abbrev T_abi_NameOff : Nat := 200
abbrev T_abi_TypeOff : Nat := 201
abbrev T_struct_Size_uintptr_PtrBytes_uintptr_Hash_uint32_TFlag_abi_TFlag_Align_uint8_FieldAlign_uint8_Kind_abi_Kind_Equal_func_unsafe_Pointer_unsafe_Pointer_bool_GCData_p_uint8_Str_abi_NameOff_PtrToThis_abi_TypeOff : Nat := 202
abbrev T_abi_Type : Nat := 203
abbrev T_func_uintptr : Nat := 204
abbrev T_func_p_abi_UncommonType : Nat := 205
abbrev T_struct_Method_string_Kind_abi_Kind : Nat := 206
abbrev T_reflectlite_ValueError : Nat := 207
abbrev T_p_abi_UncommonType : Nat := 208
abbrev T_func_sl_abi_Method : Nat := 209
abbrev T_uint16 : Nat := 210
abbrev T_struct_PkgPath_abi_NameOff_Mcount_uint16_Xcount_uint16_Moff_uint32_uint32 : Nat := 211
abbrev T_abi_UncommonType : Nat := 212
abbrev T_sl_abi_Method : Nat := 213
abbrev T_abi_TextOff : Nat := 214
abbrev T_struct_Name_abi_NameOff_Mtyp_abi_TypeOff_Ifn_abi_TextOff_Tfn_abi_TextOff : Nat := 215
abbrev T_abi_Method : Nat := 216
abbrev T_p_error : Nat := 217
abbrev G_errors_errorType : Nat := 0
end Go.Proofs.YtebjceofpaamjaaGreatDoor

namespace Go.Proofs.YtebjceofpaamjaaGreatDoor
open Go Go.Mh
set_option maxHeartbeats 0
set_option linter.unusedVariables false

/-! milestone/milestonelaw10.FloodTells -/

def sh_milestonelaw10_FloodTells_k1 (P : Program) (K : Value → Heap → Prop) (h_5 : Heap) : Prop :=
  K (.bool false) h_5

def sh_milestonelaw10_FloodTells_C3 (P : Program) (K : Value → Heap → Prop) (v8 : Value) (Z : Value → Heap → Prop) (t47 : Value) (h_15 : Heap) : Prop :=
  ifV t47
  (K (.bool false) h_15)
  (pBin .add v8 (.int .i64 1) fun t27 =>
  Z t27 h_15)

def sh_milestonelaw10_FloodTells_C4 (P : Program) (K : Value → Heap → Prop) (t4 : Value) (h_21 : Heap) : Prop :=
  K t4 h_21

def sh_milestonelaw10_FloodTells_L2 (P : Program) (g5 t14 : Value) (K : Value → Heap → Prop) (other1 v8 : Value) (h_6 : Heap) (Z : Value → Heap → Prop) : Prop :=
  pField 0 g5 fun t23 =>
  pLoad h_6 t23 fun t24 =>
  pBin .leq v8 t24 fun t25 =>
  ifV t25
  (cutP (σ := Vals [47]) (fun J =>
  pLoadN 4 h_6 g5 fun t32 =>
  callS P F_flood_From [t14, v8] h_6 fun t30 h_7 =>
  (pLoadN 4 h_7 g5 fun t32_1 =>
  t32_1 = t32) ∧
  (callS P F_milestonelaw10_tree [t30] h_7 fun t31 h_8 =>
  (pLoadN 4 h_8 g5 fun t32_2 =>
  t32_2 = t32) ∧
  (callS P F_milestoneref10_From [t32, v8] h_8 fun t34 h_9 =>
  callS P F_milestoneref10_Same [t31, t34] h_9 fun t35 h_10 =>
  pUn .not t35 fun t36 =>
  ifV t36
  (J ((.bool true), ()) h_10)
  (pLoadN 4 h_10 g5 fun t42 =>
  callS P F_flood_To [t14, v8] h_10 fun t40 h_11 =>
  (pLoadN 4 h_11 g5 fun t42_1 =>
  t42_1 = t42) ∧
  (callS P F_milestonelaw10_tree [t40] h_11 fun t41 h_12 =>
  (pLoadN 4 h_12 g5 fun t42_2 =>
  t42_2 = t42) ∧
  (callS P F_milestoneref10_To [t42, v8] h_12 fun t44 h_13 =>
  callS P F_milestoneref10_Same [t41, t44] h_13 fun t45 h_14 =>
  pUn .not t45 fun t46 =>
  J (t46, ()) h_14))))))
  (fun x hh => sh_milestonelaw10_FloodTells_C3 P K v8 Z x.1 hh))
  (cutP (σ := Vals [4]) (fun J_1 =>
  pLoadN 4 h_6 g5 fun t52 =>
  callS P F_flood_From [t14, other1] h_6 fun t50 h_16 =>
  (pLoadN 4 h_16 g5 fun t52_1 =>
  t52_1 = t52) ∧
  (callS P F_milestonelaw10_tree [t50] h_16 fun t51 h_17 =>
  (pLoadN 4 h_17 g5 fun t52_2 =>
  t52_2 = t52) ∧
  (callS P F_milestoneref10_From [t52, other1] h_17 fun t54 h_18 =>
  callS P F_milestoneref10_Same [t51, t54] h_18 fun t55 h_19 =>
  ifV t55
  (callS P F_milestonelaw10_works [] h_19 fun t57 h_20 =>
  J_1 (t57, ()) h_20)
  (J_1 ((.bool false), ()) h_19))))
  (fun x hh => sh_milestonelaw10_FloodTells_C4 P K x.1 hh))

def sh_milestonelaw10_FloodTells (P : Program) (b0 other1 : Value) (h : Heap) (K : Value → Heap → Prop) : Prop :=
  callS P F_milestonelaw10_drawn [b0] h fun t10 h_1 =>
  pBox T_api_Raw (.agg #[(.int .i64 0), (.slice none 0 0), (.slice none 0 0), (.slice none 0 0)]) h_1 fun g5 h_2 =>
  pStore 4 g5 t10 h_2 fun u h_3 =>
  pLoadN 4 h_3 g5 fun t12 =>
  callS P F_net_New [t12] h_3 fun t13 h_4 =>
  pExt t13 0 fun t14 =>
  pExt t13 1 fun t15 =>
  pEq true .iface t15 .nilIface fun t17 =>
  ifV t17
  (sh_milestonelaw10_FloodTells_k1 P K h_4)
  (pEq false .ptr t14 (.pointer none) fun t20 =>
  ifV t20
  (sh_milestonelaw10_FloodTells_k1 P K h_4)
  (LoopH (σ := Vals [8]) (fun x hh ZZ => sh_milestonelaw10_FloodTells_L2 P g5 t14 K other1 x.1 hh (fun a0 hz => ZZ (a0, ()) hz)) ((.int .i64 (-1)), ()) h_4))

set_option maxRecDepth 100000 in
theorem lk_milestonelaw10_FloodTells (b0 other1 : Value) {h : Heap} {K : Value → Heap → Prop} (H : sh_milestonelaw10_FloodTells Tryz.prog b0 other1 h K) : CallsH Tryz.prog F_milestonelaw10_FloodTells [b0, other1].toArray h K :=
  callsH_of (ann := (annG (Tryz.f3.body.getD .skip) 0 [(8, [8]), (12, [47]), (14, [4])]).1) (c := Tryz.f3.body.getD .skip) Tryz.func3 (by kernel_rfl) (by kernel_rfl) (by kernel_rfl) (of_decide_eq_true (by kernel_rfl))
    (Eq.mpr (by kernel_rfl) H)

/-! milestone/milestonelaw10.FloodLeast -/

def sh_milestonelaw10_FloodLeast_k1 (P : Program) (K : Value → Heap → Prop) (h_5 : Heap) : Prop :=
  K (.bool false) h_5

def sh_milestonelaw10_FloodLeast_k5 (P : Program) (K : Value → Heap → Prop) (h_37 : Heap) : Prop :=
  K (.bool false) h_37

def sh_milestonelaw10_FloodLeast_C7 (P : Program) (K : Value → Heap → Prop) (w11 : Value) (Z_1 : Value → Heap → Prop) (t85 : Value) (h_39 : Heap) : Prop :=
  ifV t85
  (K (.bool false) h_39)
  (pBin .add w11 (.int .i64 1) fun t63 =>
  Z_1 t63 h_39)

def sh_milestonelaw10_FloodLeast_L6 (P : Program) (g3 x7_3 l8 y9_4 m10 : Value) (K : Value → Heap → Prop) (v6 : Value) (Z : Value → Heap → Prop) (w11 : Value) (h_38 : Heap) (Z_1 : Value → Heap → Prop) : Prop :=
  pField 0 g3 fun t59 =>
  pLoad h_38 t59 fun t60 =>
  pBin .lss w11 t60 fun t61 =>
  ifV t61
  (cutP (σ := Vals [85]) (fun J_2 =>
  pField 0 x7_3 fun t64 =>
  pLoad h_38 t64 fun t65 =>
  pIdx 1 t65 w11 fun t67 =>
  pLoad h_38 t67 fun t68 =>
  pIdx 1 l8 w11 fun t71 =>
  pLoad h_38 t71 fun t72 =>
  pBin .neq t68 t72 fun t73 =>
  ifV t73
  (J_2 ((.bool true), ()) h_38)
  (pField 0 y9_4 fun t75 =>
  pLoad h_38 t75 fun t76 =>
  pIdx 1 t76 w11 fun t78 =>
  pLoad h_38 t78 fun t79 =>
  pIdx 1 m10 w11 fun t82 =>
  pLoad h_38 t82 fun t83 =>
  pBin .neq t79 t83 fun t84 =>
  J_2 (t84, ()) h_38))
  (fun x hh => sh_milestonelaw10_FloodLeast_C7 P K w11 Z_1 x.1 hh))
  (pBin .add v6 (.int .i64 1) fun t30 =>
  Z t30 h_38)

def sh_milestonelaw10_FloodLeast_C4 (P : Program) (x7_3 g3 : Value) (K : Value → Heap → Prop) (l8 v6 : Value) (Z : Value → Heap → Prop) (y9_4 m10 : Value) (h_36 : Heap) : Prop :=
  pField 0 x7_3 fun t44 =>
  pLoad h_36 t44 fun t45 =>
  pLen t45 fun t46 =>
  pField 0 g3 fun t47 =>
  pLoad h_36 t47 fun t48 =>
  pBin .neq t46 t48 fun t49 =>
  ifV t49
  (sh_milestonelaw10_FloodLeast_k5 P K h_36)
  (pField 0 y9_4 fun t51 =>
  pLoad h_36 t51 fun t52 =>
  pLen t52 fun t53 =>
  pField 0 g3 fun t54 =>
  pLoad h_36 t54 fun t55 =>
  pBin .neq t53 t55 fun t56 =>
  ifV t56
  (sh_milestonelaw10_FloodLeast_k5 P K h_36)
  (LoopH (σ := Vals [11]) (fun x hh ZZ => sh_milestonelaw10_FloodLeast_L6 P g3 x7_3 l8 y9_4 m10 K v6 Z x.1 hh (fun a0 hz => ZZ (a0, ()) hz)) ((.int .i64 0), ()) h_36))

def sh_milestonelaw10_FloodLeast_C3 (P : Program) (g3 t17 v6 : Value) (K Z : Value → Heap → Prop) (x7_3 l8 : Value) (h_18 : Heap) : Prop :=
  cutP (σ := Vals [9, 10]) (fun J_1 =>
  pLoadN 4 h_18 g3 fun t40 =>
  (callS P F_flood_To [t17, v6] h_18 fun t39 h_19 =>
  (pLoadN 4 h_19 g3 fun t40_1 =>
  t40_1 = t40) ∧
  ((callS P F_milestoneref07_Turned [t40] h_19 fun t41 h_20 =>
  (callS P F_milestoneref10_Least [t41, v6] h_20 fun t43 h_21 =>
  pBox T_flood_Tree (.agg #[(.slice none 0 0), (.slice none 0 0), (.slice none 0 0)]) h_21 fun y9 h_22 =>
  pStore 3 y9 t39 h_22 fun u_4 h_23 =>
  J_1 (y9, (t43, ())) h_23) ∧
  (pBox T_flood_Tree (.agg #[(.slice none 0 0), (.slice none 0 0), (.slice none 0 0)]) h_20 fun y9_1 h_24 =>
  callS P F_milestoneref10_Least [t41, v6] h_24 fun t43_1 h_25 =>
  pStore 3 y9_1 t39 h_25 fun u_5 h_26 =>
  J_1 (y9_1, (t43_1, ())) h_26)) ∧
  (pBox T_flood_Tree (.agg #[(.slice none 0 0), (.slice none 0 0), (.slice none 0 0)]) h_19 fun y9_2 h_27 =>
  callS P F_milestoneref07_Turned [t40] h_27 fun t41_1 h_28 =>
  callS P F_milestoneref10_Least [t41_1, v6] h_28 fun t43_2 h_29 =>
  pStore 3 y9_2 t39 h_29 fun u_6 h_30 =>
  J_1 (y9_2, (t43_2, ())) h_30))) ∧
  (pBox T_flood_Tree (.agg #[(.slice none 0 0), (.slice none 0 0), (.slice none 0 0)]) h_18 fun y9_3 h_31 =>
  callS P F_flood_To [t17, v6] h_31 fun t39_1 h_32 =>
  (pLoadN 4 h_32 g3 fun t40_2 =>
  t40_2 = t40) ∧
  (callS P F_milestoneref07_Turned [t40] h_32 fun t41_2 h_33 =>
  callS P F_milestoneref10_Least [t41_2, v6] h_33 fun t43_3 h_34 =>
  pStore 3 y9_3 t39_1 h_34 fun u_7 h_35 =>
  J_1 (y9_3, (t43_3, ())) h_35)))
  (fun x hh => sh_milestonelaw10_FloodLeast_C4 P x7_3 g3 K l8 v6 Z x.1 x.2.1 hh)

def sh_milestonelaw10_FloodLeast_L2 (P : Program) (g3 t17 : Value) (K : Value → Heap → Prop) (v6 : Value) (h_6 : Heap) (Z : Value → Heap → Prop) : Prop :=
  pField 0 g3 fun t26 =>
  pLoad h_6 t26 fun t27 =>
  pBin .lss v6 t27 fun t28 =>
  ifV t28
  (cutP (σ := Vals [7, 8]) (fun J =>
  pLoadN 4 h_6 g3 fun t34 =>
  (callS P F_flood_From [t17, v6] h_6 fun t33 h_7 =>
  (pLoadN 4 h_7 g3 fun t34_1 =>
  t34_1 = t34) ∧
  ((callS P F_milestoneref10_Least [t34, v6] h_7 fun t36 h_8 =>
  pBox T_flood_Tree (.agg #[(.slice none 0 0), (.slice none 0 0), (.slice none 0 0)]) h_8 fun x7 h_9 =>
  pStore 3 x7 t33 h_9 fun u_1 h_10 =>
  J (x7, (t36, ())) h_10) ∧
  (pBox T_flood_Tree (.agg #[(.slice none 0 0), (.slice none 0 0), (.slice none 0 0)]) h_7 fun x7_1 h_11 =>
  callS P F_milestoneref10_Least [t34, v6] h_11 fun t36_1 h_12 =>
  pStore 3 x7_1 t33 h_12 fun u_2 h_13 =>
  J (x7_1, (t36_1, ())) h_13))) ∧
  (pBox T_flood_Tree (.agg #[(.slice none 0 0), (.slice none 0 0), (.slice none 0 0)]) h_6 fun x7_2 h_14 =>
  callS P F_flood_From [t17, v6] h_14 fun t33_1 h_15 =>
  (pLoadN 4 h_15 g3 fun t34_2 =>
  t34_2 = t34) ∧
  (callS P F_milestoneref10_Least [t34, v6] h_15 fun t36_2 h_16 =>
  pStore 3 x7_2 t33_1 h_16 fun u_3 h_17 =>
  J (x7_2, (t36_2, ())) h_17)))
  (fun x hh => sh_milestonelaw10_FloodLeast_C3 P g3 t17 v6 K Z x.1 x.2.1 hh))
  (callS P F_milestonelaw10_works [] h_6 fun t86 h_40 =>
  K t86 h_40)

def sh_milestonelaw10_FloodLeast (P : Program) (b0 : Value) (h : Heap) (K : Value → Heap → Prop) : Prop :=
  callS P F_milestonelaw10_drawn [b0] h fun t13 h_1 =>
  pBox T_api_Raw (.agg #[(.int .i64 0), (.slice none 0 0), (.slice none 0 0), (.slice none 0 0)]) h_1 fun g3 h_2 =>
  pStore 4 g3 t13 h_2 fun u h_3 =>
  pLoadN 4 h_3 g3 fun t15 =>
  callS P F_net_New [t15] h_3 fun t16 h_4 =>
  pExt t16 0 fun t17 =>
  pExt t16 1 fun t18 =>
  pEq true .iface t18 .nilIface fun t20 =>
  ifV t20
  (sh_milestonelaw10_FloodLeast_k1 P K h_4)
  (pEq false .ptr t17 (.pointer none) fun t23 =>
  ifV t23
  (sh_milestonelaw10_FloodLeast_k1 P K h_4)
  (LoopH (σ := Vals [6]) (fun x hh ZZ => sh_milestonelaw10_FloodLeast_L2 P g3 t17 K x.1 hh (fun a0 hz => ZZ (a0, ()) hz)) ((.int .i64 0), ()) h_4))

set_option maxRecDepth 100000 in
theorem lk_milestonelaw10_FloodLeast (b0 : Value) {h : Heap} {K : Value → Heap → Prop} (H : sh_milestonelaw10_FloodLeast Tryz.prog b0 h K) : CallsH Tryz.prog F_milestonelaw10_FloodLeast [b0].toArray h K :=
  callsH_of (ann := (annG (Tryz.f4.body.getD .skip) 0 [(8, [6]), (12, [7, 8]), (13, [9, 10]), (18, [11]), (22, [85])]).1) (c := Tryz.f4.body.getD .skip) Tryz.func4 (by kernel_rfl) (by kernel_rfl) (by kernel_rfl) (of_decide_eq_true (by kernel_rfl))
    (Eq.mpr (by kernel_rfl) H)

/-! milestone/milestonelaw10.FloodSure -/

def sh_milestonelaw10_FloodSure_k1 (P : Program) (K : Value → Heap → Prop) (h_9 : Heap) : Prop :=
  K (.bool false) h_9

def sh_milestonelaw10_FloodSure_k4 (P : Program) (i10 : Value) (Z : Value → Heap → Prop) (h_14 : Heap) : Prop :=
  pBin .add i10 (.int .i64 1) fun t85 =>
  Z t85 h_14

def sh_milestonelaw10_FloodSure_C6 (P : Program) (K : Value → Heap → Prop) (i10 : Value) (Z : Value → Heap → Prop) (t187 : Value) (h_18 : Heap) : Prop :=
  ifV t187
  (K (.bool false) h_18)
  (sh_milestonelaw10_FloodSure_k4 P i10 Z h_18)

def sh_milestonelaw10_FloodSure_C5 (P : Program) (K : Value → Heap → Prop) (g5 x8 t90 t78 i10 : Value) (Z : Value → Heap → Prop) (t149 : Value) (h_15 : Heap) : Prop :=
  ifV t149
  (K (.bool false) h_15)
  (pField 3 g5 fun t150 =>
  pLoad h_15 t150 fun t151 =>
  pField 1 x8 fun t152 =>
  pLoad h_15 t152 fun t153 =>
  pIdx 1 t153 t90 fun t155 =>
  pLoad h_15 t155 fun t156 =>
  pIdx 3 t151 t156 fun t157 =>
  pLoadN 3 h_15 t157 fun t158 =>
  pBox T_api_Arc (.agg #[(.int .i64 0), (.int .i64 0), (.int .i64 0)]) h_15 fun a12 h_16 =>
  pStore 3 a12 t158 h_16 fun u_3 h_17 =>
  cutP (σ := Vals [187]) (fun J_2 =>
  pField 1 a12 fun t159 =>
  pLoad h_17 t159 fun t160 =>
  pBin .neq t160 t90 fun t162 =>
  ifV t162
  (J_2 ((.bool true), ()) h_17)
  (pField 0 a12 fun t165 =>
  pLoad h_17 t165 fun t166 =>
  pIdx 1 t78 t166 fun t167 =>
  pLoad h_17 t167 fun t168 =>
  pBin .eql t168 (.int .i64 0) fun t169 =>
  ifV t169
  (J_2 ((.bool true), ()) h_17)
  (pField 0 x8 fun t172 =>
  pLoad h_17 t172 fun t173 =>
  pIdx 1 t173 t90 fun t175 =>
  pLoad h_17 t175 fun t176 =>
  pField 0 x8 fun t177 =>
  pLoad h_17 t177 fun t178 =>
  pField 0 a12 fun t179 =>
  pLoad h_17 t179 fun t180 =>
  pIdx 1 t178 t180 fun t181 =>
  pLoad h_17 t181 fun t182 =>
  pField 2 a12 fun t183 =>
  pLoad h_17 t183 fun t184 =>
  pBin .add t182 t184 fun t185 =>
  pBin .neq t176 t185 fun t186 =>
  J_2 (t186, ()) h_17)))
  (fun x hh => sh_milestonelaw10_FloodSure_C6 P K i10 Z x.1 hh))

def sh_milestonelaw10_FloodSure_C3 (P : Program) (K : Value → Heap → Prop) (i10 t78 t90 : Value) (Z : Value → Heap → Prop) (x8 g5 t125 : Value) (h_12 : Heap) : Prop :=
  ifV t125
  (K (.bool false) h_12)
  (pBin .add i10 (.int .i64 1) fun t129 =>
  pIdx 1 t78 t90 fun t130 =>
  pStore 1 t130 t129 h_12 fun u_2 h_13 =>
  pBin .eql i10 (.int .i64 0) fun t132 =>
  ifV t132
  (sh_milestonelaw10_FloodSure_k4 P i10 Z h_13)
  (cutP (σ := Vals [149]) (fun J_1 =>
  pField 1 x8 fun t133 =>
  pLoad h_13 t133 fun t134 =>
  pIdx 1 t134 t90 fun t136 =>
  pLoad h_13 t136 fun t137 =>
  pBin .lss t137 (.int .i64 0) fun t138 =>
  ifV t138
  (J_1 ((.bool true), ()) h_13)
  (pField 1 x8 fun t140 =>
  pLoad h_13 t140 fun t141 =>
  pIdx 1 t141 t90 fun t143 =>
  pLoad h_13 t143 fun t144 =>
  pField 3 g5 fun t145 =>
  pLoad h_13 t145 fun t146 =>
  pLen t146 fun t147 =>
  pBin .geq t144 t147 fun t148 =>
  J_1 (t148, ()) h_13))
  (fun x hh => sh_milestonelaw10_FloodSure_C5 P K g5 x8 t90 t78 i10 Z x.1 hh)))

def sh_milestonelaw10_FloodSure_k8 (P : Program) (K : Value → Heap → Prop) (h_20 : Heap) : Prop :=
  K (.bool false) h_20

def sh_milestonelaw10_FloodSure_k9 (P : Program) (v13 : Value) (Z_1 : Value → Heap → Prop) (h_21 : Heap) : Prop :=
  pBin .add v13 (.int .i64 1) fun t193 =>
  Z_1 t193 h_21

def sh_milestonelaw10_FloodSure_L10 (P : Program) (g5 x8 : Value) (K : Value → Heap → Prop) (i14 : Value) (h_22 : Heap) (Z_2 : Value → Heap → Prop) : Prop :=
  pField 3 g5 fun t216 =>
  pLoad h_22 t216 fun t217 =>
  pLen t217 fun t218 =>
  pBin .lss i14 t218 fun t219 =>
  ifV t219
  (pField 3 g5 fun t222 =>
  pLoad h_22 t222 fun t223 =>
  pIdx 3 t223 i14 fun t225 =>
  pLoadN 3 h_22 t225 fun t226 =>
  pBox T_api_Arc (.agg #[(.int .i64 0), (.int .i64 0), (.int .i64 0)]) h_22 fun a15 h_23 =>
  pStore 3 a15 t226 h_23 fun u_4 h_24 =>
  pField 0 x8 fun t227 =>
  pLoad h_24 t227 fun t228 =>
  pField 0 a15 fun t229 =>
  pLoad h_24 t229 fun t230 =>
  pIdx 1 t228 t230 fun t231 =>
  pLoad h_24 t231 fun t232 =>
  pField 2 a15 fun t233 =>
  pLoad h_24 t233 fun t234 =>
  pField 0 x8 fun t236 =>
  pLoad h_24 t236 fun t237 =>
  pField 1 a15 fun t238 =>
  pLoad h_24 t238 fun t239 =>
  pIdx 1 t237 t239 fun t240 =>
  pLoad h_24 t240 fun t241 =>
  callS P F_dist_Add [t232, t234] h_24 fun t235 h_25 =>
  (pLoad h_25 t236 fun t237_1 =>
  t237_1 = t237) ∧
  (pLoad h_25 t238 fun t239_1 =>
  t239_1 = t239) ∧
  (pLoad h_25 t240 fun t241_1 =>
  t241_1 = t241) ∧
  (pBin .lss t235 t241 fun t242 =>
  ifV t242
  (K (.bool false) h_25)
  (pBin .add i14 (.int .i64 1) fun t221 =>
  Z_2 t221 h_25)))
  (K (.bool true) h_22)

def sh_milestonelaw10_FloodSure_L7 (P : Program) (g5 t78 x8 : Value) (K : Value → Heap → Prop) (v13 : Value) (h_19 : Heap) (Z_1 : Value → Heap → Prop) : Prop :=
  pField 0 g5 fun t189 =>
  pLoad h_19 t189 fun t190 =>
  pBin .lss v13 t190 fun t191 =>
  ifV t191
  (pIdx 1 t78 v13 fun t196 =>
  pLoad h_19 t196 fun t197 =>
  pBin .eql t197 (.int .i64 0) fun t198 =>
  ifV t198
  (pField 0 x8 fun t200 =>
  pLoad h_19 t200 fun t201 =>
  pIdx 1 t201 v13 fun t203 =>
  pLoad h_19 t203 fun t204 =>
  pBin .neq t204 (.int .i64 72057594037927936) fun t205 =>
  ifV t205
  (sh_milestonelaw10_FloodSure_k8 P K h_19)
  (pField 1 x8 fun t207 =>
  pLoad h_19 t207 fun t208 =>
  pIdx 1 t208 v13 fun t210 =>
  pLoad h_19 t210 fun t211 =>
  pBin .neq t211 (.int .i64 (-1)) fun t212 =>
  ifV t212
  (sh_milestonelaw10_FloodSure_k8 P K h_19)
  (sh_milestonelaw10_FloodSure_k9 P v13 Z_1 h_19)))
  (sh_milestonelaw10_FloodSure_k9 P v13 Z_1 h_19))
  (LoopH (σ := Vals [14]) (fun x hh ZZ => sh_milestonelaw10_FloodSure_L10 P g5 x8 K x.1 hh (fun a0 hz => ZZ (a0, ()) hz)) ((.int .i64 0), ()) h_19)

def sh_milestonelaw10_FloodSure_L2 (P : Program) (x8 t78 : Value) (K : Value → Heap → Prop) (g5 i10 : Value) (h_11 : Heap) (Z : Value → Heap → Prop) : Prop :=
  pField 2 x8 fun t80 =>
  pLoad h_11 t80 fun t81 =>
  pLen t81 fun t82 =>
  pBin .lss i10 t82 fun t83 =>
  ifV t83
  (pField 2 x8 fun t86 =>
  pLoad h_11 t86 fun t87 =>
  pIdx 1 t87 i10 fun t89 =>
  pLoad h_11 t89 fun t90 =>
  cutP (σ := Vals [125]) (fun J =>
  pIdx 1 t78 t90 fun t93 =>
  pLoad h_11 t93 fun t94 =>
  pBin .gtr t94 (.int .i64 0) fun t95 =>
  ifV t95
  (J ((.bool true), ()) h_11)
  (pBin .gtr i10 (.int .i64 0) fun t98 =>
  ifV t98
  (pField 0 x8 fun t100 =>
  pLoad h_11 t100 fun t101 =>
  pIdx 1 t101 t90 fun t103 =>
  pLoad h_11 t103 fun t104 =>
  pField 0 x8 fun t105 =>
  pLoad h_11 t105 fun t106 =>
  pField 2 x8 fun t107 =>
  pLoad h_11 t107 fun t108 =>
  pBin .sub i10 (.int .i64 1) fun t110 =>
  pIdx 1 t108 t110 fun t111 =>
  pLoad h_11 t111 fun t112 =>
  pIdx 1 t106 t112 fun t113 =>
  pLoad h_11 t113 fun t114 =>
  pBin .lss t104 t114 fun t115 =>
  ifV t115
  (J ((.bool true), ()) h_11)
  (pField 0 x8 fun t119 =>
  pLoad h_11 t119 fun t120 =>
  pIdx 1 t120 t90 fun t122 =>
  pLoad h_11 t122 fun t123 =>
  pBin .geq t123 (.int .i64 36028797018963968) fun t124 =>
  J (t124, ()) h_11))
  (pField 0 x8 fun t119_1 =>
  pLoad h_11 t119_1 fun t120_1 =>
  pIdx 1 t120_1 t90 fun t122_1 =>
  pLoad h_11 t122_1 fun t123_1 =>
  pBin .geq t123_1 (.int .i64 36028797018963968) fun t124_1 =>
  J (t124_1, ()) h_11)))
  (fun x hh => sh_milestonelaw10_FloodSure_C3 P K i10 t78 t90 Z x8 g5 x.1 hh))
  (LoopH (σ := Vals [13]) (fun x hh ZZ => sh_milestonelaw10_FloodSure_L7 P g5 t78 x8 K x.1 hh (fun a0 hz => ZZ (a0, ()) hz)) ((.int .i64 0), ()) h_11)

def sh_milestonelaw10_FloodSure (P : Program) (b0 s1 : Value) (h : Heap) (K : Value → Heap → Prop) : Prop :=
  callS P F_milestonelaw10_works [] h fun t16 h_1 =>
  pUn .not t16 fun t17 =>
  ifV t17
  (K (.bool false) h_1)
  (callS P F_milestonelaw10_drawn [b0] h_1 fun t19 h_2 =>
  pBox T_api_Raw (.agg #[(.int .i64 0), (.slice none 0 0), (.slice none 0 0), (.slice none 0 0)]) h_2 fun g5 h_3 =>
  pStore 4 g5 t19 h_3 fun u h_4 =>
  pLoadN 4 h_4 g5 fun t20 =>
  callS P F_milestonelaw10_made [t20] h_4 fun t21 h_5 =>
  pEq false .ptr t21 (.pointer none) fun t23 =>
  ifV t23
  (K (.bool false) h_5)
  (pConv .i64 s1 fun t25 =>
  pField 0 g5 fun t26 =>
  pLoad h_5 t26 fun t27 =>
  pBin .rem t25 t27 fun t28 =>
  callS P F_flood_From [t21, t28] h_5 fun t31 h_6 =>
  pBox T_flood_Tree (.agg #[(.slice none 0 0), (.slice none 0 0), (.slice none 0 0)]) h_6 fun x8 h_7 =>
  pStore 3 x8 t31 h_7 fun u_1 h_8 =>
  pField 0 x8 fun t32 =>
  pLoad h_8 t32 fun t33 =>
  pLen t33 fun t34 =>
  pField 0 g5 fun t35 =>
  pLoad h_8 t35 fun t36 =>
  pBin .neq t34 t36 fun t37 =>
  ifV t37
  (sh_milestonelaw10_FloodSure_k1 P K h_8)
  (pField 1 x8 fun t39 =>
  pLoad h_8 t39 fun t40 =>
  pLen t40 fun t41 =>
  pField 0 g5 fun t42 =>
  pLoad h_8 t42 fun t43 =>
  pBin .neq t41 t43 fun t44 =>
  ifV t44
  (sh_milestonelaw10_FloodSure_k1 P K h_8)
  (pField 2 x8 fun t47 =>
  pLoad h_8 t47 fun t48 =>
  pLen t48 fun t49 =>
  pBin .eql t49 (.int .i64 0) fun t50 =>
  ifV t50
  (sh_milestonelaw10_FloodSure_k1 P K h_8)
  (pField 2 x8 fun t53 =>
  pLoad h_8 t53 fun t54 =>
  pIdx 1 t54 (.int .i64 0) fun t55 =>
  pLoad h_8 t55 fun t56 =>
  pBin .neq t56 t28 fun t58 =>
  ifV t58
  (sh_milestonelaw10_FloodSure_k1 P K h_8)
  (pField 0 x8 fun t61 =>
  pLoad h_8 t61 fun t62 =>
  pIdx 1 t62 t28 fun t64 =>
  pLoad h_8 t64 fun t65 =>
  pBin .neq t65 (.int .i64 0) fun t66 =>
  ifV t66
  (sh_milestonelaw10_FloodSure_k1 P K h_8)
  (pField 1 x8 fun t69 =>
  pLoad h_8 t69 fun t70 =>
  pIdx 1 t70 t28 fun t72 =>
  pLoad h_8 t72 fun t73 =>
  pBin .neq t73 (.int .i64 (-1)) fun t74 =>
  ifV t74
  (sh_milestonelaw10_FloodSure_k1 P K h_8)
  (pField 0 g5 fun t76 =>
  pLoad h_8 t76 fun t77 =>
  pMakeSlice T_int 8 [(.int .i64 0)] t77 t77 h_8 fun t78 h_10 =>
  LoopH (σ := Vals [10]) (fun x hh ZZ => sh_milestonelaw10_FloodSure_L2 P x8 t78 K g5 x.1 hh (fun a0 hz => ZZ (a0, ()) hz)) ((.int .i64 0), ()) h_10))))))))

set_option maxRecDepth 100000 in
theorem lk_milestonelaw10_FloodSure (b0 s1 : Value) {h : Heap} {K : Value → Heap → Prop} (H : sh_milestonelaw10_FloodSure Tryz.prog b0 s1 h K) : CallsH Tryz.prog F_milestonelaw10_FloodSure [b0, s1].toArray h K :=
  callsH_of (ann := (annG (Tryz.f5.body.getD .skip) 0 [(17, [10]), (23, [125]), (29, [149]), (32, [187]), (36, [13]), (44, [14])]).1) (c := Tryz.f5.body.getD .skip) Tryz.func5 (by kernel_rfl) (by kernel_rfl) (by kernel_rfl) (of_decide_eq_true (by kernel_rfl))
    (Eq.mpr (by kernel_rfl) H)

/-! milestone/milestonelaw10.FloodTurned -/

def sh_milestonelaw10_FloodTurned_k1 (P : Program) (K : Value → Heap → Prop) (h_8 : Heap) : Prop :=
  K (.bool false) h_8

def sh_milestonelaw10_FloodTurned (P : Program) (b0 t1 : Value) (h : Heap) (K : Value → Heap → Prop) : Prop :=
  callS P F_milestonelaw10_works [] h fun t13 h_1 =>
  pUn .not t13 fun t14 =>
  ifV t14
  (K (.bool false) h_1)
  (callS P F_milestonelaw10_drawn [b0] h_1 fun t16 h_2 =>
  pBox T_api_Raw (.agg #[(.int .i64 0), (.slice none 0 0), (.slice none 0 0), (.slice none 0 0)]) h_2 fun g5 h_3 =>
  pStore 4 g5 t16 h_3 fun u h_4 =>
  pLoadN 4 h_4 g5 fun t17 =>
  pLoadN 4 h_4 g5 fun t19 =>
  callS P F_milestonelaw10_made [t17] h_4 fun t18 h_5 =>
  (pLoadN 4 h_5 g5 fun t19_1 =>
  t19_1 = t19) ∧
  (callS P F_graph_Turned [t19] h_5 fun t20 h_6 =>
  callS P F_milestonelaw10_made [t20] h_6 fun t21 h_7 =>
  pEq false .ptr t18 (.pointer none) fun t23 =>
  ifV t23
  (sh_milestonelaw10_FloodTurned_k1 P K h_7)
  (pEq false .ptr t21 (.pointer none) fun t26 =>
  ifV t26
  (sh_milestonelaw10_FloodTurned_k1 P K h_7)
  (pConv .i64 t1 fun t29 =>
  pField 0 g5 fun t30 =>
  pLoad h_7 t30 fun t31 =>
  pBin .rem t29 t31 fun t32 =>
  callS P F_flood_To [t18, t32] h_7 fun t35 h_9 =>
  callS P F_flood_From [t21, t32] h_9 fun t38 h_10 =>
  pBox T_flood_Tree (.agg #[(.slice none 0 0), (.slice none 0 0), (.slice none 0 0)]) h_10 fun x9 h_11 =>
  pBox T_flood_Tree (.agg #[(.slice none 0 0), (.slice none 0 0), (.slice none 0 0)]) h_11 fun y10 h_12 =>
  pStore 3 x9 t35 h_12 fun u_1 h_13 =>
  pStore 3 y10 t38 h_13 fun u_2 h_14 =>
  callS P F_flood_From [t18, t32] h_14 fun t41 h_15 =>
  callS P F_flood_To [t21, t32] h_15 fun t44 h_16 =>
  pBox T_flood_Tree (.agg #[(.slice none 0 0), (.slice none 0 0), (.slice none 0 0)]) h_16 fun z11 h_17 =>
  pBox T_flood_Tree (.agg #[(.slice none 0 0), (.slice none 0 0), (.slice none 0 0)]) h_17 fun w12 h_18 =>
  pStore 3 z11 t41 h_18 fun u_3 h_19 =>
  pStore 3 w12 t44 h_19 fun u_4 h_20 =>
  pLoadN 3 h_20 x9 fun t45 =>
  pField 0 y10 fun t46 =>
  pLoad h_20 t46 fun t47 =>
  pField 1 y10 fun t48 =>
  pLoad h_20 t48 fun t49 =>
  pField 2 y10 fun t50 =>
  pLoad h_20 t50 fun t51 =>
  callS P F_milestonelaw10_is [t45, t47, t49, t51] h_20 fun t52 h_21 =>
  ifV t52
  (pLoadN 3 h_21 z11 fun t54 =>
  pField 0 w12 fun t55 =>
  pLoad h_21 t55 fun t56 =>
  pField 1 w12 fun t57 =>
  pLoad h_21 t57 fun t58 =>
  pField 2 w12 fun t59 =>
  pLoad h_21 t59 fun t60 =>
  callS P F_milestonelaw10_is [t54, t56, t58, t60] h_21 fun t61 h_22 =>
  K t61 h_22)
  (K (.bool false) h_21)))))

set_option maxRecDepth 100000 in
theorem lk_milestonelaw10_FloodTurned (b0 t1 : Value) {h : Heap} {K : Value → Heap → Prop} (H : sh_milestonelaw10_FloodTurned Tryz.prog b0 t1 h K) : CallsH Tryz.prog F_milestonelaw10_FloodTurned [b0, t1].toArray h K :=
  callsH_of (ann := (annG (Tryz.f6.body.getD .skip) 0 []).1) (c := Tryz.f6.body.getD .skip) Tryz.func6 (by kernel_rfl) (by kernel_rfl) (by kernel_rfl) (of_decide_eq_true (by kernel_rfl))
    (Eq.mpr (by kernel_rfl) H)

/-! milestone/milestonelaw10.FloodMoves -/

def sh_milestonelaw10_FloodMoves_k3 (P : Program) (times10 i12 : Value) (Z : Value → Value → Heap → Prop) (small11_1 : Value) (h_29 : Heap) : Prop :=
  pField 3 times10 fun t80 =>
  pLoad h_29 t80 fun t81 =>
  pField 3 times10 fun t83 =>
  pLoad h_29 t83 fun t84 =>
  pIdx 3 t84 i12 fun t86 =>
  pField 2 t86 fun t87 =>
  pLoad h_29 t87 fun t88 =>
  pBin .rem t88 (.int .i64 268435456) fun t89 =>
  pBin .mul t89 (.int .i64 7) fun t90 =>
  pIdx 3 t81 i12 fun t91 =>
  pField 2 t91 fun t92 =>
  pStore 1 t92 t90 h_29 fun u_7 h_30 =>
  pBin .add i12 (.int .i64 1) fun t69 =>
  Z small11_1 t69 h_30

def sh_milestonelaw10_FloodMoves_k4 (P : Program) (K : Value → Heap → Prop) (h_36 : Heap) : Prop :=
  K (.bool false) h_36

def sh_milestonelaw10_FloodMoves_k5 (P : Program) (K : Value → Heap → Prop) (h_50 : Heap) : Prop :=
  K (.bool false) h_50

def sh_milestonelaw10_FloodMoves_C8 (P : Program) (K : Value → Heap → Prop) (i21 : Value) (Z_1 : Value → Heap → Prop) (t240 : Value) (h_54 : Heap) : Prop :=
  ifV t240
  (K (.bool false) h_54)
  (pBin .add i21 (.int .i64 1) fun t170 =>
  Z_1 t170 h_54)

def sh_milestonelaw10_FloodMoves_C7 (P : Program) (K : Value → Heap → Prop) (small11 z19 i21 x17 : Value) (Z_1 : Value → Heap → Prop) (t199 : Value) (h_53 : Heap) : Prop :=
  ifV t199
  (K (.bool false) h_53)
  (cutP (σ := Vals [240]) (fun J_2 =>
  ifV small11
  (pField 0 z19 fun t202 =>
  pLoad h_53 t202 fun t203 =>
  pIdx 1 t203 i21 fun t205 =>
  pLoad h_53 t205 fun t206 =>
  pBin .eql t206 (.int .i64 72057594037927936) fun t207 =>
  pField 0 x17 fun t208 =>
  pLoad h_53 t208 fun t209 =>
  pIdx 1 t209 i21 fun t211 =>
  pLoad h_53 t211 fun t212 =>
  pBin .eql t212 (.int .i64 72057594037927936) fun t213 =>
  pEq true .bool t207 t213 fun t214 =>
  ifV t214
  (J_2 ((.bool true), ()) h_53)
  (ifV small11
  (pField 0 x17 fun t219 =>
  pLoad h_53 t219 fun t220 =>
  pIdx 1 t220 i21 fun t222 =>
  pLoad h_53 t222 fun t223 =>
  pBin .lss t223 (.int .i64 72057594037927936) fun t224 =>
  ifV t224
  (pField 0 z19 fun t227 =>
  pLoad h_53 t227 fun t228 =>
  pIdx 1 t228 i21 fun t230 =>
  pLoad h_53 t230 fun t231 =>
  pField 0 x17 fun t232 =>
  pLoad h_53 t232 fun t233 =>
  pIdx 1 t233 i21 fun t235 =>
  pLoad h_53 t235 fun t236 =>
  pBin .mul (.int .i64 7) t236 fun t237 =>
  pBin .neq t231 t237 fun t238 =>
  J_2 (t238, ()) h_53)
  (J_2 ((.bool false), ()) h_53))
  (J_2 ((.bool false), ()) h_53)))
  (ifV small11
  (pField 0 x17 fun t219_1 =>
  pLoad h_53 t219_1 fun t220_1 =>
  pIdx 1 t220_1 i21 fun t222_1 =>
  pLoad h_53 t222_1 fun t223_1 =>
  pBin .lss t223_1 (.int .i64 72057594037927936) fun t224_1 =>
  ifV t224_1
  (pField 0 z19 fun t227_1 =>
  pLoad h_53 t227_1 fun t228_1 =>
  pIdx 1 t228_1 i21 fun t230_1 =>
  pLoad h_53 t230_1 fun t231_1 =>
  pField 0 x17 fun t232_1 =>
  pLoad h_53 t232_1 fun t233_1 =>
  pIdx 1 t233_1 i21 fun t235_1 =>
  pLoad h_53 t235_1 fun t236_1 =>
  pBin .mul (.int .i64 7) t236_1 fun t237_1 =>
  pBin .neq t231_1 t237_1 fun t238_1 =>
  J_2 (t238_1, ()) h_53)
  (J_2 ((.bool false), ()) h_53))
  (J_2 ((.bool false), ()) h_53)))
  (fun x hh => sh_milestonelaw10_FloodMoves_C8 P K i21 Z_1 x.1 hh))

def sh_milestonelaw10_FloodMoves_L6 (P : Program) (g7 y18 x17 w20 by2 : Value) (K : Value → Heap → Prop) (small11 z19 i21 : Value) (h_51 : Heap) (Z_1 : Value → Heap → Prop) : Prop :=
  pField 0 g7 fun t166 =>
  pLoad h_51 t166 fun t167 =>
  pBin .lss i21 t167 fun t168 =>
  ifV t168
  (cutP (σ := Vals [199]) (fun J_1 =>
  pField 0 y18 fun t171 =>
  pLoad h_51 t171 fun t172 =>
  pIdx 1 t172 i21 fun t174 =>
  pLoad h_51 t174 fun t175 =>
  pField 0 x17 fun t176 =>
  pLoad h_51 t176 fun t177 =>
  pIdx 1 t177 i21 fun t179 =>
  pLoad h_51 t179 fun t180 =>
  pBin .gtr t175 t180 fun t181 =>
  ifV t181
  (J_1 ((.bool true), ()) h_51)
  (pField 0 w20 fun t183 =>
  pLoad h_51 t183 fun t184 =>
  pConv .i64 by2 fun t187 =>
  pField 0 g7 fun t188 =>
  pLoad h_51 t188 fun t189 =>
  pField 0 x17 fun t193 =>
  pLoad h_51 t193 fun t194 =>
  pIdx 1 t194 i21 fun t196 =>
  pLoad h_51 t196 fun t197 =>
  callS P F_milestonelaw10_moved [i21, t187, t189] h_51 fun t190 h_52 =>
  (pLoad h_52 t183 fun t184_1 =>
  t184_1 = t184) ∧
  (pLoad h_52 t193 fun t194_1 =>
  t194_1 = t194) ∧
  (pLoad h_52 t196 fun t197_1 =>
  t197_1 = t197) ∧
  (pIdx 1 t184 t190 fun t191 =>
  pLoad h_52 t191 fun t192 =>
  pBin .neq t192 t197 fun t198 =>
  J_1 (t198, ()) h_52)))
  (fun x hh => sh_milestonelaw10_FloodMoves_C7 P K small11 z19 i21 x17 Z_1 x.1 hh))
  (K (.bool true) h_51)

def sh_milestonelaw10_FloodMoves_L2 (P : Program) (times10 g7 far9 by2 : Value) (K : Value → Heap → Prop) (t31 small11 i12 : Value) (h_28 : Heap) (Z : Value → Value → Heap → Prop) : Prop :=
  pField 3 times10 fun t64 =>
  pLoad h_28 t64 fun t65 =>
  pLen t65 fun t66 =>
  pBin .lss i12 t66 fun t67 =>
  ifV t67
  (ifV small11
  (pField 3 times10 fun t72 =>
  pLoad h_28 t72 fun t73 =>
  pIdx 3 t73 i12 fun t75 =>
  pField 2 t75 fun t76 =>
  pLoad h_28 t76 fun t77 =>
  pBin .lss t77 (.int .i64 268435456) fun t78 =>
  sh_milestonelaw10_FloodMoves_k3 P times10 i12 Z t78 h_28)
  (sh_milestonelaw10_FloodMoves_k3 P times10 i12 Z (.bool false) h_28))
  (pLoadN 4 h_28 g7 fun t93 =>
  pLoadN 4 h_28 far9 fun t95 =>
  pLoadN 4 h_28 times10 fun t97 =>
  pLoadN 4 h_28 g7 fun t99 =>
  pConv .i64 by2 fun t101 =>
  callS P F_milestonelaw10_made [t93] h_28 fun t94 h_31 =>
  (pLoadN 4 h_31 far9 fun t95_1 =>
  t95_1 = t95) ∧
  (pLoadN 4 h_31 times10 fun t97_1 =>
  t97_1 = t97) ∧
  (pLoadN 4 h_31 g7 fun t99_1 =>
  t99_1 = t99) ∧
  (callS P F_milestonelaw10_made [t95] h_31 fun t96 h_32 =>
  (pLoadN 4 h_32 times10 fun t97_2 =>
  t97_2 = t97) ∧
  (pLoadN 4 h_32 g7 fun t99_2 =>
  t99_2 = t99) ∧
  (callS P F_milestonelaw10_made [t97] h_32 fun t98 h_33 =>
  (pLoadN 4 h_33 g7 fun t99_3 =>
  t99_3 = t99) ∧
  (callS P F_graph_Moved [t99, t101] h_33 fun t102 h_34 =>
  callS P F_milestonelaw10_made [t102] h_34 fun t103 h_35 =>
  pEq false .ptr t94 (.pointer none) fun t105 =>
  ifV t105
  (sh_milestonelaw10_FloodMoves_k4 P K h_35)
  (pEq false .ptr t96 (.pointer none) fun t108 =>
  ifV t108
  (sh_milestonelaw10_FloodMoves_k4 P K h_35)
  (pEq false .ptr t98 (.pointer none) fun t112 =>
  ifV t112
  (sh_milestonelaw10_FloodMoves_k4 P K h_35)
  (pEq false .ptr t103 (.pointer none) fun t116 =>
  ifV t116
  (sh_milestonelaw10_FloodMoves_k4 P K h_35)
  (callS P F_flood_From [t94, t31] h_35 fun t120 h_37 =>
  callS P F_flood_From [t96, t31] h_37 fun t123 h_38 =>
  callS P F_flood_From [t98, t31] h_38 fun t126 h_39 =>
  pBox T_flood_Tree (.agg #[(.slice none 0 0), (.slice none 0 0), (.slice none 0 0)]) h_39 fun x17 h_40 =>
  pBox T_flood_Tree (.agg #[(.slice none 0 0), (.slice none 0 0), (.slice none 0 0)]) h_40 fun y18 h_41 =>
  pBox T_flood_Tree (.agg #[(.slice none 0 0), (.slice none 0 0), (.slice none 0 0)]) h_41 fun z19 h_42 =>
  pStore 3 x17 t120 h_42 fun u_8 h_43 =>
  pStore 3 y18 t123 h_43 fun u_9 h_44 =>
  pStore 3 z19 t126 h_44 fun u_10 h_45 =>
  pConv .i64 by2 fun t130 =>
  pField 0 g7 fun t131 =>
  pLoad h_45 t131 fun t132 =>
  callS P F_milestonelaw10_moved [t31, t130, t132] h_45 fun t133 h_46 =>
  callS P F_flood_From [t103, t133] h_46 fun t134 h_47 =>
  pBox T_flood_Tree (.agg #[(.slice none 0 0), (.slice none 0 0), (.slice none 0 0)]) h_47 fun w20 h_48 =>
  pStore 3 w20 t134 h_48 fun u_11 h_49 =>
  pField 0 x17 fun t135 =>
  pLoad h_49 t135 fun t136 =>
  pLen t136 fun t137 =>
  pField 0 g7 fun t138 =>
  pLoad h_49 t138 fun t139 =>
  pBin .neq t137 t139 fun t140 =>
  ifV t140
  (sh_milestonelaw10_FloodMoves_k5 P K h_49)
  (pField 0 y18 fun t142 =>
  pLoad h_49 t142 fun t143 =>
  pLen t143 fun t144 =>
  pField 0 g7 fun t145 =>
  pLoad h_49 t145 fun t146 =>
  pBin .neq t144 t146 fun t147 =>
  ifV t147
  (sh_milestonelaw10_FloodMoves_k5 P K h_49)
  (pField 0 z19 fun t150 =>
  pLoad h_49 t150 fun t151 =>
  pLen t151 fun t152 =>
  pField 0 g7 fun t153 =>
  pLoad h_49 t153 fun t154 =>
  pBin .neq t152 t154 fun t155 =>
  ifV t155
  (sh_milestonelaw10_FloodMoves_k5 P K h_49)
  (pField 0 w20 fun t158 =>
  pLoad h_49 t158 fun t159 =>
  pLen t159 fun t160 =>
  pField 0 g7 fun t161 =>
  pLoad h_49 t161 fun t162 =>
  pBin .neq t160 t162 fun t163 =>
  ifV t163
  (sh_milestonelaw10_FloodMoves_k5 P K h_49)
  (LoopH (σ := Vals [21]) (fun x hh ZZ => sh_milestonelaw10_FloodMoves_L6 P g7 y18 x17 w20 by2 K small11 z19 x.1 hh (fun a0 hz => ZZ (a0, ()) hz)) ((.int .i64 0), ()) h_49))))))))))))

def sh_milestonelaw10_FloodMoves_C1 (P : Program) (g7 far9 by2 : Value) (K : Value → Heap → Prop) (t31 : Value) (h_22 : Heap) : Prop :=
  pLoadN 4 h_22 g7 fun t57 =>
  pBox T_api_Raw (.agg #[(.int .i64 0), (.slice none 0 0), (.slice none 0 0), (.slice none 0 0)]) h_22 fun times10 h_23 =>
  pStore 4 times10 t57 h_23 fun u_5 h_24 =>
  pBuildSlice T_api_Arc (zerosL [(.int .i64 0), (.int .i64 0), (.int .i64 0)] 0) [] 0 h_24 fun t58 h_25 =>
  pField 3 g7 fun t59 =>
  pLoad h_25 t59 fun t60 =>
  pAppend T_api_Arc 3 24 [(.int .i64 0), (.int .i64 0), (.int .i64 0)] t58 t60 h_25 fun t61 h_26 =>
  pField 3 times10 fun t62 =>
  pStore 1 t62 t61 h_26 fun u_6 h_27 =>
  LoopH (σ := Vals [11, 12]) (fun x hh ZZ => sh_milestonelaw10_FloodMoves_L2 P times10 g7 far9 by2 K t31 x.1 x.2.1 hh (fun a0 a1 hz => ZZ (a0, (a1, ())) hz)) ((.bool true), ((.int .i64 0), ())) h_27

def sh_milestonelaw10_FloodMoves (P : Program) (b0 more1 by2 : Value) (h : Heap) (K : Value → Heap → Prop) : Prop :=
  pBox T_3_uint8 more1 h fun more4 h_1 =>
  callS P F_milestonelaw10_works [] h_1 fun t22 h_2 =>
  pUn .not t22 fun t23 =>
  ifV t23
  (K (.bool false) h_2)
  (callS P F_milestonelaw10_drawn [b0] h_2 fun t25 h_3 =>
  pBox T_api_Raw (.agg #[(.int .i64 0), (.slice none 0 0), (.slice none 0 0), (.slice none 0 0)]) h_3 fun g7 h_4 =>
  pStore 4 g7 t25 h_4 fun u h_5 =>
  pIdxA 1 3 more4 (.int .i64 0) fun t26 =>
  pLoad h_5 t26 fun t27 =>
  pConv .i64 t27 fun t28 =>
  pField 0 g7 fun t29 =>
  pLoad h_5 t29 fun t30 =>
  pBin .rem t28 t30 fun t31 =>
  pLoadN 4 h_5 g7 fun t32 =>
  pBox T_api_Raw (.agg #[(.int .i64 0), (.slice none 0 0), (.slice none 0 0), (.slice none 0 0)]) h_5 fun far9 h_6 =>
  pStore 4 far9 t32 h_6 fun u_1 h_7 =>
  cutP (σ := Vals []) (fun J =>
  pField 3 g7 fun t34 =>
  pLoad h_7 t34 fun t35 =>
  pIdxA 1 3 more4 (.int .i64 1) fun t37 =>
  pLoad h_7 t37 fun t38 =>
  pConv .i64 t38 fun t39 =>
  pField 0 g7 fun t40 =>
  pLoad h_7 t40 fun t41 =>
  pBin .rem t39 t41 fun t42 =>
  pIdxA 1 3 more4 (.int .i64 2) fun t43 =>
  pLoad h_7 t43 fun t44 =>
  pConv .i64 t44 fun t45 =>
  pField 0 g7 fun t46 =>
  pLoad h_7 t46 fun t47 =>
  pBin .rem t45 t47 fun t48 =>
  pIdxA 1 3 more4 (.int .i64 0) fun t49 =>
  pLoad h_7 t49 fun t50 =>
  pBin .quo t50 (.int .u8 32) fun t51 =>
  pConv .i64 t51 fun t52 =>
  pBuild [(.int .i64 0), (.int .i64 0), (.int .i64 0)] [(0, 1, t42), (1, 1, t48), (2, 1, t52)] fun t53 =>
  (pBuildSlice T_api_Arc (zerosL [(.int .i64 0), (.int .i64 0), (.int .i64 0)] 0) [] 0 h_7 fun t33 h_8 =>
  (pAppend T_api_Arc 3 24 [(.int .i64 0), (.int .i64 0), (.int .i64 0)] t33 t35 h_8 fun t36 h_9 =>
  (pLoad h_9 t37 fun t38_1 =>
  t38_1 = t38) ∧
  (pLoad h_9 t40 fun t41_1 =>
  t41_1 = t41) ∧
  (pLoad h_9 t43 fun t44_1 =>
  t44_1 = t44) ∧
  (pLoad h_9 t46 fun t47_1 =>
  t47_1 = t47) ∧
  (pLoad h_9 t49 fun t50_1 =>
  t50_1 = t50) ∧
  (pBuildSlice T_api_Arc (zerosL [(.int .i64 0), (.int .i64 0), (.int .i64 0)] 1) [(0, 3, t53)] 1 h_9 fun t54 h_10 =>
  pAppend T_api_Arc 3 24 [(.int .i64 0), (.int .i64 0), (.int .i64 0)] t36 t54 h_10 fun t55 h_11 =>
  pField 3 far9 fun t56 =>
  pStore 1 t56 t55 h_11 fun u_2 h_12 =>
  J () h_12)) ∧
  (pBuildSlice T_api_Arc (zerosL [(.int .i64 0), (.int .i64 0), (.int .i64 0)] 1) [(0, 3, t53)] 1 h_8 fun t54_1 h_13 =>
  pAppend T_api_Arc 3 24 [(.int .i64 0), (.int .i64 0), (.int .i64 0)] t33 t35 h_13 fun t36_1 h_14 =>
  pAppend T_api_Arc 3 24 [(.int .i64 0), (.int .i64 0), (.int .i64 0)] t36_1 t54_1 h_14 fun t55_1 h_15 =>
  pField 3 far9 fun t56_1 =>
  pStore 1 t56_1 t55_1 h_15 fun u_3 h_16 =>
  J () h_16)) ∧
  (pBuildSlice T_api_Arc (zerosL [(.int .i64 0), (.int .i64 0), (.int .i64 0)] 1) [(0, 3, t53)] 1 h_7 fun t54_2 h_17 =>
  pBuildSlice T_api_Arc (zerosL [(.int .i64 0), (.int .i64 0), (.int .i64 0)] 0) [] 0 h_17 fun t33_1 h_18 =>
  pAppend T_api_Arc 3 24 [(.int .i64 0), (.int .i64 0), (.int .i64 0)] t33_1 t35 h_18 fun t36_2 h_19 =>
  pAppend T_api_Arc 3 24 [(.int .i64 0), (.int .i64 0), (.int .i64 0)] t36_2 t54_2 h_19 fun t55_2 h_20 =>
  pField 3 far9 fun t56_2 =>
  pStore 1 t56_2 t55_2 h_20 fun u_4 h_21 =>
  J () h_21))
  (fun x hh => sh_milestonelaw10_FloodMoves_C1 P g7 far9 by2 K t31 hh))

set_option maxRecDepth 100000 in
theorem lk_milestonelaw10_FloodMoves (b0 more1 by2 : Value) {h : Heap} {K : Value → Heap → Prop} (H : sh_milestonelaw10_FloodMoves Tryz.prog b0 more1 by2 h K) : CallsH Tryz.prog F_milestonelaw10_FloodMoves [b0, more1, by2].toArray h K :=
  callsH_of (ann := (annG (Tryz.f7.body.getD .skip) 0 [(7, []), (13, [11, 12]), (29, [21]), (34, [199]), (36, [240])]).1) (c := Tryz.f7.body.getD .skip) Tryz.func7 (by kernel_rfl) (by kernel_rfl) (by kernel_rfl) (of_decide_eq_true (by kernel_rfl))
    (Eq.mpr (by kernel_rfl) H)

end Go.Proofs.YtebjceofpaamjaaGreatDoor

namespace Go.Proofs.YtebjceofpaamjaaGreatDoor
open Go Go.Mh
set_option maxHeartbeats 0
set_option linter.unusedVariables false

/-! milestone/milestonelaw10.drawn -/

def sh_milestonelaw10_drawn (P : Program) (b0 : Value) (h : Heap) (K : Value → Heap → Prop) : Prop :=
  pBox T_api_Raw (.agg #[(.int .i64 0), (.slice none 0 0), (.slice none 0 0), (.slice none 0 0)]) h fun t2 h_1 =>
  pLen b0 fun t6 =>
  pMin t6 (.int .i64 80) fun t7 =>
  pSlice 1 b0 none (some t7) none fun t8 =>
  pBuild [(.slice none 0 0), (.int .i64 0)] [(0, 1, t8)] fun t9 =>
  pBox T_milestoneref07_Draft t9 h_1 fun t10 h_2 =>
  callS P F_milestoneref07_Draft_Raw [t10] h_2 fun t12 h_3 =>
  pStore 4 t2 t12 h_3 fun u h_4 =>
  pLoadN 4 h_4 t2 fun res =>
  K res h_4

set_option maxRecDepth 100000 in
theorem lk_milestonelaw10_drawn (b0 : Value) {h : Heap} {K : Value → Heap → Prop} (H : sh_milestonelaw10_drawn Tryz.prog b0 h K) : CallsH Tryz.prog F_milestonelaw10_drawn [b0].toArray h K :=
  callsH_of (ann := (annG (Tryz.f8.body.getD .skip) 0 []).1) (c := Tryz.f8.body.getD .skip) Tryz.func8 (by kernel_rfl) (by kernel_rfl) (by kernel_rfl) (of_decide_eq_true (by kernel_rfl))
    (Eq.mpr (by kernel_rfl) H)

/-! milestone/net.New -/

def sh_net_New (P : Program) (raw0 : Value) (h : Heap) (K : Value → Heap → Prop) : Prop :=
  pBox T_api_Raw raw0 h fun raw1 h_1 =>
  pLoadN 4 h_1 raw1 fun t6 =>
  callS P F_graph_Check [t6] h_1 fun t7 h_2 =>
  pEq true .iface t7 .nilIface fun t9 =>
  ifV t9
  (callS P F_api_Told [t7] h_2 fun t11 h_3 =>
  pBox T_api_Fault (.agg #[(.int .i64 0), (.int .i64 0), (.int .i64 0), (.int .i64 0)]) h_3 fun f5 h_4 =>
  pStore 4 f5 t11 h_4 fun u h_5 =>
  pBuild [(.pointer none)] [(0, 1, f5)] fun t12 =>
  K (.tuple #[(.pointer none), (.iface T_net_trouble t12)]) h_5)
  (pLoadN 4 h_2 raw1 fun t14 =>
  callS P F_net_own [t14] h_2 fun t15 h_6 =>
  callS P F_net_of [t15] h_6 fun t16 h_7 =>
  K (.tuple #[t16, .nilIface]) h_7)

set_option maxRecDepth 100000 in
theorem lk_net_New (raw0 : Value) {h : Heap} {K : Value → Heap → Prop} (H : sh_net_New Tryz.prog raw0 h K) : CallsH Tryz.prog F_net_New [raw0].toArray h K :=
  callsH_of (ann := (annG (Tryz.f9.body.getD .skip) 0 []).1) (c := Tryz.f9.body.getD .skip) Tryz.func9 (by kernel_rfl) (by kernel_rfl) (by kernel_rfl) (of_decide_eq_true (by kernel_rfl))
    (Eq.mpr (by kernel_rfl) H)

/-! milestone/milestoneref10.Same -/

def sh_milestoneref10_Same_L1 (P : Program) (a2 b3 : Value) (K : Value → Heap → Prop) (i5 : Value) (h_3 : Heap) (Z : Value → Heap → Prop) : Prop :=
  pField 0 a2 fun t14 =>
  pLoad h_3 t14 fun t15 =>
  pLen t15 fun t16 =>
  pBin .lss i5 t16 fun t17 =>
  ifV t17
  (pField 0 a2 fun t20 =>
  pLoad h_3 t20 fun t21 =>
  pIdx 1 t21 i5 fun t23 =>
  pLoad h_3 t23 fun t24 =>
  pField 0 b3 fun t25 =>
  pLoad h_3 t25 fun t26 =>
  pIdx 1 t26 i5 fun t28 =>
  pLoad h_3 t28 fun t29 =>
  pBin .neq t24 t29 fun t30 =>
  ifV t30
  (K (.bool false) h_3)
  (pBin .add i5 (.int .i64 1) fun t19 =>
  Z t19 h_3))
  (pField 1 a2 fun t31 =>
  pLoad h_3 t31 fun t32 =>
  pField 1 b3 fun t33 =>
  pLoad h_3 t33 fun t34 =>
  callS P F_milestoneref07_Ints [t32, t34] h_3 fun t35 h_4 =>
  ifV t35
  (pField 2 a2 fun t37 =>
  pLoad h_4 t37 fun t38 =>
  pField 2 b3 fun t39 =>
  pLoad h_4 t39 fun t40 =>
  callS P F_milestoneref07_Ints [t38, t40] h_4 fun t41 h_5 =>
  K t41 h_5)
  (K (.bool false) h_4))

def sh_milestoneref10_Same (P : Program) (a0 b1 : Value) (h : Heap) (K : Value → Heap → Prop) : Prop :=
  pBox T_milestoneref10_Tree a0 h fun a2 h_1 =>
  pBox T_milestoneref10_Tree b1 h_1 fun b3 h_2 =>
  pField 0 a2 fun t6 =>
  pLoad h_2 t6 fun t7 =>
  pLen t7 fun t8 =>
  pField 0 b3 fun t9 =>
  pLoad h_2 t9 fun t10 =>
  pLen t10 fun t11 =>
  pBin .neq t8 t11 fun t12 =>
  ifV t12
  (K (.bool false) h_2)
  (LoopH (σ := Vals [5]) (fun x hh ZZ => sh_milestoneref10_Same_L1 P a2 b3 K x.1 hh (fun a0 hz => ZZ (a0, ()) hz)) ((.int .i64 0), ()) h_2)

set_option maxRecDepth 100000 in
theorem lk_milestoneref10_Same (a0 b1 : Value) {h : Heap} {K : Value → Heap → Prop} (H : sh_milestoneref10_Same Tryz.prog a0 b1 h K) : CallsH Tryz.prog F_milestoneref10_Same [a0, b1].toArray h K :=
  callsH_of (ann := (annG (Tryz.f10.body.getD .skip) 0 [(6, [5])]).1) (c := Tryz.f10.body.getD .skip) Tryz.func10 (by kernel_rfl) (by kernel_rfl) (by kernel_rfl) (of_decide_eq_true (by kernel_rfl))
    (Eq.mpr (by kernel_rfl) H)

/-! milestone/milestonelaw10.tree -/

def sh_milestonelaw10_tree (P : Program) (x0 : Value) (h : Heap) (K : Value → Heap → Prop) : Prop :=
  pBox T_flood_Tree x0 h fun x1 h_1 =>
  pBox T_milestoneref10_Tree (.agg #[(.slice none 0 0), (.slice none 0 0), (.slice none 0 0)]) h_1 fun t2 h_2 =>
  pField 0 x1 fun t3 =>
  pLoad h_2 t3 fun t4 =>
  pField 1 x1 fun t5 =>
  pLoad h_2 t5 fun t6 =>
  pField 2 x1 fun t7 =>
  pLoad h_2 t7 fun t8 =>
  pBuild [(.slice none 0 0), (.slice none 0 0), (.slice none 0 0)] [(0, 1, t4), (1, 1, t6), (2, 1, t8)] fun t9 =>
  pStore 3 t2 t9 h_2 fun u h_3 =>
  pLoadN 3 h_3 t2 fun res =>
  K res h_3

set_option maxRecDepth 100000 in
theorem lk_milestonelaw10_tree (x0 : Value) {h : Heap} {K : Value → Heap → Prop} (H : sh_milestonelaw10_tree Tryz.prog x0 h K) : CallsH Tryz.prog F_milestonelaw10_tree [x0].toArray h K :=
  callsH_of (ann := (annG (Tryz.f11.body.getD .skip) 0 []).1) (c := Tryz.f11.body.getD .skip) Tryz.func11 (by kernel_rfl) (by kernel_rfl) (by kernel_rfl) (of_decide_eq_true (by kernel_rfl))
    (Eq.mpr (by kernel_rfl) H)

/-! milestone/flood.From -/

def sh_flood_From (P : Program) (n0 s1 : Value) (h : Heap) (K : Value → Heap → Prop) : Prop :=
  pBox T_flood_Tree (.agg #[(.slice none 0 0), (.slice none 0 0), (.slice none 0 0)]) h fun t4 h_1 =>
  callS P F_flood_flood [n0, s1, (.func (.func F_net_Net_Out) #[n0] #[]), (.func (.func F_flood_From_1) #[] #[])] h_1 fun t9 h_2 =>
  pStore 3 t4 t9 h_2 fun u h_3 =>
  pLoadN 3 h_3 t4 fun res =>
  K res h_3

set_option maxRecDepth 100000 in
theorem lk_flood_From (n0 s1 : Value) {h : Heap} {K : Value → Heap → Prop} (H : sh_flood_From Tryz.prog n0 s1 h K) : CallsH Tryz.prog F_flood_From [n0, s1].toArray h K :=
  callsH_of (ann := (annG (Tryz.f12.body.getD .skip) 0 []).1) (c := Tryz.f12.body.getD .skip) Tryz.func12 (by kernel_rfl) (by kernel_rfl) (by kernel_rfl) (of_decide_eq_true (by kernel_rfl))
    (Eq.mpr (by kernel_rfl) H)

/-! milestone/milestoneref10.From -/

def sh_milestoneref10_From_k1 (P : Program) (x5 t4 : Value) (K : Value → Heap → Prop) (h_4 : Heap) : Prop :=
  pLoadN 3 h_4 x5 fun t25 =>
  pStore 3 t4 t25 h_4 fun u h_5 =>
  pLoadN 3 h_5 t4 fun res =>
  K res h_5

def sh_milestoneref10_From_k5 (P : Program) (i13 : Value) (Z_2 : Value → Heap → Prop) (h_27 : Heap) : Prop :=
  pBin .add i13 (.int .i64 1) fun t85 =>
  Z_2 t85 h_27

def sh_milestoneref10_From_L4 (P : Program) (t79 g2 t28 t47 t61 x5 : Value) (Z_1 : Heap → Prop) (i13 : Value) (h_24 : Heap) (Z_2 : Value → Heap → Prop) : Prop :=
  pLen t79 fun t82 =>
  pBin .lss i13 t82 fun t83 =>
  ifV t83
  (pField 3 g2 fun t86 =>
  pLoad h_24 t86 fun t87 =>
  pIdx 1 t79 i13 fun t90 =>
  pLoad h_24 t90 fun t91 =>
  pIdx 3 t87 t91 fun t92 =>
  pLoadN 3 h_24 t92 fun t93 =>
  pBox T_api_Arc (.agg #[(.int .i64 0), (.int .i64 0), (.int .i64 0)]) h_24 fun a14 h_25 =>
  pStore 3 a14 t93 h_25 fun u_6 h_26 =>
  pField 1 a14 fun t95 =>
  pLoad h_26 t95 fun t96 =>
  pIdx 1 t28 t96 fun t97 =>
  pLoad h_26 t97 fun t98 =>
  ifV t98
  (sh_milestoneref10_From_k5 P i13 Z_2 h_26)
  (pField 1 a14 fun t101 =>
  pLoad h_26 t101 fun t102 =>
  callS P F_milestoneref08_Heap_Key [t47, t102] h_26 fun t103 h_28 =>
  pExt t103 0 fun t104 =>
  pExt t103 1 fun t105 =>
  pUn .not t105 fun t107 =>
  ifV t107
  (pField 1 a14 fun t109 =>
  pLoad h_28 t109 fun t110 =>
  pField 2 a14 fun t112 =>
  pLoad h_28 t112 fun t113 =>
  pBin .add t61 t113 fun t114 =>
  callS P F_milestoneref08_Heap_Push [t47, t110, t114] h_28 fun t115 h_29 =>
  pField 1 x5 fun t116 =>
  pLoad h_29 t116 fun t117 =>
  pField 1 a14 fun t118 =>
  pLoad h_29 t118 fun t119 =>
  pIdx 1 t79 i13 fun t122 =>
  pLoad h_29 t122 fun t123 =>
  pIdx 1 t117 t119 fun t124 =>
  pStore 1 t124 t123 h_29 fun u_7 h_30 =>
  sh_milestoneref10_From_k5 P i13 Z_2 h_30)
  (pField 2 a14 fun t127 =>
  pLoad h_28 t127 fun t128 =>
  pBin .add t61 t128 fun t129 =>
  pBin .gtr t104 t129 fun t130 =>
  ifV t130
  (pField 1 a14 fun t132 =>
  pLoad h_28 t132 fun t133 =>
  pField 2 a14 fun t135 =>
  pLoad h_28 t135 fun t136 =>
  pBin .add t61 t136 fun t137 =>
  callS P F_milestoneref08_Heap_Lower [t47, t133, t137] h_28 fun t138 h_31 =>
  pField 1 x5 fun t139 =>
  pLoad h_31 t139 fun t140 =>
  pField 1 a14 fun t141 =>
  pLoad h_31 t141 fun t142 =>
  pIdx 1 t79 i13 fun t145 =>
  pLoad h_31 t145 fun t146 =>
  pIdx 1 t140 t142 fun t147 =>
  pStore 1 t147 t146 h_31 fun u_8 h_32 =>
  sh_milestoneref10_From_k5 P i13 Z_2 h_32)
  (sh_milestoneref10_From_k5 P i13 Z_2 h_28))))
  (Z_1 h_24)

def sh_milestoneref10_From_L3 (P : Program) (t47 t28 x5 g2 t4 : Value) (K : Value → Heap → Prop) (h_16 : Heap) (Z_1 : Heap → Prop) : Prop :=
  pNil t47 fun t52 =>
  pField 1 t52 fun t53 =>
  pLoad h_16 t53 fun t54 =>
  pLen t54 fun t55 =>
  pBin .gtr t55 (.int .i64 0) fun t56 =>
  ifV t56
  (callS P F_milestoneref08_Heap_Pop [t47] h_16 fun t59 h_17 =>
  pExt t59 0 fun t60 =>
  pExt t59 1 fun t61 =>
  pExt t59 2 fun t62 =>
  pIdx 1 t28 t60 fun t65 =>
  pStore 1 t65 (.bool true) h_17 fun u_3 h_18 =>
  pField 0 x5 fun t66 =>
  pLoad h_18 t66 fun t67 =>
  pIdx 1 t67 t60 fun t70 =>
  pStore 1 t70 t61 h_18 fun u_4 h_19 =>
  pField 2 x5 fun t71 =>
  pLoad h_19 t71 fun t72 =>
  pBuildSlice T_int (zerosL [(.int .i64 0)] 1) [(0, 1, t60)] 1 h_19 fun t74 h_20 =>
  pAppend T_int 1 8 [(.int .i64 0)] t72 t74 h_20 fun t75 h_21 =>
  pField 2 x5 fun t76 =>
  pStore 1 t76 t75 h_21 fun u_5 h_22 =>
  pLoadN 4 h_22 g2 fun t77 =>
  callS P F_milestoneref07_Out [t77, t60] h_22 fun t79 h_23 =>
  LoopH (σ := Vals [13]) (fun x hh ZZ => sh_milestoneref10_From_L4 P t79 g2 t28 t47 t61 x5 Z_1 x.1 hh (fun a0 hz => ZZ (a0, ()) hz)) ((.int .i64 0), ()) h_23)
  (pLoadN 3 h_16 x5 fun t148 =>
  pStore 3 t4 t148 h_16 fun u_9 h_33 =>
  pLoadN 3 h_33 t4 fun res_1 =>
  K res_1 h_33)

def sh_milestoneref10_From_L2 (P : Program) (g2 x5 s1 t28 t4 : Value) (K : Value → Heap → Prop) (v7 : Value) (h_7 : Heap) (Z : Value → Heap → Prop) : Prop :=
  pField 0 g2 fun t30 =>
  pLoad h_7 t30 fun t31 =>
  pBin .lss v7 t31 fun t32 =>
  ifV t32
  (pField 0 x5 fun t35 =>
  pLoad h_7 t35 fun t36 =>
  pBuildSlice T_int64 (zerosL [(.int .i64 0)] 1) [(0, 1, (.int .i64 72057594037927936))] 1 h_7 fun t37 h_8 =>
  pAppend T_int64 1 8 [(.int .i64 0)] t36 t37 h_8 fun t38 h_9 =>
  pField 0 x5 fun t39 =>
  pStore 1 t39 t38 h_9 fun u_1 h_10 =>
  pField 1 x5 fun t40 =>
  pLoad h_10 t40 fun t41 =>
  pBuildSlice T_int (zerosL [(.int .i64 0)] 1) [(0, 1, (.int .i64 (-1)))] 1 h_10 fun t42 h_11 =>
  pAppend T_int 1 8 [(.int .i64 0)] t41 t42 h_11 fun t43 h_12 =>
  pField 1 x5 fun t44 =>
  pStore 1 t44 t43 h_12 fun u_2 h_13 =>
  pBin .add v7 (.int .i64 1) fun t34 =>
  Z t34 h_13)
  (pField 0 g2 fun t45 =>
  pLoad h_7 t45 fun t46 =>
  callS P F_milestoneref08_New [t46] h_7 fun t47 h_14 =>
  callS P F_milestoneref08_Heap_Push [t47, s1, (.int .i64 0)] h_14 fun t50 h_15 =>
  LoopH (σ := Vals []) (fun x hh ZZ => sh_milestoneref10_From_L3 P t47 t28 x5 g2 t4 K hh (fun hz => ZZ () hz)) () h_15)

def sh_milestoneref10_From (P : Program) (g0 s1 : Value) (h : Heap) (K : Value → Heap → Prop) : Prop :=
  pBox T_api_Raw g0 h fun g2 h_1 =>
  pBox T_milestoneref10_Tree (.agg #[(.slice none 0 0), (.slice none 0 0), (.slice none 0 0)]) h_1 fun t4 h_2 =>
  pBox T_milestoneref10_Tree (.agg #[(.slice none 0 0), (.slice none 0 0), (.slice none 0 0)]) h_2 fun x5 h_3 =>
  pBin .lss s1 (.int .i64 0) fun t18 =>
  ifV t18
  (sh_milestoneref10_From_k1 P x5 t4 K h_3)
  (pField 0 g2 fun t21 =>
  pLoad h_3 t21 fun t22 =>
  pBin .geq s1 t22 fun t23 =>
  ifV t23
  (sh_milestoneref10_From_k1 P x5 t4 K h_3)
  (pField 0 g2 fun t26 =>
  pLoad h_3 t26 fun t27 =>
  pMakeSlice T_bool 1 [(.bool false)] t27 t27 h_3 fun t28 h_6 =>
  LoopH (σ := Vals [7]) (fun x hh ZZ => sh_milestoneref10_From_L2 P g2 x5 s1 t28 t4 K x.1 hh (fun a0 hz => ZZ (a0, ()) hz)) ((.int .i64 0), ()) h_6))

set_option maxRecDepth 100000 in
theorem lk_milestoneref10_From (g0 s1 : Value) {h : Heap} {K : Value → Heap → Prop} (H : sh_milestoneref10_From Tryz.prog g0 s1 h K) : CallsH Tryz.prog F_milestoneref10_From [g0, s1].toArray h K :=
  callsH_of (ann := (annG (Tryz.f13.body.getD .skip) 0 [(8, [7]), (16, []), (25, [13])]).1) (c := Tryz.f13.body.getD .skip) Tryz.func13 (by kernel_rfl) (by kernel_rfl) (by kernel_rfl) (of_decide_eq_true (by kernel_rfl))
    (Eq.mpr (by kernel_rfl) H)

/-! milestone/flood.To -/

def sh_flood_To (P : Program) (n0 t1 : Value) (h : Heap) (K : Value → Heap → Prop) : Prop :=
  pBox T_flood_Tree (.agg #[(.slice none 0 0), (.slice none 0 0), (.slice none 0 0)]) h fun t4 h_1 =>
  callS P F_flood_flood [n0, t1, (.func (.func F_net_Net_In) #[n0] #[]), (.func (.func F_flood_To_1) #[] #[])] h_1 fun t9 h_2 =>
  pStore 3 t4 t9 h_2 fun u h_3 =>
  pLoadN 3 h_3 t4 fun res =>
  K res h_3

set_option maxRecDepth 100000 in
theorem lk_flood_To (n0 t1 : Value) {h : Heap} {K : Value → Heap → Prop} (H : sh_flood_To Tryz.prog n0 t1 h K) : CallsH Tryz.prog F_flood_To [n0, t1].toArray h K :=
  callsH_of (ann := (annG (Tryz.f14.body.getD .skip) 0 []).1) (c := Tryz.f14.body.getD .skip) Tryz.func14 (by kernel_rfl) (by kernel_rfl) (by kernel_rfl) (of_decide_eq_true (by kernel_rfl))
    (Eq.mpr (by kernel_rfl) H)

/-! milestone/milestoneref10.To -/

def sh_milestoneref10_To (P : Program) (g0 t1 : Value) (h : Heap) (K : Value → Heap → Prop) : Prop :=
  pBox T_api_Raw g0 h fun g2 h_1 =>
  pBox T_milestoneref10_Tree (.agg #[(.slice none 0 0), (.slice none 0 0), (.slice none 0 0)]) h_1 fun t4 h_2 =>
  pLoadN 4 h_2 g2 fun t5 =>
  callS P F_milestoneref07_Turned [t5] h_2 fun t6 h_3 =>
  callS P F_milestoneref10_From [t6, t1] h_3 fun t8 h_4 =>
  pStore 3 t4 t8 h_4 fun u h_5 =>
  pLoadN 3 h_5 t4 fun res =>
  K res h_5

set_option maxRecDepth 100000 in
theorem lk_milestoneref10_To (g0 t1 : Value) {h : Heap} {K : Value → Heap → Prop} (H : sh_milestoneref10_To Tryz.prog g0 t1 h K) : CallsH Tryz.prog F_milestoneref10_To [g0, t1].toArray h K :=
  callsH_of (ann := (annG (Tryz.f15.body.getD .skip) 0 []).1) (c := Tryz.f15.body.getD .skip) Tryz.func15 (by kernel_rfl) (by kernel_rfl) (by kernel_rfl) (of_decide_eq_true (by kernel_rfl))
    (Eq.mpr (by kernel_rfl) H)

/-! milestone/milestonelaw10.works -/

def sh_milestonelaw10_works (P : Program) (h : Heap) (K : Value → Heap → Prop) : Prop :=
  pBuildSlice T_int64 (zerosL [(.int .i64 0)] 4) [(0, 1, (.int .i64 0)), (1, 1, (.int .i64 0)), (2, 1, (.int .i64 0)), (3, 1, (.int .i64 0))] 4 h fun t4 h_1 =>
  pBuild [(.int .i64 0), (.int .i64 0), (.int .i64 0)] [(0, 1, (.int .i64 0)), (1, 1, (.int .i64 1)), (2, 1, (.int .i64 4))] fun t7 =>
  pBuild [(.int .i64 0), (.int .i64 0), (.int .i64 0)] [(0, 1, (.int .i64 0)), (1, 1, (.int .i64 2)), (2, 1, (.int .i64 1))] fun t8 =>
  pBuild [(.int .i64 0), (.int .i64 0), (.int .i64 0)] [(0, 1, (.int .i64 2)), (1, 1, (.int .i64 1)), (2, 1, (.int .i64 2))] fun t9 =>
  pBuild [(.int .i64 0), (.int .i64 0), (.int .i64 0)] [(0, 1, (.int .i64 1)), (1, 1, (.int .i64 0))] fun t10 =>
  pBuildSlice T_api_Arc (zerosL [(.int .i64 0), (.int .i64 0), (.int .i64 0)] 4) [(0, 3, t7), (3, 3, t8), (6, 3, t9), (9, 3, t10)] 4 h_1 fun t11 h_2 =>
  pBuild [(.int .i64 0), (.slice none 0 0), (.slice none 0 0), (.slice none 0 0)] [(0, 1, (.int .i64 4)), (1, 1, t4), (2, 1, t4), (3, 1, t11)] fun t12 =>
  callS P F_milestonelaw10_made [t12] h_2 fun t13 h_3 =>
  pEq true .ptr t13 (.pointer none) fun t15 =>
  ifV t15
  (callS P F_flood_From [t13, (.int .i64 0)] h_3 fun t18 h_4 =>
  pBuildSlice T_int64 (zerosL [(.int .i64 0)] 4) [(0, 1, (.int .i64 0)), (1, 1, (.int .i64 3)), (2, 1, (.int .i64 1)), (3, 1, (.int .i64 72057594037927936))] 4 h_4 fun t20 h_5 =>
  pBuildSlice T_int (zerosL [(.int .i64 0)] 4) [(0, 1, (.int .i64 (-1))), (1, 1, (.int .i64 2)), (2, 1, (.int .i64 1)), (3, 1, (.int .i64 (-1)))] 4 h_5 fun t21 h_6 =>
  pBuildSlice T_int (zerosL [(.int .i64 0)] 3) [(0, 1, (.int .i64 0)), (1, 1, (.int .i64 2)), (2, 1, (.int .i64 1))] 3 h_6 fun t22 h_7 =>
  callS P F_milestonelaw10_is [t18, t20, t21, t22] h_7 fun t23 h_8 =>
  ifV t23
  (callS P F_flood_To [t13, (.int .i64 1)] h_8 fun t27 h_9 =>
  pBuildSlice T_int64 (zerosL [(.int .i64 0)] 4) [(0, 1, (.int .i64 3)), (1, 1, (.int .i64 0)), (2, 1, (.int .i64 2)), (3, 1, (.int .i64 72057594037927936))] 4 h_9 fun t29 h_10 =>
  pBuildSlice T_int (zerosL [(.int .i64 0)] 4) [(0, 1, (.int .i64 1)), (1, 1, (.int .i64 (-1))), (2, 1, (.int .i64 2)), (3, 1, (.int .i64 (-1)))] 4 h_10 fun t30 h_11 =>
  pBuildSlice T_int (zerosL [(.int .i64 0)] 3) [(0, 1, (.int .i64 1)), (1, 1, (.int .i64 2)), (2, 1, (.int .i64 0))] 3 h_11 fun t31 h_12 =>
  callS P F_milestonelaw10_is [t27, t29, t30, t31] h_12 fun t32 h_13 =>
  ifV t32
  (callS P F_flood_From [t13, (.int .i64 3)] h_13 fun t36 h_14 =>
  pBuildSlice T_int64 (zerosL [(.int .i64 0)] 4) [(0, 1, (.int .i64 72057594037927936)), (1, 1, (.int .i64 72057594037927936)), (2, 1, (.int .i64 72057594037927936)), (3, 1, (.int .i64 0))] 4 h_14 fun t40 h_15 =>
  pBuildSlice T_int (zerosL [(.int .i64 0)] 4) [(0, 1, (.int .i64 (-1))), (1, 1, (.int .i64 (-1))), (2, 1, (.int .i64 (-1))), (3, 1, (.int .i64 (-1)))] 4 h_15 fun t41 h_16 =>
  pBuildSlice T_int (zerosL [(.int .i64 0)] 1) [(0, 1, (.int .i64 3))] 1 h_16 fun t42 h_17 =>
  callS P F_milestonelaw10_is [t36, t40, t41, t42] h_17 fun t43 h_18 =>
  K t43 h_18)
  (K (.bool false) h_13))
  (K (.bool false) h_8))
  (K (.bool false) h_3)

set_option maxRecDepth 100000 in
theorem lk_milestonelaw10_works {h : Heap} {K : Value → Heap → Prop} (H : sh_milestonelaw10_works Tryz.prog h K) : CallsH Tryz.prog F_milestonelaw10_works [].toArray h K :=
  callsH_of (ann := (annG (Tryz.f16.body.getD .skip) 0 []).1) (c := Tryz.f16.body.getD .skip) Tryz.func16 (by kernel_rfl) (by kernel_rfl) (by kernel_rfl) (of_decide_eq_true (by kernel_rfl))
    (Eq.mpr (by kernel_rfl) H)

/-! milestone/milestoneref10.Least -/

def sh_milestoneref10_Least_k2 (P : Program) (K : Value → Heap → Prop) (h_5 : Heap) : Prop :=
  K (.slice none 0 0) h_5

def sh_milestoneref10_Least_k6 (P : Program) (i8 : Value) (Z_2 : Value → Value → Heap → Prop) (more7_2 : Value) (h_13 : Heap) : Prop :=
  pBin .add i8 (.int .i64 1) fun t37 =>
  Z_2 more7_2 t37 h_13

def sh_milestoneref10_Least_C5 (P : Program) (a9 l5 i8 : Value) (Z_2 : Value → Value → Heap → Prop) (more7_1 t64 : Value) (h_11 : Heap) : Prop :=
  ifV t64
  (pField 1 a9 fun t66 =>
  pLoad h_11 t66 fun t67 =>
  pField 0 a9 fun t69 =>
  pLoad h_11 t69 fun t70 =>
  pIdx 1 l5 t70 fun t71 =>
  pLoad h_11 t71 fun t72 =>
  pField 2 a9 fun t73 =>
  pLoad h_11 t73 fun t74 =>
  pBin .add t72 t74 fun t75 =>
  pIdx 1 l5 t67 fun t76 =>
  pStore 1 t76 t75 h_11 fun u_2 h_12 =>
  sh_milestoneref10_Least_k6 P i8 Z_2 (.bool true) h_12)
  (sh_milestoneref10_Least_k6 P i8 Z_2 more7_1 h_11)

def sh_milestoneref10_Least_L4 (P : Program) (g2 l5 : Value) (Z_1 : Value → Heap → Prop) (more7_1 i8 : Value) (h_8 : Heap) (Z_2 : Value → Value → Heap → Prop) : Prop :=
  pField 3 g2 fun t32 =>
  pLoad h_8 t32 fun t33 =>
  pLen t33 fun t34 =>
  pBin .lss i8 t34 fun t35 =>
  ifV t35
  (pField 3 g2 fun t38 =>
  pLoad h_8 t38 fun t39 =>
  pIdx 3 t39 i8 fun t41 =>
  pLoadN 3 h_8 t41 fun t42 =>
  pBox T_api_Arc (.agg #[(.int .i64 0), (.int .i64 0), (.int .i64 0)]) h_8 fun a9 h_9 =>
  pStore 3 a9 t42 h_9 fun u_1 h_10 =>
  cutP (σ := Vals [64]) (fun J =>
  pField 0 a9 fun t44 =>
  pLoad h_10 t44 fun t45 =>
  pIdx 1 l5 t45 fun t46 =>
  pLoad h_10 t46 fun t47 =>
  pBin .lss t47 (.int .i64 72057594037927936) fun t48 =>
  ifV t48
  (pField 0 a9 fun t51 =>
  pLoad h_10 t51 fun t52 =>
  pIdx 1 l5 t52 fun t53 =>
  pLoad h_10 t53 fun t54 =>
  pField 2 a9 fun t55 =>
  pLoad h_10 t55 fun t56 =>
  pBin .add t54 t56 fun t57 =>
  pField 1 a9 fun t59 =>
  pLoad h_10 t59 fun t60 =>
  pIdx 1 l5 t60 fun t61 =>
  pLoad h_10 t61 fun t62 =>
  pBin .lss t57 t62 fun t63 =>
  J (t63, ()) h_10)
  (J ((.bool false), ()) h_10))
  (fun x hh => sh_milestoneref10_Least_C5 P a9 l5 i8 Z_2 more7_1 x.1 hh))
  (Z_1 more7_1 h_8)

def sh_milestoneref10_Least_L3 (P : Program) (g2 l5 : Value) (K : Value → Heap → Prop) (more7 : Value) (h_7 : Heap) (Z_1 : Value → Heap → Prop) : Prop :=
  ifV more7
  (LoopH (σ := Vals [7, 8]) (fun x hh ZZ => sh_milestoneref10_Least_L4 P g2 l5 Z_1 x.1 x.2.1 hh (fun a0 a1 hz => ZZ (a0, (a1, ())) hz)) ((.bool false), ((.int .i64 0), ())) h_7)
  (K l5 h_7)

def sh_milestoneref10_Least_L1 (P : Program) (g2 s1 : Value) (K : Value → Heap → Prop) (l5 v6 : Value) (h_2 : Heap) (Z : Value → Value → Heap → Prop) : Prop :=
  pField 0 g2 fun t11 =>
  pLoad h_2 t11 fun t12 =>
  pBin .lss v6 t12 fun t13 =>
  ifV t13
  (pBuildSlice T_int64 (zerosL [(.int .i64 0)] 1) [(0, 1, (.int .i64 72057594037927936))] 1 h_2 fun t17 h_3 =>
  pAppend T_int64 1 8 [(.int .i64 0)] l5 t17 h_3 fun t18 h_4 =>
  pBin .add v6 (.int .i64 1) fun t15 =>
  Z t18 t15 h_4)
  (pBin .lss s1 (.int .i64 0) fun t20 =>
  ifV t20
  (sh_milestoneref10_Least_k2 P K h_2)
  (pField 0 g2 fun t23 =>
  pLoad h_2 t23 fun t24 =>
  pBin .geq s1 t24 fun t25 =>
  ifV t25
  (sh_milestoneref10_Least_k2 P K h_2)
  (pIdx 1 l5 s1 fun t29 =>
  pStore 1 t29 (.int .i64 0) h_2 fun u h_6 =>
  LoopH (σ := Vals [7]) (fun x hh ZZ => sh_milestoneref10_Least_L3 P g2 l5 K x.1 hh (fun a0 hz => ZZ (a0, ()) hz)) ((.bool true), ()) h_6)))

def sh_milestoneref10_Least (P : Program) (g0 s1 : Value) (h : Heap) (K : Value → Heap → Prop) : Prop :=
  pBox T_api_Raw g0 h fun g2 h_1 =>
  LoopH (σ := Vals [5, 6]) (fun x hh ZZ => sh_milestoneref10_Least_L1 P g2 s1 K x.1 x.2.1 hh (fun a0 a1 hz => ZZ (a0, (a1, ())) hz)) ((.slice none 0 0), ((.int .i64 0), ())) h_1

set_option maxRecDepth 100000 in
theorem lk_milestoneref10_Least (g0 s1 : Value) {h : Heap} {K : Value → Heap → Prop} (H : sh_milestoneref10_Least Tryz.prog g0 s1 h K) : CallsH Tryz.prog F_milestoneref10_Least [g0, s1].toArray h K :=
  callsH_of (ann := (annG (Tryz.f17.body.getD .skip) 0 [(4, [5, 6]), (14, [7]), (19, [7, 8]), (24, [64])]).1) (c := Tryz.f17.body.getD .skip) Tryz.func17 (by kernel_rfl) (by kernel_rfl) (by kernel_rfl) (of_decide_eq_true (by kernel_rfl))
    (Eq.mpr (by kernel_rfl) H)

/-! milestone/milestoneref07.Turned -/

def sh_milestoneref07_Turned_L1 (P : Program) (out3 g1 t2 : Value) (K : Value → Heap → Prop) (a4 : Value) (h_6 : Heap) (Z : Value → Heap → Prop) : Prop :=
  pField 3 out3 fun t8 =>
  pLoad h_6 t8 fun t9 =>
  pLen t9 fun t10 =>
  pBin .lss a4 t10 fun t11 =>
  ifV t11
  (pField 3 out3 fun t14 =>
  pLoad h_6 t14 fun t15 =>
  pField 3 g1 fun t17 =>
  pLoad h_6 t17 fun t18 =>
  pIdx 3 t18 a4 fun t20 =>
  pField 1 t20 fun t21 =>
  pLoad h_6 t21 fun t22 =>
  pIdx 3 t15 a4 fun t23 =>
  pField 0 t23 fun t24 =>
  pStore 1 t24 t22 h_6 fun u_1 h_7 =>
  pField 3 out3 fun t25 =>
  pLoad h_7 t25 fun t26 =>
  pField 3 g1 fun t28 =>
  pLoad h_7 t28 fun t29 =>
  pIdx 3 t29 a4 fun t31 =>
  pField 0 t31 fun t32 =>
  pLoad h_7 t32 fun t33 =>
  pIdx 3 t26 a4 fun t34 =>
  pField 1 t34 fun t35 =>
  pStore 1 t35 t33 h_7 fun u_2 h_8 =>
  pBin .add a4 (.int .i64 1) fun t13 =>
  Z t13 h_8)
  (pLoadN 4 h_6 out3 fun t36 =>
  pStore 4 t2 t36 h_6 fun u_3 h_9 =>
  pLoadN 4 h_9 t2 fun res =>
  K res h_9)

def sh_milestoneref07_Turned (P : Program) (g0 : Value) (h : Heap) (K : Value → Heap → Prop) : Prop :=
  pBox T_api_Raw g0 h fun g1 h_1 =>
  pBox T_api_Raw (.agg #[(.int .i64 0), (.slice none 0 0), (.slice none 0 0), (.slice none 0 0)]) h_1 fun t2 h_2 =>
  pLoadN 4 h_2 g1 fun t5 =>
  callS P F_milestoneref07_Copy [t5] h_2 fun t6 h_3 =>
  pBox T_api_Raw (.agg #[(.int .i64 0), (.slice none 0 0), (.slice none 0 0), (.slice none 0 0)]) h_3 fun out3 h_4 =>
  pStore 4 out3 t6 h_4 fun u h_5 =>
  LoopH (σ := Vals [4]) (fun x hh ZZ => sh_milestoneref07_Turned_L1 P out3 g1 t2 K x.1 hh (fun a0 hz => ZZ (a0, ()) hz)) ((.int .i64 0), ()) h_5

set_option maxRecDepth 100000 in
theorem lk_milestoneref07_Turned (g0 : Value) {h : Heap} {K : Value → Heap → Prop} (H : sh_milestoneref07_Turned Tryz.prog g0 h K) : CallsH Tryz.prog F_milestoneref07_Turned [g0].toArray h K :=
  callsH_of (ann := (annG (Tryz.f18.body.getD .skip) 0 [(4, [4])]).1) (c := Tryz.f18.body.getD .skip) Tryz.func18 (by kernel_rfl) (by kernel_rfl) (by kernel_rfl) (of_decide_eq_true (by kernel_rfl))
    (Eq.mpr (by kernel_rfl) H)

/-! milestone/milestonelaw10.made -/

def sh_milestonelaw10_made (P : Program) (g0 : Value) (h : Heap) (K : Value → Heap → Prop) : Prop :=
  pBox T_api_Raw g0 h fun g1 h_1 =>
  pLoadN 4 h_1 g1 fun t6 =>
  callS P F_net_New [t6] h_1 fun t7 h_2 =>
  pExt t7 0 fun t8 =>
  pExt t7 1 fun t9 =>
  pEq true .iface t9 .nilIface fun t11 =>
  ifV t11
  (K (.pointer none) h_2)
  (K t8 h_2)

set_option maxRecDepth 100000 in
theorem lk_milestonelaw10_made (g0 : Value) {h : Heap} {K : Value → Heap → Prop} (H : sh_milestonelaw10_made Tryz.prog g0 h K) : CallsH Tryz.prog F_milestonelaw10_made [g0].toArray h K :=
  callsH_of (ann := (annG (Tryz.f19.body.getD .skip) 0 []).1) (c := Tryz.f19.body.getD .skip) Tryz.func19 (by kernel_rfl) (by kernel_rfl) (by kernel_rfl) (of_decide_eq_true (by kernel_rfl))
    (Eq.mpr (by kernel_rfl) H)

/-! milestone/dist.Add -/

def sh_dist_Add (P : Program) (a0 b1 : Value) (h : Heap) (K : Value → Heap → Prop) : Prop :=
  pBuildSlice T_int64 (zerosL [(.int .i64 0)] 2) [(0, 1, a0), (1, 1, b1)] 2 h fun t7 h_1 =>
  callS P F_dist_folded [(.func (.func F_dist_way) #[] #[]), t7] h_1 fun t8 h_2 =>
  K t8 h_2

set_option maxRecDepth 100000 in
theorem lk_dist_Add (a0 b1 : Value) {h : Heap} {K : Value → Heap → Prop} (H : sh_dist_Add Tryz.prog a0 b1 h K) : CallsH Tryz.prog F_dist_Add [a0, b1].toArray h K :=
  callsH_of (ann := (annG (Tryz.f20.body.getD .skip) 0 []).1) (c := Tryz.f20.body.getD .skip) Tryz.func20 (by kernel_rfl) (by kernel_rfl) (by kernel_rfl) (of_decide_eq_true (by kernel_rfl))
    (Eq.mpr (by kernel_rfl) H)

/-! milestone/graph.Turned -/

def sh_graph_Turned_L1 (P : Program) (t9 t8 r1 t2 : Value) (K : Value → Heap → Prop) (t10 : Value) (h_5 : Heap) (Z : Value → Heap → Prop) : Prop :=
  pBin .lss t10 t9 fun t11 =>
  ifV t11
  (pIdx 3 t8 t10 fun t13 =>
  pLoadN 3 h_5 t13 fun t14 =>
  pBox T_api_Arc (.agg #[(.int .i64 0), (.int .i64 0), (.int .i64 0)]) h_5 fun a4 h_6 =>
  pStore 3 a4 t14 h_6 fun u_1 h_7 =>
  pField 3 r1 fun t15 =>
  pLoad h_7 t15 fun t16 =>
  pField 3 r1 fun t18 =>
  pLoad h_7 t18 fun t19 =>
  pField 1 a4 fun t21 =>
  pLoad h_7 t21 fun t22 =>
  pField 0 a4 fun t23 =>
  pLoad h_7 t23 fun t24 =>
  pIdx 3 t16 t10 fun t25 =>
  pField 0 t25 fun t26 =>
  pStore 1 t26 t22 h_7 fun u_2 h_8 =>
  (pLoad h_8 t18 fun t19_1 =>
  t19_1 = t19) ∧
  (pLoad h_8 t23 fun t24_1 =>
  t24_1 = t24) ∧
  (pIdx 3 t19 t10 fun t27 =>
  pField 1 t27 fun t28 =>
  pStore 1 t28 t24 h_8 fun u_3 h_9 =>
  pBin .add t10 (.int .i64 1) fun t29 =>
  Z t29 h_9))
  (pLoadN 4 h_5 r1 fun t30 =>
  pStore 4 t2 t30 h_5 fun u_4 h_10 =>
  pLoadN 4 h_10 t2 fun res =>
  K res h_10)

def sh_graph_Turned (P : Program) (r0 : Value) (h : Heap) (K : Value → Heap → Prop) : Prop :=
  pBox T_api_Raw r0 h fun r1 h_1 =>
  pBox T_api_Raw (.agg #[(.int .i64 0), (.slice none 0 0), (.slice none 0 0), (.slice none 0 0)]) h_1 fun t2 h_2 =>
  pLoadN 4 h_2 r1 fun t5 =>
  callS P F_graph_copied [t5] h_2 fun t6 h_3 =>
  pStore 4 r1 t6 h_3 fun u h_4 =>
  pField 3 r1 fun t7 =>
  pLoad h_4 t7 fun t8 =>
  pLen t8 fun t9 =>
  LoopH (σ := Vals [10]) (fun x hh ZZ => sh_graph_Turned_L1 P t9 t8 r1 t2 K x.1 hh (fun a0 hz => ZZ (a0, ()) hz)) ((.int .i64 0), ()) h_4

set_option maxRecDepth 100000 in
theorem lk_graph_Turned (r0 : Value) {h : Heap} {K : Value → Heap → Prop} (H : sh_graph_Turned Tryz.prog r0 h K) : CallsH Tryz.prog F_graph_Turned [r0].toArray h K :=
  callsH_of (ann := (annG (Tryz.f21.body.getD .skip) 0 [(4, [10])]).1) (c := Tryz.f21.body.getD .skip) Tryz.func21 (by kernel_rfl) (by kernel_rfl) (by kernel_rfl) (of_decide_eq_true (by kernel_rfl))
    (Eq.mpr (by kernel_rfl) H)

/-! milestone/milestonelaw10.is -/

def sh_milestonelaw10_is_k1 (P : Program) (K : Value → Heap → Prop) (h_2 : Heap) : Prop :=
  K (.bool false) h_2

def sh_milestonelaw10_is_C3 (P : Program) (K : Value → Heap → Prop) (i9 : Value) (Z : Value → Heap → Prop) (t60 : Value) (h_4 : Heap) : Prop :=
  ifV t60
  (K (.bool false) h_4)
  (pBin .add i9 (.int .i64 1) fun t38 =>
  Z t38 h_4)

def sh_milestonelaw10_is_L4 (P : Program) (order3 x4 : Value) (K : Value → Heap → Prop) (i10 : Value) (h_5 : Heap) (Z_1 : Value → Heap → Prop) : Prop :=
  pLen order3 fun t63 =>
  pBin .lss i10 t63 fun t64 =>
  ifV t64
  (pField 2 x4 fun t67 =>
  pLoad h_5 t67 fun t68 =>
  pIdx 1 t68 i10 fun t70 =>
  pLoad h_5 t70 fun t71 =>
  pIdx 1 order3 i10 fun t74 =>
  pLoad h_5 t74 fun t75 =>
  pBin .neq t71 t75 fun t76 =>
  ifV t76
  (K (.bool false) h_5)
  (pBin .add i10 (.int .i64 1) fun t66 =>
  Z_1 t66 h_5))
  (K (.bool true) h_5)

def sh_milestonelaw10_is_L2 (P : Program) (far1 x4 arcs2 : Value) (K : Value → Heap → Prop) (order3 i9 : Value) (h_3 : Heap) (Z : Value → Heap → Prop) : Prop :=
  pLen far1 fun t35 =>
  pBin .lss i9 t35 fun t36 =>
  ifV t36
  (cutP (σ := Vals [60]) (fun J =>
  pField 0 x4 fun t39 =>
  pLoad h_3 t39 fun t40 =>
  pIdx 1 t40 i9 fun t42 =>
  pLoad h_3 t42 fun t43 =>
  pIdx 1 far1 i9 fun t46 =>
  pLoad h_3 t46 fun t47 =>
  pBin .neq t43 t47 fun t48 =>
  ifV t48
  (J ((.bool true), ()) h_3)
  (pField 1 x4 fun t50 =>
  pLoad h_3 t50 fun t51 =>
  pIdx 1 t51 i9 fun t53 =>
  pLoad h_3 t53 fun t54 =>
  pIdx 1 arcs2 i9 fun t57 =>
  pLoad h_3 t57 fun t58 =>
  pBin .neq t54 t58 fun t59 =>
  J (t59, ()) h_3))
  (fun x hh => sh_milestonelaw10_is_C3 P K i9 Z x.1 hh))
  (LoopH (σ := Vals [10]) (fun x hh ZZ => sh_milestonelaw10_is_L4 P order3 x4 K x.1 hh (fun a0 hz => ZZ (a0, ()) hz)) ((.int .i64 0), ()) h_3)

def sh_milestonelaw10_is (P : Program) (x0 far1 arcs2 order3 : Value) (h : Heap) (K : Value → Heap → Prop) : Prop :=
  pBox T_flood_Tree x0 h fun x4 h_1 =>
  pField 0 x4 fun t11 =>
  pLoad h_1 t11 fun t12 =>
  pLen t12 fun t13 =>
  pLen far1 fun t15 =>
  pBin .neq t13 t15 fun t16 =>
  ifV t16
  (sh_milestonelaw10_is_k1 P K h_1)
  (pField 1 x4 fun t18 =>
  pLoad h_1 t18 fun t19 =>
  pLen t19 fun t20 =>
  pLen arcs2 fun t22 =>
  pBin .neq t20 t22 fun t23 =>
  ifV t23
  (sh_milestonelaw10_is_k1 P K h_1)
  (pField 2 x4 fun t26 =>
  pLoad h_1 t26 fun t27 =>
  pLen t27 fun t28 =>
  pLen order3 fun t30 =>
  pBin .neq t28 t30 fun t31 =>
  ifV t31
  (sh_milestonelaw10_is_k1 P K h_1)
  (LoopH (σ := Vals [9]) (fun x hh ZZ => sh_milestonelaw10_is_L2 P far1 x4 arcs2 K order3 x.1 hh (fun a0 hz => ZZ (a0, ()) hz)) ((.int .i64 0), ()) h_1)))

set_option maxRecDepth 100000 in
theorem lk_milestonelaw10_is (x0 far1 arcs2 order3 : Value) {h : Heap} {K : Value → Heap → Prop} (H : sh_milestonelaw10_is Tryz.prog x0 far1 arcs2 order3 h K) : CallsH Tryz.prog F_milestonelaw10_is [x0, far1, arcs2, order3].toArray h K :=
  callsH_of (ann := (annG (Tryz.f22.body.getD .skip) 0 [(6, [9]), (10, [60]), (14, [10])]).1) (c := Tryz.f22.body.getD .skip) Tryz.func22 (by kernel_rfl) (by kernel_rfl) (by kernel_rfl) (of_decide_eq_true (by kernel_rfl))
    (Eq.mpr (by kernel_rfl) H)

end Go.Proofs.YtebjceofpaamjaaGreatDoor

namespace Go.Proofs.YtebjceofpaamjaaGreatDoor
open Go Go.Mh
set_option maxHeartbeats 0
set_option linter.unusedVariables false

/-! milestone/graph.Moved -/

def sh_graph_Moved_L2 (P : Program) (t47 t46 out5 by3 r2 t4 : Value) (K : Value → Heap → Prop) (t48 : Value) (h_14 : Heap) (Z_1 : Value → Heap → Prop) : Prop :=
  pBin .lss t48 t47 fun t49 =>
  ifV t49
  (pIdx 3 t46 t48 fun t51 =>
  pLoadN 3 h_14 t51 fun t52 =>
  pBox T_api_Arc (.agg #[(.int .i64 0), (.int .i64 0), (.int .i64 0)]) h_14 fun a9 h_15 =>
  pStore 3 a9 t52 h_15 fun u_4 h_16 =>
  pField 3 out5 fun t53 =>
  pLoad h_16 t53 fun t54 =>
  pField 3 out5 fun t56 =>
  pLoad h_16 t56 fun t57 =>
  pField 0 a9 fun t60 =>
  pLoad h_16 t60 fun t61 =>
  pField 1 a9 fun t64 =>
  pLoad h_16 t64 fun t65 =>
  callV P (.func (.func F_graph_Moved_1) #[] #[by3, r2]) [t61].toArray h_16 fun t62 h_17 =>
  (pLoad h_17 t53 fun t54_1 =>
  t54_1 = t54) ∧
  (pLoad h_17 t56 fun t57_1 =>
  t57_1 = t57) ∧
  (pLoad h_17 t64 fun t65_1 =>
  t65_1 = t65) ∧
  (callV P (.func (.func F_graph_Moved_1) #[] #[by3, r2]) [t65].toArray h_17 fun t66 h_18 =>
  (pLoad h_18 t53 fun t54_2 =>
  t54_2 = t54) ∧
  (pLoad h_18 t56 fun t57_2 =>
  t57_2 = t57) ∧
  (pIdx 3 t54 t48 fun t67 =>
  pField 0 t67 fun t68 =>
  pStore 1 t68 t62 h_18 fun u_5 h_19 =>
  (pLoad h_19 t56 fun t57_3 =>
  t57_3 = t57) ∧
  (pIdx 3 t57 t48 fun t69 =>
  pField 1 t69 fun t70 =>
  pStore 1 t70 t66 h_19 fun u_6 h_20 =>
  pBin .add t48 (.int .i64 1) fun t71 =>
  Z_1 t71 h_20))))
  (pLoadN 4 h_14 out5 fun t72 =>
  pStore 4 t4 t72 h_14 fun u_7 h_21 =>
  pLoadN 4 h_21 t4 fun res_1 =>
  K res_1 h_21)

def sh_graph_Moved_L1 (P : Program) (t18 out5 r2 by3 t4 : Value) (K : Value → Heap → Prop) (t19 : Value) (h_9 : Heap) (Z : Value → Heap → Prop) : Prop :=
  pBin .lss t19 t18 fun t20 =>
  ifV t20
  (pField 1 out5 fun t22 =>
  pLoad h_9 t22 fun t23 =>
  pField 2 out5 fun t27 =>
  pLoad h_9 t27 fun t28 =>
  pField 1 r2 fun t32 =>
  pLoad h_9 t32 fun t33 =>
  pIdx 1 t33 t19 fun t35 =>
  pLoad h_9 t35 fun t36 =>
  pField 2 r2 fun t37 =>
  pLoad h_9 t37 fun t38 =>
  pIdx 1 t38 t19 fun t40 =>
  pLoad h_9 t40 fun t41 =>
  callV P (.func (.func F_graph_Moved_1) #[] #[by3, r2]) [t19].toArray h_9 fun t26 h_10 =>
  (pLoad h_10 t22 fun t23_1 =>
  t23_1 = t23) ∧
  (pLoad h_10 t27 fun t28_1 =>
  t28_1 = t28) ∧
  (pLoad h_10 t32 fun t33_1 =>
  t33_1 = t33) ∧
  (pLoad h_10 t35 fun t36_1 =>
  t36_1 = t36) ∧
  (pLoad h_10 t37 fun t38_1 =>
  t38_1 = t38) ∧
  (pLoad h_10 t40 fun t41_1 =>
  t41_1 = t41) ∧
  (callV P (.func (.func F_graph_Moved_1) #[] #[by3, r2]) [t19].toArray h_10 fun t31 h_11 =>
  (pLoad h_11 t22 fun t23_2 =>
  t23_2 = t23) ∧
  (pLoad h_11 t27 fun t28_2 =>
  t28_2 = t28) ∧
  (pLoad h_11 t32 fun t33_2 =>
  t33_2 = t33) ∧
  (pLoad h_11 t35 fun t36_2 =>
  t36_2 = t36) ∧
  (pLoad h_11 t37 fun t38_2 =>
  t38_2 = t38) ∧
  (pLoad h_11 t40 fun t41_2 =>
  t41_2 = t41) ∧
  (pIdx 1 t23 t26 fun t42 =>
  pStore 1 t42 t36 h_11 fun u_2 h_12 =>
  (pLoad h_12 t27 fun t28_3 =>
  t28_3 = t28) ∧
  (pIdx 1 t28 t31 fun t43 =>
  pStore 1 t43 t41 h_12 fun u_3 h_13 =>
  pBin .add t19 (.int .i64 1) fun t44 =>
  Z t44 h_13))))
  (pField 3 r2 fun t45 =>
  pLoad h_9 t45 fun t46 =>
  pLen t46 fun t47 =>
  LoopH (σ := Vals [48]) (fun x hh ZZ => sh_graph_Moved_L2 P t47 t46 out5 by3 r2 t4 K x.1 hh (fun a0 hz => ZZ (a0, ()) hz)) ((.int .i64 0), ()) h_9)

def sh_graph_Moved (P : Program) (r0 by1 : Value) (h : Heap) (K : Value → Heap → Prop) : Prop :=
  pBox T_api_Raw r0 h fun r2 h_1 =>
  pBox T_int by1 h_1 fun by3 h_2 =>
  pBox T_api_Raw (.agg #[(.int .i64 0), (.slice none 0 0), (.slice none 0 0), (.slice none 0 0)]) h_2 fun t4 h_3 =>
  pLoadN 4 h_3 r2 fun t10 =>
  callS P F_graph_copied [t10] h_3 fun t11 h_4 =>
  pBox T_api_Raw (.agg #[(.int .i64 0), (.slice none 0 0), (.slice none 0 0), (.slice none 0 0)]) h_4 fun out5 h_5 =>
  pStore 4 out5 t11 h_5 fun u h_6 =>
  pLoadN 4 h_6 r2 fun t12 =>
  callS P F_graph_Check [t12] h_6 fun t13 h_7 =>
  pEq true .iface t13 .nilIface fun t14 =>
  ifV t14
  (pLoadN 4 h_7 out5 fun t15 =>
  pStore 4 t4 t15 h_7 fun u_1 h_8 =>
  pLoadN 4 h_8 t4 fun res =>
  K res h_8)
  (pField 0 r2 fun t17 =>
  pLoad h_7 t17 fun t18 =>
  LoopH (σ := Vals [19]) (fun x hh ZZ => sh_graph_Moved_L1 P t18 out5 r2 by3 t4 K x.1 hh (fun a0 hz => ZZ (a0, ()) hz)) ((.int .i64 0), ()) h_7)

set_option maxRecDepth 100000 in
theorem lk_graph_Moved (r0 by1 : Value) {h : Heap} {K : Value → Heap → Prop} (H : sh_graph_Moved Tryz.prog r0 by1 h K) : CallsH Tryz.prog F_graph_Moved [r0, by1].toArray h K :=
  callsH_of (ann := (annG (Tryz.f23.body.getD .skip) 0 [(8, [19]), (15, [48])]).1) (c := Tryz.f23.body.getD .skip) Tryz.func23 (by kernel_rfl) (by kernel_rfl) (by kernel_rfl) (of_decide_eq_true (by kernel_rfl))
    (Eq.mpr (by kernel_rfl) H)

/-! milestone/milestonelaw10.moved -/

def sh_milestonelaw10_moved (P : Program) (v0 by1 n2 : Value) (h : Heap) (K : Value → Heap → Prop) : Prop :=
  pBin .add v0 by1 fun t9 =>
  pBin .rem t9 n2 fun t11 =>
  pBin .add t11 n2 fun t13 =>
  pBin .rem t13 n2 fun t15 =>
  K t15 h

set_option maxRecDepth 100000 in
theorem lk_milestonelaw10_moved (v0 by1 n2 : Value) {h : Heap} {K : Value → Heap → Prop} (H : sh_milestonelaw10_moved Tryz.prog v0 by1 n2 h K) : CallsH Tryz.prog F_milestonelaw10_moved [v0, by1, n2].toArray h K :=
  callsH_of (ann := (annG (Tryz.f24.body.getD .skip) 0 []).1) (c := Tryz.f24.body.getD .skip) Tryz.func24 (by kernel_rfl) (by kernel_rfl) (by kernel_rfl) (of_decide_eq_true (by kernel_rfl))
    (Eq.mpr (by kernel_rfl) H)

/-! (*milestone/milestoneref07.Draft).Raw -/

def sh_milestoneref07_Draft_Raw_k7 (P : Program) (i8 : Value) (Z_2 : Value → Heap → Prop) (h_52 : Heap) : Prop :=
  pBin .add i8 (.int .i64 1) fun t83 =>
  Z_2 t83 h_52

def sh_milestoneref07_Draft_Raw_C6 (P : Program) (g3 d0 i8 : Value) (Z_2 : Value → Heap → Prop) (a9_4 : Value) (h_44 : Heap) : Prop :=
  pField 3 g3 fun t95 =>
  pLoad h_44 t95 fun t96 =>
  pLoadN 3 h_44 a9_4 fun t97 =>
  pBuildSlice T_api_Arc (zerosL [(.int .i64 0), (.int .i64 0), (.int .i64 0)] 1) [(0, 3, t97)] 1 h_44 fun t98 h_45 =>
  pAppend T_api_Arc 3 24 [(.int .i64 0), (.int .i64 0), (.int .i64 0)] t96 t98 h_45 fun t99 h_46 =>
  pField 3 g3 fun t100 =>
  pStore 1 t100 t99 h_46 fun u_10 h_47 =>
  callS P F_milestoneref07_Draft_Next [d0, (.int .i64 4)] h_47 fun t102 h_48 =>
  pBin .eql t102 (.int .i64 0) fun t103 =>
  ifV t103
  (pField 3 g3 fun t104 =>
  pLoad h_48 t104 fun t105 =>
  pField 1 a9_4 fun t106 =>
  pLoad h_48 t106 fun t107 =>
  pField 0 a9_4 fun t108 =>
  pLoad h_48 t108 fun t109 =>
  pField 2 a9_4 fun t110 =>
  pLoad h_48 t110 fun t111 =>
  pBuild [(.int .i64 0), (.int .i64 0), (.int .i64 0)] [(0, 1, t107), (1, 1, t109), (2, 1, t111)] fun t112 =>
  pBuildSlice T_api_Arc (zerosL [(.int .i64 0), (.int .i64 0), (.int .i64 0)] 1) [(0, 3, t112)] 1 h_48 fun t113 h_49 =>
  pAppend T_api_Arc 3 24 [(.int .i64 0), (.int .i64 0), (.int .i64 0)] t105 t113 h_49 fun t114 h_50 =>
  pField 3 g3 fun t115 =>
  pStore 1 t115 t114 h_50 fun u_11 h_51 =>
  sh_milestoneref07_Draft_Raw_k7 P i8 Z_2 h_51)
  (sh_milestoneref07_Draft_Raw_k7 P i8 Z_2 h_48)

def sh_milestoneref07_Draft_Raw_L5 (P : Program) (t52 g3 d0 t2 : Value) (K : Value → Heap → Prop) (i8 : Value) (h_26 : Heap) (Z_2 : Value → Heap → Prop) : Prop :=
  pBin .lss i8 t52 fun t81 =>
  ifV t81
  (cutP (σ := Vals [9]) (fun J =>
  pField 0 g3 fun t85 =>
  pLoad h_26 t85 fun t86 =>
  pField 0 g3 fun t89 =>
  pLoad h_26 t89 fun t90 =>
  (callS P F_milestoneref07_Draft_Next [d0, t86] h_26 fun t87 h_27 =>
  (pLoad h_27 t89 fun t90_1 =>
  t90_1 = t90) ∧
  ((callS P F_milestoneref07_Draft_Next [d0, t90] h_27 fun t91 h_28 =>
  (callS P F_milestoneref07_Draft_Weight [d0] h_28 fun t93 h_29 =>
  pBuild [(.int .i64 0), (.int .i64 0), (.int .i64 0)] [(0, 1, t87), (1, 1, t91), (2, 1, t93)] fun t94 =>
  pBox T_api_Arc (.agg #[(.int .i64 0), (.int .i64 0), (.int .i64 0)]) h_29 fun a9 h_30 =>
  pStore 3 a9 t94 h_30 fun u_6 h_31 =>
  J (a9, ()) h_31) ∧
  (pBox T_api_Arc (.agg #[(.int .i64 0), (.int .i64 0), (.int .i64 0)]) h_28 fun a9_1 h_32 =>
  callS P F_milestoneref07_Draft_Weight [d0] h_32 fun t93_1 h_33 =>
  pBuild [(.int .i64 0), (.int .i64 0), (.int .i64 0)] [(0, 1, t87), (1, 1, t91), (2, 1, t93_1)] fun t94_1 =>
  pStore 3 a9_1 t94_1 h_33 fun u_7 h_34 =>
  J (a9_1, ()) h_34)) ∧
  (pBox T_api_Arc (.agg #[(.int .i64 0), (.int .i64 0), (.int .i64 0)]) h_27 fun a9_2 h_35 =>
  callS P F_milestoneref07_Draft_Next [d0, t90] h_35 fun t91_1 h_36 =>
  callS P F_milestoneref07_Draft_Weight [d0] h_36 fun t93_2 h_37 =>
  pBuild [(.int .i64 0), (.int .i64 0), (.int .i64 0)] [(0, 1, t87), (1, 1, t91_1), (2, 1, t93_2)] fun t94_2 =>
  pStore 3 a9_2 t94_2 h_37 fun u_8 h_38 =>
  J (a9_2, ()) h_38))) ∧
  (pBox T_api_Arc (.agg #[(.int .i64 0), (.int .i64 0), (.int .i64 0)]) h_26 fun a9_3 h_39 =>
  callS P F_milestoneref07_Draft_Next [d0, t86] h_39 fun t87_1 h_40 =>
  (pLoad h_40 t89 fun t90_2 =>
  t90_2 = t90) ∧
  (callS P F_milestoneref07_Draft_Next [d0, t90] h_40 fun t91_2 h_41 =>
  callS P F_milestoneref07_Draft_Weight [d0] h_41 fun t93_3 h_42 =>
  pBuild [(.int .i64 0), (.int .i64 0), (.int .i64 0)] [(0, 1, t87_1), (1, 1, t91_2), (2, 1, t93_3)] fun t94_3 =>
  pStore 3 a9_3 t94_3 h_42 fun u_9 h_43 =>
  J (a9_3, ()) h_43)))
  (fun x hh => sh_milestoneref07_Draft_Raw_C6 P g3 d0 i8 Z_2 x.1 hh))
  (pLoadN 4 h_26 g3 fun t116 =>
  pStore 4 t2 t116 h_26 fun u_12 h_53 =>
  pLoadN 4 h_53 t2 fun res =>
  K res h_53)

def sh_milestoneref07_Draft_Raw_k4 (P : Program) (t52 g3 d0 t2 : Value) (K : Value → Heap → Prop) (h_25 : Heap) : Prop :=
  LoopH (σ := Vals [8]) (fun x hh ZZ => sh_milestoneref07_Draft_Raw_L5 P t52 g3 d0 t2 K x.1 hh (fun a0 hz => ZZ (a0, ()) hz)) ((.int .i64 0), ()) h_25

def sh_milestoneref07_Draft_Raw_L3 (P : Program) (g3 t55 d0 t52 t2 : Value) (K : Value → Heap → Prop) (v7 : Value) (h_20 : Heap) (Z_1 : Value → Heap → Prop) : Prop :=
  pField 0 g3 fun t57 =>
  pLoad h_20 t57 fun t58 =>
  pBin .lss v7 t58 fun t59 =>
  ifV t59
  (ifV t55
  (pField 3 g3 fun t65 =>
  pLoad h_20 t65 fun t66 =>
  pBin .add v7 (.int .i64 1) fun t69 =>
  pField 0 g3 fun t70 =>
  pLoad h_20 t70 fun t71 =>
  pBin .rem t69 t71 fun t72 =>
  callS P F_milestoneref07_Draft_Weight [d0] h_20 fun t74 h_21 =>
  (pLoad h_21 t65 fun t66_1 =>
  t66_1 = t66) ∧
  (pLoad h_21 t70 fun t71_1 =>
  t71_1 = t71) ∧
  (pBuild [(.int .i64 0), (.int .i64 0), (.int .i64 0)] [(0, 1, v7), (1, 1, t72), (2, 1, t74)] fun t75 =>
  pBuildSlice T_api_Arc (zerosL [(.int .i64 0), (.int .i64 0), (.int .i64 0)] 1) [(0, 3, t75)] 1 h_21 fun t76 h_22 =>
  pAppend T_api_Arc 3 24 [(.int .i64 0), (.int .i64 0), (.int .i64 0)] t66 t76 h_22 fun t77 h_23 =>
  pField 3 g3 fun t78 =>
  pStore 1 t78 t77 h_23 fun u_5 h_24 =>
  pBin .add v7 (.int .i64 1) fun t64 =>
  Z_1 t64 h_24))
  (sh_milestoneref07_Draft_Raw_k4 P t52 g3 d0 t2 K h_20))
  (sh_milestoneref07_Draft_Raw_k4 P t52 g3 d0 t2 K h_20)

def sh_milestoneref07_Draft_Raw_k2 (P : Program) (g3 d0 t2 : Value) (K : Value → Heap → Prop) (h_17 : Heap) : Prop :=
  pField 0 g3 fun t48 =>
  pLoad h_17 t48 fun t49 =>
  pBin .mul (.int .i64 3) t49 fun t50 =>
  pBin .add t50 (.int .i64 1) fun t51 =>
  callS P F_milestoneref07_Draft_Next [d0, t51] h_17 fun t52 h_18 =>
  callS P F_milestoneref07_Draft_Next [d0, (.int .i64 3)] h_18 fun t54 h_19 =>
  pBin .gtr t54 (.int .i64 0) fun t55 =>
  LoopH (σ := Vals [7]) (fun x hh ZZ => sh_milestoneref07_Draft_Raw_L3 P g3 t55 d0 t52 t2 K x.1 hh (fun a0 hz => ZZ (a0, ()) hz)) ((.int .i64 0), ()) h_19

def sh_milestoneref07_Draft_Raw_L1 (P : Program) (g3 d0 t2 : Value) (K : Value → Heap → Prop) (v4 : Value) (h_5 : Heap) (Z : Value → Heap → Prop) : Prop :=
  pField 0 g3 fun t15 =>
  pLoad h_5 t15 fun t16 =>
  pBin .lss v4 t16 fun t17 =>
  ifV t17
  (pField 1 g3 fun t20 =>
  pLoad h_5 t20 fun t21 =>
  callS P F_milestoneref07_Draft_Next [d0, (.int .i64 9)] h_5 fun t23 h_6 =>
  (pLoad h_6 t20 fun t21_1 =>
  t21_1 = t21) ∧
  (pBin .sub t23 (.int .i64 3) fun t24 =>
  pBuildSlice T_int64 (zerosL [(.int .i64 0)] 1) [(0, 1, t24)] 1 h_6 fun t25 h_7 =>
  pAppend T_int64 1 8 [(.int .i64 0)] t21 t25 h_7 fun t26 h_8 =>
  pField 1 g3 fun t27 =>
  pStore 1 t27 t26 h_8 fun u_1 h_9 =>
  pField 2 g3 fun t28 =>
  pLoad h_9 t28 fun t29 =>
  callS P F_milestoneref07_Draft_Next [d0, (.int .i64 7)] h_9 fun t31 h_10 =>
  (pLoad h_10 t28 fun t29_1 =>
  t29_1 = t29) ∧
  (pBuildSlice T_int64 (zerosL [(.int .i64 0)] 1) [(0, 1, t31)] 1 h_10 fun t32 h_11 =>
  pAppend T_int64 1 8 [(.int .i64 0)] t29 t32 h_11 fun t33 h_12 =>
  pField 2 g3 fun t34 =>
  pStore 1 t34 t33 h_12 fun u_2 h_13 =>
  pBin .add v4 (.int .i64 1) fun t19 =>
  Z t19 h_13)))
  (callS P F_milestoneref07_Draft_Next [d0, (.int .i64 9)] h_5 fun t36 h_14 =>
  pBin .eql t36 (.int .i64 0) fun t37 =>
  ifV t37
  (pField 1 g3 fun t38 =>
  pLoad h_14 t38 fun t39 =>
  pIdx 1 t39 (.int .i64 0) fun t40 =>
  pStore 1 t40 (.int .i64 (-2147483648)) h_14 fun u_3 h_15 =>
  pField 2 g3 fun t41 =>
  pLoad h_15 t41 fun t42 =>
  pField 0 g3 fun t43 =>
  pLoad h_15 t43 fun t44 =>
  pBin .sub t44 (.int .i64 1) fun t45 =>
  pIdx 1 t42 t45 fun t46 =>
  pStore 1 t46 (.int .i64 2147483647) h_15 fun u_4 h_16 =>
  sh_milestoneref07_Draft_Raw_k2 P g3 d0 t2 K h_16)
  (sh_milestoneref07_Draft_Raw_k2 P g3 d0 t2 K h_14))

def sh_milestoneref07_Draft_Raw (P : Program) (d0 : Value) (h : Heap) (K : Value → Heap → Prop) : Prop :=
  pBox T_api_Raw (.agg #[(.int .i64 0), (.slice none 0 0), (.slice none 0 0), (.slice none 0 0)]) h fun t2 h_1 =>
  callS P F_milestoneref07_Draft_Next [d0, (.int .i64 12)] h_1 fun t11 h_2 =>
  pBin .add (.int .i64 1) t11 fun t12 =>
  pBuild [(.int .i64 0), (.slice none 0 0), (.slice none 0 0), (.slice none 0 0)] [(0, 1, t12)] fun t13 =>
  pBox T_api_Raw (.agg #[(.int .i64 0), (.slice none 0 0), (.slice none 0 0), (.slice none 0 0)]) h_2 fun g3 h_3 =>
  pStore 4 g3 t13 h_3 fun u h_4 =>
  LoopH (σ := Vals [4]) (fun x hh ZZ => sh_milestoneref07_Draft_Raw_L1 P g3 d0 t2 K x.1 hh (fun a0 hz => ZZ (a0, ()) hz)) ((.int .i64 0), ()) h_4

set_option maxRecDepth 100000 in
theorem lk_milestoneref07_Draft_Raw (d0 : Value) {h : Heap} {K : Value → Heap → Prop} (H : sh_milestoneref07_Draft_Raw Tryz.prog d0 h K) : CallsH Tryz.prog F_milestoneref07_Draft_Raw [d0].toArray h K :=
  callsH_of (ann := (annG (Tryz.f25.body.getD .skip) 0 [(4, [4]), (16, [7]), (22, [8]), (26, [9])]).1) (c := Tryz.f25.body.getD .skip) Tryz.func25 (by kernel_rfl) (by kernel_rfl) (by kernel_rfl) (of_decide_eq_true (by kernel_rfl))
    (Eq.mpr (by kernel_rfl) H)

/-! milestone/graph.Check -/

def sh_graph_Check (P : Program) (r0 : Value) (h : Heap) (K : Value → Heap → Prop) : Prop :=
  pBox T_api_Raw r0 h fun r1 h_1 =>
  pBox T_error .nilIface h_1 fun err2 h_2 =>
  pLoadN 4 h_2 r1 fun t4 =>
  callS P F_graph_look [t4] h_2 fun t5 h_3 =>
  pStore 1 err2 .nilIface h_3 fun u h_4 =>
  DeferS P F_graph_Check_1 #[err2] h_4 fun h_5 =>
  pLoad h_5 err2 fun res =>
  K res h_5

set_option maxRecDepth 100000 in
theorem lk_graph_Check (r0 : Value) {h : Heap} {K : Value → Heap → Prop} (H : sh_graph_Check Tryz.prog r0 h K) : CallsH Tryz.prog F_graph_Check [r0].toArray h K :=
  callsH_defer (g := F_graph_Check_1) (A := cL (Tryz.f26.body.getD .skip)) (B := cR (cR (Tryz.f26.body.getD .skip))) (annA := (annG (cL (Tryz.f26.body.getD .skip)) 0 []).1) (annB := (annG (cR (cR (Tryz.f26.body.getD .skip))) 0 []).1) (id := cId (cL (cR (Tryz.f26.body.getD .skip)))) (o1 := cO 0 (cL (cR (Tryz.f26.body.getD .skip)))) (o2 := cO 1 (cL (cR (Tryz.f26.body.getD .skip)))) (s := 3) (caps := #[(.tmp 2)]) (c := { callee := .value (.tmp 3), args := #[], argTypes := #[] })
    Tryz.func26 (by kernel_rfl) (by kernel_rfl) (by kernel_rfl) (of_decide_eq_true (by kernel_rfl)) (by kernel_rfl) (by kernel_rfl) (by kernel_rfl) (by kernel_rfl) rfl rfl (by kernel_rfl) (by kernel_rfl)
    (Eq.mpr (by kernel_rfl) H)

/-! milestone/net.of -/

def sh_net_of (P : Program) (raw0 : Value) (h : Heap) (K : Value → Heap → Prop) : Prop :=
  pBox T_api_Raw raw0 h fun raw1 h_1 =>
  pLoadN 4 h_1 raw1 fun t5 =>
  pBuild [(.int .i64 0), (.slice none 0 0), (.slice none 0 0), (.slice none 0 0), (.slice none 0 0), (.slice none 0 0)] [(0, 4, t5)] fun t6 =>
  pBox T_net_Net t6 h_1 fun t7 h_2 =>
  callV P (.func (.func F_net_of_1) #[] #[raw1]) [(.func (.func F_net_of_2) #[] #[])].toArray h_2 fun t12 h_3 =>
  callV P (.func (.func F_net_of_1) #[] #[raw1]) [(.func (.func F_net_of_3) #[] #[])].toArray h_3 fun t14 h_4 =>
  pNil t7 fun t15 =>
  pField 4 t15 fun t16 =>
  pStore 1 t16 t12 h_4 fun u h_5 =>
  pNil t7 fun t17 =>
  pField 5 t17 fun t18 =>
  pStore 1 t18 t14 h_5 fun u_1 h_6 =>
  K t7 h_6

set_option maxRecDepth 100000 in
theorem lk_net_of (raw0 : Value) {h : Heap} {K : Value → Heap → Prop} (H : sh_net_of Tryz.prog raw0 h K) : CallsH Tryz.prog F_net_of [raw0].toArray h K :=
  callsH_of (ann := (annG (Tryz.f28.body.getD .skip) 0 []).1) (c := Tryz.f28.body.getD .skip) Tryz.func28 (by kernel_rfl) (by kernel_rfl) (by kernel_rfl) (of_decide_eq_true (by kernel_rfl))
    (Eq.mpr (by kernel_rfl) H)

/-! milestone/net.own -/

def sh_net_own (P : Program) (raw0 : Value) (h : Heap) (K : Value → Heap → Prop) : Prop :=
  pBox T_api_Raw raw0 h fun raw1 h_1 =>
  pBox T_api_Raw (.agg #[(.int .i64 0), (.slice none 0 0), (.slice none 0 0), (.slice none 0 0)]) h_1 fun t2 h_2 =>
  pField 1 raw1 fun t3 =>
  pLoad h_2 t3 fun t4 =>
  pField 2 raw1 fun t6 =>
  pLoad h_2 t6 fun t7 =>
  pField 3 raw1 fun t9 =>
  pLoad h_2 t9 fun t10 =>
  callS P F_slices_Clone_sl_int64_int64 [t4] h_2 fun t5 h_3 =>
  (pLoad h_3 t6 fun t7_1 =>
  t7_1 = t7) ∧
  (pLoad h_3 t9 fun t10_1 =>
  t10_1 = t10) ∧
  (pField 1 raw1 fun t12 =>
  callS P F_slices_Clone_sl_int64_int64 [t7] h_3 fun t8 h_4 =>
  (pLoad h_4 t9 fun t10_2 =>
  t10_2 = t10) ∧
  (callS P F_slices_Clone_sl_api_Arc_api_Arc [t10] h_4 fun t11 h_5 =>
  pStore 1 t12 t5 h_5 fun u h_6 =>
  pField 2 raw1 fun t13 =>
  pStore 1 t13 t8 h_6 fun u_1 h_7 =>
  pField 3 raw1 fun t14 =>
  pStore 1 t14 t11 h_7 fun u_2 h_8 =>
  pLoadN 4 h_8 raw1 fun t15 =>
  pStore 4 t2 t15 h_8 fun u_3 h_9 =>
  pLoadN 4 h_9 t2 fun res =>
  K res h_9))

set_option maxRecDepth 100000 in
theorem lk_net_own (raw0 : Value) {h : Heap} {K : Value → Heap → Prop} (H : sh_net_own Tryz.prog raw0 h K) : CallsH Tryz.prog F_net_own [raw0].toArray h K :=
  callsH_of (ann := (annG (Tryz.f29.body.getD .skip) 0 []).1) (c := Tryz.f29.body.getD .skip) Tryz.func29 (by kernel_rfl) (by kernel_rfl) (by kernel_rfl) (of_decide_eq_true (by kernel_rfl))
    (Eq.mpr (by kernel_rfl) H)

/-! milestone/milestoneref07.Ints -/

def sh_milestoneref07_Ints_L1 (P : Program) (a0 b1 : Value) (K : Value → Heap → Prop) (i5 : Value) (h_1 : Heap) (Z : Value → Heap → Prop) : Prop :=
  pLen a0 fun t13 =>
  pBin .lss i5 t13 fun t14 =>
  ifV t14
  (pIdx 1 a0 i5 fun t19 =>
  pLoad h_1 t19 fun t20 =>
  pIdx 1 b1 i5 fun t23 =>
  pLoad h_1 t23 fun t24 =>
  pBin .neq t20 t24 fun t25 =>
  ifV t25
  (K (.bool false) h_1)
  (pBin .add i5 (.int .i64 1) fun t16 =>
  Z t16 h_1))
  (K (.bool true) h_1)

def sh_milestoneref07_Ints (P : Program) (a0 b1 : Value) (h : Heap) (K : Value → Heap → Prop) : Prop :=
  pLen a0 fun t7 =>
  pLen b1 fun t9 =>
  pBin .neq t7 t9 fun t10 =>
  ifV t10
  (K (.bool false) h)
  (LoopH (σ := Vals [5]) (fun x hh ZZ => sh_milestoneref07_Ints_L1 P a0 b1 K x.1 hh (fun a0 hz => ZZ (a0, ()) hz)) ((.int .i64 0), ()) h)

set_option maxRecDepth 100000 in
theorem lk_milestoneref07_Ints (a0 b1 : Value) {h : Heap} {K : Value → Heap → Prop} (H : sh_milestoneref07_Ints Tryz.prog a0 b1 h K) : CallsH Tryz.prog F_milestoneref07_Ints [a0, b1].toArray h K :=
  callsH_of (ann := (annG (Tryz.f30.body.getD .skip) 0 [(6, [5])]).1) (c := Tryz.f30.body.getD .skip) Tryz.func30 (by kernel_rfl) (by kernel_rfl) (by kernel_rfl) (of_decide_eq_true (by kernel_rfl))
    (Eq.mpr (by kernel_rfl) H)

/-! milestone/flood.flood -/

def sh_flood_flood_k1 (P : Program) (t8 : Value) (K : Value → Heap → Prop) (h_2 : Heap) : Prop :=
  pBuild [(.slice none 0 0), (.slice none 0 0), (.slice none 0 0)] [] fun t27 =>
  pStore 3 t8 t27 h_2 fun u h_3 =>
  pLoadN 3 h_3 t8 fun res =>
  K res h_3

def sh_flood_flood_B3 (P : Program) (h_28 : Heap) (r9 key11_1 : Value) (L : Loop) (t101 t102 : Value) (h_29 : Heap) (R : Exit → Heap → Prop) : Prop :=
  pBox T_api_Arc (.agg #[(.int .i64 0), (.int .i64 0), (.int .i64 0)]) h_29 fun a14 h_30 =>
  pStore 3 a14 t102 h_30 fun u_6 h_31 =>
  beginR (h_28.size + 1) L h_31 fun h_32 =>
  pLoad h_32 r9 fun t103 =>
  pField 1 a14 fun t104 =>
  pLoad h_32 t104 fun t105 =>
  pLoad h_32 key11_1 fun t107 =>
  pField 2 a14 fun t108 =>
  pLoad h_32 t108 fun t109 =>
  pBin .add t107 t109 fun t110 =>
  callS P F_flood_run_reach [t103, t105, t101, t110] h_32 fun t111 h_33 =>
  R .normal h_33

def sh_flood_flood_L2 (P : Program) (r9 next2 n0 end3 t8 : Value) (K : Value → Heap → Prop) (m : List Nat) (v10 key11_1 is12 : Value) (h_21 : Heap) (Z : List Nat → Value → Value → Value → Heap → Prop) : Prop :=
  ifV is12
  (pLoad h_21 r9 fun t68 =>
  pNil t68 fun t69 =>
  pField 4 t69 fun t70 =>
  pLoad h_21 t70 fun t71 =>
  pLook (.int .i64) (.int .i64 0) false h_21 t71 v10 fun t73 =>
  pBin .add t73 (.int .i64 1) fun t74 =>
  pMapSet (.int .i64) t71 v10 t74 h_21 fun u_3 h_22 =>
  pLoad h_22 r9 fun t75 =>
  pNil t75 fun t76 =>
  pField 1 t76 fun t77 =>
  pField 0 t77 fun t78 =>
  pLoad h_22 t78 fun t79 =>
  pLoad h_22 key11_1 fun t81 =>
  pIdx 1 t79 v10 fun t82 =>
  pStore 1 t82 t81 h_22 fun u_4 h_23 =>
  pLoad h_23 r9 fun t83 =>
  pLoad h_23 r9 fun t84 =>
  pNil t84 fun t85 =>
  pField 1 t85 fun t86 =>
  pField 2 t86 fun t87 =>
  pLoad h_23 t87 fun t88 =>
  pBuildSlice T_int (zerosL [(.int .i64 0)] 1) [(0, 1, v10)] 1 h_23 fun t90 h_24 =>
  pAppend T_int 1 8 [(.int .i64 0)] t88 t90 h_24 fun t91 h_25 =>
  (pLoad h_25 r9 fun t83_1 =>
  t83_1 = t83) ∧
  (pNil t83 fun t92 =>
  pField 1 t92 fun t93 =>
  pField 2 t93 fun t94 =>
  pStore 1 t94 t91 h_25 fun u_5 h_26 =>
  callV P next2 [v10].toArray h_26 fun t98 h_27 =>
  callS P F_flood_arcs [n0, t98, end3] h_27 fun t100 h_28 =>
  rangeH P t100 [101, 102] (h_28.size + 1) (h_28.push (.deferred (some []))) (fun L x hh R => sh_flood_flood_B3 P h_28 r9 key11_1 L x.1 x.2.1 hh R)
  (fun h_34 => pLoad h_34 key11_1 fun t112 =>
  pBox T_int64 (.int .i64 0) h_34 fun key11_2 h_35 =>
  pStore 1 key11_2 t112 h_35 fun u_7 h_36 =>
  pLoad h_36 r9 fun t60 =>
  pNil t60 fun t61 =>
  pField 0 t61 fun t62 =>
  pLoad h_36 t62 fun t63 =>
  callS P F_heap_Heap_Pop [t63] h_36 fun t64 h_37 =>
  pExt t64 0 fun t65 =>
  pExt t64 1 fun t66 =>
  pExt t64 2 fun t67 =>
  pStore 1 key11_2 t66 h_37 fun u_8 h_38 =>
  Z (h_28.size :: m) t65 key11_2 t67 h_38)
  (fun h_39 => takeM (h_28.size :: m) h_39 fun h_40 =>
  pLoadN 3 h_40 t8 fun res_1 =>
  K res_1 h_40)
  []))
  (pLoad h_21 r9 fun t113 =>
  pNil t113 fun t114 =>
  pField 1 t114 fun t115 =>
  pLoadN 3 h_21 t115 fun t116 =>
  pStore 3 t8 t116 h_21 fun u_9 h_41 =>
  takeM m h_41 fun h_42 =>
  pLoadN 3 h_42 t8 fun res_2 =>
  K res_2 h_42)

def sh_flood_flood (P : Program) (n0 s1 next2 end3 : Value) (h : Heap) (K : Value → Heap → Prop) : Prop :=
  pBox T_flood_Tree (.agg #[(.slice none 0 0), (.slice none 0 0), (.slice none 0 0)]) h fun t8 h_1 =>
  pEq false .ptr n0 (.pointer none) fun t16 =>
  ifV t16
  (sh_flood_flood_k1 P t8 K h_1)
  (pBin .lss s1 (.int .i64 0) fun t19 =>
  ifV t19
  (sh_flood_flood_k1 P t8 K h_1)
  (callS P F_net_Net_Nodes [n0] h_1 fun t24 h_4 =>
  pBin .geq s1 t24 fun t25 =>
  ifV t25
  (sh_flood_flood_k1 P t8 K h_4)
  (callS P F_net_Net_Nodes [n0] h_4 fun t29 h_5 =>
  callS P F_heap_New [t29] h_5 fun t30 h_6 =>
  pBuildSlice T_int64 (zerosL [(.int .i64 0)] 1) [(0, 1, (.int .i64 72057594037927936))] 1 h_6 fun t31 h_7 =>
  callS P F_net_Net_Nodes [n0] h_7 fun t33 h_8 =>
  callS P F_slices_Repeat_sl_int64_int64 [t31, t33] h_8 fun t34 h_9 =>
  pBuildSlice T_int (zerosL [(.int .i64 0)] 1) [(0, 1, (.int .i64 (-1)))] 1 h_9 fun t35 h_10 =>
  callS P F_net_Net_Nodes [n0] h_10 fun t37 h_11 =>
  callS P F_slices_Repeat_sl_int_int [t35, t37] h_11 fun t38 h_12 =>
  pBuild [(.slice none 0 0), (.slice none 0 0), (.slice none 0 0)] [(0, 1, t34), (1, 1, t38)] fun t39 =>
  pMakeMap h_12 fun t40 h_13 =>
  pBuild [(.pointer none), (.slice none 0 0), (.slice none 0 0), (.slice none 0 0), (.map none)] [(0, 1, t30), (1, 3, t39), (4, 1, t40)] fun t41 =>
  pBox T_flood_run t41 h_13 fun t42 h_14 =>
  pBox T_p_flood_run (.pointer none) h_14 fun r9 h_15 =>
  pStore 1 r9 t42 h_15 fun u_1 h_16 =>
  pLoad h_16 r9 fun t43 =>
  pNil t43 fun t44 =>
  pField 0 t44 fun t45 =>
  pLoad h_16 t45 fun t46 =>
  callS P F_heap_Heap_Push [t46, s1, (.int .i64 0)] h_16 fun t48 h_17 =>
  pLoad h_17 r9 fun t50 =>
  pNil t50 fun t51 =>
  pField 0 t51 fun t52 =>
  pLoad h_17 t52 fun t53 =>
  callS P F_heap_Heap_Pop [t53] h_17 fun t54 h_18 =>
  pExt t54 0 fun t55 =>
  pExt t54 1 fun t56 =>
  pExt t54 2 fun t57 =>
  pBox T_int64 (.int .i64 0) h_18 fun key11 h_19 =>
  pStore 1 key11 t56 h_19 fun u_2 h_20 =>
  LoopH (σ := List Nat × Vals [10, 11, 12]) (fun x hh ZZ => sh_flood_flood_L2 P r9 next2 n0 end3 t8 K x.1 x.2.1 x.2.2.1 x.2.2.2.1 hh (fun mz a0 a1 a2 hz => ZZ (mz, (a0, (a1, (a2, ())))) hz)) ([], (t55, (key11, (t57, ())))) h_20)))

set_option maxRecDepth 100000 in
theorem lk_flood_flood (n0 s1 next2 end3 : Value) {h : Heap} {K : Value → Heap → Prop} (H : sh_flood_flood Tryz.prog n0 s1 next2 end3 h K) : CallsH Tryz.prog F_flood_flood [n0, s1, next2, end3].toArray h K :=
  callsH_of (ann := (annG (Tryz.f31.body.getD .skip) 0 [(8, [10, 11, 12])]).1) (c := Tryz.f31.body.getD .skip) Tryz.func31 (by kernel_rfl) (by kernel_rfl) (by kernel_rfl) (of_decide_eq_true (by kernel_rfl))
    (Eq.mpr (by kernel_rfl) H)

/-! (*milestone/net.Net).Out -/

def sh_net_Net_Out (P : Program) (n0 v1 : Value) (h : Heap) (K : Value → Heap → Prop) : Prop :=
  pEq false .ptr n0 (.pointer none) fun t8 =>
  ifV t8
  (K (.slice none 0 0) h)
  (pNil n0 fun t11 =>
  pField 4 t11 fun t12 =>
  pLoad h t12 fun t13 =>
  callS P F_net_one_sl_int [t13, v1] h fun t15 h_1 =>
  pExt t15 0 fun t16 =>
  pExt t15 1 fun t17 =>
  callS P F_slices_Clone_sl_int_int [t16] h_1 fun t19 h_2 =>
  K t19 h_2)

set_option maxRecDepth 100000 in
theorem lk_net_Net_Out (n0 v1 : Value) {h : Heap} {K : Value → Heap → Prop} (H : sh_net_Net_Out Tryz.prog n0 v1 h K) : CallsH Tryz.prog F_net_Net_Out [n0, v1].toArray h K :=
  callsH_of (ann := (annG (Tryz.f32.body.getD .skip) 0 []).1) (c := Tryz.f32.body.getD .skip) Tryz.func32 (by kernel_rfl) (by kernel_rfl) (by kernel_rfl) (of_decide_eq_true (by kernel_rfl))
    (Eq.mpr (by kernel_rfl) H)

/-! milestone/flood.From$1 -/

def sh_flood_From_1 (P : Program) (a0 : Value) (h : Heap) (K : Value → Heap → Prop) : Prop :=
  pBox T_api_Arc a0 h fun a1 h_1 =>
  pField 1 a1 fun t3 =>
  pLoad h_1 t3 fun t4 =>
  K t4 h_1

set_option maxRecDepth 100000 in
theorem lk_flood_From_1 (a0 : Value) {h : Heap} {K : Value → Heap → Prop} (H : sh_flood_From_1 Tryz.prog a0 h K) : CallsH Tryz.prog F_flood_From_1 [a0].toArray h K :=
  callsH_of (ann := (annG (Tryz.f33.body.getD .skip) 0 []).1) (c := Tryz.f33.body.getD .skip) Tryz.func33 (by kernel_rfl) (by kernel_rfl) (by kernel_rfl) (of_decide_eq_true (by kernel_rfl))
    (Eq.mpr (by kernel_rfl) H)

/-! milestone/milestoneref08.New -/

def sh_milestoneref08_New (P : Program) (n0 : Value) (h : Heap) (K : Value → Heap → Prop) : Prop :=
  pMax n0 (.int .i64 0) fun t4 =>
  pBuild [(.int .i64 0), (.slice none 0 0)] [(0, 1, t4)] fun t5 =>
  pBox T_milestoneref08_Heap t5 h fun t6 h_1 =>
  K t6 h_1

set_option maxRecDepth 100000 in
theorem lk_milestoneref08_New (n0 : Value) {h : Heap} {K : Value → Heap → Prop} (H : sh_milestoneref08_New Tryz.prog n0 h K) : CallsH Tryz.prog F_milestoneref08_New [n0].toArray h K :=
  callsH_of (ann := (annG (Tryz.f34.body.getD .skip) 0 []).1) (c := Tryz.f34.body.getD .skip) Tryz.func34 (by kernel_rfl) (by kernel_rfl) (by kernel_rfl) (of_decide_eq_true (by kernel_rfl))
    (Eq.mpr (by kernel_rfl) H)

/-! (*milestone/milestoneref08.Heap).Push -/

def sh_milestoneref08_Heap_Push_k1 (P : Program) (K : Value → Heap → Prop) (h_1 : Heap) : Prop :=
  K (.int .i64 2) h_1

def sh_milestoneref08_Heap_Push (P : Program) (h0 id1 key2 : Value) (h : Heap) (K : Value → Heap → Prop) : Prop :=
  pBin .lss id1 (.int .i64 0) fun t8 =>
  ifV t8
  (sh_milestoneref08_Heap_Push_k1 P K h)
  (pNil h0 fun t12 =>
  pField 0 t12 fun t13 =>
  pLoad h t13 fun t14 =>
  pBin .geq id1 t14 fun t15 =>
  ifV t15
  (sh_milestoneref08_Heap_Push_k1 P K h)
  (callS P F_milestoneref08_Heap_at [h0, id1] h fun t20 h_2 =>
  pBin .geq t20 (.int .i64 0) fun t21 =>
  ifV t21
  (sh_milestoneref08_Heap_Push_k1 P K h_2)
  (pNil h0 fun t25 =>
  pField 1 t25 fun t26 =>
  pLoad h_2 t26 fun t27 =>
  pBuild [(.int .i64 0), (.int .i64 0)] [(0, 1, id1), (1, 1, key2)] fun t30 =>
  pBuildSlice T_milestoneref08_Held (zerosL [(.int .i64 0), (.int .i64 0)] 1) [(0, 2, t30)] 1 h_2 fun t31 h_3 =>
  pAppend T_milestoneref08_Held 2 16 [(.int .i64 0), (.int .i64 0)] t27 t31 h_3 fun t32 h_4 =>
  pNil h0 fun t33 =>
  pField 1 t33 fun t34 =>
  pStore 1 t34 t32 h_4 fun u h_5 =>
  K (.int .i64 0) h_5)))

set_option maxRecDepth 100000 in
theorem lk_milestoneref08_Heap_Push (h0 id1 key2 : Value) {h : Heap} {K : Value → Heap → Prop} (H : sh_milestoneref08_Heap_Push Tryz.prog h0 id1 key2 h K) : CallsH Tryz.prog F_milestoneref08_Heap_Push [h0, id1, key2].toArray h K :=
  callsH_of (ann := (annG (Tryz.f35.body.getD .skip) 0 []).1) (c := Tryz.f35.body.getD .skip) Tryz.func35 (by kernel_rfl) (by kernel_rfl) (by kernel_rfl) (of_decide_eq_true (by kernel_rfl))
    (Eq.mpr (by kernel_rfl) H)

/-! (*milestone/milestoneref08.Heap).Pop -/

def sh_milestoneref08_Heap_Pop (P : Program) (h0 : Value) (h : Heap) (K : Value → Heap → Prop) : Prop :=
  callS P F_milestoneref08_Heap_least [h0] h fun t8 h_1 =>
  pBin .lss t8 (.int .i64 0) fun t10 =>
  ifV t10
  (K (.tuple #[(.int .i64 0), (.int .i64 0), (.bool false)]) h_1)
  (pNil h0 fun t12 =>
  pField 1 t12 fun t13 =>
  pLoad h_1 t13 fun t14 =>
  pIdx 2 t14 t8 fun t16 =>
  pLoadN 2 h_1 t16 fun t17 =>
  pBox T_milestoneref08_Held (.agg #[(.int .i64 0), (.int .i64 0)]) h_1 fun x6 h_2 =>
  pStore 2 x6 t17 h_2 fun u h_3 =>
  pNil h0 fun t21 =>
  pField 1 t21 fun t22 =>
  pLoad h_3 t22 fun t23 =>
  pSlice 2 t23 none (some t8) none fun t25 =>
  pNil h0 fun t28 =>
  pField 1 t28 fun t29 =>
  pLoad h_3 t29 fun t30 =>
  pBin .add t8 (.int .i64 1) fun t32 =>
  pSlice 2 t30 (some t32) none none fun t33 =>
  pBuildSlice T_milestoneref08_Held (zerosL [(.int .i64 0), (.int .i64 0)] 0) [] 0 h_3 fun t19 h_4 =>
  pAppend T_milestoneref08_Held 2 16 [(.int .i64 0), (.int .i64 0)] t19 t25 h_4 fun t26 h_5 =>
  (pLoad h_5 t29 fun t30_1 =>
  t30_1 = t30) ∧
  (pAppend T_milestoneref08_Held 2 16 [(.int .i64 0), (.int .i64 0)] t26 t33 h_5 fun t34 h_6 =>
  pNil h0 fun t35 =>
  pField 1 t35 fun t36 =>
  pStore 1 t36 t34 h_6 fun u_1 h_7 =>
  pField 0 x6 fun t37 =>
  pLoad h_7 t37 fun t38 =>
  pField 1 x6 fun t39 =>
  pLoad h_7 t39 fun t40 =>
  K (.tuple #[t38, t40, (.bool true)]) h_7))

set_option maxRecDepth 100000 in
theorem lk_milestoneref08_Heap_Pop (h0 : Value) {h : Heap} {K : Value → Heap → Prop} (H : sh_milestoneref08_Heap_Pop Tryz.prog h0 h K) : CallsH Tryz.prog F_milestoneref08_Heap_Pop [h0].toArray h K :=
  callsH_of (ann := (annG (Tryz.f36.body.getD .skip) 0 []).1) (c := Tryz.f36.body.getD .skip) Tryz.func36 (by kernel_rfl) (by kernel_rfl) (by kernel_rfl) (of_decide_eq_true (by kernel_rfl))
    (Eq.mpr (by kernel_rfl) H)

end Go.Proofs.YtebjceofpaamjaaGreatDoor

namespace Go.Proofs.YtebjceofpaamjaaGreatDoor
open Go Go.Mh
set_option maxHeartbeats 0
set_option linter.unusedVariables false

/-! milestone/milestoneref07.Out -/

def sh_milestoneref07_Out_k2 (P : Program) (a6 : Value) (Z : Value → Value → Heap → Prop) (out5_1 : Value) (h_5 : Heap) : Prop :=
  pBin .add a6 (.int .i64 1) fun t13 =>
  Z out5_1 t13 h_5

def sh_milestoneref07_Out_L1 (P : Program) (g2 v1 : Value) (K : Value → Heap → Prop) (out5 a6 : Value) (h_2 : Heap) (Z : Value → Value → Heap → Prop) : Prop :=
  pField 3 g2 fun t8 =>
  pLoad h_2 t8 fun t9 =>
  pLen t9 fun t10 =>
  pBin .lss a6 t10 fun t11 =>
  ifV t11
  (pField 3 g2 fun t14 =>
  pLoad h_2 t14 fun t15 =>
  pIdx 3 t15 a6 fun t17 =>
  pField 0 t17 fun t18 =>
  pLoad h_2 t18 fun t19 =>
  pBin .eql t19 v1 fun t21 =>
  ifV t21
  (pBuildSlice T_int (zerosL [(.int .i64 0)] 1) [(0, 1, a6)] 1 h_2 fun t24 h_3 =>
  pAppend T_int 1 8 [(.int .i64 0)] out5 t24 h_3 fun t25 h_4 =>
  sh_milestoneref07_Out_k2 P a6 Z t25 h_4)
  (sh_milestoneref07_Out_k2 P a6 Z out5 h_2))
  (K out5 h_2)

def sh_milestoneref07_Out (P : Program) (g0 v1 : Value) (h : Heap) (K : Value → Heap → Prop) : Prop :=
  pBox T_api_Raw g0 h fun g2 h_1 =>
  LoopH (σ := Vals [5, 6]) (fun x hh ZZ => sh_milestoneref07_Out_L1 P g2 v1 K x.1 x.2.1 hh (fun a0 a1 hz => ZZ (a0, (a1, ())) hz)) ((.slice none 0 0), ((.int .i64 0), ())) h_1

set_option maxRecDepth 100000 in
theorem lk_milestoneref07_Out (g0 v1 : Value) {h : Heap} {K : Value → Heap → Prop} (H : sh_milestoneref07_Out Tryz.prog g0 v1 h K) : CallsH Tryz.prog F_milestoneref07_Out [g0, v1].toArray h K :=
  callsH_of (ann := (annG (Tryz.f37.body.getD .skip) 0 [(4, [5, 6])]).1) (c := Tryz.f37.body.getD .skip) Tryz.func37 (by kernel_rfl) (by kernel_rfl) (by kernel_rfl) (of_decide_eq_true (by kernel_rfl))
    (Eq.mpr (by kernel_rfl) H)

/-! (*milestone/milestoneref08.Heap).Key -/

def sh_milestoneref08_Heap_Key (P : Program) (h0 id1 : Value) (h : Heap) (K : Value → Heap → Prop) : Prop :=
  callS P F_milestoneref08_Heap_at [h0, id1] h fun t9 h_1 =>
  pBin .lss t9 (.int .i64 0) fun t11 =>
  ifV t11
  (K (.tuple #[(.int .i64 0), (.bool false)]) h_1)
  (pNil h0 fun t13 =>
  pField 1 t13 fun t14 =>
  pLoad h_1 t14 fun t15 =>
  pIdx 2 t15 t9 fun t17 =>
  pField 1 t17 fun t18 =>
  pLoad h_1 t18 fun t19 =>
  K (.tuple #[t19, (.bool true)]) h_1)

set_option maxRecDepth 100000 in
theorem lk_milestoneref08_Heap_Key (h0 id1 : Value) {h : Heap} {K : Value → Heap → Prop} (H : sh_milestoneref08_Heap_Key Tryz.prog h0 id1 h K) : CallsH Tryz.prog F_milestoneref08_Heap_Key [h0, id1].toArray h K :=
  callsH_of (ann := (annG (Tryz.f38.body.getD .skip) 0 []).1) (c := Tryz.f38.body.getD .skip) Tryz.func38 (by kernel_rfl) (by kernel_rfl) (by kernel_rfl) (of_decide_eq_true (by kernel_rfl))
    (Eq.mpr (by kernel_rfl) H)

/-! (*milestone/milestoneref08.Heap).Lower -/

def sh_milestoneref08_Heap_Lower_k1 (P : Program) (K : Value → Heap → Prop) (h_1 : Heap) : Prop :=
  K (.int .i64 2) h_1

def sh_milestoneref08_Heap_Lower (P : Program) (h0 id1 key2 : Value) (h : Heap) (K : Value → Heap → Prop) : Prop :=
  pBin .lss id1 (.int .i64 0) fun t9 =>
  ifV t9
  (sh_milestoneref08_Heap_Lower_k1 P K h)
  (pNil h0 fun t13 =>
  pField 0 t13 fun t14 =>
  pLoad h t14 fun t15 =>
  pBin .geq id1 t15 fun t16 =>
  ifV t16
  (sh_milestoneref08_Heap_Lower_k1 P K h)
  (callS P F_milestoneref08_Heap_at [h0, id1] h fun t20 h_2 =>
  pBin .lss t20 (.int .i64 0) fun t22 =>
  ifV t22
  (K (.int .i64 20) h_2)
  (pNil h0 fun t24 =>
  pField 1 t24 fun t25 =>
  pLoad h_2 t25 fun t26 =>
  pIdx 2 t26 t20 fun t28 =>
  pField 1 t28 fun t29 =>
  pLoad h_2 t29 fun t30 =>
  pBin .lss t30 key2 fun t32 =>
  ifV t32
  (K (.int .i64 2) h_2)
  (pNil h0 fun t34 =>
  pField 1 t34 fun t35 =>
  pLoad h_2 t35 fun t36 =>
  pIdx 2 t36 t20 fun t39 =>
  pField 1 t39 fun t40 =>
  pStore 1 t40 key2 h_2 fun u h_3 =>
  K (.int .i64 0) h_3))))

set_option maxRecDepth 100000 in
theorem lk_milestoneref08_Heap_Lower (h0 id1 key2 : Value) {h : Heap} {K : Value → Heap → Prop} (H : sh_milestoneref08_Heap_Lower Tryz.prog h0 id1 key2 h K) : CallsH Tryz.prog F_milestoneref08_Heap_Lower [h0, id1, key2].toArray h K :=
  callsH_of (ann := (annG (Tryz.f39.body.getD .skip) 0 []).1) (c := Tryz.f39.body.getD .skip) Tryz.func39 (by kernel_rfl) (by kernel_rfl) (by kernel_rfl) (of_decide_eq_true (by kernel_rfl))
    (Eq.mpr (by kernel_rfl) H)

/-! (*milestone/net.Net).In -/

def sh_net_Net_In (P : Program) (n0 v1 : Value) (h : Heap) (K : Value → Heap → Prop) : Prop :=
  pEq false .ptr n0 (.pointer none) fun t8 =>
  ifV t8
  (K (.slice none 0 0) h)
  (pNil n0 fun t11 =>
  pField 5 t11 fun t12 =>
  pLoad h t12 fun t13 =>
  callS P F_net_one_sl_int [t13, v1] h fun t15 h_1 =>
  pExt t15 0 fun t16 =>
  pExt t15 1 fun t17 =>
  callS P F_slices_Clone_sl_int_int [t16] h_1 fun t19 h_2 =>
  K t19 h_2)

set_option maxRecDepth 100000 in
theorem lk_net_Net_In (n0 v1 : Value) {h : Heap} {K : Value → Heap → Prop} (H : sh_net_Net_In Tryz.prog n0 v1 h K) : CallsH Tryz.prog F_net_Net_In [n0, v1].toArray h K :=
  callsH_of (ann := (annG (Tryz.f40.body.getD .skip) 0 []).1) (c := Tryz.f40.body.getD .skip) Tryz.func40 (by kernel_rfl) (by kernel_rfl) (by kernel_rfl) (of_decide_eq_true (by kernel_rfl))
    (Eq.mpr (by kernel_rfl) H)

/-! milestone/flood.To$1 -/

def sh_flood_To_1 (P : Program) (a0 : Value) (h : Heap) (K : Value → Heap → Prop) : Prop :=
  pBox T_api_Arc a0 h fun a1 h_1 =>
  pField 0 a1 fun t3 =>
  pLoad h_1 t3 fun t4 =>
  K t4 h_1

set_option maxRecDepth 100000 in
theorem lk_flood_To_1 (a0 : Value) {h : Heap} {K : Value → Heap → Prop} (H : sh_flood_To_1 Tryz.prog a0 h K) : CallsH Tryz.prog F_flood_To_1 [a0].toArray h K :=
  callsH_of (ann := (annG (Tryz.f41.body.getD .skip) 0 []).1) (c := Tryz.f41.body.getD .skip) Tryz.func41 (by kernel_rfl) (by kernel_rfl) (by kernel_rfl) (of_decide_eq_true (by kernel_rfl))
    (Eq.mpr (by kernel_rfl) H)

/-! milestone/milestoneref07.Copy -/

def sh_milestoneref07_Copy_C1 (P : Program) (t2 : Value) (K : Value → Heap → Prop) (h_85 : Heap) : Prop :=
  pLoadN 4 h_85 t2 fun res =>
  K res h_85

def sh_milestoneref07_Copy (P : Program) (g0 : Value) (h : Heap) (K : Value → Heap → Prop) : Prop :=
  pBox T_api_Raw g0 h fun g1 h_1 =>
  pBox T_api_Raw (.agg #[(.int .i64 0), (.slice none 0 0), (.slice none 0 0), (.slice none 0 0)]) h_1 fun t2 h_2 =>
  cutP (σ := Vals []) (fun J =>
  pField 0 g1 fun t3 =>
  pLoad h_2 t3 fun t4 =>
  pField 1 g1 fun t6 =>
  pLoad h_2 t6 fun t7 =>
  pField 2 g1 fun t10 =>
  pLoad h_2 t10 fun t11 =>
  pField 3 g1 fun t14 =>
  pLoad h_2 t14 fun t15 =>
  (pBuildSlice T_int64 (zerosL [(.int .i64 0)] 0) [] 0 h_2 fun t5 h_3 =>
  (pAppend T_int64 1 8 [(.int .i64 0)] t5 t7 h_3 fun t8 h_4 =>
  (pLoad h_4 t3 fun t4_1 =>
  t4_1 = t4) ∧
  (pLoad h_4 t10 fun t11_1 =>
  t11_1 = t11) ∧
  (pLoad h_4 t14 fun t15_1 =>
  t15_1 = t15) ∧
  ((pBuildSlice T_int64 (zerosL [(.int .i64 0)] 0) [] 0 h_4 fun t9 h_5 =>
  (pAppend T_int64 1 8 [(.int .i64 0)] t9 t11 h_5 fun t12 h_6 =>
  (pLoad h_6 t3 fun t4_2 =>
  t4_2 = t4) ∧
  (pLoad h_6 t14 fun t15_2 =>
  t15_2 = t15) ∧
  (pBuildSlice T_api_Arc (zerosL [(.int .i64 0), (.int .i64 0), (.int .i64 0)] 0) [] 0 h_6 fun t13 h_7 =>
  pAppend T_api_Arc 3 24 [(.int .i64 0), (.int .i64 0), (.int .i64 0)] t13 t15 h_7 fun t16 h_8 =>
  (pLoad h_8 t3 fun t4_3 =>
  t4_3 = t4) ∧
  (pBuild [(.int .i64 0), (.slice none 0 0), (.slice none 0 0), (.slice none 0 0)] [(0, 1, t4), (1, 1, t8), (2, 1, t12), (3, 1, t16)] fun t17 =>
  pStore 4 t2 t17 h_8 fun u h_9 =>
  J () h_9))) ∧
  (pBuildSlice T_api_Arc (zerosL [(.int .i64 0), (.int .i64 0), (.int .i64 0)] 0) [] 0 h_5 fun t13_1 h_10 =>
  pAppend T_int64 1 8 [(.int .i64 0)] t9 t11 h_10 fun t12_1 h_11 =>
  (pLoad h_11 t3 fun t4_4 =>
  t4_4 = t4) ∧
  (pLoad h_11 t14 fun t15_3 =>
  t15_3 = t15) ∧
  (pAppend T_api_Arc 3 24 [(.int .i64 0), (.int .i64 0), (.int .i64 0)] t13_1 t15 h_11 fun t16_1 h_12 =>
  (pLoad h_12 t3 fun t4_5 =>
  t4_5 = t4) ∧
  (pBuild [(.int .i64 0), (.slice none 0 0), (.slice none 0 0), (.slice none 0 0)] [(0, 1, t4), (1, 1, t8), (2, 1, t12_1), (3, 1, t16_1)] fun t17_1 =>
  pStore 4 t2 t17_1 h_12 fun u_1 h_13 =>
  J () h_13)))) ∧
  (pBuildSlice T_api_Arc (zerosL [(.int .i64 0), (.int .i64 0), (.int .i64 0)] 0) [] 0 h_4 fun t13_2 h_14 =>
  pBuildSlice T_int64 (zerosL [(.int .i64 0)] 0) [] 0 h_14 fun t9_1 h_15 =>
  pAppend T_int64 1 8 [(.int .i64 0)] t9_1 t11 h_15 fun t12_2 h_16 =>
  (pLoad h_16 t3 fun t4_6 =>
  t4_6 = t4) ∧
  (pLoad h_16 t14 fun t15_4 =>
  t15_4 = t15) ∧
  (pAppend T_api_Arc 3 24 [(.int .i64 0), (.int .i64 0), (.int .i64 0)] t13_2 t15 h_16 fun t16_2 h_17 =>
  (pLoad h_17 t3 fun t4_7 =>
  t4_7 = t4) ∧
  (pBuild [(.int .i64 0), (.slice none 0 0), (.slice none 0 0), (.slice none 0 0)] [(0, 1, t4), (1, 1, t8), (2, 1, t12_2), (3, 1, t16_2)] fun t17_2 =>
  pStore 4 t2 t17_2 h_17 fun u_2 h_18 =>
  J () h_18))))) ∧
  (pBuildSlice T_int64 (zerosL [(.int .i64 0)] 0) [] 0 h_3 fun t9_2 h_19 =>
  (pAppend T_int64 1 8 [(.int .i64 0)] t5 t7 h_19 fun t8_1 h_20 =>
  (pLoad h_20 t3 fun t4_8 =>
  t4_8 = t4) ∧
  (pLoad h_20 t10 fun t11_2 =>
  t11_2 = t11) ∧
  (pLoad h_20 t14 fun t15_5 =>
  t15_5 = t15) ∧
  ((pAppend T_int64 1 8 [(.int .i64 0)] t9_2 t11 h_20 fun t12_3 h_21 =>
  (pLoad h_21 t3 fun t4_9 =>
  t4_9 = t4) ∧
  (pLoad h_21 t14 fun t15_6 =>
  t15_6 = t15) ∧
  (pBuildSlice T_api_Arc (zerosL [(.int .i64 0), (.int .i64 0), (.int .i64 0)] 0) [] 0 h_21 fun t13_3 h_22 =>
  pAppend T_api_Arc 3 24 [(.int .i64 0), (.int .i64 0), (.int .i64 0)] t13_3 t15 h_22 fun t16_3 h_23 =>
  (pLoad h_23 t3 fun t4_10 =>
  t4_10 = t4) ∧
  (pBuild [(.int .i64 0), (.slice none 0 0), (.slice none 0 0), (.slice none 0 0)] [(0, 1, t4), (1, 1, t8_1), (2, 1, t12_3), (3, 1, t16_3)] fun t17_3 =>
  pStore 4 t2 t17_3 h_23 fun u_3 h_24 =>
  J () h_24))) ∧
  (pBuildSlice T_api_Arc (zerosL [(.int .i64 0), (.int .i64 0), (.int .i64 0)] 0) [] 0 h_20 fun t13_4 h_25 =>
  pAppend T_int64 1 8 [(.int .i64 0)] t9_2 t11 h_25 fun t12_4 h_26 =>
  (pLoad h_26 t3 fun t4_11 =>
  t4_11 = t4) ∧
  (pLoad h_26 t14 fun t15_7 =>
  t15_7 = t15) ∧
  (pAppend T_api_Arc 3 24 [(.int .i64 0), (.int .i64 0), (.int .i64 0)] t13_4 t15 h_26 fun t16_4 h_27 =>
  (pLoad h_27 t3 fun t4_12 =>
  t4_12 = t4) ∧
  (pBuild [(.int .i64 0), (.slice none 0 0), (.slice none 0 0), (.slice none 0 0)] [(0, 1, t4), (1, 1, t8_1), (2, 1, t12_4), (3, 1, t16_4)] fun t17_4 =>
  pStore 4 t2 t17_4 h_27 fun u_4 h_28 =>
  J () h_28))))) ∧
  (pBuildSlice T_api_Arc (zerosL [(.int .i64 0), (.int .i64 0), (.int .i64 0)] 0) [] 0 h_19 fun t13_5 h_29 =>
  pAppend T_int64 1 8 [(.int .i64 0)] t5 t7 h_29 fun t8_2 h_30 =>
  (pLoad h_30 t3 fun t4_13 =>
  t4_13 = t4) ∧
  (pLoad h_30 t10 fun t11_3 =>
  t11_3 = t11) ∧
  (pLoad h_30 t14 fun t15_8 =>
  t15_8 = t15) ∧
  (pAppend T_int64 1 8 [(.int .i64 0)] t9_2 t11 h_30 fun t12_5 h_31 =>
  (pLoad h_31 t3 fun t4_14 =>
  t4_14 = t4) ∧
  (pLoad h_31 t14 fun t15_9 =>
  t15_9 = t15) ∧
  (pAppend T_api_Arc 3 24 [(.int .i64 0), (.int .i64 0), (.int .i64 0)] t13_5 t15 h_31 fun t16_5 h_32 =>
  (pLoad h_32 t3 fun t4_15 =>
  t4_15 = t4) ∧
  (pBuild [(.int .i64 0), (.slice none 0 0), (.slice none 0 0), (.slice none 0 0)] [(0, 1, t4), (1, 1, t8_2), (2, 1, t12_5), (3, 1, t16_5)] fun t17_5 =>
  pStore 4 t2 t17_5 h_32 fun u_5 h_33 =>
  J () h_33))))) ∧
  (pBuildSlice T_api_Arc (zerosL [(.int .i64 0), (.int .i64 0), (.int .i64 0)] 0) [] 0 h_3 fun t13_6 h_34 =>
  (pAppend T_int64 1 8 [(.int .i64 0)] t5 t7 h_34 fun t8_3 h_35 =>
  (pLoad h_35 t3 fun t4_16 =>
  t4_16 = t4) ∧
  (pLoad h_35 t10 fun t11_4 =>
  t11_4 = t11) ∧
  (pLoad h_35 t14 fun t15_10 =>
  t15_10 = t15) ∧
  (pBuildSlice T_int64 (zerosL [(.int .i64 0)] 0) [] 0 h_35 fun t9_3 h_36 =>
  pAppend T_int64 1 8 [(.int .i64 0)] t9_3 t11 h_36 fun t12_6 h_37 =>
  (pLoad h_37 t3 fun t4_17 =>
  t4_17 = t4) ∧
  (pLoad h_37 t14 fun t15_11 =>
  t15_11 = t15) ∧
  (pAppend T_api_Arc 3 24 [(.int .i64 0), (.int .i64 0), (.int .i64 0)] t13_6 t15 h_37 fun t16_6 h_38 =>
  (pLoad h_38 t3 fun t4_18 =>
  t4_18 = t4) ∧
  (pBuild [(.int .i64 0), (.slice none 0 0), (.slice none 0 0), (.slice none 0 0)] [(0, 1, t4), (1, 1, t8_3), (2, 1, t12_6), (3, 1, t16_6)] fun t17_6 =>
  pStore 4 t2 t17_6 h_38 fun u_6 h_39 =>
  J () h_39)))) ∧
  (pBuildSlice T_int64 (zerosL [(.int .i64 0)] 0) [] 0 h_34 fun t9_4 h_40 =>
  pAppend T_int64 1 8 [(.int .i64 0)] t5 t7 h_40 fun t8_4 h_41 =>
  (pLoad h_41 t3 fun t4_19 =>
  t4_19 = t4) ∧
  (pLoad h_41 t10 fun t11_5 =>
  t11_5 = t11) ∧
  (pLoad h_41 t14 fun t15_12 =>
  t15_12 = t15) ∧
  (pAppend T_int64 1 8 [(.int .i64 0)] t9_4 t11 h_41 fun t12_7 h_42 =>
  (pLoad h_42 t3 fun t4_20 =>
  t4_20 = t4) ∧
  (pLoad h_42 t14 fun t15_13 =>
  t15_13 = t15) ∧
  (pAppend T_api_Arc 3 24 [(.int .i64 0), (.int .i64 0), (.int .i64 0)] t13_6 t15 h_42 fun t16_7 h_43 =>
  (pLoad h_43 t3 fun t4_21 =>
  t4_21 = t4) ∧
  (pBuild [(.int .i64 0), (.slice none 0 0), (.slice none 0 0), (.slice none 0 0)] [(0, 1, t4), (1, 1, t8_4), (2, 1, t12_7), (3, 1, t16_7)] fun t17_7 =>
  pStore 4 t2 t17_7 h_43 fun u_7 h_44 =>
  J () h_44)))))) ∧
  (pBuildSlice T_int64 (zerosL [(.int .i64 0)] 0) [] 0 h_2 fun t9_5 h_45 =>
  (pBuildSlice T_int64 (zerosL [(.int .i64 0)] 0) [] 0 h_45 fun t5_1 h_46 =>
  (pAppend T_int64 1 8 [(.int .i64 0)] t5_1 t7 h_46 fun t8_5 h_47 =>
  (pLoad h_47 t3 fun t4_22 =>
  t4_22 = t4) ∧
  (pLoad h_47 t10 fun t11_6 =>
  t11_6 = t11) ∧
  (pLoad h_47 t14 fun t15_14 =>
  t15_14 = t15) ∧
  ((pAppend T_int64 1 8 [(.int .i64 0)] t9_5 t11 h_47 fun t12_8 h_48 =>
  (pLoad h_48 t3 fun t4_23 =>
  t4_23 = t4) ∧
  (pLoad h_48 t14 fun t15_15 =>
  t15_15 = t15) ∧
  (pBuildSlice T_api_Arc (zerosL [(.int .i64 0), (.int .i64 0), (.int .i64 0)] 0) [] 0 h_48 fun t13_7 h_49 =>
  pAppend T_api_Arc 3 24 [(.int .i64 0), (.int .i64 0), (.int .i64 0)] t13_7 t15 h_49 fun t16_8 h_50 =>
  (pLoad h_50 t3 fun t4_24 =>
  t4_24 = t4) ∧
  (pBuild [(.int .i64 0), (.slice none 0 0), (.slice none 0 0), (.slice none 0 0)] [(0, 1, t4), (1, 1, t8_5), (2, 1, t12_8), (3, 1, t16_8)] fun t17_8 =>
  pStore 4 t2 t17_8 h_50 fun u_8 h_51 =>
  J () h_51))) ∧
  (pBuildSlice T_api_Arc (zerosL [(.int .i64 0), (.int .i64 0), (.int .i64 0)] 0) [] 0 h_47 fun t13_8 h_52 =>
  pAppend T_int64 1 8 [(.int .i64 0)] t9_5 t11 h_52 fun t12_9 h_53 =>
  (pLoad h_53 t3 fun t4_25 =>
  t4_25 = t4) ∧
  (pLoad h_53 t14 fun t15_16 =>
  t15_16 = t15) ∧
  (pAppend T_api_Arc 3 24 [(.int .i64 0), (.int .i64 0), (.int .i64 0)] t13_8 t15 h_53 fun t16_9 h_54 =>
  (pLoad h_54 t3 fun t4_26 =>
  t4_26 = t4) ∧
  (pBuild [(.int .i64 0), (.slice none 0 0), (.slice none 0 0), (.slice none 0 0)] [(0, 1, t4), (1, 1, t8_5), (2, 1, t12_9), (3, 1, t16_9)] fun t17_9 =>
  pStore 4 t2 t17_9 h_54 fun u_9 h_55 =>
  J () h_55))))) ∧
  (pBuildSlice T_api_Arc (zerosL [(.int .i64 0), (.int .i64 0), (.int .i64 0)] 0) [] 0 h_46 fun t13_9 h_56 =>
  pAppend T_int64 1 8 [(.int .i64 0)] t5_1 t7 h_56 fun t8_6 h_57 =>
  (pLoad h_57 t3 fun t4_27 =>
  t4_27 = t4) ∧
  (pLoad h_57 t10 fun t11_7 =>
  t11_7 = t11) ∧
  (pLoad h_57 t14 fun t15_17 =>
  t15_17 = t15) ∧
  (pAppend T_int64 1 8 [(.int .i64 0)] t9_5 t11 h_57 fun t12_10 h_58 =>
  (pLoad h_58 t3 fun t4_28 =>
  t4_28 = t4) ∧
  (pLoad h_58 t14 fun t15_18 =>
  t15_18 = t15) ∧
  (pAppend T_api_Arc 3 24 [(.int .i64 0), (.int .i64 0), (.int .i64 0)] t13_9 t15 h_58 fun t16_10 h_59 =>
  (pLoad h_59 t3 fun t4_29 =>
  t4_29 = t4) ∧
  (pBuild [(.int .i64 0), (.slice none 0 0), (.slice none 0 0), (.slice none 0 0)] [(0, 1, t4), (1, 1, t8_6), (2, 1, t12_10), (3, 1, t16_10)] fun t17_10 =>
  pStore 4 t2 t17_10 h_59 fun u_10 h_60 =>
  J () h_60))))) ∧
  (pBuildSlice T_api_Arc (zerosL [(.int .i64 0), (.int .i64 0), (.int .i64 0)] 0) [] 0 h_45 fun t13_10 h_61 =>
  pBuildSlice T_int64 (zerosL [(.int .i64 0)] 0) [] 0 h_61 fun t5_2 h_62 =>
  pAppend T_int64 1 8 [(.int .i64 0)] t5_2 t7 h_62 fun t8_7 h_63 =>
  (pLoad h_63 t3 fun t4_30 =>
  t4_30 = t4) ∧
  (pLoad h_63 t10 fun t11_8 =>
  t11_8 = t11) ∧
  (pLoad h_63 t14 fun t15_19 =>
  t15_19 = t15) ∧
  (pAppend T_int64 1 8 [(.int .i64 0)] t9_5 t11 h_63 fun t12_11 h_64 =>
  (pLoad h_64 t3 fun t4_31 =>
  t4_31 = t4) ∧
  (pLoad h_64 t14 fun t15_20 =>
  t15_20 = t15) ∧
  (pAppend T_api_Arc 3 24 [(.int .i64 0), (.int .i64 0), (.int .i64 0)] t13_10 t15 h_64 fun t16_11 h_65 =>
  (pLoad h_65 t3 fun t4_32 =>
  t4_32 = t4) ∧
  (pBuild [(.int .i64 0), (.slice none 0 0), (.slice none 0 0), (.slice none 0 0)] [(0, 1, t4), (1, 1, t8_7), (2, 1, t12_11), (3, 1, t16_11)] fun t17_11 =>
  pStore 4 t2 t17_11 h_65 fun u_11 h_66 =>
  J () h_66))))) ∧
  (pBuildSlice T_api_Arc (zerosL [(.int .i64 0), (.int .i64 0), (.int .i64 0)] 0) [] 0 h_2 fun t13_11 h_67 =>
  (pBuildSlice T_int64 (zerosL [(.int .i64 0)] 0) [] 0 h_67 fun t5_3 h_68 =>
  (pAppend T_int64 1 8 [(.int .i64 0)] t5_3 t7 h_68 fun t8_8 h_69 =>
  (pLoad h_69 t3 fun t4_33 =>
  t4_33 = t4) ∧
  (pLoad h_69 t10 fun t11_9 =>
  t11_9 = t11) ∧
  (pLoad h_69 t14 fun t15_21 =>
  t15_21 = t15) ∧
  (pBuildSlice T_int64 (zerosL [(.int .i64 0)] 0) [] 0 h_69 fun t9_6 h_70 =>
  pAppend T_int64 1 8 [(.int .i64 0)] t9_6 t11 h_70 fun t12_12 h_71 =>
  (pLoad h_71 t3 fun t4_34 =>
  t4_34 = t4) ∧
  (pLoad h_71 t14 fun t15_22 =>
  t15_22 = t15) ∧
  (pAppend T_api_Arc 3 24 [(.int .i64 0), (.int .i64 0), (.int .i64 0)] t13_11 t15 h_71 fun t16_12 h_72 =>
  (pLoad h_72 t3 fun t4_35 =>
  t4_35 = t4) ∧
  (pBuild [(.int .i64 0), (.slice none 0 0), (.slice none 0 0), (.slice none 0 0)] [(0, 1, t4), (1, 1, t8_8), (2, 1, t12_12), (3, 1, t16_12)] fun t17_12 =>
  pStore 4 t2 t17_12 h_72 fun u_12 h_73 =>
  J () h_73)))) ∧
  (pBuildSlice T_int64 (zerosL [(.int .i64 0)] 0) [] 0 h_68 fun t9_7 h_74 =>
  pAppend T_int64 1 8 [(.int .i64 0)] t5_3 t7 h_74 fun t8_9 h_75 =>
  (pLoad h_75 t3 fun t4_36 =>
  t4_36 = t4) ∧
  (pLoad h_75 t10 fun t11_10 =>
  t11_10 = t11) ∧
  (pLoad h_75 t14 fun t15_23 =>
  t15_23 = t15) ∧
  (pAppend T_int64 1 8 [(.int .i64 0)] t9_7 t11 h_75 fun t12_13 h_76 =>
  (pLoad h_76 t3 fun t4_37 =>
  t4_37 = t4) ∧
  (pLoad h_76 t14 fun t15_24 =>
  t15_24 = t15) ∧
  (pAppend T_api_Arc 3 24 [(.int .i64 0), (.int .i64 0), (.int .i64 0)] t13_11 t15 h_76 fun t16_13 h_77 =>
  (pLoad h_77 t3 fun t4_38 =>
  t4_38 = t4) ∧
  (pBuild [(.int .i64 0), (.slice none 0 0), (.slice none 0 0), (.slice none 0 0)] [(0, 1, t4), (1, 1, t8_9), (2, 1, t12_13), (3, 1, t16_13)] fun t17_13 =>
  pStore 4 t2 t17_13 h_77 fun u_13 h_78 =>
  J () h_78))))) ∧
  (pBuildSlice T_int64 (zerosL [(.int .i64 0)] 0) [] 0 h_67 fun t9_8 h_79 =>
  pBuildSlice T_int64 (zerosL [(.int .i64 0)] 0) [] 0 h_79 fun t5_4 h_80 =>
  pAppend T_int64 1 8 [(.int .i64 0)] t5_4 t7 h_80 fun t8_10 h_81 =>
  (pLoad h_81 t3 fun t4_39 =>
  t4_39 = t4) ∧
  (pLoad h_81 t10 fun t11_11 =>
  t11_11 = t11) ∧
  (pLoad h_81 t14 fun t15_25 =>
  t15_25 = t15) ∧
  (pAppend T_int64 1 8 [(.int .i64 0)] t9_8 t11 h_81 fun t12_14 h_82 =>
  (pLoad h_82 t3 fun t4_40 =>
  t4_40 = t4) ∧
  (pLoad h_82 t14 fun t15_26 =>
  t15_26 = t15) ∧
  (pAppend T_api_Arc 3 24 [(.int .i64 0), (.int .i64 0), (.int .i64 0)] t13_11 t15 h_82 fun t16_14 h_83 =>
  (pLoad h_83 t3 fun t4_41 =>
  t4_41 = t4) ∧
  (pBuild [(.int .i64 0), (.slice none 0 0), (.slice none 0 0), (.slice none 0 0)] [(0, 1, t4), (1, 1, t8_10), (2, 1, t12_14), (3, 1, t16_14)] fun t17_14 =>
  pStore 4 t2 t17_14 h_83 fun u_14 h_84 =>
  J () h_84))))))
  (fun x hh => sh_milestoneref07_Copy_C1 P t2 K hh)

set_option maxRecDepth 100000 in
theorem lk_milestoneref07_Copy (g0 : Value) {h : Heap} {K : Value → Heap → Prop} (H : sh_milestoneref07_Copy Tryz.prog g0 h K) : CallsH Tryz.prog F_milestoneref07_Copy [g0].toArray h K :=
  callsH_of (ann := (annG (Tryz.f42.body.getD .skip) 0 [(1, [])]).1) (c := Tryz.f42.body.getD .skip) Tryz.func42 (by kernel_rfl) (by kernel_rfl) (by kernel_rfl) (of_decide_eq_true (by kernel_rfl))
    (Eq.mpr (by kernel_rfl) H)

/-! milestone/dist.folded -/

def sh_dist_folded_L1 (P : Program) (t8 l1 keep0 : Value) (K : Value → Heap → Prop) (sum4 t9 : Value) (h_1 : Heap) (Z : Value → Value → Heap → Prop) : Prop :=
  pBin .lss t9 t8 fun t10 =>
  ifV t10
  (pIdx 1 l1 t9 fun t11 =>
  pLoad h_1 t11 fun t12 =>
  callV P keep0 [t12].toArray h_1 fun t17 h_2 =>
  pBin .add sum4 t17 fun t18 =>
  callV P keep0 [t18].toArray h_2 fun t19 h_3 =>
  pBin .add t9 (.int .i64 1) fun t20 =>
  Z t19 t20 h_3)
  (K sum4 h_1)

def sh_dist_folded (P : Program) (keep0 l1 : Value) (h : Heap) (K : Value → Heap → Prop) : Prop :=
  pLen l1 fun t8 =>
  LoopH (σ := Vals [4, 9]) (fun x hh ZZ => sh_dist_folded_L1 P t8 l1 keep0 K x.1 x.2.1 hh (fun a0 a1 hz => ZZ (a0, (a1, ())) hz)) ((.int .i64 0), ((.int .i64 0), ())) h

set_option maxRecDepth 100000 in
theorem lk_dist_folded (keep0 l1 : Value) {h : Heap} {K : Value → Heap → Prop} (H : sh_dist_folded Tryz.prog keep0 l1 h K) : CallsH Tryz.prog F_dist_folded [keep0, l1].toArray h K :=
  callsH_of (ann := (annG (Tryz.f43.body.getD .skip) 0 [(3, [4, 9])]).1) (c := Tryz.f43.body.getD .skip) Tryz.func43 (by kernel_rfl) (by kernel_rfl) (by kernel_rfl) (of_decide_eq_true (by kernel_rfl))
    (Eq.mpr (by kernel_rfl) H)

/-! milestone/dist.way -/

def sh_dist_way (P : Program) (a0 : Value) (h : Heap) (K : Value → Heap → Prop) : Prop :=
  callS P F_dist_between_int64 [(.int .i64 0), (.int .i64 72057594037927936)] h fun t3 h_1 =>
  callV P t3 [a0].toArray h_1 fun t5 h_2 =>
  K t5 h_2

set_option maxRecDepth 100000 in
theorem lk_dist_way (a0 : Value) {h : Heap} {K : Value → Heap → Prop} (H : sh_dist_way Tryz.prog a0 h K) : CallsH Tryz.prog F_dist_way [a0].toArray h K :=
  callsH_of (ann := (annG (Tryz.f44.body.getD .skip) 0 []).1) (c := Tryz.f44.body.getD .skip) Tryz.func44 (by kernel_rfl) (by kernel_rfl) (by kernel_rfl) (of_decide_eq_true (by kernel_rfl))
    (Eq.mpr (by kernel_rfl) H)

/-! milestone/graph.copied -/

def sh_graph_copied (P : Program) (r0 : Value) (h : Heap) (K : Value → Heap → Prop) : Prop :=
  pBox T_api_Raw r0 h fun r1 h_1 =>
  pBox T_api_Raw (.agg #[(.int .i64 0), (.slice none 0 0), (.slice none 0 0), (.slice none 0 0)]) h_1 fun t2 h_2 =>
  pField 1 r1 fun t3 =>
  pLoad h_2 t3 fun t4 =>
  pField 2 r1 fun t6 =>
  pLoad h_2 t6 fun t7 =>
  pField 3 r1 fun t9 =>
  pLoad h_2 t9 fun t10 =>
  callS P F_slices_Clone_sl_int64_int64 [t4] h_2 fun t5 h_3 =>
  (pLoad h_3 t6 fun t7_1 =>
  t7_1 = t7) ∧
  (pLoad h_3 t9 fun t10_1 =>
  t10_1 = t10) ∧
  (pField 1 r1 fun t12 =>
  callS P F_slices_Clone_sl_int64_int64 [t7] h_3 fun t8 h_4 =>
  (pLoad h_4 t9 fun t10_2 =>
  t10_2 = t10) ∧
  (callS P F_slices_Clone_sl_api_Arc_api_Arc [t10] h_4 fun t11 h_5 =>
  pStore 1 t12 t5 h_5 fun u h_6 =>
  pField 2 r1 fun t13 =>
  pStore 1 t13 t8 h_6 fun u_1 h_7 =>
  pField 3 r1 fun t14 =>
  pStore 1 t14 t11 h_7 fun u_2 h_8 =>
  pLoadN 4 h_8 r1 fun t15 =>
  pStore 4 t2 t15 h_8 fun u_3 h_9 =>
  pLoadN 4 h_9 t2 fun res =>
  K res h_9))

set_option maxRecDepth 100000 in
theorem lk_graph_copied (r0 : Value) {h : Heap} {K : Value → Heap → Prop} (H : sh_graph_copied Tryz.prog r0 h K) : CallsH Tryz.prog F_graph_copied [r0].toArray h K :=
  callsH_of (ann := (annG (Tryz.f45.body.getD .skip) 0 []).1) (c := Tryz.f45.body.getD .skip) Tryz.func45 (by kernel_rfl) (by kernel_rfl) (by kernel_rfl) (of_decide_eq_true (by kernel_rfl))
    (Eq.mpr (by kernel_rfl) H)

/-! milestone/graph.Moved$1 -/

def sh_graph_Moved_1 (P : Program) (v0 t1 t2 : Value) (h : Heap) (K : Value → Heap → Prop) : Prop :=
  pLoad h t1 fun t6 =>
  pField 0 t2 fun t7 =>
  pLoad h t7 fun t8 =>
  pBin .rem t6 t8 fun t9 =>
  pBin .add v0 t9 fun t10 =>
  pField 0 t2 fun t11 =>
  pLoad h t11 fun t12 =>
  pBin .rem t10 t12 fun t13 =>
  pField 0 t2 fun t14 =>
  pLoad h t14 fun t15 =>
  pBin .add t13 t15 fun t16 =>
  pField 0 t2 fun t17 =>
  pLoad h t17 fun t18 =>
  pBin .rem t16 t18 fun t19 =>
  K t19 h

set_option maxRecDepth 100000 in
theorem lk_graph_Moved_1 (v0 t1 t2 : Value) {h : Heap} {K : Value → Heap → Prop} (H : sh_graph_Moved_1 Tryz.prog v0 t1 t2 h K) : CallsH Tryz.prog F_graph_Moved_1 [v0, t1, t2].toArray h K :=
  callsH_of (ann := (annG (Tryz.f46.body.getD .skip) 0 []).1) (c := Tryz.f46.body.getD .skip) Tryz.func46 (by kernel_rfl) (by kernel_rfl) (by kernel_rfl) (of_decide_eq_true (by kernel_rfl))
    (Eq.mpr (by kernel_rfl) H)

/-! (*milestone/milestoneref07.Draft).Next -/

def sh_milestoneref07_Draft_Next_k1 (P : Program) (K : Value → Heap → Prop) (h_1 : Heap) : Prop :=
  K (.int .i64 0) h_1

def sh_milestoneref07_Draft_Next (P : Program) (d0 n1 : Value) (h : Heap) (K : Value → Heap → Prop) : Prop :=
  pNil d0 fun t6 =>
  pField 0 t6 fun t7 =>
  pLoad h t7 fun t8 =>
  pLen t8 fun t9 =>
  pBin .eql t9 (.int .i64 0) fun t10 =>
  ifV t10
  (sh_milestoneref07_Draft_Next_k1 P K h)
  (pBin .lss n1 (.int .i64 1) fun t13 =>
  ifV t13
  (sh_milestoneref07_Draft_Next_k1 P K h)
  (pNil d0 fun t16 =>
  pField 1 t16 fun t17 =>
  pLoad h t17 fun t18 =>
  pBin .add t18 (.int .i64 1) fun t19 =>
  pNil d0 fun t20 =>
  pField 1 t20 fun t21 =>
  pStore 1 t21 t19 h fun u h_2 =>
  pNil d0 fun t23 =>
  pField 0 t23 fun t24 =>
  pLoad h_2 t24 fun t25 =>
  pNil d0 fun t27 =>
  pField 1 t27 fun t28 =>
  pLoad h_2 t28 fun t29 =>
  pBin .sub t29 (.int .i64 1) fun t30 =>
  pNil d0 fun t32 =>
  pField 0 t32 fun t33 =>
  pLoad h_2 t33 fun t34 =>
  pLen t34 fun t35 =>
  pBin .rem t30 t35 fun t36 =>
  pIdx 1 t25 t36 fun t37 =>
  pLoad h_2 t37 fun t38 =>
  pNil d0 fun t40 =>
  pField 1 t40 fun t41 =>
  pLoad h_2 t41 fun t42 =>
  pBin .sub t42 (.int .i64 1) fun t43 =>
  pNil d0 fun t45 =>
  pField 0 t45 fun t46 =>
  pLoad h_2 t46 fun t47 =>
  pLen t47 fun t48 =>
  pBin .quo t43 t48 fun t49 =>
  pConv .u8 t49 fun t50 =>
  pBin .add t38 t50 fun t51 =>
  pConv .i64 t51 fun t52 =>
  pBin .rem t52 n1 fun t54 =>
  K t54 h_2))

set_option maxRecDepth 100000 in
theorem lk_milestoneref07_Draft_Next (d0 n1 : Value) {h : Heap} {K : Value → Heap → Prop} (H : sh_milestoneref07_Draft_Next Tryz.prog d0 n1 h K) : CallsH Tryz.prog F_milestoneref07_Draft_Next [d0, n1].toArray h K :=
  callsH_of (ann := (annG (Tryz.f47.body.getD .skip) 0 []).1) (c := Tryz.f47.body.getD .skip) Tryz.func47 (by kernel_rfl) (by kernel_rfl) (by kernel_rfl) (of_decide_eq_true (by kernel_rfl))
    (Eq.mpr (by kernel_rfl) H)

/-! (*milestone/milestoneref07.Draft).Weight -/

def sh_milestoneref07_Draft_Weight (P : Program) (d0 : Value) (h : Heap) (K : Value → Heap → Prop) : Prop :=
  callS P F_milestoneref07_Draft_Next [d0, (.int .i64 12)] h fun t5 h_1 =>
  pBin .lss t5 (.int .i64 3) fun t8 =>
  ifV t8
  (K (.int .i64 0) h_1)
  (pBin .lss t5 (.int .i64 10) fun t11 =>
  ifV t11
  (callS P F_milestoneref07_Draft_Next [d0, (.int .i64 9)] h_1 fun t13 h_2 =>
  pBin .add (.int .i64 1) t13 fun t14 =>
  K t14 h_2)
  (pBin .lss t5 (.int .i64 11) fun t17 =>
  ifV t17
  (callS P F_milestoneref07_Draft_Next [d0, (.int .i64 20)] h_1 fun t19 h_3 =>
  pBin .mul (.int .i64 100) t19 fun t20 =>
  K t20 h_3)
  (callS P F_milestoneref07_Draft_Next [d0, (.int .i64 2)] h_1 fun t22 h_4 =>
  pBin .sub (.int .i64 2147483647) t22 fun t23 =>
  K t23 h_4)))

set_option maxRecDepth 100000 in
theorem lk_milestoneref07_Draft_Weight (d0 : Value) {h : Heap} {K : Value → Heap → Prop} (H : sh_milestoneref07_Draft_Weight Tryz.prog d0 h K) : CallsH Tryz.prog F_milestoneref07_Draft_Weight [d0].toArray h K :=
  callsH_of (ann := (annG (Tryz.f48.body.getD .skip) 0 []).1) (c := Tryz.f48.body.getD .skip) Tryz.func48 (by kernel_rfl) (by kernel_rfl) (by kernel_rfl) (of_decide_eq_true (by kernel_rfl))
    (Eq.mpr (by kernel_rfl) H)

/-! milestone/graph.look -/

def sh_graph_look_k3 (P : Program) (p4 phase2 : Value) (h_11 : Heap) : Prop :=
  pField 2 p4 fun t32 =>
  pLoad h_11 t32 fun t33 =>
  pLoad h_11 phase2 fun t34 =>
  pField 0 p4 fun t35 =>
  pLoad h_11 t35 fun t36 =>
  pField 1 p4 fun t37 =>
  pLoad h_11 t37 fun t38 =>
  pBuild [(.int .i64 0), (.int .i64 0), (.int .i64 0), (.int .i64 0)] [(0, 1, t33), (1, 1, t34), (2, 1, t36), (3, 1, t38)] fun t39 =>
  pBox T_api_Fault t39 h_11 fun t40 h_12 =>
  pBuild [(.pointer none)] [(0, 1, t40)] fun t41 =>
  False

def sh_graph_look_B2 (P : Program) (h_6 : Heap) (phase2 : Value) (L : Loop) (t19 : Value) (h_7 : Heap) (R : Exit → Heap → Prop) : Prop :=
  pBox T_graph_place (.agg #[(.int .i64 0), (.int .i64 0), (.int .i64 0), (.int .i64 0), (.int .i64 0), (.int .i64 0)]) h_7 fun p4 h_8 =>
  pStore 6 p4 t19 h_8 fun u_1 h_9 =>
  beginR (h_6.size + 1) L h_9 fun h_10 =>
  pField 3 p4 fun t20 =>
  pLoad h_10 t20 fun t21 =>
  pField 4 p4 fun t22 =>
  pLoad h_10 t22 fun t23 =>
  pBin .lss t21 t23 fun t24 =>
  ifV t24
  (sh_graph_look_k3 P p4 phase2 h_10)
  (pField 3 p4 fun t26 =>
  pLoad h_10 t26 fun t27 =>
  pField 5 p4 fun t28 =>
  pLoad h_10 t28 fun t29 =>
  pBin .geq t27 t29 fun t30 =>
  ifV t30
  (sh_graph_look_k3 P p4 phase2 h_10)
  (R .normal h_10))

def sh_graph_look_L1 (P : Program) (t11 t10 : Value) (K : Value → Heap → Prop) (m : List Nat) (t12 : Value) (h_3 : Heap) (Z : List Nat → Value → Heap → Prop) : Prop :=
  pBin .lss t12 t11 fun t13 =>
  ifV t13
  (pIdx 1 t10 t12 fun t15 =>
  pLoad h_3 t15 fun t16 =>
  pBox T_int (.int .i64 0) h_3 fun phase2 h_4 =>
  pStore 1 phase2 t12 h_4 fun u h_5 =>
  callV P t16 [].toArray h_5 fun t18 h_6 =>
  rangeH P t18 [19] (h_6.size + 1) (h_6.push (.deferred (some []))) (fun L x hh R => sh_graph_look_B2 P h_6 phase2 L x.1 hh R)
  (fun h_13 => pBin .add t12 (.int .i64 1) fun t43 =>
  Z (h_6.size :: m) t43 h_13)
  (fun h_14 => takeM (h_6.size :: m) h_14 fun h_15 =>
  K (.tuple #[]) h_15)
  [])
  (takeM m h_3 fun h_16 =>
  K (.tuple #[]) h_16)

def sh_graph_look (P : Program) (r0 : Value) (h : Heap) (K : Value → Heap → Prop) : Prop :=
  pBox T_api_Raw r0 h fun r1 h_1 =>
  pBuildSlice T_func_iter_Seq_graph_place (zerosL [.nilFunc] 5) [(0, 1, (.func (.func F_graph_look_1) #[] #[r1])), (1, 1, (.func (.func F_graph_look_2) #[] #[r1])), (2, 1, (.func (.func F_graph_look_3) #[] #[r1])), (3, 1, (.func (.func F_graph_look_4) #[] #[r1])), (4, 1, (.func (.func F_graph_look_5) #[] #[r1]))] 5 h_1 fun t10 h_2 =>
  pLen t10 fun t11 =>
  LoopH (σ := List Nat × Vals [12]) (fun x hh ZZ => sh_graph_look_L1 P t11 t10 K x.1 x.2.1 hh (fun mz a0 hz => ZZ (mz, (a0, ())) hz)) ([], ((.int .i64 0), ())) h_2

set_option maxRecDepth 100000 in
theorem lk_graph_look (r0 : Value) {h : Heap} {K : Value → Heap → Prop} (H : sh_graph_look Tryz.prog r0 h K) : CallsH Tryz.prog F_graph_look [r0].toArray h K :=
  callsH_of (ann := (annG (Tryz.f50.body.getD .skip) 0 [(2, [12])]).1) (c := Tryz.f50.body.getD .skip) Tryz.func50 (by kernel_rfl) (by kernel_rfl) (by kernel_rfl) (of_decide_eq_true (by kernel_rfl))
    (Eq.mpr (by kernel_rfl) H)

end Go.Proofs.YtebjceofpaamjaaGreatDoor

namespace Go.Proofs.YtebjceofpaamjaaGreatDoor
open Go Go.Mh
set_option maxHeartbeats 0
set_option linter.unusedVariables false

/-! milestone/net.of$1 -/

def sh_net_of_1_C5 (P : Program) (t64 : Value) (Z_2 : Value → Heap → Prop) (h_31 : Heap) : Prop :=
  pBin .add t64 (.int .i64 1) fun t83 =>
  Z_2 t83 h_31

def sh_net_of_1_L4 (P : Program) (t63 t62 end0 rows8 : Value) (K : Value → Heap → Prop) (t64 : Value) (h_14 : Heap) (Z_2 : Value → Heap → Prop) : Prop :=
  pBin .lss t64 t63 fun t65 =>
  ifV t65
  (cutP (σ := Vals []) (fun J_1 =>
  pIdx 3 t62 t64 fun t67 =>
  pLoadN 3 h_14 t67 fun t68 =>
  pBox T_api_Arc (.agg #[(.int .i64 0), (.int .i64 0), (.int .i64 0)]) h_14 fun a13 h_15 =>
  pStore 3 a13 t68 h_15 fun u_3 h_16 =>
  pLoadN 3 h_16 a13 fun t71 =>
  pLoadN 3 h_16 a13 fun t75 =>
  (callV P end0 [t71].toArray h_16 fun t72 h_17 =>
  (pLoadN 3 h_17 a13 fun t75_1 =>
  t75_1 = t75) ∧
  ((callV P end0 [t75].toArray h_17 fun t76 h_18 =>
  pIdx 1 rows8 t76 fun t77 =>
  pLoad h_18 t77 fun t78 =>
  pBuildSlice T_int (zerosL [(.int .i64 0)] 1) [(0, 1, t64)] 1 h_18 fun t80 h_19 =>
  pAppend T_int 1 8 [(.int .i64 0)] t78 t80 h_19 fun t81 h_20 =>
  pIdx 1 rows8 t72 fun t82 =>
  pStore 1 t82 t81 h_20 fun u_4 h_21 =>
  J_1 () h_21) ∧
  (pBuildSlice T_int (zerosL [(.int .i64 0)] 1) [(0, 1, t64)] 1 h_17 fun t80_1 h_22 =>
  callV P end0 [t75].toArray h_22 fun t76_1 h_23 =>
  pIdx 1 rows8 t76_1 fun t77_1 =>
  pLoad h_23 t77_1 fun t78_1 =>
  pAppend T_int 1 8 [(.int .i64 0)] t78_1 t80_1 h_23 fun t81_1 h_24 =>
  pIdx 1 rows8 t72 fun t82_1 =>
  pStore 1 t82_1 t81_1 h_24 fun u_5 h_25 =>
  J_1 () h_25))) ∧
  (pBuildSlice T_int (zerosL [(.int .i64 0)] 1) [(0, 1, t64)] 1 h_16 fun t80_2 h_26 =>
  callV P end0 [t71].toArray h_26 fun t72_1 h_27 =>
  (pLoadN 3 h_27 a13 fun t75_2 =>
  t75_2 = t75) ∧
  (callV P end0 [t75].toArray h_27 fun t76_2 h_28 =>
  pIdx 1 rows8 t76_2 fun t77_2 =>
  pLoad h_28 t77_2 fun t78_2 =>
  pAppend T_int 1 8 [(.int .i64 0)] t78_2 t80_2 h_28 fun t81_2 h_29 =>
  pIdx 1 rows8 t72_1 fun t82_2 =>
  pStore 1 t82_2 t81_2 h_29 fun u_6 h_30 =>
  J_1 () h_30)))
  (fun x hh => sh_net_of_1_C5 P t64 Z_2 hh))
  (K rows8 h_14)

def sh_net_of_1_L3 (P : Program) (t41 t16 all7 rows8 t1 end0 : Value) (K : Value → Heap → Prop) (at9 t42 : Value) (h_12 : Heap) (Z_1 : Value → Value → Heap → Prop) : Prop :=
  pBin .lss t42 t41 fun t43 =>
  ifV t43
  (pIdx 1 t16 t42 fun t45 =>
  pLoad h_12 t45 fun t46 =>
  pBin .add at9 t46 fun t54 =>
  pSlice 1 all7 (some at9) (some at9) (some t54) fun t55 =>
  pIdx 1 rows8 t42 fun t56 =>
  pStore 1 t56 t55 h_12 fun u_2 h_13 =>
  pBin .add at9 t46 fun t59 =>
  pBin .add t42 (.int .i64 1) fun t60 =>
  Z_1 t59 t60 h_13)
  (pField 3 t1 fun t61 =>
  pLoad h_12 t61 fun t62 =>
  pLen t62 fun t63 =>
  LoopH (σ := Vals [64]) (fun x hh ZZ => sh_net_of_1_L4 P t63 t62 end0 rows8 K x.1 hh (fun a0 hz => ZZ (a0, ()) hz)) ((.int .i64 0), ()) h_12)

def sh_net_of_1_C2 (P : Program) (t16 t1 end0 : Value) (K : Value → Heap → Prop) (all7 rows8 : Value) (h_11 : Heap) : Prop :=
  pLen t16 fun t41 =>
  LoopH (σ := Vals [9, 42]) (fun x hh ZZ => sh_net_of_1_L3 P t41 t16 all7 rows8 t1 end0 K x.1 x.2.1 hh (fun a0 a1 hz => ZZ (a0, (a1, ())) hz)) ((.int .i64 0), ((.int .i64 0), ())) h_11

def sh_net_of_1_L1 (P : Program) (t19 t18 end0 t16 t1 : Value) (K : Value → Heap → Prop) (t20 : Value) (h_2 : Heap) (Z : Value → Heap → Prop) : Prop :=
  pBin .lss t20 t19 fun t21 =>
  ifV t21
  (pIdx 3 t18 t20 fun t22 =>
  pLoadN 3 h_2 t22 fun t23 =>
  pBox T_api_Arc (.agg #[(.int .i64 0), (.int .i64 0), (.int .i64 0)]) h_2 fun a6 h_3 =>
  pStore 3 a6 t23 h_3 fun u h_4 =>
  pLoadN 3 h_4 a6 fun t26 =>
  callV P end0 [t26].toArray h_4 fun t27 h_5 =>
  pIdx 1 t16 t27 fun t28 =>
  pLoad h_5 t28 fun t29 =>
  pBin .add t29 (.int .i64 1) fun t30 =>
  pIdx 1 t16 t27 fun t31 =>
  pStore 1 t31 t30 h_5 fun u_1 h_6 =>
  pBin .add t20 (.int .i64 1) fun t32 =>
  Z t32 h_6)
  (cutP (σ := Vals [7, 8]) (fun J =>
  pField 3 t1 fun t33 =>
  pLoad h_2 t33 fun t34 =>
  pLen t34 fun t35 =>
  pField 0 t1 fun t37 =>
  pLoad h_2 t37 fun t38 =>
  (pMakeSlice T_int 8 [(.int .i64 0)] t35 t35 h_2 fun t36 h_7 =>
  pMakeSlice T_sl_int 24 [(.slice none 0 0)] t38 t38 h_7 fun t39 h_8 =>
  J (t36, (t39, ())) h_8) ∧
  (pMakeSlice T_sl_int 24 [(.slice none 0 0)] t38 t38 h_2 fun t39_1 h_9 =>
  pMakeSlice T_int 8 [(.int .i64 0)] t35 t35 h_9 fun t36_1 h_10 =>
  J (t36_1, (t39_1, ())) h_10))
  (fun x hh => sh_net_of_1_C2 P t16 t1 end0 K x.1 x.2.1 hh))

def sh_net_of_1 (P : Program) (end0 t1 : Value) (h : Heap) (K : Value → Heap → Prop) : Prop :=
  pField 0 t1 fun t14 =>
  pLoad h t14 fun t15 =>
  pMakeSlice T_int 8 [(.int .i64 0)] t15 t15 h fun t16 h_1 =>
  pField 3 t1 fun t17 =>
  pLoad h_1 t17 fun t18 =>
  pLen t18 fun t19 =>
  LoopH (σ := Vals [20]) (fun x hh ZZ => sh_net_of_1_L1 P t19 t18 end0 t16 t1 K x.1 hh (fun a0 hz => ZZ (a0, ()) hz)) ((.int .i64 0), ()) h_1

set_option maxRecDepth 100000 in
theorem lk_net_of_1 (end0 t1 : Value) {h : Heap} {K : Value → Heap → Prop} (H : sh_net_of_1 Tryz.prog end0 t1 h K) : CallsH Tryz.prog F_net_of_1 [end0, t1].toArray h K :=
  callsH_of (ann := (annG (Tryz.f52.body.getD .skip) 0 [(4, [20]), (9, [7, 8]), (13, [9, 42]), (21, [64]), (24, [])]).1) (c := Tryz.f52.body.getD .skip) Tryz.func52 (by kernel_rfl) (by kernel_rfl) (by kernel_rfl) (of_decide_eq_true (by kernel_rfl))
    (Eq.mpr (by kernel_rfl) H)

/-! milestone/net.of$2 -/

def sh_net_of_2 (P : Program) (a0 : Value) (h : Heap) (K : Value → Heap → Prop) : Prop :=
  pBox T_api_Arc a0 h fun a1 h_1 =>
  pField 0 a1 fun t3 =>
  pLoad h_1 t3 fun t4 =>
  K t4 h_1

set_option maxRecDepth 100000 in
theorem lk_net_of_2 (a0 : Value) {h : Heap} {K : Value → Heap → Prop} (H : sh_net_of_2 Tryz.prog a0 h K) : CallsH Tryz.prog F_net_of_2 [a0].toArray h K :=
  callsH_of (ann := (annG (Tryz.f53.body.getD .skip) 0 []).1) (c := Tryz.f53.body.getD .skip) Tryz.func53 (by kernel_rfl) (by kernel_rfl) (by kernel_rfl) (of_decide_eq_true (by kernel_rfl))
    (Eq.mpr (by kernel_rfl) H)

/-! milestone/net.of$3 -/

def sh_net_of_3 (P : Program) (a0 : Value) (h : Heap) (K : Value → Heap → Prop) : Prop :=
  pBox T_api_Arc a0 h fun a1 h_1 =>
  pField 1 a1 fun t3 =>
  pLoad h_1 t3 fun t4 =>
  K t4 h_1

set_option maxRecDepth 100000 in
theorem lk_net_of_3 (a0 : Value) {h : Heap} {K : Value → Heap → Prop} (H : sh_net_of_3 Tryz.prog a0 h K) : CallsH Tryz.prog F_net_of_3 [a0].toArray h K :=
  callsH_of (ann := (annG (Tryz.f54.body.getD .skip) 0 []).1) (c := Tryz.f54.body.getD .skip) Tryz.func54 (by kernel_rfl) (by kernel_rfl) (by kernel_rfl) (of_decide_eq_true (by kernel_rfl))
    (Eq.mpr (by kernel_rfl) H)

/-! slices.Clone[[]int64,int64] -/

def sh_slices_Clone_sl_int64_int64 (P : Program) (s0 : Value) (h : Heap) (K : Value → Heap → Prop) : Prop :=
  pEq false .slice s0 (.slice none 0 0) fun t4 =>
  ifV t4
  (K (.slice none 0 0) h)
  (pBuildSlice T_int64 (zerosL [(.int .i64 0)] 0) [] 0 h fun t5 h_1 =>
  pAppend T_int64 1 8 [(.int .i64 0)] t5 s0 h_1 fun t7 h_2 =>
  K t7 h_2)

set_option maxRecDepth 100000 in
theorem lk_slices_Clone_sl_int64_int64 (s0 : Value) {h : Heap} {K : Value → Heap → Prop} (H : sh_slices_Clone_sl_int64_int64 Tryz.prog s0 h K) : CallsH Tryz.prog F_slices_Clone_sl_int64_int64 [s0].toArray h K :=
  callsH_of (ann := (annG (Tryz.f55.body.getD .skip) 0 []).1) (c := Tryz.f55.body.getD .skip) Tryz.func55 (by kernel_rfl) (by kernel_rfl) (by kernel_rfl) (of_decide_eq_true (by kernel_rfl))
    (Eq.mpr (by kernel_rfl) H)

/-! slices.Clone[[]milestone/api.Arc,milestone/api.Arc] -/

def sh_slices_Clone_sl_api_Arc_api_Arc (P : Program) (s0 : Value) (h : Heap) (K : Value → Heap → Prop) : Prop :=
  pEq false .slice s0 (.slice none 0 0) fun t4 =>
  ifV t4
  (K (.slice none 0 0) h)
  (pBuildSlice T_api_Arc (zerosL [(.int .i64 0), (.int .i64 0), (.int .i64 0)] 0) [] 0 h fun t5 h_1 =>
  pAppend T_api_Arc 3 24 [(.int .i64 0), (.int .i64 0), (.int .i64 0)] t5 s0 h_1 fun t7 h_2 =>
  K t7 h_2)

set_option maxRecDepth 100000 in
theorem lk_slices_Clone_sl_api_Arc_api_Arc (s0 : Value) {h : Heap} {K : Value → Heap → Prop} (H : sh_slices_Clone_sl_api_Arc_api_Arc Tryz.prog s0 h K) : CallsH Tryz.prog F_slices_Clone_sl_api_Arc_api_Arc [s0].toArray h K :=
  callsH_of (ann := (annG (Tryz.f56.body.getD .skip) 0 []).1) (c := Tryz.f56.body.getD .skip) Tryz.func56 (by kernel_rfl) (by kernel_rfl) (by kernel_rfl) (of_decide_eq_true (by kernel_rfl))
    (Eq.mpr (by kernel_rfl) H)

/-! (*milestone/net.Net).Nodes -/

def sh_net_Net_Nodes (P : Program) (n0 : Value) (h : Heap) (K : Value → Heap → Prop) : Prop :=
  pEq false .ptr n0 (.pointer none) fun t4 =>
  ifV t4
  (K (.int .i64 0) h)
  (pNil n0 fun t6 =>
  pField 0 t6 fun t7 =>
  pField 0 t7 fun t8 =>
  pLoad h t8 fun t9 =>
  K t9 h)

set_option maxRecDepth 100000 in
theorem lk_net_Net_Nodes (n0 : Value) {h : Heap} {K : Value → Heap → Prop} (H : sh_net_Net_Nodes Tryz.prog n0 h K) : CallsH Tryz.prog F_net_Net_Nodes [n0].toArray h K :=
  callsH_of (ann := (annG (Tryz.f57.body.getD .skip) 0 []).1) (c := Tryz.f57.body.getD .skip) Tryz.func57 (by kernel_rfl) (by kernel_rfl) (by kernel_rfl) (of_decide_eq_true (by kernel_rfl))
    (Eq.mpr (by kernel_rfl) H)

/-! milestone/heap.New -/

def sh_heap_New (P : Program) (n0 : Value) (h : Heap) (K : Value → Heap → Prop) : Prop :=
  pMakeMap h fun t3 h_1 =>
  pBuild [(.slice none 0 0), (.map none)] [(1, 1, t3)] fun t4 =>
  pMax n0 (.int .i64 0) fun t6 =>
  pBuild [(.slice none 0 0), (.map none), (.int .i64 0)] [(0, 2, t4), (2, 1, t6)] fun t7 =>
  pBox T_heap_Heap t7 h_1 fun t8 h_2 =>
  K t8 h_2

set_option maxRecDepth 100000 in
theorem lk_heap_New (n0 : Value) {h : Heap} {K : Value → Heap → Prop} (H : sh_heap_New Tryz.prog n0 h K) : CallsH Tryz.prog F_heap_New [n0].toArray h K :=
  callsH_of (ann := (annG (Tryz.f58.body.getD .skip) 0 []).1) (c := Tryz.f58.body.getD .skip) Tryz.func58 (by kernel_rfl) (by kernel_rfl) (by kernel_rfl) (of_decide_eq_true (by kernel_rfl))
    (Eq.mpr (by kernel_rfl) H)

/-! slices.Repeat[[]int64,int64] -/

def sh_slices_Repeat_sl_int64_int64_k1 (P : Program) (h_2 : Heap) : Prop :=
  False

def sh_slices_Repeat_sl_int64_int64_L2 (P : Program) (t30 : Value) (K : Value → Heap → Prop) (n8 : Value) (h_5 : Heap) (Z : Value → Heap → Prop) : Prop :=
  pLen t30 fun t36 =>
  pBin .lss n8 t36 fun t37 =>
  ifV t37
  (pSlice 1 t30 (some n8) none none fun t41 =>
  pSlice 1 t30 none (some n8) none fun t44 =>
  pCopy 1 t41 t44 h_5 fun t45 h_6 =>
  pBin .add n8 t45 fun t46 =>
  Z t46 h_6)
  (K t30 h_5)

def sh_slices_Repeat_sl_int64_int64 (P : Program) (x0 count1 : Value) (h : Heap) (K : Value → Heap → Prop) : Prop :=
  pBin .lss count1 (.int .i64 0) fun t10 =>
  ifV t10
  (False)
  (pLen x0 fun t14 =>
  pConv .u64 t14 fun t15 =>
  pConv .u64 count1 fun t17 =>
  callS P F_math_bits_Mul [t15, t17] h fun t18 h_1 =>
  pExt t18 0 fun t19 =>
  pExt t18 1 fun t20 =>
  pBin .gtr t19 (.int .u64 0) fun t22 =>
  ifV t22
  (sh_slices_Repeat_sl_int64_int64_k1 P h_1)
  (pBin .gtr t20 (.int .u64 9223372036854775807) fun t25 =>
  ifV t25
  (sh_slices_Repeat_sl_int64_int64_k1 P h_1)
  (pConv .i64 t20 fun t29 =>
  pMakeSlice T_int64 8 [(.int .i64 0)] t29 t29 h_1 fun t30 h_3 =>
  pCopy 1 t30 x0 h_3 fun t33 h_4 =>
  LoopH (σ := Vals [8]) (fun x hh ZZ => sh_slices_Repeat_sl_int64_int64_L2 P t30 K x.1 hh (fun a0 hz => ZZ (a0, ()) hz)) (t33, ()) h_4)))

set_option maxRecDepth 100000 in
theorem lk_slices_Repeat_sl_int64_int64 (x0 count1 : Value) {h : Heap} {K : Value → Heap → Prop} (H : sh_slices_Repeat_sl_int64_int64 Tryz.prog x0 count1 h K) : CallsH Tryz.prog F_slices_Repeat_sl_int64_int64 [x0, count1].toArray h K :=
  callsH_of (ann := (annG (Tryz.f59.body.getD .skip) 0 [(9, [8])]).1) (c := Tryz.f59.body.getD .skip) Tryz.func59 (by kernel_rfl) (by kernel_rfl) (by kernel_rfl) (of_decide_eq_true (by kernel_rfl))
    (Eq.mpr (by kernel_rfl) H)

/-! slices.Repeat[[]int,int] -/

def sh_slices_Repeat_sl_int_int_k1 (P : Program) (h_2 : Heap) : Prop :=
  False

def sh_slices_Repeat_sl_int_int_L2 (P : Program) (t30 : Value) (K : Value → Heap → Prop) (n8 : Value) (h_5 : Heap) (Z : Value → Heap → Prop) : Prop :=
  pLen t30 fun t36 =>
  pBin .lss n8 t36 fun t37 =>
  ifV t37
  (pSlice 1 t30 (some n8) none none fun t41 =>
  pSlice 1 t30 none (some n8) none fun t44 =>
  pCopy 1 t41 t44 h_5 fun t45 h_6 =>
  pBin .add n8 t45 fun t46 =>
  Z t46 h_6)
  (K t30 h_5)

def sh_slices_Repeat_sl_int_int (P : Program) (x0 count1 : Value) (h : Heap) (K : Value → Heap → Prop) : Prop :=
  pBin .lss count1 (.int .i64 0) fun t10 =>
  ifV t10
  (False)
  (pLen x0 fun t14 =>
  pConv .u64 t14 fun t15 =>
  pConv .u64 count1 fun t17 =>
  callS P F_math_bits_Mul [t15, t17] h fun t18 h_1 =>
  pExt t18 0 fun t19 =>
  pExt t18 1 fun t20 =>
  pBin .gtr t19 (.int .u64 0) fun t22 =>
  ifV t22
  (sh_slices_Repeat_sl_int_int_k1 P h_1)
  (pBin .gtr t20 (.int .u64 9223372036854775807) fun t25 =>
  ifV t25
  (sh_slices_Repeat_sl_int_int_k1 P h_1)
  (pConv .i64 t20 fun t29 =>
  pMakeSlice T_int 8 [(.int .i64 0)] t29 t29 h_1 fun t30 h_3 =>
  pCopy 1 t30 x0 h_3 fun t33 h_4 =>
  LoopH (σ := Vals [8]) (fun x hh ZZ => sh_slices_Repeat_sl_int_int_L2 P t30 K x.1 hh (fun a0 hz => ZZ (a0, ()) hz)) (t33, ()) h_4)))

set_option maxRecDepth 100000 in
theorem lk_slices_Repeat_sl_int_int (x0 count1 : Value) {h : Heap} {K : Value → Heap → Prop} (H : sh_slices_Repeat_sl_int_int Tryz.prog x0 count1 h K) : CallsH Tryz.prog F_slices_Repeat_sl_int_int [x0, count1].toArray h K :=
  callsH_of (ann := (annG (Tryz.f60.body.getD .skip) 0 [(9, [8])]).1) (c := Tryz.f60.body.getD .skip) Tryz.func60 (by kernel_rfl) (by kernel_rfl) (by kernel_rfl) (of_decide_eq_true (by kernel_rfl))
    (Eq.mpr (by kernel_rfl) H)

/-! (*milestone/heap.Heap).Push -/

def sh_heap_Heap_Push_k1 (P : Program) (K : Value → Heap → Prop) (h_1 : Heap) : Prop :=
  K (.int .i64 2) h_1

def sh_heap_Heap_Push (P : Program) (h0 id1 key2 : Value) (h : Heap) (K : Value → Heap → Prop) : Prop :=
  pEq false .ptr h0 (.pointer none) fun t10 =>
  ifV t10
  (K (.int .i64 1) h)
  (pNil h0 fun t13 =>
  pField 0 t13 fun t14 =>
  pField 1 t14 fun t15 =>
  pLoad h t15 fun t16 =>
  pLook (.int .i64) (.int .i64 0) true h t16 id1 fun t18 =>
  pExt t18 0 fun t19 =>
  pExt t18 1 fun t20 =>
  ifV t20
  (sh_heap_Heap_Push_k1 P K h)
  (pBin .lss id1 (.int .i64 0) fun t24 =>
  ifV t24
  (sh_heap_Heap_Push_k1 P K h)
  (pNil h0 fun t29 =>
  pField 2 t29 fun t30 =>
  pLoad h t30 fun t31 =>
  pBin .geq id1 t31 fun t32 =>
  ifV t32
  (sh_heap_Heap_Push_k1 P K h)
  (pNil h0 fun t35 =>
  pField 0 t35 fun t36 =>
  pField 1 t36 fun t37 =>
  pLoad h t37 fun t38 =>
  pNil h0 fun t41 =>
  pField 0 t41 fun t42 =>
  pField 0 t42 fun t43 =>
  pLoad h t43 fun t44 =>
  pLen t44 fun t45 =>
  pMapSet (.int .i64) t38 id1 t45 h fun u h_2 =>
  pNil h0 fun t48 =>
  pField 0 t48 fun t49 =>
  pField 0 t49 fun t50 =>
  pLoad h_2 t50 fun t51 =>
  pBuild [(.int .i64 0), (.int .i64 0)] [(0, 1, id1), (1, 1, key2)] fun t54 =>
  pBuildSlice T_heap_held (zerosL [(.int .i64 0), (.int .i64 0)] 1) [(0, 2, t54)] 1 h_2 fun t55 h_3 =>
  pAppend T_heap_held 2 16 [(.int .i64 0), (.int .i64 0)] t51 t55 h_3 fun t56 h_4 =>
  pNil h0 fun t57 =>
  pField 0 t57 fun t58 =>
  pField 0 t58 fun t59 =>
  pStore 1 t59 t56 h_4 fun u_1 h_5 =>
  pNil h0 fun t61 =>
  pField 0 t61 fun t62 =>
  pNil h0 fun t64 =>
  pField 0 t64 fun t65 =>
  pField 0 t65 fun t66 =>
  pLoad h_5 t66 fun t67 =>
  pLen t67 fun t68 =>
  pBin .sub t68 (.int .i64 1) fun t69 =>
  callS P F_heap_row_up [t62, t69] h_5 fun t70 h_6 =>
  K (.int .i64 0) h_6))))

set_option maxRecDepth 100000 in
theorem lk_heap_Heap_Push (h0 id1 key2 : Value) {h : Heap} {K : Value → Heap → Prop} (H : sh_heap_Heap_Push Tryz.prog h0 id1 key2 h K) : CallsH Tryz.prog F_heap_Heap_Push [h0, id1, key2].toArray h K :=
  callsH_of (ann := (annG (Tryz.f61.body.getD .skip) 0 []).1) (c := Tryz.f61.body.getD .skip) Tryz.func61 (by kernel_rfl) (by kernel_rfl) (by kernel_rfl) (of_decide_eq_true (by kernel_rfl))
    (Eq.mpr (by kernel_rfl) H)

/-! (*milestone/heap.Heap).Pop -/

def sh_heap_Heap_Pop (P : Program) (h0 : Value) (h : Heap) (K : Value → Heap → Prop) : Prop :=
  callS P F_heap_Heap_Len [h0] h fun t8 h_1 =>
  pBin .eql t8 (.int .i64 0) fun t9 =>
  ifV t9
  (K (.tuple #[(.int .i64 0), (.int .i64 0), (.bool false)]) h_1)
  (pNil h0 fun t11 =>
  pField 0 t11 fun t12 =>
  pField 0 t12 fun t13 =>
  pLoad h_1 t13 fun t14 =>
  pIdx 2 t14 (.int .i64 0) fun t15 =>
  pLoadN 2 h_1 t15 fun t16 =>
  pNil h0 fun t18 =>
  pField 0 t18 fun t19 =>
  pField 0 t19 fun t20 =>
  pLoad h_1 t20 fun t21 =>
  pLen t21 fun t22 =>
  pBin .sub t22 (.int .i64 1) fun t23 =>
  pBox T_heap_held (.agg #[(.int .i64 0), (.int .i64 0)]) h_1 fun first5 h_2 =>
  pStore 2 first5 t16 h_2 fun u h_3 =>
  (pLoad h_3 t20 fun t21_1 =>
  t21_1 = t21) ∧
  (pNil h0 fun t25 =>
  pField 0 t25 fun t26 =>
  callS P F_heap_row_swap [t26, (.int .i64 0), t23] h_3 fun t28 h_4 =>
  pNil h0 fun t31 =>
  pField 0 t31 fun t32 =>
  pField 0 t32 fun t33 =>
  pLoad h_4 t33 fun t34 =>
  pSlice 2 t34 none (some t23) none fun t36 =>
  pNil h0 fun t37 =>
  pField 0 t37 fun t38 =>
  pField 0 t38 fun t39 =>
  pStore 1 t39 t36 h_4 fun u_1 h_5 =>
  pNil h0 fun t41 =>
  pField 0 t41 fun t42 =>
  pField 1 t42 fun t43 =>
  pLoad h_5 t43 fun t44 =>
  pField 0 first5 fun t45 =>
  pLoad h_5 t45 fun t46 =>
  pDelete (.int .i64) t44 t46 h_5 fun u_2 h_6 =>
  pNil h0 fun t48 =>
  pField 0 t48 fun t49 =>
  callS P F_heap_row_down [t49, (.int .i64 0)] h_6 fun t50 h_7 =>
  pField 0 first5 fun t51 =>
  pLoad h_7 t51 fun t52 =>
  pField 1 first5 fun t53 =>
  pLoad h_7 t53 fun t54 =>
  K (.tuple #[t52, t54, (.bool true)]) h_7))

set_option maxRecDepth 100000 in
theorem lk_heap_Heap_Pop (h0 : Value) {h : Heap} {K : Value → Heap → Prop} (H : sh_heap_Heap_Pop Tryz.prog h0 h K) : CallsH Tryz.prog F_heap_Heap_Pop [h0].toArray h K :=
  callsH_of (ann := (annG (Tryz.f62.body.getD .skip) 0 []).1) (c := Tryz.f62.body.getD .skip) Tryz.func62 (by kernel_rfl) (by kernel_rfl) (by kernel_rfl) (of_decide_eq_true (by kernel_rfl))
    (Eq.mpr (by kernel_rfl) H)

/-! milestone/flood.arcs -/

def sh_flood_arcs (P : Program) (n0 l1 end2 : Value) (h : Heap) (K : Value → Heap → Prop) : Prop :=
  pBox T_p_net_Net n0 h fun n3 h_1 =>
  pBox T_sl_int l1 h_1 fun l4 h_2 =>
  pBox T_func_api_Arc_int end2 h_2 fun end5 h_3 =>
  K (.func (.func F_flood_arcs_1) #[] #[l4, n3, end5]) h_3

set_option maxRecDepth 100000 in
theorem lk_flood_arcs (n0 l1 end2 : Value) {h : Heap} {K : Value → Heap → Prop} (H : sh_flood_arcs Tryz.prog n0 l1 end2 h K) : CallsH Tryz.prog F_flood_arcs [n0, l1, end2].toArray h K :=
  callsH_of (ann := (annG (Tryz.f63.body.getD .skip) 0 []).1) (c := Tryz.f63.body.getD .skip) Tryz.func63 (by kernel_rfl) (by kernel_rfl) (by kernel_rfl) (of_decide_eq_true (by kernel_rfl))
    (Eq.mpr (by kernel_rfl) H)

/-! (*milestone/flood.run).reach -/

def sh_flood_run_reach_k2 (P : Program) (r0 v1 arc2 : Value) (K : Value → Heap → Prop) (h_4 : Heap) : Prop :=
  pNil r0 fun t52 =>
  pField 1 t52 fun t53 =>
  pField 1 t53 fun t54 =>
  pLoad h_4 t54 fun t55 =>
  pIdx 1 t55 v1 fun t58 =>
  pStore 1 t58 arc2 h_4 fun u h_5 =>
  K (.tuple #[]) h_5

def sh_flood_run_reach_k1 (P : Program) (t18 r0 v1 far3 arc2 : Value) (K : Value → Heap → Prop) (h_2 : Heap) : Prop :=
  ifV t18
  (pNil r0 fun t45 =>
  pField 0 t45 fun t46 =>
  pLoad h_2 t46 fun t47 =>
  callS P F_heap_Heap_Lower [t47, v1, far3] h_2 fun t50 h_3 =>
  sh_flood_run_reach_k2 P r0 v1 arc2 K h_3)
  (pNil r0 fun t20 =>
  pField 0 t20 fun t21 =>
  pLoad h_2 t21 fun t22 =>
  callS P F_heap_Heap_Push [t22, v1, far3] h_2 fun t25 h_6 =>
  sh_flood_run_reach_k2 P r0 v1 arc2 K h_6)

def sh_flood_run_reach (P : Program) (r0 v1 arc2 far3 : Value) (h : Heap) (K : Value → Heap → Prop) : Prop :=
  pNil r0 fun t12 =>
  pField 0 t12 fun t13 =>
  pLoad h t13 fun t14 =>
  callS P F_heap_Heap_Key [t14, v1] h fun t16 h_1 =>
  pExt t16 0 fun t17 =>
  pExt t16 1 fun t18 =>
  pNil r0 fun t28 =>
  pField 4 t28 fun t29 =>
  pLoad h_1 t29 fun t30 =>
  pLook (.int .i64) (.int .i64 0) false h_1 t30 v1 fun t32 =>
  pBin .gtr t32 (.int .i64 0) fun t33 =>
  ifV t33
  (K (.tuple #[]) h_1)
  (ifV t18
  (pBin .leq t17 far3 fun t39 =>
  ifV t39
  (K (.tuple #[]) h_1)
  (sh_flood_run_reach_k1 P t18 r0 v1 far3 arc2 K h_1))
  (sh_flood_run_reach_k1 P t18 r0 v1 far3 arc2 K h_1))

set_option maxRecDepth 100000 in
theorem lk_flood_run_reach (r0 v1 arc2 far3 : Value) {h : Heap} {K : Value → Heap → Prop} (H : sh_flood_run_reach Tryz.prog r0 v1 arc2 far3 h K) : CallsH Tryz.prog F_flood_run_reach [r0, v1, arc2, far3].toArray h K :=
  callsH_of (ann := (annG (Tryz.f64.body.getD .skip) 0 []).1) (c := Tryz.f64.body.getD .skip) Tryz.func64 (by kernel_rfl) (by kernel_rfl) (by kernel_rfl) (of_decide_eq_true (by kernel_rfl))
    (Eq.mpr (by kernel_rfl) H)

/-! milestone/net.one[[]int] -/

def sh_net_one_sl_int_k1 (P : Program) (K : Value → Heap → Prop) (h_1 : Heap) : Prop :=
  K (.tuple #[(.slice none 0 0), (.bool false)]) h_1

def sh_net_one_sl_int (P : Program) (l0 i1 : Value) (h : Heap) (K : Value → Heap → Prop) : Prop :=
  pBin .lss i1 (.int .i64 0) fun t7 =>
  ifV t7
  (sh_net_one_sl_int_k1 P K h)
  (pLen l0 fun t11 =>
  pBin .geq i1 t11 fun t12 =>
  ifV t12
  (sh_net_one_sl_int_k1 P K h)
  (pIdx 1 l0 i1 fun t17 =>
  pLoad h t17 fun t18 =>
  K (.tuple #[t18, (.bool true)]) h))

set_option maxRecDepth 100000 in
theorem lk_net_one_sl_int (l0 i1 : Value) {h : Heap} {K : Value → Heap → Prop} (H : sh_net_one_sl_int Tryz.prog l0 i1 h K) : CallsH Tryz.prog F_net_one_sl_int [l0, i1].toArray h K :=
  callsH_of (ann := (annG (Tryz.f65.body.getD .skip) 0 []).1) (c := Tryz.f65.body.getD .skip) Tryz.func65 (by kernel_rfl) (by kernel_rfl) (by kernel_rfl) (of_decide_eq_true (by kernel_rfl))
    (Eq.mpr (by kernel_rfl) H)

/-! slices.Clone[[]int,int] -/

def sh_slices_Clone_sl_int_int (P : Program) (s0 : Value) (h : Heap) (K : Value → Heap → Prop) : Prop :=
  pEq false .slice s0 (.slice none 0 0) fun t4 =>
  ifV t4
  (K (.slice none 0 0) h)
  (pBuildSlice T_int (zerosL [(.int .i64 0)] 0) [] 0 h fun t5 h_1 =>
  pAppend T_int 1 8 [(.int .i64 0)] t5 s0 h_1 fun t7 h_2 =>
  K t7 h_2)

set_option maxRecDepth 100000 in
theorem lk_slices_Clone_sl_int_int (s0 : Value) {h : Heap} {K : Value → Heap → Prop} (H : sh_slices_Clone_sl_int_int Tryz.prog s0 h K) : CallsH Tryz.prog F_slices_Clone_sl_int_int [s0].toArray h K :=
  callsH_of (ann := (annG (Tryz.f66.body.getD .skip) 0 []).1) (c := Tryz.f66.body.getD .skip) Tryz.func66 (by kernel_rfl) (by kernel_rfl) (by kernel_rfl) (of_decide_eq_true (by kernel_rfl))
    (Eq.mpr (by kernel_rfl) H)

/-! (*milestone/milestoneref08.Heap).at -/

def sh_milestoneref08_Heap_at_L1 (P : Program) (h0 id1 : Value) (K : Value → Heap → Prop) (i5 : Value) (h_1 : Heap) (Z : Value → Heap → Prop) : Prop :=
  pNil h0 fun t8 =>
  pField 1 t8 fun t9 =>
  pLoad h_1 t9 fun t10 =>
  pLen t10 fun t11 =>
  pBin .lss i5 t11 fun t12 =>
  ifV t12
  (pNil h0 fun t16 =>
  pField 1 t16 fun t17 =>
  pLoad h_1 t17 fun t18 =>
  pIdx 2 t18 i5 fun t20 =>
  pField 0 t20 fun t21 =>
  pLoad h_1 t21 fun t22 =>
  pBin .eql t22 id1 fun t24 =>
  ifV t24
  (K i5 h_1)
  (pBin .add i5 (.int .i64 1) fun t14 =>
  Z t14 h_1))
  (K (.int .i64 (-1)) h_1)

def sh_milestoneref08_Heap_at (P : Program) (h0 id1 : Value) (h : Heap) (K : Value → Heap → Prop) : Prop :=
  LoopH (σ := Vals [5]) (fun x hh ZZ => sh_milestoneref08_Heap_at_L1 P h0 id1 K x.1 hh (fun a0 hz => ZZ (a0, ()) hz)) ((.int .i64 0), ()) h

set_option maxRecDepth 100000 in
theorem lk_milestoneref08_Heap_at (h0 id1 : Value) {h : Heap} {K : Value → Heap → Prop} (H : sh_milestoneref08_Heap_at Tryz.prog h0 id1 h K) : CallsH Tryz.prog F_milestoneref08_Heap_at [h0, id1].toArray h K :=
  callsH_of (ann := (annG (Tryz.f67.body.getD .skip) 0 [(3, [5])]).1) (c := Tryz.f67.body.getD .skip) Tryz.func67 (by kernel_rfl) (by kernel_rfl) (by kernel_rfl) (of_decide_eq_true (by kernel_rfl))
    (Eq.mpr (by kernel_rfl) H)

/-! (*milestone/milestoneref08.Heap).least -/

def sh_milestoneref08_Heap_least_k3 (P : Program) (i4 : Value) (Z : Value → Value → Heap → Prop) (best3_1 : Value) (h_3 : Heap) : Prop :=
  pBin .add i4 (.int .i64 1) fun t13 =>
  Z best3_1 t13 h_3

def sh_milestoneref08_Heap_least_k2 (P : Program) (i4 : Value) (Z : Value → Value → Heap → Prop) (h_2 : Heap) : Prop :=
  sh_milestoneref08_Heap_least_k3 P i4 Z i4 h_2

def sh_milestoneref08_Heap_least_L1 (P : Program) (h0 : Value) (K : Value → Heap → Prop) (best3 i4 : Value) (h_1 : Heap) (Z : Value → Value → Heap → Prop) : Prop :=
  pNil h0 fun t7 =>
  pField 1 t7 fun t8 =>
  pLoad h_1 t8 fun t9 =>
  pLen t9 fun t10 =>
  pBin .lss i4 t10 fun t11 =>
  ifV t11
  (pBin .lss best3 (.int .i64 0) fun t15 =>
  ifV t15
  (sh_milestoneref08_Heap_least_k2 P i4 Z h_1)
  (pNil h0 fun t18 =>
  pField 1 t18 fun t19 =>
  pLoad h_1 t19 fun t20 =>
  pIdx 2 t20 i4 fun t22 =>
  pField 1 t22 fun t23 =>
  pLoad h_1 t23 fun t24 =>
  pNil h0 fun t26 =>
  pField 1 t26 fun t27 =>
  pLoad h_1 t27 fun t28 =>
  pIdx 2 t28 best3 fun t30 =>
  pField 1 t30 fun t31 =>
  pLoad h_1 t31 fun t32 =>
  pBin .lss t24 t32 fun t33 =>
  ifV t33
  (sh_milestoneref08_Heap_least_k2 P i4 Z h_1)
  (pNil h0 fun t37 =>
  pField 1 t37 fun t38 =>
  pLoad h_1 t38 fun t39 =>
  pIdx 2 t39 i4 fun t41 =>
  pField 1 t41 fun t42 =>
  pLoad h_1 t42 fun t43 =>
  pNil h0 fun t45 =>
  pField 1 t45 fun t46 =>
  pLoad h_1 t46 fun t47 =>
  pIdx 2 t47 best3 fun t49 =>
  pField 1 t49 fun t50 =>
  pLoad h_1 t50 fun t51 =>
  pBin .eql t43 t51 fun t52 =>
  ifV t52
  (pNil h0 fun t55 =>
  pField 1 t55 fun t56 =>
  pLoad h_1 t56 fun t57 =>
  pIdx 2 t57 i4 fun t59 =>
  pField 0 t59 fun t60 =>
  pLoad h_1 t60 fun t61 =>
  pNil h0 fun t63 =>
  pField 1 t63 fun t64 =>
  pLoad h_1 t64 fun t65 =>
  pIdx 2 t65 best3 fun t67 =>
  pField 0 t67 fun t68 =>
  pLoad h_1 t68 fun t69 =>
  pBin .lss t61 t69 fun t70 =>
  ifV t70
  (sh_milestoneref08_Heap_least_k2 P i4 Z h_1)
  (sh_milestoneref08_Heap_least_k3 P i4 Z best3 h_1))
  (sh_milestoneref08_Heap_least_k3 P i4 Z best3 h_1))))
  (K best3 h_1)

def sh_milestoneref08_Heap_least (P : Program) (h0 : Value) (h : Heap) (K : Value → Heap → Prop) : Prop :=
  LoopH (σ := Vals [3, 4]) (fun x hh ZZ => sh_milestoneref08_Heap_least_L1 P h0 K x.1 x.2.1 hh (fun a0 a1 hz => ZZ (a0, (a1, ())) hz)) ((.int .i64 (-1)), ((.int .i64 0), ())) h

set_option maxRecDepth 100000 in
theorem lk_milestoneref08_Heap_least (h0 : Value) {h : Heap} {K : Value → Heap → Prop} (H : sh_milestoneref08_Heap_least Tryz.prog h0 h K) : CallsH Tryz.prog F_milestoneref08_Heap_least [h0].toArray h K :=
  callsH_of (ann := (annG (Tryz.f68.body.getD .skip) 0 [(4, [3, 4])]).1) (c := Tryz.f68.body.getD .skip) Tryz.func68 (by kernel_rfl) (by kernel_rfl) (by kernel_rfl) (of_decide_eq_true (by kernel_rfl))
    (Eq.mpr (by kernel_rfl) H)

/-! milestone/dist.between[int64] -/

def sh_dist_between_int64 (P : Program) (least0 greatest1 : Value) (h : Heap) (K : Value → Heap → Prop) : Prop :=
  pBox T_int64 least0 h fun least2 h_1 =>
  pBox T_int64 greatest1 h_1 fun greatest3 h_2 =>
  K (.func (.func F_dist_between_int64_1) #[] #[least2, greatest3]) h_2

set_option maxRecDepth 100000 in
theorem lk_dist_between_int64 (least0 greatest1 : Value) {h : Heap} {K : Value → Heap → Prop} (H : sh_dist_between_int64 Tryz.prog least0 greatest1 h K) : CallsH Tryz.prog F_dist_between_int64 [least0, greatest1].toArray h K :=
  callsH_of (ann := (annG (Tryz.f69.body.getD .skip) 0 []).1) (c := Tryz.f69.body.getD .skip) Tryz.func69 (by kernel_rfl) (by kernel_rfl) (by kernel_rfl) (of_decide_eq_true (by kernel_rfl))
    (Eq.mpr (by kernel_rfl) H)

/-! milestone/graph.look$1 -/

def sh_graph_look_1 (P : Program) (t0 : Value) (h : Heap) (K : Value → Heap → Prop) : Prop :=
  pField 0 t0 fun t2 =>
  pLoad h t2 fun t3 =>
  callS P F_graph_one [(.int .i64 5), t3, (.int .i64 1), (.int .i64 16777217)] h fun t4 h_1 =>
  K t4 h_1

set_option maxRecDepth 100000 in
theorem lk_graph_look_1 (t0 : Value) {h : Heap} {K : Value → Heap → Prop} (H : sh_graph_look_1 Tryz.prog t0 h K) : CallsH Tryz.prog F_graph_look_1 [t0].toArray h K :=
  callsH_of (ann := (annG (Tryz.f70.body.getD .skip) 0 []).1) (c := Tryz.f70.body.getD .skip) Tryz.func70 (by kernel_rfl) (by kernel_rfl) (by kernel_rfl) (of_decide_eq_true (by kernel_rfl))
    (Eq.mpr (by kernel_rfl) H)

/-! milestone/graph.one -/

def sh_graph_one (P : Program) (code0 n1 least2 end3 : Value) (h : Heap) (K : Value → Heap → Prop) : Prop :=
  pBuild [(.int .i64 0), (.int .i64 0), (.int .i64 0), (.int .i64 0), (.int .i64 0), (.int .i64 0)] [(0, 1, (.int .i64 0)), (1, 1, (.int .i64 0)), (2, 1, code0), (3, 1, n1), (4, 1, least2), (5, 1, end3)] fun t13 =>
  pBuildSlice T_graph_place (zerosL [(.int .i64 0), (.int .i64 0), (.int .i64 0), (.int .i64 0), (.int .i64 0), (.int .i64 0)] 1) [(0, 6, t13)] 1 h fun t14 h_1 =>
  callS P F_slices_Values_sl_graph_place_graph_place [t14] h_1 fun t15 h_2 =>
  K t15 h_2

set_option maxRecDepth 100000 in
theorem lk_graph_one (code0 n1 least2 end3 : Value) {h : Heap} {K : Value → Heap → Prop} (H : sh_graph_one Tryz.prog code0 n1 least2 end3 h K) : CallsH Tryz.prog F_graph_one [code0, n1, least2, end3].toArray h K :=
  callsH_of (ann := (annG (Tryz.f71.body.getD .skip) 0 []).1) (c := Tryz.f71.body.getD .skip) Tryz.func71 (by kernel_rfl) (by kernel_rfl) (by kernel_rfl) (of_decide_eq_true (by kernel_rfl))
    (Eq.mpr (by kernel_rfl) H)

/-! milestone/graph.look$2 -/

def sh_graph_look_2 (P : Program) (t0 : Value) (h : Heap) (K : Value → Heap → Prop) : Prop :=
  pLoadN 4 h t0 fun t2 =>
  callS P F_graph_shapes [t2] h fun t3 h_1 =>
  K t3 h_1

set_option maxRecDepth 100000 in
theorem lk_graph_look_2 (t0 : Value) {h : Heap} {K : Value → Heap → Prop} (H : sh_graph_look_2 Tryz.prog t0 h K) : CallsH Tryz.prog F_graph_look_2 [t0].toArray h K :=
  callsH_of (ann := (annG (Tryz.f72.body.getD .skip) 0 []).1) (c := Tryz.f72.body.getD .skip) Tryz.func72 (by kernel_rfl) (by kernel_rfl) (by kernel_rfl) (of_decide_eq_true (by kernel_rfl))
    (Eq.mpr (by kernel_rfl) H)

/-! milestone/graph.shapes -/

def sh_graph_shapes (P : Program) (r0 : Value) (h : Heap) (K : Value → Heap → Prop) : Prop :=
  pBox T_api_Raw r0 h fun r1 h_1 =>
  pField 0 r1 fun t4 =>
  pLoad h_1 t4 fun t5 =>
  pField 1 r1 fun t6 =>
  pLoad h_1 t6 fun t7 =>
  pLen t7 fun t8 =>
  pBin .add t5 (.int .i64 1) fun t11 =>
  pBuild [(.int .i64 0), (.int .i64 0), (.int .i64 0), (.int .i64 0), (.int .i64 0), (.int .i64 0)] [(0, 1, (.int .i64 0)), (1, 1, (.int .i64 0)), (2, 1, (.int .i64 6)), (3, 1, t8), (4, 1, t5), (5, 1, t11)] fun t12 =>
  pField 2 r1 fun t13 =>
  pLoad h_1 t13 fun t14 =>
  pLen t14 fun t15 =>
  pBin .add t5 (.int .i64 1) fun t18 =>
  pBuild [(.int .i64 0), (.int .i64 0), (.int .i64 0), (.int .i64 0), (.int .i64 0), (.int .i64 0)] [(0, 1, (.int .i64 0)), (1, 1, (.int .i64 1)), (2, 1, (.int .i64 6)), (3, 1, t15), (4, 1, t5), (5, 1, t18)] fun t19 =>
  pBuildSlice T_graph_place (zerosL [(.int .i64 0), (.int .i64 0), (.int .i64 0), (.int .i64 0), (.int .i64 0), (.int .i64 0)] 2) [(0, 6, t12), (6, 6, t19)] 2 h_1 fun t20 h_2 =>
  callS P F_slices_Values_sl_graph_place_graph_place [t20] h_2 fun t21 h_3 =>
  K t21 h_3

set_option maxRecDepth 100000 in
theorem lk_graph_shapes (r0 : Value) {h : Heap} {K : Value → Heap → Prop} (H : sh_graph_shapes Tryz.prog r0 h K) : CallsH Tryz.prog F_graph_shapes [r0].toArray h K :=
  callsH_of (ann := (annG (Tryz.f73.body.getD .skip) 0 []).1) (c := Tryz.f73.body.getD .skip) Tryz.func73 (by kernel_rfl) (by kernel_rfl) (by kernel_rfl) (of_decide_eq_true (by kernel_rfl))
    (Eq.mpr (by kernel_rfl) H)

end Go.Proofs.YtebjceofpaamjaaGreatDoor
