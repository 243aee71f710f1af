/- Texts of the proofs of seat YtbacdjahpahcfaaGreatDoor, joined: Ids, Gen1, Gen2, Gen3, Gen4, Gen5, Gen. They have no conditions of their own. -/
import Derived.Test.YtbacdjahpahcfaaGreatDoorMc
import Derived.Test.YtbacdjahpahcfaaGreatDoorChecked
import Derived.KernelRfl
set_option linter.unusedVariables false
set_option linter.unusedSimpArgs false

namespace Go.Proofs.YtbacdjahpahcfaaGreatDoor
abbrev F_gosem_cut_init : Nat := 2
abbrev F_milestonelaw22_SplitTells : Nat := 3
abbrev F_milestonelaw22_SplitEven : Nat := 4
abbrev F_milestonelaw22_SplitHalves : Nat := 5
abbrev F_milestonelaw22_SplitMoves : Nat := 6
abbrev F_milestonelaw22_SplitKnown : Nat := 7
abbrev F_milestonelaw22_drawn : Nat := 8
abbrev F_milestonelaw22_made : Nat := 9
abbrev F_split_Way : Nat := 10
abbrev F_milestoneref22_Way : Nat := 11
abbrev F_milestoneref07_Ints : Nat := 12
abbrev F_split_Map : Nat := 13
abbrev F_milestoneref22_Map : Nat := 14
abbrev F_milestonelaw22_works : Nat := 15
abbrev F_milestonelaw22_rows : Nat := 16
abbrev F_milestoneref07_Draft_Raw : Nat := 17
abbrev F_net_New : Nat := 18
abbrev F_slices_DeleteFunc_sl_int_int : Nat := 19
abbrev F_slices_Clone_sl_int_int : Nat := 20
abbrev F_split_Way_1 : Nat := 21
abbrev F_net_Net_Nodes : Nat := 22
abbrev F_split_parter_way : Nat := 23
abbrev F_milestoneref22_spread : Nat := 24
abbrev F_split_parter_part : Nat := 25
abbrev F_milestoneref22_part : Nat := 26
abbrev F_milestoneref07_Draft_Next : Nat := 27
abbrev F_milestoneref07_Draft_Weight : Nat := 28
abbrev F_graph_Check : Nat := 29
abbrev F_api_Told : Nat := 30
abbrev F_net_of : Nat := 31
abbrev F_net_own : Nat := 32
abbrev F_slices_IndexFunc_sl_int_int : Nat := 33
abbrev F_split_directions : Nat := 34
abbrev F_split_spread_int : Nat := 35
abbrev F_split_parter_along : Nat := 36
abbrev F_milestoneref22_value : Nat := 37
abbrev F_split_parter_part_1 : Nat := 38
abbrev F_slices_SortedFunc_int : Nat := 39
abbrev F_slices_Values_sl_int_int : Nat := 40
abbrev F_split_parter_part_2 : Nat := 41
abbrev F_cmp_Or_int : Nat := 42
abbrev F_cmp_Compare_int64 : Nat := 43
abbrev F_cmp_Compare_int : Nat := 44
abbrev F_milestoneref22_ordered : Nat := 45
abbrev F_graph_Check_1 : Nat := 46
abbrev F_graph_look : Nat := 47
abbrev F_errors_As : Nat := 48
abbrev F_net_of_1 : Nat := 49
abbrev F_net_of_2 : Nat := 50
abbrev F_net_of_3 : Nat := 51
abbrev F_slices_Clone_sl_int64_int64 : Nat := 52
abbrev F_slices_Clone_sl_api_Arc_api_Arc : Nat := 53
abbrev F_split_directions_1 : Nat := 54
abbrev F_split_directions_2 : Nat := 55
abbrev F_split_directions_3 : Nat := 56
abbrev F_split_directions_4 : Nat := 57
abbrev F_split_parter_along_1 : Nat := 58
abbrev F_net_Net_Place : Nat := 59
abbrev F_slices_Collect_int : Nat := 60
abbrev F_slices_SortFunc_sl_int_int : Nat := 61
abbrev F_slices_Values_sl_int_int_1 : Nat := 62
abbrev F_cmp_isNaN_int64 : Nat := 63
abbrev F_cmp_isNaN_int : Nat := 64
abbrev F_graph_look_1 : Nat := 65
abbrev F_graph_one : Nat := 66
abbrev F_graph_look_2 : Nat := 67
abbrev F_graph_shapes : Nat := 68
abbrev F_graph_look_3 : Nat := 69
abbrev F_graph_nodes : Nat := 70
abbrev F_graph_look_4 : Nat := 71
abbrev F_graph_look_5 : Nat := 72
abbrev F_graph_arcs : Nat := 73
abbrev F_errors_as : Nat := 77
abbrev F_net_one_int64 : Nat := 78
abbrev F_slices_AppendSeq_sl_int_int : Nat := 79
abbrev F_slices_pdqsortCmpFunc_int : Nat := 80
abbrev F_math_bits_Len : Nat := 81
abbrev F_slices_Values_sl_graph_place_graph_place : Nat := 82
abbrev F_graph_nodes_1 : Nat := 83
abbrev F_graph_arcs_1 : Nat := 84
abbrev F_slices_insertionSortCmpFunc_int : Nat := 88
abbrev F_slices_heapSortCmpFunc_int : Nat := 89
abbrev F_slices_breakPatternsCmpFunc_int : Nat := 90
abbrev F_slices_choosePivotCmpFunc_int : Nat := 91
abbrev F_slices_reverseRangeCmpFunc_int : Nat := 92
abbrev F_slices_partialInsertionSortCmpFunc_int : Nat := 93
abbrev F_slices_partitionEqualCmpFunc_int : Nat := 94
abbrev F_slices_partitionCmpFunc_int : Nat := 95
abbrev F_math_bits_Len32 : Nat := 96
abbrev F_math_bits_Len64 : Nat := 97
abbrev F_slices_Values_sl_graph_place_graph_place_1 : Nat := 98
abbrev F_slices_siftDownCmpFunc_int : Nat := 99
abbrev F_slices_nextPowerOfTwo : Nat := 100
abbrev F_slices_xorshift_Next : Nat := 101
abbrev F_slices_medianAdjacentCmpFunc_int : Nat := 102
abbrev F_slices_medianCmpFunc_int : Nat := 103
abbrev F_slices_order2CmpFunc_int : Nat := 104
abbrev F_api_Fault_Unwrap : Nat := 125
abbrev F_net_trouble_Unwrap : Nat := 126
abbrev F_graph_trouble_Unwrap : Nat := 127
abbrev F_gosem_cut_vars : Nat := 146
abbrev T_ : Nat := 0
abbrev T_func : Nat := 1
abbrev T_int64 : Nat := 2
abbrev T_int : Nat := 3
abbrev T_bool : Nat := 4
abbrev T_uint8 : Nat := 5
abbrev T_abi_BoundsErrorCode : Nat := 6
abbrev T_struct_x_int64_y_int_signed_bool_code_abi_BoundsErrorCode : Nat := 7
abbrev T_runtime_boundsError : Nat := 8
abbrev T_string : Nat := 9
abbrev T_runtime_errorString : Nat := 10
abbrev T_runtime_plainError : Nat := 11
abbrev T_uintptr : Nat := 12
abbrev T_struct_msg_string_addr_uintptr : Nat := 13
abbrev T_runtime_errorAddressString : Nat := 14
abbrev T_p_runtime_TypeAssertionError : Nat := 15
abbrev T_p_runtime_PanicNilError : Nat := 16
abbrev T_p_abi_Type : Nat := 17
abbrev T_struct_typ_p_abi_Type : Nat := 18
abbrev T_maps_unhashableTypeError : Nat := 19
abbrev T_interface : Nat := 20
abbrev T_int32 : Nat := 21
abbrev T_sl_uint8 : Nat := 22
abbrev T_sl_int32 : Nat := 23
abbrev T_sl_int16 : Nat := 24
abbrev T_sl_int64 : Nat := 25
abbrev T_sl_api_Arc : Nat := 26
abbrev T_struct_Nodes_int_X_sl_int64_Y_sl_int64_Arcs_sl_api_Arc : Nat := 27
abbrev T_api_Raw : Nat := 28
abbrev T_func_sl_uint8_sl_int32_api_Raw : Nat := 29
abbrev T_p_net_Net : Nat := 30
abbrev T_func_api_Raw_p_net_Net : Nat := 31
abbrev T_sl_int : Nat := 32
abbrev T_int16 : Nat := 33
abbrev T_int_int64 : Nat := 34
abbrev T_funcnet_Net_sl_int_int_int64 : Nat := 35
abbrev T_func_api_Raw_sl_int_int_int64 : Nat := 36
abbrev T_func_sl_int_sl_int_bool : Nat := 37
abbrev T_funcnet_Net_int_sl_int : Nat := 38
abbrev T_func_api_Raw_int_sl_int : Nat := 39
abbrev T_func_bool : Nat := 40
abbrev T_func_sl_uint8_sl_int32_sl_int16_bool : Nat := 41
abbrev T_func_sl_uint8_sl_int32_uint8_bool : Nat := 42
abbrev T_4_int64 : Nat := 43
abbrev T_func_sl_uint8_sl_int32_bool : Nat := 44
abbrev T_int8 : Nat := 45
abbrev T_3_int8 : Nat := 46
abbrev T_func_sl_int_int_bool : Nat := 47
abbrev T_func_sl_uint8_3_int8_uint8_bool : Nat := 48
abbrev T_p_milestoneref07_Draft : Nat := 49
abbrev T_struct_B_sl_uint8_At_int : Nat := 50
abbrev T_milestoneref07_Draft : Nat := 51
abbrev T_func_api_Raw : Nat := 52
abbrev T_interface_Error_string : Nat := 53
abbrev T_error : Nat := 54
abbrev T_net_Net_error : Nat := 55
abbrev T_func_api_Raw_net_Net_error : Nat := 56
abbrev T_func_sl_int_func_int_bool_sl_int : Nat := 57
abbrev T_func_sl_int_sl_int : Nat := 58
abbrev T_func_int : Nat := 59
abbrev T_func_int_bool : Nat := 60
abbrev T_p_split_parter : Nat := 61
abbrev T_struct_n_p_net_Net_cells_sl_int_next_int : Nat := 62
abbrev T_split_parter : Nat := 63
abbrev T_func_sl_int_int_int64 : Nat := 64
abbrev T_func_api_Raw_sl_int_int_int64_v2 : Nat := 65
abbrev T_func_sl_int_int : Nat := 66
abbrev T_func_api_Raw_sl_int_int_int_sl_int : Nat := 67
abbrev T_func_int_int : Nat := 68
abbrev T_func_int64 : Nat := 69
abbrev T_struct_From_int_To_int_Weight_int64 : Nat := 70
abbrev T_api_Arc : Nat := 71
abbrev T_func_api_Raw_error : Nat := 72
abbrev T_api_Errno : Nat := 73
abbrev T_struct_Code_api_Errno_Phase_int_Index_int_Field_int : Nat := 74
abbrev T_api_Fault : Nat := 75
abbrev T_func_error_api_Fault : Nat := 76
abbrev T_p_api_Fault : Nat := 77
abbrev T_struct_p_api_Fault : Nat := 78
abbrev T_net_trouble : Nat := 79
abbrev T_func_api_Raw_api_Raw : Nat := 80
abbrev T_func_sl_int_func_int_bool_int : Nat := 81
abbrev T_sl_sl_int : Nat := 82
abbrev T_struct_raw_api_Raw_out_sl_sl_int_in_sl_sl_int : Nat := 83
abbrev T_net_Net : Nat := 84
abbrev T_func_int64_int64_int64 : Nat := 85
abbrev T_4_func_int64_int64_int64 : Nat := 86
abbrev T_func_4_func_int64_int64_int64 : Nat := 87
abbrev T_func_sl_int_func_int_int64_int64 : Nat := 88
abbrev T_func_int_int64 : Nat := 89
abbrev T_func_int_func_int_int64 : Nat := 90
abbrev T_func_api_Raw_int_int_int64 : Nat := 91
abbrev T_func_iter_Seq_int_func_int_int_int_sl_int : Nat := 92
abbrev T_func_func_int_bool : Nat := 93
abbrev T_iter_Seq_int : Nat := 94
abbrev T_func_sl_int_iter_Seq_int : Nat := 95
abbrev T_func_int_int_v2 : Nat := 96
abbrev T_func_int64_int64_int : Nat := 97
abbrev T_func_int_int_int : Nat := 98
abbrev T_func_api_Raw_sl_int_int_sl_int : Nat := 99
abbrev T_graph_trouble : Nat := 100
abbrev T_graph_trouble_bool : Nat := 101
abbrev T_func_api_Raw_v2 : Nat := 102
abbrev T_func_error_interface_bool : Nat := 103
abbrev T_p_p_api_Fault : Nat := 104
abbrev T_p_api_Errno : Nat := 105
abbrev T_func_api_Arc_int : Nat := 106
abbrev T_func_func_api_Arc_int_sl_sl_int : Nat := 107
abbrev T_func_sl_int64_sl_int64 : Nat := 108
abbrev T_func_sl_api_Arc_sl_api_Arc : Nat := 109
abbrev T_int64_int64_bool : Nat := 110
abbrev T_func_int_int64_int64_bool : Nat := 111
abbrev T_func_iter_Seq_int_sl_int : Nat := 112
abbrev T_func_sl_int_func_int_int_int : Nat := 113
abbrev T_func_int64_bool : Nat := 114
abbrev T_func_func_graph_place_bool : Nat := 115
abbrev T_iter_Seq_graph_place : Nat := 116
abbrev T_func_api_Errno_int_int_int_iter_Seq_graph_place : Nat := 117
abbrev T_func_iter_Seq_graph_place : Nat := 118
abbrev T_func_api_Raw_iter_Seq_graph_place : Nat := 119
abbrev T_sl_func_iter_Seq_graph_place : Nat := 120
abbrev T_struct_index_int_field_int_code_api_Errno_n_int64_least_int64_end_int64 : Nat := 121
abbrev T_graph_place : Nat := 122
abbrev T_unsafe_Pointer : Nat := 123
abbrev T_reflectlite_flag : Nat := 124
abbrev T_struct_typ_p_abi_Type_ptr_unsafe_Pointer_reflectlite_flag : Nat := 125
abbrev T_reflectlite_Value : Nat := 126
abbrev T_func_interface_reflectlite_Value : Nat := 127
abbrev T_interface_AssignableTo_reflectlite_Type_bool_Comparable_bool_Elem_reflectlite_Type_Implements_reflectlite_Type_bool_Kind_abi_Kind_Name_string_PkgPath_string_Size_uintptr_String_string_reflectlite_common_p_abi_Type_reflectlite_uncommon_p_abi_UncommonType : Nat := 128
abbrev T_reflectlite_Type : Nat := 129
abbrev T_func_reflectlite_Type : Nat := 130
abbrev T_abi_Kind : Nat := 131
abbrev T_func_abi_Kind : Nat := 132
abbrev T_func_reflectlite_Type_bool : Nat := 133
abbrev T_func_error_interface_reflectlite_Value_reflectlite_Type_bool : Nat := 134
abbrev T_int64_bool : Nat := 135
abbrev T_func_sl_int64_int_int64_bool : Nat := 136
abbrev T_func_sl_int_iter_Seq_int_sl_int : Nat := 137
abbrev T_func_sl_int_int_int_int_func_int_int_int : Nat := 138
abbrev T_func_uint_int : Nat := 139
abbrev T_uint : Nat := 140
abbrev T_func_sl_graph_place_iter_Seq_graph_place : Nat := 141
abbrev T_sl_graph_place : Nat := 142
abbrev T_func_graph_place_bool : Nat := 143
abbrev T_struct_p_abi_Type : Nat := 144
abbrev T_reflectlite_rtype : Nat := 145
abbrev T_p_reflectlite_ValueError : Nat := 146
abbrev T_func_interface_reflectlite_Type : Nat := 147
abbrev T_func_reflectlite_Value : Nat := 148
abbrev T_func_reflectlite_Value_v2 : Nat := 149
abbrev T_interface_As_interface_bool : Nat := 150
abbrev T_interface_As_interface_bool_bool : Nat := 151
abbrev T_func_interface_bool : Nat := 152
abbrev T_interface_Unwrap_error : Nat := 153
abbrev T_func_error : Nat := 154
abbrev T_interface_Unwrap_sl_error : Nat := 155
abbrev T_sl_error : Nat := 156
abbrev T_func_sl_error : Nat := 157
abbrev T_func_sl_int_int_int_func_int_int_int : Nat := 158
abbrev T_slices_sortedHint : Nat := 159
abbrev T_int_slices_sortedHint : Nat := 160
abbrev T_func_sl_int_int_int_func_int_int_int_int_slices_sortedHint : Nat := 161
abbrev T_func_sl_int_int_int_func_int_int_int_bool : Nat := 162
abbrev T_func_sl_int_int_int_int_func_int_int_int_int : Nat := 163
abbrev T_int_bool : Nat := 164
abbrev T_func_sl_int_int_int_int_func_int_int_int_int_bool : Nat := 165
abbrev T_func_uint32_int : Nat := 166
abbrev T_uint32 : Nat := 167
abbrev T_func_uint64_int : Nat := 168
abbrev T_uint64 : Nat := 169
abbrev T_slices_xorshift : Nat := 170
abbrev T_func_int_uint : Nat := 171
abbrev T_func_uint64 : Nat := 172
abbrev T_func_sl_int_int_p_int_func_int_int_int_int : Nat := 173
abbrev T_p_int : Nat := 174
abbrev T_func_sl_int_int_int_int_p_int_func_int_int_int_int : Nat := 175
abbrev T_p_slices_xorshift : Nat := 176
abbrev T_int_int : Nat := 177
abbrev T_func_sl_int_int_int_p_int_func_int_int_int_int_int : Nat := 178
abbrev T_func_string : Nat := 179
abbrev T_struct_interface_p_abi_Type_concrete_p_abi_Type_asserted_p_abi_Type_missingMethod_string : Nat := 180
abbrev T_runtime_TypeAssertionError : Nat := 181
abbrev T_0_p_runtime_PanicNilError : Nat := 182
abbrev T_struct_0_p_runtime_PanicNilError : Nat := 183
abbrev T_runtime_PanicNilError : Nat := 184
abbrev T_func_p_abi_Type : Nat := 185
abbrev T_abi_TFlag : Nat := 186
abbrev T_func_unsafe_Pointer_unsafe_Pointer_bool : Nat := 187
abbrev T_p_uint8 : Nat := 188
abbrev T_abi_NameOff : Nat := 189
abbrev T_abi_TypeOff : Nat := 190
abbrev T_struct_Size_uintptr_PtrBytes_uintptr_Hash_uint32_TFlag_abi_TFlag_Align_uint8_FieldAlign_uint8_Kind_abi_Kind_Equal_func_unsafe_Pointer_unsafe_Pointer_bool_GCData_p_uint8_Str_abi_NameOff_PtrToThis_abi_TypeOff : Nat := 191
abbrev T_abi_Type : Nat := 192
abbrev T_func_uintptr : Nat := 193
abbrev T_func_p_abi_UncommonType : Nat := 194
abbrev T_struct_Method_string_Kind_abi_Kind : Nat := 195
abbrev T_reflectlite_ValueError : Nat := 196
abbrev T_p_abi_UncommonType : Nat := 197
abbrev T_func_sl_abi_Method : Nat := 198
abbrev T_uint16 : Nat := 199
abbrev T_struct_PkgPath_abi_NameOff_Mcount_uint16_Xcount_uint16_Moff_uint32_uint32 : Nat := 200
abbrev T_abi_UncommonType : Nat := 201
abbrev T_sl_abi_Method : Nat := 202
abbrev T_abi_TextOff : Nat := 203
abbrev T_struct_Name_abi_NameOff_Mtyp_abi_TypeOff_Ifn_abi_TextOff_Tfn_abi_TextOff : Nat := 204
abbrev T_abi_Method : Nat := 205
abbrev T_p_error : Nat := 206
abbrev G_errors_errorType : Nat := 0
end Go.Proofs.YtbacdjahpahcfaaGreatDoor

namespace Go.Proofs.YtbacdjahpahcfaaGreatDoor
open Go Go.Mh
set_option maxHeartbeats 0
set_option linter.unusedVariables false

/-! milestone/milestonelaw22.SplitTells -/

def sh_milestonelaw22_SplitTells_C2 (P : Program) (K : Value → Heap → Prop) (i10 : Value) (Z : Value → Value → Heap → Prop) (t41 t79 : Value) (h_13 : Heap) : Prop :=
  ifV t79
  (K (.bool false) h_13)
  (pBin .add i10 (.int .i64 1) fun t32 =>
  Z t41 t32 h_13)

def sh_milestonelaw22_SplitTells_L4 (P : Program) (g7 t20 : Value) (K : Value → Heap → Prop) (k15 : Value) (h_15 : Heap) (Z_1 : Value → Heap → Prop) : Prop :=
  pBin .leq k15 (.int .i64 14) fun t81 =>
  ifV t81
  (pLoadN 4 h_15 g7 fun t87 =>
  callS P F_split_Map [t20, k15] h_15 fun t86 h_16 =>
  (pLoadN 4 h_16 g7 fun t87_1 =>
  t87_1 = t87) ∧
  (callS P F_milestoneref22_Map [t87, k15] h_16 fun t89 h_17 =>
  callS P F_milestoneref07_Ints [t86, t89] h_17 fun t90 h_18 =>
  pUn .not t90 fun t91 =>
  ifV t91
  (K (.bool false) h_18)
  (pBin .add k15 (.int .i64 1) fun t83 =>
  Z_1 t83 h_18)))
  (callS P F_milestonelaw22_works [] h_15 fun t92 h_19 =>
  K t92 h_19)

def sh_milestonelaw22_SplitTells_k3 (P : Program) (g7 t20 : Value) (K : Value → Heap → Prop) (h_14 : Heap) : Prop :=
  LoopH (σ := Vals [15]) (fun x hh ZZ => sh_milestonelaw22_SplitTells_L4 P g7 t20 K x.1 hh (fun a0 hz => ZZ (a0, ()) hz)) ((.int .i64 0), ()) h_14

def sh_milestonelaw22_SplitTells_L1 (P : Program) (cells2 t20 g7 : Value) (K : Value → Heap → Prop) (nodes9 i10 : Value) (h_5 : Heap) (Z : Value → Value → Heap → Prop) : Prop :=
  pLen cells2 fun t25 =>
  pBin .lss i10 t25 fun t26 =>
  ifV t26
  (pBin .lss i10 (.int .i64 20) fun t29 =>
  ifV t29
  (pIdx 1 cells2 i10 fun t36 =>
  pLoad h_5 t36 fun t37 =>
  pConv .i64 t37 fun t38 =>
  pBin .rem t38 (.int .i64 16) fun t39 =>
  pBuildSlice T_int (zerosL [(.int .i64 0)] 1) [(0, 1, t39)] 1 h_5 fun t40 h_6 =>
  pAppend T_int 1 8 [(.int .i64 0)] nodes9 t40 h_6 fun t41 h_7 =>
  callS P F_split_Way [t20, t41] h_7 fun t45 h_8 =>
  pExt t45 0 fun t46 =>
  pExt t45 1 fun t47 =>
  pLoadN 4 h_8 g7 fun t49 =>
  callS P F_milestoneref22_Way [t49, t41] h_8 fun t51 h_9 =>
  pExt t51 0 fun t52 =>
  pExt t51 1 fun t53 =>
  cutP (σ := Vals [79]) (fun J =>
  pBin .neq t46 t52 fun t56 =>
  ifV t56
  (J ((.bool true), ()) h_9)
  (pBin .neq t47 t53 fun t60 =>
  ifV t60
  (J ((.bool true), ()) h_9)
  (pIdx 1 cells2 i10 fun t66 =>
  pLoad h_9 t66 fun t67 =>
  pConv .i64 t67 fun t68 =>
  pLoadN 4 h_9 g7 fun t70 =>
  pIdx 1 cells2 i10 fun t73 =>
  pLoad h_9 t73 fun t74 =>
  pConv .i64 t74 fun t75 =>
  callS P F_split_Map [t20, t68] h_9 fun t69 h_10 =>
  (pLoadN 4 h_10 g7 fun t70_1 =>
  t70_1 = t70) ∧
  (pLoad h_10 t73 fun t74_1 =>
  t74_1 = t74) ∧
  (callS P F_milestoneref22_Map [t70, t75] h_10 fun t76 h_11 =>
  callS P F_milestoneref07_Ints [t69, t76] h_11 fun t77 h_12 =>
  pUn .not t77 fun t78 =>
  J (t78, ()) h_12))))
  (fun x hh => sh_milestonelaw22_SplitTells_C2 P K i10 Z t41 x.1 hh))
  (sh_milestonelaw22_SplitTells_k3 P g7 t20 K h_5))
  (sh_milestonelaw22_SplitTells_k3 P g7 t20 K h_5)

def sh_milestonelaw22_SplitTells (P : Program) (b0 xy1 cells2 : Value) (h : Heap) (K : Value → Heap → Prop) : Prop :=
  callS P F_milestonelaw22_drawn [b0, xy1] h fun t18 h_1 =>
  pBox T_api_Raw (.agg #[(.int .i64 0), (.slice none 0 0), (.slice none 0 0), (.slice none 0 0)]) h_1 fun g7 h_2 =>
  pStore 4 g7 t18 h_2 fun u h_3 =>
  pLoadN 4 h_3 g7 fun t19 =>
  callS P F_milestonelaw22_made [t19] h_3 fun t20 h_4 =>
  pEq false .ptr t20 (.pointer none) fun t22 =>
  ifV t22
  (K (.bool false) h_4)
  (LoopH (σ := Vals [9, 10]) (fun x hh ZZ => sh_milestonelaw22_SplitTells_L1 P cells2 t20 g7 K x.1 x.2.1 hh (fun a0 a1 hz => ZZ (a0, (a1, ())) hz)) ((.slice none 0 0), ((.int .i64 0), ())) h_4)

set_option maxRecDepth 100000 in
theorem lk_milestonelaw22_SplitTells (b0 xy1 cells2 : Value) {h : Heap} {K : Value → Heap → Prop} (H : sh_milestonelaw22_SplitTells Tryz.prog b0 xy1 cells2 h K) : CallsH Tryz.prog F_milestonelaw22_SplitTells [b0, xy1, cells2].toArray h K :=
  callsH_of (ann := (annG (Tryz.f3.body.getD .skip) 0 [(9, [9, 10]), (16, [79]), (20, [15])]).1) (c := Tryz.f3.body.getD .skip) Tryz.func3 (by kernel_rfl) (by kernel_rfl) (by kernel_rfl) (of_decide_eq_true (by kernel_rfl))
    (Eq.mpr (by kernel_rfl) H)

/-! milestone/milestonelaw22.SplitEven -/

def sh_milestonelaw22_SplitEven_k2 (P : Program) (K : Value → Heap → Prop) (h_9 : Heap) : Prop :=
  K (.bool false) h_9

def sh_milestonelaw22_SplitEven_k4 (P : Program) (c14 : Value) (Z_1 : Value → Heap → Prop) (h_12 : Heap) : Prop :=
  pBin .add c14 (.int .i64 1) fun t73 =>
  Z_1 t73 h_12

def sh_milestonelaw22_SplitEven_L3 (P : Program) (t26 t36 t68 : Value) (K : Value → Heap → Prop) (c14 : Value) (h_11 : Heap) (Z_1 : Value → Heap → Prop) : Prop :=
  pBin .lss c14 t26 fun t71 =>
  ifV t71
  (pIdx 1 t36 c14 fun t76 =>
  pLoad h_11 t76 fun t77 =>
  pBin .neq t77 t68 fun t79 =>
  ifV t79
  (pIdx 1 t36 c14 fun t83 =>
  pLoad h_11 t83 fun t84 =>
  pBin .add t68 (.int .i64 1) fun t86 =>
  pBin .neq t84 t86 fun t87 =>
  ifV t87
  (K (.bool false) h_11)
  (sh_milestonelaw22_SplitEven_k4 P c14 Z_1 h_11))
  (sh_milestonelaw22_SplitEven_k4 P c14 Z_1 h_11))
  (K (.bool true) h_11)

def sh_milestonelaw22_SplitEven_L1 (P : Program) (t29 : Value) (K : Value → Heap → Prop) (t26 t36 g7 v12 : Value) (h_8 : Heap) (Z : Value → Heap → Prop) : Prop :=
  pLen t29 fun t39 =>
  pBin .lss v12 t39 fun t40 =>
  ifV t40
  (pIdx 1 t29 v12 fun t45 =>
  pLoad h_8 t45 fun t46 =>
  pBin .lss t46 (.int .i64 0) fun t47 =>
  ifV t47
  (sh_milestonelaw22_SplitEven_k2 P K h_8)
  (pIdx 1 t29 v12 fun t51 =>
  pLoad h_8 t51 fun t52 =>
  pBin .geq t52 t26 fun t54 =>
  ifV t54
  (sh_milestonelaw22_SplitEven_k2 P K h_8)
  (pIdx 1 t29 v12 fun t59 =>
  pLoad h_8 t59 fun t60 =>
  pIdx 1 t36 t60 fun t61 =>
  pLoad h_8 t61 fun t62 =>
  pBin .add t62 (.int .i64 1) fun t63 =>
  pIdx 1 t36 t60 fun t64 =>
  pStore 1 t64 t63 h_8 fun u_1 h_10 =>
  pBin .add v12 (.int .i64 1) fun t42 =>
  Z t42 h_10)))
  (pField 0 g7 fun t65 =>
  pLoad h_8 t65 fun t66 =>
  pBin .quo t66 t26 fun t68 =>
  LoopH (σ := Vals [14]) (fun x hh ZZ => sh_milestonelaw22_SplitEven_L3 P t26 t36 t68 K x.1 hh (fun a0 hz => ZZ (a0, ()) hz)) ((.int .i64 0), ()) h_8)

def sh_milestonelaw22_SplitEven (P : Program) (b0 xy1 cells2 : Value) (h : Heap) (K : Value → Heap → Prop) : Prop :=
  callS P F_milestonelaw22_works [] h fun t15 h_1 =>
  pUn .not t15 fun t16 =>
  ifV t16
  (K (.bool false) h_1)
  (callS P F_milestonelaw22_drawn [b0, xy1] h_1 fun t19 h_2 =>
  pBox T_api_Raw (.agg #[(.int .i64 0), (.slice none 0 0), (.slice none 0 0), (.slice none 0 0)]) h_2 fun g7 h_3 =>
  pStore 4 g7 t19 h_3 fun u h_4 =>
  pLoadN 4 h_4 g7 fun t20 =>
  callS P F_milestonelaw22_made [t20] h_4 fun t21 h_5 =>
  pEq false .ptr t21 (.pointer none) fun t23 =>
  ifV t23
  (K (.bool false) h_5)
  (pConv .i64 cells2 fun t25 =>
  pBin .add (.int .i64 1) t25 fun t26 =>
  callS P F_split_Map [t21, t26] h_5 fun t29 h_6 =>
  pLen t29 fun t31 =>
  pField 0 g7 fun t32 =>
  pLoad h_6 t32 fun t33 =>
  pBin .neq t31 t33 fun t34 =>
  ifV t34
  (K (.bool false) h_6)
  (pMakeSlice T_int 8 [(.int .i64 0)] t26 t26 h_6 fun t36 h_7 =>
  LoopH (σ := Vals [12]) (fun x hh ZZ => sh_milestonelaw22_SplitEven_L1 P t29 K t26 t36 g7 x.1 hh (fun a0 hz => ZZ (a0, ()) hz)) ((.int .i64 0), ()) h_7)))

set_option maxRecDepth 100000 in
theorem lk_milestonelaw22_SplitEven (b0 xy1 cells2 : Value) {h : Heap} {K : Value → Heap → Prop} (H : sh_milestonelaw22_SplitEven Tryz.prog b0 xy1 cells2 h K) : CallsH Tryz.prog F_milestonelaw22_SplitEven [b0, xy1, cells2].toArray h K :=
  callsH_of (ann := (annG (Tryz.f4.body.getD .skip) 0 [(17, [12]), (27, [14])]).1) (c := Tryz.f4.body.getD .skip) Tryz.func4 (by kernel_rfl) (by kernel_rfl) (by kernel_rfl) (of_decide_eq_true (by kernel_rfl))
    (Eq.mpr (by kernel_rfl) H)

/-! milestone/milestonelaw22.SplitHalves -/

def sh_milestonelaw22_SplitHalves_k2 (P : Program) (K : Value → Heap → Prop) (h_11 : Heap) : Prop :=
  K (.bool false) h_11

def sh_milestonelaw22_SplitHalves_C6 (P : Program) (K : Value → Heap → Prop) (k16 : Value) (Z_3 : Value → Heap → Prop) (t159 : Value) (h_19 : Heap) : Prop :=
  ifV t159
  (K (.bool false) h_19)
  (pBin .add k16 (.int .i64 1) fun t134 =>
  Z_3 t134 h_19)

def sh_milestonelaw22_SplitHalves_C7 (P : Program) (K : Value → Heap → Prop) (w14 : Value) (Z_2 : Value → Heap → Prop) (t191 : Value) (h_20 : Heap) : Prop :=
  ifV t191
  (K (.bool false) h_20)
  (pBin .add w14 (.int .i64 1) fun t97 =>
  Z_2 t97 h_20)

def sh_milestonelaw22_SplitHalves_L5 (P : Program) (x13 y15 t41 t40 : Value) (K : Value → Heap → Prop) (t43 v12 w14 : Value) (Z_2 : Value → Heap → Prop) (k16 : Value) (h_18 : Heap) (Z_3 : Value → Heap → Prop) : Prop :=
  pBin .lss k16 (.int .i64 4) fun t132 =>
  ifV t132
  (cutP (σ := Vals [159]) (fun J =>
  pIdxA 1 4 x13 k16 fun t136 =>
  pLoad h_18 t136 fun t137 =>
  pIdxA 1 4 y15 k16 fun t139 =>
  pLoad h_18 t139 fun t140 =>
  pBin .sub t137 t140 fun t141 =>
  pBin .gtr t141 t41 fun t143 =>
  ifV t143
  (J ((.bool true), ()) h_18)
  (pBin .lss k16 t40 fun t147 =>
  ifV t147
  (pIdxA 1 4 x13 k16 fun t150 =>
  pLoad h_18 t150 fun t151 =>
  pIdxA 1 4 y15 k16 fun t153 =>
  pLoad h_18 t153 fun t154 =>
  pBin .sub t151 t154 fun t155 =>
  pBin .eql t155 t41 fun t157 =>
  J (t157, ()) h_18)
  (J ((.bool false), ()) h_18)))
  (fun x hh => sh_milestonelaw22_SplitHalves_C6 P K k16 Z_3 x.1 hh))
  (cutP (σ := Vals [191]) (fun J_1 =>
  pIdx 1 t43 v12 fun t162 =>
  pLoad h_18 t162 fun t163 =>
  pIdx 1 t43 w14 fun t166 =>
  pLoad h_18 t166 fun t167 =>
  pBin .lss t163 t167 fun t168 =>
  ifV t168
  (pIdxA 1 4 x13 t40 fun t171 =>
  pLoad h_18 t171 fun t172 =>
  pIdxA 1 4 y15 t40 fun t174 =>
  pLoad h_18 t174 fun t175 =>
  pBin .gtr t172 t175 fun t176 =>
  ifV t176
  (J_1 ((.bool true), ()) h_18)
  (pIdxA 1 4 x13 t40 fun t179 =>
  pLoad h_18 t179 fun t180 =>
  pIdxA 1 4 y15 t40 fun t182 =>
  pLoad h_18 t182 fun t183 =>
  pBin .eql t180 t183 fun t184 =>
  ifV t184
  (pBin .gtr v12 w14 fun t188 =>
  J_1 (t188, ()) h_18)
  (J_1 ((.bool false), ()) h_18)))
  (J_1 ((.bool false), ()) h_18))
  (fun x hh => sh_milestonelaw22_SplitHalves_C7 P K w14 Z_2 x.1 hh))

def sh_milestonelaw22_SplitHalves_L4 (P : Program) (g5 x13 t41 t40 : Value) (K : Value → Heap → Prop) (t43 v12 : Value) (Z_1 : Value → Heap → Prop) (w14 : Value) (h_15 : Heap) (Z_2 : Value → Heap → Prop) : Prop :=
  pField 0 g5 fun t93 =>
  pLoad h_15 t93 fun t94 =>
  pBin .lss w14 t94 fun t95 =>
  ifV t95
  (pField 1 g5 fun t98 =>
  pLoad h_15 t98 fun t99 =>
  pIdx 1 t99 w14 fun t101 =>
  pLoad h_15 t101 fun t102 =>
  pField 2 g5 fun t103 =>
  pLoad h_15 t103 fun t104 =>
  pIdx 1 t104 w14 fun t106 =>
  pLoad h_15 t106 fun t107 =>
  pField 1 g5 fun t108 =>
  pLoad h_15 t108 fun t109 =>
  pIdx 1 t109 w14 fun t111 =>
  pLoad h_15 t111 fun t112 =>
  pField 2 g5 fun t113 =>
  pLoad h_15 t113 fun t114 =>
  pIdx 1 t114 w14 fun t116 =>
  pLoad h_15 t116 fun t117 =>
  pBin .add t112 t117 fun t118 =>
  pField 1 g5 fun t119 =>
  pLoad h_15 t119 fun t120 =>
  pIdx 1 t120 w14 fun t122 =>
  pLoad h_15 t122 fun t123 =>
  pField 2 g5 fun t124 =>
  pLoad h_15 t124 fun t125 =>
  pIdx 1 t125 w14 fun t127 =>
  pLoad h_15 t127 fun t128 =>
  pBin .sub t123 t128 fun t129 =>
  pBuild [(.int .i64 0), (.int .i64 0), (.int .i64 0), (.int .i64 0)] [(0, 1, t102), (1, 1, t107), (2, 1, t118), (3, 1, t129)] fun t130 =>
  pBox T_4_int64 (.agg #[(.int .i64 0), (.int .i64 0), (.int .i64 0), (.int .i64 0)]) h_15 fun y15 h_16 =>
  pStore 4 y15 t130 h_16 fun u_2 h_17 =>
  LoopH (σ := Vals [16]) (fun x hh ZZ => sh_milestonelaw22_SplitHalves_L5 P x13 y15 t41 t40 K t43 v12 w14 Z_2 x.1 hh (fun a0 hz => ZZ (a0, ()) hz)) ((.int .i64 0), ()) h_17)
  (pBin .add v12 (.int .i64 1) fun t58 =>
  Z_1 t58 h_15)

def sh_milestonelaw22_SplitHalves_L3 (P : Program) (g5 t41 t40 : Value) (K : Value → Heap → Prop) (t43 v12 : Value) (h_12 : Heap) (Z_1 : Value → Heap → Prop) : Prop :=
  pField 0 g5 fun t54 =>
  pLoad h_12 t54 fun t55 =>
  pBin .lss v12 t55 fun t56 =>
  ifV t56
  (pField 1 g5 fun t59 =>
  pLoad h_12 t59 fun t60 =>
  pIdx 1 t60 v12 fun t62 =>
  pLoad h_12 t62 fun t63 =>
  pField 2 g5 fun t64 =>
  pLoad h_12 t64 fun t65 =>
  pIdx 1 t65 v12 fun t67 =>
  pLoad h_12 t67 fun t68 =>
  pField 1 g5 fun t69 =>
  pLoad h_12 t69 fun t70 =>
  pIdx 1 t70 v12 fun t72 =>
  pLoad h_12 t72 fun t73 =>
  pField 2 g5 fun t74 =>
  pLoad h_12 t74 fun t75 =>
  pIdx 1 t75 v12 fun t77 =>
  pLoad h_12 t77 fun t78 =>
  pBin .add t73 t78 fun t79 =>
  pField 1 g5 fun t80 =>
  pLoad h_12 t80 fun t81 =>
  pIdx 1 t81 v12 fun t83 =>
  pLoad h_12 t83 fun t84 =>
  pField 2 g5 fun t85 =>
  pLoad h_12 t85 fun t86 =>
  pIdx 1 t86 v12 fun t88 =>
  pLoad h_12 t88 fun t89 =>
  pBin .sub t84 t89 fun t90 =>
  pBuild [(.int .i64 0), (.int .i64 0), (.int .i64 0), (.int .i64 0)] [(0, 1, t63), (1, 1, t68), (2, 1, t79), (3, 1, t90)] fun t91 =>
  pBox T_4_int64 (.agg #[(.int .i64 0), (.int .i64 0), (.int .i64 0), (.int .i64 0)]) h_12 fun x13 h_13 =>
  pStore 4 x13 t91 h_13 fun u_1 h_14 =>
  LoopH (σ := Vals [14]) (fun x hh ZZ => sh_milestonelaw22_SplitHalves_L4 P g5 x13 t41 t40 K t43 v12 Z_1 x.1 hh (fun a0 hz => ZZ (a0, ()) hz)) ((.int .i64 0), ()) h_14)
  (K (.bool true) h_12)

def sh_milestonelaw22_SplitHalves_L1 (P : Program) (g5 t23 : Value) (K : Value → Heap → Prop) (all7 v8 : Value) (h_6 : Heap) (Z : Value → Value → Heap → Prop) : Prop :=
  pField 0 g5 fun t27 =>
  pLoad h_6 t27 fun t28 =>
  pBin .lss v8 t28 fun t29 =>
  ifV t29
  (pBuildSlice T_int (zerosL [(.int .i64 0)] 1) [(0, 1, v8)] 1 h_6 fun t34 h_7 =>
  pAppend T_int 1 8 [(.int .i64 0)] all7 t34 h_7 fun t35 h_8 =>
  pBin .add v8 (.int .i64 1) fun t31 =>
  Z t35 t31 h_8)
  (callS P F_split_Way [t23, all7] h_6 fun t39 h_9 =>
  pExt t39 0 fun t40 =>
  pExt t39 1 fun t41 =>
  callS P F_split_Map [t23, (.int .i64 2)] h_9 fun t43 h_10 =>
  pLen t43 fun t45 =>
  pField 0 g5 fun t46 =>
  pLoad h_10 t46 fun t47 =>
  pBin .neq t45 t47 fun t48 =>
  ifV t48
  (sh_milestonelaw22_SplitHalves_k2 P K h_10)
  (pBin .lss t41 (.int .i64 0) fun t51 =>
  ifV t51
  (sh_milestonelaw22_SplitHalves_k2 P K h_10)
  (LoopH (σ := Vals [12]) (fun x hh ZZ => sh_milestonelaw22_SplitHalves_L3 P g5 t41 t40 K t43 x.1 hh (fun a0 hz => ZZ (a0, ()) hz)) ((.int .i64 0), ()) h_10)))

def sh_milestonelaw22_SplitHalves (P : Program) (b0 xy1 : Value) (h : Heap) (K : Value → Heap → Prop) : Prop :=
  callS P F_milestonelaw22_works [] h fun t17 h_1 =>
  pUn .not t17 fun t18 =>
  ifV t18
  (K (.bool false) h_1)
  (callS P F_milestonelaw22_drawn [b0, xy1] h_1 fun t21 h_2 =>
  pBox T_api_Raw (.agg #[(.int .i64 0), (.slice none 0 0), (.slice none 0 0), (.slice none 0 0)]) h_2 fun g5 h_3 =>
  pStore 4 g5 t21 h_3 fun u h_4 =>
  pLoadN 4 h_4 g5 fun t22 =>
  callS P F_milestonelaw22_made [t22] h_4 fun t23 h_5 =>
  pEq false .ptr t23 (.pointer none) fun t25 =>
  ifV t25
  (K (.bool false) h_5)
  (LoopH (σ := Vals [7, 8]) (fun x hh ZZ => sh_milestonelaw22_SplitHalves_L1 P g5 t23 K x.1 x.2.1 hh (fun a0 a1 hz => ZZ (a0, (a1, ())) hz)) ((.slice none 0 0), ((.int .i64 0), ())) h_5))

set_option maxRecDepth 100000 in
theorem lk_milestonelaw22_SplitHalves (b0 xy1 : Value) {h : Heap} {K : Value → Heap → Prop} (H : sh_milestonelaw22_SplitHalves Tryz.prog b0 xy1 h K) : CallsH Tryz.prog F_milestonelaw22_SplitHalves [b0, xy1].toArray h K :=
  callsH_of (ann := (annG (Tryz.f5.body.getD .skip) 0 [(12, [7, 8]), (23, [12]), (29, [14]), (36, [16]), (40, [159]), (42, [191])]).1) (c := Tryz.f5.body.getD .skip) Tryz.func5 (by kernel_rfl) (by kernel_rfl) (by kernel_rfl) (of_decide_eq_true (by kernel_rfl))
    (Eq.mpr (by kernel_rfl) H)

/-! milestone/milestonelaw22.SplitMoves -/

def sh_milestonelaw22_SplitMoves_k3 (P : Program) (K : Value → Heap → Prop) (h_22 : Heap) : Prop :=
  K (.bool false) h_22

def sh_milestonelaw22_SplitMoves_L2 (P : Program) (g7 h10 t23 by4 : Value) (K : Value → Heap → Prop) (cells2 v11 : Value) (h_13 : Heap) (Z_1 : Value → Heap → Prop) : Prop :=
  pField 0 g7 fun t54 =>
  pLoad h_13 t54 fun t55 =>
  pBin .lss v11 t55 fun t56 =>
  ifV t56
  (pField 1 h10 fun t59 =>
  pLoad h_13 t59 fun t60 =>
  pField 1 g7 fun t62 =>
  pLoad h_13 t62 fun t63 =>
  pIdx 1 t63 v11 fun t65 =>
  pLoad h_13 t65 fun t66 =>
  pBin .mul t23 t66 fun t67 =>
  pIdxA 1 3 by4 (.int .i64 0) fun t68 =>
  pLoad h_13 t68 fun t69 =>
  pConv .i64 t69 fun t70 =>
  pBin .add t67 t70 fun t71 =>
  pBuildSlice T_int64 (zerosL [(.int .i64 0)] 1) [(0, 1, t71)] 1 h_13 fun t72 h_14 =>
  pAppend T_int64 1 8 [(.int .i64 0)] t60 t72 h_14 fun t73 h_15 =>
  pField 1 h10 fun t74 =>
  pStore 1 t74 t73 h_15 fun u_6 h_16 =>
  pField 2 h10 fun t75 =>
  pLoad h_16 t75 fun t76 =>
  pField 2 g7 fun t78 =>
  pLoad h_16 t78 fun t79 =>
  pIdx 1 t79 v11 fun t81 =>
  pLoad h_16 t81 fun t82 =>
  pBin .mul t23 t82 fun t83 =>
  pIdxA 1 3 by4 (.int .i64 1) fun t84 =>
  pLoad h_16 t84 fun t85 =>
  pConv .i64 t85 fun t86 =>
  pBin .add t83 t86 fun t87 =>
  pBuildSlice T_int64 (zerosL [(.int .i64 0)] 1) [(0, 1, t87)] 1 h_16 fun t88 h_17 =>
  pAppend T_int64 1 8 [(.int .i64 0)] t76 t88 h_17 fun t89 h_18 =>
  pField 2 h10 fun t90 =>
  pStore 1 t90 t89 h_18 fun u_7 h_19 =>
  pBin .add v11 (.int .i64 1) fun t58 =>
  Z_1 t58 h_19)
  (pLoadN 4 h_13 g7 fun t91 =>
  pLoadN 4 h_13 h10 fun t93 =>
  callS P F_milestonelaw22_made [t91] h_13 fun t92 h_20 =>
  (pLoadN 4 h_20 h10 fun t93_1 =>
  t93_1 = t93) ∧
  (callS P F_milestonelaw22_made [t93] h_20 fun t94 h_21 =>
  pEq false .ptr t92 (.pointer none) fun t96 =>
  ifV t96
  (sh_milestonelaw22_SplitMoves_k3 P K h_21)
  (pEq false .ptr t94 (.pointer none) fun t99 =>
  ifV t99
  (sh_milestonelaw22_SplitMoves_k3 P K h_21)
  (pBin .rem cells2 (.int .u8 20) fun t102 =>
  pConv .i64 t102 fun t103 =>
  pBin .add (.int .i64 1) t103 fun t104 =>
  callS P F_split_Map [t92, t104] h_21 fun t107 h_23 =>
  callS P F_split_Map [t94, t104] h_23 fun t110 h_24 =>
  callS P F_milestonelaw22_rows [t107, t110] h_24 fun t111 h_25 =>
  K t111 h_25))))

def sh_milestonelaw22_SplitMoves_L1 (P : Program) (g7 t23 by4 : Value) (K : Value → Heap → Prop) (cells2 v9 : Value) (h_6 : Heap) (Z : Value → Heap → Prop) : Prop :=
  pField 0 g7 fun t25 =>
  pLoad h_6 t25 fun t26 =>
  pBin .lss v9 t26 fun t27 =>
  ifV t27
  (pField 1 g7 fun t30 =>
  pLoad h_6 t30 fun t31 =>
  pField 1 g7 fun t33 =>
  pLoad h_6 t33 fun t34 =>
  pIdx 1 t34 v9 fun t36 =>
  pLoad h_6 t36 fun t37 =>
  pBin .rem t37 (.int .i64 1000000) fun t38 =>
  pIdx 1 t31 v9 fun t39 =>
  pStore 1 t39 t38 h_6 fun u_1 h_7 =>
  pField 2 g7 fun t40 =>
  pLoad h_7 t40 fun t41 =>
  pField 2 g7 fun t43 =>
  pLoad h_7 t43 fun t44 =>
  pIdx 1 t44 v9 fun t46 =>
  pLoad h_7 t46 fun t47 =>
  pBin .rem t47 (.int .i64 1000000) fun t48 =>
  pIdx 1 t41 v9 fun t49 =>
  pStore 1 t49 t48 h_7 fun u_2 h_8 =>
  pBin .add v9 (.int .i64 1) fun t29 =>
  Z t29 h_8)
  (pLoadN 4 h_6 g7 fun t50 =>
  pBox T_api_Raw (.agg #[(.int .i64 0), (.slice none 0 0), (.slice none 0 0), (.slice none 0 0)]) h_6 fun h10 h_9 =>
  pStore 4 h10 t50 h_9 fun u_3 h_10 =>
  pField 1 h10 fun t51 =>
  pStore 1 t51 (.slice none 0 0) h_10 fun u_4 h_11 =>
  pField 2 h10 fun t52 =>
  pStore 1 t52 (.slice none 0 0) h_11 fun u_5 h_12 =>
  LoopH (σ := Vals [11]) (fun x hh ZZ => sh_milestonelaw22_SplitMoves_L2 P g7 h10 t23 by4 K cells2 x.1 hh (fun a0 hz => ZZ (a0, ()) hz)) ((.int .i64 0), ()) h_12)

def sh_milestonelaw22_SplitMoves (P : Program) (b0 by1 cells2 : Value) (h : Heap) (K : Value → Heap → Prop) : Prop :=
  pBox T_3_int8 by1 h fun by4 h_1 =>
  callS P F_milestonelaw22_works [] h_1 fun t15 h_2 =>
  pUn .not t15 fun t16 =>
  ifV t16
  (K (.bool false) h_2)
  (callS P F_milestonelaw22_drawn [b0, (.slice none 0 0)] h_2 fun t18 h_3 =>
  pBox T_api_Raw (.agg #[(.int .i64 0), (.slice none 0 0), (.slice none 0 0), (.slice none 0 0)]) h_3 fun g7 h_4 =>
  pStore 4 g7 t18 h_4 fun u h_5 =>
  pIdxA 1 3 by4 (.int .i64 2) fun t19 =>
  pLoad h_5 t19 fun t20 =>
  pConv .i64 t20 fun t21 =>
  pMax (.int .i64 0) t21 fun t22 =>
  pBin .add (.int .i64 1) t22 fun t23 =>
  LoopH (σ := Vals [9]) (fun x hh ZZ => sh_milestonelaw22_SplitMoves_L1 P g7 t23 by4 K cells2 x.1 hh (fun a0 hz => ZZ (a0, ()) hz)) ((.int .i64 0), ()) h_5)

set_option maxRecDepth 100000 in
theorem lk_milestonelaw22_SplitMoves (b0 by1 cells2 : Value) {h : Heap} {K : Value → Heap → Prop} (H : sh_milestonelaw22_SplitMoves Tryz.prog b0 by1 cells2 h K) : CallsH Tryz.prog F_milestonelaw22_SplitMoves [b0, by1, cells2].toArray h K :=
  callsH_of (ann := (annG (Tryz.f6.body.getD .skip) 0 [(8, [9]), (17, [11])]).1) (c := Tryz.f6.body.getD .skip) Tryz.func6 (by kernel_rfl) (by kernel_rfl) (by kernel_rfl) (of_decide_eq_true (by kernel_rfl))
    (Eq.mpr (by kernel_rfl) H)

/-! milestone/milestonelaw22.SplitKnown -/

def sh_milestonelaw22_SplitKnown_k1 (P : Program) (K : Value → Heap → Prop) (h_7 : Heap) : Prop :=
  K (.bool false) h_7

def sh_milestonelaw22_SplitKnown (P : Program) (h : Heap) (K : Value → Heap → Prop) : Prop :=
  pBuildSlice T_int64 (zerosL [(.int .i64 0)] 3) [(0, 1, (.int .i64 5)), (1, 1, (.int .i64 5)), (2, 1, (.int .i64 5))] 3 h fun t9 h_1 =>
  pBuildSlice T_int64 (zerosL [(.int .i64 0)] 3) [(0, 1, (.int .i64 7)), (1, 1, (.int .i64 7)), (2, 1, (.int .i64 7))] 3 h_1 fun t10 h_2 =>
  pBuild [(.int .i64 0), (.slice none 0 0), (.slice none 0 0), (.slice none 0 0)] [(0, 1, (.int .i64 3)), (1, 1, t9), (2, 1, t10)] fun t11 =>
  callS P F_milestonelaw22_made [t11] h_2 fun t12 h_3 =>
  pBuildSlice T_int64 (zerosL [(.int .i64 0)] 4) [(0, 1, (.int .i64 2147483647)), (1, 1, (.int .i64 (-2147483648))), (2, 1, (.int .i64 2147483647)), (3, 1, (.int .i64 (-2147483648)))] 4 h_3 fun t13 h_4 =>
  pBuildSlice T_int64 (zerosL [(.int .i64 0)] 4) [(0, 1, (.int .i64 2147483647)), (1, 1, (.int .i64 (-2147483648))), (2, 1, (.int .i64 (-2147483648))), (3, 1, (.int .i64 2147483647))] 4 h_4 fun t14 h_5 =>
  pBuild [(.int .i64 0), (.slice none 0 0), (.slice none 0 0), (.slice none 0 0)] [(0, 1, (.int .i64 4)), (1, 1, t13), (2, 1, t14)] fun t15 =>
  callS P F_milestonelaw22_made [t15] h_5 fun t16 h_6 =>
  pEq false .ptr t12 (.pointer none) fun t18 =>
  ifV t18
  (sh_milestonelaw22_SplitKnown_k1 P K h_6)
  (pEq false .ptr t16 (.pointer none) fun t21 =>
  ifV t21
  (sh_milestonelaw22_SplitKnown_k1 P K h_6)
  (pBuildSlice T_int (zerosL [(.int .i64 0)] 3) [(0, 1, (.int .i64 0)), (1, 1, (.int .i64 1)), (2, 1, (.int .i64 2))] 3 h_6 fun t25 h_8 =>
  callS P F_split_Way [t12, t25] h_8 fun t26 h_9 =>
  pExt t26 0 fun t27 =>
  pExt t26 1 fun t28 =>
  pBuildSlice T_int (zerosL [(.int .i64 0)] 4) [(0, 1, (.int .i64 0)), (1, 1, (.int .i64 1)), (2, 1, (.int .i64 2)), (3, 1, (.int .i64 3))] 4 h_9 fun t31 h_10 =>
  callS P F_split_Way [t16, t31] h_10 fun t32 h_11 =>
  pExt t32 0 fun t33 =>
  pExt t32 1 fun t34 =>
  pBuildSlice T_int (zerosL [(.int .i64 0)] 3) [(0, 1, (.int .i64 (-1))), (1, 1, (.int .i64 3)), (2, 1, (.int .i64 4))] 3 h_11 fun t37 h_12 =>
  callS P F_split_Way [t16, t37] h_12 fun t38 h_13 =>
  pExt t38 0 fun t39 =>
  pExt t38 1 fun t40 =>
  callS P F_milestonelaw22_works [] h_13 fun t41 h_14 =>
  ifV t41
  (pBin .eql t27 (.int .i64 0) fun t44 =>
  ifV t44
  (pBin .eql t28 (.int .i64 0) fun t48 =>
  ifV t48
  (callS P F_split_Map [t12, (.int .i64 2)] h_14 fun t52 h_15 =>
  pBuildSlice T_int (zerosL [(.int .i64 0)] 3) [(0, 1, (.int .i64 0)), (1, 1, (.int .i64 1)), (2, 1, (.int .i64 1))] 3 h_15 fun t53 h_16 =>
  callS P F_milestonelaw22_rows [t52, t53] h_16 fun t54 h_17 =>
  ifV t54
  (callS P F_split_Map [t12, (.int .i64 5)] h_17 fun t58 h_18 =>
  pBuildSlice T_int (zerosL [(.int .i64 0)] 3) [(0, 1, (.int .i64 1)), (1, 1, (.int .i64 3)), (2, 1, (.int .i64 4))] 3 h_18 fun t59 h_19 =>
  callS P F_milestonelaw22_rows [t58, t59] h_19 fun t60 h_20 =>
  ifV t60
  (pBin .eql t33 (.int .i64 2) fun t64 =>
  ifV t64
  (pBin .eql t34 (.int .i64 8589934590) fun t68 =>
  ifV t68
  (pBin .eql t39 (.int .i64 0) fun t72 =>
  ifV t72
  (pBin .eql t40 (.int .i64 0) fun t76 =>
  ifV t76
  (callS P F_split_Map [t12, (.int .i64 0)] h_20 fun t80 h_21 =>
  pLen t80 fun t81 =>
  pBin .eql t81 (.int .i64 0) fun t82 =>
  ifV t82
  (callS P F_split_Map [t12, (.int .i64 257)] h_21 fun t86 h_22 =>
  pLen t86 fun t87 =>
  pBin .eql t87 (.int .i64 0) fun t88 =>
  ifV t88
  (callS P F_split_Map [t12, (.int .i64 256)] h_22 fun t92 h_23 =>
  pLen t92 fun t93 =>
  pBin .eql t93 (.int .i64 3) fun t94 =>
  ifV t94
  (callS P F_split_Map [(.pointer none), (.int .i64 2)] h_23 fun t97 h_24 =>
  pLen t97 fun t98 =>
  pBin .eql t98 (.int .i64 0) fun t99 =>
  ifV t99
  (callS P F_split_Map [t12, (.int .i64 (-5))] h_24 fun t103 h_25 =>
  pLen t103 fun t104 =>
  pBin .eql t104 (.int .i64 0) fun t105 =>
  K t105 h_25)
  (K (.bool false) h_24))
  (K (.bool false) h_23))
  (K (.bool false) h_22))
  (K (.bool false) h_21))
  (K (.bool false) h_20))
  (K (.bool false) h_20))
  (K (.bool false) h_20))
  (K (.bool false) h_20))
  (K (.bool false) h_20))
  (K (.bool false) h_17))
  (K (.bool false) h_14))
  (K (.bool false) h_14))
  (K (.bool false) h_14)))

set_option maxRecDepth 100000 in
theorem lk_milestonelaw22_SplitKnown {h : Heap} {K : Value → Heap → Prop} (H : sh_milestonelaw22_SplitKnown Tryz.prog h K) : CallsH Tryz.prog F_milestonelaw22_SplitKnown [].toArray h K :=
  callsH_of (ann := (annG (Tryz.f7.body.getD .skip) 0 []).1) (c := Tryz.f7.body.getD .skip) Tryz.func7 (by kernel_rfl) (by kernel_rfl) (by kernel_rfl) (of_decide_eq_true (by kernel_rfl))
    (Eq.mpr (by kernel_rfl) H)

/-! milestone/milestonelaw22.drawn -/

def sh_milestonelaw22_drawn_k2 (P : Program) (i7 : Value) (Z : Value → Heap → Prop) (h_8 : Heap) : Prop :=
  pBin .add i7 (.int .i64 1) fun t29 =>
  Z t29 h_8

def sh_milestonelaw22_drawn_k3 (P : Program) (g6 t4 : Value) (K : Value → Heap → Prop) (h_10 : Heap) : Prop :=
  pLoadN 4 h_10 g6 fun t53 =>
  pStore 4 t4 t53 h_10 fun u_3 h_11 =>
  pLoadN 4 h_11 t4 fun res =>
  K res h_11

def sh_milestonelaw22_drawn_L1 (P : Program) (xy1 g6 t4 : Value) (K : Value → Heap → Prop) (i7 : Value) (h_6 : Heap) (Z : Value → Heap → Prop) : Prop :=
  pLen xy1 fun t19 =>
  pBin .lss i7 t19 fun t20 =>
  ifV t20
  (pField 0 g6 fun t23 =>
  pLoad h_6 t23 fun t24 =>
  pBin .mul (.int .i64 2) t24 fun t25 =>
  pBin .lss i7 t25 fun t26 =>
  ifV t26
  (pBin .rem i7 (.int .i64 2) fun t31 =>
  pBin .eql t31 (.int .i64 0) fun t32 =>
  ifV t32
  (pField 1 g6 fun t33 =>
  pLoad h_6 t33 fun t34 =>
  pBin .quo i7 (.int .i64 2) fun t36 =>
  pIdx 1 xy1 i7 fun t39 =>
  pLoad h_6 t39 fun t40 =>
  pConv .i64 t40 fun t41 =>
  pIdx 1 t34 t36 fun t42 =>
  pStore 1 t42 t41 h_6 fun u_1 h_7 =>
  sh_milestonelaw22_drawn_k2 P i7 Z h_7)
  (pField 2 g6 fun t43 =>
  pLoad h_6 t43 fun t44 =>
  pBin .quo i7 (.int .i64 2) fun t46 =>
  pIdx 1 xy1 i7 fun t49 =>
  pLoad h_6 t49 fun t50 =>
  pConv .i64 t50 fun t51 =>
  pIdx 1 t44 t46 fun t52 =>
  pStore 1 t52 t51 h_6 fun u_2 h_9 =>
  sh_milestonelaw22_drawn_k2 P i7 Z h_9))
  (sh_milestonelaw22_drawn_k3 P g6 t4 K h_6))
  (sh_milestonelaw22_drawn_k3 P g6 t4 K h_6)

def sh_milestonelaw22_drawn (P : Program) (b0 xy1 : Value) (h : Heap) (K : Value → Heap → Prop) : Prop :=
  pBox T_api_Raw (.agg #[(.int .i64 0), (.slice none 0 0), (.slice none 0 0), (.slice none 0 0)]) h fun t4 h_1 =>
  pLen b0 fun t10 =>
  pMin t10 (.int .i64 80) fun t11 =>
  pSlice 1 b0 none (some t11) none fun t12 =>
  pBuild [(.slice none 0 0), (.int .i64 0)] [(0, 1, t12)] fun t13 =>
  pBox T_milestoneref07_Draft t13 h_1 fun t14 h_2 =>
  callS P F_milestoneref07_Draft_Raw [t14] h_2 fun t16 h_3 =>
  pBox T_api_Raw (.agg #[(.int .i64 0), (.slice none 0 0), (.slice none 0 0), (.slice none 0 0)]) h_3 fun g6 h_4 =>
  pStore 4 g6 t16 h_4 fun u h_5 =>
  LoopH (σ := Vals [7]) (fun x hh ZZ => sh_milestonelaw22_drawn_L1 P xy1 g6 t4 K x.1 hh (fun a0 hz => ZZ (a0, ()) hz)) ((.int .i64 0), ()) h_5

set_option maxRecDepth 100000 in
theorem lk_milestonelaw22_drawn (b0 xy1 : Value) {h : Heap} {K : Value → Heap → Prop} (H : sh_milestonelaw22_drawn Tryz.prog b0 xy1 h K) : CallsH Tryz.prog F_milestonelaw22_drawn [b0, xy1].toArray h K :=
  callsH_of (ann := (annG (Tryz.f8.body.getD .skip) 0 [(5, [7])]).1) (c := Tryz.f8.body.getD .skip) Tryz.func8 (by kernel_rfl) (by kernel_rfl) (by kernel_rfl) (of_decide_eq_true (by kernel_rfl))
    (Eq.mpr (by kernel_rfl) H)

/-! milestone/milestonelaw22.made -/

def sh_milestonelaw22_made (P : Program) (g0 : Value) (h : Heap) (K : Value → Heap → Prop) : Prop :=
  pBox T_api_Raw g0 h fun g1 h_1 =>
  pLoadN 4 h_1 g1 fun t6 =>
  callS P F_net_New [t6] h_1 fun t7 h_2 =>
  pExt t7 0 fun t8 =>
  pExt t7 1 fun t9 =>
  pEq true .iface t9 .nilIface fun t11 =>
  ifV t11
  (K (.pointer none) h_2)
  (K t8 h_2)

set_option maxRecDepth 100000 in
theorem lk_milestonelaw22_made (g0 : Value) {h : Heap} {K : Value → Heap → Prop} (H : sh_milestonelaw22_made Tryz.prog g0 h K) : CallsH Tryz.prog F_milestonelaw22_made [g0].toArray h K :=
  callsH_of (ann := (annG (Tryz.f9.body.getD .skip) 0 []).1) (c := Tryz.f9.body.getD .skip) Tryz.func9 (by kernel_rfl) (by kernel_rfl) (by kernel_rfl) (of_decide_eq_true (by kernel_rfl))
    (Eq.mpr (by kernel_rfl) H)

/-! milestone/split.Way -/

def sh_split_Way (P : Program) (n0 nodes1 : Value) (h : Heap) (K : Value → Heap → Prop) : Prop :=
  pBox T_p_net_Net n0 h fun n2 h_1 =>
  pLoad h_1 n2 fun t7 =>
  pEq false .ptr t7 (.pointer none) fun t8 =>
  ifV t8
  (K (.tuple #[(.int .i64 0), (.int .i64 0)]) h_1)
  (callS P F_slices_Clone_sl_int_int [nodes1] h_1 fun t10 h_2 =>
  callS P F_slices_DeleteFunc_sl_int_int [t10, (.func (.func F_split_Way_1) #[] #[n2])] h_2 fun t12 h_3 =>
  pLoad h_3 n2 fun t13 =>
  pBuild [(.pointer none), (.slice none 0 0), (.int .i64 0)] [(0, 1, t13)] fun t14 =>
  pBox T_split_parter t14 h_3 fun t15 h_4 =>
  callS P F_split_parter_way [t15, t12] h_4 fun t17 h_5 =>
  pExt t17 0 fun t18 =>
  pExt t17 1 fun t19 =>
  K (.tuple #[t18, t19]) h_5)

set_option maxRecDepth 100000 in
theorem lk_split_Way (n0 nodes1 : Value) {h : Heap} {K : Value → Heap → Prop} (H : sh_split_Way Tryz.prog n0 nodes1 h K) : CallsH Tryz.prog F_split_Way [n0, nodes1].toArray h K :=
  callsH_of (ann := (annG (Tryz.f10.body.getD .skip) 0 []).1) (c := Tryz.f10.body.getD .skip) Tryz.func10 (by kernel_rfl) (by kernel_rfl) (by kernel_rfl) (of_decide_eq_true (by kernel_rfl))
    (Eq.mpr (by kernel_rfl) H)

end Go.Proofs.YtbacdjahpahcfaaGreatDoor

namespace Go.Proofs.YtbacdjahpahcfaaGreatDoor
open Go Go.Mh
set_option maxHeartbeats 0
set_option linter.unusedVariables false

/-! milestone/milestoneref22.Way -/

def sh_milestoneref22_Way_k3 (P : Program) (i7 : Value) (Z : Value → Value → Heap → Prop) (l6_1 : Value) (h_6 : Heap) : Prop :=
  pBin .add i7 (.int .i64 1) fun t15 =>
  Z l6_1 t15 h_6

def sh_milestoneref22_Way_C2 (P : Program) (nodes1 i7 l6 : Value) (Z : Value → Value → Heap → Prop) (t29 : Value) (h_3 : Heap) : Prop :=
  ifV t29
  (pIdx 1 nodes1 i7 fun t33 =>
  pLoad h_3 t33 fun t34 =>
  pBuildSlice T_int (zerosL [(.int .i64 0)] 1) [(0, 1, t34)] 1 h_3 fun t35 h_4 =>
  pAppend T_int 1 8 [(.int .i64 0)] l6 t35 h_4 fun t36 h_5 =>
  sh_milestoneref22_Way_k3 P i7 Z t36 h_5)
  (sh_milestoneref22_Way_k3 P i7 Z l6 h_3)

def sh_milestoneref22_Way_k5 (P : Program) (d9 : Value) (Z_1 : Value → Value → Heap → Prop) (best8_1 : Value) (h_10 : Heap) : Prop :=
  pBin .add d9 (.int .i64 1) fun t40 =>
  Z_1 best8_1 t40 h_10

def sh_milestoneref22_Way_L4 (P : Program) (g2 l6 : Value) (K : Value → Heap → Prop) (best8 d9 : Value) (h_7 : Heap) (Z_1 : Value → Value → Heap → Prop) : Prop :=
  pBin .lss d9 (.int .i64 4) fun t38 =>
  ifV t38
  (pLoadN 4 h_7 g2 fun t41 =>
  pLoadN 4 h_7 g2 fun t45 =>
  callS P F_milestoneref22_spread [t41, l6, d9] h_7 fun t44 h_8 =>
  (pLoadN 4 h_8 g2 fun t45_1 =>
  t45_1 = t45) ∧
  (callS P F_milestoneref22_spread [t45, l6, best8] h_8 fun t48 h_9 =>
  pBin .gtr t44 t48 fun t49 =>
  ifV t49
  (sh_milestoneref22_Way_k5 P d9 Z_1 d9 h_9)
  (sh_milestoneref22_Way_k5 P d9 Z_1 best8 h_9)))
  (pLoadN 4 h_7 g2 fun t52 =>
  callS P F_milestoneref22_spread [t52, l6, best8] h_7 fun t55 h_11 =>
  K (.tuple #[best8, t55]) h_11)

def sh_milestoneref22_Way_L1 (P : Program) (nodes1 g2 : Value) (K : Value → Heap → Prop) (l6 i7 : Value) (h_2 : Heap) (Z : Value → Value → Heap → Prop) : Prop :=
  pLen nodes1 fun t12 =>
  pBin .lss i7 t12 fun t13 =>
  ifV t13
  (cutP (σ := Vals [29]) (fun J =>
  pIdx 1 nodes1 i7 fun t18 =>
  pLoad h_2 t18 fun t19 =>
  pBin .geq t19 (.int .i64 0) fun t20 =>
  ifV t20
  (pIdx 1 nodes1 i7 fun t24 =>
  pLoad h_2 t24 fun t25 =>
  pField 0 g2 fun t26 =>
  pLoad h_2 t26 fun t27 =>
  pBin .lss t25 t27 fun t28 =>
  J (t28, ()) h_2)
  (J ((.bool false), ()) h_2))
  (fun x hh => sh_milestoneref22_Way_C2 P nodes1 i7 l6 Z x.1 hh))
  (LoopH (σ := Vals [8, 9]) (fun x hh ZZ => sh_milestoneref22_Way_L4 P g2 l6 K x.1 x.2.1 hh (fun a0 a1 hz => ZZ (a0, (a1, ())) hz)) ((.int .i64 0), ((.int .i64 1), ())) h_2)

def sh_milestoneref22_Way (P : Program) (g0 nodes1 : Value) (h : Heap) (K : Value → Heap → Prop) : Prop :=
  pBox T_api_Raw g0 h fun g2 h_1 =>
  LoopH (σ := Vals [6, 7]) (fun x hh ZZ => sh_milestoneref22_Way_L1 P nodes1 g2 K x.1 x.2.1 hh (fun a0 a1 hz => ZZ (a0, (a1, ())) hz)) ((.slice none 0 0), ((.int .i64 0), ())) h_1

set_option maxRecDepth 100000 in
theorem lk_milestoneref22_Way (g0 nodes1 : Value) {h : Heap} {K : Value → Heap → Prop} (H : sh_milestoneref22_Way Tryz.prog g0 nodes1 h K) : CallsH Tryz.prog F_milestoneref22_Way [g0, nodes1].toArray h K :=
  callsH_of (ann := (annG (Tryz.f11.body.getD .skip) 0 [(4, [6, 7]), (8, [29]), (12, [8, 9])]).1) (c := Tryz.f11.body.getD .skip) Tryz.func11 (by kernel_rfl) (by kernel_rfl) (by kernel_rfl) (of_decide_eq_true (by kernel_rfl))
    (Eq.mpr (by kernel_rfl) H)

/-! milestone/milestoneref07.Ints -/

def sh_milestoneref07_Ints_L1 (P : Program) (a0 b1 : Value) (K : Value → Heap → Prop) (i5 : Value) (h_1 : Heap) (Z : Value → Heap → Prop) : Prop :=
  pLen a0 fun t13 =>
  pBin .lss i5 t13 fun t14 =>
  ifV t14
  (pIdx 1 a0 i5 fun t19 =>
  pLoad h_1 t19 fun t20 =>
  pIdx 1 b1 i5 fun t23 =>
  pLoad h_1 t23 fun t24 =>
  pBin .neq t20 t24 fun t25 =>
  ifV t25
  (K (.bool false) h_1)
  (pBin .add i5 (.int .i64 1) fun t16 =>
  Z t16 h_1))
  (K (.bool true) h_1)

def sh_milestoneref07_Ints (P : Program) (a0 b1 : Value) (h : Heap) (K : Value → Heap → Prop) : Prop :=
  pLen a0 fun t7 =>
  pLen b1 fun t9 =>
  pBin .neq t7 t9 fun t10 =>
  ifV t10
  (K (.bool false) h)
  (LoopH (σ := Vals [5]) (fun x hh ZZ => sh_milestoneref07_Ints_L1 P a0 b1 K x.1 hh (fun a0 hz => ZZ (a0, ()) hz)) ((.int .i64 0), ()) h)

set_option maxRecDepth 100000 in
theorem lk_milestoneref07_Ints (a0 b1 : Value) {h : Heap} {K : Value → Heap → Prop} (H : sh_milestoneref07_Ints Tryz.prog a0 b1 h K) : CallsH Tryz.prog F_milestoneref07_Ints [a0, b1].toArray h K :=
  callsH_of (ann := (annG (Tryz.f12.body.getD .skip) 0 [(6, [5])]).1) (c := Tryz.f12.body.getD .skip) Tryz.func12 (by kernel_rfl) (by kernel_rfl) (by kernel_rfl) (of_decide_eq_true (by kernel_rfl))
    (Eq.mpr (by kernel_rfl) H)

/-! milestone/split.Map -/

def sh_split_Map_k1 (P : Program) (K : Value → Heap → Prop) (h_1 : Heap) : Prop :=
  K (.slice none 0 0) h_1

def sh_split_Map_L2 (P : Program) (t28 t26 t23 cells1 : Value) (K : Value → Heap → Prop) (t29 : Value) (h_7 : Heap) (Z : Value → Heap → Prop) : Prop :=
  pBin .lss t29 t28 fun t30 =>
  ifV t30
  (pIdx 1 t26 t29 fun t35 =>
  pStore 1 t35 t29 h_7 fun u h_8 =>
  pBin .add t29 (.int .i64 1) fun t36 =>
  Z t36 h_8)
  (callS P F_split_parter_part [t23, t26, cells1] h_7 fun t40 h_9 =>
  pNil t23 fun t42 =>
  pField 1 t42 fun t43 =>
  pLoad h_9 t43 fun t44 =>
  K t44 h_9)

def sh_split_Map (P : Program) (n0 cells1 : Value) (h : Heap) (K : Value → Heap → Prop) : Prop :=
  pEq false .ptr n0 (.pointer none) fun t9 =>
  ifV t9
  (sh_split_Map_k1 P K h)
  (pBin .lss cells1 (.int .i64 1) fun t12 =>
  ifV t12
  (sh_split_Map_k1 P K h)
  (pBin .gtr cells1 (.int .i64 256) fun t16 =>
  ifV t16
  (sh_split_Map_k1 P K h)
  (callS P F_net_Net_Nodes [n0] h fun t20 h_2 =>
  pMakeSlice T_int 8 [(.int .i64 0)] t20 t20 h_2 fun t21 h_3 =>
  pBuild [(.pointer none), (.slice none 0 0), (.int .i64 0)] [(0, 1, n0), (1, 1, t21)] fun t22 =>
  pBox T_split_parter t22 h_3 fun t23 h_4 =>
  callS P F_net_Net_Nodes [n0] h_4 fun t25 h_5 =>
  pMakeSlice T_int 8 [(.int .i64 0)] t25 t25 h_5 fun t26 h_6 =>
  pLen t26 fun t28 =>
  LoopH (σ := Vals [29]) (fun x hh ZZ => sh_split_Map_L2 P t28 t26 t23 cells1 K x.1 hh (fun a0 hz => ZZ (a0, ()) hz)) ((.int .i64 0), ()) h_6)))

set_option maxRecDepth 100000 in
theorem lk_split_Map (n0 cells1 : Value) {h : Heap} {K : Value → Heap → Prop} (H : sh_split_Map Tryz.prog n0 cells1 h K) : CallsH Tryz.prog F_split_Map [n0, cells1].toArray h K :=
  callsH_of (ann := (annG (Tryz.f13.body.getD .skip) 0 [(8, [29])]).1) (c := Tryz.f13.body.getD .skip) Tryz.func13 (by kernel_rfl) (by kernel_rfl) (by kernel_rfl) (of_decide_eq_true (by kernel_rfl))
    (Eq.mpr (by kernel_rfl) H)

/-! milestone/milestoneref22.Map -/

def sh_milestoneref22_Map_k1 (P : Program) (K : Value → Heap → Prop) (h_2 : Heap) : Prop :=
  K (.slice none 0 0) h_2

def sh_milestoneref22_Map_L2 (P : Program) (g2 cells1 : Value) (K : Value → Heap → Prop) (all5 out6 v7 : Value) (h_3 : Heap) (Z : Value → Value → Value → Heap → Prop) : Prop :=
  pField 0 g2 fun t15 =>
  pLoad h_3 t15 fun t16 =>
  pBin .lss v7 t16 fun t17 =>
  ifV t17
  (pBuildSlice T_int (zerosL [(.int .i64 0)] 1) [(0, 1, v7)] 1 h_3 fun t22 h_4 =>
  pAppend T_int 1 8 [(.int .i64 0)] all5 t22 h_4 fun t23 h_5 =>
  pBuildSlice T_int (zerosL [(.int .i64 0)] 1) [(0, 1, (.int .i64 0))] 1 h_5 fun t25 h_6 =>
  pAppend T_int 1 8 [(.int .i64 0)] out6 t25 h_6 fun t26 h_7 =>
  pBin .add v7 (.int .i64 1) fun t19 =>
  Z t23 t26 t19 h_7)
  (pLoadN 4 h_3 g2 fun t27 =>
  callS P F_milestoneref22_part [t27, all5, cells1, (.int .i64 0), out6] h_3 fun t31 h_8 =>
  K out6 h_8)

def sh_milestoneref22_Map (P : Program) (g0 cells1 : Value) (h : Heap) (K : Value → Heap → Prop) : Prop :=
  pBox T_api_Raw g0 h fun g2 h_1 =>
  pBin .lss cells1 (.int .i64 1) fun t9 =>
  ifV t9
  (sh_milestoneref22_Map_k1 P K h_1)
  (pBin .gtr cells1 (.int .i64 256) fun t12 =>
  ifV t12
  (sh_milestoneref22_Map_k1 P K h_1)
  (LoopH (σ := Vals [5, 6, 7]) (fun x hh ZZ => sh_milestoneref22_Map_L2 P g2 cells1 K x.1 x.2.1 x.2.2.1 hh (fun a0 a1 a2 hz => ZZ (a0, (a1, (a2, ()))) hz)) ((.slice none 0 0), ((.slice none 0 0), ((.int .i64 0), ()))) h_1))

set_option maxRecDepth 100000 in
theorem lk_milestoneref22_Map (g0 cells1 : Value) {h : Heap} {K : Value → Heap → Prop} (H : sh_milestoneref22_Map Tryz.prog g0 cells1 h K) : CallsH Tryz.prog F_milestoneref22_Map [g0, cells1].toArray h K :=
  callsH_of (ann := (annG (Tryz.f14.body.getD .skip) 0 [(7, [5, 6, 7])]).1) (c := Tryz.f14.body.getD .skip) Tryz.func14 (by kernel_rfl) (by kernel_rfl) (by kernel_rfl) (of_decide_eq_true (by kernel_rfl))
    (Eq.mpr (by kernel_rfl) H)

/-! milestone/milestonelaw22.works -/

def sh_milestonelaw22_works (P : Program) (h : Heap) (K : Value → Heap → Prop) : Prop :=
  pBuildSlice T_int64 (zerosL [(.int .i64 0)] 4) [(0, 1, (.int .i64 0)), (1, 1, (.int .i64 10)), (2, 1, (.int .i64 2)), (3, 1, (.int .i64 11))] 4 h fun t4 h_1 =>
  pBuildSlice T_int64 (zerosL [(.int .i64 0)] 4) [(0, 1, (.int .i64 0)), (1, 1, (.int .i64 1)), (2, 1, (.int .i64 9)), (3, 1, (.int .i64 11))] 4 h_1 fun t5 h_2 =>
  pBuild [(.int .i64 0), (.slice none 0 0), (.slice none 0 0), (.slice none 0 0)] [(0, 1, (.int .i64 4)), (1, 1, t4), (2, 1, t5)] fun t6 =>
  callS P F_milestonelaw22_made [t6] h_2 fun t7 h_3 =>
  pEq false .ptr t7 (.pointer none) fun t9 =>
  ifV t9
  (K (.bool false) h_3)
  (pBuildSlice T_int (zerosL [(.int .i64 0)] 4) [(0, 1, (.int .i64 0)), (1, 1, (.int .i64 1)), (2, 1, (.int .i64 2)), (3, 1, (.int .i64 3))] 4 h_3 fun t12 h_4 =>
  callS P F_split_Way [t7, t12] h_4 fun t13 h_5 =>
  pExt t13 0 fun t14 =>
  pExt t13 1 fun t15 =>
  pBin .eql t14 (.int .i64 2) fun t17 =>
  ifV t17
  (pBin .eql t15 (.int .i64 22) fun t20 =>
  ifV t20
  (callS P F_split_Map [t7, (.int .i64 1)] h_5 fun t24 h_6 =>
  pBuildSlice T_int (zerosL [(.int .i64 0)] 4) [(0, 1, (.int .i64 0)), (1, 1, (.int .i64 0)), (2, 1, (.int .i64 0)), (3, 1, (.int .i64 0))] 4 h_6 fun t25 h_7 =>
  callS P F_milestonelaw22_rows [t24, t25] h_7 fun t26 h_8 =>
  ifV t26
  (callS P F_split_Map [t7, (.int .i64 2)] h_8 fun t30 h_9 =>
  pBuildSlice T_int (zerosL [(.int .i64 0)] 4) [(0, 1, (.int .i64 0)), (1, 1, (.int .i64 0)), (2, 1, (.int .i64 1)), (3, 1, (.int .i64 1))] 4 h_9 fun t31 h_10 =>
  callS P F_milestonelaw22_rows [t30, t31] h_10 fun t32 h_11 =>
  ifV t32
  (callS P F_split_Map [t7, (.int .i64 4)] h_11 fun t36 h_12 =>
  pBuildSlice T_int (zerosL [(.int .i64 0)] 4) [(0, 1, (.int .i64 0)), (1, 1, (.int .i64 1)), (2, 1, (.int .i64 2)), (3, 1, (.int .i64 3))] 4 h_12 fun t37 h_13 =>
  callS P F_milestonelaw22_rows [t36, t37] h_13 fun t38 h_14 =>
  K t38 h_14)
  (K (.bool false) h_11))
  (K (.bool false) h_8))
  (K (.bool false) h_5))
  (K (.bool false) h_5))

set_option maxRecDepth 100000 in
theorem lk_milestonelaw22_works {h : Heap} {K : Value → Heap → Prop} (H : sh_milestonelaw22_works Tryz.prog h K) : CallsH Tryz.prog F_milestonelaw22_works [].toArray h K :=
  callsH_of (ann := (annG (Tryz.f15.body.getD .skip) 0 []).1) (c := Tryz.f15.body.getD .skip) Tryz.func15 (by kernel_rfl) (by kernel_rfl) (by kernel_rfl) (of_decide_eq_true (by kernel_rfl))
    (Eq.mpr (by kernel_rfl) H)

/-! milestone/milestonelaw22.rows -/

def sh_milestonelaw22_rows_L1 (P : Program) (a0 b1 : Value) (K : Value → Heap → Prop) (i5 : Value) (h_1 : Heap) (Z : Value → Heap → Prop) : Prop :=
  pLen a0 fun t13 =>
  pBin .lss i5 t13 fun t14 =>
  ifV t14
  (pIdx 1 a0 i5 fun t19 =>
  pLoad h_1 t19 fun t20 =>
  pIdx 1 b1 i5 fun t23 =>
  pLoad h_1 t23 fun t24 =>
  pBin .neq t20 t24 fun t25 =>
  ifV t25
  (K (.bool false) h_1)
  (pBin .add i5 (.int .i64 1) fun t16 =>
  Z t16 h_1))
  (K (.bool true) h_1)

def sh_milestonelaw22_rows (P : Program) (a0 b1 : Value) (h : Heap) (K : Value → Heap → Prop) : Prop :=
  pLen a0 fun t7 =>
  pLen b1 fun t9 =>
  pBin .neq t7 t9 fun t10 =>
  ifV t10
  (K (.bool false) h)
  (LoopH (σ := Vals [5]) (fun x hh ZZ => sh_milestonelaw22_rows_L1 P a0 b1 K x.1 hh (fun a0 hz => ZZ (a0, ()) hz)) ((.int .i64 0), ()) h)

set_option maxRecDepth 100000 in
theorem lk_milestonelaw22_rows (a0 b1 : Value) {h : Heap} {K : Value → Heap → Prop} (H : sh_milestonelaw22_rows Tryz.prog a0 b1 h K) : CallsH Tryz.prog F_milestonelaw22_rows [a0, b1].toArray h K :=
  callsH_of (ann := (annG (Tryz.f16.body.getD .skip) 0 [(6, [5])]).1) (c := Tryz.f16.body.getD .skip) Tryz.func16 (by kernel_rfl) (by kernel_rfl) (by kernel_rfl) (of_decide_eq_true (by kernel_rfl))
    (Eq.mpr (by kernel_rfl) H)

/-! (*milestone/milestoneref07.Draft).Raw -/

def sh_milestoneref07_Draft_Raw_k7 (P : Program) (i8 : Value) (Z_2 : Value → Heap → Prop) (h_52 : Heap) : Prop :=
  pBin .add i8 (.int .i64 1) fun t83 =>
  Z_2 t83 h_52

def sh_milestoneref07_Draft_Raw_C6 (P : Program) (g3 d0 i8 : Value) (Z_2 : Value → Heap → Prop) (a9_4 : Value) (h_44 : Heap) : Prop :=
  pField 3 g3 fun t95 =>
  pLoad h_44 t95 fun t96 =>
  pLoadN 3 h_44 a9_4 fun t97 =>
  pBuildSlice T_api_Arc (zerosL [(.int .i64 0), (.int .i64 0), (.int .i64 0)] 1) [(0, 3, t97)] 1 h_44 fun t98 h_45 =>
  pAppend T_api_Arc 3 24 [(.int .i64 0), (.int .i64 0), (.int .i64 0)] t96 t98 h_45 fun t99 h_46 =>
  pField 3 g3 fun t100 =>
  pStore 1 t100 t99 h_46 fun u_10 h_47 =>
  callS P F_milestoneref07_Draft_Next [d0, (.int .i64 4)] h_47 fun t102 h_48 =>
  pBin .eql t102 (.int .i64 0) fun t103 =>
  ifV t103
  (pField 3 g3 fun t104 =>
  pLoad h_48 t104 fun t105 =>
  pField 1 a9_4 fun t106 =>
  pLoad h_48 t106 fun t107 =>
  pField 0 a9_4 fun t108 =>
  pLoad h_48 t108 fun t109 =>
  pField 2 a9_4 fun t110 =>
  pLoad h_48 t110 fun t111 =>
  pBuild [(.int .i64 0), (.int .i64 0), (.int .i64 0)] [(0, 1, t107), (1, 1, t109), (2, 1, t111)] fun t112 =>
  pBuildSlice T_api_Arc (zerosL [(.int .i64 0), (.int .i64 0), (.int .i64 0)] 1) [(0, 3, t112)] 1 h_48 fun t113 h_49 =>
  pAppend T_api_Arc 3 24 [(.int .i64 0), (.int .i64 0), (.int .i64 0)] t105 t113 h_49 fun t114 h_50 =>
  pField 3 g3 fun t115 =>
  pStore 1 t115 t114 h_50 fun u_11 h_51 =>
  sh_milestoneref07_Draft_Raw_k7 P i8 Z_2 h_51)
  (sh_milestoneref07_Draft_Raw_k7 P i8 Z_2 h_48)

def sh_milestoneref07_Draft_Raw_L5 (P : Program) (t52 g3 d0 t2 : Value) (K : Value → Heap → Prop) (i8 : Value) (h_26 : Heap) (Z_2 : Value → Heap → Prop) : Prop :=
  pBin .lss i8 t52 fun t81 =>
  ifV t81
  (cutP (σ := Vals [9]) (fun J =>
  pField 0 g3 fun t85 =>
  pLoad h_26 t85 fun t86 =>
  pField 0 g3 fun t89 =>
  pLoad h_26 t89 fun t90 =>
  (callS P F_milestoneref07_Draft_Next [d0, t86] h_26 fun t87 h_27 =>
  (pLoad h_27 t89 fun t90_1 =>
  t90_1 = t90) ∧
  ((callS P F_milestoneref07_Draft_Next [d0, t90] h_27 fun t91 h_28 =>
  (callS P F_milestoneref07_Draft_Weight [d0] h_28 fun t93 h_29 =>
  pBuild [(.int .i64 0), (.int .i64 0), (.int .i64 0)] [(0, 1, t87), (1, 1, t91), (2, 1, t93)] fun t94 =>
  pBox T_api_Arc (.agg #[(.int .i64 0), (.int .i64 0), (.int .i64 0)]) h_29 fun a9 h_30 =>
  pStore 3 a9 t94 h_30 fun u_6 h_31 =>
  J (a9, ()) h_31) ∧
  (pBox T_api_Arc (.agg #[(.int .i64 0), (.int .i64 0), (.int .i64 0)]) h_28 fun a9_1 h_32 =>
  callS P F_milestoneref07_Draft_Weight [d0] h_32 fun t93_1 h_33 =>
  pBuild [(.int .i64 0), (.int .i64 0), (.int .i64 0)] [(0, 1, t87), (1, 1, t91), (2, 1, t93_1)] fun t94_1 =>
  pStore 3 a9_1 t94_1 h_33 fun u_7 h_34 =>
  J (a9_1, ()) h_34)) ∧
  (pBox T_api_Arc (.agg #[(.int .i64 0), (.int .i64 0), (.int .i64 0)]) h_27 fun a9_2 h_35 =>
  callS P F_milestoneref07_Draft_Next [d0, t90] h_35 fun t91_1 h_36 =>
  callS P F_milestoneref07_Draft_Weight [d0] h_36 fun t93_2 h_37 =>
  pBuild [(.int .i64 0), (.int .i64 0), (.int .i64 0)] [(0, 1, t87), (1, 1, t91_1), (2, 1, t93_2)] fun t94_2 =>
  pStore 3 a9_2 t94_2 h_37 fun u_8 h_38 =>
  J (a9_2, ()) h_38))) ∧
  (pBox T_api_Arc (.agg #[(.int .i64 0), (.int .i64 0), (.int .i64 0)]) h_26 fun a9_3 h_39 =>
  callS P F_milestoneref07_Draft_Next [d0, t86] h_39 fun t87_1 h_40 =>
  (pLoad h_40 t89 fun t90_2 =>
  t90_2 = t90) ∧
  (callS P F_milestoneref07_Draft_Next [d0, t90] h_40 fun t91_2 h_41 =>
  callS P F_milestoneref07_Draft_Weight [d0] h_41 fun t93_3 h_42 =>
  pBuild [(.int .i64 0), (.int .i64 0), (.int .i64 0)] [(0, 1, t87_1), (1, 1, t91_2), (2, 1, t93_3)] fun t94_3 =>
  pStore 3 a9_3 t94_3 h_42 fun u_9 h_43 =>
  J (a9_3, ()) h_43)))
  (fun x hh => sh_milestoneref07_Draft_Raw_C6 P g3 d0 i8 Z_2 x.1 hh))
  (pLoadN 4 h_26 g3 fun t116 =>
  pStore 4 t2 t116 h_26 fun u_12 h_53 =>
  pLoadN 4 h_53 t2 fun res =>
  K res h_53)

def sh_milestoneref07_Draft_Raw_k4 (P : Program) (t52 g3 d0 t2 : Value) (K : Value → Heap → Prop) (h_25 : Heap) : Prop :=
  LoopH (σ := Vals [8]) (fun x hh ZZ => sh_milestoneref07_Draft_Raw_L5 P t52 g3 d0 t2 K x.1 hh (fun a0 hz => ZZ (a0, ()) hz)) ((.int .i64 0), ()) h_25

def sh_milestoneref07_Draft_Raw_L3 (P : Program) (g3 t55 d0 t52 t2 : Value) (K : Value → Heap → Prop) (v7 : Value) (h_20 : Heap) (Z_1 : Value → Heap → Prop) : Prop :=
  pField 0 g3 fun t57 =>
  pLoad h_20 t57 fun t58 =>
  pBin .lss v7 t58 fun t59 =>
  ifV t59
  (ifV t55
  (pField 3 g3 fun t65 =>
  pLoad h_20 t65 fun t66 =>
  pBin .add v7 (.int .i64 1) fun t69 =>
  pField 0 g3 fun t70 =>
  pLoad h_20 t70 fun t71 =>
  pBin .rem t69 t71 fun t72 =>
  callS P F_milestoneref07_Draft_Weight [d0] h_20 fun t74 h_21 =>
  (pLoad h_21 t65 fun t66_1 =>
  t66_1 = t66) ∧
  (pLoad h_21 t70 fun t71_1 =>
  t71_1 = t71) ∧
  (pBuild [(.int .i64 0), (.int .i64 0), (.int .i64 0)] [(0, 1, v7), (1, 1, t72), (2, 1, t74)] fun t75 =>
  pBuildSlice T_api_Arc (zerosL [(.int .i64 0), (.int .i64 0), (.int .i64 0)] 1) [(0, 3, t75)] 1 h_21 fun t76 h_22 =>
  pAppend T_api_Arc 3 24 [(.int .i64 0), (.int .i64 0), (.int .i64 0)] t66 t76 h_22 fun t77 h_23 =>
  pField 3 g3 fun t78 =>
  pStore 1 t78 t77 h_23 fun u_5 h_24 =>
  pBin .add v7 (.int .i64 1) fun t64 =>
  Z_1 t64 h_24))
  (sh_milestoneref07_Draft_Raw_k4 P t52 g3 d0 t2 K h_20))
  (sh_milestoneref07_Draft_Raw_k4 P t52 g3 d0 t2 K h_20)

def sh_milestoneref07_Draft_Raw_k2 (P : Program) (g3 d0 t2 : Value) (K : Value → Heap → Prop) (h_17 : Heap) : Prop :=
  pField 0 g3 fun t48 =>
  pLoad h_17 t48 fun t49 =>
  pBin .mul (.int .i64 3) t49 fun t50 =>
  pBin .add t50 (.int .i64 1) fun t51 =>
  callS P F_milestoneref07_Draft_Next [d0, t51] h_17 fun t52 h_18 =>
  callS P F_milestoneref07_Draft_Next [d0, (.int .i64 3)] h_18 fun t54 h_19 =>
  pBin .gtr t54 (.int .i64 0) fun t55 =>
  LoopH (σ := Vals [7]) (fun x hh ZZ => sh_milestoneref07_Draft_Raw_L3 P g3 t55 d0 t52 t2 K x.1 hh (fun a0 hz => ZZ (a0, ()) hz)) ((.int .i64 0), ()) h_19

def sh_milestoneref07_Draft_Raw_L1 (P : Program) (g3 d0 t2 : Value) (K : Value → Heap → Prop) (v4 : Value) (h_5 : Heap) (Z : Value → Heap → Prop) : Prop :=
  pField 0 g3 fun t15 =>
  pLoad h_5 t15 fun t16 =>
  pBin .lss v4 t16 fun t17 =>
  ifV t17
  (pField 1 g3 fun t20 =>
  pLoad h_5 t20 fun t21 =>
  callS P F_milestoneref07_Draft_Next [d0, (.int .i64 9)] h_5 fun t23 h_6 =>
  (pLoad h_6 t20 fun t21_1 =>
  t21_1 = t21) ∧
  (pBin .sub t23 (.int .i64 3) fun t24 =>
  pBuildSlice T_int64 (zerosL [(.int .i64 0)] 1) [(0, 1, t24)] 1 h_6 fun t25 h_7 =>
  pAppend T_int64 1 8 [(.int .i64 0)] t21 t25 h_7 fun t26 h_8 =>
  pField 1 g3 fun t27 =>
  pStore 1 t27 t26 h_8 fun u_1 h_9 =>
  pField 2 g3 fun t28 =>
  pLoad h_9 t28 fun t29 =>
  callS P F_milestoneref07_Draft_Next [d0, (.int .i64 7)] h_9 fun t31 h_10 =>
  (pLoad h_10 t28 fun t29_1 =>
  t29_1 = t29) ∧
  (pBuildSlice T_int64 (zerosL [(.int .i64 0)] 1) [(0, 1, t31)] 1 h_10 fun t32 h_11 =>
  pAppend T_int64 1 8 [(.int .i64 0)] t29 t32 h_11 fun t33 h_12 =>
  pField 2 g3 fun t34 =>
  pStore 1 t34 t33 h_12 fun u_2 h_13 =>
  pBin .add v4 (.int .i64 1) fun t19 =>
  Z t19 h_13)))
  (callS P F_milestoneref07_Draft_Next [d0, (.int .i64 9)] h_5 fun t36 h_14 =>
  pBin .eql t36 (.int .i64 0) fun t37 =>
  ifV t37
  (pField 1 g3 fun t38 =>
  pLoad h_14 t38 fun t39 =>
  pIdx 1 t39 (.int .i64 0) fun t40 =>
  pStore 1 t40 (.int .i64 (-2147483648)) h_14 fun u_3 h_15 =>
  pField 2 g3 fun t41 =>
  pLoad h_15 t41 fun t42 =>
  pField 0 g3 fun t43 =>
  pLoad h_15 t43 fun t44 =>
  pBin .sub t44 (.int .i64 1) fun t45 =>
  pIdx 1 t42 t45 fun t46 =>
  pStore 1 t46 (.int .i64 2147483647) h_15 fun u_4 h_16 =>
  sh_milestoneref07_Draft_Raw_k2 P g3 d0 t2 K h_16)
  (sh_milestoneref07_Draft_Raw_k2 P g3 d0 t2 K h_14))

def sh_milestoneref07_Draft_Raw (P : Program) (d0 : Value) (h : Heap) (K : Value → Heap → Prop) : Prop :=
  pBox T_api_Raw (.agg #[(.int .i64 0), (.slice none 0 0), (.slice none 0 0), (.slice none 0 0)]) h fun t2 h_1 =>
  callS P F_milestoneref07_Draft_Next [d0, (.int .i64 12)] h_1 fun t11 h_2 =>
  pBin .add (.int .i64 1) t11 fun t12 =>
  pBuild [(.int .i64 0), (.slice none 0 0), (.slice none 0 0), (.slice none 0 0)] [(0, 1, t12)] fun t13 =>
  pBox T_api_Raw (.agg #[(.int .i64 0), (.slice none 0 0), (.slice none 0 0), (.slice none 0 0)]) h_2 fun g3 h_3 =>
  pStore 4 g3 t13 h_3 fun u h_4 =>
  LoopH (σ := Vals [4]) (fun x hh ZZ => sh_milestoneref07_Draft_Raw_L1 P g3 d0 t2 K x.1 hh (fun a0 hz => ZZ (a0, ()) hz)) ((.int .i64 0), ()) h_4

set_option maxRecDepth 100000 in
theorem lk_milestoneref07_Draft_Raw (d0 : Value) {h : Heap} {K : Value → Heap → Prop} (H : sh_milestoneref07_Draft_Raw Tryz.prog d0 h K) : CallsH Tryz.prog F_milestoneref07_Draft_Raw [d0].toArray h K :=
  callsH_of (ann := (annG (Tryz.f17.body.getD .skip) 0 [(4, [4]), (16, [7]), (22, [8]), (26, [9])]).1) (c := Tryz.f17.body.getD .skip) Tryz.func17 (by kernel_rfl) (by kernel_rfl) (by kernel_rfl) (of_decide_eq_true (by kernel_rfl))
    (Eq.mpr (by kernel_rfl) H)

/-! milestone/net.New -/

def sh_net_New (P : Program) (raw0 : Value) (h : Heap) (K : Value → Heap → Prop) : Prop :=
  pBox T_api_Raw raw0 h fun raw1 h_1 =>
  pLoadN 4 h_1 raw1 fun t6 =>
  callS P F_graph_Check [t6] h_1 fun t7 h_2 =>
  pEq true .iface t7 .nilIface fun t9 =>
  ifV t9
  (callS P F_api_Told [t7] h_2 fun t11 h_3 =>
  pBox T_api_Fault (.agg #[(.int .i64 0), (.int .i64 0), (.int .i64 0), (.int .i64 0)]) h_3 fun f5 h_4 =>
  pStore 4 f5 t11 h_4 fun u h_5 =>
  pBuild [(.pointer none)] [(0, 1, f5)] fun t12 =>
  K (.tuple #[(.pointer none), (.iface T_net_trouble t12)]) h_5)
  (pLoadN 4 h_2 raw1 fun t14 =>
  callS P F_net_own [t14] h_2 fun t15 h_6 =>
  callS P F_net_of [t15] h_6 fun t16 h_7 =>
  K (.tuple #[t16, .nilIface]) h_7)

set_option maxRecDepth 100000 in
theorem lk_net_New (raw0 : Value) {h : Heap} {K : Value → Heap → Prop} (H : sh_net_New Tryz.prog raw0 h K) : CallsH Tryz.prog F_net_New [raw0].toArray h K :=
  callsH_of (ann := (annG (Tryz.f18.body.getD .skip) 0 []).1) (c := Tryz.f18.body.getD .skip) Tryz.func18 (by kernel_rfl) (by kernel_rfl) (by kernel_rfl) (of_decide_eq_true (by kernel_rfl))
    (Eq.mpr (by kernel_rfl) H)

/-! slices.DeleteFunc[[]int,int] -/

def sh_slices_DeleteFunc_sl_int_int_k2 (P : Program) (j6 : Value) (Z : Value → Value → Heap → Prop) (i5_1 : Value) (h_5 : Heap) : Prop :=
  pBin .add j6 (.int .i64 1) fun t21 =>
  Z i5_1 t21 h_5

def sh_slices_DeleteFunc_sl_int_int_L1 (P : Program) (s0 del1 : Value) (K : Value → Heap → Prop) (i5 j6 : Value) (h_2 : Heap) (Z : Value → Value → Heap → Prop) : Prop :=
  pLen s0 fun t18 =>
  pBin .lss j6 t18 fun t19 =>
  ifV t19
  (pIdx 1 s0 j6 fun t24 =>
  pLoad h_2 t24 fun t25 =>
  callV P del1 [t25].toArray h_2 fun t28 h_3 =>
  pUn .not t28 fun t29 =>
  ifV t29
  (pIdx 1 s0 i5 fun t33 =>
  pStore 1 t33 t25 h_3 fun u h_4 =>
  pBin .add i5 (.int .i64 1) fun t35 =>
  sh_slices_DeleteFunc_sl_int_int_k2 P j6 Z t35 h_4)
  (sh_slices_DeleteFunc_sl_int_int_k2 P j6 Z i5 h_3))
  (pSlice 1 s0 (some i5) none none fun t38 =>
  pClear [(.int .i64 0)] t38 h_2 fun u_1 h_6 =>
  pSlice 1 s0 none (some i5) none fun t41 =>
  K t41 h_6)

def sh_slices_DeleteFunc_sl_int_int (P : Program) (s0 del1 : Value) (h : Heap) (K : Value → Heap → Prop) : Prop :=
  callS P F_slices_IndexFunc_sl_int_int [s0, del1] h fun t10 h_1 =>
  pBin .eql t10 (.int .i64 (-1)) fun t12 =>
  ifV t12
  (K s0 h_1)
  (pBin .add t10 (.int .i64 1) fun t15 =>
  LoopH (σ := Vals [5, 6]) (fun x hh ZZ => sh_slices_DeleteFunc_sl_int_int_L1 P s0 del1 K x.1 x.2.1 hh (fun a0 a1 hz => ZZ (a0, (a1, ())) hz)) (t10, (t15, ())) h_1)

set_option maxRecDepth 100000 in
theorem lk_slices_DeleteFunc_sl_int_int (s0 del1 : Value) {h : Heap} {K : Value → Heap → Prop} (H : sh_slices_DeleteFunc_sl_int_int Tryz.prog s0 del1 h K) : CallsH Tryz.prog F_slices_DeleteFunc_sl_int_int [s0, del1].toArray h K :=
  callsH_of (ann := (annG (Tryz.f19.body.getD .skip) 0 [(7, [5, 6])]).1) (c := Tryz.f19.body.getD .skip) Tryz.func19 (by kernel_rfl) (by kernel_rfl) (by kernel_rfl) (of_decide_eq_true (by kernel_rfl))
    (Eq.mpr (by kernel_rfl) H)

/-! slices.Clone[[]int,int] -/

def sh_slices_Clone_sl_int_int (P : Program) (s0 : Value) (h : Heap) (K : Value → Heap → Prop) : Prop :=
  pEq false .slice s0 (.slice none 0 0) fun t4 =>
  ifV t4
  (K (.slice none 0 0) h)
  (pBuildSlice T_int (zerosL [(.int .i64 0)] 0) [] 0 h fun t5 h_1 =>
  pAppend T_int 1 8 [(.int .i64 0)] t5 s0 h_1 fun t7 h_2 =>
  K t7 h_2)

set_option maxRecDepth 100000 in
theorem lk_slices_Clone_sl_int_int (s0 : Value) {h : Heap} {K : Value → Heap → Prop} (H : sh_slices_Clone_sl_int_int Tryz.prog s0 h K) : CallsH Tryz.prog F_slices_Clone_sl_int_int [s0].toArray h K :=
  callsH_of (ann := (annG (Tryz.f20.body.getD .skip) 0 []).1) (c := Tryz.f20.body.getD .skip) Tryz.func20 (by kernel_rfl) (by kernel_rfl) (by kernel_rfl) (of_decide_eq_true (by kernel_rfl))
    (Eq.mpr (by kernel_rfl) H)

/-! milestone/split.Way$1 -/

def sh_split_Way_1 (P : Program) (v0 t1 : Value) (h : Heap) (K : Value → Heap → Prop) : Prop :=
  pBin .lss v0 (.int .i64 0) fun t5 =>
  ifV t5
  (K (.bool true) h)
  (pLoad h t1 fun t8 =>
  callS P F_net_Net_Nodes [t8] h fun t9 h_1 =>
  pBin .geq v0 t9 fun t10 =>
  K t10 h_1)

set_option maxRecDepth 100000 in
theorem lk_split_Way_1 (v0 t1 : Value) {h : Heap} {K : Value → Heap → Prop} (H : sh_split_Way_1 Tryz.prog v0 t1 h K) : CallsH Tryz.prog F_split_Way_1 [v0, t1].toArray h K :=
  callsH_of (ann := (annG (Tryz.f21.body.getD .skip) 0 []).1) (c := Tryz.f21.body.getD .skip) Tryz.func21 (by kernel_rfl) (by kernel_rfl) (by kernel_rfl) (of_decide_eq_true (by kernel_rfl))
    (Eq.mpr (by kernel_rfl) H)

/-! (*milestone/net.Net).Nodes -/

def sh_net_Net_Nodes (P : Program) (n0 : Value) (h : Heap) (K : Value → Heap → Prop) : Prop :=
  pEq false .ptr n0 (.pointer none) fun t4 =>
  ifV t4
  (K (.int .i64 0) h)
  (pNil n0 fun t6 =>
  pField 0 t6 fun t7 =>
  pField 0 t7 fun t8 =>
  pLoad h t8 fun t9 =>
  K t9 h)

set_option maxRecDepth 100000 in
theorem lk_net_Net_Nodes (n0 : Value) {h : Heap} {K : Value → Heap → Prop} (H : sh_net_Net_Nodes Tryz.prog n0 h K) : CallsH Tryz.prog F_net_Net_Nodes [n0].toArray h K :=
  callsH_of (ann := (annG (Tryz.f22.body.getD .skip) 0 []).1) (c := Tryz.f22.body.getD .skip) Tryz.func22 (by kernel_rfl) (by kernel_rfl) (by kernel_rfl) (of_decide_eq_true (by kernel_rfl))
    (Eq.mpr (by kernel_rfl) H)

/-! (*milestone/split.parter).way -/

def sh_split_parter_way_k2 (P : Program) (t9 : Value) (Z : Value → Value → Value → Heap → Prop) (best4_1 most5_1 : Value) (h_5 : Heap) : Prop :=
  pBin .add t9 (.int .i64 1) fun t22 =>
  Z best4_1 most5_1 t22 h_5

def sh_split_parter_way_L1 (P : Program) (p0 l1 : Value) (K : Value → Heap → Prop) (best4 most5 t9 : Value) (h_2 : Heap) (Z : Value → Value → Value → Heap → Prop) : Prop :=
  pBin .lss t9 (.int .i64 4) fun t10 =>
  ifV t10
  (callS P F_split_parter_along [p0, t9] h_2 fun t15 h_3 =>
  callS P F_split_spread_int [l1, t15] h_3 fun t16 h_4 =>
  pBin .gtr t16 most5 fun t19 =>
  ifV t19
  (sh_split_parter_way_k2 P t9 Z t9 t16 h_4)
  (sh_split_parter_way_k2 P t9 Z best4 most5 h_4))
  (K (.tuple #[best4, most5]) h_2)

def sh_split_parter_way (P : Program) (p0 l1 : Value) (h : Heap) (K : Value → Heap → Prop) : Prop :=
  callS P F_split_directions [] h fun t8 h_1 =>
  LoopH (σ := Vals [4, 5, 9]) (fun x hh ZZ => sh_split_parter_way_L1 P p0 l1 K x.1 x.2.1 x.2.2.1 hh (fun a0 a1 a2 hz => ZZ (a0, (a1, (a2, ()))) hz)) ((.int .i64 0), ((.int .i64 0), ((.int .i64 0), ()))) h_1

set_option maxRecDepth 100000 in
theorem lk_split_parter_way (p0 l1 : Value) {h : Heap} {K : Value → Heap → Prop} (H : sh_split_parter_way Tryz.prog p0 l1 h K) : CallsH Tryz.prog F_split_parter_way [p0, l1].toArray h K :=
  callsH_of (ann := (annG (Tryz.f23.body.getD .skip) 0 [(3, [4, 5, 9])]).1) (c := Tryz.f23.body.getD .skip) Tryz.func23 (by kernel_rfl) (by kernel_rfl) (by kernel_rfl) (of_decide_eq_true (by kernel_rfl))
    (Eq.mpr (by kernel_rfl) H)

/-! milestone/milestoneref22.spread -/

def sh_milestoneref22_spread_L1 (P : Program) (l1 g3 direction2 : Value) (K : Value → Heap → Prop) (least7 most8 i9 : Value) (h_4 : Heap) (Z : Value → Value → Value → Heap → Prop) : Prop :=
  pLen l1 fun t28 =>
  pBin .lss i9 t28 fun t29 =>
  ifV t29
  (pLoadN 4 h_4 g3 fun t32 =>
  pIdx 1 l1 i9 fun t35 =>
  pLoad h_4 t35 fun t36 =>
  callS P F_milestoneref22_value [t32, t36, direction2] h_4 fun t38 h_5 =>
  pMin least7 t38 fun t41 =>
  pMax most8 t38 fun t44 =>
  pBin .add i9 (.int .i64 1) fun t31 =>
  Z t41 t44 t31 h_5)
  (pBin .sub most8 least7 fun t47 =>
  K t47 h_4)

def sh_milestoneref22_spread (P : Program) (g0 l1 direction2 : Value) (h : Heap) (K : Value → Heap → Prop) : Prop :=
  pBox T_api_Raw g0 h fun g3 h_1 =>
  pLen l1 fun t12 =>
  pBin .eql t12 (.int .i64 0) fun t13 =>
  ifV t13
  (K (.int .i64 0) h_1)
  (pLoadN 4 h_1 g3 fun t14 =>
  pIdx 1 l1 (.int .i64 0) fun t16 =>
  pLoad h_1 t16 fun t17 =>
  pLoadN 4 h_1 g3 fun t20 =>
  pIdx 1 l1 (.int .i64 0) fun t22 =>
  pLoad h_1 t22 fun t23 =>
  callS P F_milestoneref22_value [t14, t17, direction2] h_1 fun t19 h_2 =>
  (pLoadN 4 h_2 g3 fun t20_1 =>
  t20_1 = t20) ∧
  (pLoad h_2 t22 fun t23_1 =>
  t23_1 = t23) ∧
  (callS P F_milestoneref22_value [t20, t23, direction2] h_2 fun t25 h_3 =>
  LoopH (σ := Vals [7, 8, 9]) (fun x hh ZZ => sh_milestoneref22_spread_L1 P l1 g3 direction2 K x.1 x.2.1 x.2.2.1 hh (fun a0 a1 a2 hz => ZZ (a0, (a1, (a2, ()))) hz)) (t19, (t25, ((.int .i64 0), ()))) h_3))

set_option maxRecDepth 100000 in
theorem lk_milestoneref22_spread (g0 l1 direction2 : Value) {h : Heap} {K : Value → Heap → Prop} (H : sh_milestoneref22_spread Tryz.prog g0 l1 direction2 h K) : CallsH Tryz.prog F_milestoneref22_spread [g0, l1, direction2].toArray h K :=
  callsH_of (ann := (annG (Tryz.f24.body.getD .skip) 0 [(7, [7, 8, 9])]).1) (c := Tryz.f24.body.getD .skip) Tryz.func24 (by kernel_rfl) (by kernel_rfl) (by kernel_rfl) (of_decide_eq_true (by kernel_rfl))
    (Eq.mpr (by kernel_rfl) H)

end Go.Proofs.YtbacdjahpahcfaaGreatDoor

namespace Go.Proofs.YtbacdjahpahcfaaGreatDoor
open Go Go.Mh
set_option maxHeartbeats 0
set_option linter.unusedVariables false

/-! (*milestone/split.parter).part -/

def sh_split_parter_part_L1 (P : Program) (t16 l1 p3 : Value) (K : Value → Heap → Prop) (t17 : Value) (h_2 : Heap) (Z : Value → Heap → Prop) : Prop :=
  pBin .lss t17 t16 fun t18 =>
  ifV t18
  (pIdx 1 l1 t17 fun t19 =>
  pLoad h_2 t19 fun t20 =>
  pLoad h_2 p3 fun t21 =>
  pNil t21 fun t22 =>
  pField 1 t22 fun t23 =>
  pLoad h_2 t23 fun t24 =>
  pLoad h_2 p3 fun t26 =>
  pNil t26 fun t27 =>
  pField 2 t27 fun t28 =>
  pLoad h_2 t28 fun t29 =>
  pIdx 1 t24 t20 fun t30 =>
  pStore 1 t30 t29 h_2 fun u h_3 =>
  pBin .add t17 (.int .i64 1) fun t31 =>
  Z t31 h_3)
  (DeferS P F_split_parter_part_1 #[p3] h_2 fun h_4 =>
  K (.tuple #[]) h_4)

def sh_split_parter_part (P : Program) (p0 l1 cells2 : Value) (h : Heap) (K : Value → Heap → Prop) : Prop :=
  pBox T_p_split_parter p0 h fun p3 h_1 =>
  pBin .eql cells2 (.int .i64 1) fun t13 =>
  ifV t13
  (pLen l1 fun t16 =>
  LoopH (σ := Vals [17]) (fun x hh ZZ => sh_split_parter_part_L1 P t16 l1 p3 K x.1 hh (fun a0 hz => ZZ (a0, ()) hz)) ((.int .i64 0), ()) h_1)
  (pLoad h_1 p3 fun t33 =>
  callS P F_split_parter_way [t33, l1] h_1 fun t35 h_5 =>
  pExt t35 0 fun t36 =>
  pExt t35 1 fun t37 =>
  pLoad h_5 p3 fun t38 =>
  callS P F_split_parter_along [t38, t36] h_5 fun t40 h_6 =>
  pBox T_func_int_int64 .nilFunc h_6 fun value10 h_7 =>
  pStore 1 value10 t40 h_7 fun u_1 h_8 =>
  callS P F_slices_Values_sl_int_int [l1] h_8 fun t42 h_9 =>
  callS P F_slices_SortedFunc_int [t42, (.func (.func F_split_parter_part_2) #[] #[value10])] h_9 fun t44 h_10 =>
  pLen t44 fun t46 =>
  pBin .quo cells2 (.int .i64 2) fun t48 =>
  pBin .mul t46 t48 fun t49 =>
  pBin .quo t49 cells2 fun t51 =>
  pLoad h_10 p3 fun t52 =>
  pSlice 1 t44 none (some t51) none fun t55 =>
  pBin .quo cells2 (.int .i64 2) fun t57 =>
  callS P F_split_parter_part [t52, t55, t57] h_10 fun t58 h_11 =>
  pLoad h_11 p3 fun t59 =>
  pSlice 1 t44 (some t51) none none fun t62 =>
  pBin .quo cells2 (.int .i64 2) fun t65 =>
  pBin .sub cells2 t65 fun t66 =>
  callS P F_split_parter_part [t59, t62, t66] h_11 fun t67 h_12 =>
  K (.tuple #[]) h_12)

set_option maxRecDepth 100000 in
theorem lk_split_parter_part (p0 l1 cells2 : Value) {h : Heap} {K : Value → Heap → Prop} (H : sh_split_parter_part Tryz.prog p0 l1 cells2 h K) : CallsH Tryz.prog F_split_parter_part [p0, l1, cells2].toArray h K :=
  callsH_deferIf (g := F_split_parter_part_1) (A := cL (Tryz.f25.body.getD .skip)) (A' := (cL (cL (cR (Tryz.f25.body.getD .skip))))) (B := (cR (cT (cR (cL (cR (Tryz.f25.body.getD .skip))))))) (C := (cR (cR (Tryz.f25.body.getD .skip)))) (annA := (annG (cL (Tryz.f25.body.getD .skip)) 0 []).1) (annA' := (annG (cL (cL (cR (Tryz.f25.body.getD .skip)))) 0 []).1) (annB := (annG (cR (cT (cR (cL (cR (Tryz.f25.body.getD .skip)))))) 0 [(2, [17])]).1) (annC := (annG (cR (cR (Tryz.f25.body.getD .skip))) 0 []).1) (id := cId (cL (cT (cR (cL (cR (Tryz.f25.body.getD .skip))))))) (o1 := cO 0 (cL (cT (cR (cL (cR (Tryz.f25.body.getD .skip))))))) (o2 := cO 1 (cL (cT (cR (cL (cR (Tryz.f25.body.getD .skip))))))) (s := 14) (co := (.tmp 13)) (caps := #[(.tmp 3)]) (c := { callee := .value (.tmp 14), args := #[], argTypes := #[] })
    Tryz.func25 (by kernel_rfl) (by kernel_rfl) (by kernel_rfl) (of_decide_eq_true (by kernel_rfl)) (by kernel_rfl) (by kernel_rfl) (by kernel_rfl) (by kernel_rfl) rfl rfl (by kernel_rfl) (by kernel_rfl)
    (Eq.mpr (by kernel_rfl) H)

/-! milestone/milestoneref22.part -/

def sh_milestoneref22_part_L1 (P : Program) (nodes1 out4 first3 : Value) (K : Value → Heap → Prop) (i10 : Value) (h_2 : Heap) (Z : Value → Heap → Prop) : Prop :=
  pLen nodes1 fun t19 =>
  pBin .lss i10 t19 fun t20 =>
  ifV t20
  (pIdx 1 nodes1 i10 fun t26 =>
  pLoad h_2 t26 fun t27 =>
  pIdx 1 out4 t27 fun t29 =>
  pStore 1 t29 first3 h_2 fun u h_3 =>
  pBin .add i10 (.int .i64 1) fun t22 =>
  Z t22 h_3)
  (K (.tuple #[]) h_2)

def sh_milestoneref22_part (P : Program) (g0 nodes1 cells2 first3 out4 : Value) (h : Heap) (K : Value → Heap → Prop) : Prop :=
  pBox T_api_Raw g0 h fun g5 h_1 =>
  pBin .eql cells2 (.int .i64 1) fun t16 =>
  ifV t16
  (LoopH (σ := Vals [10]) (fun x hh ZZ => sh_milestoneref22_part_L1 P nodes1 out4 first3 K x.1 hh (fun a0 hz => ZZ (a0, ()) hz)) ((.int .i64 0), ()) h_1)
  (pLoadN 4 h_1 g5 fun t31 =>
  callS P F_milestoneref22_Way [t31, nodes1] h_1 fun t33 h_4 =>
  pExt t33 0 fun t34 =>
  pExt t33 1 fun t35 =>
  pLoadN 4 h_4 g5 fun t36 =>
  callS P F_milestoneref22_ordered [t36, nodes1, t34] h_4 fun t39 h_5 =>
  pLen t39 fun t41 =>
  pBin .quo cells2 (.int .i64 2) fun t43 =>
  pBin .mul t41 t43 fun t44 =>
  pBin .quo t44 cells2 fun t46 =>
  pLoadN 4 h_5 g5 fun t47 =>
  pSlice 1 t39 none (some t46) none fun t50 =>
  pBin .quo cells2 (.int .i64 2) fun t52 =>
  callS P F_milestoneref22_part [t47, t50, t52, first3, out4] h_5 fun t55 h_6 =>
  pLoadN 4 h_6 g5 fun t56 =>
  pSlice 1 t39 (some t46) none none fun t59 =>
  pBin .quo cells2 (.int .i64 2) fun t62 =>
  pBin .sub cells2 t62 fun t63 =>
  pBin .quo cells2 (.int .i64 2) fun t66 =>
  pBin .add first3 t66 fun t67 =>
  callS P F_milestoneref22_part [t56, t59, t63, t67, out4] h_6 fun t69 h_7 =>
  K (.tuple #[]) h_7)

set_option maxRecDepth 100000 in
theorem lk_milestoneref22_part (g0 nodes1 cells2 first3 out4 : Value) {h : Heap} {K : Value → Heap → Prop} (H : sh_milestoneref22_part Tryz.prog g0 nodes1 cells2 first3 out4 h K) : CallsH Tryz.prog F_milestoneref22_part [g0, nodes1, cells2, first3, out4].toArray h K :=
  callsH_of (ann := (annG (Tryz.f26.body.getD .skip) 0 [(5, [10])]).1) (c := Tryz.f26.body.getD .skip) Tryz.func26 (by kernel_rfl) (by kernel_rfl) (by kernel_rfl) (of_decide_eq_true (by kernel_rfl))
    (Eq.mpr (by kernel_rfl) H)

/-! (*milestone/milestoneref07.Draft).Next -/

def sh_milestoneref07_Draft_Next_k1 (P : Program) (K : Value → Heap → Prop) (h_1 : Heap) : Prop :=
  K (.int .i64 0) h_1

def sh_milestoneref07_Draft_Next (P : Program) (d0 n1 : Value) (h : Heap) (K : Value → Heap → Prop) : Prop :=
  pNil d0 fun t6 =>
  pField 0 t6 fun t7 =>
  pLoad h t7 fun t8 =>
  pLen t8 fun t9 =>
  pBin .eql t9 (.int .i64 0) fun t10 =>
  ifV t10
  (sh_milestoneref07_Draft_Next_k1 P K h)
  (pBin .lss n1 (.int .i64 1) fun t13 =>
  ifV t13
  (sh_milestoneref07_Draft_Next_k1 P K h)
  (pNil d0 fun t16 =>
  pField 1 t16 fun t17 =>
  pLoad h t17 fun t18 =>
  pBin .add t18 (.int .i64 1) fun t19 =>
  pNil d0 fun t20 =>
  pField 1 t20 fun t21 =>
  pStore 1 t21 t19 h fun u h_2 =>
  pNil d0 fun t23 =>
  pField 0 t23 fun t24 =>
  pLoad h_2 t24 fun t25 =>
  pNil d0 fun t27 =>
  pField 1 t27 fun t28 =>
  pLoad h_2 t28 fun t29 =>
  pBin .sub t29 (.int .i64 1) fun t30 =>
  pNil d0 fun t32 =>
  pField 0 t32 fun t33 =>
  pLoad h_2 t33 fun t34 =>
  pLen t34 fun t35 =>
  pBin .rem t30 t35 fun t36 =>
  pIdx 1 t25 t36 fun t37 =>
  pLoad h_2 t37 fun t38 =>
  pNil d0 fun t40 =>
  pField 1 t40 fun t41 =>
  pLoad h_2 t41 fun t42 =>
  pBin .sub t42 (.int .i64 1) fun t43 =>
  pNil d0 fun t45 =>
  pField 0 t45 fun t46 =>
  pLoad h_2 t46 fun t47 =>
  pLen t47 fun t48 =>
  pBin .quo t43 t48 fun t49 =>
  pConv .u8 t49 fun t50 =>
  pBin .add t38 t50 fun t51 =>
  pConv .i64 t51 fun t52 =>
  pBin .rem t52 n1 fun t54 =>
  K t54 h_2))

set_option maxRecDepth 100000 in
theorem lk_milestoneref07_Draft_Next (d0 n1 : Value) {h : Heap} {K : Value → Heap → Prop} (H : sh_milestoneref07_Draft_Next Tryz.prog d0 n1 h K) : CallsH Tryz.prog F_milestoneref07_Draft_Next [d0, n1].toArray h K :=
  callsH_of (ann := (annG (Tryz.f27.body.getD .skip) 0 []).1) (c := Tryz.f27.body.getD .skip) Tryz.func27 (by kernel_rfl) (by kernel_rfl) (by kernel_rfl) (of_decide_eq_true (by kernel_rfl))
    (Eq.mpr (by kernel_rfl) H)

/-! (*milestone/milestoneref07.Draft).Weight -/

def sh_milestoneref07_Draft_Weight (P : Program) (d0 : Value) (h : Heap) (K : Value → Heap → Prop) : Prop :=
  callS P F_milestoneref07_Draft_Next [d0, (.int .i64 12)] h fun t5 h_1 =>
  pBin .lss t5 (.int .i64 3) fun t8 =>
  ifV t8
  (K (.int .i64 0) h_1)
  (pBin .lss t5 (.int .i64 10) fun t11 =>
  ifV t11
  (callS P F_milestoneref07_Draft_Next [d0, (.int .i64 9)] h_1 fun t13 h_2 =>
  pBin .add (.int .i64 1) t13 fun t14 =>
  K t14 h_2)
  (pBin .lss t5 (.int .i64 11) fun t17 =>
  ifV t17
  (callS P F_milestoneref07_Draft_Next [d0, (.int .i64 20)] h_1 fun t19 h_3 =>
  pBin .mul (.int .i64 100) t19 fun t20 =>
  K t20 h_3)
  (callS P F_milestoneref07_Draft_Next [d0, (.int .i64 2)] h_1 fun t22 h_4 =>
  pBin .sub (.int .i64 2147483647) t22 fun t23 =>
  K t23 h_4)))

set_option maxRecDepth 100000 in
theorem lk_milestoneref07_Draft_Weight (d0 : Value) {h : Heap} {K : Value → Heap → Prop} (H : sh_milestoneref07_Draft_Weight Tryz.prog d0 h K) : CallsH Tryz.prog F_milestoneref07_Draft_Weight [d0].toArray h K :=
  callsH_of (ann := (annG (Tryz.f28.body.getD .skip) 0 []).1) (c := Tryz.f28.body.getD .skip) Tryz.func28 (by kernel_rfl) (by kernel_rfl) (by kernel_rfl) (of_decide_eq_true (by kernel_rfl))
    (Eq.mpr (by kernel_rfl) H)

/-! milestone/graph.Check -/

def sh_graph_Check (P : Program) (r0 : Value) (h : Heap) (K : Value → Heap → Prop) : Prop :=
  pBox T_api_Raw r0 h fun r1 h_1 =>
  pBox T_error .nilIface h_1 fun err2 h_2 =>
  pLoadN 4 h_2 r1 fun t4 =>
  callS P F_graph_look [t4] h_2 fun t5 h_3 =>
  pStore 1 err2 .nilIface h_3 fun u h_4 =>
  DeferS P F_graph_Check_1 #[err2] h_4 fun h_5 =>
  pLoad h_5 err2 fun res =>
  K res h_5

set_option maxRecDepth 100000 in
theorem lk_graph_Check (r0 : Value) {h : Heap} {K : Value → Heap → Prop} (H : sh_graph_Check Tryz.prog r0 h K) : CallsH Tryz.prog F_graph_Check [r0].toArray h K :=
  callsH_defer (g := F_graph_Check_1) (A := cL (Tryz.f29.body.getD .skip)) (B := cR (cR (Tryz.f29.body.getD .skip))) (annA := (annG (cL (Tryz.f29.body.getD .skip)) 0 []).1) (annB := (annG (cR (cR (Tryz.f29.body.getD .skip))) 0 []).1) (id := cId (cL (cR (Tryz.f29.body.getD .skip)))) (o1 := cO 0 (cL (cR (Tryz.f29.body.getD .skip)))) (o2 := cO 1 (cL (cR (Tryz.f29.body.getD .skip)))) (s := 3) (caps := #[(.tmp 2)]) (c := { callee := .value (.tmp 3), args := #[], argTypes := #[] })
    Tryz.func29 (by kernel_rfl) (by kernel_rfl) (by kernel_rfl) (of_decide_eq_true (by kernel_rfl)) (by kernel_rfl) (by kernel_rfl) (by kernel_rfl) (by kernel_rfl) rfl rfl (by kernel_rfl) (by kernel_rfl)
    (Eq.mpr (by kernel_rfl) H)

/-! milestone/net.of -/

def sh_net_of (P : Program) (raw0 : Value) (h : Heap) (K : Value → Heap → Prop) : Prop :=
  pBox T_api_Raw raw0 h fun raw1 h_1 =>
  pLoadN 4 h_1 raw1 fun t5 =>
  pBuild [(.int .i64 0), (.slice none 0 0), (.slice none 0 0), (.slice none 0 0), (.slice none 0 0), (.slice none 0 0)] [(0, 4, t5)] fun t6 =>
  pBox T_net_Net t6 h_1 fun t7 h_2 =>
  callV P (.func (.func F_net_of_1) #[] #[raw1]) [(.func (.func F_net_of_2) #[] #[])].toArray h_2 fun t12 h_3 =>
  callV P (.func (.func F_net_of_1) #[] #[raw1]) [(.func (.func F_net_of_3) #[] #[])].toArray h_3 fun t14 h_4 =>
  pNil t7 fun t15 =>
  pField 4 t15 fun t16 =>
  pStore 1 t16 t12 h_4 fun u h_5 =>
  pNil t7 fun t17 =>
  pField 5 t17 fun t18 =>
  pStore 1 t18 t14 h_5 fun u_1 h_6 =>
  K t7 h_6

set_option maxRecDepth 100000 in
theorem lk_net_of (raw0 : Value) {h : Heap} {K : Value → Heap → Prop} (H : sh_net_of Tryz.prog raw0 h K) : CallsH Tryz.prog F_net_of [raw0].toArray h K :=
  callsH_of (ann := (annG (Tryz.f31.body.getD .skip) 0 []).1) (c := Tryz.f31.body.getD .skip) Tryz.func31 (by kernel_rfl) (by kernel_rfl) (by kernel_rfl) (of_decide_eq_true (by kernel_rfl))
    (Eq.mpr (by kernel_rfl) H)

/-! milestone/net.own -/

def sh_net_own (P : Program) (raw0 : Value) (h : Heap) (K : Value → Heap → Prop) : Prop :=
  pBox T_api_Raw raw0 h fun raw1 h_1 =>
  pBox T_api_Raw (.agg #[(.int .i64 0), (.slice none 0 0), (.slice none 0 0), (.slice none 0 0)]) h_1 fun t2 h_2 =>
  pField 1 raw1 fun t3 =>
  pLoad h_2 t3 fun t4 =>
  pField 2 raw1 fun t6 =>
  pLoad h_2 t6 fun t7 =>
  pField 3 raw1 fun t9 =>
  pLoad h_2 t9 fun t10 =>
  callS P F_slices_Clone_sl_int64_int64 [t4] h_2 fun t5 h_3 =>
  (pLoad h_3 t6 fun t7_1 =>
  t7_1 = t7) ∧
  (pLoad h_3 t9 fun t10_1 =>
  t10_1 = t10) ∧
  (pField 1 raw1 fun t12 =>
  callS P F_slices_Clone_sl_int64_int64 [t7] h_3 fun t8 h_4 =>
  (pLoad h_4 t9 fun t10_2 =>
  t10_2 = t10) ∧
  (callS P F_slices_Clone_sl_api_Arc_api_Arc [t10] h_4 fun t11 h_5 =>
  pStore 1 t12 t5 h_5 fun u h_6 =>
  pField 2 raw1 fun t13 =>
  pStore 1 t13 t8 h_6 fun u_1 h_7 =>
  pField 3 raw1 fun t14 =>
  pStore 1 t14 t11 h_7 fun u_2 h_8 =>
  pLoadN 4 h_8 raw1 fun t15 =>
  pStore 4 t2 t15 h_8 fun u_3 h_9 =>
  pLoadN 4 h_9 t2 fun res =>
  K res h_9))

set_option maxRecDepth 100000 in
theorem lk_net_own (raw0 : Value) {h : Heap} {K : Value → Heap → Prop} (H : sh_net_own Tryz.prog raw0 h K) : CallsH Tryz.prog F_net_own [raw0].toArray h K :=
  callsH_of (ann := (annG (Tryz.f32.body.getD .skip) 0 []).1) (c := Tryz.f32.body.getD .skip) Tryz.func32 (by kernel_rfl) (by kernel_rfl) (by kernel_rfl) (of_decide_eq_true (by kernel_rfl))
    (Eq.mpr (by kernel_rfl) H)

/-! slices.IndexFunc[[]int,int] -/

def sh_slices_IndexFunc_sl_int_int_L1 (P : Program) (t7 s0 f1 : Value) (K : Value → Heap → Prop) (t8 : Value) (h_1 : Heap) (Z : Value → Heap → Prop) : Prop :=
  pBin .lss t8 t7 fun t9 =>
  ifV t9
  (pIdx 1 s0 t8 fun t14 =>
  pLoad h_1 t14 fun t15 =>
  callV P f1 [t15].toArray h_1 fun t16 h_2 =>
  ifV t16
  (K t8 h_2)
  (pBin .add t8 (.int .i64 1) fun t18 =>
  Z t18 h_2))
  (K (.int .i64 (-1)) h_1)

def sh_slices_IndexFunc_sl_int_int (P : Program) (s0 f1 : Value) (h : Heap) (K : Value → Heap → Prop) : Prop :=
  pLen s0 fun t7 =>
  LoopH (σ := Vals [8]) (fun x hh ZZ => sh_slices_IndexFunc_sl_int_int_L1 P t7 s0 f1 K x.1 hh (fun a0 hz => ZZ (a0, ()) hz)) ((.int .i64 0), ()) h

set_option maxRecDepth 100000 in
theorem lk_slices_IndexFunc_sl_int_int (s0 f1 : Value) {h : Heap} {K : Value → Heap → Prop} (H : sh_slices_IndexFunc_sl_int_int Tryz.prog s0 f1 h K) : CallsH Tryz.prog F_slices_IndexFunc_sl_int_int [s0, f1].toArray h K :=
  callsH_of (ann := (annG (Tryz.f33.body.getD .skip) 0 [(3, [8])]).1) (c := Tryz.f33.body.getD .skip) Tryz.func33 (by kernel_rfl) (by kernel_rfl) (by kernel_rfl) (of_decide_eq_true (by kernel_rfl))
    (Eq.mpr (by kernel_rfl) H)

/-! milestone/split.directions -/

def sh_split_directions (P : Program) (h : Heap) (K : Value → Heap → Prop) : Prop :=
  pBox T_4_func_int64_int64_int64 (.agg #[.nilFunc, .nilFunc, .nilFunc, .nilFunc]) h fun t0 h_1 =>
  pBuild [.nilFunc, .nilFunc, .nilFunc, .nilFunc] [(0, 1, (.func (.func F_split_directions_1) #[] #[])), (1, 1, (.func (.func F_split_directions_2) #[] #[])), (2, 1, (.func (.func F_split_directions_3) #[] #[])), (3, 1, (.func (.func F_split_directions_4) #[] #[]))] fun t1 =>
  pStore 4 t0 t1 h_1 fun u h_2 =>
  pLoadN 4 h_2 t0 fun res =>
  K res h_2

set_option maxRecDepth 100000 in
theorem lk_split_directions {h : Heap} {K : Value → Heap → Prop} (H : sh_split_directions Tryz.prog h K) : CallsH Tryz.prog F_split_directions [].toArray h K :=
  callsH_of (ann := (annG (Tryz.f34.body.getD .skip) 0 []).1) (c := Tryz.f34.body.getD .skip) Tryz.func34 (by kernel_rfl) (by kernel_rfl) (by kernel_rfl) (of_decide_eq_true (by kernel_rfl))
    (Eq.mpr (by kernel_rfl) H)

/-! milestone/split.spread[int] -/

def sh_split_spread_int_L1 (P : Program) (t19 l0 tell1 : Value) (K : Value → Heap → Prop) (least5 most6 t20 : Value) (h_2 : Heap) (Z : Value → Value → Value → Heap → Prop) : Prop :=
  pBin .lss t20 t19 fun t21 =>
  ifV t21
  (pIdx 1 l0 t20 fun t22 =>
  pLoad h_2 t22 fun t23 =>
  callV P tell1 [t23].toArray h_2 fun t27 h_3 =>
  pMin least5 t27 fun t28 =>
  callV P tell1 [t23].toArray h_3 fun t32 h_4 =>
  pMax most6 t32 fun t33 =>
  pBin .add t20 (.int .i64 1) fun t34 =>
  Z t28 t33 t34 h_4)
  (pBin .sub most6 least5 fun t37 =>
  K t37 h_2)

def sh_split_spread_int (P : Program) (l0 tell1 : Value) (h : Heap) (K : Value → Heap → Prop) : Prop :=
  pLen l0 fun t10 =>
  pBin .eql t10 (.int .i64 0) fun t11 =>
  ifV t11
  (K (.int .i64 0) h)
  (pIdx 1 l0 (.int .i64 0) fun t14 =>
  pLoad h t14 fun t15 =>
  callV P tell1 [t15].toArray h fun t16 h_1 =>
  pLen l0 fun t19 =>
  LoopH (σ := Vals [5, 6, 20]) (fun x hh ZZ => sh_split_spread_int_L1 P t19 l0 tell1 K x.1 x.2.1 x.2.2.1 hh (fun a0 a1 a2 hz => ZZ (a0, (a1, (a2, ()))) hz)) (t16, (t16, ((.int .i64 0), ()))) h_1)

set_option maxRecDepth 100000 in
theorem lk_split_spread_int (l0 tell1 : Value) {h : Heap} {K : Value → Heap → Prop} (H : sh_split_spread_int Tryz.prog l0 tell1 h K) : CallsH Tryz.prog F_split_spread_int [l0, tell1].toArray h K :=
  callsH_of (ann := (annG (Tryz.f35.body.getD .skip) 0 [(8, [5, 6, 20])]).1) (c := Tryz.f35.body.getD .skip) Tryz.func35 (by kernel_rfl) (by kernel_rfl) (by kernel_rfl) (of_decide_eq_true (by kernel_rfl))
    (Eq.mpr (by kernel_rfl) H)

/-! (*milestone/split.parter).along -/

def sh_split_parter_along (P : Program) (p0 direction1 : Value) (h : Heap) (K : Value → Heap → Prop) : Prop :=
  pBox T_p_split_parter p0 h fun p2 h_1 =>
  callS P F_split_directions [] h_1 fun t6 h_2 =>
  pIdxV1 4 t6 direction1 fun t8 =>
  pBox T_func_int64_int64_int64 .nilFunc h_2 fun tell5 h_3 =>
  pStore 1 tell5 t8 h_3 fun u h_4 =>
  K (.func (.func F_split_parter_along_1) #[] #[p2, tell5]) h_4

set_option maxRecDepth 100000 in
theorem lk_split_parter_along (p0 direction1 : Value) {h : Heap} {K : Value → Heap → Prop} (H : sh_split_parter_along Tryz.prog p0 direction1 h K) : CallsH Tryz.prog F_split_parter_along [p0, direction1].toArray h K :=
  callsH_of (ann := (annG (Tryz.f36.body.getD .skip) 0 []).1) (c := Tryz.f36.body.getD .skip) Tryz.func36 (by kernel_rfl) (by kernel_rfl) (by kernel_rfl) (of_decide_eq_true (by kernel_rfl))
    (Eq.mpr (by kernel_rfl) H)

/-! milestone/milestoneref22.value -/

def sh_milestoneref22_value (P : Program) (g0 v1 direction2 : Value) (h : Heap) (K : Value → Heap → Prop) : Prop :=
  pBox T_api_Raw g0 h fun g3 h_1 =>
  pBin .eql direction2 (.int .i64 0) fun t9 =>
  ifV t9
  (pField 1 g3 fun t10 =>
  pLoad h_1 t10 fun t11 =>
  pIdx 1 t11 v1 fun t13 =>
  pLoad h_1 t13 fun t14 =>
  K t14 h_1)
  (pBin .eql direction2 (.int .i64 1) fun t16 =>
  ifV t16
  (pField 2 g3 fun t17 =>
  pLoad h_1 t17 fun t18 =>
  pIdx 1 t18 v1 fun t20 =>
  pLoad h_1 t20 fun t21 =>
  K t21 h_1)
  (pBin .eql direction2 (.int .i64 2) fun t23 =>
  ifV t23
  (pField 1 g3 fun t24 =>
  pLoad h_1 t24 fun t25 =>
  pIdx 1 t25 v1 fun t27 =>
  pLoad h_1 t27 fun t28 =>
  pField 2 g3 fun t29 =>
  pLoad h_1 t29 fun t30 =>
  pIdx 1 t30 v1 fun t32 =>
  pLoad h_1 t32 fun t33 =>
  pBin .add t28 t33 fun t34 =>
  K t34 h_1)
  (pField 1 g3 fun t35 =>
  pLoad h_1 t35 fun t36 =>
  pIdx 1 t36 v1 fun t38 =>
  pLoad h_1 t38 fun t39 =>
  pField 2 g3 fun t40 =>
  pLoad h_1 t40 fun t41 =>
  pIdx 1 t41 v1 fun t43 =>
  pLoad h_1 t43 fun t44 =>
  pBin .sub t39 t44 fun t45 =>
  K t45 h_1)))

set_option maxRecDepth 100000 in
theorem lk_milestoneref22_value (g0 v1 direction2 : Value) {h : Heap} {K : Value → Heap → Prop} (H : sh_milestoneref22_value Tryz.prog g0 v1 direction2 h K) : CallsH Tryz.prog F_milestoneref22_value [g0, v1, direction2].toArray h K :=
  callsH_of (ann := (annG (Tryz.f37.body.getD .skip) 0 []).1) (c := Tryz.f37.body.getD .skip) Tryz.func37 (by kernel_rfl) (by kernel_rfl) (by kernel_rfl) (of_decide_eq_true (by kernel_rfl))
    (Eq.mpr (by kernel_rfl) H)

/-! (*milestone/split.parter).part$1 -/

def sh_split_parter_part_1 (P : Program) (t0 : Value) (h : Heap) (K : Value → Heap → Prop) : Prop :=
  pLoad h t0 fun t1 =>
  pNil t1 fun t2 =>
  pField 2 t2 fun t3 =>
  pLoad h t3 fun t4 =>
  pBin .add t4 (.int .i64 1) fun t5 =>
  pNil t1 fun t6 =>
  pField 2 t6 fun t7 =>
  pStore 1 t7 t5 h fun u h_1 =>
  K (.tuple #[]) h_1

set_option maxRecDepth 100000 in
theorem lk_split_parter_part_1 (t0 : Value) {h : Heap} {K : Value → Heap → Prop} (H : sh_split_parter_part_1 Tryz.prog t0 h K) : CallsH Tryz.prog F_split_parter_part_1 [t0].toArray h K :=
  callsH_of (ann := (annG (Tryz.f38.body.getD .skip) 0 []).1) (c := Tryz.f38.body.getD .skip) Tryz.func38 (by kernel_rfl) (by kernel_rfl) (by kernel_rfl) (of_decide_eq_true (by kernel_rfl))
    (Eq.mpr (by kernel_rfl) H)

set_option maxRecDepth 100000 in
theorem ld_split_parter_part_1 (t0 : Value) {h : Heap} {K : Heap → Prop} (H : sh_split_parter_part_1 Tryz.prog t0 h (fun _ h' => K h')) : DeferS Tryz.prog F_split_parter_part_1 [t0].toArray h K :=
  deferS_of (ann := (annG (Tryz.f38.body.getD .skip) 0 []).1) (c := Tryz.f38.body.getD .skip) Tryz.func38 (by kernel_rfl) (by kernel_rfl) (by kernel_rfl) (of_decide_eq_true (by kernel_rfl))
    (Eq.mpr (by kernel_rfl) H)

/-! slices.SortedFunc[int] -/

def sh_slices_SortedFunc_int (P : Program) (seq0 cmp1 : Value) (h : Heap) (K : Value → Heap → Prop) : Prop :=
  callS P F_slices_Collect_int [seq0] h fun t7 h_1 =>
  callS P F_slices_SortFunc_sl_int_int [t7, cmp1] h_1 fun t10 h_2 =>
  K t7 h_2

set_option maxRecDepth 100000 in
theorem lk_slices_SortedFunc_int (seq0 cmp1 : Value) {h : Heap} {K : Value → Heap → Prop} (H : sh_slices_SortedFunc_int Tryz.prog seq0 cmp1 h K) : CallsH Tryz.prog F_slices_SortedFunc_int [seq0, cmp1].toArray h K :=
  callsH_of (ann := (annG (Tryz.f39.body.getD .skip) 0 []).1) (c := Tryz.f39.body.getD .skip) Tryz.func39 (by kernel_rfl) (by kernel_rfl) (by kernel_rfl) (of_decide_eq_true (by kernel_rfl))
    (Eq.mpr (by kernel_rfl) H)

/-! slices.Values[[]int,int] -/

def sh_slices_Values_sl_int_int (P : Program) (s0 : Value) (h : Heap) (K : Value → Heap → Prop) : Prop :=
  pBox T_sl_int s0 h fun s1 h_1 =>
  K (.func (.func F_slices_Values_sl_int_int_1) #[] #[s1]) h_1

set_option maxRecDepth 100000 in
theorem lk_slices_Values_sl_int_int (s0 : Value) {h : Heap} {K : Value → Heap → Prop} (H : sh_slices_Values_sl_int_int Tryz.prog s0 h K) : CallsH Tryz.prog F_slices_Values_sl_int_int [s0].toArray h K :=
  callsH_of (ann := (annG (Tryz.f40.body.getD .skip) 0 []).1) (c := Tryz.f40.body.getD .skip) Tryz.func40 (by kernel_rfl) (by kernel_rfl) (by kernel_rfl) (of_decide_eq_true (by kernel_rfl))
    (Eq.mpr (by kernel_rfl) H)

/-! (*milestone/split.parter).part$2 -/

def sh_split_parter_part_2 (P : Program) (v0 w1 t2 : Value) (h : Heap) (K : Value → Heap → Prop) : Prop :=
  pLoad h t2 fun t6 =>
  pLoad h t2 fun t9 =>
  callV P t6 [v0].toArray h fun t8 h_1 =>
  (pLoad h_1 t2 fun t9_1 =>
  t9_1 = t9) ∧
  (callV P t9 [w1].toArray h_1 fun t11 h_2 =>
  callS P F_cmp_Compare_int64 [t8, t11] h_2 fun t12 h_3 =>
  callS P F_cmp_Compare_int [v0, w1] h_3 fun t15 h_4 =>
  pBuildSlice T_int (zerosL [(.int .i64 0)] 2) [(0, 1, t12), (1, 1, t15)] 2 h_4 fun t16 h_5 =>
  callS P F_cmp_Or_int [t16] h_5 fun t17 h_6 =>
  K t17 h_6)

set_option maxRecDepth 100000 in
theorem lk_split_parter_part_2 (v0 w1 t2 : Value) {h : Heap} {K : Value → Heap → Prop} (H : sh_split_parter_part_2 Tryz.prog v0 w1 t2 h K) : CallsH Tryz.prog F_split_parter_part_2 [v0, w1, t2].toArray h K :=
  callsH_of (ann := (annG (Tryz.f41.body.getD .skip) 0 []).1) (c := Tryz.f41.body.getD .skip) Tryz.func41 (by kernel_rfl) (by kernel_rfl) (by kernel_rfl) (of_decide_eq_true (by kernel_rfl))
    (Eq.mpr (by kernel_rfl) H)

/-! cmp.Or[int] -/

def sh_cmp_Or_int_L1 (P : Program) (t7 vals0 : Value) (K : Value → Heap → Prop) (t8 : Value) (h_1 : Heap) (Z : Value → Heap → Prop) : Prop :=
  pBin .lss t8 t7 fun t9 =>
  ifV t9
  (pIdx 1 vals0 t8 fun t10 =>
  pLoad h_1 t10 fun t11 =>
  pBin .neq t11 (.int .i64 0) fun t14 =>
  ifV t14
  (K t11 h_1)
  (pBin .add t8 (.int .i64 1) fun t16 =>
  Z t16 h_1))
  (K (.int .i64 0) h_1)

def sh_cmp_Or_int (P : Program) (vals0 : Value) (h : Heap) (K : Value → Heap → Prop) : Prop :=
  pLen vals0 fun t7 =>
  LoopH (σ := Vals [8]) (fun x hh ZZ => sh_cmp_Or_int_L1 P t7 vals0 K x.1 hh (fun a0 hz => ZZ (a0, ()) hz)) ((.int .i64 0), ()) h

set_option maxRecDepth 100000 in
theorem lk_cmp_Or_int (vals0 : Value) {h : Heap} {K : Value → Heap → Prop} (H : sh_cmp_Or_int Tryz.prog vals0 h K) : CallsH Tryz.prog F_cmp_Or_int [vals0].toArray h K :=
  callsH_of (ann := (annG (Tryz.f42.body.getD .skip) 0 [(4, [8])]).1) (c := Tryz.f42.body.getD .skip) Tryz.func42 (by kernel_rfl) (by kernel_rfl) (by kernel_rfl) (of_decide_eq_true (by kernel_rfl))
    (Eq.mpr (by kernel_rfl) H)

/-! cmp.Compare[int64] -/

def sh_cmp_Compare_int64 (P : Program) (x0 y1 : Value) (h : Heap) (K : Value → Heap → Prop) : Prop :=
  callS P F_cmp_isNaN_int64 [x0] h fun t8 h_1 =>
  callS P F_cmp_isNaN_int64 [y1] h_1 fun t10 h_2 =>
  ifV t8
  (ifV t10
  (K (.int .i64 0) h_2)
  (K (.int .i64 (-1)) h_2))
  (ifV t10
  (K (.int .i64 1) h_2)
  (pBin .lss x0 y1 fun t16 =>
  ifV t16
  (K (.int .i64 (-1)) h_2)
  (pBin .gtr x0 y1 fun t19 =>
  ifV t19
  (K (.int .i64 1) h_2)
  (K (.int .i64 0) h_2))))

set_option maxRecDepth 100000 in
theorem lk_cmp_Compare_int64 (x0 y1 : Value) {h : Heap} {K : Value → Heap → Prop} (H : sh_cmp_Compare_int64 Tryz.prog x0 y1 h K) : CallsH Tryz.prog F_cmp_Compare_int64 [x0, y1].toArray h K :=
  callsH_of (ann := (annG (Tryz.f43.body.getD .skip) 0 []).1) (c := Tryz.f43.body.getD .skip) Tryz.func43 (by kernel_rfl) (by kernel_rfl) (by kernel_rfl) (of_decide_eq_true (by kernel_rfl))
    (Eq.mpr (by kernel_rfl) H)

/-! cmp.Compare[int] -/

def sh_cmp_Compare_int (P : Program) (x0 y1 : Value) (h : Heap) (K : Value → Heap → Prop) : Prop :=
  callS P F_cmp_isNaN_int [x0] h fun t8 h_1 =>
  callS P F_cmp_isNaN_int [y1] h_1 fun t10 h_2 =>
  ifV t8
  (ifV t10
  (K (.int .i64 0) h_2)
  (K (.int .i64 (-1)) h_2))
  (ifV t10
  (K (.int .i64 1) h_2)
  (pBin .lss x0 y1 fun t16 =>
  ifV t16
  (K (.int .i64 (-1)) h_2)
  (pBin .gtr x0 y1 fun t19 =>
  ifV t19
  (K (.int .i64 1) h_2)
  (K (.int .i64 0) h_2))))

set_option maxRecDepth 100000 in
theorem lk_cmp_Compare_int (x0 y1 : Value) {h : Heap} {K : Value → Heap → Prop} (H : sh_cmp_Compare_int Tryz.prog x0 y1 h K) : CallsH Tryz.prog F_cmp_Compare_int [x0, y1].toArray h K :=
  callsH_of (ann := (annG (Tryz.f44.body.getD .skip) 0 []).1) (c := Tryz.f44.body.getD .skip) Tryz.func44 (by kernel_rfl) (by kernel_rfl) (by kernel_rfl) (of_decide_eq_true (by kernel_rfl))
    (Eq.mpr (by kernel_rfl) H)

/-! milestone/milestoneref22.ordered -/

def sh_milestoneref22_ordered_C4 (P : Program) (at10 : Value) (Z_1 : Value → Heap → Prop) (out7 t20 : Value) (J : Vals [7] → Heap → Prop) (t63 : Value) (h_8 : Heap) : Prop :=
  ifV t63
  (pBin .sub at10 (.int .i64 1) fun t65 =>
  Z_1 t65 h_8)
  (pSlice 1 out7 none (some at10) none fun t69 =>
  pSlice 1 out7 (some at10) none none fun t76 =>
  (pBuildSlice T_int (zerosL [(.int .i64 0)] 0) [] 0 h_8 fun t66 h_9 =>
  (pAppend T_int 1 8 [(.int .i64 0)] t66 t69 h_9 fun t70 h_10 =>
  pBuildSlice T_int (zerosL [(.int .i64 0)] 1) [(0, 1, t20)] 1 h_10 fun t72 h_11 =>
  pAppend T_int 1 8 [(.int .i64 0)] t70 t72 h_11 fun t73 h_12 =>
  pAppend T_int 1 8 [(.int .i64 0)] t73 t76 h_12 fun t77 h_13 =>
  J (t77, ()) h_13) ∧
  (pBuildSlice T_int (zerosL [(.int .i64 0)] 1) [(0, 1, t20)] 1 h_9 fun t72_1 h_14 =>
  pAppend T_int 1 8 [(.int .i64 0)] t66 t69 h_14 fun t70_1 h_15 =>
  pAppend T_int 1 8 [(.int .i64 0)] t70_1 t72_1 h_15 fun t73_1 h_16 =>
  pAppend T_int 1 8 [(.int .i64 0)] t73_1 t76 h_16 fun t77_1 h_17 =>
  J (t77_1, ()) h_17)) ∧
  (pBuildSlice T_int (zerosL [(.int .i64 0)] 1) [(0, 1, t20)] 1 h_8 fun t72_2 h_18 =>
  pBuildSlice T_int (zerosL [(.int .i64 0)] 0) [] 0 h_18 fun t66_1 h_19 =>
  pAppend T_int 1 8 [(.int .i64 0)] t66_1 t69 h_19 fun t70_2 h_20 =>
  pAppend T_int 1 8 [(.int .i64 0)] t70_2 t72_2 h_20 fun t73_2 h_21 =>
  pAppend T_int 1 8 [(.int .i64 0)] t73_2 t76 h_21 fun t77_2 h_22 =>
  J (t77_2, ()) h_22))

def sh_milestoneref22_ordered_L3 (P : Program) (g3 out7 direction2 t20 : Value) (J : Vals [7] → Heap → Prop) (at10 : Value) (h_3 : Heap) (Z_1 : Value → Heap → Prop) : Prop :=
  cutP (σ := Vals [63]) (fun J_1 =>
  pBin .gtr at10 (.int .i64 0) fun t24 =>
  ifV t24
  (pLoadN 4 h_3 g3 fun t26 =>
  pBin .sub at10 (.int .i64 1) fun t29 =>
  pIdx 1 out7 t29 fun t30 =>
  pLoad h_3 t30 fun t31 =>
  pLoadN 4 h_3 g3 fun t34 =>
  callS P F_milestoneref22_value [t26, t31, direction2] h_3 fun t33 h_4 =>
  (pLoadN 4 h_4 g3 fun t34_1 =>
  t34_1 = t34) ∧
  (callS P F_milestoneref22_value [t34, t20, direction2] h_4 fun t37 h_5 =>
  pBin .gtr t33 t37 fun t38 =>
  ifV t38
  (J_1 ((.bool true), ()) h_5)
  (pLoadN 4 h_5 g3 fun t40 =>
  pBin .sub at10 (.int .i64 1) fun t43 =>
  pIdx 1 out7 t43 fun t44 =>
  pLoad h_5 t44 fun t45 =>
  pLoadN 4 h_5 g3 fun t48 =>
  callS P F_milestoneref22_value [t40, t45, direction2] h_5 fun t47 h_6 =>
  (pLoadN 4 h_6 g3 fun t48_1 =>
  t48_1 = t48) ∧
  (callS P F_milestoneref22_value [t48, t20, direction2] h_6 fun t51 h_7 =>
  pBin .eql t47 t51 fun t52 =>
  ifV t52
  (pBin .sub at10 (.int .i64 1) fun t56 =>
  pIdx 1 out7 t56 fun t57 =>
  pLoad h_7 t57 fun t58 =>
  pBin .gtr t58 t20 fun t60 =>
  J_1 (t60, ()) h_7)
  (J_1 ((.bool false), ()) h_7)))))
  (J_1 ((.bool false), ()) h_3))
  (fun x hh => sh_milestoneref22_ordered_C4 P at10 Z_1 out7 t20 J x.1 hh)

def sh_milestoneref22_ordered_C2 (P : Program) (i8 : Value) (Z : Value → Value → Heap → Prop) (out7_1 : Value) (h_23 : Heap) : Prop :=
  pBin .add i8 (.int .i64 1) fun t16 =>
  Z out7_1 t16 h_23

def sh_milestoneref22_ordered_L1 (P : Program) (nodes1 g3 direction2 : Value) (K : Value → Heap → Prop) (out7 i8 : Value) (h_2 : Heap) (Z : Value → Value → Heap → Prop) : Prop :=
  pLen nodes1 fun t13 =>
  pBin .lss i8 t13 fun t14 =>
  ifV t14
  (cutP (σ := Vals [7]) (fun J =>
  pIdx 1 nodes1 i8 fun t19 =>
  pLoad h_2 t19 fun t20 =>
  pLen out7 fun t22 =>
  LoopH (σ := Vals [10]) (fun x hh ZZ => sh_milestoneref22_ordered_L3 P g3 out7 direction2 t20 J x.1 hh (fun a0 hz => ZZ (a0, ()) hz)) (t22, ()) h_2)
  (fun x hh => sh_milestoneref22_ordered_C2 P i8 Z x.1 hh))
  (K out7 h_2)

def sh_milestoneref22_ordered (P : Program) (g0 nodes1 direction2 : Value) (h : Heap) (K : Value → Heap → Prop) : Prop :=
  pBox T_api_Raw g0 h fun g3 h_1 =>
  LoopH (σ := Vals [7, 8]) (fun x hh ZZ => sh_milestoneref22_ordered_L1 P nodes1 g3 direction2 K x.1 x.2.1 hh (fun a0 a1 hz => ZZ (a0, (a1, ())) hz)) ((.slice none 0 0), ((.int .i64 0), ())) h_1

set_option maxRecDepth 100000 in
theorem lk_milestoneref22_ordered (g0 nodes1 direction2 : Value) {h : Heap} {K : Value → Heap → Prop} (H : sh_milestoneref22_ordered Tryz.prog g0 nodes1 direction2 h K) : CallsH Tryz.prog F_milestoneref22_ordered [g0, nodes1, direction2].toArray h K :=
  callsH_of (ann := (annG (Tryz.f45.body.getD .skip) 0 [(4, [7, 8]), (7, [7]), (11, [10]), (13, [63])]).1) (c := Tryz.f45.body.getD .skip) Tryz.func45 (by kernel_rfl) (by kernel_rfl) (by kernel_rfl) (of_decide_eq_true (by kernel_rfl))
    (Eq.mpr (by kernel_rfl) H)

end Go.Proofs.YtbacdjahpahcfaaGreatDoor

namespace Go.Proofs.YtbacdjahpahcfaaGreatDoor
open Go Go.Mh
set_option maxHeartbeats 0
set_option linter.unusedVariables false

/-! milestone/graph.look -/

def sh_graph_look_k3 (P : Program) (p4 phase2 : Value) (h_11 : Heap) : Prop :=
  pField 2 p4 fun t32 =>
  pLoad h_11 t32 fun t33 =>
  pLoad h_11 phase2 fun t34 =>
  pField 0 p4 fun t35 =>
  pLoad h_11 t35 fun t36 =>
  pField 1 p4 fun t37 =>
  pLoad h_11 t37 fun t38 =>
  pBuild [(.int .i64 0), (.int .i64 0), (.int .i64 0), (.int .i64 0)] [(0, 1, t33), (1, 1, t34), (2, 1, t36), (3, 1, t38)] fun t39 =>
  pBox T_api_Fault t39 h_11 fun t40 h_12 =>
  pBuild [(.pointer none)] [(0, 1, t40)] fun t41 =>
  False

def sh_graph_look_B2 (P : Program) (h_6 : Heap) (phase2 : Value) (L : Loop) (t19 : Value) (h_7 : Heap) (R : Exit → Heap → Prop) : Prop :=
  pBox T_graph_place (.agg #[(.int .i64 0), (.int .i64 0), (.int .i64 0), (.int .i64 0), (.int .i64 0), (.int .i64 0)]) h_7 fun p4 h_8 =>
  pStore 6 p4 t19 h_8 fun u_1 h_9 =>
  beginR (h_6.size + 1) L h_9 fun h_10 =>
  pField 3 p4 fun t20 =>
  pLoad h_10 t20 fun t21 =>
  pField 4 p4 fun t22 =>
  pLoad h_10 t22 fun t23 =>
  pBin .lss t21 t23 fun t24 =>
  ifV t24
  (sh_graph_look_k3 P p4 phase2 h_10)
  (pField 3 p4 fun t26 =>
  pLoad h_10 t26 fun t27 =>
  pField 5 p4 fun t28 =>
  pLoad h_10 t28 fun t29 =>
  pBin .geq t27 t29 fun t30 =>
  ifV t30
  (sh_graph_look_k3 P p4 phase2 h_10)
  (R .normal h_10))

def sh_graph_look_L1 (P : Program) (t11 t10 : Value) (K : Value → Heap → Prop) (m : List Nat) (t12 : Value) (h_3 : Heap) (Z : List Nat → Value → Heap → Prop) : Prop :=
  pBin .lss t12 t11 fun t13 =>
  ifV t13
  (pIdx 1 t10 t12 fun t15 =>
  pLoad h_3 t15 fun t16 =>
  pBox T_int (.int .i64 0) h_3 fun phase2 h_4 =>
  pStore 1 phase2 t12 h_4 fun u h_5 =>
  callV P t16 [].toArray h_5 fun t18 h_6 =>
  rangeH P t18 [19] (h_6.size + 1) (h_6.push (.deferred (some []))) (fun L x hh R => sh_graph_look_B2 P h_6 phase2 L x.1 hh R)
  (fun h_13 => pBin .add t12 (.int .i64 1) fun t43 =>
  Z (h_6.size :: m) t43 h_13)
  (fun h_14 => takeM (h_6.size :: m) h_14 fun h_15 =>
  K (.tuple #[]) h_15)
  [])
  (takeM m h_3 fun h_16 =>
  K (.tuple #[]) h_16)

def sh_graph_look (P : Program) (r0 : Value) (h : Heap) (K : Value → Heap → Prop) : Prop :=
  pBox T_api_Raw r0 h fun r1 h_1 =>
  pBuildSlice T_func_iter_Seq_graph_place (zerosL [.nilFunc] 5) [(0, 1, (.func (.func F_graph_look_1) #[] #[r1])), (1, 1, (.func (.func F_graph_look_2) #[] #[r1])), (2, 1, (.func (.func F_graph_look_3) #[] #[r1])), (3, 1, (.func (.func F_graph_look_4) #[] #[r1])), (4, 1, (.func (.func F_graph_look_5) #[] #[r1]))] 5 h_1 fun t10 h_2 =>
  pLen t10 fun t11 =>
  LoopH (σ := List Nat × Vals [12]) (fun x hh ZZ => sh_graph_look_L1 P t11 t10 K x.1 x.2.1 hh (fun mz a0 hz => ZZ (mz, (a0, ())) hz)) ([], ((.int .i64 0), ())) h_2

set_option maxRecDepth 100000 in
theorem lk_graph_look (r0 : Value) {h : Heap} {K : Value → Heap → Prop} (H : sh_graph_look Tryz.prog r0 h K) : CallsH Tryz.prog F_graph_look [r0].toArray h K :=
  callsH_of (ann := (annG (Tryz.f47.body.getD .skip) 0 [(2, [12])]).1) (c := Tryz.f47.body.getD .skip) Tryz.func47 (by kernel_rfl) (by kernel_rfl) (by kernel_rfl) (of_decide_eq_true (by kernel_rfl))
    (Eq.mpr (by kernel_rfl) H)

/-! milestone/net.of$1 -/

def sh_net_of_1_C5 (P : Program) (t64 : Value) (Z_2 : Value → Heap → Prop) (h_31 : Heap) : Prop :=
  pBin .add t64 (.int .i64 1) fun t83 =>
  Z_2 t83 h_31

def sh_net_of_1_L4 (P : Program) (t63 t62 end0 rows8 : Value) (K : Value → Heap → Prop) (t64 : Value) (h_14 : Heap) (Z_2 : Value → Heap → Prop) : Prop :=
  pBin .lss t64 t63 fun t65 =>
  ifV t65
  (cutP (σ := Vals []) (fun J_1 =>
  pIdx 3 t62 t64 fun t67 =>
  pLoadN 3 h_14 t67 fun t68 =>
  pBox T_api_Arc (.agg #[(.int .i64 0), (.int .i64 0), (.int .i64 0)]) h_14 fun a13 h_15 =>
  pStore 3 a13 t68 h_15 fun u_3 h_16 =>
  pLoadN 3 h_16 a13 fun t71 =>
  pLoadN 3 h_16 a13 fun t75 =>
  (callV P end0 [t71].toArray h_16 fun t72 h_17 =>
  (pLoadN 3 h_17 a13 fun t75_1 =>
  t75_1 = t75) ∧
  ((callV P end0 [t75].toArray h_17 fun t76 h_18 =>
  pIdx 1 rows8 t76 fun t77 =>
  pLoad h_18 t77 fun t78 =>
  pBuildSlice T_int (zerosL [(.int .i64 0)] 1) [(0, 1, t64)] 1 h_18 fun t80 h_19 =>
  pAppend T_int 1 8 [(.int .i64 0)] t78 t80 h_19 fun t81 h_20 =>
  pIdx 1 rows8 t72 fun t82 =>
  pStore 1 t82 t81 h_20 fun u_4 h_21 =>
  J_1 () h_21) ∧
  (pBuildSlice T_int (zerosL [(.int .i64 0)] 1) [(0, 1, t64)] 1 h_17 fun t80_1 h_22 =>
  callV P end0 [t75].toArray h_22 fun t76_1 h_23 =>
  pIdx 1 rows8 t76_1 fun t77_1 =>
  pLoad h_23 t77_1 fun t78_1 =>
  pAppend T_int 1 8 [(.int .i64 0)] t78_1 t80_1 h_23 fun t81_1 h_24 =>
  pIdx 1 rows8 t72 fun t82_1 =>
  pStore 1 t82_1 t81_1 h_24 fun u_5 h_25 =>
  J_1 () h_25))) ∧
  (pBuildSlice T_int (zerosL [(.int .i64 0)] 1) [(0, 1, t64)] 1 h_16 fun t80_2 h_26 =>
  callV P end0 [t71].toArray h_26 fun t72_1 h_27 =>
  (pLoadN 3 h_27 a13 fun t75_2 =>
  t75_2 = t75) ∧
  (callV P end0 [t75].toArray h_27 fun t76_2 h_28 =>
  pIdx 1 rows8 t76_2 fun t77_2 =>
  pLoad h_28 t77_2 fun t78_2 =>
  pAppend T_int 1 8 [(.int .i64 0)] t78_2 t80_2 h_28 fun t81_2 h_29 =>
  pIdx 1 rows8 t72_1 fun t82_2 =>
  pStore 1 t82_2 t81_2 h_29 fun u_6 h_30 =>
  J_1 () h_30)))
  (fun x hh => sh_net_of_1_C5 P t64 Z_2 hh))
  (K rows8 h_14)

def sh_net_of_1_L3 (P : Program) (t41 t16 all7 rows8 t1 end0 : Value) (K : Value → Heap → Prop) (at9 t42 : Value) (h_12 : Heap) (Z_1 : Value → Value → Heap → Prop) : Prop :=
  pBin .lss t42 t41 fun t43 =>
  ifV t43
  (pIdx 1 t16 t42 fun t45 =>
  pLoad h_12 t45 fun t46 =>
  pBin .add at9 t46 fun t54 =>
  pSlice 1 all7 (some at9) (some at9) (some t54) fun t55 =>
  pIdx 1 rows8 t42 fun t56 =>
  pStore 1 t56 t55 h_12 fun u_2 h_13 =>
  pBin .add at9 t46 fun t59 =>
  pBin .add t42 (.int .i64 1) fun t60 =>
  Z_1 t59 t60 h_13)
  (pField 3 t1 fun t61 =>
  pLoad h_12 t61 fun t62 =>
  pLen t62 fun t63 =>
  LoopH (σ := Vals [64]) (fun x hh ZZ => sh_net_of_1_L4 P t63 t62 end0 rows8 K x.1 hh (fun a0 hz => ZZ (a0, ()) hz)) ((.int .i64 0), ()) h_12)

def sh_net_of_1_C2 (P : Program) (t16 t1 end0 : Value) (K : Value → Heap → Prop) (all7 rows8 : Value) (h_11 : Heap) : Prop :=
  pLen t16 fun t41 =>
  LoopH (σ := Vals [9, 42]) (fun x hh ZZ => sh_net_of_1_L3 P t41 t16 all7 rows8 t1 end0 K x.1 x.2.1 hh (fun a0 a1 hz => ZZ (a0, (a1, ())) hz)) ((.int .i64 0), ((.int .i64 0), ())) h_11

def sh_net_of_1_L1 (P : Program) (t19 t18 end0 t16 t1 : Value) (K : Value → Heap → Prop) (t20 : Value) (h_2 : Heap) (Z : Value → Heap → Prop) : Prop :=
  pBin .lss t20 t19 fun t21 =>
  ifV t21
  (pIdx 3 t18 t20 fun t22 =>
  pLoadN 3 h_2 t22 fun t23 =>
  pBox T_api_Arc (.agg #[(.int .i64 0), (.int .i64 0), (.int .i64 0)]) h_2 fun a6 h_3 =>
  pStore 3 a6 t23 h_3 fun u h_4 =>
  pLoadN 3 h_4 a6 fun t26 =>
  callV P end0 [t26].toArray h_4 fun t27 h_5 =>
  pIdx 1 t16 t27 fun t28 =>
  pLoad h_5 t28 fun t29 =>
  pBin .add t29 (.int .i64 1) fun t30 =>
  pIdx 1 t16 t27 fun t31 =>
  pStore 1 t31 t30 h_5 fun u_1 h_6 =>
  pBin .add t20 (.int .i64 1) fun t32 =>
  Z t32 h_6)
  (cutP (σ := Vals [7, 8]) (fun J =>
  pField 3 t1 fun t33 =>
  pLoad h_2 t33 fun t34 =>
  pLen t34 fun t35 =>
  pField 0 t1 fun t37 =>
  pLoad h_2 t37 fun t38 =>
  (pMakeSlice T_int 8 [(.int .i64 0)] t35 t35 h_2 fun t36 h_7 =>
  pMakeSlice T_sl_int 24 [(.slice none 0 0)] t38 t38 h_7 fun t39 h_8 =>
  J (t36, (t39, ())) h_8) ∧
  (pMakeSlice T_sl_int 24 [(.slice none 0 0)] t38 t38 h_2 fun t39_1 h_9 =>
  pMakeSlice T_int 8 [(.int .i64 0)] t35 t35 h_9 fun t36_1 h_10 =>
  J (t36_1, (t39_1, ())) h_10))
  (fun x hh => sh_net_of_1_C2 P t16 t1 end0 K x.1 x.2.1 hh))

def sh_net_of_1 (P : Program) (end0 t1 : Value) (h : Heap) (K : Value → Heap → Prop) : Prop :=
  pField 0 t1 fun t14 =>
  pLoad h t14 fun t15 =>
  pMakeSlice T_int 8 [(.int .i64 0)] t15 t15 h fun t16 h_1 =>
  pField 3 t1 fun t17 =>
  pLoad h_1 t17 fun t18 =>
  pLen t18 fun t19 =>
  LoopH (σ := Vals [20]) (fun x hh ZZ => sh_net_of_1_L1 P t19 t18 end0 t16 t1 K x.1 hh (fun a0 hz => ZZ (a0, ()) hz)) ((.int .i64 0), ()) h_1

set_option maxRecDepth 100000 in
theorem lk_net_of_1 (end0 t1 : Value) {h : Heap} {K : Value → Heap → Prop} (H : sh_net_of_1 Tryz.prog end0 t1 h K) : CallsH Tryz.prog F_net_of_1 [end0, t1].toArray h K :=
  callsH_of (ann := (annG (Tryz.f49.body.getD .skip) 0 [(4, [20]), (9, [7, 8]), (13, [9, 42]), (21, [64]), (24, [])]).1) (c := Tryz.f49.body.getD .skip) Tryz.func49 (by kernel_rfl) (by kernel_rfl) (by kernel_rfl) (of_decide_eq_true (by kernel_rfl))
    (Eq.mpr (by kernel_rfl) H)

/-! milestone/net.of$2 -/

def sh_net_of_2 (P : Program) (a0 : Value) (h : Heap) (K : Value → Heap → Prop) : Prop :=
  pBox T_api_Arc a0 h fun a1 h_1 =>
  pField 0 a1 fun t3 =>
  pLoad h_1 t3 fun t4 =>
  K t4 h_1

set_option maxRecDepth 100000 in
theorem lk_net_of_2 (a0 : Value) {h : Heap} {K : Value → Heap → Prop} (H : sh_net_of_2 Tryz.prog a0 h K) : CallsH Tryz.prog F_net_of_2 [a0].toArray h K :=
  callsH_of (ann := (annG (Tryz.f50.body.getD .skip) 0 []).1) (c := Tryz.f50.body.getD .skip) Tryz.func50 (by kernel_rfl) (by kernel_rfl) (by kernel_rfl) (of_decide_eq_true (by kernel_rfl))
    (Eq.mpr (by kernel_rfl) H)

/-! milestone/net.of$3 -/

def sh_net_of_3 (P : Program) (a0 : Value) (h : Heap) (K : Value → Heap → Prop) : Prop :=
  pBox T_api_Arc a0 h fun a1 h_1 =>
  pField 1 a1 fun t3 =>
  pLoad h_1 t3 fun t4 =>
  K t4 h_1

set_option maxRecDepth 100000 in
theorem lk_net_of_3 (a0 : Value) {h : Heap} {K : Value → Heap → Prop} (H : sh_net_of_3 Tryz.prog a0 h K) : CallsH Tryz.prog F_net_of_3 [a0].toArray h K :=
  callsH_of (ann := (annG (Tryz.f51.body.getD .skip) 0 []).1) (c := Tryz.f51.body.getD .skip) Tryz.func51 (by kernel_rfl) (by kernel_rfl) (by kernel_rfl) (of_decide_eq_true (by kernel_rfl))
    (Eq.mpr (by kernel_rfl) H)

/-! slices.Clone[[]int64,int64] -/

def sh_slices_Clone_sl_int64_int64 (P : Program) (s0 : Value) (h : Heap) (K : Value → Heap → Prop) : Prop :=
  pEq false .slice s0 (.slice none 0 0) fun t4 =>
  ifV t4
  (K (.slice none 0 0) h)
  (pBuildSlice T_int64 (zerosL [(.int .i64 0)] 0) [] 0 h fun t5 h_1 =>
  pAppend T_int64 1 8 [(.int .i64 0)] t5 s0 h_1 fun t7 h_2 =>
  K t7 h_2)

set_option maxRecDepth 100000 in
theorem lk_slices_Clone_sl_int64_int64 (s0 : Value) {h : Heap} {K : Value → Heap → Prop} (H : sh_slices_Clone_sl_int64_int64 Tryz.prog s0 h K) : CallsH Tryz.prog F_slices_Clone_sl_int64_int64 [s0].toArray h K :=
  callsH_of (ann := (annG (Tryz.f52.body.getD .skip) 0 []).1) (c := Tryz.f52.body.getD .skip) Tryz.func52 (by kernel_rfl) (by kernel_rfl) (by kernel_rfl) (of_decide_eq_true (by kernel_rfl))
    (Eq.mpr (by kernel_rfl) H)

/-! slices.Clone[[]milestone/api.Arc,milestone/api.Arc] -/

def sh_slices_Clone_sl_api_Arc_api_Arc (P : Program) (s0 : Value) (h : Heap) (K : Value → Heap → Prop) : Prop :=
  pEq false .slice s0 (.slice none 0 0) fun t4 =>
  ifV t4
  (K (.slice none 0 0) h)
  (pBuildSlice T_api_Arc (zerosL [(.int .i64 0), (.int .i64 0), (.int .i64 0)] 0) [] 0 h fun t5 h_1 =>
  pAppend T_api_Arc 3 24 [(.int .i64 0), (.int .i64 0), (.int .i64 0)] t5 s0 h_1 fun t7 h_2 =>
  K t7 h_2)

set_option maxRecDepth 100000 in
theorem lk_slices_Clone_sl_api_Arc_api_Arc (s0 : Value) {h : Heap} {K : Value → Heap → Prop} (H : sh_slices_Clone_sl_api_Arc_api_Arc Tryz.prog s0 h K) : CallsH Tryz.prog F_slices_Clone_sl_api_Arc_api_Arc [s0].toArray h K :=
  callsH_of (ann := (annG (Tryz.f53.body.getD .skip) 0 []).1) (c := Tryz.f53.body.getD .skip) Tryz.func53 (by kernel_rfl) (by kernel_rfl) (by kernel_rfl) (of_decide_eq_true (by kernel_rfl))
    (Eq.mpr (by kernel_rfl) H)

/-! milestone/split.directions$1 -/

def sh_split_directions_1 (P : Program) (x0 t1 : Value) (h : Heap) (K : Value → Heap → Prop) : Prop :=
  K x0 h

set_option maxRecDepth 100000 in
theorem lk_split_directions_1 (x0 t1 : Value) {h : Heap} {K : Value → Heap → Prop} (H : sh_split_directions_1 Tryz.prog x0 t1 h K) : CallsH Tryz.prog F_split_directions_1 [x0, t1].toArray h K :=
  callsH_of (ann := (annG (Tryz.f54.body.getD .skip) 0 []).1) (c := Tryz.f54.body.getD .skip) Tryz.func54 (by kernel_rfl) (by kernel_rfl) (by kernel_rfl) (of_decide_eq_true (by kernel_rfl))
    (Eq.mpr (by kernel_rfl) H)

/-! milestone/split.directions$2 -/

def sh_split_directions_2 (P : Program) (t0 y1 : Value) (h : Heap) (K : Value → Heap → Prop) : Prop :=
  K y1 h

set_option maxRecDepth 100000 in
theorem lk_split_directions_2 (t0 y1 : Value) {h : Heap} {K : Value → Heap → Prop} (H : sh_split_directions_2 Tryz.prog t0 y1 h K) : CallsH Tryz.prog F_split_directions_2 [t0, y1].toArray h K :=
  callsH_of (ann := (annG (Tryz.f55.body.getD .skip) 0 []).1) (c := Tryz.f55.body.getD .skip) Tryz.func55 (by kernel_rfl) (by kernel_rfl) (by kernel_rfl) (of_decide_eq_true (by kernel_rfl))
    (Eq.mpr (by kernel_rfl) H)

/-! milestone/split.directions$3 -/

def sh_split_directions_3 (P : Program) (x0 y1 : Value) (h : Heap) (K : Value → Heap → Prop) : Prop :=
  pBin .add x0 y1 fun t7 =>
  K t7 h

set_option maxRecDepth 100000 in
theorem lk_split_directions_3 (x0 y1 : Value) {h : Heap} {K : Value → Heap → Prop} (H : sh_split_directions_3 Tryz.prog x0 y1 h K) : CallsH Tryz.prog F_split_directions_3 [x0, y1].toArray h K :=
  callsH_of (ann := (annG (Tryz.f56.body.getD .skip) 0 []).1) (c := Tryz.f56.body.getD .skip) Tryz.func56 (by kernel_rfl) (by kernel_rfl) (by kernel_rfl) (of_decide_eq_true (by kernel_rfl))
    (Eq.mpr (by kernel_rfl) H)

/-! milestone/split.directions$4 -/

def sh_split_directions_4 (P : Program) (x0 y1 : Value) (h : Heap) (K : Value → Heap → Prop) : Prop :=
  pBin .sub x0 y1 fun t7 =>
  K t7 h

set_option maxRecDepth 100000 in
theorem lk_split_directions_4 (x0 y1 : Value) {h : Heap} {K : Value → Heap → Prop} (H : sh_split_directions_4 Tryz.prog x0 y1 h K) : CallsH Tryz.prog F_split_directions_4 [x0, y1].toArray h K :=
  callsH_of (ann := (annG (Tryz.f57.body.getD .skip) 0 []).1) (c := Tryz.f57.body.getD .skip) Tryz.func57 (by kernel_rfl) (by kernel_rfl) (by kernel_rfl) (of_decide_eq_true (by kernel_rfl))
    (Eq.mpr (by kernel_rfl) H)

/-! (*milestone/split.parter).along$1 -/

def sh_split_parter_along_1 (P : Program) (v0 t1 t2 : Value) (h : Heap) (K : Value → Heap → Prop) : Prop :=
  pLoad h t1 fun t9 =>
  pNil t9 fun t10 =>
  pField 0 t10 fun t11 =>
  pLoad h t11 fun t12 =>
  callS P F_net_Net_Place [t12, v0] h fun t14 h_1 =>
  pExt t14 0 fun t15 =>
  pExt t14 1 fun t16 =>
  pExt t14 2 fun t17 =>
  pLoad h_1 t2 fun t18 =>
  callV P t18 [t15, t16].toArray h_1 fun t21 h_2 =>
  K t21 h_2

set_option maxRecDepth 100000 in
theorem lk_split_parter_along_1 (v0 t1 t2 : Value) {h : Heap} {K : Value → Heap → Prop} (H : sh_split_parter_along_1 Tryz.prog v0 t1 t2 h K) : CallsH Tryz.prog F_split_parter_along_1 [v0, t1, t2].toArray h K :=
  callsH_of (ann := (annG (Tryz.f58.body.getD .skip) 0 []).1) (c := Tryz.f58.body.getD .skip) Tryz.func58 (by kernel_rfl) (by kernel_rfl) (by kernel_rfl) (of_decide_eq_true (by kernel_rfl))
    (Eq.mpr (by kernel_rfl) H)

/-! (*milestone/net.Net).Place -/

def sh_net_Net_Place (P : Program) (n0 v1 : Value) (h : Heap) (K : Value → Heap → Prop) : Prop :=
  pEq false .ptr n0 (.pointer none) fun t8 =>
  ifV t8
  (K (.tuple #[(.int .i64 0), (.int .i64 0), (.bool false)]) h)
  (pNil n0 fun t11 =>
  pField 0 t11 fun t12 =>
  pField 1 t12 fun t13 =>
  pLoad h t13 fun t14 =>
  callS P F_net_one_int64 [t14, v1] h fun t16 h_1 =>
  pExt t16 0 fun t17 =>
  pExt t16 1 fun t18 =>
  pNil n0 fun t21 =>
  pField 0 t21 fun t22 =>
  pField 2 t22 fun t23 =>
  pLoad h_1 t23 fun t24 =>
  callS P F_net_one_int64 [t24, v1] h_1 fun t26 h_2 =>
  pExt t26 0 fun t27 =>
  pExt t26 1 fun t28 =>
  K (.tuple #[t17, t27, t28]) h_2)

set_option maxRecDepth 100000 in
theorem lk_net_Net_Place (n0 v1 : Value) {h : Heap} {K : Value → Heap → Prop} (H : sh_net_Net_Place Tryz.prog n0 v1 h K) : CallsH Tryz.prog F_net_Net_Place [n0, v1].toArray h K :=
  callsH_of (ann := (annG (Tryz.f59.body.getD .skip) 0 []).1) (c := Tryz.f59.body.getD .skip) Tryz.func59 (by kernel_rfl) (by kernel_rfl) (by kernel_rfl) (of_decide_eq_true (by kernel_rfl))
    (Eq.mpr (by kernel_rfl) H)

/-! slices.Collect[int] -/

def sh_slices_Collect_int (P : Program) (seq0 : Value) (h : Heap) (K : Value → Heap → Prop) : Prop :=
  callS P F_slices_AppendSeq_sl_int_int [(.slice none 0 0), seq0] h fun t4 h_1 =>
  K t4 h_1

set_option maxRecDepth 100000 in
theorem lk_slices_Collect_int (seq0 : Value) {h : Heap} {K : Value → Heap → Prop} (H : sh_slices_Collect_int Tryz.prog seq0 h K) : CallsH Tryz.prog F_slices_Collect_int [seq0].toArray h K :=
  callsH_of (ann := (annG (Tryz.f60.body.getD .skip) 0 []).1) (c := Tryz.f60.body.getD .skip) Tryz.func60 (by kernel_rfl) (by kernel_rfl) (by kernel_rfl) (of_decide_eq_true (by kernel_rfl))
    (Eq.mpr (by kernel_rfl) H)

/-! slices.SortFunc[[]int,int] -/

def sh_slices_SortFunc_sl_int_int (P : Program) (x0 cmp1 : Value) (h : Heap) (K : Value → Heap → Prop) : Prop :=
  pLen x0 fun t6 =>
  pConv .u64 t6 fun t10 =>
  callS P F_math_bits_Len [t10] h fun t11 h_1 =>
  callS P F_slices_pdqsortCmpFunc_int [x0, (.int .i64 0), t6, t11, cmp1] h_1 fun t13 h_2 =>
  K (.tuple #[]) h_2

set_option maxRecDepth 100000 in
theorem lk_slices_SortFunc_sl_int_int (x0 cmp1 : Value) {h : Heap} {K : Value → Heap → Prop} (H : sh_slices_SortFunc_sl_int_int Tryz.prog x0 cmp1 h K) : CallsH Tryz.prog F_slices_SortFunc_sl_int_int [x0, cmp1].toArray h K :=
  callsH_of (ann := (annG (Tryz.f61.body.getD .skip) 0 []).1) (c := Tryz.f61.body.getD .skip) Tryz.func61 (by kernel_rfl) (by kernel_rfl) (by kernel_rfl) (of_decide_eq_true (by kernel_rfl))
    (Eq.mpr (by kernel_rfl) H)

/-! slices.Values[[]int,int]$1 -/

def sh_slices_Values_sl_int_int_1_L1 (P : Program) (t6 t5 yield0 : Value) (K : Value → Heap → Prop) (t7 : Value) (h_1 : Heap) (Z : Value → Heap → Prop) : Prop :=
  pBin .lss t7 t6 fun t8 =>
  ifV t8
  (pIdx 1 t5 t7 fun t9 =>
  pLoad h_1 t9 fun t10 =>
  callV P yield0 [t10].toArray h_1 fun t13 h_2 =>
  pUn .not t13 fun t14 =>
  ifV t14
  (K (.tuple #[]) h_2)
  (pBin .add t7 (.int .i64 1) fun t15 =>
  Z t15 h_2))
  (K (.tuple #[]) h_1)

def sh_slices_Values_sl_int_int_1 (P : Program) (yield0 t1 : Value) (h : Heap) (K : Value → Heap → Prop) : Prop :=
  pLoad h t1 fun t5 =>
  pLen t5 fun t6 =>
  LoopH (σ := Vals [7]) (fun x hh ZZ => sh_slices_Values_sl_int_int_1_L1 P t6 t5 yield0 K x.1 hh (fun a0 hz => ZZ (a0, ()) hz)) ((.int .i64 0), ()) h

set_option maxRecDepth 100000 in
theorem lk_slices_Values_sl_int_int_1 (yield0 t1 : Value) {h : Heap} {K : Value → Heap → Prop} (H : sh_slices_Values_sl_int_int_1 Tryz.prog yield0 t1 h K) : CallsH Tryz.prog F_slices_Values_sl_int_int_1 [yield0, t1].toArray h K :=
  callsH_of (ann := (annG (Tryz.f62.body.getD .skip) 0 [(1, [7])]).1) (c := Tryz.f62.body.getD .skip) Tryz.func62 (by kernel_rfl) (by kernel_rfl) (by kernel_rfl) (of_decide_eq_true (by kernel_rfl))
    (Eq.mpr (by kernel_rfl) H)

/-! cmp.isNaN[int64] -/

def sh_cmp_isNaN_int64 (P : Program) (x0 : Value) (h : Heap) (K : Value → Heap → Prop) : Prop :=
  pBin .neq x0 x0 fun t5 =>
  K t5 h

set_option maxRecDepth 100000 in
theorem lk_cmp_isNaN_int64 (x0 : Value) {h : Heap} {K : Value → Heap → Prop} (H : sh_cmp_isNaN_int64 Tryz.prog x0 h K) : CallsH Tryz.prog F_cmp_isNaN_int64 [x0].toArray h K :=
  callsH_of (ann := (annG (Tryz.f63.body.getD .skip) 0 []).1) (c := Tryz.f63.body.getD .skip) Tryz.func63 (by kernel_rfl) (by kernel_rfl) (by kernel_rfl) (of_decide_eq_true (by kernel_rfl))
    (Eq.mpr (by kernel_rfl) H)

/-! cmp.isNaN[int] -/

def sh_cmp_isNaN_int (P : Program) (x0 : Value) (h : Heap) (K : Value → Heap → Prop) : Prop :=
  pBin .neq x0 x0 fun t5 =>
  K t5 h

set_option maxRecDepth 100000 in
theorem lk_cmp_isNaN_int (x0 : Value) {h : Heap} {K : Value → Heap → Prop} (H : sh_cmp_isNaN_int Tryz.prog x0 h K) : CallsH Tryz.prog F_cmp_isNaN_int [x0].toArray h K :=
  callsH_of (ann := (annG (Tryz.f64.body.getD .skip) 0 []).1) (c := Tryz.f64.body.getD .skip) Tryz.func64 (by kernel_rfl) (by kernel_rfl) (by kernel_rfl) (of_decide_eq_true (by kernel_rfl))
    (Eq.mpr (by kernel_rfl) H)

/-! milestone/graph.look$1 -/

def sh_graph_look_1 (P : Program) (t0 : Value) (h : Heap) (K : Value → Heap → Prop) : Prop :=
  pField 0 t0 fun t2 =>
  pLoad h t2 fun t3 =>
  callS P F_graph_one [(.int .i64 5), t3, (.int .i64 1), (.int .i64 16777217)] h fun t4 h_1 =>
  K t4 h_1

set_option maxRecDepth 100000 in
theorem lk_graph_look_1 (t0 : Value) {h : Heap} {K : Value → Heap → Prop} (H : sh_graph_look_1 Tryz.prog t0 h K) : CallsH Tryz.prog F_graph_look_1 [t0].toArray h K :=
  callsH_of (ann := (annG (Tryz.f65.body.getD .skip) 0 []).1) (c := Tryz.f65.body.getD .skip) Tryz.func65 (by kernel_rfl) (by kernel_rfl) (by kernel_rfl) (of_decide_eq_true (by kernel_rfl))
    (Eq.mpr (by kernel_rfl) H)

/-! milestone/graph.one -/

def sh_graph_one (P : Program) (code0 n1 least2 end3 : Value) (h : Heap) (K : Value → Heap → Prop) : Prop :=
  pBuild [(.int .i64 0), (.int .i64 0), (.int .i64 0), (.int .i64 0), (.int .i64 0), (.int .i64 0)] [(0, 1, (.int .i64 0)), (1, 1, (.int .i64 0)), (2, 1, code0), (3, 1, n1), (4, 1, least2), (5, 1, end3)] fun t13 =>
  pBuildSlice T_graph_place (zerosL [(.int .i64 0), (.int .i64 0), (.int .i64 0), (.int .i64 0), (.int .i64 0), (.int .i64 0)] 1) [(0, 6, t13)] 1 h fun t14 h_1 =>
  callS P F_slices_Values_sl_graph_place_graph_place [t14] h_1 fun t15 h_2 =>
  K t15 h_2

set_option maxRecDepth 100000 in
theorem lk_graph_one (code0 n1 least2 end3 : Value) {h : Heap} {K : Value → Heap → Prop} (H : sh_graph_one Tryz.prog code0 n1 least2 end3 h K) : CallsH Tryz.prog F_graph_one [code0, n1, least2, end3].toArray h K :=
  callsH_of (ann := (annG (Tryz.f66.body.getD .skip) 0 []).1) (c := Tryz.f66.body.getD .skip) Tryz.func66 (by kernel_rfl) (by kernel_rfl) (by kernel_rfl) (of_decide_eq_true (by kernel_rfl))
    (Eq.mpr (by kernel_rfl) H)

/-! milestone/graph.look$2 -/

def sh_graph_look_2 (P : Program) (t0 : Value) (h : Heap) (K : Value → Heap → Prop) : Prop :=
  pLoadN 4 h t0 fun t2 =>
  callS P F_graph_shapes [t2] h fun t3 h_1 =>
  K t3 h_1

set_option maxRecDepth 100000 in
theorem lk_graph_look_2 (t0 : Value) {h : Heap} {K : Value → Heap → Prop} (H : sh_graph_look_2 Tryz.prog t0 h K) : CallsH Tryz.prog F_graph_look_2 [t0].toArray h K :=
  callsH_of (ann := (annG (Tryz.f67.body.getD .skip) 0 []).1) (c := Tryz.f67.body.getD .skip) Tryz.func67 (by kernel_rfl) (by kernel_rfl) (by kernel_rfl) (of_decide_eq_true (by kernel_rfl))
    (Eq.mpr (by kernel_rfl) H)

/-! milestone/graph.shapes -/

def sh_graph_shapes (P : Program) (r0 : Value) (h : Heap) (K : Value → Heap → Prop) : Prop :=
  pBox T_api_Raw r0 h fun r1 h_1 =>
  pField 0 r1 fun t4 =>
  pLoad h_1 t4 fun t5 =>
  pField 1 r1 fun t6 =>
  pLoad h_1 t6 fun t7 =>
  pLen t7 fun t8 =>
  pBin .add t5 (.int .i64 1) fun t11 =>
  pBuild [(.int .i64 0), (.int .i64 0), (.int .i64 0), (.int .i64 0), (.int .i64 0), (.int .i64 0)] [(0, 1, (.int .i64 0)), (1, 1, (.int .i64 0)), (2, 1, (.int .i64 6)), (3, 1, t8), (4, 1, t5), (5, 1, t11)] fun t12 =>
  pField 2 r1 fun t13 =>
  pLoad h_1 t13 fun t14 =>
  pLen t14 fun t15 =>
  pBin .add t5 (.int .i64 1) fun t18 =>
  pBuild [(.int .i64 0), (.int .i64 0), (.int .i64 0), (.int .i64 0), (.int .i64 0), (.int .i64 0)] [(0, 1, (.int .i64 0)), (1, 1, (.int .i64 1)), (2, 1, (.int .i64 6)), (3, 1, t15), (4, 1, t5), (5, 1, t18)] fun t19 =>
  pBuildSlice T_graph_place (zerosL [(.int .i64 0), (.int .i64 0), (.int .i64 0), (.int .i64 0), (.int .i64 0), (.int .i64 0)] 2) [(0, 6, t12), (6, 6, t19)] 2 h_1 fun t20 h_2 =>
  callS P F_slices_Values_sl_graph_place_graph_place [t20] h_2 fun t21 h_3 =>
  K t21 h_3

set_option maxRecDepth 100000 in
theorem lk_graph_shapes (r0 : Value) {h : Heap} {K : Value → Heap → Prop} (H : sh_graph_shapes Tryz.prog r0 h K) : CallsH Tryz.prog F_graph_shapes [r0].toArray h K :=
  callsH_of (ann := (annG (Tryz.f68.body.getD .skip) 0 []).1) (c := Tryz.f68.body.getD .skip) Tryz.func68 (by kernel_rfl) (by kernel_rfl) (by kernel_rfl) (of_decide_eq_true (by kernel_rfl))
    (Eq.mpr (by kernel_rfl) H)

/-! milestone/graph.look$3 -/

def sh_graph_look_3 (P : Program) (t0 : Value) (h : Heap) (K : Value → Heap → Prop) : Prop :=
  pLoadN 4 h t0 fun t2 =>
  callS P F_graph_nodes [t2] h fun t3 h_1 =>
  K t3 h_1

set_option maxRecDepth 100000 in
theorem lk_graph_look_3 (t0 : Value) {h : Heap} {K : Value → Heap → Prop} (H : sh_graph_look_3 Tryz.prog t0 h K) : CallsH Tryz.prog F_graph_look_3 [t0].toArray h K :=
  callsH_of (ann := (annG (Tryz.f69.body.getD .skip) 0 []).1) (c := Tryz.f69.body.getD .skip) Tryz.func69 (by kernel_rfl) (by kernel_rfl) (by kernel_rfl) (of_decide_eq_true (by kernel_rfl))
    (Eq.mpr (by kernel_rfl) H)

/-! milestone/graph.nodes -/

def sh_graph_nodes (P : Program) (r0 : Value) (h : Heap) (K : Value → Heap → Prop) : Prop :=
  pBox T_api_Raw r0 h fun r1 h_1 =>
  K (.func (.func F_graph_nodes_1) #[] #[r1]) h_1

set_option maxRecDepth 100000 in
theorem lk_graph_nodes (r0 : Value) {h : Heap} {K : Value → Heap → Prop} (H : sh_graph_nodes Tryz.prog r0 h K) : CallsH Tryz.prog F_graph_nodes [r0].toArray h K :=
  callsH_of (ann := (annG (Tryz.f70.body.getD .skip) 0 []).1) (c := Tryz.f70.body.getD .skip) Tryz.func70 (by kernel_rfl) (by kernel_rfl) (by kernel_rfl) (of_decide_eq_true (by kernel_rfl))
    (Eq.mpr (by kernel_rfl) H)

/-! milestone/graph.look$4 -/

def sh_graph_look_4 (P : Program) (t0 : Value) (h : Heap) (K : Value → Heap → Prop) : Prop :=
  pField 3 t0 fun t2 =>
  pLoad h t2 fun t3 =>
  pLen t3 fun t4 =>
  callS P F_graph_one [(.int .i64 8), t4, (.int .i64 0), (.int .i64 67108865)] h fun t5 h_1 =>
  K t5 h_1

set_option maxRecDepth 100000 in
theorem lk_graph_look_4 (t0 : Value) {h : Heap} {K : Value → Heap → Prop} (H : sh_graph_look_4 Tryz.prog t0 h K) : CallsH Tryz.prog F_graph_look_4 [t0].toArray h K :=
  callsH_of (ann := (annG (Tryz.f71.body.getD .skip) 0 []).1) (c := Tryz.f71.body.getD .skip) Tryz.func71 (by kernel_rfl) (by kernel_rfl) (by kernel_rfl) (of_decide_eq_true (by kernel_rfl))
    (Eq.mpr (by kernel_rfl) H)

/-! milestone/graph.look$5 -/

def sh_graph_look_5 (P : Program) (t0 : Value) (h : Heap) (K : Value → Heap → Prop) : Prop :=
  pLoadN 4 h t0 fun t2 =>
  callS P F_graph_arcs [t2] h fun t3 h_1 =>
  K t3 h_1

set_option maxRecDepth 100000 in
theorem lk_graph_look_5 (t0 : Value) {h : Heap} {K : Value → Heap → Prop} (H : sh_graph_look_5 Tryz.prog t0 h K) : CallsH Tryz.prog F_graph_look_5 [t0].toArray h K :=
  callsH_of (ann := (annG (Tryz.f72.body.getD .skip) 0 []).1) (c := Tryz.f72.body.getD .skip) Tryz.func72 (by kernel_rfl) (by kernel_rfl) (by kernel_rfl) (of_decide_eq_true (by kernel_rfl))
    (Eq.mpr (by kernel_rfl) H)

/-! milestone/graph.arcs -/

def sh_graph_arcs (P : Program) (r0 : Value) (h : Heap) (K : Value → Heap → Prop) : Prop :=
  pBox T_api_Raw r0 h fun r1 h_1 =>
  K (.func (.func F_graph_arcs_1) #[] #[r1]) h_1

set_option maxRecDepth 100000 in
theorem lk_graph_arcs (r0 : Value) {h : Heap} {K : Value → Heap → Prop} (H : sh_graph_arcs Tryz.prog r0 h K) : CallsH Tryz.prog F_graph_arcs [r0].toArray h K :=
  callsH_of (ann := (annG (Tryz.f73.body.getD .skip) 0 []).1) (c := Tryz.f73.body.getD .skip) Tryz.func73 (by kernel_rfl) (by kernel_rfl) (by kernel_rfl) (of_decide_eq_true (by kernel_rfl))
    (Eq.mpr (by kernel_rfl) H)

/-! milestone/net.one[int64] -/

def sh_net_one_int64_k1 (P : Program) (K : Value → Heap → Prop) (h_1 : Heap) : Prop :=
  K (.tuple #[(.int .i64 0), (.bool false)]) h_1

def sh_net_one_int64 (P : Program) (l0 i1 : Value) (h : Heap) (K : Value → Heap → Prop) : Prop :=
  pBin .lss i1 (.int .i64 0) fun t7 =>
  ifV t7
  (sh_net_one_int64_k1 P K h)
  (pLen l0 fun t11 =>
  pBin .geq i1 t11 fun t12 =>
  ifV t12
  (sh_net_one_int64_k1 P K h)
  (pIdx 1 l0 i1 fun t17 =>
  pLoad h t17 fun t18 =>
  K (.tuple #[t18, (.bool true)]) h))

set_option maxRecDepth 100000 in
theorem lk_net_one_int64 (l0 i1 : Value) {h : Heap} {K : Value → Heap → Prop} (H : sh_net_one_int64 Tryz.prog l0 i1 h K) : CallsH Tryz.prog F_net_one_int64 [l0, i1].toArray h K :=
  callsH_of (ann := (annG (Tryz.f78.body.getD .skip) 0 []).1) (c := Tryz.f78.body.getD .skip) Tryz.func78 (by kernel_rfl) (by kernel_rfl) (by kernel_rfl) (of_decide_eq_true (by kernel_rfl))
    (Eq.mpr (by kernel_rfl) H)

/-! slices.AppendSeq[[]int,int] -/

def sh_slices_AppendSeq_sl_int_int_B1 (P : Program) (h_1 : Heap) (s2 : Value) (L : Loop) (t7 : Value) (h_2 : Heap) (R : Exit → Heap → Prop) : Prop :=
  beginR (h_1.size + 1) L h_2 fun h_3 =>
  pLoad h_3 s2 fun t8 =>
  pBuildSlice T_int (zerosL [(.int .i64 0)] 1) [(0, 1, t7)] 1 h_3 fun t10 h_4 =>
  pAppend T_int 1 8 [(.int .i64 0)] t8 t10 h_4 fun t11 h_5 =>
  pStore 1 s2 t11 h_5 fun u h_6 =>
  R .normal h_6

def sh_slices_AppendSeq_sl_int_int (P : Program) (s0 seq1 : Value) (h : Heap) (K : Value → Heap → Prop) : Prop :=
  pBox T_sl_int s0 h fun s2 h_1 =>
  rangeH P seq1 [7] (h_1.size + 1) (h_1.push (.deferred (some []))) (fun L x hh R => sh_slices_AppendSeq_sl_int_int_B1 P h_1 s2 L x.1 hh R)
  (fun h_7 => pLoad h_7 s2 fun t12 =>
  takeM (h_1.size :: []) h_7 fun h_8 =>
  K t12 h_8)
  (fun h_9 => takeM (h_1.size :: []) h_9 fun h_10 =>
  K (.slice none 0 0) h_10)
  []

set_option maxRecDepth 100000 in
theorem lk_slices_AppendSeq_sl_int_int (s0 seq1 : Value) {h : Heap} {K : Value → Heap → Prop} (H : sh_slices_AppendSeq_sl_int_int Tryz.prog s0 seq1 h K) : CallsH Tryz.prog F_slices_AppendSeq_sl_int_int [s0, seq1].toArray h K :=
  callsH_of (ann := (annG (Tryz.f79.body.getD .skip) 0 []).1) (c := Tryz.f79.body.getD .skip) Tryz.func79 (by kernel_rfl) (by kernel_rfl) (by kernel_rfl) (of_decide_eq_true (by kernel_rfl))
    (Eq.mpr (by kernel_rfl) H)

/-! slices.pdqsortCmpFunc[int] -/

def sh_slices_pdqsortCmpFunc_int_C5 (P : Program) (data0 a1_1 b2_1 pivot13 cmp4 : Value) (Z : Value → Value → Value → Value → Value → Heap → Prop) (limit3_2 wasBalanced10 wasPartitioned11 t23 t97 : Value) (h_12 : Heap) : Prop :=
  ifV t97
  (callS P F_slices_partitionEqualCmpFunc_int [data0, a1_1, b2_1, pivot13, cmp4] h_12 fun t103 h_13 =>
  Z t103 b2_1 limit3_2 wasBalanced10 wasPartitioned11 h_13)
  (callS P F_slices_partitionCmpFunc_int [data0, a1_1, b2_1, pivot13, cmp4] h_12 fun t111 h_14 =>
  pExt t111 0 fun t112 =>
  pExt t111 1 fun t113 =>
  pBin .sub t112 a1_1 fun t117 =>
  pBin .sub b2_1 t112 fun t120 =>
  pBin .quo t23 (.int .i64 8) fun t122 =>
  pBin .lss t117 t120 fun t125 =>
  ifV t125
  (pBin .geq t117 t122 fun t128 =>
  callS P F_slices_pdqsortCmpFunc_int [data0, a1_1, t112, limit3_2, cmp4] h_14 fun t134 h_15 =>
  pBin .add t112 (.int .i64 1) fun t136 =>
  Z t136 b2_1 limit3_2 t128 t113 h_15)
  (pBin .geq t120 t122 fun t139 =>
  pBin .add t112 (.int .i64 1) fun t142 =>
  callS P F_slices_pdqsortCmpFunc_int [data0, t142, b2_1, limit3_2, cmp4] h_14 fun t146 h_16 =>
  Z a1_1 t112 limit3_2 t139 t113 h_16))

def sh_slices_pdqsortCmpFunc_int_k4 (P : Program) (a1_1 data0 pivot13 cmp4 b2_1 : Value) (Z : Value → Value → Value → Value → Value → Heap → Prop) (limit3_2 wasBalanced10 wasPartitioned11 t23 : Value) (h_10 : Heap) : Prop :=
  cutP (σ := Vals [97]) (fun J =>
  pBin .gtr a1_1 (.int .i64 0) fun t82 =>
  ifV t82
  (pBin .sub a1_1 (.int .i64 1) fun t87 =>
  pIdx 1 data0 t87 fun t88 =>
  pLoad h_10 t88 fun t89 =>
  pIdx 1 data0 pivot13 fun t92 =>
  pLoad h_10 t92 fun t93 =>
  callV P cmp4 [t89, t93].toArray h_10 fun t94 h_11 =>
  pBin .lss t94 (.int .i64 0) fun t95 =>
  pUn .not t95 fun t96 =>
  J (t96, ()) h_11)
  (J ((.bool false), ()) h_10))
  (fun x hh => sh_slices_pdqsortCmpFunc_int_C5 P data0 a1_1 b2_1 pivot13 cmp4 Z limit3_2 wasBalanced10 wasPartitioned11 t23 x.1 hh)

def sh_slices_pdqsortCmpFunc_int_k3 (P : Program) (wasBalanced10 wasPartitioned11 data0 a1_1 b2_1 cmp4 : Value) (K : Value → Heap → Prop) (Z : Value → Value → Value → Value → Value → Heap → Prop) (limit3_2 t23 pivot13 hint14 : Value) (h_8 : Heap) : Prop :=
  ifV wasBalanced10
  (ifV wasPartitioned11
  (pBin .eql hint14 (.int .i64 1) fun t74 =>
  ifV t74
  (callS P F_slices_partialInsertionSortCmpFunc_int [data0, a1_1, b2_1, cmp4] h_8 fun t80 h_9 =>
  ifV t80
  (K (.tuple #[]) h_9)
  (sh_slices_pdqsortCmpFunc_int_k4 P a1_1 data0 pivot13 cmp4 b2_1 Z limit3_2 wasBalanced10 wasPartitioned11 t23 h_9))
  (sh_slices_pdqsortCmpFunc_int_k4 P a1_1 data0 pivot13 cmp4 b2_1 Z limit3_2 wasBalanced10 wasPartitioned11 t23 h_8))
  (sh_slices_pdqsortCmpFunc_int_k4 P a1_1 data0 pivot13 cmp4 b2_1 Z limit3_2 wasBalanced10 wasPartitioned11 t23 h_8))
  (sh_slices_pdqsortCmpFunc_int_k4 P a1_1 data0 pivot13 cmp4 b2_1 Z limit3_2 wasBalanced10 wasPartitioned11 t23 h_8)

def sh_slices_pdqsortCmpFunc_int_k2 (P : Program) (data0 a1_1 b2_1 cmp4 wasBalanced10 wasPartitioned11 : Value) (K : Value → Heap → Prop) (Z : Value → Value → Value → Value → Value → Heap → Prop) (t23 limit3_2 : Value) (h_5 : Heap) : Prop :=
  callS P F_slices_choosePivotCmpFunc_int [data0, a1_1, b2_1, cmp4] h_5 fun t52 h_6 =>
  pExt t52 0 fun t53 =>
  pExt t52 1 fun t54 =>
  pBin .eql t54 (.int .i64 2) fun t56 =>
  ifV t56
  (callS P F_slices_reverseRangeCmpFunc_int [data0, a1_1, b2_1, cmp4] h_6 fun t61 h_7 =>
  pBin .sub b2_1 (.int .i64 1) fun t63 =>
  pBin .sub t53 a1_1 fun t66 =>
  pBin .sub t63 t66 fun t67 =>
  sh_slices_pdqsortCmpFunc_int_k3 P wasBalanced10 wasPartitioned11 data0 a1_1 b2_1 cmp4 K Z limit3_2 t23 t67 (.int .i64 1) h_7)
  (sh_slices_pdqsortCmpFunc_int_k3 P wasBalanced10 wasPartitioned11 data0 a1_1 b2_1 cmp4 K Z limit3_2 t23 t53 t54 h_6)

def sh_slices_pdqsortCmpFunc_int_L1 (P : Program) (data0 cmp4 : Value) (K : Value → Heap → Prop) (a1_1 b2_1 limit3_1 wasBalanced10 wasPartitioned11 : Value) (h_1 : Heap) (Z : Value → Value → Value → Value → Value → Heap → Prop) : Prop :=
  pBin .sub b2_1 a1_1 fun t23 =>
  pBin .leq t23 (.int .i64 12) fun t25 =>
  ifV t25
  (callS P F_slices_insertionSortCmpFunc_int [data0, a1_1, b2_1, cmp4] h_1 fun t30 h_2 =>
  K (.tuple #[]) h_2)
  (pBin .eql limit3_1 (.int .i64 0) fun t32 =>
  ifV t32
  (callS P F_slices_heapSortCmpFunc_int [data0, a1_1, b2_1, cmp4] h_1 fun t37 h_3 =>
  K (.tuple #[]) h_3)
  (pUn .not wasBalanced10 fun t39 =>
  ifV t39
  (callS P F_slices_breakPatternsCmpFunc_int [data0, a1_1, b2_1, cmp4] h_1 fun t44 h_4 =>
  pBin .sub limit3_1 (.int .i64 1) fun t46 =>
  sh_slices_pdqsortCmpFunc_int_k2 P data0 a1_1 b2_1 cmp4 wasBalanced10 wasPartitioned11 K Z t23 t46 h_4)
  (sh_slices_pdqsortCmpFunc_int_k2 P data0 a1_1 b2_1 cmp4 wasBalanced10 wasPartitioned11 K Z t23 limit3_1 h_1)))

def sh_slices_pdqsortCmpFunc_int (P : Program) (data0 a1 b2 limit3 cmp4 : Value) (h : Heap) (K : Value → Heap → Prop) : Prop :=
  LoopH (σ := Vals [1, 2, 3, 10, 11]) (fun x hh ZZ => sh_slices_pdqsortCmpFunc_int_L1 P data0 cmp4 K x.1 x.2.1 x.2.2.1 x.2.2.2.1 x.2.2.2.2.1 hh (fun a0 a1 a2 a3 a4 hz => ZZ (a0, (a1, (a2, (a3, (a4, ()))))) hz)) (a1, (b2, (limit3, ((.bool true), ((.bool true), ()))))) h

set_option maxRecDepth 100000 in
theorem lk_slices_pdqsortCmpFunc_int (data0 a1 b2 limit3 cmp4 : Value) {h : Heap} {K : Value → Heap → Prop} (H : sh_slices_pdqsortCmpFunc_int Tryz.prog data0 a1 b2 limit3 cmp4 h K) : CallsH Tryz.prog F_slices_pdqsortCmpFunc_int [data0, a1, b2, limit3, cmp4].toArray h K :=
  callsH_of (ann := (annG (Tryz.f80.body.getD .skip) 0 [(2, [1, 2, 3, 10, 11]), (22, [97])]).1) (c := Tryz.f80.body.getD .skip) Tryz.func80 (by kernel_rfl) (by kernel_rfl) (by kernel_rfl) (of_decide_eq_true (by kernel_rfl))
    (Eq.mpr (by kernel_rfl) H)

end Go.Proofs.YtbacdjahpahcfaaGreatDoor

namespace Go.Proofs.YtbacdjahpahcfaaGreatDoor
open Go Go.Mh
set_option maxHeartbeats 0
set_option linter.unusedVariables false

/-! math/bits.Len -/

def sh_math_bits_Len (P : Program) (x0 : Value) (h : Heap) (K : Value → Heap → Prop) : Prop :=
  callS P F_math_bits_Len64 [x0] h fun t7 h_1 =>
  K t7 h_1

set_option maxRecDepth 100000 in
theorem lk_math_bits_Len (x0 : Value) {h : Heap} {K : Value → Heap → Prop} (H : sh_math_bits_Len Tryz.prog x0 h K) : CallsH Tryz.prog F_math_bits_Len [x0].toArray h K :=
  callsH_of (ann := (annG (Tryz.f81.body.getD .skip) 0 []).1) (c := Tryz.f81.body.getD .skip) Tryz.func81 (by kernel_rfl) (by kernel_rfl) (by kernel_rfl) (of_decide_eq_true (by kernel_rfl))
    (Eq.mpr (by kernel_rfl) H)

/-! slices.Values[[]milestone/graph.place,milestone/graph.place] -/

def sh_slices_Values_sl_graph_place_graph_place (P : Program) (s0 : Value) (h : Heap) (K : Value → Heap → Prop) : Prop :=
  pBox T_sl_graph_place s0 h fun s1 h_1 =>
  K (.func (.func F_slices_Values_sl_graph_place_graph_place_1) #[] #[s1]) h_1

set_option maxRecDepth 100000 in
theorem lk_slices_Values_sl_graph_place_graph_place (s0 : Value) {h : Heap} {K : Value → Heap → Prop} (H : sh_slices_Values_sl_graph_place_graph_place Tryz.prog s0 h K) : CallsH Tryz.prog F_slices_Values_sl_graph_place_graph_place [s0].toArray h K :=
  callsH_of (ann := (annG (Tryz.f82.body.getD .skip) 0 []).1) (c := Tryz.f82.body.getD .skip) Tryz.func82 (by kernel_rfl) (by kernel_rfl) (by kernel_rfl) (of_decide_eq_true (by kernel_rfl))
    (Eq.mpr (by kernel_rfl) H)

/-! milestone/graph.nodes$1 -/

def sh_graph_nodes_1_L2 (P : Program) (t23 t22 t9 yield0 : Value) (K Z : Value → Heap → Prop) (t24 : Value) (h_3 : Heap) (Z_1 : Value → Heap → Prop) : Prop :=
  pBin .lss t24 t23 fun t25 =>
  ifV t25
  (pIdx 1 t22 t24 fun t27 =>
  pLoad h_3 t27 fun t28 =>
  pBuild [(.int .i64 0), (.int .i64 0), (.int .i64 0), (.int .i64 0), (.int .i64 0), (.int .i64 0)] [(0, 1, t9), (1, 1, t24), (2, 1, (.int .i64 7)), (3, 1, t28), (4, 1, (.int .i64 (-2147483648))), (5, 1, (.int .i64 2147483648))] fun t33 =>
  callV P yield0 [t33].toArray h_3 fun t34 h_4 =>
  pUn .not t34 fun t35 =>
  ifV t35
  (K (.tuple #[]) h_4)
  (pBin .add t24 (.int .i64 1) fun t36 =>
  Z_1 t36 h_4))
  (pBin .add t9 (.int .i64 1) fun t37 =>
  Z t37 h_3)

def sh_graph_nodes_1_L1 (P : Program) (t8 t1 yield0 : Value) (K : Value → Heap → Prop) (t9 : Value) (h_1 : Heap) (Z : Value → Heap → Prop) : Prop :=
  pBin .lss t9 t8 fun t10 =>
  ifV t10
  (pField 1 t1 fun t12 =>
  pLoad h_1 t12 fun t13 =>
  pIdx 1 t13 t9 fun t15 =>
  pLoad h_1 t15 fun t16 =>
  pField 2 t1 fun t17 =>
  pLoad h_1 t17 fun t18 =>
  pIdx 1 t18 t9 fun t20 =>
  pLoad h_1 t20 fun t21 =>
  pBuildSlice T_int64 (zerosL [(.int .i64 0)] 2) [(0, 1, t16), (1, 1, t21)] 2 h_1 fun t22 h_2 =>
  pLen t22 fun t23 =>
  LoopH (σ := Vals [24]) (fun x hh ZZ => sh_graph_nodes_1_L2 P t23 t22 t9 yield0 K Z x.1 hh (fun a0 hz => ZZ (a0, ()) hz)) ((.int .i64 0), ()) h_2)
  (K (.tuple #[]) h_1)

def sh_graph_nodes_1 (P : Program) (yield0 t1 : Value) (h : Heap) (K : Value → Heap → Prop) : Prop :=
  pField 1 t1 fun t6 =>
  pLoad h t6 fun t7 =>
  pLen t7 fun t8 =>
  LoopH (σ := Vals [9]) (fun x hh ZZ => sh_graph_nodes_1_L1 P t8 t1 yield0 K x.1 hh (fun a0 hz => ZZ (a0, ()) hz)) ((.int .i64 0), ()) h

set_option maxRecDepth 100000 in
theorem lk_graph_nodes_1 (yield0 t1 : Value) {h : Heap} {K : Value → Heap → Prop} (H : sh_graph_nodes_1 Tryz.prog yield0 t1 h K) : CallsH Tryz.prog F_graph_nodes_1 [yield0, t1].toArray h K :=
  callsH_of (ann := (annG (Tryz.f83.body.getD .skip) 0 [(1, [9]), (7, [24])]).1) (c := Tryz.f83.body.getD .skip) Tryz.func83 (by kernel_rfl) (by kernel_rfl) (by kernel_rfl) (of_decide_eq_true (by kernel_rfl))
    (Eq.mpr (by kernel_rfl) H)

/-! milestone/graph.arcs$1 -/

def sh_graph_arcs_1_L2 (P : Program) (t33 t32 yield0 : Value) (K : Value → Heap → Prop) (t13 : Value) (Z : Value → Heap → Prop) (t34 : Value) (h_5 : Heap) (Z_1 : Value → Heap → Prop) : Prop :=
  pBin .lss t34 t33 fun t35 =>
  ifV t35
  (pIdx 6 t32 t34 fun t36 =>
  pLoadN 6 h_5 t36 fun t37 =>
  pBox T_graph_place (.agg #[(.int .i64 0), (.int .i64 0), (.int .i64 0), (.int .i64 0), (.int .i64 0), (.int .i64 0)]) h_5 fun p7 h_6 =>
  pStore 6 p7 t37 h_6 fun u_1 h_7 =>
  pLoadN 6 h_7 p7 fun t39 =>
  callV P yield0 [t39].toArray h_7 fun t40 h_8 =>
  pUn .not t40 fun t41 =>
  ifV t41
  (K (.tuple #[]) h_8)
  (pBin .add t34 (.int .i64 1) fun t42 =>
  Z_1 t42 h_8))
  (pBin .add t13 (.int .i64 1) fun t43 =>
  Z t43 h_5)

def sh_graph_arcs_1_L1 (P : Program) (t12 t11 t9 yield0 : Value) (K : Value → Heap → Prop) (t13 : Value) (h_1 : Heap) (Z : Value → Heap → Prop) : Prop :=
  pBin .lss t13 t12 fun t14 =>
  ifV t14
  (pIdx 3 t11 t13 fun t16 =>
  pLoadN 3 h_1 t16 fun t17 =>
  pBox T_api_Arc (.agg #[(.int .i64 0), (.int .i64 0), (.int .i64 0)]) h_1 fun a5 h_2 =>
  pStore 3 a5 t17 h_2 fun u h_3 =>
  pField 0 a5 fun t19 =>
  pLoad h_3 t19 fun t20 =>
  pBuild [(.int .i64 0), (.int .i64 0), (.int .i64 0), (.int .i64 0), (.int .i64 0), (.int .i64 0)] [(0, 1, t13), (1, 1, (.int .i64 0)), (2, 1, (.int .i64 9)), (3, 1, t20), (4, 1, (.int .i64 0)), (5, 1, t9)] fun t22 =>
  pField 1 a5 fun t24 =>
  pLoad h_3 t24 fun t25 =>
  pBuild [(.int .i64 0), (.int .i64 0), (.int .i64 0), (.int .i64 0), (.int .i64 0), (.int .i64 0)] [(0, 1, t13), (1, 1, (.int .i64 1)), (2, 1, (.int .i64 9)), (3, 1, t25), (4, 1, (.int .i64 0)), (5, 1, t9)] fun t27 =>
  pField 2 a5 fun t29 =>
  pLoad h_3 t29 fun t30 =>
  pBuild [(.int .i64 0), (.int .i64 0), (.int .i64 0), (.int .i64 0), (.int .i64 0), (.int .i64 0)] [(0, 1, t13), (1, 1, (.int .i64 2)), (2, 1, (.int .i64 10)), (3, 1, t30), (4, 1, (.int .i64 0)), (5, 1, (.int .i64 2147483648))] fun t31 =>
  pBuildSlice T_graph_place (zerosL [(.int .i64 0), (.int .i64 0), (.int .i64 0), (.int .i64 0), (.int .i64 0), (.int .i64 0)] 3) [(0, 6, t22), (6, 6, t27), (12, 6, t31)] 3 h_3 fun t32 h_4 =>
  pLen t32 fun t33 =>
  LoopH (σ := Vals [34]) (fun x hh ZZ => sh_graph_arcs_1_L2 P t33 t32 yield0 K t13 Z x.1 hh (fun a0 hz => ZZ (a0, ()) hz)) ((.int .i64 0), ()) h_4)
  (K (.tuple #[]) h_1)

def sh_graph_arcs_1 (P : Program) (yield0 t1 : Value) (h : Heap) (K : Value → Heap → Prop) : Prop :=
  pField 0 t1 fun t8 =>
  pLoad h t8 fun t9 =>
  pField 3 t1 fun t10 =>
  pLoad h t10 fun t11 =>
  pLen t11 fun t12 =>
  LoopH (σ := Vals [13]) (fun x hh ZZ => sh_graph_arcs_1_L1 P t12 t11 t9 yield0 K x.1 hh (fun a0 hz => ZZ (a0, ()) hz)) ((.int .i64 0), ()) h

set_option maxRecDepth 100000 in
theorem lk_graph_arcs_1 (yield0 t1 : Value) {h : Heap} {K : Value → Heap → Prop} (H : sh_graph_arcs_1 Tryz.prog yield0 t1 h K) : CallsH Tryz.prog F_graph_arcs_1 [yield0, t1].toArray h K :=
  callsH_of (ann := (annG (Tryz.f84.body.getD .skip) 0 [(2, [13]), (8, [34])]).1) (c := Tryz.f84.body.getD .skip) Tryz.func84 (by kernel_rfl) (by kernel_rfl) (by kernel_rfl) (of_decide_eq_true (by kernel_rfl))
    (Eq.mpr (by kernel_rfl) H)

/-! slices.insertionSortCmpFunc[int] -/

def sh_slices_insertionSortCmpFunc_int_C3 (P : Program) (j9 data0 : Value) (Z_1 : Value → Heap → Prop) (i8 : Value) (Z : Value → Heap → Prop) (t34 : Value) (h_4 : Heap) : Prop :=
  ifV t34
  (pBin .sub j9 (.int .i64 1) fun t41 =>
  pBin .sub j9 (.int .i64 1) fun t44 =>
  pIdx 1 data0 t44 fun t45 =>
  pLoad h_4 t45 fun t46 =>
  pIdx 1 data0 j9 fun t49 =>
  pLoad h_4 t49 fun t50 =>
  pIdx 1 data0 j9 fun t51 =>
  pStore 1 t51 t46 h_4 fun u h_5 =>
  pIdx 1 data0 t41 fun t52 =>
  pStore 1 t52 t50 h_5 fun u_1 h_6 =>
  pBin .sub j9 (.int .i64 1) fun t36 =>
  Z_1 t36 h_6)
  (pBin .add i8 (.int .i64 1) fun t16 =>
  Z t16 h_4)

def sh_slices_insertionSortCmpFunc_int_L2 (P : Program) (a1 data0 cmp3 i8 : Value) (Z : Value → Heap → Prop) (j9 : Value) (h_2 : Heap) (Z_1 : Value → Heap → Prop) : Prop :=
  cutP (σ := Vals [34]) (fun J =>
  pBin .gtr j9 a1 fun t20 =>
  ifV t20
  (pIdx 1 data0 j9 fun t25 =>
  pLoad h_2 t25 fun t26 =>
  pBin .sub j9 (.int .i64 1) fun t29 =>
  pIdx 1 data0 t29 fun t30 =>
  pLoad h_2 t30 fun t31 =>
  callV P cmp3 [t26, t31].toArray h_2 fun t32 h_3 =>
  pBin .lss t32 (.int .i64 0) fun t33 =>
  J (t33, ()) h_3)
  (J ((.bool false), ()) h_2))
  (fun x hh => sh_slices_insertionSortCmpFunc_int_C3 P j9 data0 Z_1 i8 Z x.1 hh)

def sh_slices_insertionSortCmpFunc_int_L1 (P : Program) (b2 a1 data0 cmp3 : Value) (K : Value → Heap → Prop) (i8 : Value) (h_1 : Heap) (Z : Value → Heap → Prop) : Prop :=
  pBin .lss i8 b2 fun t14 =>
  ifV t14
  (LoopH (σ := Vals [9]) (fun x hh ZZ => sh_slices_insertionSortCmpFunc_int_L2 P a1 data0 cmp3 i8 Z x.1 hh (fun a0 hz => ZZ (a0, ()) hz)) (i8, ()) h_1)
  (K (.tuple #[]) h_1)

def sh_slices_insertionSortCmpFunc_int (P : Program) (data0 a1 b2 cmp3 : Value) (h : Heap) (K : Value → Heap → Prop) : Prop :=
  pBin .add a1 (.int .i64 1) fun t11 =>
  LoopH (σ := Vals [8]) (fun x hh ZZ => sh_slices_insertionSortCmpFunc_int_L1 P b2 a1 data0 cmp3 K x.1 hh (fun a0 hz => ZZ (a0, ()) hz)) (t11, ()) h

set_option maxRecDepth 100000 in
theorem lk_slices_insertionSortCmpFunc_int (data0 a1 b2 cmp3 : Value) {h : Heap} {K : Value → Heap → Prop} (H : sh_slices_insertionSortCmpFunc_int Tryz.prog data0 a1 b2 cmp3 h K) : CallsH Tryz.prog F_slices_insertionSortCmpFunc_int [data0, a1, b2, cmp3].toArray h K :=
  callsH_of (ann := (annG (Tryz.f88.body.getD .skip) 0 [(1, [8]), (6, [9]), (8, [34])]).1) (c := Tryz.f88.body.getD .skip) Tryz.func88 (by kernel_rfl) (by kernel_rfl) (by kernel_rfl) (of_decide_eq_true (by kernel_rfl))
    (Eq.mpr (by kernel_rfl) H)

/-! math/bits.Len32 -/

def sh_math_bits_Len32_k2 (P : Program) (K : Value → Heap → Prop) (x0_2 n2_1 : Value) (h_2 : Heap) : Prop :=
  pConv .u8 x0_2 fun t15 =>
  pIdxS (.string ⟨#[0, 1, 2, 2, 3, 3, 3, 3, 4, 4, 4, 4, 4, 4, 4, 4, 5, 5, 5, 5, 5, 5, 5, 5, 5, 5, 5, 5, 5, 5, 5, 5, 6, 6, 6, 6, 6, 6, 6, 6, 6, 6, 6, 6, 6, 6, 6, 6, 6, 6, 6, 6, 6, 6, 6, 6, 6, 6, 6, 6, 6, 6, 6, 6, 7, 7, 7, 7, 7, 7, 7, 7, 7, 7, 7, 7, 7, 7, 7, 7, 7, 7, 7, 7, 7, 7, 7, 7, 7, 7, 7, 7, 7, 7, 7, 7, 7, 7, 7, 7, 7, 7, 7, 7, 7, 7, 7, 7, 7, 7, 7, 7, 7, 7, 7, 7, 7, 7, 7, 7, 7, 7, 7, 7, 7, 7, 7, 7, 8, 8, 8, 8, 8, 8, 8, 8, 8, 8, 8, 8, 8, 8, 8, 8, 8, 8, 8, 8, 8, 8, 8, 8, 8, 8, 8, 8, 8, 8, 8, 8, 8, 8, 8, 8, 8, 8, 8, 8, 8, 8, 8, 8, 8, 8, 8, 8, 8, 8, 8, 8, 8, 8, 8, 8, 8, 8, 8, 8, 8, 8, 8, 8, 8, 8, 8, 8, 8, 8, 8, 8, 8, 8, 8, 8, 8, 8, 8, 8, 8, 8, 8, 8, 8, 8, 8, 8, 8, 8, 8, 8, 8, 8, 8, 8, 8, 8, 8, 8, 8, 8, 8, 8, 8, 8, 8, 8, 8, 8, 8, 8, 8, 8, 8, 8, 8, 8, 8, 8, 8, 8, 8, 8, 8, 8, 8, 8]⟩) t15 fun t16 =>
  pConv .i64 t16 fun t17 =>
  pBin .add n2_1 t17 fun t18 =>
  K t18 h_2

def sh_math_bits_Len32_k1 (P : Program) (K : Value → Heap → Prop) (x0_1 n2 : Value) (h_1 : Heap) : Prop :=
  pBin .geq x0_1 (.int .u32 256) fun t8 =>
  ifV t8
  (pBin .shr x0_1 (.int .u64 8) fun t10 =>
  pBin .add n2 (.int .i64 8) fun t12 =>
  sh_math_bits_Len32_k2 P K t10 t12 h_1)
  (sh_math_bits_Len32_k2 P K x0_1 n2 h_1)

def sh_math_bits_Len32 (P : Program) (x0 : Value) (h : Heap) (K : Value → Heap → Prop) : Prop :=
  pBin .geq x0 (.int .u32 65536) fun t4 =>
  ifV t4
  (pBin .shr x0 (.int .u64 16) fun t6 =>
  sh_math_bits_Len32_k1 P K t6 (.int .i64 16) h)
  (sh_math_bits_Len32_k1 P K x0 (.int .i64 0) h)

set_option maxRecDepth 100000 in
theorem lk_math_bits_Len32 (x0 : Value) {h : Heap} {K : Value → Heap → Prop} (H : sh_math_bits_Len32 Tryz.prog x0 h K) : CallsH Tryz.prog F_math_bits_Len32 [x0].toArray h K :=
  callsH_of (ann := (annG (Tryz.f96.body.getD .skip) 0 []).1) (c := Tryz.f96.body.getD .skip) Tryz.func96 (by kernel_rfl) (by kernel_rfl) (by kernel_rfl) (of_decide_eq_true (by kernel_rfl))
    (Eq.mpr (by kernel_rfl) H)

/-! math/bits.Len64 -/

def sh_math_bits_Len64_k3 (P : Program) (K : Value → Heap → Prop) (x0_3 n2_2 : Value) (h_3 : Heap) : Prop :=
  pConv .u8 x0_3 fun t21 =>
  pIdxS (.string ⟨#[0, 1, 2, 2, 3, 3, 3, 3, 4, 4, 4, 4, 4, 4, 4, 4, 5, 5, 5, 5, 5, 5, 5, 5, 5, 5, 5, 5, 5, 5, 5, 5, 6, 6, 6, 6, 6, 6, 6, 6, 6, 6, 6, 6, 6, 6, 6, 6, 6, 6, 6, 6, 6, 6, 6, 6, 6, 6, 6, 6, 6, 6, 6, 6, 7, 7, 7, 7, 7, 7, 7, 7, 7, 7, 7, 7, 7, 7, 7, 7, 7, 7, 7, 7, 7, 7, 7, 7, 7, 7, 7, 7, 7, 7, 7, 7, 7, 7, 7, 7, 7, 7, 7, 7, 7, 7, 7, 7, 7, 7, 7, 7, 7, 7, 7, 7, 7, 7, 7, 7, 7, 7, 7, 7, 7, 7, 7, 7, 8, 8, 8, 8, 8, 8, 8, 8, 8, 8, 8, 8, 8, 8, 8, 8, 8, 8, 8, 8, 8, 8, 8, 8, 8, 8, 8, 8, 8, 8, 8, 8, 8, 8, 8, 8, 8, 8, 8, 8, 8, 8, 8, 8, 8, 8, 8, 8, 8, 8, 8, 8, 8, 8, 8, 8, 8, 8, 8, 8, 8, 8, 8, 8, 8, 8, 8, 8, 8, 8, 8, 8, 8, 8, 8, 8, 8, 8, 8, 8, 8, 8, 8, 8, 8, 8, 8, 8, 8, 8, 8, 8, 8, 8, 8, 8, 8, 8, 8, 8, 8, 8, 8, 8, 8, 8, 8, 8, 8, 8, 8, 8, 8, 8, 8, 8, 8, 8, 8, 8, 8, 8, 8, 8, 8, 8, 8, 8]⟩) t21 fun t22 =>
  pConv .i64 t22 fun t23 =>
  pBin .add n2_2 t23 fun t24 =>
  K t24 h_3

def sh_math_bits_Len64_k2 (P : Program) (K : Value → Heap → Prop) (x0_2 n2_1 : Value) (h_2 : Heap) : Prop :=
  pBin .geq x0_2 (.int .u64 256) fun t14 =>
  ifV t14
  (pBin .shr x0_2 (.int .u64 8) fun t16 =>
  pBin .add n2_1 (.int .i64 8) fun t18 =>
  sh_math_bits_Len64_k3 P K t16 t18 h_2)
  (sh_math_bits_Len64_k3 P K x0_2 n2_1 h_2)

def sh_math_bits_Len64_k1 (P : Program) (K : Value → Heap → Prop) (x0_1 n2 : Value) (h_1 : Heap) : Prop :=
  pBin .geq x0_1 (.int .u64 65536) fun t8 =>
  ifV t8
  (pBin .shr x0_1 (.int .u64 16) fun t10 =>
  pBin .add n2 (.int .i64 16) fun t12 =>
  sh_math_bits_Len64_k2 P K t10 t12 h_1)
  (sh_math_bits_Len64_k2 P K x0_1 n2 h_1)

def sh_math_bits_Len64 (P : Program) (x0 : Value) (h : Heap) (K : Value → Heap → Prop) : Prop :=
  pBin .geq x0 (.int .u64 4294967296) fun t4 =>
  ifV t4
  (pBin .shr x0 (.int .u64 32) fun t6 =>
  sh_math_bits_Len64_k1 P K t6 (.int .i64 32) h)
  (sh_math_bits_Len64_k1 P K x0 (.int .i64 0) h)

set_option maxRecDepth 100000 in
theorem lk_math_bits_Len64 (x0 : Value) {h : Heap} {K : Value → Heap → Prop} (H : sh_math_bits_Len64 Tryz.prog x0 h K) : CallsH Tryz.prog F_math_bits_Len64 [x0].toArray h K :=
  callsH_of (ann := (annG (Tryz.f97.body.getD .skip) 0 []).1) (c := Tryz.f97.body.getD .skip) Tryz.func97 (by kernel_rfl) (by kernel_rfl) (by kernel_rfl) (of_decide_eq_true (by kernel_rfl))
    (Eq.mpr (by kernel_rfl) H)

/-! slices.Values[[]milestone/graph.place,milestone/graph.place]$1 -/

def sh_slices_Values_sl_graph_place_graph_place_1_L1 (P : Program) (t6 t5 yield0 : Value) (K : Value → Heap → Prop) (t7 : Value) (h_1 : Heap) (Z : Value → Heap → Prop) : Prop :=
  pBin .lss t7 t6 fun t8 =>
  ifV t8
  (pIdx 6 t5 t7 fun t9 =>
  pLoadN 6 h_1 t9 fun t10 =>
  pBox T_graph_place (.agg #[(.int .i64 0), (.int .i64 0), (.int .i64 0), (.int .i64 0), (.int .i64 0), (.int .i64 0)]) h_1 fun v4 h_2 =>
  pStore 6 v4 t10 h_2 fun u h_3 =>
  pLoadN 6 h_3 v4 fun t12 =>
  callV P yield0 [t12].toArray h_3 fun t13 h_4 =>
  pUn .not t13 fun t14 =>
  ifV t14
  (K (.tuple #[]) h_4)
  (pBin .add t7 (.int .i64 1) fun t15 =>
  Z t15 h_4))
  (K (.tuple #[]) h_1)

def sh_slices_Values_sl_graph_place_graph_place_1 (P : Program) (yield0 t1 : Value) (h : Heap) (K : Value → Heap → Prop) : Prop :=
  pLoad h t1 fun t5 =>
  pLen t5 fun t6 =>
  LoopH (σ := Vals [7]) (fun x hh ZZ => sh_slices_Values_sl_graph_place_graph_place_1_L1 P t6 t5 yield0 K x.1 hh (fun a0 hz => ZZ (a0, ()) hz)) ((.int .i64 0), ()) h

set_option maxRecDepth 100000 in
theorem lk_slices_Values_sl_graph_place_graph_place_1 (yield0 t1 : Value) {h : Heap} {K : Value → Heap → Prop} (H : sh_slices_Values_sl_graph_place_graph_place_1 Tryz.prog yield0 t1 h K) : CallsH Tryz.prog F_slices_Values_sl_graph_place_graph_place_1 [yield0, t1].toArray h K :=
  callsH_of (ann := (annG (Tryz.f98.body.getD .skip) 0 [(1, [7])]).1) (c := Tryz.f98.body.getD .skip) Tryz.func98 (by kernel_rfl) (by kernel_rfl) (by kernel_rfl) (of_decide_eq_true (by kernel_rfl))
    (Eq.mpr (by kernel_rfl) H)

end Go.Proofs.YtbacdjahpahcfaaGreatDoor


