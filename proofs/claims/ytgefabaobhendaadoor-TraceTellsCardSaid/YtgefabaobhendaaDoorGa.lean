/- Texts of the proofs of seat YtgefabaobhendaaDoor, joined: Ids, Gen1, Gen2, Gen3, Gen4, Gen. They have no conditions of their own. -/
import Derived.Test.YtgefabaobhendaaDoorMc
import Derived.Test.YtgefabaobhendaaDoorChecked
import Derived.KernelRfl
set_option linter.unusedVariables false
set_option linter.unusedSimpArgs false

namespace Go.Proofs.YtgefabaobhendaaDoor
abbrev F_gosem_cut_init : Nat := 2
abbrev F_milestonelaw12_TraceTells : Nat := 3
abbrev F_milestonelaw12_TraceKnown : Nat := 4
abbrev F_milestonelaw12_drawn : Nat := 5
abbrev F_milestonelaw12_made : Nat := 6
abbrev F_milestonelaw12_few : Nat := 7
abbrev F_trace_Once : Nat := 8
abbrev F_milestoneref12_Once : Nat := 9
abbrev F_trace_Heads : Nat := 10
abbrev F_milestoneref12_Heads : Nat := 11
abbrev F_milestoneref07_Ints : Nat := 12
abbrev F_trace_Pops : Nat := 13
abbrev F_milestoneref12_Of : Nat := 14
abbrev F_trace_Scans : Nat := 15
abbrev F_trace_Label : Nat := 16
abbrev F_milestoneref12_Label : Nat := 17
abbrev F_trace_Beyond : Nat := 18
abbrev F_milestoneref12_Beyond : Nat := 19
abbrev F_milestonelaw12_works : Nat := 20
abbrev F_milestonelaw12_pop : Nat := 21
abbrev F_milestonelaw12_scan : Nat := 22
abbrev F_milestoneref07_Draft_Raw : Nat := 23
abbrev F_net_New : Nat := 24
abbrev F_trace_may : Nat := 25
abbrev F_slices_ContainsFunc_sl_api_Event_api_Event : Nat := 26
abbrev F_trace_Once_1 : Nat := 27
abbrev F_milestoneref12_may : Nat := 28
abbrev F_trace_Heads_1 : Nat := 29
abbrev F_trace_tail : Nat := 30
abbrev F_milestoneref12_tail : Nat := 31
abbrev F_trace_told_int : Nat := 32
abbrev F_trace_of : Nat := 33
abbrev F_trace_id : Nat := 34
abbrev F_slices_IndexFunc_sl_api_Event_api_Event : Nat := 35
abbrev F_trace_Beyond_1 : Nat := 36
abbrev F_milestoneref07_Draft_Next : Nat := 37
abbrev F_milestoneref07_Draft_Weight : Nat := 38
abbrev F_graph_Check : Nat := 39
abbrev F_api_Told : Nat := 40
abbrev F_net_of : Nat := 41
abbrev F_net_own : Nat := 42
abbrev F_trace_may_1 : Nat := 43
abbrev F_net_Net_Nodes : Nat := 44
abbrev F_net_Net_Arcs : Nat := 45
abbrev F_net_Net_Arc : Nat := 46
abbrev F_trace_of_1 : Nat := 47
abbrev F_graph_Check_1 : Nat := 48
abbrev F_graph_look : Nat := 49
abbrev F_errors_As : Nat := 50
abbrev F_net_of_1 : Nat := 51
abbrev F_net_of_2 : Nat := 52
abbrev F_net_of_3 : Nat := 53
abbrev F_slices_Clone_sl_int64_int64 : Nat := 54
abbrev F_slices_Clone_sl_api_Arc_api_Arc : Nat := 55
abbrev F_net_one_api_Arc : Nat := 56
abbrev F_graph_look_1 : Nat := 57
abbrev F_graph_one : Nat := 58
abbrev F_graph_look_2 : Nat := 59
abbrev F_graph_shapes : Nat := 60
abbrev F_graph_look_3 : Nat := 61
abbrev F_graph_nodes : Nat := 62
abbrev F_graph_look_4 : Nat := 63
abbrev F_graph_look_5 : Nat := 64
abbrev F_graph_arcs : Nat := 65
abbrev F_errors_as : Nat := 69
abbrev F_slices_Values_sl_graph_place_graph_place : Nat := 70
abbrev F_graph_nodes_1 : Nat := 71
abbrev F_graph_arcs_1 : Nat := 72
abbrev F_slices_Values_sl_graph_place_graph_place_1 : Nat := 76
abbrev F_api_Fault_Unwrap : Nat := 96
abbrev F_net_trouble_Unwrap : Nat := 97
abbrev F_graph_trouble_Unwrap : Nat := 98
abbrev F_gosem_cut_vars : Nat := 117
abbrev T_ : Nat := 0
abbrev T_func : Nat := 1
abbrev T_int64 : Nat := 2
abbrev T_int : Nat := 3
abbrev T_bool : Nat := 4
abbrev T_uint8 : Nat := 5
abbrev T_abi_BoundsErrorCode : Nat := 6
abbrev T_struct_x_int64_y_int_signed_bool_code_abi_BoundsErrorCode : Nat := 7
abbrev T_runtime_boundsError : Nat := 8
abbrev T_string : Nat := 9
abbrev T_runtime_errorString : Nat := 10
abbrev T_runtime_plainError : Nat := 11
abbrev T_uintptr : Nat := 12
abbrev T_struct_msg_string_addr_uintptr : Nat := 13
abbrev T_runtime_errorAddressString : Nat := 14
abbrev T_p_runtime_TypeAssertionError : Nat := 15
abbrev T_p_runtime_PanicNilError : Nat := 16
abbrev T_p_abi_Type : Nat := 17
abbrev T_struct_typ_p_abi_Type : Nat := 18
abbrev T_maps_unhashableTypeError : Nat := 19
abbrev T_interface : Nat := 20
abbrev T_int32 : Nat := 21
abbrev T_sl_uint8 : Nat := 22
abbrev T_sl_api_Event : Nat := 23
abbrev T_sl_int64 : Nat := 24
abbrev T_sl_api_Arc : Nat := 25
abbrev T_struct_Nodes_int_X_sl_int64_Y_sl_int64_Arcs_sl_api_Arc : Nat := 26
abbrev T_api_Raw : Nat := 27
abbrev T_func_sl_uint8_api_Raw : Nat := 28
abbrev T_p_net_Net : Nat := 29
abbrev T_func_api_Raw_p_net_Net : Nat := 30
abbrev T_func_api_Raw_sl_api_Event_sl_api_Event : Nat := 31
abbrev T_3_sl_api_Event : Nat := 32
abbrev T_funcnet_Net_sl_api_Event_bool : Nat := 33
abbrev T_func_api_Raw_sl_api_Event_bool : Nat := 34
abbrev T_func_sl_int_sl_int_bool : Nat := 35
abbrev T_sl_int : Nat := 36
abbrev T_func_sl_api_Event_int_sl_int : Nat := 37
abbrev T_func_sl_api_Event_int_int_sl_int : Nat := 38
abbrev T_int64_bool : Nat := 39
abbrev T_func_sl_api_Event_int_int_int64_bool : Nat := 40
abbrev T_func_sl_api_Event_sl_int64_int64_int : Nat := 41
abbrev T_func_bool : Nat := 42
abbrev T_func_sl_uint8_sl_api_Event_sl_int64_bool : Nat := 43
abbrev T_struct_From_int_To_int_Weight_int64 : Nat := 44
abbrev T_api_Arc : Nat := 45
abbrev T_struct_Kind_int_Side_int_Id_int_Label_int64 : Nat := 46
abbrev T_api_Event : Nat := 47
abbrev T_func_int_int_int64_api_Event : Nat := 48
abbrev T_func_int_int_api_Event : Nat := 49
abbrev T_p_milestoneref07_Draft : Nat := 50
abbrev T_struct_B_sl_uint8_At_int : Nat := 51
abbrev T_milestoneref07_Draft : Nat := 52
abbrev T_func_api_Raw : Nat := 53
abbrev T_interface_Error_string : Nat := 54
abbrev T_error : Nat := 55
abbrev T_net_Net_error : Nat := 56
abbrev T_func_api_Raw_net_Net_error : Nat := 57
abbrev T_uint : Nat := 58
abbrev T_func_api_Event_bool : Nat := 59
abbrev T_funcnet_Net_func_api_Event_bool : Nat := 60
abbrev T_map_3_int_int : Nat := 61
abbrev T_func_sl_api_Event_func_api_Event_bool_bool : Nat := 62
abbrev T_3_int : Nat := 63
abbrev T_func_api_Raw_api_Event_bool : Nat := 64
abbrev T_2_int : Nat := 65
abbrev T_funcnet_Net_int_int_int : Nat := 66
abbrev T_func_api_Raw_int_int_int : Nat := 67
abbrev T_func_iter_Seq2_int_api_Event_func_api_Event_int_sl_int : Nat := 68
abbrev T_func_func_int_api_Event_bool : Nat := 69
abbrev T_iter_Seq2_int_api_Event : Nat := 70
abbrev T_func_sl_api_Event_int_int_iter_Seq2_int_api_Event : Nat := 71
abbrev T_func_api_Event_int : Nat := 72
abbrev T_func_sl_api_Event_func_api_Event_bool_int : Nat := 73
abbrev T_func_int_int : Nat := 74
abbrev T_func_int64 : Nat := 75
abbrev T_func_api_Raw_error : Nat := 76
abbrev T_api_Errno : Nat := 77
abbrev T_struct_Code_api_Errno_Phase_int_Index_int_Field_int : Nat := 78
abbrev T_api_Fault : Nat := 79
abbrev T_func_error_api_Fault : Nat := 80
abbrev T_p_api_Fault : Nat := 81
abbrev T_struct_p_api_Fault : Nat := 82
abbrev T_net_trouble : Nat := 83
abbrev T_func_api_Raw_api_Raw : Nat := 84
abbrev T_func_int : Nat := 85
abbrev T_map_int_int : Nat := 86
abbrev T_api_Arc_bool : Nat := 87
abbrev T_func_int_api_Arc_bool : Nat := 88
abbrev T_func_int_api_Event_bool : Nat := 89
abbrev T_graph_trouble : Nat := 90
abbrev T_graph_trouble_bool : Nat := 91
abbrev T_func_api_Raw_v2 : Nat := 92
abbrev T_func_error_interface_bool : Nat := 93
abbrev T_p_p_api_Fault : Nat := 94
abbrev T_p_api_Errno : Nat := 95
abbrev T_sl_sl_int : Nat := 96
abbrev T_struct_raw_api_Raw_out_sl_sl_int_in_sl_sl_int : Nat := 97
abbrev T_net_Net : Nat := 98
abbrev T_func_api_Arc_int : Nat := 99
abbrev T_func_func_api_Arc_int_sl_sl_int : Nat := 100
abbrev T_func_sl_int64_sl_int64 : Nat := 101
abbrev T_func_sl_api_Arc_sl_api_Arc : Nat := 102
abbrev T_func_sl_api_Arc_int_api_Arc_bool : Nat := 103
abbrev T_func_func_graph_place_bool : Nat := 104
abbrev T_iter_Seq_graph_place : Nat := 105
abbrev T_func_api_Errno_int_int_int_iter_Seq_graph_place : Nat := 106
abbrev T_func_iter_Seq_graph_place : Nat := 107
abbrev T_func_api_Raw_iter_Seq_graph_place : Nat := 108
abbrev T_sl_func_iter_Seq_graph_place : Nat := 109
abbrev T_struct_index_int_field_int_code_api_Errno_n_int64_least_int64_end_int64 : Nat := 110
abbrev T_graph_place : Nat := 111
abbrev T_unsafe_Pointer : Nat := 112
abbrev T_reflectlite_flag : Nat := 113
abbrev T_struct_typ_p_abi_Type_ptr_unsafe_Pointer_reflectlite_flag : Nat := 114
abbrev T_reflectlite_Value : Nat := 115
abbrev T_func_interface_reflectlite_Value : Nat := 116
abbrev T_interface_AssignableTo_reflectlite_Type_bool_Comparable_bool_Elem_reflectlite_Type_Implements_reflectlite_Type_bool_Kind_abi_Kind_Name_string_PkgPath_string_Size_uintptr_String_string_reflectlite_common_p_abi_Type_reflectlite_uncommon_p_abi_UncommonType : Nat := 117
abbrev T_reflectlite_Type : Nat := 118
abbrev T_func_reflectlite_Type : Nat := 119
abbrev T_abi_Kind : Nat := 120
abbrev T_func_abi_Kind : Nat := 121
abbrev T_func_reflectlite_Type_bool : Nat := 122
abbrev T_func_error_interface_reflectlite_Value_reflectlite_Type_bool : Nat := 123
abbrev T_func_sl_graph_place_iter_Seq_graph_place : Nat := 124
abbrev T_sl_graph_place : Nat := 125
abbrev T_func_graph_place_bool : Nat := 126
abbrev T_struct_p_abi_Type : Nat := 127
abbrev T_reflectlite_rtype : Nat := 128
abbrev T_p_reflectlite_ValueError : Nat := 129
abbrev T_func_interface_reflectlite_Type : Nat := 130
abbrev T_func_reflectlite_Value : Nat := 131
abbrev T_func_reflectlite_Value_v2 : Nat := 132
abbrev T_interface_As_interface_bool : Nat := 133
abbrev T_interface_As_interface_bool_bool : Nat := 134
abbrev T_func_interface_bool : Nat := 135
abbrev T_interface_Unwrap_error : Nat := 136
abbrev T_func_error : Nat := 137
abbrev T_interface_Unwrap_sl_error : Nat := 138
abbrev T_sl_error : Nat := 139
abbrev T_func_sl_error : Nat := 140
abbrev T_func_string : Nat := 141
abbrev T_struct_interface_p_abi_Type_concrete_p_abi_Type_asserted_p_abi_Type_missingMethod_string : Nat := 142
abbrev T_runtime_TypeAssertionError : Nat := 143
abbrev T_0_p_runtime_PanicNilError : Nat := 144
abbrev T_struct_0_p_runtime_PanicNilError : Nat := 145
abbrev T_runtime_PanicNilError : Nat := 146
abbrev T_func_p_abi_Type : Nat := 147
abbrev T_uint32 : Nat := 148
abbrev T_abi_TFlag : Nat := 149
abbrev T_func_unsafe_Pointer_unsafe_Pointer_bool : Nat := 150
abbrev T_p_uint8 : Nat := 151
abbrev T_abi_NameOff : Nat := 152
abbrev T_abi_TypeOff : Nat := 153
abbrev T_struct_Size_uintptr_PtrBytes_uintptr_Hash_uint32_TFlag_abi_TFlag_Align_uint8_FieldAlign_uint8_Kind_abi_Kind_Equal_func_unsafe_Pointer_unsafe_Pointer_bool_GCData_p_uint8_Str_abi_NameOff_PtrToThis_abi_TypeOff : Nat := 154
abbrev T_abi_Type : Nat := 155
abbrev T_func_uintptr : Nat := 156
abbrev T_func_p_abi_UncommonType : Nat := 157
abbrev T_struct_Method_string_Kind_abi_Kind : Nat := 158
abbrev T_reflectlite_ValueError : Nat := 159
abbrev T_p_abi_UncommonType : Nat := 160
abbrev T_func_sl_abi_Method : Nat := 161
abbrev T_uint16 : Nat := 162
abbrev T_struct_PkgPath_abi_NameOff_Mcount_uint16_Xcount_uint16_Moff_uint32_uint32 : Nat := 163
abbrev T_abi_UncommonType : Nat := 164
abbrev T_sl_abi_Method : Nat := 165
abbrev T_abi_TextOff : Nat := 166
abbrev T_struct_Name_abi_NameOff_Mtyp_abi_TypeOff_Ifn_abi_TextOff_Tfn_abi_TextOff : Nat := 167
abbrev T_abi_Method : Nat := 168
abbrev T_p_error : Nat := 169
abbrev G_errors_errorType : Nat := 0
end Go.Proofs.YtgefabaobhendaaDoor

namespace Go.Proofs.YtgefabaobhendaaDoor
open Go Go.Mh
set_option maxHeartbeats 0
set_option linter.unusedVariables false

/-! milestone/milestonelaw12.TraceTells -/

def sh_milestonelaw12_TraceTells_k4 (P : Program) (K : Value → Heap → Prop) (h_16 : Heap) : Prop :=
  K (.bool false) h_16

def sh_milestonelaw12_TraceTells_k6 (P : Program) (K : Value → Heap → Prop) (h_23 : Heap) : Prop :=
  K (.bool false) h_23

def sh_milestonelaw12_TraceTells_L5 (P : Program) (g7 t35 side11 : Value) (K Z_1 : Value → Heap → Prop) (v12 : Value) (h_20 : Heap) (Z_2 : Value → Heap → Prop) : Prop :=
  pField 0 g7 fun t75 =>
  pLoad h_20 t75 fun t76 =>
  pBin .leq v12 t76 fun t77 =>
  ifV t77
  (callS P F_trace_Label [t35, side11, v12] h_20 fun t84 h_21 =>
  pExt t84 0 fun t85 =>
  pExt t84 1 fun t86 =>
  callS P F_milestoneref12_Label [t35, side11, v12] h_21 fun t91 h_22 =>
  pExt t91 0 fun t92 =>
  pExt t91 1 fun t93 =>
  pBin .neq t85 t92 fun t96 =>
  ifV t96
  (sh_milestonelaw12_TraceTells_k6 P K h_22)
  (pEq true .bool t86 t93 fun t100 =>
  ifV t100
  (sh_milestonelaw12_TraceTells_k6 P K h_22)
  (pBin .add v12 (.int .i64 1) fun t79 =>
  Z_2 t79 h_22)))
  (pBin .add side11 (.int .i64 1) fun t55 =>
  Z_1 t55 h_20)

def sh_milestonelaw12_TraceTells_k7 (P : Program) (t35 far2 : Value) (K : Value → Heap → Prop) (t33 : Value) (Z : Value → Heap → Prop) (most17 : Value) (h_24 : Heap) : Prop :=
  callS P F_trace_Beyond [t35, far2, most17] h_24 fun t111 h_25 =>
  callS P F_milestoneref12_Beyond [t35, far2, most17] h_25 fun t115 h_26 =>
  pBin .neq t111 t115 fun t116 =>
  ifV t116
  (K (.bool false) h_26)
  (pBin .add t33 (.int .i64 1) fun t117 =>
  Z t117 h_26)

def sh_milestonelaw12_TraceTells_L3 (P : Program) (t35 : Value) (K : Value → Heap → Prop) (g7 far2 t33 : Value) (Z : Value → Heap → Prop) (side11 : Value) (h_12 : Heap) (Z_1 : Value → Heap → Prop) : Prop :=
  pBin .leq side11 (.int .i64 2) fun t53 =>
  ifV t53
  (callS P F_trace_Pops [t35, side11] h_12 fun t58 h_13 =>
  callS P F_milestoneref12_Of [t35, (.int .i64 0), side11] h_13 fun t61 h_14 =>
  callS P F_milestoneref07_Ints [t58, t61] h_14 fun t62 h_15 =>
  pUn .not t62 fun t63 =>
  ifV t63
  (sh_milestonelaw12_TraceTells_k4 P K h_15)
  (callS P F_trace_Scans [t35, side11] h_15 fun t67 h_17 =>
  callS P F_milestoneref12_Of [t35, (.int .i64 1), side11] h_17 fun t70 h_18 =>
  callS P F_milestoneref07_Ints [t67, t70] h_18 fun t71 h_19 =>
  pUn .not t71 fun t72 =>
  ifV t72
  (sh_milestonelaw12_TraceTells_k4 P K h_19)
  (LoopH (σ := Vals [12]) (fun x hh ZZ => sh_milestonelaw12_TraceTells_L5 P g7 t35 side11 K Z_1 x.1 hh (fun a0 hz => ZZ (a0, ()) hz)) ((.int .i64 (-1)), ()) h_19)))
  (pLen far2 fun t103 =>
  pBin .gtr t103 (.int .i64 0) fun t104 =>
  ifV t104
  (pIdx 1 far2 (.int .i64 0) fun t106 =>
  pLoad h_12 t106 fun t107 =>
  sh_milestonelaw12_TraceTells_k7 P t35 far2 K t33 Z t107 h_12)
  (sh_milestonelaw12_TraceTells_k7 P t35 far2 K t33 Z (.int .i64 0) h_12))

def sh_milestonelaw12_TraceTells_C2 (P : Program) (K : Value → Heap → Prop) (t35 g7 far2 t33 : Value) (Z : Value → Heap → Prop) (t51 : Value) (h_11 : Heap) : Prop :=
  ifV t51
  (K (.bool false) h_11)
  (LoopH (σ := Vals [11]) (fun x hh ZZ => sh_milestonelaw12_TraceTells_L3 P t35 K g7 far2 t33 Z x.1 hh (fun a0 hz => ZZ (a0, ()) hz)) ((.int .i64 (-1)), ()) h_11)

def sh_milestonelaw12_TraceTells_L1 (P : Program) (t32 g7 t21 : Value) (K : Value → Heap → Prop) (far2 t33 : Value) (h_6 : Heap) (Z : Value → Heap → Prop) : Prop :=
  pBin .lss t33 (.int .i64 3) fun t34 =>
  ifV t34
  (pIdxV1 3 t32 t33 fun t35 =>
  cutP (σ := Vals [51]) (fun J =>
  pLoadN 4 h_6 g7 fun t39 =>
  callS P F_trace_Once [t21, t35] h_6 fun t38 h_7 =>
  (pLoadN 4 h_7 g7 fun t39_1 =>
  t39_1 = t39) ∧
  (callS P F_milestoneref12_Once [t39, t35] h_7 fun t41 h_8 =>
  pEq true .bool t38 t41 fun t42 =>
  ifV t42
  (J ((.bool true), ()) h_8)
  (pLoadN 4 h_8 g7 fun t47 =>
  callS P F_trace_Heads [t21, t35] h_8 fun t46 h_9 =>
  (pLoadN 4 h_9 g7 fun t47_1 =>
  t47_1 = t47) ∧
  (callS P F_milestoneref12_Heads [t47, t35] h_9 fun t49 h_10 =>
  pEq true .bool t46 t49 fun t50 =>
  J (t50, ()) h_10))))
  (fun x hh => sh_milestonelaw12_TraceTells_C2 P K t35 g7 far2 t33 Z x.1 hh))
  (callS P F_milestonelaw12_works [] h_6 fun t118 h_27 =>
  K t118 h_27)

def sh_milestonelaw12_TraceTells (P : Program) (b0 l1 far2 : Value) (h : Heap) (K : Value → Heap → Prop) : Prop :=
  callS P F_milestonelaw12_drawn [b0] h fun t19 h_1 =>
  pBox T_api_Raw (.agg #[(.int .i64 0), (.slice none 0 0), (.slice none 0 0), (.slice none 0 0)]) h_1 fun g7 h_2 =>
  pStore 4 g7 t19 h_2 fun u h_3 =>
  pLoadN 4 h_3 g7 fun t20 =>
  callS P F_milestonelaw12_made [t20] h_3 fun t21 h_4 =>
  pEq false .ptr t21 (.pointer none) fun t23 =>
  ifV t23
  (K (.bool false) h_4)
  (pLoadN 4 h_4 g7 fun t24 =>
  pLen l1 fun t29 =>
  pMin t29 (.int .i64 100) fun t30 =>
  pSlice 4 l1 none (some t30) none fun t31 =>
  callS P F_milestonelaw12_few [t24, l1] h_4 fun t26 h_5 =>
  pBuild [(.slice none 0 0), (.slice none 0 0), (.slice none 0 0)] [(0, 1, t26), (1, 1, t31), (2, 1, (.slice none 0 0))] fun t32 =>
  LoopH (σ := Vals [33]) (fun x hh ZZ => sh_milestonelaw12_TraceTells_L1 P t32 g7 t21 K far2 x.1 hh (fun a0 hz => ZZ (a0, ()) hz)) ((.int .i64 0), ()) h_5)

set_option maxRecDepth 100000 in
theorem lk_milestonelaw12_TraceTells (b0 l1 far2 : Value) {h : Heap} {K : Value → Heap → Prop} (H : sh_milestonelaw12_TraceTells Tryd.prog b0 l1 far2 h K) : CallsH Tryd.prog F_milestonelaw12_TraceTells [b0, l1, far2].toArray h K :=
  callsH_of (ann := (annG (Tryd.f3.body.getD .skip) 0 [(8, [33]), (14, [51]), (18, [11]), (26, [12])]).1) (c := Tryd.f3.body.getD .skip) Tryd.func3 (by kernel_rfl) (by kernel_rfl) (by kernel_rfl) (of_decide_eq_true (by kernel_rfl))
    (Eq.mpr (by kernel_rfl) H)

/-! milestone/milestonelaw12.TraceKnown -/

def sh_milestonelaw12_TraceKnown (P : Program) (h : Heap) (K : Value → Heap → Prop) : Prop :=
  pBuildSlice T_int64 (zerosL [(.int .i64 0)] 1) [(0, 1, (.int .i64 0))] 1 h fun t10 h_1 =>
  pBuild [(.int .i64 0), (.int .i64 0), (.int .i64 0)] [] fun t13 =>
  pBuildSlice T_api_Arc (zerosL [(.int .i64 0), (.int .i64 0), (.int .i64 0)] 1) [(0, 3, t13)] 1 h_1 fun t14 h_2 =>
  pBuild [(.int .i64 0), (.slice none 0 0), (.slice none 0 0), (.slice none 0 0)] [(0, 1, (.int .i64 1)), (1, 1, t10), (2, 1, t10), (3, 1, t14)] fun t15 =>
  callS P F_milestonelaw12_made [t15] h_2 fun t16 h_3 =>
  pEq false .ptr t16 (.pointer none) fun t18 =>
  ifV t18
  (K (.bool false) h_3)
  (callS P F_milestonelaw12_pop [(.int .i64 1), (.int .i64 0), (.int .i64 7)] h_3 fun t19 h_4 =>
  callS P F_milestonelaw12_scan [(.int .i64 1), (.int .i64 0)] h_4 fun t20 h_5 =>
  callS P F_milestonelaw12_pop [(.int .i64 0), (.int .i64 0), (.int .i64 (-3))] h_5 fun t21 h_6 =>
  pBuildSlice T_api_Event (zerosL [(.int .i64 0), (.int .i64 0), (.int .i64 0), (.int .i64 0)] 3) [(0, 4, t19), (4, 4, t20), (8, 4, t21)] 3 h_6 fun t22 h_7 =>
  pBuildSlice T_api_Event (zerosL [(.int .i64 0), (.int .i64 0), (.int .i64 0), (.int .i64 0)] 0) [] 0 h_7 fun t23 h_8 =>
  pAppend T_api_Event 4 32 [(.int .i64 0), (.int .i64 0), (.int .i64 0), (.int .i64 0)] t23 t22 h_8 fun t25 h_9 =>
  pIdx 4 t25 (.int .i64 1) fun t27 =>
  pField 3 t27 fun t28 =>
  pStore 1 t28 (.int .i64 1) h_9 fun u h_10 =>
  pBuildSlice T_int64 (zerosL [(.int .i64 0)] 1) [(0, 1, (.int .i64 5))] 1 h_10 fun t29 h_11 =>
  callS P F_trace_Label [t22, (.int .i64 0), (.int .i64 0)] h_11 fun t32 h_12 =>
  pExt t32 0 fun t33 =>
  pExt t32 1 fun t34 =>
  callS P F_trace_Label [t22, (.int .i64 2), (.int .i64 0)] h_12 fun t37 h_13 =>
  pExt t37 0 fun t38 =>
  pExt t37 1 fun t39 =>
  callS P F_milestonelaw12_works [] h_13 fun t40 h_14 =>
  ifV t40
  (callS P F_trace_Once [t16, t22] h_14 fun t44 h_15 =>
  ifV t44
  (callS P F_trace_Heads [t16, t22] h_15 fun t49 h_16 =>
  ifV t49
  (callS P F_trace_Once [t16, t25] h_16 fun t54 h_17 =>
  pUn .not t54 fun t55 =>
  ifV t55
  (callS P F_trace_Heads [t16, t25] h_17 fun t60 h_18 =>
  pUn .not t60 fun t61 =>
  ifV t61
  (callS P F_trace_Once [t16, (.slice none 0 0)] h_18 fun t65 h_19 =>
  ifV t65
  (callS P F_trace_Heads [t16, (.slice none 0 0)] h_19 fun t69 h_20 =>
  ifV t69
  (callS P F_trace_Once [(.pointer none), (.slice none 0 0)] h_20 fun t72 h_21 =>
  pUn .not t72 fun t73 =>
  ifV t73
  (callS P F_trace_Heads [(.pointer none), (.slice none 0 0)] h_21 fun t76 h_22 =>
  pUn .not t76 fun t77 =>
  ifV t77
  (pBin .eql t33 (.int .i64 (-3)) fun t81 =>
  ifV t81
  (ifV t34
  (pUn .not t39 fun t88 =>
  ifV t88
  (callS P F_trace_Beyond [t22, t29, (.int .i64 5)] h_22 fun t93 h_23 =>
  pBin .eql t93 (.int .i64 (-1)) fun t94 =>
  ifV t94
  (callS P F_trace_Beyond [t22, t29, (.int .i64 4)] h_23 fun t99 h_24 =>
  pBin .eql t99 (.int .i64 0) fun t100 =>
  ifV t100
  (callS P F_trace_Beyond [t22, (.slice none 0 0), (.int .i64 9)] h_24 fun t104 h_25 =>
  pBin .eql t104 (.int .i64 0) fun t105 =>
  ifV t105
  (callS P F_trace_Beyond [(.slice none 0 0), (.slice none 0 0), (.int .i64 9)] h_25 fun t108 h_26 =>
  pBin .eql t108 (.int .i64 (-1)) fun t109 =>
  ifV t109
  (pSlice 4 t22 (some (.int .i64 1)) none none fun t113 =>
  callS P F_trace_Beyond [t113, t29, (.int .i64 4)] h_26 fun t115 h_27 =>
  pBin .eql t115 (.int .i64 1) fun t116 =>
  ifV t116
  (callS P F_trace_Pops [t22, (.int .i64 1)] h_27 fun t120 h_28 =>
  pLen t120 fun t121 =>
  pBin .eql t121 (.int .i64 1) fun t122 =>
  ifV t122
  (callS P F_trace_Scans [t22, (.int .i64 0)] h_28 fun t126 h_29 =>
  pLen t126 fun t127 =>
  pBin .eql t127 (.int .i64 0) fun t128 =>
  K t128 h_29)
  (K (.bool false) h_28))
  (K (.bool false) h_27))
  (K (.bool false) h_26))
  (K (.bool false) h_25))
  (K (.bool false) h_24))
  (K (.bool false) h_23))
  (K (.bool false) h_22))
  (K (.bool false) h_22))
  (K (.bool false) h_22))
  (K (.bool false) h_22))
  (K (.bool false) h_21))
  (K (.bool false) h_20))
  (K (.bool false) h_19))
  (K (.bool false) h_18))
  (K (.bool false) h_17))
  (K (.bool false) h_16))
  (K (.bool false) h_15))
  (K (.bool false) h_14))

set_option maxRecDepth 100000 in
theorem lk_milestonelaw12_TraceKnown {h : Heap} {K : Value → Heap → Prop} (H : sh_milestonelaw12_TraceKnown Tryd.prog h K) : CallsH Tryd.prog F_milestonelaw12_TraceKnown [].toArray h K :=
  callsH_of (ann := (annG (Tryd.f4.body.getD .skip) 0 []).1) (c := Tryd.f4.body.getD .skip) Tryd.func4 (by kernel_rfl) (by kernel_rfl) (by kernel_rfl) (of_decide_eq_true (by kernel_rfl))
    (Eq.mpr (by kernel_rfl) H)

/-! milestone/milestonelaw12.drawn -/

def sh_milestonelaw12_drawn (P : Program) (b0 : Value) (h : Heap) (K : Value → Heap → Prop) : Prop :=
  pBox T_api_Raw (.agg #[(.int .i64 0), (.slice none 0 0), (.slice none 0 0), (.slice none 0 0)]) h fun t2 h_1 =>
  pLen b0 fun t6 =>
  pMin t6 (.int .i64 80) fun t7 =>
  pSlice 1 b0 none (some t7) none fun t8 =>
  pBuild [(.slice none 0 0), (.int .i64 0)] [(0, 1, t8)] fun t9 =>
  pBox T_milestoneref07_Draft t9 h_1 fun t10 h_2 =>
  callS P F_milestoneref07_Draft_Raw [t10] h_2 fun t12 h_3 =>
  pStore 4 t2 t12 h_3 fun u h_4 =>
  pLoadN 4 h_4 t2 fun res =>
  K res h_4

set_option maxRecDepth 100000 in
theorem lk_milestonelaw12_drawn (b0 : Value) {h : Heap} {K : Value → Heap → Prop} (H : sh_milestonelaw12_drawn Tryd.prog b0 h K) : CallsH Tryd.prog F_milestonelaw12_drawn [b0].toArray h K :=
  callsH_of (ann := (annG (Tryd.f5.body.getD .skip) 0 []).1) (c := Tryd.f5.body.getD .skip) Tryd.func5 (by kernel_rfl) (by kernel_rfl) (by kernel_rfl) (of_decide_eq_true (by kernel_rfl))
    (Eq.mpr (by kernel_rfl) H)

/-! milestone/milestonelaw12.made -/

def sh_milestonelaw12_made (P : Program) (g0 : Value) (h : Heap) (K : Value → Heap → Prop) : Prop :=
  pBox T_api_Raw g0 h fun g1 h_1 =>
  pLoadN 4 h_1 g1 fun t6 =>
  callS P F_net_New [t6] h_1 fun t7 h_2 =>
  pExt t7 0 fun t8 =>
  pExt t7 1 fun t9 =>
  pEq true .iface t9 .nilIface fun t11 =>
  ifV t11
  (K (.pointer none) h_2)
  (K t8 h_2)

set_option maxRecDepth 100000 in
theorem lk_milestonelaw12_made (g0 : Value) {h : Heap} {K : Value → Heap → Prop} (H : sh_milestonelaw12_made Tryd.prog g0 h K) : CallsH Tryd.prog F_milestonelaw12_made [g0].toArray h K :=
  callsH_of (ann := (annG (Tryd.f6.body.getD .skip) 0 []).1) (c := Tryd.f6.body.getD .skip) Tryd.func6 (by kernel_rfl) (by kernel_rfl) (by kernel_rfl) (of_decide_eq_true (by kernel_rfl))
    (Eq.mpr (by kernel_rfl) H)

/-! milestone/milestonelaw12.few -/

def sh_milestonelaw12_few_k3 (P : Program) (e7 out5 i6 : Value) (Z : Value → Value → Heap → Prop) (h_10 : Heap) : Prop :=
  pLoadN 4 h_10 e7 fun t69 =>
  pBuildSlice T_api_Event (zerosL [(.int .i64 0), (.int .i64 0), (.int .i64 0), (.int .i64 0)] 1) [(0, 4, t69)] 1 h_10 fun t70 h_11 =>
  pAppend T_api_Event 4 32 [(.int .i64 0), (.int .i64 0), (.int .i64 0), (.int .i64 0)] out5 t70 h_11 fun t71 h_12 =>
  pBin .add i6 (.int .i64 1) fun t18 =>
  Z t71 t18 h_12

def sh_milestonelaw12_few_k2 (P : Program) (e7 out5 i6 : Value) (Z : Value → Value → Heap → Prop) (most8 : Value) (h_8 : Heap) : Prop :=
  pField 2 e7 fun t50 =>
  pLoad h_8 t50 fun t51 =>
  pBin .geq t51 (.int .i64 0) fun t52 =>
  ifV t52
  (pBin .gtr most8 (.int .i64 0) fun t55 =>
  ifV t55
  (pField 2 e7 fun t58 =>
  pLoad h_8 t58 fun t59 =>
  pBin .rem t59 (.int .i64 16) fun t60 =>
  pBin .neq t60 (.int .i64 15) fun t61 =>
  ifV t61
  (pField 2 e7 fun t63 =>
  pLoad h_8 t63 fun t64 =>
  pBin .rem t64 most8 fun t66 =>
  pField 2 e7 fun t67 =>
  pStore 1 t67 t66 h_8 fun u_4 h_9 =>
  sh_milestonelaw12_few_k3 P e7 out5 i6 Z h_9)
  (sh_milestonelaw12_few_k3 P e7 out5 i6 Z h_8))
  (sh_milestonelaw12_few_k3 P e7 out5 i6 Z h_8))
  (sh_milestonelaw12_few_k3 P e7 out5 i6 Z h_8)

def sh_milestonelaw12_few_k4 (P : Program) (K : Value → Heap → Prop) (out5 : Value) (h_13 : Heap) : Prop :=
  K out5 h_13

def sh_milestonelaw12_few_L1 (P : Program) (l1 g2 : Value) (K : Value → Heap → Prop) (out5 i6 : Value) (h_2 : Heap) (Z : Value → Value → Heap → Prop) : Prop :=
  pLen l1 fun t11 =>
  pBin .lss i6 t11 fun t12 =>
  ifV t12
  (pBin .lss i6 (.int .i64 100) fun t15 =>
  ifV t15
  (pIdx 4 l1 i6 fun t21 =>
  pLoadN 4 h_2 t21 fun t22 =>
  pBox T_api_Event (.agg #[(.int .i64 0), (.int .i64 0), (.int .i64 0), (.int .i64 0)]) h_2 fun e7 h_3 =>
  pStore 4 e7 t22 h_3 fun u h_4 =>
  pField 0 e7 fun t23 =>
  pLoad h_4 t23 fun t24 =>
  pConv .u64 t24 fun t25 =>
  pBin .rem t25 (.int .u64 5) fun t26 =>
  pConv .i64 t26 fun t27 =>
  pBin .rem t27 (.int .i64 2) fun t28 =>
  pField 0 e7 fun t29 =>
  pStore 1 t29 t28 h_4 fun u_1 h_5 =>
  pField 1 e7 fun t30 =>
  pLoad h_5 t30 fun t31 =>
  pConv .u64 t31 fun t32 =>
  pBin .rem t32 (.int .u64 9) fun t33 =>
  pConv .i64 t33 fun t34 =>
  pBin .rem t34 (.int .i64 2) fun t35 =>
  pField 1 e7 fun t36 =>
  pStore 1 t36 t35 h_5 fun u_2 h_6 =>
  pField 0 g2 fun t37 =>
  pLoad h_6 t37 fun t38 =>
  pField 0 e7 fun t39 =>
  pLoad h_6 t39 fun t40 =>
  pBin .eql t40 (.int .i64 1) fun t41 =>
  ifV t41
  (pField 3 g2 fun t42 =>
  pLoad h_6 t42 fun t43 =>
  pLen t43 fun t44 =>
  pField 3 e7 fun t45 =>
  pLoad h_6 t45 fun t46 =>
  pBin .rem t46 (.int .i64 8) fun t47 =>
  pBin .neq t47 (.int .i64 1) fun t48 =>
  ifV t48
  (pField 3 e7 fun t49 =>
  pStore 1 t49 (.int .i64 0) h_6 fun u_3 h_7 =>
  sh_milestonelaw12_few_k2 P e7 out5 i6 Z t44 h_7)
  (sh_milestonelaw12_few_k2 P e7 out5 i6 Z t44 h_6))
  (sh_milestonelaw12_few_k2 P e7 out5 i6 Z t38 h_6))
  (sh_milestonelaw12_few_k4 P K out5 h_2))
  (sh_milestonelaw12_few_k4 P K out5 h_2)

def sh_milestonelaw12_few (P : Program) (g0 l1 : Value) (h : Heap) (K : Value → Heap → Prop) : Prop :=
  pBox T_api_Raw g0 h fun g2 h_1 =>
  LoopH (σ := Vals [5, 6]) (fun x hh ZZ => sh_milestonelaw12_few_L1 P l1 g2 K x.1 x.2.1 hh (fun a0 a1 hz => ZZ (a0, (a1, ())) hz)) ((.slice none 0 0), ((.int .i64 0), ())) h_1

set_option maxRecDepth 100000 in
theorem lk_milestonelaw12_few (g0 l1 : Value) {h : Heap} {K : Value → Heap → Prop} (H : sh_milestonelaw12_few Tryd.prog g0 l1 h K) : CallsH Tryd.prog F_milestonelaw12_few [g0, l1].toArray h K :=
  callsH_of (ann := (annG (Tryd.f7.body.getD .skip) 0 [(4, [5, 6])]).1) (c := Tryd.f7.body.getD .skip) Tryd.func7 (by kernel_rfl) (by kernel_rfl) (by kernel_rfl) (of_decide_eq_true (by kernel_rfl))
    (Eq.mpr (by kernel_rfl) H)

/-! milestone/trace.Once -/

def sh_trace_Once (P : Program) (n0 l1 : Value) (h : Heap) (K : Value → Heap → Prop) : Prop :=
  pEq false .ptr n0 (.pointer none) fun t8 =>
  ifV t8
  (K (.bool false) h)
  (callS P F_trace_may [n0] h fun t10 h_1 =>
  pBox T_func_api_Event_bool .nilFunc h_1 fun right5 h_2 =>
  pStore 1 right5 t10 h_2 fun u h_3 =>
  pMakeMap h_3 fun t11 h_4 =>
  pBox T_map_3_int_int (.map none) h_4 fun seen6 h_5 =>
  pStore 1 seen6 t11 h_5 fun u_1 h_6 =>
  callS P F_slices_ContainsFunc_sl_api_Event_api_Event [l1, (.func (.func F_trace_Once_1) #[] #[seen6, right5])] h_6 fun t14 h_7 =>
  pUn .not t14 fun t15 =>
  K t15 h_7)

set_option maxRecDepth 100000 in
theorem lk_trace_Once (n0 l1 : Value) {h : Heap} {K : Value → Heap → Prop} (H : sh_trace_Once Tryd.prog n0 l1 h K) : CallsH Tryd.prog F_trace_Once [n0, l1].toArray h K :=
  callsH_of (ann := (annG (Tryd.f8.body.getD .skip) 0 []).1) (c := Tryd.f8.body.getD .skip) Tryd.func8 (by kernel_rfl) (by kernel_rfl) (by kernel_rfl) (of_decide_eq_true (by kernel_rfl))
    (Eq.mpr (by kernel_rfl) H)

/-! milestone/milestoneref12.Once -/

def sh_milestoneref12_Once_C3 (P : Program) (K : Value → Heap → Prop) (k6 : Value) (Z_1 : Value → Heap → Prop) (t61 : Value) (h_5 : Heap) : Prop :=
  ifV t61
  (K (.bool false) h_5)
  (pBin .add k6 (.int .i64 1) fun t24 =>
  Z_1 t24 h_5)

def sh_milestoneref12_Once_L2 (P : Program) (i5 l1 : Value) (K Z : Value → Heap → Prop) (k6 : Value) (h_4 : Heap) (Z_1 : Value → Heap → Prop) : Prop :=
  pBin .lss k6 i5 fun t22 =>
  ifV t22
  (cutP (σ := Vals [61]) (fun J =>
  pIdx 4 l1 k6 fun t27 =>
  pField 0 t27 fun t28 =>
  pLoad h_4 t28 fun t29 =>
  pIdx 4 l1 i5 fun t32 =>
  pField 0 t32 fun t33 =>
  pLoad h_4 t33 fun t34 =>
  pBin .eql t29 t34 fun t35 =>
  ifV t35
  (pIdx 4 l1 k6 fun t39 =>
  pField 1 t39 fun t40 =>
  pLoad h_4 t40 fun t41 =>
  pIdx 4 l1 i5 fun t44 =>
  pField 1 t44 fun t45 =>
  pLoad h_4 t45 fun t46 =>
  pBin .eql t41 t46 fun t47 =>
  ifV t47
  (pIdx 4 l1 k6 fun t52 =>
  pField 2 t52 fun t53 =>
  pLoad h_4 t53 fun t54 =>
  pIdx 4 l1 i5 fun t57 =>
  pField 2 t57 fun t58 =>
  pLoad h_4 t58 fun t59 =>
  pBin .eql t54 t59 fun t60 =>
  J (t60, ()) h_4)
  (J ((.bool false), ()) h_4))
  (J ((.bool false), ()) h_4))
  (fun x hh => sh_milestoneref12_Once_C3 P K k6 Z_1 x.1 hh))
  (pBin .add i5 (.int .i64 1) fun t12 =>
  Z t12 h_4)

def sh_milestoneref12_Once_L1 (P : Program) (l1 g2 : Value) (K : Value → Heap → Prop) (i5 : Value) (h_2 : Heap) (Z : Value → Heap → Prop) : Prop :=
  pLen l1 fun t9 =>
  pBin .lss i5 t9 fun t10 =>
  ifV t10
  (pLoadN 4 h_2 g2 fun t13 =>
  pIdx 4 l1 i5 fun t16 =>
  pLoadN 4 h_2 t16 fun t17 =>
  callS P F_milestoneref12_may [t13, t17] h_2 fun t18 h_3 =>
  pUn .not t18 fun t19 =>
  ifV t19
  (K (.bool false) h_3)
  (LoopH (σ := Vals [6]) (fun x hh ZZ => sh_milestoneref12_Once_L2 P i5 l1 K Z x.1 hh (fun a0 hz => ZZ (a0, ()) hz)) ((.int .i64 0), ()) h_3))
  (K (.bool true) h_2)

def sh_milestoneref12_Once (P : Program) (g0 l1 : Value) (h : Heap) (K : Value → Heap → Prop) : Prop :=
  pBox T_api_Raw g0 h fun g2 h_1 =>
  LoopH (σ := Vals [5]) (fun x hh ZZ => sh_milestoneref12_Once_L1 P l1 g2 K x.1 hh (fun a0 hz => ZZ (a0, ()) hz)) ((.int .i64 0), ()) h_1

set_option maxRecDepth 100000 in
theorem lk_milestoneref12_Once (g0 l1 : Value) {h : Heap} {K : Value → Heap → Prop} (H : sh_milestoneref12_Once Tryd.prog g0 l1 h K) : CallsH Tryd.prog F_milestoneref12_Once [g0, l1].toArray h K :=
  callsH_of (ann := (annG (Tryd.f9.body.getD .skip) 0 [(3, [5]), (11, [6]), (15, [61])]).1) (c := Tryd.f9.body.getD .skip) Tryd.func9 (by kernel_rfl) (by kernel_rfl) (by kernel_rfl) (of_decide_eq_true (by kernel_rfl))
    (Eq.mpr (by kernel_rfl) H)

/-! milestone/trace.Heads -/

def sh_trace_Heads (P : Program) (n0 l1 : Value) (h : Heap) (K : Value → Heap → Prop) : Prop :=
  pBox T_p_net_Net n0 h fun n2 h_1 =>
  pLoad h_1 n2 fun t7 =>
  pEq false .ptr t7 (.pointer none) fun t8 =>
  ifV t8
  (K (.bool false) h_1)
  (pLoad h_1 n2 fun t9 =>
  callS P F_trace_may [t9] h_1 fun t10 h_2 =>
  pBox T_func_api_Event_bool .nilFunc h_2 fun right5 h_3 =>
  pStore 1 right5 t10 h_3 fun u h_4 =>
  pBuild [(.int .i64 0), (.int .i64 0)] [(0, 1, (.int .i64 (-1))), (1, 1, (.int .i64 (-1)))] fun t11 =>
  pBox T_2_int (.agg #[(.int .i64 0), (.int .i64 0)]) h_4 fun last6 h_5 =>
  pStore 2 last6 t11 h_5 fun u_1 h_6 =>
  callS P F_slices_ContainsFunc_sl_api_Event_api_Event [l1, (.func (.func F_trace_Heads_1) #[] #[right5, last6, n2])] h_6 fun t14 h_7 =>
  pUn .not t14 fun t15 =>
  K t15 h_7)

set_option maxRecDepth 100000 in
theorem lk_trace_Heads (n0 l1 : Value) {h : Heap} {K : Value → Heap → Prop} (H : sh_trace_Heads Tryd.prog n0 l1 h K) : CallsH Tryd.prog F_trace_Heads [n0, l1].toArray h K :=
  callsH_of (ann := (annG (Tryd.f10.body.getD .skip) 0 []).1) (c := Tryd.f10.body.getD .skip) Tryd.func10 (by kernel_rfl) (by kernel_rfl) (by kernel_rfl) (of_decide_eq_true (by kernel_rfl))
    (Eq.mpr (by kernel_rfl) H)

/-! milestone/milestoneref12.Heads -/

def sh_milestoneref12_Heads_k2 (P : Program) (i6 : Value) (Z : Value → Heap → Prop) (h_7 : Heap) : Prop :=
  pBin .add i6 (.int .i64 1) fun t13 =>
  Z t13 h_7

def sh_milestoneref12_Heads_L1 (P : Program) (l1 g2 : Value) (K : Value → Heap → Prop) (last5 i6 : Value) (h_4 : Heap) (Z : Value → Heap → Prop) : Prop :=
  pLen l1 fun t10 =>
  pBin .lss i6 t10 fun t11 =>
  ifV t11
  (pLoadN 4 h_4 g2 fun t14 =>
  pIdx 4 l1 i6 fun t17 =>
  pLoadN 4 h_4 t17 fun t18 =>
  callS P F_milestoneref12_may [t14, t18] h_4 fun t19 h_5 =>
  pUn .not t19 fun t20 =>
  ifV t20
  (K (.bool false) h_5)
  (pIdx 4 l1 i6 fun t23 =>
  pField 0 t23 fun t24 =>
  pLoad h_5 t24 fun t25 =>
  pBin .eql t25 (.int .i64 0) fun t26 =>
  ifV t26
  (pIdx 4 l1 i6 fun t29 =>
  pField 1 t29 fun t30 =>
  pLoad h_5 t30 fun t31 =>
  pIdx 4 l1 i6 fun t34 =>
  pField 2 t34 fun t35 =>
  pLoad h_5 t35 fun t36 =>
  pIdxA 1 2 last5 t31 fun t37 =>
  pStore 1 t37 t36 h_5 fun u_1 h_6 =>
  sh_milestoneref12_Heads_k2 P i6 Z h_6)
  (pIdx 4 l1 i6 fun t40 =>
  pField 1 t40 fun t41 =>
  pLoad h_5 t41 fun t42 =>
  pIdxA 1 2 last5 t42 fun t43 =>
  pLoad h_5 t43 fun t44 =>
  pLoadN 4 h_5 g2 fun t45 =>
  pIdx 4 l1 i6 fun t48 =>
  pField 2 t48 fun t49 =>
  pLoad h_5 t49 fun t50 =>
  pIdx 4 l1 i6 fun t53 =>
  pField 1 t53 fun t54 =>
  pLoad h_5 t54 fun t55 =>
  callS P F_milestoneref12_tail [t45, t50, t55] h_5 fun t56 h_8 =>
  (pLoad h_8 t41 fun t42_1 =>
  t42_1 = t42) ∧
  (pLoad h_8 t43 fun t44_1 =>
  t44_1 = t44) ∧
  (pBin .neq t44 t56 fun t57 =>
  ifV t57
  (K (.bool false) h_8)
  (sh_milestoneref12_Heads_k2 P i6 Z h_8)))))
  (K (.bool true) h_4)

def sh_milestoneref12_Heads (P : Program) (g0 l1 : Value) (h : Heap) (K : Value → Heap → Prop) : Prop :=
  pBox T_api_Raw g0 h fun g2 h_1 =>
  pBuild [(.int .i64 0), (.int .i64 0)] [(0, 1, (.int .i64 (-1))), (1, 1, (.int .i64 (-1)))] fun t7 =>
  pBox T_2_int (.agg #[(.int .i64 0), (.int .i64 0)]) h_1 fun last5 h_2 =>
  pStore 2 last5 t7 h_2 fun u h_3 =>
  LoopH (σ := Vals [6]) (fun x hh ZZ => sh_milestoneref12_Heads_L1 P l1 g2 K last5 x.1 hh (fun a0 hz => ZZ (a0, ()) hz)) ((.int .i64 0), ()) h_3

set_option maxRecDepth 100000 in
theorem lk_milestoneref12_Heads (g0 l1 : Value) {h : Heap} {K : Value → Heap → Prop} (H : sh_milestoneref12_Heads Tryd.prog g0 l1 h K) : CallsH Tryd.prog F_milestoneref12_Heads [g0, l1].toArray h K :=
  callsH_of (ann := (annG (Tryd.f11.body.getD .skip) 0 [(4, [6])]).1) (c := Tryd.f11.body.getD .skip) Tryd.func11 (by kernel_rfl) (by kernel_rfl) (by kernel_rfl) (of_decide_eq_true (by kernel_rfl))
    (Eq.mpr (by kernel_rfl) H)

/-! milestone/milestoneref07.Ints -/

def sh_milestoneref07_Ints_L1 (P : Program) (a0 b1 : Value) (K : Value → Heap → Prop) (i5 : Value) (h_1 : Heap) (Z : Value → Heap → Prop) : Prop :=
  pLen a0 fun t13 =>
  pBin .lss i5 t13 fun t14 =>
  ifV t14
  (pIdx 1 a0 i5 fun t19 =>
  pLoad h_1 t19 fun t20 =>
  pIdx 1 b1 i5 fun t23 =>
  pLoad h_1 t23 fun t24 =>
  pBin .neq t20 t24 fun t25 =>
  ifV t25
  (K (.bool false) h_1)
  (pBin .add i5 (.int .i64 1) fun t16 =>
  Z t16 h_1))
  (K (.bool true) h_1)

def sh_milestoneref07_Ints (P : Program) (a0 b1 : Value) (h : Heap) (K : Value → Heap → Prop) : Prop :=
  pLen a0 fun t7 =>
  pLen b1 fun t9 =>
  pBin .neq t7 t9 fun t10 =>
  ifV t10
  (K (.bool false) h)
  (LoopH (σ := Vals [5]) (fun x hh ZZ => sh_milestoneref07_Ints_L1 P a0 b1 K x.1 hh (fun a0 hz => ZZ (a0, ()) hz)) ((.int .i64 0), ()) h)

set_option maxRecDepth 100000 in
theorem lk_milestoneref07_Ints (a0 b1 : Value) {h : Heap} {K : Value → Heap → Prop} (H : sh_milestoneref07_Ints Tryd.prog a0 b1 h K) : CallsH Tryd.prog F_milestoneref07_Ints [a0, b1].toArray h K :=
  callsH_of (ann := (annG (Tryd.f12.body.getD .skip) 0 [(6, [5])]).1) (c := Tryd.f12.body.getD .skip) Tryd.func12 (by kernel_rfl) (by kernel_rfl) (by kernel_rfl) (of_decide_eq_true (by kernel_rfl))
    (Eq.mpr (by kernel_rfl) H)

/-! milestone/trace.Pops -/

def sh_trace_Pops (P : Program) (l0 side1 : Value) (h : Heap) (K : Value → Heap → Prop) : Prop :=
  callS P F_trace_of [l0, (.int .i64 0), side1] h fun t7 h_1 =>
  callS P F_trace_told_int [t7, (.func (.func F_trace_id) #[] #[])] h_1 fun t8 h_2 =>
  K t8 h_2

set_option maxRecDepth 100000 in
theorem lk_trace_Pops (l0 side1 : Value) {h : Heap} {K : Value → Heap → Prop} (H : sh_trace_Pops Tryd.prog l0 side1 h K) : CallsH Tryd.prog F_trace_Pops [l0, side1].toArray h K :=
  callsH_of (ann := (annG (Tryd.f13.body.getD .skip) 0 []).1) (c := Tryd.f13.body.getD .skip) Tryd.func13 (by kernel_rfl) (by kernel_rfl) (by kernel_rfl) (of_decide_eq_true (by kernel_rfl))
    (Eq.mpr (by kernel_rfl) H)

/-! milestone/milestoneref12.Of -/

def sh_milestoneref12_Of_k2 (P : Program) (i8 : Value) (Z : Value → Value → Heap → Prop) (out7_1 : Value) (h_4 : Heap) : Prop :=
  pBin .add i8 (.int .i64 1) fun t14 =>
  Z out7_1 t14 h_4

def sh_milestoneref12_Of_L1 (P : Program) (l0 kind1 side2 : Value) (K : Value → Heap → Prop) (out7 i8 : Value) (h_1 : Heap) (Z : Value → Value → Heap → Prop) : Prop :=
  pLen l0 fun t11 =>
  pBin .lss i8 t11 fun t12 =>
  ifV t12
  (pIdx 4 l0 i8 fun t17 =>
  pField 0 t17 fun t18 =>
  pLoad h_1 t18 fun t19 =>
  pBin .eql t19 kind1 fun t21 =>
  ifV t21
  (pIdx 4 l0 i8 fun t25 =>
  pField 1 t25 fun t26 =>
  pLoad h_1 t26 fun t27 =>
  pBin .eql t27 side2 fun t29 =>
  ifV t29
  (pIdx 4 l0 i8 fun t34 =>
  pField 2 t34 fun t35 =>
  pLoad h_1 t35 fun t36 =>
  pBuildSlice T_int (zerosL [(.int .i64 0)] 1) [(0, 1, t36)] 1 h_1 fun t37 h_2 =>
  pAppend T_int 1 8 [(.int .i64 0)] out7 t37 h_2 fun t38 h_3 =>
  sh_milestoneref12_Of_k2 P i8 Z t38 h_3)
  (sh_milestoneref12_Of_k2 P i8 Z out7 h_1))
  (sh_milestoneref12_Of_k2 P i8 Z out7 h_1))
  (K out7 h_1)

def sh_milestoneref12_Of (P : Program) (l0 kind1 side2 : Value) (h : Heap) (K : Value → Heap → Prop) : Prop :=
  LoopH (σ := Vals [7, 8]) (fun x hh ZZ => sh_milestoneref12_Of_L1 P l0 kind1 side2 K x.1 x.2.1 hh (fun a0 a1 hz => ZZ (a0, (a1, ())) hz)) ((.slice none 0 0), ((.int .i64 0), ())) h

set_option maxRecDepth 100000 in
theorem lk_milestoneref12_Of (l0 kind1 side2 : Value) {h : Heap} {K : Value → Heap → Prop} (H : sh_milestoneref12_Of Tryd.prog l0 kind1 side2 h K) : CallsH Tryd.prog F_milestoneref12_Of [l0, kind1, side2].toArray h K :=
  callsH_of (ann := (annG (Tryd.f14.body.getD .skip) 0 [(4, [7, 8])]).1) (c := Tryd.f14.body.getD .skip) Tryd.func14 (by kernel_rfl) (by kernel_rfl) (by kernel_rfl) (of_decide_eq_true (by kernel_rfl))
    (Eq.mpr (by kernel_rfl) H)

/-! milestone/trace.Scans -/

def sh_trace_Scans (P : Program) (l0 side1 : Value) (h : Heap) (K : Value → Heap → Prop) : Prop :=
  callS P F_trace_of [l0, (.int .i64 1), side1] h fun t7 h_1 =>
  callS P F_trace_told_int [t7, (.func (.func F_trace_id) #[] #[])] h_1 fun t8 h_2 =>
  K t8 h_2

set_option maxRecDepth 100000 in
theorem lk_trace_Scans (l0 side1 : Value) {h : Heap} {K : Value → Heap → Prop} (H : sh_trace_Scans Tryd.prog l0 side1 h K) : CallsH Tryd.prog F_trace_Scans [l0, side1].toArray h K :=
  callsH_of (ann := (annG (Tryd.f15.body.getD .skip) 0 []).1) (c := Tryd.f15.body.getD .skip) Tryd.func15 (by kernel_rfl) (by kernel_rfl) (by kernel_rfl) (of_decide_eq_true (by kernel_rfl))
    (Eq.mpr (by kernel_rfl) H)

/-! milestone/trace.Label -/

def sh_trace_Label_B1 (P : Program) (h_4 : Heap) (v5 t6 t7 : Value) (L : Loop) (t13 t14 : Value) (h_5 : Heap) (R : Exit → Heap → Prop) : Prop :=
  pBox T_api_Event (.agg #[(.int .i64 0), (.int .i64 0), (.int .i64 0), (.int .i64 0)]) h_5 fun e9 h_6 =>
  pStore 4 e9 t14 h_6 fun u h_7 =>
  beginR (h_4.size + 1) L h_7 fun h_8 =>
  pField 2 e9 fun t15 =>
  pLoad h_8 t15 fun t16 =>
  pLoad h_8 v5 fun t17 =>
  pBin .eql t16 t17 fun t18 =>
  ifV t18
  (pField 3 e9 fun t19 =>
  pLoad h_8 t19 fun t20 =>
  pStore 1 t6 t20 h_8 fun u_1 h_9 =>
  pStore 1 t7 (.bool true) h_9 fun u_2 h_10 =>
  R .ret h_10)
  (R .normal h_8)

def sh_trace_Label (P : Program) (l0 side1 v2 : Value) (h : Heap) (K : Value → Heap → Prop) : Prop :=
  pBox T_int v2 h fun v5 h_1 =>
  pBox T_int64 (.int .i64 0) h_1 fun t6 h_2 =>
  pBox T_bool (.bool false) h_2 fun t7 h_3 =>
  callS P F_trace_of [l0, (.int .i64 0), side1] h_3 fun t12 h_4 =>
  rangeH P t12 [13, 14] (h_4.size + 1) (h_4.push (.deferred (some []))) (fun L x hh R => sh_trace_Label_B1 P h_4 v5 t6 t7 L x.1 x.2.1 hh R)
  (fun h_11 => pStore 1 t6 (.int .i64 0) h_11 fun u_3 h_12 =>
  pStore 1 t7 (.bool false) h_12 fun u_4 h_13 =>
  takeM (h_4.size :: []) h_13 fun h_14 =>
  pLoad h_14 t6 fun res =>
  pLoad h_14 t7 fun res_1 =>
  K (.tuple #[res, res_1]) h_14)
  (fun h_15 => takeM (h_4.size :: []) h_15 fun h_16 =>
  pLoad h_16 t6 fun res_2 =>
  pLoad h_16 t7 fun res_3 =>
  K (.tuple #[res_2, res_3]) h_16)
  []

set_option maxRecDepth 100000 in
theorem lk_trace_Label (l0 side1 v2 : Value) {h : Heap} {K : Value → Heap → Prop} (H : sh_trace_Label Tryd.prog l0 side1 v2 h K) : CallsH Tryd.prog F_trace_Label [l0, side1, v2].toArray h K :=
  callsH_of (ann := (annG (Tryd.f16.body.getD .skip) 0 []).1) (c := Tryd.f16.body.getD .skip) Tryd.func16 (by kernel_rfl) (by kernel_rfl) (by kernel_rfl) (of_decide_eq_true (by kernel_rfl))
    (Eq.mpr (by kernel_rfl) H)

end Go.Proofs.YtgefabaobhendaaDoor

namespace Go.Proofs.YtgefabaobhendaaDoor
open Go Go.Mh
set_option maxHeartbeats 0
set_option linter.unusedVariables false

/-! milestone/milestoneref12.Label -/

def sh_milestoneref12_Label_k2 (P : Program) (i8 : Value) (Z : Value → Heap → Prop) (h_2 : Heap) : Prop :=
  pBin .add i8 (.int .i64 1) fun t14 =>
  Z t14 h_2

def sh_milestoneref12_Label_L1 (P : Program) (l0 side1 v2 : Value) (K : Value → Heap → Prop) (i8 : Value) (h_1 : Heap) (Z : Value → Heap → Prop) : Prop :=
  pLen l0 fun t11 =>
  pBin .lss i8 t11 fun t12 =>
  ifV t12
  (pIdx 4 l0 i8 fun t17 =>
  pField 0 t17 fun t18 =>
  pLoad h_1 t18 fun t19 =>
  pBin .eql t19 (.int .i64 0) fun t20 =>
  ifV t20
  (pIdx 4 l0 i8 fun t24 =>
  pField 1 t24 fun t25 =>
  pLoad h_1 t25 fun t26 =>
  pBin .eql t26 side1 fun t28 =>
  ifV t28
  (pIdx 4 l0 i8 fun t33 =>
  pField 2 t33 fun t34 =>
  pLoad h_1 t34 fun t35 =>
  pBin .eql t35 v2 fun t37 =>
  ifV t37
  (pIdx 4 l0 i8 fun t41 =>
  pField 3 t41 fun t42 =>
  pLoad h_1 t42 fun t43 =>
  K (.tuple #[t43, (.bool true)]) h_1)
  (sh_milestoneref12_Label_k2 P i8 Z h_1))
  (sh_milestoneref12_Label_k2 P i8 Z h_1))
  (sh_milestoneref12_Label_k2 P i8 Z h_1))
  (K (.tuple #[(.int .i64 0), (.bool false)]) h_1)

def sh_milestoneref12_Label (P : Program) (l0 side1 v2 : Value) (h : Heap) (K : Value → Heap → Prop) : Prop :=
  LoopH (σ := Vals [8]) (fun x hh ZZ => sh_milestoneref12_Label_L1 P l0 side1 v2 K x.1 hh (fun a0 hz => ZZ (a0, ()) hz)) ((.int .i64 0), ()) h

set_option maxRecDepth 100000 in
theorem lk_milestoneref12_Label (l0 side1 v2 : Value) {h : Heap} {K : Value → Heap → Prop} (H : sh_milestoneref12_Label Tryd.prog l0 side1 v2 h K) : CallsH Tryd.prog F_milestoneref12_Label [l0, side1, v2].toArray h K :=
  callsH_of (ann := (annG (Tryd.f17.body.getD .skip) 0 [(3, [8])]).1) (c := Tryd.f17.body.getD .skip) Tryd.func17 (by kernel_rfl) (by kernel_rfl) (by kernel_rfl) (of_decide_eq_true (by kernel_rfl))
    (Eq.mpr (by kernel_rfl) H)

/-! milestone/trace.Beyond -/

def sh_trace_Beyond (P : Program) (l0 far1 most2 : Value) (h : Heap) (K : Value → Heap → Prop) : Prop :=
  pBox T_sl_int64 far1 h fun far4 h_1 =>
  pBox T_int64 most2 h_1 fun most5 h_2 =>
  callS P F_slices_IndexFunc_sl_api_Event_api_Event [l0, (.func (.func F_trace_Beyond_1) #[] #[far4, most5])] h_2 fun t9 h_3 =>
  K t9 h_3

set_option maxRecDepth 100000 in
theorem lk_trace_Beyond (l0 far1 most2 : Value) {h : Heap} {K : Value → Heap → Prop} (H : sh_trace_Beyond Tryd.prog l0 far1 most2 h K) : CallsH Tryd.prog F_trace_Beyond [l0, far1, most2].toArray h K :=
  callsH_of (ann := (annG (Tryd.f18.body.getD .skip) 0 []).1) (c := Tryd.f18.body.getD .skip) Tryd.func18 (by kernel_rfl) (by kernel_rfl) (by kernel_rfl) (of_decide_eq_true (by kernel_rfl))
    (Eq.mpr (by kernel_rfl) H)

/-! milestone/milestoneref12.Beyond -/

def sh_milestoneref12_Beyond_k2 (P : Program) (K : Value → Heap → Prop) (i7 : Value) (h_2 : Heap) : Prop :=
  K i7 h_2

def sh_milestoneref12_Beyond_k3 (P : Program) (i7 : Value) (Z : Value → Heap → Prop) (h_3 : Heap) : Prop :=
  pBin .add i7 (.int .i64 1) fun t14 =>
  Z t14 h_3

def sh_milestoneref12_Beyond_L1 (P : Program) (l0 : Value) (K : Value → Heap → Prop) (far1 most2 i7 : Value) (h_1 : Heap) (Z : Value → Heap → Prop) : Prop :=
  pLen l0 fun t11 =>
  pBin .lss i7 t11 fun t12 =>
  ifV t12
  (pIdx 4 l0 i7 fun t17 =>
  pField 2 t17 fun t18 =>
  pLoad h_1 t18 fun t19 =>
  pIdx 4 l0 i7 fun t22 =>
  pField 0 t22 fun t23 =>
  pLoad h_1 t23 fun t24 =>
  pBin .eql t24 (.int .i64 0) fun t25 =>
  ifV t25
  (pBin .lss t19 (.int .i64 0) fun t28 =>
  ifV t28
  (sh_milestoneref12_Beyond_k2 P K i7 h_1)
  (pLen far1 fun t32 =>
  pBin .geq t19 t32 fun t33 =>
  ifV t33
  (sh_milestoneref12_Beyond_k2 P K i7 h_1)
  (pIdx 1 far1 t19 fun t38 =>
  pLoad h_1 t38 fun t39 =>
  pBin .gtr t39 most2 fun t41 =>
  ifV t41
  (sh_milestoneref12_Beyond_k2 P K i7 h_1)
  (sh_milestoneref12_Beyond_k3 P i7 Z h_1))))
  (sh_milestoneref12_Beyond_k3 P i7 Z h_1))
  (K (.int .i64 (-1)) h_1)

def sh_milestoneref12_Beyond (P : Program) (l0 far1 most2 : Value) (h : Heap) (K : Value → Heap → Prop) : Prop :=
  LoopH (σ := Vals [7]) (fun x hh ZZ => sh_milestoneref12_Beyond_L1 P l0 K far1 most2 x.1 hh (fun a0 hz => ZZ (a0, ()) hz)) ((.int .i64 0), ()) h

set_option maxRecDepth 100000 in
theorem lk_milestoneref12_Beyond (l0 far1 most2 : Value) {h : Heap} {K : Value → Heap → Prop} (H : sh_milestoneref12_Beyond Tryd.prog l0 far1 most2 h K) : CallsH Tryd.prog F_milestoneref12_Beyond [l0, far1, most2].toArray h K :=
  callsH_of (ann := (annG (Tryd.f19.body.getD .skip) 0 [(3, [7])]).1) (c := Tryd.f19.body.getD .skip) Tryd.func19 (by kernel_rfl) (by kernel_rfl) (by kernel_rfl) (of_decide_eq_true (by kernel_rfl))
    (Eq.mpr (by kernel_rfl) H)

/-! milestone/milestonelaw12.works -/

def sh_milestonelaw12_works (P : Program) (h : Heap) (K : Value → Heap → Prop) : Prop :=
  pBuildSlice T_int64 (zerosL [(.int .i64 0)] 2) [(0, 1, (.int .i64 0)), (1, 1, (.int .i64 0))] 2 h fun t8 h_1 =>
  pBuild [(.int .i64 0), (.int .i64 0), (.int .i64 0)] [(0, 1, (.int .i64 0)), (1, 1, (.int .i64 1))] fun t11 =>
  pBuild [(.int .i64 0), (.int .i64 0), (.int .i64 0)] [(0, 1, (.int .i64 1)), (1, 1, (.int .i64 1))] fun t12 =>
  pBuildSlice T_api_Arc (zerosL [(.int .i64 0), (.int .i64 0), (.int .i64 0)] 2) [(0, 3, t11), (3, 3, t12)] 2 h_1 fun t13 h_2 =>
  pBuild [(.int .i64 0), (.slice none 0 0), (.slice none 0 0), (.slice none 0 0)] [(0, 1, (.int .i64 2)), (1, 1, t8), (2, 1, t8), (3, 1, t13)] fun t14 =>
  callS P F_milestonelaw12_made [t14] h_2 fun t15 h_3 =>
  pEq false .ptr t15 (.pointer none) fun t17 =>
  ifV t17
  (K (.bool false) h_3)
  (callS P F_milestonelaw12_pop [(.int .i64 0), (.int .i64 0), (.int .i64 0)] h_3 fun t18 h_4 =>
  callS P F_milestonelaw12_scan [(.int .i64 0), (.int .i64 0)] h_4 fun t19 h_5 =>
  callS P F_milestonelaw12_pop [(.int .i64 0), (.int .i64 1), (.int .i64 0)] h_5 fun t20 h_6 =>
  callS P F_milestonelaw12_scan [(.int .i64 0), (.int .i64 1)] h_6 fun t21 h_7 =>
  pBuildSlice T_api_Event (zerosL [(.int .i64 0), (.int .i64 0), (.int .i64 0), (.int .i64 0)] 4) [(0, 4, t18), (4, 4, t19), (8, 4, t20), (12, 4, t21)] 4 h_7 fun t22 h_8 =>
  callS P F_milestonelaw12_scan [(.int .i64 0), (.int .i64 0)] h_8 fun t23 h_9 =>
  callS P F_milestonelaw12_pop [(.int .i64 0), (.int .i64 0), (.int .i64 0)] h_9 fun t24 h_10 =>
  pBuildSlice T_api_Event (zerosL [(.int .i64 0), (.int .i64 0), (.int .i64 0), (.int .i64 0)] 2) [(0, 4, t23), (4, 4, t24)] 2 h_10 fun t25 h_11 =>
  callS P F_milestonelaw12_pop [(.int .i64 0), (.int .i64 0), (.int .i64 0)] h_11 fun t26 h_12 =>
  callS P F_milestonelaw12_scan [(.int .i64 0), (.int .i64 0)] h_12 fun t27 h_13 =>
  callS P F_milestonelaw12_scan [(.int .i64 0), (.int .i64 0)] h_13 fun t28 h_14 =>
  pBuildSlice T_api_Event (zerosL [(.int .i64 0), (.int .i64 0), (.int .i64 0), (.int .i64 0)] 3) [(0, 4, t26), (4, 4, t27), (8, 4, t28)] 3 h_14 fun t29 h_15 =>
  callS P F_milestonelaw12_pop [(.int .i64 0), (.int .i64 0), (.int .i64 0)] h_15 fun t30 h_16 =>
  callS P F_milestonelaw12_pop [(.int .i64 1), (.int .i64 1), (.int .i64 0)] h_16 fun t31 h_17 =>
  callS P F_milestonelaw12_scan [(.int .i64 0), (.int .i64 0)] h_17 fun t32 h_18 =>
  callS P F_milestonelaw12_scan [(.int .i64 1), (.int .i64 0)] h_18 fun t33 h_19 =>
  pBuildSlice T_api_Event (zerosL [(.int .i64 0), (.int .i64 0), (.int .i64 0), (.int .i64 0)] 4) [(0, 4, t30), (4, 4, t31), (8, 4, t32), (12, 4, t33)] 4 h_19 fun t34 h_20 =>
  callS P F_milestonelaw12_pop [(.int .i64 0), (.int .i64 2), (.int .i64 0)] h_20 fun t35 h_21 =>
  pBuildSlice T_api_Event (zerosL [(.int .i64 0), (.int .i64 0), (.int .i64 0), (.int .i64 0)] 1) [(0, 4, t35)] 1 h_21 fun t36 h_22 =>
  callS P F_trace_Once [t15, t22] h_22 fun t39 h_23 =>
  ifV t39
  (callS P F_trace_Heads [t15, t22] h_23 fun t43 h_24 =>
  ifV t43
  (callS P F_trace_Once [t15, t25] h_24 fun t48 h_25 =>
  ifV t48
  (callS P F_trace_Heads [t15, t25] h_25 fun t53 h_26 =>
  pUn .not t53 fun t54 =>
  ifV t54
  (callS P F_trace_Once [t15, t29] h_26 fun t59 h_27 =>
  pUn .not t59 fun t60 =>
  ifV t60
  (callS P F_trace_Heads [t15, t29] h_27 fun t65 h_28 =>
  ifV t65
  (callS P F_trace_Once [t15, t34] h_28 fun t70 h_29 =>
  ifV t70
  (callS P F_trace_Heads [t15, t34] h_29 fun t75 h_30 =>
  ifV t75
  (callS P F_trace_Once [t15, t36] h_30 fun t80 h_31 =>
  pUn .not t80 fun t81 =>
  ifV t81
  (callS P F_trace_Heads [t15, t36] h_31 fun t86 h_32 =>
  pUn .not t86 fun t87 =>
  K t87 h_32)
  (K (.bool false) h_31))
  (K (.bool false) h_30))
  (K (.bool false) h_29))
  (K (.bool false) h_28))
  (K (.bool false) h_27))
  (K (.bool false) h_26))
  (K (.bool false) h_25))
  (K (.bool false) h_24))
  (K (.bool false) h_23))

set_option maxRecDepth 100000 in
theorem lk_milestonelaw12_works {h : Heap} {K : Value → Heap → Prop} (H : sh_milestonelaw12_works Tryd.prog h K) : CallsH Tryd.prog F_milestonelaw12_works [].toArray h K :=
  callsH_of (ann := (annG (Tryd.f20.body.getD .skip) 0 []).1) (c := Tryd.f20.body.getD .skip) Tryd.func20 (by kernel_rfl) (by kernel_rfl) (by kernel_rfl) (of_decide_eq_true (by kernel_rfl))
    (Eq.mpr (by kernel_rfl) H)

/-! milestone/milestonelaw12.pop -/

def sh_milestonelaw12_pop (P : Program) (side0 v1 label2 : Value) (h : Heap) (K : Value → Heap → Prop) : Prop :=
  pBox T_api_Event (.agg #[(.int .i64 0), (.int .i64 0), (.int .i64 0), (.int .i64 0)]) h fun t6 h_1 =>
  pBuild [(.int .i64 0), (.int .i64 0), (.int .i64 0), (.int .i64 0)] [(0, 1, (.int .i64 0)), (1, 1, side0), (2, 1, v1), (3, 1, label2)] fun t10 =>
  pStore 4 t6 t10 h_1 fun u h_2 =>
  pLoadN 4 h_2 t6 fun res =>
  K res h_2

set_option maxRecDepth 100000 in
theorem lk_milestonelaw12_pop (side0 v1 label2 : Value) {h : Heap} {K : Value → Heap → Prop} (H : sh_milestonelaw12_pop Tryd.prog side0 v1 label2 h K) : CallsH Tryd.prog F_milestonelaw12_pop [side0, v1, label2].toArray h K :=
  callsH_of (ann := (annG (Tryd.f21.body.getD .skip) 0 []).1) (c := Tryd.f21.body.getD .skip) Tryd.func21 (by kernel_rfl) (by kernel_rfl) (by kernel_rfl) (of_decide_eq_true (by kernel_rfl))
    (Eq.mpr (by kernel_rfl) H)

/-! milestone/milestonelaw12.scan -/

def sh_milestonelaw12_scan (P : Program) (side0 a1 : Value) (h : Heap) (K : Value → Heap → Prop) : Prop :=
  pBox T_api_Event (.agg #[(.int .i64 0), (.int .i64 0), (.int .i64 0), (.int .i64 0)]) h fun t4 h_1 =>
  pBuild [(.int .i64 0), (.int .i64 0), (.int .i64 0), (.int .i64 0)] [(0, 1, (.int .i64 1)), (1, 1, side0), (2, 1, a1)] fun t7 =>
  pStore 4 t4 t7 h_1 fun u h_2 =>
  pLoadN 4 h_2 t4 fun res =>
  K res h_2

set_option maxRecDepth 100000 in
theorem lk_milestonelaw12_scan (side0 a1 : Value) {h : Heap} {K : Value → Heap → Prop} (H : sh_milestonelaw12_scan Tryd.prog side0 a1 h K) : CallsH Tryd.prog F_milestonelaw12_scan [side0, a1].toArray h K :=
  callsH_of (ann := (annG (Tryd.f22.body.getD .skip) 0 []).1) (c := Tryd.f22.body.getD .skip) Tryd.func22 (by kernel_rfl) (by kernel_rfl) (by kernel_rfl) (of_decide_eq_true (by kernel_rfl))
    (Eq.mpr (by kernel_rfl) H)

/-! (*milestone/milestoneref07.Draft).Raw -/

def sh_milestoneref07_Draft_Raw_k7 (P : Program) (i8 : Value) (Z_2 : Value → Heap → Prop) (h_52 : Heap) : Prop :=
  pBin .add i8 (.int .i64 1) fun t83 =>
  Z_2 t83 h_52

def sh_milestoneref07_Draft_Raw_C6 (P : Program) (g3 d0 i8 : Value) (Z_2 : Value → Heap → Prop) (a9_4 : Value) (h_44 : Heap) : Prop :=
  pField 3 g3 fun t95 =>
  pLoad h_44 t95 fun t96 =>
  pLoadN 3 h_44 a9_4 fun t97 =>
  pBuildSlice T_api_Arc (zerosL [(.int .i64 0), (.int .i64 0), (.int .i64 0)] 1) [(0, 3, t97)] 1 h_44 fun t98 h_45 =>
  pAppend T_api_Arc 3 24 [(.int .i64 0), (.int .i64 0), (.int .i64 0)] t96 t98 h_45 fun t99 h_46 =>
  pField 3 g3 fun t100 =>
  pStore 1 t100 t99 h_46 fun u_10 h_47 =>
  callS P F_milestoneref07_Draft_Next [d0, (.int .i64 4)] h_47 fun t102 h_48 =>
  pBin .eql t102 (.int .i64 0) fun t103 =>
  ifV t103
  (pField 3 g3 fun t104 =>
  pLoad h_48 t104 fun t105 =>
  pField 1 a9_4 fun t106 =>
  pLoad h_48 t106 fun t107 =>
  pField 0 a9_4 fun t108 =>
  pLoad h_48 t108 fun t109 =>
  pField 2 a9_4 fun t110 =>
  pLoad h_48 t110 fun t111 =>
  pBuild [(.int .i64 0), (.int .i64 0), (.int .i64 0)] [(0, 1, t107), (1, 1, t109), (2, 1, t111)] fun t112 =>
  pBuildSlice T_api_Arc (zerosL [(.int .i64 0), (.int .i64 0), (.int .i64 0)] 1) [(0, 3, t112)] 1 h_48 fun t113 h_49 =>
  pAppend T_api_Arc 3 24 [(.int .i64 0), (.int .i64 0), (.int .i64 0)] t105 t113 h_49 fun t114 h_50 =>
  pField 3 g3 fun t115 =>
  pStore 1 t115 t114 h_50 fun u_11 h_51 =>
  sh_milestoneref07_Draft_Raw_k7 P i8 Z_2 h_51)
  (sh_milestoneref07_Draft_Raw_k7 P i8 Z_2 h_48)

def sh_milestoneref07_Draft_Raw_L5 (P : Program) (t52 g3 d0 t2 : Value) (K : Value → Heap → Prop) (i8 : Value) (h_26 : Heap) (Z_2 : Value → Heap → Prop) : Prop :=
  pBin .lss i8 t52 fun t81 =>
  ifV t81
  (cutP (σ := Vals [9]) (fun J =>
  pField 0 g3 fun t85 =>
  pLoad h_26 t85 fun t86 =>
  pField 0 g3 fun t89 =>
  pLoad h_26 t89 fun t90 =>
  (callS P F_milestoneref07_Draft_Next [d0, t86] h_26 fun t87 h_27 =>
  (pLoad h_27 t89 fun t90_1 =>
  t90_1 = t90) ∧
  ((callS P F_milestoneref07_Draft_Next [d0, t90] h_27 fun t91 h_28 =>
  (callS P F_milestoneref07_Draft_Weight [d0] h_28 fun t93 h_29 =>
  pBuild [(.int .i64 0), (.int .i64 0), (.int .i64 0)] [(0, 1, t87), (1, 1, t91), (2, 1, t93)] fun t94 =>
  pBox T_api_Arc (.agg #[(.int .i64 0), (.int .i64 0), (.int .i64 0)]) h_29 fun a9 h_30 =>
  pStore 3 a9 t94 h_30 fun u_6 h_31 =>
  J (a9, ()) h_31) ∧
  (pBox T_api_Arc (.agg #[(.int .i64 0), (.int .i64 0), (.int .i64 0)]) h_28 fun a9_1 h_32 =>
  callS P F_milestoneref07_Draft_Weight [d0] h_32 fun t93_1 h_33 =>
  pBuild [(.int .i64 0), (.int .i64 0), (.int .i64 0)] [(0, 1, t87), (1, 1, t91), (2, 1, t93_1)] fun t94_1 =>
  pStore 3 a9_1 t94_1 h_33 fun u_7 h_34 =>
  J (a9_1, ()) h_34)) ∧
  (pBox T_api_Arc (.agg #[(.int .i64 0), (.int .i64 0), (.int .i64 0)]) h_27 fun a9_2 h_35 =>
  callS P F_milestoneref07_Draft_Next [d0, t90] h_35 fun t91_1 h_36 =>
  callS P F_milestoneref07_Draft_Weight [d0] h_36 fun t93_2 h_37 =>
  pBuild [(.int .i64 0), (.int .i64 0), (.int .i64 0)] [(0, 1, t87), (1, 1, t91_1), (2, 1, t93_2)] fun t94_2 =>
  pStore 3 a9_2 t94_2 h_37 fun u_8 h_38 =>
  J (a9_2, ()) h_38))) ∧
  (pBox T_api_Arc (.agg #[(.int .i64 0), (.int .i64 0), (.int .i64 0)]) h_26 fun a9_3 h_39 =>
  callS P F_milestoneref07_Draft_Next [d0, t86] h_39 fun t87_1 h_40 =>
  (pLoad h_40 t89 fun t90_2 =>
  t90_2 = t90) ∧
  (callS P F_milestoneref07_Draft_Next [d0, t90] h_40 fun t91_2 h_41 =>
  callS P F_milestoneref07_Draft_Weight [d0] h_41 fun t93_3 h_42 =>
  pBuild [(.int .i64 0), (.int .i64 0), (.int .i64 0)] [(0, 1, t87_1), (1, 1, t91_2), (2, 1, t93_3)] fun t94_3 =>
  pStore 3 a9_3 t94_3 h_42 fun u_9 h_43 =>
  J (a9_3, ()) h_43)))
  (fun x hh => sh_milestoneref07_Draft_Raw_C6 P g3 d0 i8 Z_2 x.1 hh))
  (pLoadN 4 h_26 g3 fun t116 =>
  pStore 4 t2 t116 h_26 fun u_12 h_53 =>
  pLoadN 4 h_53 t2 fun res =>
  K res h_53)

def sh_milestoneref07_Draft_Raw_k4 (P : Program) (t52 g3 d0 t2 : Value) (K : Value → Heap → Prop) (h_25 : Heap) : Prop :=
  LoopH (σ := Vals [8]) (fun x hh ZZ => sh_milestoneref07_Draft_Raw_L5 P t52 g3 d0 t2 K x.1 hh (fun a0 hz => ZZ (a0, ()) hz)) ((.int .i64 0), ()) h_25

def sh_milestoneref07_Draft_Raw_L3 (P : Program) (g3 t55 d0 t52 t2 : Value) (K : Value → Heap → Prop) (v7 : Value) (h_20 : Heap) (Z_1 : Value → Heap → Prop) : Prop :=
  pField 0 g3 fun t57 =>
  pLoad h_20 t57 fun t58 =>
  pBin .lss v7 t58 fun t59 =>
  ifV t59
  (ifV t55
  (pField 3 g3 fun t65 =>
  pLoad h_20 t65 fun t66 =>
  pBin .add v7 (.int .i64 1) fun t69 =>
  pField 0 g3 fun t70 =>
  pLoad h_20 t70 fun t71 =>
  pBin .rem t69 t71 fun t72 =>
  callS P F_milestoneref07_Draft_Weight [d0] h_20 fun t74 h_21 =>
  (pLoad h_21 t65 fun t66_1 =>
  t66_1 = t66) ∧
  (pLoad h_21 t70 fun t71_1 =>
  t71_1 = t71) ∧
  (pBuild [(.int .i64 0), (.int .i64 0), (.int .i64 0)] [(0, 1, v7), (1, 1, t72), (2, 1, t74)] fun t75 =>
  pBuildSlice T_api_Arc (zerosL [(.int .i64 0), (.int .i64 0), (.int .i64 0)] 1) [(0, 3, t75)] 1 h_21 fun t76 h_22 =>
  pAppend T_api_Arc 3 24 [(.int .i64 0), (.int .i64 0), (.int .i64 0)] t66 t76 h_22 fun t77 h_23 =>
  pField 3 g3 fun t78 =>
  pStore 1 t78 t77 h_23 fun u_5 h_24 =>
  pBin .add v7 (.int .i64 1) fun t64 =>
  Z_1 t64 h_24))
  (sh_milestoneref07_Draft_Raw_k4 P t52 g3 d0 t2 K h_20))
  (sh_milestoneref07_Draft_Raw_k4 P t52 g3 d0 t2 K h_20)

def sh_milestoneref07_Draft_Raw_k2 (P : Program) (g3 d0 t2 : Value) (K : Value → Heap → Prop) (h_17 : Heap) : Prop :=
  pField 0 g3 fun t48 =>
  pLoad h_17 t48 fun t49 =>
  pBin .mul (.int .i64 3) t49 fun t50 =>
  pBin .add t50 (.int .i64 1) fun t51 =>
  callS P F_milestoneref07_Draft_Next [d0, t51] h_17 fun t52 h_18 =>
  callS P F_milestoneref07_Draft_Next [d0, (.int .i64 3)] h_18 fun t54 h_19 =>
  pBin .gtr t54 (.int .i64 0) fun t55 =>
  LoopH (σ := Vals [7]) (fun x hh ZZ => sh_milestoneref07_Draft_Raw_L3 P g3 t55 d0 t52 t2 K x.1 hh (fun a0 hz => ZZ (a0, ()) hz)) ((.int .i64 0), ()) h_19

def sh_milestoneref07_Draft_Raw_L1 (P : Program) (g3 d0 t2 : Value) (K : Value → Heap → Prop) (v4 : Value) (h_5 : Heap) (Z : Value → Heap → Prop) : Prop :=
  pField 0 g3 fun t15 =>
  pLoad h_5 t15 fun t16 =>
  pBin .lss v4 t16 fun t17 =>
  ifV t17
  (pField 1 g3 fun t20 =>
  pLoad h_5 t20 fun t21 =>
  callS P F_milestoneref07_Draft_Next [d0, (.int .i64 9)] h_5 fun t23 h_6 =>
  (pLoad h_6 t20 fun t21_1 =>
  t21_1 = t21) ∧
  (pBin .sub t23 (.int .i64 3) fun t24 =>
  pBuildSlice T_int64 (zerosL [(.int .i64 0)] 1) [(0, 1, t24)] 1 h_6 fun t25 h_7 =>
  pAppend T_int64 1 8 [(.int .i64 0)] t21 t25 h_7 fun t26 h_8 =>
  pField 1 g3 fun t27 =>
  pStore 1 t27 t26 h_8 fun u_1 h_9 =>
  pField 2 g3 fun t28 =>
  pLoad h_9 t28 fun t29 =>
  callS P F_milestoneref07_Draft_Next [d0, (.int .i64 7)] h_9 fun t31 h_10 =>
  (pLoad h_10 t28 fun t29_1 =>
  t29_1 = t29) ∧
  (pBuildSlice T_int64 (zerosL [(.int .i64 0)] 1) [(0, 1, t31)] 1 h_10 fun t32 h_11 =>
  pAppend T_int64 1 8 [(.int .i64 0)] t29 t32 h_11 fun t33 h_12 =>
  pField 2 g3 fun t34 =>
  pStore 1 t34 t33 h_12 fun u_2 h_13 =>
  pBin .add v4 (.int .i64 1) fun t19 =>
  Z t19 h_13)))
  (callS P F_milestoneref07_Draft_Next [d0, (.int .i64 9)] h_5 fun t36 h_14 =>
  pBin .eql t36 (.int .i64 0) fun t37 =>
  ifV t37
  (pField 1 g3 fun t38 =>
  pLoad h_14 t38 fun t39 =>
  pIdx 1 t39 (.int .i64 0) fun t40 =>
  pStore 1 t40 (.int .i64 (-2147483648)) h_14 fun u_3 h_15 =>
  pField 2 g3 fun t41 =>
  pLoad h_15 t41 fun t42 =>
  pField 0 g3 fun t43 =>
  pLoad h_15 t43 fun t44 =>
  pBin .sub t44 (.int .i64 1) fun t45 =>
  pIdx 1 t42 t45 fun t46 =>
  pStore 1 t46 (.int .i64 2147483647) h_15 fun u_4 h_16 =>
  sh_milestoneref07_Draft_Raw_k2 P g3 d0 t2 K h_16)
  (sh_milestoneref07_Draft_Raw_k2 P g3 d0 t2 K h_14))

def sh_milestoneref07_Draft_Raw (P : Program) (d0 : Value) (h : Heap) (K : Value → Heap → Prop) : Prop :=
  pBox T_api_Raw (.agg #[(.int .i64 0), (.slice none 0 0), (.slice none 0 0), (.slice none 0 0)]) h fun t2 h_1 =>
  callS P F_milestoneref07_Draft_Next [d0, (.int .i64 12)] h_1 fun t11 h_2 =>
  pBin .add (.int .i64 1) t11 fun t12 =>
  pBuild [(.int .i64 0), (.slice none 0 0), (.slice none 0 0), (.slice none 0 0)] [(0, 1, t12)] fun t13 =>
  pBox T_api_Raw (.agg #[(.int .i64 0), (.slice none 0 0), (.slice none 0 0), (.slice none 0 0)]) h_2 fun g3 h_3 =>
  pStore 4 g3 t13 h_3 fun u h_4 =>
  LoopH (σ := Vals [4]) (fun x hh ZZ => sh_milestoneref07_Draft_Raw_L1 P g3 d0 t2 K x.1 hh (fun a0 hz => ZZ (a0, ()) hz)) ((.int .i64 0), ()) h_4

set_option maxRecDepth 100000 in
theorem lk_milestoneref07_Draft_Raw (d0 : Value) {h : Heap} {K : Value → Heap → Prop} (H : sh_milestoneref07_Draft_Raw Tryd.prog d0 h K) : CallsH Tryd.prog F_milestoneref07_Draft_Raw [d0].toArray h K :=
  callsH_of (ann := (annG (Tryd.f23.body.getD .skip) 0 [(4, [4]), (16, [7]), (22, [8]), (26, [9])]).1) (c := Tryd.f23.body.getD .skip) Tryd.func23 (by kernel_rfl) (by kernel_rfl) (by kernel_rfl) (of_decide_eq_true (by kernel_rfl))
    (Eq.mpr (by kernel_rfl) H)

/-! milestone/net.New -/

def sh_net_New (P : Program) (raw0 : Value) (h : Heap) (K : Value → Heap → Prop) : Prop :=
  pBox T_api_Raw raw0 h fun raw1 h_1 =>
  pLoadN 4 h_1 raw1 fun t6 =>
  callS P F_graph_Check [t6] h_1 fun t7 h_2 =>
  pEq true .iface t7 .nilIface fun t9 =>
  ifV t9
  (callS P F_api_Told [t7] h_2 fun t11 h_3 =>
  pBox T_api_Fault (.agg #[(.int .i64 0), (.int .i64 0), (.int .i64 0), (.int .i64 0)]) h_3 fun f5 h_4 =>
  pStore 4 f5 t11 h_4 fun u h_5 =>
  pBuild [(.pointer none)] [(0, 1, f5)] fun t12 =>
  K (.tuple #[(.pointer none), (.iface T_net_trouble t12)]) h_5)
  (pLoadN 4 h_2 raw1 fun t14 =>
  callS P F_net_own [t14] h_2 fun t15 h_6 =>
  callS P F_net_of [t15] h_6 fun t16 h_7 =>
  K (.tuple #[t16, .nilIface]) h_7)

set_option maxRecDepth 100000 in
theorem lk_net_New (raw0 : Value) {h : Heap} {K : Value → Heap → Prop} (H : sh_net_New Tryd.prog raw0 h K) : CallsH Tryd.prog F_net_New [raw0].toArray h K :=
  callsH_of (ann := (annG (Tryd.f24.body.getD .skip) 0 []).1) (c := Tryd.f24.body.getD .skip) Tryd.func24 (by kernel_rfl) (by kernel_rfl) (by kernel_rfl) (of_decide_eq_true (by kernel_rfl))
    (Eq.mpr (by kernel_rfl) H)

/-! milestone/trace.may -/

def sh_trace_may (P : Program) (n0 : Value) (h : Heap) (K : Value → Heap → Prop) : Prop :=
  pBox T_p_net_Net n0 h fun n1 h_1 =>
  K (.func (.func F_trace_may_1) #[] #[n1]) h_1

set_option maxRecDepth 100000 in
theorem lk_trace_may (n0 : Value) {h : Heap} {K : Value → Heap → Prop} (H : sh_trace_may Tryd.prog n0 h K) : CallsH Tryd.prog F_trace_may [n0].toArray h K :=
  callsH_of (ann := (annG (Tryd.f25.body.getD .skip) 0 []).1) (c := Tryd.f25.body.getD .skip) Tryd.func25 (by kernel_rfl) (by kernel_rfl) (by kernel_rfl) (of_decide_eq_true (by kernel_rfl))
    (Eq.mpr (by kernel_rfl) H)

/-! slices.ContainsFunc[[]milestone/api.Event,milestone/api.Event] -/

def sh_slices_ContainsFunc_sl_api_Event_api_Event (P : Program) (s0 f1 : Value) (h : Heap) (K : Value → Heap → Prop) : Prop :=
  callS P F_slices_IndexFunc_sl_api_Event_api_Event [s0, f1] h fun t7 h_1 =>
  pBin .geq t7 (.int .i64 0) fun t8 =>
  K t8 h_1

set_option maxRecDepth 100000 in
theorem lk_slices_ContainsFunc_sl_api_Event_api_Event (s0 f1 : Value) {h : Heap} {K : Value → Heap → Prop} (H : sh_slices_ContainsFunc_sl_api_Event_api_Event Tryd.prog s0 f1 h K) : CallsH Tryd.prog F_slices_ContainsFunc_sl_api_Event_api_Event [s0, f1].toArray h K :=
  callsH_of (ann := (annG (Tryd.f26.body.getD .skip) 0 []).1) (c := Tryd.f26.body.getD .skip) Tryd.func26 (by kernel_rfl) (by kernel_rfl) (by kernel_rfl) (of_decide_eq_true (by kernel_rfl))
    (Eq.mpr (by kernel_rfl) H)

/-! milestone/trace.Once$1 -/

def sh_trace_Once_1 (P : Program) (e0 t1 t2 : Value) (h : Heap) (K : Value → Heap → Prop) : Prop :=
  pBox T_api_Event e0 h fun e3 h_1 =>
  pField 0 e3 fun t6 =>
  pLoad h_1 t6 fun t7 =>
  pField 1 e3 fun t8 =>
  pLoad h_1 t8 fun t9 =>
  pField 2 e3 fun t10 =>
  pLoad h_1 t10 fun t11 =>
  pBuild [(.int .i64 0), (.int .i64 0), (.int .i64 0)] [(0, 1, t7), (1, 1, t9), (2, 1, t11)] fun t12 =>
  pBox T_3_int (.agg #[(.int .i64 0), (.int .i64 0), (.int .i64 0)]) h_1 fun at5 h_2 =>
  pStore 3 at5 t12 h_2 fun u h_3 =>
  pLoad h_3 t1 fun t13 =>
  pLoadN 3 h_3 at5 fun t14 =>
  pLook (.array 3 T_int) (.int .i64 0) false h_3 t13 t14 fun t15 =>
  pBin .add t15 (.int .i64 1) fun t16 =>
  pMapEntry (.array 3 T_int) (.int .i64 0) t13 t14 h_3 fun t17 h_4 =>
  (pLook (.array 3 T_int) (.int .i64 0) false h_4 t13 t14 fun t15_1 =>
  t15_1 = t15) ∧
  (pExt t17 1 fun t18 =>
  pEntryStore t13 t18 t16 h_4 fun u_1 h_5 =>
  pLoad h_5 t2 fun t19 =>
  pLoadN 4 h_5 e3 fun t20 =>
  callV P t19 [t20].toArray h_5 fun t21 h_6 =>
  pUn .not t21 fun t22 =>
  ifV t22
  (K (.bool true) h_6)
  (pLoad h_6 t1 fun t24 =>
  pLoadN 3 h_6 at5 fun t25 =>
  pLook (.array 3 T_int) (.int .i64 0) false h_6 t24 t25 fun t26 =>
  pBin .gtr t26 (.int .i64 1) fun t27 =>
  K t27 h_6))

set_option maxRecDepth 100000 in
theorem lk_trace_Once_1 (e0 t1 t2 : Value) {h : Heap} {K : Value → Heap → Prop} (H : sh_trace_Once_1 Tryd.prog e0 t1 t2 h K) : CallsH Tryd.prog F_trace_Once_1 [e0, t1, t2].toArray h K :=
  callsH_of (ann := (annG (Tryd.f27.body.getD .skip) 0 []).1) (c := Tryd.f27.body.getD .skip) Tryd.func27 (by kernel_rfl) (by kernel_rfl) (by kernel_rfl) (of_decide_eq_true (by kernel_rfl))
    (Eq.mpr (by kernel_rfl) H)

/-! milestone/milestoneref12.may -/

def sh_milestoneref12_may_k1 (P : Program) (K : Value → Heap → Prop) (h_3 : Heap) : Prop :=
  K (.bool false) h_3

def sh_milestoneref12_may_k2 (P : Program) (K : Value → Heap → Prop) (e3 g2 t17 : Value) (h_4 : Heap) : Prop :=
  ifV t17
  (sh_milestoneref12_may_k1 P K h_4)
  (pField 0 e3 fun t18 =>
  pLoad h_4 t18 fun t19 =>
  pBin .eql t19 (.int .i64 0) fun t20 =>
  ifV t20
  (pField 2 e3 fun t22 =>
  pLoad h_4 t22 fun t23 =>
  pField 0 g2 fun t24 =>
  pLoad h_4 t24 fun t25 =>
  pBin .lss t23 t25 fun t26 =>
  ifV t26
  (K (.bool true) h_4)
  (pField 0 e3 fun t29 =>
  pLoad h_4 t29 fun t30 =>
  pBin .eql t30 (.int .i64 1) fun t31 =>
  ifV t31
  (pField 2 e3 fun t33 =>
  pLoad h_4 t33 fun t34 =>
  pField 3 g2 fun t35 =>
  pLoad h_4 t35 fun t36 =>
  pLen t36 fun t37 =>
  pBin .lss t34 t37 fun t38 =>
  ifV t38
  (pField 3 e3 fun t41 =>
  pLoad h_4 t41 fun t42 =>
  pBin .eql t42 (.int .i64 0) fun t43 =>
  K t43 h_4)
  (K (.bool false) h_4))
  (K (.bool false) h_4)))
  (pField 0 e3 fun t29_1 =>
  pLoad h_4 t29_1 fun t30_1 =>
  pBin .eql t30_1 (.int .i64 1) fun t31_1 =>
  ifV t31_1
  (pField 2 e3 fun t33_1 =>
  pLoad h_4 t33_1 fun t34_1 =>
  pField 3 g2 fun t35_1 =>
  pLoad h_4 t35_1 fun t36_1 =>
  pLen t36_1 fun t37_1 =>
  pBin .lss t34_1 t37_1 fun t38_1 =>
  ifV t38_1
  (pField 3 e3 fun t41_1 =>
  pLoad h_4 t41_1 fun t42_1 =>
  pBin .eql t42_1 (.int .i64 0) fun t43_1 =>
  K t43_1 h_4)
  (K (.bool false) h_4))
  (K (.bool false) h_4)))

def sh_milestoneref12_may (P : Program) (g0 e1 : Value) (h : Heap) (K : Value → Heap → Prop) : Prop :=
  pBox T_api_Raw g0 h fun g2 h_1 =>
  pBox T_api_Event e1 h_1 fun e3 h_2 =>
  pField 1 e3 fun t5 =>
  pLoad h_2 t5 fun t6 =>
  pBin .neq t6 (.int .i64 0) fun t7 =>
  ifV t7
  (pField 1 e3 fun t9 =>
  pLoad h_2 t9 fun t10 =>
  pBin .neq t10 (.int .i64 1) fun t11 =>
  ifV t11
  (sh_milestoneref12_may_k1 P K h_2)
  (pField 2 e3 fun t14 =>
  pLoad h_2 t14 fun t15 =>
  pBin .lss t15 (.int .i64 0) fun t16 =>
  sh_milestoneref12_may_k2 P K e3 g2 t16 h_2))
  (pField 2 e3 fun t14_1 =>
  pLoad h_2 t14_1 fun t15_1 =>
  pBin .lss t15_1 (.int .i64 0) fun t16_1 =>
  sh_milestoneref12_may_k2 P K e3 g2 t16_1 h_2)

set_option maxRecDepth 100000 in
theorem lk_milestoneref12_may (g0 e1 : Value) {h : Heap} {K : Value → Heap → Prop} (H : sh_milestoneref12_may Tryd.prog g0 e1 h K) : CallsH Tryd.prog F_milestoneref12_may [g0, e1].toArray h K :=
  callsH_of (ann := (annG (Tryd.f28.body.getD .skip) 0 []).1) (c := Tryd.f28.body.getD .skip) Tryd.func28 (by kernel_rfl) (by kernel_rfl) (by kernel_rfl) (of_decide_eq_true (by kernel_rfl))
    (Eq.mpr (by kernel_rfl) H)

/-! milestone/trace.Heads$1 -/

def sh_trace_Heads_1 (P : Program) (e0 t1 t2 t3 : Value) (h : Heap) (K : Value → Heap → Prop) : Prop :=
  pBox T_api_Event e0 h fun e4 h_1 =>
  pLoad h_1 t1 fun t7 =>
  pLoadN 4 h_1 e4 fun t8 =>
  callV P t7 [t8].toArray h_1 fun t9 h_2 =>
  pUn .not t9 fun t10 =>
  ifV t10
  (K (.bool true) h_2)
  (pField 0 e4 fun t12 =>
  pLoad h_2 t12 fun t13 =>
  pBin .eql t13 (.int .i64 0) fun t14 =>
  ifV t14
  (pField 1 e4 fun t15 =>
  pLoad h_2 t15 fun t16 =>
  pField 2 e4 fun t17 =>
  pLoad h_2 t17 fun t18 =>
  pIdxA 1 2 t2 t16 fun t19 =>
  pStore 1 t19 t18 h_2 fun u h_3 =>
  K (.bool false) h_3)
  (pField 1 e4 fun t20 =>
  pLoad h_2 t20 fun t21 =>
  pIdxA 1 2 t2 t21 fun t22 =>
  pLoad h_2 t22 fun t23 =>
  pLoad h_2 t3 fun t24 =>
  pField 2 e4 fun t25 =>
  pLoad h_2 t25 fun t26 =>
  pField 1 e4 fun t27 =>
  pLoad h_2 t27 fun t28 =>
  callS P F_trace_tail [t24, t26, t28] h_2 fun t29 h_4 =>
  (pLoad h_4 t20 fun t21_1 =>
  t21_1 = t21) ∧
  (pLoad h_4 t22 fun t23_1 =>
  t23_1 = t23) ∧
  (pBin .neq t23 t29 fun t30 =>
  K t30 h_4)))

set_option maxRecDepth 100000 in
theorem lk_trace_Heads_1 (e0 t1 t2 t3 : Value) {h : Heap} {K : Value → Heap → Prop} (H : sh_trace_Heads_1 Tryd.prog e0 t1 t2 t3 h K) : CallsH Tryd.prog F_trace_Heads_1 [e0, t1, t2, t3].toArray h K :=
  callsH_of (ann := (annG (Tryd.f29.body.getD .skip) 0 []).1) (c := Tryd.f29.body.getD .skip) Tryd.func29 (by kernel_rfl) (by kernel_rfl) (by kernel_rfl) (of_decide_eq_true (by kernel_rfl))
    (Eq.mpr (by kernel_rfl) H)

/-! milestone/trace.tail -/

def sh_trace_tail (P : Program) (n0 arc1 side2 : Value) (h : Heap) (K : Value → Heap → Prop) : Prop :=
  callS P F_net_Net_Arc [n0, arc1] h fun t12 h_1 =>
  pExt t12 0 fun t13 =>
  pExt t12 1 fun t14 =>
  pBox T_api_Arc (.agg #[(.int .i64 0), (.int .i64 0), (.int .i64 0)]) h_1 fun a7 h_2 =>
  pStore 3 a7 t13 h_2 fun u h_3 =>
  pBin .eql side2 (.int .i64 1) fun t16 =>
  ifV t16
  (pField 1 a7 fun t17 =>
  pLoad h_3 t17 fun t18 =>
  K t18 h_3)
  (pField 0 a7 fun t19 =>
  pLoad h_3 t19 fun t20 =>
  K t20 h_3)

set_option maxRecDepth 100000 in
theorem lk_trace_tail (n0 arc1 side2 : Value) {h : Heap} {K : Value → Heap → Prop} (H : sh_trace_tail Tryd.prog n0 arc1 side2 h K) : CallsH Tryd.prog F_trace_tail [n0, arc1, side2].toArray h K :=
  callsH_of (ann := (annG (Tryd.f30.body.getD .skip) 0 []).1) (c := Tryd.f30.body.getD .skip) Tryd.func30 (by kernel_rfl) (by kernel_rfl) (by kernel_rfl) (of_decide_eq_true (by kernel_rfl))
    (Eq.mpr (by kernel_rfl) H)

/-! milestone/milestoneref12.tail -/

def sh_milestoneref12_tail (P : Program) (g0 a1 side2 : Value) (h : Heap) (K : Value → Heap → Prop) : Prop :=
  pBox T_api_Raw g0 h fun g3 h_1 =>
  pBin .eql side2 (.int .i64 0) fun t8 =>
  ifV t8
  (pField 3 g3 fun t9 =>
  pLoad h_1 t9 fun t10 =>
  pIdx 3 t10 a1 fun t12 =>
  pField 0 t12 fun t13 =>
  pLoad h_1 t13 fun t14 =>
  K t14 h_1)
  (pField 3 g3 fun t15 =>
  pLoad h_1 t15 fun t16 =>
  pIdx 3 t16 a1 fun t18 =>
  pField 1 t18 fun t19 =>
  pLoad h_1 t19 fun t20 =>
  K t20 h_1)

set_option maxRecDepth 100000 in
theorem lk_milestoneref12_tail (g0 a1 side2 : Value) {h : Heap} {K : Value → Heap → Prop} (H : sh_milestoneref12_tail Tryd.prog g0 a1 side2 h K) : CallsH Tryd.prog F_milestoneref12_tail [g0, a1, side2].toArray h K :=
  callsH_of (ann := (annG (Tryd.f31.body.getD .skip) 0 []).1) (c := Tryd.f31.body.getD .skip) Tryd.func31 (by kernel_rfl) (by kernel_rfl) (by kernel_rfl) (of_decide_eq_true (by kernel_rfl))
    (Eq.mpr (by kernel_rfl) H)

end Go.Proofs.YtgefabaobhendaaDoor

namespace Go.Proofs.YtgefabaobhendaaDoor
open Go Go.Mh
set_option maxHeartbeats 0
set_option linter.unusedVariables false

/-! milestone/trace.told[int] -/

def sh_trace_told_int_B1 (P : Program) (h_2 : Heap) (out4 tell3 : Value) (L : Loop) (t8 t9 : Value) (h_3 : Heap) (R : Exit → Heap → Prop) : Prop :=
  pBox T_api_Event (.agg #[(.int .i64 0), (.int .i64 0), (.int .i64 0), (.int .i64 0)]) h_3 fun e6 h_4 =>
  pStore 4 e6 t9 h_4 fun u h_5 =>
  beginR (h_2.size + 1) L h_5 fun h_6 =>
  pLoad h_6 out4 fun t10 =>
  pLoad h_6 tell3 fun t11 =>
  pLoadN 4 h_6 e6 fun t12 =>
  callV P t11 [t12].toArray h_6 fun t13 h_7 =>
  (pLoad h_7 out4 fun t10_1 =>
  t10_1 = t10) ∧
  (pBuildSlice T_int (zerosL [(.int .i64 0)] 1) [(0, 1, t13)] 1 h_7 fun t14 h_8 =>
  pAppend T_int 1 8 [(.int .i64 0)] t10 t14 h_8 fun t15 h_9 =>
  pStore 1 out4 t15 h_9 fun u_1 h_10 =>
  R .normal h_10)

def sh_trace_told_int (P : Program) (l0 tell1 : Value) (h : Heap) (K : Value → Heap → Prop) : Prop :=
  pBox T_func_api_Event_int tell1 h fun tell3 h_1 =>
  pBox T_sl_int (.slice none 0 0) h_1 fun out4 h_2 =>
  rangeH P l0 [8, 9] (h_2.size + 1) (h_2.push (.deferred (some []))) (fun L x hh R => sh_trace_told_int_B1 P h_2 out4 tell3 L x.1 x.2.1 hh R)
  (fun h_11 => pLoad h_11 out4 fun t16 =>
  pStore 1 out4 t16 h_11 fun u_2 h_12 =>
  takeM (h_2.size :: []) h_12 fun h_13 =>
  pLoad h_13 out4 fun res =>
  K res h_13)
  (fun h_14 => takeM (h_2.size :: []) h_14 fun h_15 =>
  pLoad h_15 out4 fun res_1 =>
  K res_1 h_15)
  []

set_option maxRecDepth 100000 in
theorem lk_trace_told_int (l0 tell1 : Value) {h : Heap} {K : Value → Heap → Prop} (H : sh_trace_told_int Tryd.prog l0 tell1 h K) : CallsH Tryd.prog F_trace_told_int [l0, tell1].toArray h K :=
  callsH_of (ann := (annG (Tryd.f32.body.getD .skip) 0 []).1) (c := Tryd.f32.body.getD .skip) Tryd.func32 (by kernel_rfl) (by kernel_rfl) (by kernel_rfl) (of_decide_eq_true (by kernel_rfl))
    (Eq.mpr (by kernel_rfl) H)

/-! milestone/trace.of -/

def sh_trace_of (P : Program) (l0 kind1 side2 : Value) (h : Heap) (K : Value → Heap → Prop) : Prop :=
  pBox T_sl_api_Event l0 h fun l3 h_1 =>
  pBox T_int kind1 h_1 fun kind4 h_2 =>
  pBox T_int side2 h_2 fun side5 h_3 =>
  K (.func (.func F_trace_of_1) #[] #[l3, kind4, side5]) h_3

set_option maxRecDepth 100000 in
theorem lk_trace_of (l0 kind1 side2 : Value) {h : Heap} {K : Value → Heap → Prop} (H : sh_trace_of Tryd.prog l0 kind1 side2 h K) : CallsH Tryd.prog F_trace_of [l0, kind1, side2].toArray h K :=
  callsH_of (ann := (annG (Tryd.f33.body.getD .skip) 0 []).1) (c := Tryd.f33.body.getD .skip) Tryd.func33 (by kernel_rfl) (by kernel_rfl) (by kernel_rfl) (of_decide_eq_true (by kernel_rfl))
    (Eq.mpr (by kernel_rfl) H)

/-! milestone/trace.id -/

def sh_trace_id (P : Program) (e0 : Value) (h : Heap) (K : Value → Heap → Prop) : Prop :=
  pBox T_api_Event e0 h fun e1 h_1 =>
  pField 2 e1 fun t3 =>
  pLoad h_1 t3 fun t4 =>
  K t4 h_1

set_option maxRecDepth 100000 in
theorem lk_trace_id (e0 : Value) {h : Heap} {K : Value → Heap → Prop} (H : sh_trace_id Tryd.prog e0 h K) : CallsH Tryd.prog F_trace_id [e0].toArray h K :=
  callsH_of (ann := (annG (Tryd.f34.body.getD .skip) 0 []).1) (c := Tryd.f34.body.getD .skip) Tryd.func34 (by kernel_rfl) (by kernel_rfl) (by kernel_rfl) (of_decide_eq_true (by kernel_rfl))
    (Eq.mpr (by kernel_rfl) H)

/-! slices.IndexFunc[[]milestone/api.Event,milestone/api.Event] -/

def sh_slices_IndexFunc_sl_api_Event_api_Event_L1 (P : Program) (t7 s0 f1 : Value) (K : Value → Heap → Prop) (t8 : Value) (h_1 : Heap) (Z : Value → Heap → Prop) : Prop :=
  pBin .lss t8 t7 fun t9 =>
  ifV t9
  (pIdx 4 s0 t8 fun t14 =>
  pLoadN 4 h_1 t14 fun t15 =>
  callV P f1 [t15].toArray h_1 fun t16 h_2 =>
  ifV t16
  (K t8 h_2)
  (pBin .add t8 (.int .i64 1) fun t18 =>
  Z t18 h_2))
  (K (.int .i64 (-1)) h_1)

def sh_slices_IndexFunc_sl_api_Event_api_Event (P : Program) (s0 f1 : Value) (h : Heap) (K : Value → Heap → Prop) : Prop :=
  pLen s0 fun t7 =>
  LoopH (σ := Vals [8]) (fun x hh ZZ => sh_slices_IndexFunc_sl_api_Event_api_Event_L1 P t7 s0 f1 K x.1 hh (fun a0 hz => ZZ (a0, ()) hz)) ((.int .i64 0), ()) h

set_option maxRecDepth 100000 in
theorem lk_slices_IndexFunc_sl_api_Event_api_Event (s0 f1 : Value) {h : Heap} {K : Value → Heap → Prop} (H : sh_slices_IndexFunc_sl_api_Event_api_Event Tryd.prog s0 f1 h K) : CallsH Tryd.prog F_slices_IndexFunc_sl_api_Event_api_Event [s0, f1].toArray h K :=
  callsH_of (ann := (annG (Tryd.f35.body.getD .skip) 0 [(3, [8])]).1) (c := Tryd.f35.body.getD .skip) Tryd.func35 (by kernel_rfl) (by kernel_rfl) (by kernel_rfl) (of_decide_eq_true (by kernel_rfl))
    (Eq.mpr (by kernel_rfl) H)

/-! milestone/trace.Beyond$1 -/

def sh_trace_Beyond_1_C1 (P : Program) (K : Value → Heap → Prop) (t4 : Value) (h_2 : Heap) : Prop :=
  K t4 h_2

def sh_trace_Beyond_1 (P : Program) (e0 t1 t2 : Value) (h : Heap) (K : Value → Heap → Prop) : Prop :=
  pBox T_api_Event e0 h fun e3 h_1 =>
  cutP (σ := Vals [4]) (fun J =>
  pField 0 e3 fun t5 =>
  pLoad h_1 t5 fun t6 =>
  pBin .eql t6 (.int .i64 0) fun t7 =>
  ifV t7
  (pField 2 e3 fun t9 =>
  pLoad h_1 t9 fun t10 =>
  pBin .lss t10 (.int .i64 0) fun t11 =>
  ifV t11
  (J ((.bool true), ()) h_1)
  (pField 2 e3 fun t13 =>
  pLoad h_1 t13 fun t14 =>
  pLoad h_1 t1 fun t15 =>
  pLen t15 fun t16 =>
  pBin .geq t14 t16 fun t17 =>
  ifV t17
  (J ((.bool true), ()) h_1)
  (pLoad h_1 t1 fun t20 =>
  pField 2 e3 fun t21 =>
  pLoad h_1 t21 fun t22 =>
  pIdx 1 t20 t22 fun t23 =>
  pLoad h_1 t23 fun t24 =>
  pLoad h_1 t2 fun t25 =>
  pBin .gtr t24 t25 fun t26 =>
  J (t26, ()) h_1)))
  (J ((.bool false), ()) h_1))
  (fun x hh => sh_trace_Beyond_1_C1 P K x.1 hh)

set_option maxRecDepth 100000 in
theorem lk_trace_Beyond_1 (e0 t1 t2 : Value) {h : Heap} {K : Value → Heap → Prop} (H : sh_trace_Beyond_1 Tryd.prog e0 t1 t2 h K) : CallsH Tryd.prog F_trace_Beyond_1 [e0, t1, t2].toArray h K :=
  callsH_of (ann := (annG (Tryd.f36.body.getD .skip) 0 [(1, [4])]).1) (c := Tryd.f36.body.getD .skip) Tryd.func36 (by kernel_rfl) (by kernel_rfl) (by kernel_rfl) (of_decide_eq_true (by kernel_rfl))
    (Eq.mpr (by kernel_rfl) H)

/-! (*milestone/milestoneref07.Draft).Next -/

def sh_milestoneref07_Draft_Next_k1 (P : Program) (K : Value → Heap → Prop) (h_1 : Heap) : Prop :=
  K (.int .i64 0) h_1

def sh_milestoneref07_Draft_Next (P : Program) (d0 n1 : Value) (h : Heap) (K : Value → Heap → Prop) : Prop :=
  pNil d0 fun t6 =>
  pField 0 t6 fun t7 =>
  pLoad h t7 fun t8 =>
  pLen t8 fun t9 =>
  pBin .eql t9 (.int .i64 0) fun t10 =>
  ifV t10
  (sh_milestoneref07_Draft_Next_k1 P K h)
  (pBin .lss n1 (.int .i64 1) fun t13 =>
  ifV t13
  (sh_milestoneref07_Draft_Next_k1 P K h)
  (pNil d0 fun t16 =>
  pField 1 t16 fun t17 =>
  pLoad h t17 fun t18 =>
  pBin .add t18 (.int .i64 1) fun t19 =>
  pNil d0 fun t20 =>
  pField 1 t20 fun t21 =>
  pStore 1 t21 t19 h fun u h_2 =>
  pNil d0 fun t23 =>
  pField 0 t23 fun t24 =>
  pLoad h_2 t24 fun t25 =>
  pNil d0 fun t27 =>
  pField 1 t27 fun t28 =>
  pLoad h_2 t28 fun t29 =>
  pBin .sub t29 (.int .i64 1) fun t30 =>
  pNil d0 fun t32 =>
  pField 0 t32 fun t33 =>
  pLoad h_2 t33 fun t34 =>
  pLen t34 fun t35 =>
  pBin .rem t30 t35 fun t36 =>
  pIdx 1 t25 t36 fun t37 =>
  pLoad h_2 t37 fun t38 =>
  pNil d0 fun t40 =>
  pField 1 t40 fun t41 =>
  pLoad h_2 t41 fun t42 =>
  pBin .sub t42 (.int .i64 1) fun t43 =>
  pNil d0 fun t45 =>
  pField 0 t45 fun t46 =>
  pLoad h_2 t46 fun t47 =>
  pLen t47 fun t48 =>
  pBin .quo t43 t48 fun t49 =>
  pConv .u8 t49 fun t50 =>
  pBin .add t38 t50 fun t51 =>
  pConv .i64 t51 fun t52 =>
  pBin .rem t52 n1 fun t54 =>
  K t54 h_2))

set_option maxRecDepth 100000 in
theorem lk_milestoneref07_Draft_Next (d0 n1 : Value) {h : Heap} {K : Value → Heap → Prop} (H : sh_milestoneref07_Draft_Next Tryd.prog d0 n1 h K) : CallsH Tryd.prog F_milestoneref07_Draft_Next [d0, n1].toArray h K :=
  callsH_of (ann := (annG (Tryd.f37.body.getD .skip) 0 []).1) (c := Tryd.f37.body.getD .skip) Tryd.func37 (by kernel_rfl) (by kernel_rfl) (by kernel_rfl) (of_decide_eq_true (by kernel_rfl))
    (Eq.mpr (by kernel_rfl) H)

/-! (*milestone/milestoneref07.Draft).Weight -/

def sh_milestoneref07_Draft_Weight (P : Program) (d0 : Value) (h : Heap) (K : Value → Heap → Prop) : Prop :=
  callS P F_milestoneref07_Draft_Next [d0, (.int .i64 12)] h fun t5 h_1 =>
  pBin .lss t5 (.int .i64 3) fun t8 =>
  ifV t8
  (K (.int .i64 0) h_1)
  (pBin .lss t5 (.int .i64 10) fun t11 =>
  ifV t11
  (callS P F_milestoneref07_Draft_Next [d0, (.int .i64 9)] h_1 fun t13 h_2 =>
  pBin .add (.int .i64 1) t13 fun t14 =>
  K t14 h_2)
  (pBin .lss t5 (.int .i64 11) fun t17 =>
  ifV t17
  (callS P F_milestoneref07_Draft_Next [d0, (.int .i64 20)] h_1 fun t19 h_3 =>
  pBin .mul (.int .i64 100) t19 fun t20 =>
  K t20 h_3)
  (callS P F_milestoneref07_Draft_Next [d0, (.int .i64 2)] h_1 fun t22 h_4 =>
  pBin .sub (.int .i64 2147483647) t22 fun t23 =>
  K t23 h_4)))

set_option maxRecDepth 100000 in
theorem lk_milestoneref07_Draft_Weight (d0 : Value) {h : Heap} {K : Value → Heap → Prop} (H : sh_milestoneref07_Draft_Weight Tryd.prog d0 h K) : CallsH Tryd.prog F_milestoneref07_Draft_Weight [d0].toArray h K :=
  callsH_of (ann := (annG (Tryd.f38.body.getD .skip) 0 []).1) (c := Tryd.f38.body.getD .skip) Tryd.func38 (by kernel_rfl) (by kernel_rfl) (by kernel_rfl) (of_decide_eq_true (by kernel_rfl))
    (Eq.mpr (by kernel_rfl) H)

/-! milestone/graph.Check -/

def sh_graph_Check (P : Program) (r0 : Value) (h : Heap) (K : Value → Heap → Prop) : Prop :=
  pBox T_api_Raw r0 h fun r1 h_1 =>
  pBox T_error .nilIface h_1 fun err2 h_2 =>
  pLoadN 4 h_2 r1 fun t4 =>
  callS P F_graph_look [t4] h_2 fun t5 h_3 =>
  pStore 1 err2 .nilIface h_3 fun u h_4 =>
  DeferS P F_graph_Check_1 #[err2] h_4 fun h_5 =>
  pLoad h_5 err2 fun res =>
  K res h_5

set_option maxRecDepth 100000 in
theorem lk_graph_Check (r0 : Value) {h : Heap} {K : Value → Heap → Prop} (H : sh_graph_Check Tryd.prog r0 h K) : CallsH Tryd.prog F_graph_Check [r0].toArray h K :=
  callsH_defer (g := F_graph_Check_1) (A := cL (Tryd.f39.body.getD .skip)) (B := cR (cR (Tryd.f39.body.getD .skip))) (annA := (annG (cL (Tryd.f39.body.getD .skip)) 0 []).1) (annB := (annG (cR (cR (Tryd.f39.body.getD .skip))) 0 []).1) (id := cId (cL (cR (Tryd.f39.body.getD .skip)))) (o1 := cO 0 (cL (cR (Tryd.f39.body.getD .skip)))) (o2 := cO 1 (cL (cR (Tryd.f39.body.getD .skip)))) (s := 3) (caps := #[(.tmp 2)]) (c := { callee := .value (.tmp 3), args := #[], argTypes := #[] })
    Tryd.func39 (by kernel_rfl) (by kernel_rfl) (by kernel_rfl) (of_decide_eq_true (by kernel_rfl)) (by kernel_rfl) (by kernel_rfl) (by kernel_rfl) (by kernel_rfl) rfl rfl (by kernel_rfl) (by kernel_rfl)
    (Eq.mpr (by kernel_rfl) H)

/-! milestone/net.of -/

def sh_net_of (P : Program) (raw0 : Value) (h : Heap) (K : Value → Heap → Prop) : Prop :=
  pBox T_api_Raw raw0 h fun raw1 h_1 =>
  pLoadN 4 h_1 raw1 fun t5 =>
  pBuild [(.int .i64 0), (.slice none 0 0), (.slice none 0 0), (.slice none 0 0), (.slice none 0 0), (.slice none 0 0)] [(0, 4, t5)] fun t6 =>
  pBox T_net_Net t6 h_1 fun t7 h_2 =>
  callV P (.func (.func F_net_of_1) #[] #[raw1]) [(.func (.func F_net_of_2) #[] #[])].toArray h_2 fun t12 h_3 =>
  callV P (.func (.func F_net_of_1) #[] #[raw1]) [(.func (.func F_net_of_3) #[] #[])].toArray h_3 fun t14 h_4 =>
  pNil t7 fun t15 =>
  pField 4 t15 fun t16 =>
  pStore 1 t16 t12 h_4 fun u h_5 =>
  pNil t7 fun t17 =>
  pField 5 t17 fun t18 =>
  pStore 1 t18 t14 h_5 fun u_1 h_6 =>
  K t7 h_6

set_option maxRecDepth 100000 in
theorem lk_net_of (raw0 : Value) {h : Heap} {K : Value → Heap → Prop} (H : sh_net_of Tryd.prog raw0 h K) : CallsH Tryd.prog F_net_of [raw0].toArray h K :=
  callsH_of (ann := (annG (Tryd.f41.body.getD .skip) 0 []).1) (c := Tryd.f41.body.getD .skip) Tryd.func41 (by kernel_rfl) (by kernel_rfl) (by kernel_rfl) (of_decide_eq_true (by kernel_rfl))
    (Eq.mpr (by kernel_rfl) H)

/-! milestone/net.own -/

def sh_net_own (P : Program) (raw0 : Value) (h : Heap) (K : Value → Heap → Prop) : Prop :=
  pBox T_api_Raw raw0 h fun raw1 h_1 =>
  pBox T_api_Raw (.agg #[(.int .i64 0), (.slice none 0 0), (.slice none 0 0), (.slice none 0 0)]) h_1 fun t2 h_2 =>
  pField 1 raw1 fun t3 =>
  pLoad h_2 t3 fun t4 =>
  pField 2 raw1 fun t6 =>
  pLoad h_2 t6 fun t7 =>
  pField 3 raw1 fun t9 =>
  pLoad h_2 t9 fun t10 =>
  callS P F_slices_Clone_sl_int64_int64 [t4] h_2 fun t5 h_3 =>
  (pLoad h_3 t6 fun t7_1 =>
  t7_1 = t7) ∧
  (pLoad h_3 t9 fun t10_1 =>
  t10_1 = t10) ∧
  (pField 1 raw1 fun t12 =>
  callS P F_slices_Clone_sl_int64_int64 [t7] h_3 fun t8 h_4 =>
  (pLoad h_4 t9 fun t10_2 =>
  t10_2 = t10) ∧
  (callS P F_slices_Clone_sl_api_Arc_api_Arc [t10] h_4 fun t11 h_5 =>
  pStore 1 t12 t5 h_5 fun u h_6 =>
  pField 2 raw1 fun t13 =>
  pStore 1 t13 t8 h_6 fun u_1 h_7 =>
  pField 3 raw1 fun t14 =>
  pStore 1 t14 t11 h_7 fun u_2 h_8 =>
  pLoadN 4 h_8 raw1 fun t15 =>
  pStore 4 t2 t15 h_8 fun u_3 h_9 =>
  pLoadN 4 h_9 t2 fun res =>
  K res h_9))

set_option maxRecDepth 100000 in
theorem lk_net_own (raw0 : Value) {h : Heap} {K : Value → Heap → Prop} (H : sh_net_own Tryd.prog raw0 h K) : CallsH Tryd.prog F_net_own [raw0].toArray h K :=
  callsH_of (ann := (annG (Tryd.f42.body.getD .skip) 0 []).1) (c := Tryd.f42.body.getD .skip) Tryd.func42 (by kernel_rfl) (by kernel_rfl) (by kernel_rfl) (of_decide_eq_true (by kernel_rfl))
    (Eq.mpr (by kernel_rfl) H)

/-! milestone/trace.may$1 -/

def sh_trace_may_1_C1 (P : Program) (e2 : Value) (K : Value → Heap → Prop) (most4 : Value) (h_28 : Heap) : Prop :=
  pField 2 e2 fun t14 =>
  pLoad h_28 t14 fun t15 =>
  pBin .geq t15 (.int .i64 0) fun t16 =>
  ifV t16
  (pField 2 e2 fun t18 =>
  pLoad h_28 t18 fun t19 =>
  pBin .lss t19 most4 fun t21 =>
  ifV t21
  (pField 1 e2 fun t24 =>
  pLoad h_28 t24 fun t25 =>
  pBin .eql t25 (.int .i64 0) fun t26 =>
  ifV t26
  (pField 0 e2 fun t34 =>
  pLoad h_28 t34 fun t35 =>
  pBin .eql t35 (.int .i64 0) fun t36 =>
  ifV t36
  (K (.bool true) h_28)
  (pField 3 e2 fun t38 =>
  pLoad h_28 t38 fun t39 =>
  pBin .eql t39 (.int .i64 0) fun t40 =>
  K t40 h_28))
  (pField 1 e2 fun t28 =>
  pLoad h_28 t28 fun t29 =>
  pBin .eql t29 (.int .i64 1) fun t30 =>
  ifV t30
  (pField 0 e2 fun t34_1 =>
  pLoad h_28 t34_1 fun t35_1 =>
  pBin .eql t35_1 (.int .i64 0) fun t36_1 =>
  ifV t36_1
  (K (.bool true) h_28)
  (pField 3 e2 fun t38_1 =>
  pLoad h_28 t38_1 fun t39_1 =>
  pBin .eql t39_1 (.int .i64 0) fun t40_1 =>
  K t40_1 h_28))
  (K (.bool false) h_28)))
  (K (.bool false) h_28))
  (K (.bool false) h_28)

def sh_trace_may_1 (P : Program) (e0 t1 : Value) (h : Heap) (K : Value → Heap → Prop) : Prop :=
  pBox T_api_Event e0 h fun e2 h_1 =>
  cutP (σ := Vals [4]) (fun J =>
  pLoad h_1 t1 fun t6 =>
  pLoad h_1 t1 fun t8 =>
  pField 0 e2 fun t11 =>
  pLoad h_1 t11 fun t12 =>
  (pMakeMap h_1 fun t5 h_2 =>
  callS P F_net_Net_Nodes [t6] h_2 fun t7 h_3 =>
  (pLoad h_3 t1 fun t8_1 =>
  t8_1 = t8) ∧
  (pLoad h_3 t11 fun t12_1 =>
  t12_1 = t12) ∧
  ((pMapSet (.int .i64) t5 (.int .i64 0) t7 h_3 fun u h_4 =>
  (pLoad h_4 t1 fun t8_2 =>
  t8_2 = t8) ∧
  (pLoad h_4 t11 fun t12_2 =>
  t12_2 = t12) ∧
  (callS P F_net_Net_Arcs [t8] h_4 fun t9 h_5 =>
  (pLoad h_5 t11 fun t12_3 =>
  t12_3 = t12) ∧
  (pMapSet (.int .i64) t5 (.int .i64 1) t9 h_5 fun u_1 h_6 =>
  (pLoad h_6 t11 fun t12_4 =>
  t12_4 = t12) ∧
  (pLook (.int .i64) (.int .i64 0) false h_6 t5 t12 fun t13 =>
  J (t13, ()) h_6)))) ∧
  (callS P F_net_Net_Arcs [t8] h_3 fun t9_1 h_7 =>
  (pLoad h_7 t11 fun t12_5 =>
  t12_5 = t12) ∧
  ((pMapSet (.int .i64) t5 (.int .i64 0) t7 h_7 fun u_2 h_8 =>
  (pLoad h_8 t11 fun t12_6 =>
  t12_6 = t12) ∧
  (pMapSet (.int .i64) t5 (.int .i64 1) t9_1 h_8 fun u_3 h_9 =>
  (pLoad h_9 t11 fun t12_7 =>
  t12_7 = t12) ∧
  (pLook (.int .i64) (.int .i64 0) false h_9 t5 t12 fun t13_1 =>
  J (t13_1, ()) h_9))) ∧
  (pMapSet (.int .i64) t5 (.int .i64 1) t9_1 h_7 fun u_4 h_10 =>
  (pLoad h_10 t11 fun t12_8 =>
  t12_8 = t12) ∧
  (pMapSet (.int .i64) t5 (.int .i64 0) t7 h_10 fun u_5 h_11 =>
  (pLoad h_11 t11 fun t12_9 =>
  t12_9 = t12) ∧
  (pLook (.int .i64) (.int .i64 0) false h_11 t5 t12 fun t13_2 =>
  J (t13_2, ()) h_11))))))) ∧
  (callS P F_net_Net_Nodes [t6] h_1 fun t7_1 h_12 =>
  (pLoad h_12 t1 fun t8_3 =>
  t8_3 = t8) ∧
  (pLoad h_12 t11 fun t12_10 =>
  t12_10 = t12) ∧
  ((pMakeMap h_12 fun t5_1 h_13 =>
  (pMapSet (.int .i64) t5_1 (.int .i64 0) t7_1 h_13 fun u_6 h_14 =>
  (pLoad h_14 t1 fun t8_4 =>
  t8_4 = t8) ∧
  (pLoad h_14 t11 fun t12_11 =>
  t12_11 = t12) ∧
  (callS P F_net_Net_Arcs [t8] h_14 fun t9_2 h_15 =>
  (pLoad h_15 t11 fun t12_12 =>
  t12_12 = t12) ∧
  (pMapSet (.int .i64) t5_1 (.int .i64 1) t9_2 h_15 fun u_7 h_16 =>
  (pLoad h_16 t11 fun t12_13 =>
  t12_13 = t12) ∧
  (pLook (.int .i64) (.int .i64 0) false h_16 t5_1 t12 fun t13_3 =>
  J (t13_3, ()) h_16)))) ∧
  (callS P F_net_Net_Arcs [t8] h_13 fun t9_3 h_17 =>
  (pLoad h_17 t11 fun t12_14 =>
  t12_14 = t12) ∧
  ((pMapSet (.int .i64) t5_1 (.int .i64 0) t7_1 h_17 fun u_8 h_18 =>
  (pLoad h_18 t11 fun t12_15 =>
  t12_15 = t12) ∧
  (pMapSet (.int .i64) t5_1 (.int .i64 1) t9_3 h_18 fun u_9 h_19 =>
  (pLoad h_19 t11 fun t12_16 =>
  t12_16 = t12) ∧
  (pLook (.int .i64) (.int .i64 0) false h_19 t5_1 t12 fun t13_4 =>
  J (t13_4, ()) h_19))) ∧
  (pMapSet (.int .i64) t5_1 (.int .i64 1) t9_3 h_17 fun u_10 h_20 =>
  (pLoad h_20 t11 fun t12_17 =>
  t12_17 = t12) ∧
  (pMapSet (.int .i64) t5_1 (.int .i64 0) t7_1 h_20 fun u_11 h_21 =>
  (pLoad h_21 t11 fun t12_18 =>
  t12_18 = t12) ∧
  (pLook (.int .i64) (.int .i64 0) false h_21 t5_1 t12 fun t13_5 =>
  J (t13_5, ()) h_21)))))) ∧
  (callS P F_net_Net_Arcs [t8] h_12 fun t9_4 h_22 =>
  (pLoad h_22 t11 fun t12_19 =>
  t12_19 = t12) ∧
  (pMakeMap h_22 fun t5_2 h_23 =>
  (pMapSet (.int .i64) t5_2 (.int .i64 0) t7_1 h_23 fun u_12 h_24 =>
  (pLoad h_24 t11 fun t12_20 =>
  t12_20 = t12) ∧
  (pMapSet (.int .i64) t5_2 (.int .i64 1) t9_4 h_24 fun u_13 h_25 =>
  (pLoad h_25 t11 fun t12_21 =>
  t12_21 = t12) ∧
  (pLook (.int .i64) (.int .i64 0) false h_25 t5_2 t12 fun t13_6 =>
  J (t13_6, ()) h_25))) ∧
  (pMapSet (.int .i64) t5_2 (.int .i64 1) t9_4 h_23 fun u_14 h_26 =>
  (pLoad h_26 t11 fun t12_22 =>
  t12_22 = t12) ∧
  (pMapSet (.int .i64) t5_2 (.int .i64 0) t7_1 h_26 fun u_15 h_27 =>
  (pLoad h_27 t11 fun t12_23 =>
  t12_23 = t12) ∧
  (pLook (.int .i64) (.int .i64 0) false h_27 t5_2 t12 fun t13_7 =>
  J (t13_7, ()) h_27))))))))
  (fun x hh => sh_trace_may_1_C1 P e2 K x.1 hh)

set_option maxRecDepth 100000 in
theorem lk_trace_may_1 (e0 t1 : Value) {h : Heap} {K : Value → Heap → Prop} (H : sh_trace_may_1 Tryd.prog e0 t1 h K) : CallsH Tryd.prog F_trace_may_1 [e0, t1].toArray h K :=
  callsH_of (ann := (annG (Tryd.f43.body.getD .skip) 0 [(1, [4])]).1) (c := Tryd.f43.body.getD .skip) Tryd.func43 (by kernel_rfl) (by kernel_rfl) (by kernel_rfl) (of_decide_eq_true (by kernel_rfl))
    (Eq.mpr (by kernel_rfl) H)

/-! (*milestone/net.Net).Nodes -/

def sh_net_Net_Nodes (P : Program) (n0 : Value) (h : Heap) (K : Value → Heap → Prop) : Prop :=
  pEq false .ptr n0 (.pointer none) fun t4 =>
  ifV t4
  (K (.int .i64 0) h)
  (pNil n0 fun t6 =>
  pField 0 t6 fun t7 =>
  pField 0 t7 fun t8 =>
  pLoad h t8 fun t9 =>
  K t9 h)

set_option maxRecDepth 100000 in
theorem lk_net_Net_Nodes (n0 : Value) {h : Heap} {K : Value → Heap → Prop} (H : sh_net_Net_Nodes Tryd.prog n0 h K) : CallsH Tryd.prog F_net_Net_Nodes [n0].toArray h K :=
  callsH_of (ann := (annG (Tryd.f44.body.getD .skip) 0 []).1) (c := Tryd.f44.body.getD .skip) Tryd.func44 (by kernel_rfl) (by kernel_rfl) (by kernel_rfl) (of_decide_eq_true (by kernel_rfl))
    (Eq.mpr (by kernel_rfl) H)

/-! (*milestone/net.Net).Arcs -/

def sh_net_Net_Arcs (P : Program) (n0 : Value) (h : Heap) (K : Value → Heap → Prop) : Prop :=
  pEq false .ptr n0 (.pointer none) fun t4 =>
  ifV t4
  (K (.int .i64 0) h)
  (pNil n0 fun t6 =>
  pField 0 t6 fun t7 =>
  pField 3 t7 fun t8 =>
  pLoad h t8 fun t9 =>
  pLen t9 fun t10 =>
  K t10 h)

set_option maxRecDepth 100000 in
theorem lk_net_Net_Arcs (n0 : Value) {h : Heap} {K : Value → Heap → Prop} (H : sh_net_Net_Arcs Tryd.prog n0 h K) : CallsH Tryd.prog F_net_Net_Arcs [n0].toArray h K :=
  callsH_of (ann := (annG (Tryd.f45.body.getD .skip) 0 []).1) (c := Tryd.f45.body.getD .skip) Tryd.func45 (by kernel_rfl) (by kernel_rfl) (by kernel_rfl) (of_decide_eq_true (by kernel_rfl))
    (Eq.mpr (by kernel_rfl) H)

/-! (*milestone/net.Net).Arc -/

def sh_net_Net_Arc (P : Program) (n0 a1 : Value) (h : Heap) (K : Value → Heap → Prop) : Prop :=
  pBox T_api_Arc (.agg #[(.int .i64 0), (.int .i64 0), (.int .i64 0)]) h fun t4 h_1 =>
  pEq false .ptr n0 (.pointer none) fun t7 =>
  ifV t7
  (pBuild [(.int .i64 0), (.int .i64 0), (.int .i64 0)] [] fun t8 =>
  pStore 3 t4 t8 h_1 fun u h_2 =>
  pLoadN 3 h_2 t4 fun res =>
  K (.tuple #[res, (.bool false)]) h_2)
  (pNil n0 fun t10 =>
  pField 0 t10 fun t11 =>
  pField 3 t11 fun t12 =>
  pLoad h_1 t12 fun t13 =>
  callS P F_net_one_api_Arc [t13, a1] h_1 fun t15 h_3 =>
  pExt t15 0 fun t16 =>
  pExt t15 1 fun t17 =>
  pStore 3 t4 t16 h_3 fun u_1 h_4 =>
  pLoadN 3 h_4 t4 fun res_1 =>
  K (.tuple #[res_1, t17]) h_4)

set_option maxRecDepth 100000 in
theorem lk_net_Net_Arc (n0 a1 : Value) {h : Heap} {K : Value → Heap → Prop} (H : sh_net_Net_Arc Tryd.prog n0 a1 h K) : CallsH Tryd.prog F_net_Net_Arc [n0, a1].toArray h K :=
  callsH_of (ann := (annG (Tryd.f46.body.getD .skip) 0 []).1) (c := Tryd.f46.body.getD .skip) Tryd.func46 (by kernel_rfl) (by kernel_rfl) (by kernel_rfl) (of_decide_eq_true (by kernel_rfl))
    (Eq.mpr (by kernel_rfl) H)

/-! milestone/trace.of$1 -/

def sh_trace_of_1_k2 (P : Program) (t9 : Value) (Z : Value → Heap → Prop) (h_5 : Heap) : Prop :=
  pBin .add t9 (.int .i64 1) fun t31 =>
  Z t31 h_5

def sh_trace_of_1_L1 (P : Program) (t8 t7 t2 t3 yield0 : Value) (K : Value → Heap → Prop) (t9 : Value) (h_1 : Heap) (Z : Value → Heap → Prop) : Prop :=
  pBin .lss t9 t8 fun t10 =>
  ifV t10
  (pIdx 4 t7 t9 fun t12 =>
  pLoadN 4 h_1 t12 fun t13 =>
  pBox T_api_Event (.agg #[(.int .i64 0), (.int .i64 0), (.int .i64 0), (.int .i64 0)]) h_1 fun e6 h_2 =>
  pStore 4 e6 t13 h_2 fun u h_3 =>
  pField 0 e6 fun t14 =>
  pLoad h_3 t14 fun t15 =>
  pLoad h_3 t2 fun t16 =>
  pBin .eql t15 t16 fun t17 =>
  ifV t17
  (pField 1 e6 fun t19 =>
  pLoad h_3 t19 fun t20 =>
  pLoad h_3 t3 fun t21 =>
  pBin .eql t20 t21 fun t22 =>
  ifV t22
  (pLoadN 4 h_3 e6 fun t27 =>
  callV P yield0 [t9, t27].toArray h_3 fun t28 h_4 =>
  pUn .not t28 fun t29 =>
  ifV t29
  (K (.tuple #[]) h_4)
  (sh_trace_of_1_k2 P t9 Z h_4))
  (sh_trace_of_1_k2 P t9 Z h_3))
  (sh_trace_of_1_k2 P t9 Z h_3))
  (K (.tuple #[]) h_1)

def sh_trace_of_1 (P : Program) (yield0 t1 t2 t3 : Value) (h : Heap) (K : Value → Heap → Prop) : Prop :=
  pLoad h t1 fun t7 =>
  pLen t7 fun t8 =>
  LoopH (σ := Vals [9]) (fun x hh ZZ => sh_trace_of_1_L1 P t8 t7 t2 t3 yield0 K x.1 hh (fun a0 hz => ZZ (a0, ()) hz)) ((.int .i64 0), ()) h

set_option maxRecDepth 100000 in
theorem lk_trace_of_1 (yield0 t1 t2 t3 : Value) {h : Heap} {K : Value → Heap → Prop} (H : sh_trace_of_1 Tryd.prog yield0 t1 t2 t3 h K) : CallsH Tryd.prog F_trace_of_1 [yield0, t1, t2, t3].toArray h K :=
  callsH_of (ann := (annG (Tryd.f47.body.getD .skip) 0 [(1, [9])]).1) (c := Tryd.f47.body.getD .skip) Tryd.func47 (by kernel_rfl) (by kernel_rfl) (by kernel_rfl) (of_decide_eq_true (by kernel_rfl))
    (Eq.mpr (by kernel_rfl) H)

/-! milestone/graph.look -/

def sh_graph_look_k3 (P : Program) (p4 phase2 : Value) (h_11 : Heap) : Prop :=
  pField 2 p4 fun t32 =>
  pLoad h_11 t32 fun t33 =>
  pLoad h_11 phase2 fun t34 =>
  pField 0 p4 fun t35 =>
  pLoad h_11 t35 fun t36 =>
  pField 1 p4 fun t37 =>
  pLoad h_11 t37 fun t38 =>
  pBuild [(.int .i64 0), (.int .i64 0), (.int .i64 0), (.int .i64 0)] [(0, 1, t33), (1, 1, t34), (2, 1, t36), (3, 1, t38)] fun t39 =>
  pBox T_api_Fault t39 h_11 fun t40 h_12 =>
  pBuild [(.pointer none)] [(0, 1, t40)] fun t41 =>
  False

def sh_graph_look_B2 (P : Program) (h_6 : Heap) (phase2 : Value) (L : Loop) (t19 : Value) (h_7 : Heap) (R : Exit → Heap → Prop) : Prop :=
  pBox T_graph_place (.agg #[(.int .i64 0), (.int .i64 0), (.int .i64 0), (.int .i64 0), (.int .i64 0), (.int .i64 0)]) h_7 fun p4 h_8 =>
  pStore 6 p4 t19 h_8 fun u_1 h_9 =>
  beginR (h_6.size + 1) L h_9 fun h_10 =>
  pField 3 p4 fun t20 =>
  pLoad h_10 t20 fun t21 =>
  pField 4 p4 fun t22 =>
  pLoad h_10 t22 fun t23 =>
  pBin .lss t21 t23 fun t24 =>
  ifV t24
  (sh_graph_look_k3 P p4 phase2 h_10)
  (pField 3 p4 fun t26 =>
  pLoad h_10 t26 fun t27 =>
  pField 5 p4 fun t28 =>
  pLoad h_10 t28 fun t29 =>
  pBin .geq t27 t29 fun t30 =>
  ifV t30
  (sh_graph_look_k3 P p4 phase2 h_10)
  (R .normal h_10))

def sh_graph_look_L1 (P : Program) (t11 t10 : Value) (K : Value → Heap → Prop) (m : List Nat) (t12 : Value) (h_3 : Heap) (Z : List Nat → Value → Heap → Prop) : Prop :=
  pBin .lss t12 t11 fun t13 =>
  ifV t13
  (pIdx 1 t10 t12 fun t15 =>
  pLoad h_3 t15 fun t16 =>
  pBox T_int (.int .i64 0) h_3 fun phase2 h_4 =>
  pStore 1 phase2 t12 h_4 fun u h_5 =>
  callV P t16 [].toArray h_5 fun t18 h_6 =>
  rangeH P t18 [19] (h_6.size + 1) (h_6.push (.deferred (some []))) (fun L x hh R => sh_graph_look_B2 P h_6 phase2 L x.1 hh R)
  (fun h_13 => pBin .add t12 (.int .i64 1) fun t43 =>
  Z (h_6.size :: m) t43 h_13)
  (fun h_14 => takeM (h_6.size :: m) h_14 fun h_15 =>
  K (.tuple #[]) h_15)
  [])
  (takeM m h_3 fun h_16 =>
  K (.tuple #[]) h_16)

def sh_graph_look (P : Program) (r0 : Value) (h : Heap) (K : Value → Heap → Prop) : Prop :=
  pBox T_api_Raw r0 h fun r1 h_1 =>
  pBuildSlice T_func_iter_Seq_graph_place (zerosL [.nilFunc] 5) [(0, 1, (.func (.func F_graph_look_1) #[] #[r1])), (1, 1, (.func (.func F_graph_look_2) #[] #[r1])), (2, 1, (.func (.func F_graph_look_3) #[] #[r1])), (3, 1, (.func (.func F_graph_look_4) #[] #[r1])), (4, 1, (.func (.func F_graph_look_5) #[] #[r1]))] 5 h_1 fun t10 h_2 =>
  pLen t10 fun t11 =>
  LoopH (σ := List Nat × Vals [12]) (fun x hh ZZ => sh_graph_look_L1 P t11 t10 K x.1 x.2.1 hh (fun mz a0 hz => ZZ (mz, (a0, ())) hz)) ([], ((.int .i64 0), ())) h_2

set_option maxRecDepth 100000 in
theorem lk_graph_look (r0 : Value) {h : Heap} {K : Value → Heap → Prop} (H : sh_graph_look Tryd.prog r0 h K) : CallsH Tryd.prog F_graph_look [r0].toArray h K :=
  callsH_of (ann := (annG (Tryd.f49.body.getD .skip) 0 [(2, [12])]).1) (c := Tryd.f49.body.getD .skip) Tryd.func49 (by kernel_rfl) (by kernel_rfl) (by kernel_rfl) (of_decide_eq_true (by kernel_rfl))
    (Eq.mpr (by kernel_rfl) H)

/-! milestone/net.of$1 -/

def sh_net_of_1_C5 (P : Program) (t64 : Value) (Z_2 : Value → Heap → Prop) (h_31 : Heap) : Prop :=
  pBin .add t64 (.int .i64 1) fun t83 =>
  Z_2 t83 h_31

def sh_net_of_1_L4 (P : Program) (t63 t62 end0 rows8 : Value) (K : Value → Heap → Prop) (t64 : Value) (h_14 : Heap) (Z_2 : Value → Heap → Prop) : Prop :=
  pBin .lss t64 t63 fun t65 =>
  ifV t65
  (cutP (σ := Vals []) (fun J_1 =>
  pIdx 3 t62 t64 fun t67 =>
  pLoadN 3 h_14 t67 fun t68 =>
  pBox T_api_Arc (.agg #[(.int .i64 0), (.int .i64 0), (.int .i64 0)]) h_14 fun a13 h_15 =>
  pStore 3 a13 t68 h_15 fun u_3 h_16 =>
  pLoadN 3 h_16 a13 fun t71 =>
  pLoadN 3 h_16 a13 fun t75 =>
  (callV P end0 [t71].toArray h_16 fun t72 h_17 =>
  (pLoadN 3 h_17 a13 fun t75_1 =>
  t75_1 = t75) ∧
  ((callV P end0 [t75].toArray h_17 fun t76 h_18 =>
  pIdx 1 rows8 t76 fun t77 =>
  pLoad h_18 t77 fun t78 =>
  pBuildSlice T_int (zerosL [(.int .i64 0)] 1) [(0, 1, t64)] 1 h_18 fun t80 h_19 =>
  pAppend T_int 1 8 [(.int .i64 0)] t78 t80 h_19 fun t81 h_20 =>
  pIdx 1 rows8 t72 fun t82 =>
  pStore 1 t82 t81 h_20 fun u_4 h_21 =>
  J_1 () h_21) ∧
  (pBuildSlice T_int (zerosL [(.int .i64 0)] 1) [(0, 1, t64)] 1 h_17 fun t80_1 h_22 =>
  callV P end0 [t75].toArray h_22 fun t76_1 h_23 =>
  pIdx 1 rows8 t76_1 fun t77_1 =>
  pLoad h_23 t77_1 fun t78_1 =>
  pAppend T_int 1 8 [(.int .i64 0)] t78_1 t80_1 h_23 fun t81_1 h_24 =>
  pIdx 1 rows8 t72 fun t82_1 =>
  pStore 1 t82_1 t81_1 h_24 fun u_5 h_25 =>
  J_1 () h_25))) ∧
  (pBuildSlice T_int (zerosL [(.int .i64 0)] 1) [(0, 1, t64)] 1 h_16 fun t80_2 h_26 =>
  callV P end0 [t71].toArray h_26 fun t72_1 h_27 =>
  (pLoadN 3 h_27 a13 fun t75_2 =>
  t75_2 = t75) ∧
  (callV P end0 [t75].toArray h_27 fun t76_2 h_28 =>
  pIdx 1 rows8 t76_2 fun t77_2 =>
  pLoad h_28 t77_2 fun t78_2 =>
  pAppend T_int 1 8 [(.int .i64 0)] t78_2 t80_2 h_28 fun t81_2 h_29 =>
  pIdx 1 rows8 t72_1 fun t82_2 =>
  pStore 1 t82_2 t81_2 h_29 fun u_6 h_30 =>
  J_1 () h_30)))
  (fun x hh => sh_net_of_1_C5 P t64 Z_2 hh))
  (K rows8 h_14)

def sh_net_of_1_L3 (P : Program) (t41 t16 all7 rows8 t1 end0 : Value) (K : Value → Heap → Prop) (at9 t42 : Value) (h_12 : Heap) (Z_1 : Value → Value → Heap → Prop) : Prop :=
  pBin .lss t42 t41 fun t43 =>
  ifV t43
  (pIdx 1 t16 t42 fun t45 =>
  pLoad h_12 t45 fun t46 =>
  pBin .add at9 t46 fun t54 =>
  pSlice 1 all7 (some at9) (some at9) (some t54) fun t55 =>
  pIdx 1 rows8 t42 fun t56 =>
  pStore 1 t56 t55 h_12 fun u_2 h_13 =>
  pBin .add at9 t46 fun t59 =>
  pBin .add t42 (.int .i64 1) fun t60 =>
  Z_1 t59 t60 h_13)
  (pField 3 t1 fun t61 =>
  pLoad h_12 t61 fun t62 =>
  pLen t62 fun t63 =>
  LoopH (σ := Vals [64]) (fun x hh ZZ => sh_net_of_1_L4 P t63 t62 end0 rows8 K x.1 hh (fun a0 hz => ZZ (a0, ()) hz)) ((.int .i64 0), ()) h_12)

def sh_net_of_1_C2 (P : Program) (t16 t1 end0 : Value) (K : Value → Heap → Prop) (all7 rows8 : Value) (h_11 : Heap) : Prop :=
  pLen t16 fun t41 =>
  LoopH (σ := Vals [9, 42]) (fun x hh ZZ => sh_net_of_1_L3 P t41 t16 all7 rows8 t1 end0 K x.1 x.2.1 hh (fun a0 a1 hz => ZZ (a0, (a1, ())) hz)) ((.int .i64 0), ((.int .i64 0), ())) h_11

def sh_net_of_1_L1 (P : Program) (t19 t18 end0 t16 t1 : Value) (K : Value → Heap → Prop) (t20 : Value) (h_2 : Heap) (Z : Value → Heap → Prop) : Prop :=
  pBin .lss t20 t19 fun t21 =>
  ifV t21
  (pIdx 3 t18 t20 fun t22 =>
  pLoadN 3 h_2 t22 fun t23 =>
  pBox T_api_Arc (.agg #[(.int .i64 0), (.int .i64 0), (.int .i64 0)]) h_2 fun a6 h_3 =>
  pStore 3 a6 t23 h_3 fun u h_4 =>
  pLoadN 3 h_4 a6 fun t26 =>
  callV P end0 [t26].toArray h_4 fun t27 h_5 =>
  pIdx 1 t16 t27 fun t28 =>
  pLoad h_5 t28 fun t29 =>
  pBin .add t29 (.int .i64 1) fun t30 =>
  pIdx 1 t16 t27 fun t31 =>
  pStore 1 t31 t30 h_5 fun u_1 h_6 =>
  pBin .add t20 (.int .i64 1) fun t32 =>
  Z t32 h_6)
  (cutP (σ := Vals [7, 8]) (fun J =>
  pField 3 t1 fun t33 =>
  pLoad h_2 t33 fun t34 =>
  pLen t34 fun t35 =>
  pField 0 t1 fun t37 =>
  pLoad h_2 t37 fun t38 =>
  (pMakeSlice T_int 8 [(.int .i64 0)] t35 t35 h_2 fun t36 h_7 =>
  pMakeSlice T_sl_int 24 [(.slice none 0 0)] t38 t38 h_7 fun t39 h_8 =>
  J (t36, (t39, ())) h_8) ∧
  (pMakeSlice T_sl_int 24 [(.slice none 0 0)] t38 t38 h_2 fun t39_1 h_9 =>
  pMakeSlice T_int 8 [(.int .i64 0)] t35 t35 h_9 fun t36_1 h_10 =>
  J (t36_1, (t39_1, ())) h_10))
  (fun x hh => sh_net_of_1_C2 P t16 t1 end0 K x.1 x.2.1 hh))

def sh_net_of_1 (P : Program) (end0 t1 : Value) (h : Heap) (K : Value → Heap → Prop) : Prop :=
  pField 0 t1 fun t14 =>
  pLoad h t14 fun t15 =>
  pMakeSlice T_int 8 [(.int .i64 0)] t15 t15 h fun t16 h_1 =>
  pField 3 t1 fun t17 =>
  pLoad h_1 t17 fun t18 =>
  pLen t18 fun t19 =>
  LoopH (σ := Vals [20]) (fun x hh ZZ => sh_net_of_1_L1 P t19 t18 end0 t16 t1 K x.1 hh (fun a0 hz => ZZ (a0, ()) hz)) ((.int .i64 0), ()) h_1

set_option maxRecDepth 100000 in
theorem lk_net_of_1 (end0 t1 : Value) {h : Heap} {K : Value → Heap → Prop} (H : sh_net_of_1 Tryd.prog end0 t1 h K) : CallsH Tryd.prog F_net_of_1 [end0, t1].toArray h K :=
  callsH_of (ann := (annG (Tryd.f51.body.getD .skip) 0 [(4, [20]), (9, [7, 8]), (13, [9, 42]), (21, [64]), (24, [])]).1) (c := Tryd.f51.body.getD .skip) Tryd.func51 (by kernel_rfl) (by kernel_rfl) (by kernel_rfl) (of_decide_eq_true (by kernel_rfl))
    (Eq.mpr (by kernel_rfl) H)

end Go.Proofs.YtgefabaobhendaaDoor

namespace Go.Proofs.YtgefabaobhendaaDoor
open Go Go.Mh
set_option maxHeartbeats 0
set_option linter.unusedVariables false

/-! milestone/net.of$2 -/

def sh_net_of_2 (P : Program) (a0 : Value) (h : Heap) (K : Value → Heap → Prop) : Prop :=
  pBox T_api_Arc a0 h fun a1 h_1 =>
  pField 0 a1 fun t3 =>
  pLoad h_1 t3 fun t4 =>
  K t4 h_1

set_option maxRecDepth 100000 in
theorem lk_net_of_2 (a0 : Value) {h : Heap} {K : Value → Heap → Prop} (H : sh_net_of_2 Tryd.prog a0 h K) : CallsH Tryd.prog F_net_of_2 [a0].toArray h K :=
  callsH_of (ann := (annG (Tryd.f52.body.getD .skip) 0 []).1) (c := Tryd.f52.body.getD .skip) Tryd.func52 (by kernel_rfl) (by kernel_rfl) (by kernel_rfl) (of_decide_eq_true (by kernel_rfl))
    (Eq.mpr (by kernel_rfl) H)

/-! milestone/net.of$3 -/

def sh_net_of_3 (P : Program) (a0 : Value) (h : Heap) (K : Value → Heap → Prop) : Prop :=
  pBox T_api_Arc a0 h fun a1 h_1 =>
  pField 1 a1 fun t3 =>
  pLoad h_1 t3 fun t4 =>
  K t4 h_1

set_option maxRecDepth 100000 in
theorem lk_net_of_3 (a0 : Value) {h : Heap} {K : Value → Heap → Prop} (H : sh_net_of_3 Tryd.prog a0 h K) : CallsH Tryd.prog F_net_of_3 [a0].toArray h K :=
  callsH_of (ann := (annG (Tryd.f53.body.getD .skip) 0 []).1) (c := Tryd.f53.body.getD .skip) Tryd.func53 (by kernel_rfl) (by kernel_rfl) (by kernel_rfl) (of_decide_eq_true (by kernel_rfl))
    (Eq.mpr (by kernel_rfl) H)

/-! slices.Clone[[]int64,int64] -/

def sh_slices_Clone_sl_int64_int64 (P : Program) (s0 : Value) (h : Heap) (K : Value → Heap → Prop) : Prop :=
  pEq false .slice s0 (.slice none 0 0) fun t4 =>
  ifV t4
  (K (.slice none 0 0) h)
  (pBuildSlice T_int64 (zerosL [(.int .i64 0)] 0) [] 0 h fun t5 h_1 =>
  pAppend T_int64 1 8 [(.int .i64 0)] t5 s0 h_1 fun t7 h_2 =>
  K t7 h_2)

set_option maxRecDepth 100000 in
theorem lk_slices_Clone_sl_int64_int64 (s0 : Value) {h : Heap} {K : Value → Heap → Prop} (H : sh_slices_Clone_sl_int64_int64 Tryd.prog s0 h K) : CallsH Tryd.prog F_slices_Clone_sl_int64_int64 [s0].toArray h K :=
  callsH_of (ann := (annG (Tryd.f54.body.getD .skip) 0 []).1) (c := Tryd.f54.body.getD .skip) Tryd.func54 (by kernel_rfl) (by kernel_rfl) (by kernel_rfl) (of_decide_eq_true (by kernel_rfl))
    (Eq.mpr (by kernel_rfl) H)

/-! slices.Clone[[]milestone/api.Arc,milestone/api.Arc] -/

def sh_slices_Clone_sl_api_Arc_api_Arc (P : Program) (s0 : Value) (h : Heap) (K : Value → Heap → Prop) : Prop :=
  pEq false .slice s0 (.slice none 0 0) fun t4 =>
  ifV t4
  (K (.slice none 0 0) h)
  (pBuildSlice T_api_Arc (zerosL [(.int .i64 0), (.int .i64 0), (.int .i64 0)] 0) [] 0 h fun t5 h_1 =>
  pAppend T_api_Arc 3 24 [(.int .i64 0), (.int .i64 0), (.int .i64 0)] t5 s0 h_1 fun t7 h_2 =>
  K t7 h_2)

set_option maxRecDepth 100000 in
theorem lk_slices_Clone_sl_api_Arc_api_Arc (s0 : Value) {h : Heap} {K : Value → Heap → Prop} (H : sh_slices_Clone_sl_api_Arc_api_Arc Tryd.prog s0 h K) : CallsH Tryd.prog F_slices_Clone_sl_api_Arc_api_Arc [s0].toArray h K :=
  callsH_of (ann := (annG (Tryd.f55.body.getD .skip) 0 []).1) (c := Tryd.f55.body.getD .skip) Tryd.func55 (by kernel_rfl) (by kernel_rfl) (by kernel_rfl) (of_decide_eq_true (by kernel_rfl))
    (Eq.mpr (by kernel_rfl) H)

/-! milestone/net.one[milestone/api.Arc] -/

def sh_net_one_api_Arc_k1 (P : Program) (x4 : Value) (K : Value → Heap → Prop) (h_2 : Heap) : Prop :=
  pLoadN 3 h_2 x4 fun t14 =>
  pStore 3 x4 t14 h_2 fun u h_3 =>
  pLoadN 3 h_3 x4 fun res =>
  K (.tuple #[res, (.bool false)]) h_3

def sh_net_one_api_Arc (P : Program) (l0 i1 : Value) (h : Heap) (K : Value → Heap → Prop) : Prop :=
  pBox T_api_Arc (.agg #[(.int .i64 0), (.int .i64 0), (.int .i64 0)]) h fun x4 h_1 =>
  pBin .lss i1 (.int .i64 0) fun t7 =>
  ifV t7
  (sh_net_one_api_Arc_k1 P x4 K h_1)
  (pLen l0 fun t11 =>
  pBin .geq i1 t11 fun t12 =>
  ifV t12
  (sh_net_one_api_Arc_k1 P x4 K h_1)
  (pIdx 3 l0 i1 fun t17 =>
  pLoadN 3 h_1 t17 fun t18 =>
  pStore 3 x4 t18 h_1 fun u_1 h_4 =>
  pLoadN 3 h_4 x4 fun res_1 =>
  K (.tuple #[res_1, (.bool true)]) h_4))

set_option maxRecDepth 100000 in
theorem lk_net_one_api_Arc (l0 i1 : Value) {h : Heap} {K : Value → Heap → Prop} (H : sh_net_one_api_Arc Tryd.prog l0 i1 h K) : CallsH Tryd.prog F_net_one_api_Arc [l0, i1].toArray h K :=
  callsH_of (ann := (annG (Tryd.f56.body.getD .skip) 0 []).1) (c := Tryd.f56.body.getD .skip) Tryd.func56 (by kernel_rfl) (by kernel_rfl) (by kernel_rfl) (of_decide_eq_true (by kernel_rfl))
    (Eq.mpr (by kernel_rfl) H)

/-! milestone/graph.look$1 -/

def sh_graph_look_1 (P : Program) (t0 : Value) (h : Heap) (K : Value → Heap → Prop) : Prop :=
  pField 0 t0 fun t2 =>
  pLoad h t2 fun t3 =>
  callS P F_graph_one [(.int .i64 5), t3, (.int .i64 1), (.int .i64 16777217)] h fun t4 h_1 =>
  K t4 h_1

set_option maxRecDepth 100000 in
theorem lk_graph_look_1 (t0 : Value) {h : Heap} {K : Value → Heap → Prop} (H : sh_graph_look_1 Tryd.prog t0 h K) : CallsH Tryd.prog F_graph_look_1 [t0].toArray h K :=
  callsH_of (ann := (annG (Tryd.f57.body.getD .skip) 0 []).1) (c := Tryd.f57.body.getD .skip) Tryd.func57 (by kernel_rfl) (by kernel_rfl) (by kernel_rfl) (of_decide_eq_true (by kernel_rfl))
    (Eq.mpr (by kernel_rfl) H)

/-! milestone/graph.one -/

def sh_graph_one (P : Program) (code0 n1 least2 end3 : Value) (h : Heap) (K : Value → Heap → Prop) : Prop :=
  pBuild [(.int .i64 0), (.int .i64 0), (.int .i64 0), (.int .i64 0), (.int .i64 0), (.int .i64 0)] [(0, 1, (.int .i64 0)), (1, 1, (.int .i64 0)), (2, 1, code0), (3, 1, n1), (4, 1, least2), (5, 1, end3)] fun t13 =>
  pBuildSlice T_graph_place (zerosL [(.int .i64 0), (.int .i64 0), (.int .i64 0), (.int .i64 0), (.int .i64 0), (.int .i64 0)] 1) [(0, 6, t13)] 1 h fun t14 h_1 =>
  callS P F_slices_Values_sl_graph_place_graph_place [t14] h_1 fun t15 h_2 =>
  K t15 h_2

set_option maxRecDepth 100000 in
theorem lk_graph_one (code0 n1 least2 end3 : Value) {h : Heap} {K : Value → Heap → Prop} (H : sh_graph_one Tryd.prog code0 n1 least2 end3 h K) : CallsH Tryd.prog F_graph_one [code0, n1, least2, end3].toArray h K :=
  callsH_of (ann := (annG (Tryd.f58.body.getD .skip) 0 []).1) (c := Tryd.f58.body.getD .skip) Tryd.func58 (by kernel_rfl) (by kernel_rfl) (by kernel_rfl) (of_decide_eq_true (by kernel_rfl))
    (Eq.mpr (by kernel_rfl) H)

/-! milestone/graph.look$2 -/

def sh_graph_look_2 (P : Program) (t0 : Value) (h : Heap) (K : Value → Heap → Prop) : Prop :=
  pLoadN 4 h t0 fun t2 =>
  callS P F_graph_shapes [t2] h fun t3 h_1 =>
  K t3 h_1

set_option maxRecDepth 100000 in
theorem lk_graph_look_2 (t0 : Value) {h : Heap} {K : Value → Heap → Prop} (H : sh_graph_look_2 Tryd.prog t0 h K) : CallsH Tryd.prog F_graph_look_2 [t0].toArray h K :=
  callsH_of (ann := (annG (Tryd.f59.body.getD .skip) 0 []).1) (c := Tryd.f59.body.getD .skip) Tryd.func59 (by kernel_rfl) (by kernel_rfl) (by kernel_rfl) (of_decide_eq_true (by kernel_rfl))
    (Eq.mpr (by kernel_rfl) H)

/-! milestone/graph.shapes -/

def sh_graph_shapes (P : Program) (r0 : Value) (h : Heap) (K : Value → Heap → Prop) : Prop :=
  pBox T_api_Raw r0 h fun r1 h_1 =>
  pField 0 r1 fun t4 =>
  pLoad h_1 t4 fun t5 =>
  pField 1 r1 fun t6 =>
  pLoad h_1 t6 fun t7 =>
  pLen t7 fun t8 =>
  pBin .add t5 (.int .i64 1) fun t11 =>
  pBuild [(.int .i64 0), (.int .i64 0), (.int .i64 0), (.int .i64 0), (.int .i64 0), (.int .i64 0)] [(0, 1, (.int .i64 0)), (1, 1, (.int .i64 0)), (2, 1, (.int .i64 6)), (3, 1, t8), (4, 1, t5), (5, 1, t11)] fun t12 =>
  pField 2 r1 fun t13 =>
  pLoad h_1 t13 fun t14 =>
  pLen t14 fun t15 =>
  pBin .add t5 (.int .i64 1) fun t18 =>
  pBuild [(.int .i64 0), (.int .i64 0), (.int .i64 0), (.int .i64 0), (.int .i64 0), (.int .i64 0)] [(0, 1, (.int .i64 0)), (1, 1, (.int .i64 1)), (2, 1, (.int .i64 6)), (3, 1, t15), (4, 1, t5), (5, 1, t18)] fun t19 =>
  pBuildSlice T_graph_place (zerosL [(.int .i64 0), (.int .i64 0), (.int .i64 0), (.int .i64 0), (.int .i64 0), (.int .i64 0)] 2) [(0, 6, t12), (6, 6, t19)] 2 h_1 fun t20 h_2 =>
  callS P F_slices_Values_sl_graph_place_graph_place [t20] h_2 fun t21 h_3 =>
  K t21 h_3

set_option maxRecDepth 100000 in
theorem lk_graph_shapes (r0 : Value) {h : Heap} {K : Value → Heap → Prop} (H : sh_graph_shapes Tryd.prog r0 h K) : CallsH Tryd.prog F_graph_shapes [r0].toArray h K :=
  callsH_of (ann := (annG (Tryd.f60.body.getD .skip) 0 []).1) (c := Tryd.f60.body.getD .skip) Tryd.func60 (by kernel_rfl) (by kernel_rfl) (by kernel_rfl) (of_decide_eq_true (by kernel_rfl))
    (Eq.mpr (by kernel_rfl) H)

/-! milestone/graph.look$3 -/

def sh_graph_look_3 (P : Program) (t0 : Value) (h : Heap) (K : Value → Heap → Prop) : Prop :=
  pLoadN 4 h t0 fun t2 =>
  callS P F_graph_nodes [t2] h fun t3 h_1 =>
  K t3 h_1

set_option maxRecDepth 100000 in
theorem lk_graph_look_3 (t0 : Value) {h : Heap} {K : Value → Heap → Prop} (H : sh_graph_look_3 Tryd.prog t0 h K) : CallsH Tryd.prog F_graph_look_3 [t0].toArray h K :=
  callsH_of (ann := (annG (Tryd.f61.body.getD .skip) 0 []).1) (c := Tryd.f61.body.getD .skip) Tryd.func61 (by kernel_rfl) (by kernel_rfl) (by kernel_rfl) (of_decide_eq_true (by kernel_rfl))
    (Eq.mpr (by kernel_rfl) H)

/-! milestone/graph.nodes -/

def sh_graph_nodes (P : Program) (r0 : Value) (h : Heap) (K : Value → Heap → Prop) : Prop :=
  pBox T_api_Raw r0 h fun r1 h_1 =>
  K (.func (.func F_graph_nodes_1) #[] #[r1]) h_1

set_option maxRecDepth 100000 in
theorem lk_graph_nodes (r0 : Value) {h : Heap} {K : Value → Heap → Prop} (H : sh_graph_nodes Tryd.prog r0 h K) : CallsH Tryd.prog F_graph_nodes [r0].toArray h K :=
  callsH_of (ann := (annG (Tryd.f62.body.getD .skip) 0 []).1) (c := Tryd.f62.body.getD .skip) Tryd.func62 (by kernel_rfl) (by kernel_rfl) (by kernel_rfl) (of_decide_eq_true (by kernel_rfl))
    (Eq.mpr (by kernel_rfl) H)

/-! milestone/graph.look$4 -/

def sh_graph_look_4 (P : Program) (t0 : Value) (h : Heap) (K : Value → Heap → Prop) : Prop :=
  pField 3 t0 fun t2 =>
  pLoad h t2 fun t3 =>
  pLen t3 fun t4 =>
  callS P F_graph_one [(.int .i64 8), t4, (.int .i64 0), (.int .i64 67108865)] h fun t5 h_1 =>
  K t5 h_1

set_option maxRecDepth 100000 in
theorem lk_graph_look_4 (t0 : Value) {h : Heap} {K : Value → Heap → Prop} (H : sh_graph_look_4 Tryd.prog t0 h K) : CallsH Tryd.prog F_graph_look_4 [t0].toArray h K :=
  callsH_of (ann := (annG (Tryd.f63.body.getD .skip) 0 []).1) (c := Tryd.f63.body.getD .skip) Tryd.func63 (by kernel_rfl) (by kernel_rfl) (by kernel_rfl) (of_decide_eq_true (by kernel_rfl))
    (Eq.mpr (by kernel_rfl) H)

/-! milestone/graph.look$5 -/

def sh_graph_look_5 (P : Program) (t0 : Value) (h : Heap) (K : Value → Heap → Prop) : Prop :=
  pLoadN 4 h t0 fun t2 =>
  callS P F_graph_arcs [t2] h fun t3 h_1 =>
  K t3 h_1

set_option maxRecDepth 100000 in
theorem lk_graph_look_5 (t0 : Value) {h : Heap} {K : Value → Heap → Prop} (H : sh_graph_look_5 Tryd.prog t0 h K) : CallsH Tryd.prog F_graph_look_5 [t0].toArray h K :=
  callsH_of (ann := (annG (Tryd.f64.body.getD .skip) 0 []).1) (c := Tryd.f64.body.getD .skip) Tryd.func64 (by kernel_rfl) (by kernel_rfl) (by kernel_rfl) (of_decide_eq_true (by kernel_rfl))
    (Eq.mpr (by kernel_rfl) H)

/-! milestone/graph.arcs -/

def sh_graph_arcs (P : Program) (r0 : Value) (h : Heap) (K : Value → Heap → Prop) : Prop :=
  pBox T_api_Raw r0 h fun r1 h_1 =>
  K (.func (.func F_graph_arcs_1) #[] #[r1]) h_1

set_option maxRecDepth 100000 in
theorem lk_graph_arcs (r0 : Value) {h : Heap} {K : Value → Heap → Prop} (H : sh_graph_arcs Tryd.prog r0 h K) : CallsH Tryd.prog F_graph_arcs [r0].toArray h K :=
  callsH_of (ann := (annG (Tryd.f65.body.getD .skip) 0 []).1) (c := Tryd.f65.body.getD .skip) Tryd.func65 (by kernel_rfl) (by kernel_rfl) (by kernel_rfl) (of_decide_eq_true (by kernel_rfl))
    (Eq.mpr (by kernel_rfl) H)

/-! slices.Values[[]milestone/graph.place,milestone/graph.place] -/

def sh_slices_Values_sl_graph_place_graph_place (P : Program) (s0 : Value) (h : Heap) (K : Value → Heap → Prop) : Prop :=
  pBox T_sl_graph_place s0 h fun s1 h_1 =>
  K (.func (.func F_slices_Values_sl_graph_place_graph_place_1) #[] #[s1]) h_1

set_option maxRecDepth 100000 in
theorem lk_slices_Values_sl_graph_place_graph_place (s0 : Value) {h : Heap} {K : Value → Heap → Prop} (H : sh_slices_Values_sl_graph_place_graph_place Tryd.prog s0 h K) : CallsH Tryd.prog F_slices_Values_sl_graph_place_graph_place [s0].toArray h K :=
  callsH_of (ann := (annG (Tryd.f70.body.getD .skip) 0 []).1) (c := Tryd.f70.body.getD .skip) Tryd.func70 (by kernel_rfl) (by kernel_rfl) (by kernel_rfl) (of_decide_eq_true (by kernel_rfl))
    (Eq.mpr (by kernel_rfl) H)

/-! milestone/graph.nodes$1 -/

def sh_graph_nodes_1_L2 (P : Program) (t23 t22 t9 yield0 : Value) (K Z : Value → Heap → Prop) (t24 : Value) (h_3 : Heap) (Z_1 : Value → Heap → Prop) : Prop :=
  pBin .lss t24 t23 fun t25 =>
  ifV t25
  (pIdx 1 t22 t24 fun t27 =>
  pLoad h_3 t27 fun t28 =>
  pBuild [(.int .i64 0), (.int .i64 0), (.int .i64 0), (.int .i64 0), (.int .i64 0), (.int .i64 0)] [(0, 1, t9), (1, 1, t24), (2, 1, (.int .i64 7)), (3, 1, t28), (4, 1, (.int .i64 (-2147483648))), (5, 1, (.int .i64 2147483648))] fun t33 =>
  callV P yield0 [t33].toArray h_3 fun t34 h_4 =>
  pUn .not t34 fun t35 =>
  ifV t35
  (K (.tuple #[]) h_4)
  (pBin .add t24 (.int .i64 1) fun t36 =>
  Z_1 t36 h_4))
  (pBin .add t9 (.int .i64 1) fun t37 =>
  Z t37 h_3)

def sh_graph_nodes_1_L1 (P : Program) (t8 t1 yield0 : Value) (K : Value → Heap → Prop) (t9 : Value) (h_1 : Heap) (Z : Value → Heap → Prop) : Prop :=
  pBin .lss t9 t8 fun t10 =>
  ifV t10
  (pField 1 t1 fun t12 =>
  pLoad h_1 t12 fun t13 =>
  pIdx 1 t13 t9 fun t15 =>
  pLoad h_1 t15 fun t16 =>
  pField 2 t1 fun t17 =>
  pLoad h_1 t17 fun t18 =>
  pIdx 1 t18 t9 fun t20 =>
  pLoad h_1 t20 fun t21 =>
  pBuildSlice T_int64 (zerosL [(.int .i64 0)] 2) [(0, 1, t16), (1, 1, t21)] 2 h_1 fun t22 h_2 =>
  pLen t22 fun t23 =>
  LoopH (σ := Vals [24]) (fun x hh ZZ => sh_graph_nodes_1_L2 P t23 t22 t9 yield0 K Z x.1 hh (fun a0 hz => ZZ (a0, ()) hz)) ((.int .i64 0), ()) h_2)
  (K (.tuple #[]) h_1)

def sh_graph_nodes_1 (P : Program) (yield0 t1 : Value) (h : Heap) (K : Value → Heap → Prop) : Prop :=
  pField 1 t1 fun t6 =>
  pLoad h t6 fun t7 =>
  pLen t7 fun t8 =>
  LoopH (σ := Vals [9]) (fun x hh ZZ => sh_graph_nodes_1_L1 P t8 t1 yield0 K x.1 hh (fun a0 hz => ZZ (a0, ()) hz)) ((.int .i64 0), ()) h

set_option maxRecDepth 100000 in
theorem lk_graph_nodes_1 (yield0 t1 : Value) {h : Heap} {K : Value → Heap → Prop} (H : sh_graph_nodes_1 Tryd.prog yield0 t1 h K) : CallsH Tryd.prog F_graph_nodes_1 [yield0, t1].toArray h K :=
  callsH_of (ann := (annG (Tryd.f71.body.getD .skip) 0 [(1, [9]), (7, [24])]).1) (c := Tryd.f71.body.getD .skip) Tryd.func71 (by kernel_rfl) (by kernel_rfl) (by kernel_rfl) (of_decide_eq_true (by kernel_rfl))
    (Eq.mpr (by kernel_rfl) H)

/-! milestone/graph.arcs$1 -/

def sh_graph_arcs_1_L2 (P : Program) (t33 t32 yield0 : Value) (K : Value → Heap → Prop) (t13 : Value) (Z : Value → Heap → Prop) (t34 : Value) (h_5 : Heap) (Z_1 : Value → Heap → Prop) : Prop :=
  pBin .lss t34 t33 fun t35 =>
  ifV t35
  (pIdx 6 t32 t34 fun t36 =>
  pLoadN 6 h_5 t36 fun t37 =>
  pBox T_graph_place (.agg #[(.int .i64 0), (.int .i64 0), (.int .i64 0), (.int .i64 0), (.int .i64 0), (.int .i64 0)]) h_5 fun p7 h_6 =>
  pStore 6 p7 t37 h_6 fun u_1 h_7 =>
  pLoadN 6 h_7 p7 fun t39 =>
  callV P yield0 [t39].toArray h_7 fun t40 h_8 =>
  pUn .not t40 fun t41 =>
  ifV t41
  (K (.tuple #[]) h_8)
  (pBin .add t34 (.int .i64 1) fun t42 =>
  Z_1 t42 h_8))
  (pBin .add t13 (.int .i64 1) fun t43 =>
  Z t43 h_5)

def sh_graph_arcs_1_L1 (P : Program) (t12 t11 t9 yield0 : Value) (K : Value → Heap → Prop) (t13 : Value) (h_1 : Heap) (Z : Value → Heap → Prop) : Prop :=
  pBin .lss t13 t12 fun t14 =>
  ifV t14
  (pIdx 3 t11 t13 fun t16 =>
  pLoadN 3 h_1 t16 fun t17 =>
  pBox T_api_Arc (.agg #[(.int .i64 0), (.int .i64 0), (.int .i64 0)]) h_1 fun a5 h_2 =>
  pStore 3 a5 t17 h_2 fun u h_3 =>
  pField 0 a5 fun t19 =>
  pLoad h_3 t19 fun t20 =>
  pBuild [(.int .i64 0), (.int .i64 0), (.int .i64 0), (.int .i64 0), (.int .i64 0), (.int .i64 0)] [(0, 1, t13), (1, 1, (.int .i64 0)), (2, 1, (.int .i64 9)), (3, 1, t20), (4, 1, (.int .i64 0)), (5, 1, t9)] fun t22 =>
  pField 1 a5 fun t24 =>
  pLoad h_3 t24 fun t25 =>
  pBuild [(.int .i64 0), (.int .i64 0), (.int .i64 0), (.int .i64 0), (.int .i64 0), (.int .i64 0)] [(0, 1, t13), (1, 1, (.int .i64 1)), (2, 1, (.int .i64 9)), (3, 1, t25), (4, 1, (.int .i64 0)), (5, 1, t9)] fun t27 =>
  pField 2 a5 fun t29 =>
  pLoad h_3 t29 fun t30 =>
  pBuild [(.int .i64 0), (.int .i64 0), (.int .i64 0), (.int .i64 0), (.int .i64 0), (.int .i64 0)] [(0, 1, t13), (1, 1, (.int .i64 2)), (2, 1, (.int .i64 10)), (3, 1, t30), (4, 1, (.int .i64 0)), (5, 1, (.int .i64 2147483648))] fun t31 =>
  pBuildSlice T_graph_place (zerosL [(.int .i64 0), (.int .i64 0), (.int .i64 0), (.int .i64 0), (.int .i64 0), (.int .i64 0)] 3) [(0, 6, t22), (6, 6, t27), (12, 6, t31)] 3 h_3 fun t32 h_4 =>
  pLen t32 fun t33 =>
  LoopH (σ := Vals [34]) (fun x hh ZZ => sh_graph_arcs_1_L2 P t33 t32 yield0 K t13 Z x.1 hh (fun a0 hz => ZZ (a0, ()) hz)) ((.int .i64 0), ()) h_4)
  (K (.tuple #[]) h_1)

def sh_graph_arcs_1 (P : Program) (yield0 t1 : Value) (h : Heap) (K : Value → Heap → Prop) : Prop :=
  pField 0 t1 fun t8 =>
  pLoad h t8 fun t9 =>
  pField 3 t1 fun t10 =>
  pLoad h t10 fun t11 =>
  pLen t11 fun t12 =>
  LoopH (σ := Vals [13]) (fun x hh ZZ => sh_graph_arcs_1_L1 P t12 t11 t9 yield0 K x.1 hh (fun a0 hz => ZZ (a0, ()) hz)) ((.int .i64 0), ()) h

set_option maxRecDepth 100000 in
theorem lk_graph_arcs_1 (yield0 t1 : Value) {h : Heap} {K : Value → Heap → Prop} (H : sh_graph_arcs_1 Tryd.prog yield0 t1 h K) : CallsH Tryd.prog F_graph_arcs_1 [yield0, t1].toArray h K :=
  callsH_of (ann := (annG (Tryd.f72.body.getD .skip) 0 [(2, [13]), (8, [34])]).1) (c := Tryd.f72.body.getD .skip) Tryd.func72 (by kernel_rfl) (by kernel_rfl) (by kernel_rfl) (of_decide_eq_true (by kernel_rfl))
    (Eq.mpr (by kernel_rfl) H)

/-! slices.Values[[]milestone/graph.place,milestone/graph.place]$1 -/

def sh_slices_Values_sl_graph_place_graph_place_1_L1 (P : Program) (t6 t5 yield0 : Value) (K : Value → Heap → Prop) (t7 : Value) (h_1 : Heap) (Z : Value → Heap → Prop) : Prop :=
  pBin .lss t7 t6 fun t8 =>
  ifV t8
  (pIdx 6 t5 t7 fun t9 =>
  pLoadN 6 h_1 t9 fun t10 =>
  pBox T_graph_place (.agg #[(.int .i64 0), (.int .i64 0), (.int .i64 0), (.int .i64 0), (.int .i64 0), (.int .i64 0)]) h_1 fun v4 h_2 =>
  pStore 6 v4 t10 h_2 fun u h_3 =>
  pLoadN 6 h_3 v4 fun t12 =>
  callV P yield0 [t12].toArray h_3 fun t13 h_4 =>
  pUn .not t13 fun t14 =>
  ifV t14
  (K (.tuple #[]) h_4)
  (pBin .add t7 (.int .i64 1) fun t15 =>
  Z t15 h_4))
  (K (.tuple #[]) h_1)

def sh_slices_Values_sl_graph_place_graph_place_1 (P : Program) (yield0 t1 : Value) (h : Heap) (K : Value → Heap → Prop) : Prop :=
  pLoad h t1 fun t5 =>
  pLen t5 fun t6 =>
  LoopH (σ := Vals [7]) (fun x hh ZZ => sh_slices_Values_sl_graph_place_graph_place_1_L1 P t6 t5 yield0 K x.1 hh (fun a0 hz => ZZ (a0, ()) hz)) ((.int .i64 0), ()) h

set_option maxRecDepth 100000 in
theorem lk_slices_Values_sl_graph_place_graph_place_1 (yield0 t1 : Value) {h : Heap} {K : Value → Heap → Prop} (H : sh_slices_Values_sl_graph_place_graph_place_1 Tryd.prog yield0 t1 h K) : CallsH Tryd.prog F_slices_Values_sl_graph_place_graph_place_1 [yield0, t1].toArray h K :=
  callsH_of (ann := (annG (Tryd.f76.body.getD .skip) 0 [(1, [7])]).1) (c := Tryd.f76.body.getD .skip) Tryd.func76 (by kernel_rfl) (by kernel_rfl) (by kernel_rfl) (of_decide_eq_true (by kernel_rfl))
    (Eq.mpr (by kernel_rfl) H)

end Go.Proofs.YtgefabaobhendaaDoor


