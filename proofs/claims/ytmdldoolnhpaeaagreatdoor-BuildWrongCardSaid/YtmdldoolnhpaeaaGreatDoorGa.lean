/- Texts of the proofs of seat YtmdldoolnhpaeaaGreatDoor, joined: Ids, Gen1, Gen2, Gen3, Gen4, Gen5, Gen6, Gen7, Gen8, Gen9. They have no conditions of their own. -/
import Derived.Test.YtmdldoolnhpaeaaGreatDoorMb
import Derived.Test.YtmdldoolnhpaeaaGreatDoorChecked
import Derived.KernelRfl
import Derived.Test.YtmdldoolnhpaeaaGreatDoorMd
set_option linter.unusedVariables false
set_option linter.unusedSimpArgs false
set_option linter.unusedSectionVars false

namespace Go.Proofs.YtmdldoolnhpaeaaGreatDoor
abbrev F_milestonelaw31_BuildWrong : Nat := 3
abbrev F_milestoneref31_Draft_Raw : Nat := 6
abbrev F_milestoneref31_Draft_Plan : Nat := 7
abbrev F_milestoneref31_Wrong : Nat := 8
abbrev F_milestonelaw31_told : Nat := 9
abbrev F_build_Check : Nat := 10
abbrev F_api_Told : Nat := 11
abbrev F_graph_Check : Nat := 12
abbrev F_build_Build : Nat := 13
abbrev F_milestonelaw31_works : Nat := 14
abbrev F_milestonelaw31_four : Nat := 15
abbrev F_table_Table_Marks : Nat := 16
abbrev F_cell_Cells_Many : Nat := 17
abbrev F_bits_Rows_Rows : Nat := 18
abbrev F_milestonelaw31_fails : Nat := 19
abbrev F_flag_Of : Nat := 23
abbrev F_cell_Cells_Of : Nat := 26
abbrev F_milestoneref07_Draft_Raw : Nat := 27
abbrev F_build_first : Nat := 28
abbrev F_build_Check_1 : Nat := 29
abbrev F_build_Check_2 : Nat := 30
abbrev F_build_choices : Nat := 31
abbrev F_build_Check_3 : Nat := 32
abbrev F_build_parts : Nat := 33
abbrev F_build_Check_4 : Nat := 34
abbrev F_errors_As : Nat := 35
abbrev F_graph_Check_1 : Nat := 36
abbrev F_graph_look : Nat := 37
abbrev F_net_New : Nat := 38
abbrev F_table_Of : Nat := 39
abbrev F_draw_New : Nat := 40
abbrev F_cell_New : Nat := 41
abbrev F_cell_Norm : Nat := 42
abbrev F_milestoneref07_Ints : Nat := 43
abbrev F_cell_Cells_Map : Nat := 44
abbrev F_slices_Clone_sl_int_int : Nat := 45
abbrev F_flag_fits : Nat := 49
abbrev F_bits_Rows_Wide : Nat := 50
abbrev F_net_Net_Arcs : Nat := 51
abbrev F_bits_New : Nat := 52
abbrev F_flag_worth : Nat := 53
abbrev F_bits_Rows_Set : Nat := 54
abbrev F_net_Net_Nodes : Nat := 56
abbrev F_milestoneref07_Draft_Next : Nat := 62
abbrev F_milestoneref07_Draft_Weight : Nat := 63
abbrev F_far_Marks : Nat := 64
abbrev F_avoid_Marks : Nat := 65
abbrev F_build_parts_1 : Nat := 66
abbrev F_grid_Map : Nat := 67
abbrev F_split_Map : Nat := 68
abbrev F_graph_look_1 : Nat := 73
abbrev F_graph_one : Nat := 74
abbrev F_graph_look_2 : Nat := 75
abbrev F_graph_shapes : Nat := 76
abbrev F_graph_look_3 : Nat := 77
abbrev F_graph_nodes : Nat := 78
abbrev F_graph_look_4 : Nat := 79
abbrev F_graph_look_5 : Nat := 80
abbrev F_graph_arcs : Nat := 81
abbrev F_net_of : Nat := 82
abbrev F_net_own : Nat := 83
abbrev F_table_may : Nat := 84
abbrev F_slices_Collect_sl_int64 : Nat := 85
abbrev F_table_rows : Nat := 86
abbrev F_flood_To : Nat := 87
abbrev F_flood_From : Nat := 88
abbrev F_slices_Equal_sl_int_int : Nat := 89
abbrev F_slices_Max_sl_int_int : Nat := 90
abbrev F_cell_each_int_int : Nat := 91
abbrev F_cell_namer : Nat := 92
abbrev F_flag_worth_1 : Nat := 93
abbrev F_flag_worth_1_1 : Nat := 94
abbrev F_flag_worth_1_2 : Nat := 95
abbrev F_flag_inside : Nat := 96
abbrev F_cell_Cells_Border : Nat := 97
abbrev F_tight_Arcs : Nat := 98
abbrev F_flag_worth_1_3 : Nat := 99
abbrev F_bits_Rows_place : Nat := 100
abbrev F_bits_Rows_Set_1 : Nat := 101
abbrev F_heap_New : Nat := 102
abbrev F_slices_Repeat_sl_int_int : Nat := 103
abbrev F_heap_Heap_Pop : Nat := 107
abbrev F_slices_Collect_int : Nat := 108
abbrev F_far_marks : Nat := 113
abbrev F_draw_Draws_Next : Nat := 114
abbrev F_avoid_next : Nat := 115
abbrev F_avoid_marks : Nat := 116
abbrev F_grid_Shape : Nat := 117
abbrev F_grid_places : Nat := 118
abbrev F_grid_with_int64 : Nat := 119
abbrev F_grid_parts : Nat := 120
abbrev F_split_parter_part : Nat := 121
abbrev F_slices_Values_sl_graph_place_graph_place : Nat := 125
abbrev F_graph_nodes_1 : Nat := 126
abbrev F_graph_arcs_1 : Nat := 127
abbrev F_net_of_1 : Nat := 128
abbrev F_net_of_2 : Nat := 129
abbrev F_net_of_3 : Nat := 130
abbrev F_slices_Clone_sl_int64_int64 : Nat := 131
abbrev F_slices_Clone_sl_api_Arc_api_Arc : Nat := 132
abbrev F_table_may_1 : Nat := 133
abbrev F_slices_ContainsFunc_sl_int_int : Nat := 134
abbrev F_slices_AppendSeq_sl_sl_int64_sl_int64 : Nat := 135
abbrev F_table_rows_1 : Nat := 136
abbrev F_flood_flood : Nat := 137
abbrev F_net_Net_In : Nat := 138
abbrev F_flood_To_1 : Nat := 139
abbrev F_net_Net_Out : Nat := 140
abbrev F_flood_From_1 : Nat := 141
abbrev F_cell_namer_1 : Nat := 142
abbrev F_net_Net_Arc : Nat := 143
abbrev F_cell_Cells_Border_1 : Nat := 144
abbrev F_cell_Cells_nodes : Nat := 145
abbrev F_cell_Cells_Border_2 : Nat := 146
abbrev F_tight_Any : Nat := 147
abbrev F_math_bits_Mul : Nat := 148
abbrev F_heap_Heap_Key : Nat := 149
abbrev F_heap_Heap_Lower : Nat := 150
abbrev F_heap_Heap_Push : Nat := 151
abbrev F_heap_Heap_Len : Nat := 152
abbrev F_heap_row_swap : Nat := 153
abbrev F_heap_row_down : Nat := 154
abbrev F_slices_AppendSeq_sl_int_int : Nat := 155
abbrev F_bits_Rows_Get : Nat := 158
abbrev F_far_marks_1 : Nat := 159
abbrev F_far_Cover : Nat := 160
abbrev F_far_best_int : Nat := 161
abbrev F_far_marks_1_1 : Nat := 162
abbrev F_slices_DeleteFunc_sl_int_int : Nat := 163
abbrev F_far_marks_1_2 : Nat := 164
abbrev F_far_closer : Nat := 165
abbrev F_draw_Draws_Left : Nat := 166
abbrev F_draw_first_uint32 : Nat := 167
abbrev F_avoid_grow : Nat := 168
abbrev F_avoid_best_int64 : Nat := 169
abbrev F_slices_Values_sl_int_int : Nat := 170
abbrev F_avoid_tree_size : Nat := 171
abbrev F_slices_ContainsFunc_sl_avoid_mark_avoid_mark : Nat := 172
abbrev F_avoid_next_1 : Nat := 173
abbrev F_avoid_there : Nat := 174
abbrev F_grid_places_1 : Nat := 175
abbrev F_net_Net_Place : Nat := 176
abbrev F_grid_parts_1 : Nat := 177
abbrev F_split_parter_part_1 : Nat := 178
abbrev F_split_parter_way : Nat := 179
abbrev F_split_parter_along : Nat := 180
abbrev F_slices_SortedFunc_int : Nat := 181
abbrev F_split_parter_part_2 : Nat := 182
abbrev F_cmp_Or_int : Nat := 183
abbrev F_cmp_Compare_int64 : Nat := 184
abbrev F_cmp_Compare_int : Nat := 185
abbrev F_slices_Values_sl_graph_place_graph_place_1 : Nat := 186
abbrev F_slices_IndexFunc_sl_int_int : Nat := 187
abbrev F_slices_Repeat_sl_int64_int64 : Nat := 188
abbrev F_flood_arcs : Nat := 189
abbrev F_flood_run_reach : Nat := 190
abbrev F_net_one_sl_int : Nat := 191
abbrev F_net_one_api_Arc : Nat := 192
abbrev F_cell_Cells_nodes_1 : Nat := 193
abbrev F_tight_there : Nat := 194
abbrev F_tight_put_bool : Nat := 195
abbrev F_tight_marked : Nat := 196
abbrev F_tight_tells : Nat := 197
abbrev F_math_bits_Mul64 : Nat := 199
abbrev F_heap_row_up : Nat := 200
abbrev F_heap_row_ahead : Nat := 201
abbrev F_heap_row_below : Nat := 202
abbrev F_bits_Rows_Get_1 : Nat := 203
abbrev F_avoid_behind : Nat := 204
abbrev F_avoid_bound : Nat := 205
abbrev F_dist_Sat : Nat := 206
abbrev F_slices_Values_sl_int_int_1 : Nat := 207
abbrev F_slices_IndexFunc_sl_avoid_mark_avoid_mark : Nat := 208
abbrev F_net_one_int64 : Nat := 209
abbrev F_split_directions : Nat := 210
abbrev F_split_spread_int : Nat := 211
abbrev F_split_parter_along_1 : Nat := 212
abbrev F_slices_SortFunc_sl_int_int : Nat := 213
abbrev F_cmp_isNaN_int64 : Nat := 214
abbrev F_cmp_isNaN_int : Nat := 215
abbrev F_flood_arcs_1 : Nat := 216
abbrev F_tight_marked_1 : Nat := 217
abbrev F_tight_tells_1 : Nat := 218
abbrev F_dist_Add : Nat := 219
abbrev F_dist_Finite : Nat := 220
abbrev F_heap_row_below_1 : Nat := 221
abbrev F_avoid_behind_1 : Nat := 222
abbrev F_slices_Backward_sl_int_int : Nat := 223
abbrev F_dist_Low : Nat := 224
abbrev F_dist_Lift : Nat := 225
abbrev F_dist_folded : Nat := 226
abbrev F_dist_between_int64 : Nat := 227
abbrev F_split_directions_1 : Nat := 228
abbrev F_split_directions_2 : Nat := 229
abbrev F_split_directions_3 : Nat := 230
abbrev F_split_directions_4 : Nat := 231
abbrev F_slices_pdqsortCmpFunc_int : Nat := 232
abbrev F_math_bits_Len : Nat := 233
abbrev F_dist_way : Nat := 234
abbrev F_slices_Backward_sl_int_int_1 : Nat := 235
abbrev F_dist_between_int64_1 : Nat := 236
abbrev F_slices_insertionSortCmpFunc_int : Nat := 237
abbrev F_slices_heapSortCmpFunc_int : Nat := 238
abbrev F_slices_breakPatternsCmpFunc_int : Nat := 239
abbrev F_slices_choosePivotCmpFunc_int : Nat := 240
abbrev F_slices_reverseRangeCmpFunc_int : Nat := 241
abbrev F_slices_partialInsertionSortCmpFunc_int : Nat := 242
abbrev F_slices_partitionEqualCmpFunc_int : Nat := 243
abbrev F_slices_partitionCmpFunc_int : Nat := 244
abbrev F_math_bits_Len64 : Nat := 246
abbrev T_int64 : Nat := 2
abbrev T_int : Nat := 3
abbrev T_bool : Nat := 4
abbrev T_uint8 : Nat := 5
abbrev T_milestoneref31_Draft : Nat := 25
abbrev T_api_Plan : Nat := 27
abbrev T_sl_int64 : Nat := 28
abbrev T_api_Raw : Nat := 31
abbrev T_api_Errno : Nat := 36
abbrev T_api_Fault : Nat := 39
abbrev T_error : Nat := 42
abbrev T_uint32 : Nat := 51
abbrev T_sl_int : Nat := 52
abbrev T_p_net_Net : Nat := 53
abbrev T_p_cell_Cells : Nat := 55
abbrev T_p_bits_Rows : Nat := 56
abbrev T_image_Image : Nat := 58
abbrev T_sl_bool : Nat := 71
abbrev T_milestoneref07_Draft : Nat := 79
abbrev T_build_rule : Nat := 83
abbrev T_p_api_Fault : Nat := 90
abbrev T_p_p_api_Fault : Nat := 92
abbrev T_p_api_Errno : Nat := 93
abbrev T_graph_trouble : Nat := 95
abbrev T_api_Arc : Nat := 107
abbrev T_sl_sl_int64 : Nat := 108
abbrev T_table_Table : Nat := 110
abbrev T_cell_Cells : Nat := 112
abbrev T_bits_Rows : Nat := 114
abbrev T_func_int_bool : Nat := 124
abbrev T_func_iter_Seq_graph_place : Nat := 148
abbrev T_graph_place : Nat := 152
abbrev T_net_trouble : Nat := 153
abbrev T_funcnet_Net_int_flood_Tree : Nat := 161
abbrev T_draw_Draws : Nat := 163
abbrev T_net_Net : Nat := 169
abbrev T_func_int_int64 : Nat := 178
abbrev T_sl_avoid_mark : Nat := 192
abbrev T_grid_ends_int64 : Nat := 198
abbrev T_func_int64_int : Nat := 203
abbrev T_p_split_parter : Nat := 205
abbrev T_split_parter : Nat := 207
abbrev T_reflectlite_rtype : Nat := 210
abbrev T_sl_graph_place : Nat := 224
abbrev T_func_api_Arc_int : Nat := 226
abbrev T_map_int_int : Nat := 230
abbrev T_flood_Tree : Nat := 235
abbrev T_heap_Heap : Nat := 246
abbrev T_heap_held : Nat := 254
abbrev T_func_int_int_bool : Nat := 257
abbrev T_p_avoid_tree : Nat := 264
abbrev T_avoid_tree : Nat := 270
abbrev T_avoid_mark : Nat := 273
abbrev T_p_flood_run : Nat := 287
abbrev T_flood_run : Nat := 290
abbrev T_p_heap_row : Nat := 306
abbrev T_func_int64_int64_int64 : Nat := 308
abbrev T_4_func_int64_int64_int64 : Nat := 311
open Go.Mh in
theorem lkF {f : FuncId} {fn : Func} {args : List Value} {h : Heap} {K : KT} (hf : Tryz.prog.funcs[f]? = some fn) (hc : compile Tryz.prog fn.ntmps false (fn.body.getD .skip) (annG (fn.body.getD .skip) 0 []).1 (argE args 0) [] h (fnPost Tryz.prog fn.results.toList K)) (hb : fn.body = some (fn.body.getD .skip) := by kernel_rfl) (hcal : Callable Tryz.prog f = true := by kernel_rfl) (hm : Tryz.prog.follows .mixedOrders = true := by kernel_rfl) (hlen : args.length <= fn.ntmps := by exact of_decide_eq_true (by kernel_rfl)) : CallsH Tryz.prog f args.toArray h K := callsH_of hf hb hcal hm hlen hc

end Go.Proofs.YtmdldoolnhpaeaaGreatDoor

set_option maxRecDepth 100000
namespace Go.Proofs.YtmdldoolnhpaeaaGreatDoor
open Go Go.Mh
variable {h : Heap} {K : KT}
set_option maxHeartbeats 0

def sh_milestonelaw31_BuildWrong_k4 (P : Program) (K : KT) (h_26 : Heap) : Prop :=
 K (.bool false) h_26

def sh_milestonelaw31_BuildWrong_k3 (P : Program) (g8 q10 want11 : Value) (K : KT) (t45 : Value) (Z_1 : KT) (h_23 : Heap) : Prop :=
 pLoadN 4 h_23 g8 fun t63 =>
 pLoadN 5 h_23 q10 fun t64 =>
 callS P F_build_Build [t63, t64] h_23 fun t65 h_24 =>
 pExt t65 0 fun t66 =>
 pExt t65 1 fun t67 =>
 pLoadN 4 h_24 want11 fun t69 =>
 callS P F_milestonelaw31_told [t67, t69] h_24 fun t70 h_25 =>
 pUn .not t70 fun t71 =>
 ifV t71
 (sh_milestonelaw31_BuildWrong_k4 P K h_25)
 (pEq false .ptr t66 (.pointer none) fun t74 =>
 pEq true .iface t67 .nilIface fun t76 =>
 pEq true .bool t74 t76 fun t77 =>
 ifV t77
 (sh_milestonelaw31_BuildWrong_k4 P K h_25)
 (pBin .add t45 (I 1) fun t79 =>
 Z_1 t79 h_25))

def sh_milestonelaw31_BuildWrong_L2 (P : Program) (t44 : Value) (K : KT) (g8 t38 : Value) (Z : KT) (t45 : Value) (h_12 : Heap) (Z_1 : KT) : Prop :=
 pBin .lss t45 (I 2) fun t46 =>
 ifV t46
 (pIdxVN 5 2 t44 t45 fun t47 =>
 pBox T_api_Plan (.agg #[(I 0), (I 0), (.slice none 0 0), (I 0), (I 0)]) h_12 fun q10 h_13 =>
 pStore 5 q10 t47 h_13 fun u_4 h_14 =>
 pLoadN 5 h_14 q10 fun t48 =>
 callS P F_milestoneref31_Wrong [t48] h_14 fun t49 h_15 =>
 pBuild [(I 0), (I 0), (I 0), (I 0)] [(0, 1, t49)] fun t50 =>
 pBox T_api_Fault (.agg #[(I 0), (I 0), (I 0), (I 0)]) h_15 fun want11 h_16 =>
 pStore 4 want11 t50 h_16 fun u_5 h_17 =>
 pLoadN 5 h_17 q10 fun t51 =>
 pLoadN 4 h_17 want11 fun t53 =>
 callS P F_build_Check [t51] h_17 fun t52 h_18 =>
 (pLoadN 4 h_18 want11 fun t53_1 =>
 t53_1 = t53) /\
 (callS P F_milestonelaw31_told [t52, t53] h_18 fun t54 h_19 =>
 pUn .not t54 fun t55 =>
 ifV t55
 (K (.bool false) h_19)
 (pField 0 want11 fun t56 =>
 pLoad h_19 t56 fun t57 =>
 pBin .eql t57 (I 0) fun t58 =>
 ifV t58
 (pLoadN 4 h_19 g8 fun t59 =>
 callS P F_graph_Check [t59] h_19 fun t60 h_20 =>
 callS P F_api_Told [t60] h_20 fun t61 h_21 =>
 pStore 4 want11 t61 h_21 fun u_6 h_22 =>
 sh_milestonelaw31_BuildWrong_k3 P g8 q10 want11 K t45 Z_1 h_22)
 (sh_milestonelaw31_BuildWrong_k3 P g8 q10 want11 K t45 Z_1 h_19))))
 (pBin .add t38 (I 1) fun t80 =>
 Z t80 h_12)

def sh_milestonelaw31_BuildWrong_L1 (P : Program) (t37 p4 d3 : Value) (K : KT) (t38 : Value) (h_8 : Heap) (Z : KT) : Prop :=
 pBin .lss t38 (I 2) fun t39 =>
 ifV t39
 (pIdxVN 4 2 t37 t38 fun t40 =>
 pBox T_api_Raw (.agg #[(I 0), (.slice none 0 0), (.slice none 0 0), (.slice none 0 0)]) h_8 fun g8 h_9 =>
 pStore 4 g8 t40 h_9 fun u_3 h_10 =>
 pLoadN 5 h_10 p4 fun t41 =>
 pLoadN 6 h_10 d3 fun t42 =>
 callS P F_milestoneref31_Draft_Plan [t42] h_10 fun t43 h_11 =>
 (pLoadN 5 h_11 p4 fun t41_1 =>
 t41_1 = t41) /\
 (pBuild [(I 0), (I 0), (.slice none 0 0), (I 0), (I 0), (I 0), (I 0), (.slice none 0 0), (I 0), (I 0)] [(0, 5, t41), (5, 5, t43)] fun t44 =>
 LoopH (σ := Vals [45]) (fun x hh ZZ => sh_milestonelaw31_BuildWrong_L2 P t44 K g8 t38 Z x.1 hh (fun a0 hz => ZZ (a0, ()) hz)) ((I 0), ()) h_11))
 (callS P F_milestonelaw31_works [] h_8 fun t81 h_27 =>
 K t81 h_27)

def sh_milestonelaw31_BuildWrong (P : Program) (d0 p1 raw2 : Value) (h : Heap) (K : KT) : Prop :=
 pBox T_milestoneref31_Draft d0 h fun d3 h_1 =>
 pBox T_api_Plan p1 h_1 fun p4 h_2 =>
 pBox T_api_Raw raw2 h_2 fun raw5 h_3 =>
 pField 3 raw5 fun t14 =>
 pLoad h_3 t14 fun t15 =>
 pField 3 raw5 fun t16 =>
 pLoad h_3 t16 fun t17 =>
 pLen t17 fun t18 =>
 pMin t18 (I 20) fun t19 =>
 pSlice 3 t15 none (some t19) none fun t20 =>
 pField 3 raw5 fun t21 =>
 pStore 1 t21 t20 h_3 fun u h_4 =>
 pField 2 p4 fun t22 =>
 pLoad h_4 t22 fun t23 =>
 pField 2 p4 fun t24 =>
 pLoad h_4 t24 fun t25 =>
 pLen t25 fun t26 =>
 pMin t26 (I 20) fun t27 =>
 pSlice 1 t23 none (some t27) none fun t28 =>
 pField 2 p4 fun t29 =>
 pStore 1 t29 t28 h_4 fun u_1 h_5 =>
 pField 0 p4 fun t30 =>
 pLoad h_5 t30 fun t31 =>
 pBin .rem t31 (I 20) fun t32 =>
 pField 0 p4 fun t33 =>
 pStore 1 t33 t32 h_5 fun u_2 h_6 =>
 pLoadN 6 h_6 d3 fun t34 =>
 pLoadN 4 h_6 raw5 fun t36 =>
 callS P F_milestoneref31_Draft_Raw [t34] h_6 fun t35 h_7 =>
 (pLoadN 4 h_7 raw5 fun t36_1 =>
 t36_1 = t36) /\
 (pBuild [(I 0), (.slice none 0 0), (.slice none 0 0), (.slice none 0 0), (I 0), (.slice none 0 0), (.slice none 0 0), (.slice none 0 0)] [(0, 4, t35), (4, 4, t36)] fun t37 =>
 LoopH (σ := Vals [38]) (fun x hh ZZ => sh_milestonelaw31_BuildWrong_L1 P t37 p4 d3 K x.1 hh (fun a0 hz => ZZ (a0, ()) hz)) ((I 0), ()) h_7)

theorem lk_milestonelaw31_BuildWrong (d0 p1 raw2 : Value) (H : sh_milestonelaw31_BuildWrong Tryz.prog d0 p1 raw2 h K) : CallsH Tryz.prog F_milestonelaw31_BuildWrong [d0, p1, raw2].toArray h K :=
 callsH_of (ann := (annG (Tryz.f3.body.getD .skip) 0 [(6, [38]), (12, [45])]).1) (c := Tryz.f3.body.getD .skip) Tryz.func3 (by kernel_rfl) (by kernel_rfl) (by kernel_rfl) (of_decide_eq_true (by kernel_rfl))
  (Eq.mpr (by kernel_rfl) H)

def sh_milestoneref31_Draft_Raw (P : Program) (d0 : Value) (h : Heap) (K : KT) : Prop :=
 pBox T_milestoneref31_Draft d0 h fun d1 h_1 =>
 pBox T_api_Raw (.agg #[(I 0), (.slice none 0 0), (.slice none 0 0), (.slice none 0 0)]) h_1 fun t2 h_2 =>
 pField 0 d1 fun t4 =>
 pLoad h_2 t4 fun t5 =>
 pField 0 d1 fun t6 =>
 pLoad h_2 t6 fun t7 =>
 pLen t7 fun t8 =>
 pMin t8 (I 60) fun t9 =>
 pSlice 1 t5 none (some t9) none fun t10 =>
 pBuild [(.slice none 0 0), (I 0)] [(0, 1, t10)] fun t11 =>
 pBox T_milestoneref07_Draft t11 h_2 fun t12 h_3 =>
 callS P F_milestoneref07_Draft_Raw [t12] h_3 fun t14 h_4 =>
 pStore 4 t2 t14 h_4 fun u h_5 =>
 pLoadN 4 h_5 t2 fun res =>
 K res h_5

theorem lk_milestoneref31_Draft_Raw (d0 : Value) (H : sh_milestoneref31_Draft_Raw Tryz.prog d0 h K) : CallsH Tryz.prog F_milestoneref31_Draft_Raw [d0].toArray h K :=
 lkF Tryz.func6 (Eq.mpr (by kernel_rfl) H)

def sh_milestoneref31_Draft_Plan_k2 (P : Program) (p3_3 t2 : Value) (K : KT) (h_16 : Heap) : Prop :=
 pLoadN 5 h_16 p3_3 fun t30 =>
 pStore 5 t2 t30 h_16 fun u_4 h_17 =>
 pLoadN 5 h_17 t2 fun res =>
 K res h_17

def sh_milestoneref31_Draft_Plan_C1 (P : Program) (d1 t2 : Value) (K : KT) (p3_3 : Value) (h_14 : Heap) : Prop :=
 pField 2 d1 fun t27 =>
 pLoad h_14 t27 fun t28 =>
 ifV t28
 (pField 1 p3_3 fun t29 =>
 pStore 1 t29 (I 1) h_14 fun u_3 h_15 =>
 sh_milestoneref31_Draft_Plan_k2 P p3_3 t2 K h_15)
 (sh_milestoneref31_Draft_Plan_k2 P p3_3 t2 K h_14)

def sh_milestoneref31_Draft_Plan (P : Program) (d0 : Value) (h : Heap) (K : KT) : Prop :=
 pBox T_milestoneref31_Draft d0 h fun d1 h_1 =>
 pBox T_api_Plan (.agg #[(I 0), (I 0), (.slice none 0 0), (I 0), (I 0)]) h_1 fun t2 h_2 =>
 cutP (σ := Vals [3]) (fun J =>
 pField 1 d1 fun t4 =>
 pLoad h_2 t4 fun t5 =>
 pBin .rem t5 (.int .u8 6) fun t6 =>
 pConv .i64 t6 fun t7 =>
 pField 3 d1 fun t9 =>
 pLoad h_2 t9 fun t10 =>
 pField 3 d1 fun t11 =>
 pLoad h_2 t11 fun t12 =>
 pLen t12 fun t13 =>
 pMin t13 (I 12) fun t14 =>
 pSlice 1 t10 none (some t14) none fun t15 =>
 pField 4 d1 fun t17 =>
 pLoad h_2 t17 fun t18 =>
 pBin .rem t18 (.int .u8 3) fun t19 =>
 pConv .i64 t19 fun t20 =>
 pField 5 d1 fun t21 =>
 pLoad h_2 t21 fun t22 =>
 pBin .rem t22 (.int .u8 8) fun t23 =>
 pConv .i64 t23 fun t24 =>
 pBin .add (I 1) t24 fun t25 =>
 (pBuildSlice T_uint32 (zerosL [(.int .u32 0)] 0) [] 0 h_2 fun t8 h_3 =>
 (pAppend T_uint32 1 4 [(.int .u32 0)] t8 t15 h_3 fun t16 h_4 =>
 (pLoad h_4 t4 fun t5_1 =>
 t5_1 = t5) /\
 (pLoad h_4 t17 fun t18_1 =>
 t18_1 = t18) /\
 (pLoad h_4 t21 fun t22_1 =>
 t22_1 = t22) /\
 (pBuild [(I 0), (I 0), (.slice none 0 0), (I 0), (I 0)] [(0, 1, t7), (2, 1, t16), (3, 1, t20), (4, 1, t25)] fun t26 =>
 pBox T_api_Plan (.agg #[(I 0), (I 0), (.slice none 0 0), (I 0), (I 0)]) h_4 fun p3 h_5 =>
 pStore 5 p3 t26 h_5 fun u h_6 =>
 J (p3, ()) h_6)) /\
 (pBox T_api_Plan (.agg #[(I 0), (I 0), (.slice none 0 0), (I 0), (I 0)]) h_3 fun p3_1 h_7 =>
 pAppend T_uint32 1 4 [(.int .u32 0)] t8 t15 h_7 fun t16_1 h_8 =>
 (pLoad h_8 t4 fun t5_2 =>
 t5_2 = t5) /\
 (pLoad h_8 t17 fun t18_2 =>
 t18_2 = t18) /\
 (pLoad h_8 t21 fun t22_2 =>
 t22_2 = t22) /\
 (pBuild [(I 0), (I 0), (.slice none 0 0), (I 0), (I 0)] [(0, 1, t7), (2, 1, t16_1), (3, 1, t20), (4, 1, t25)] fun t26_1 =>
 pStore 5 p3_1 t26_1 h_8 fun u_1 h_9 =>
 J (p3_1, ()) h_9))) /\
 (pBox T_api_Plan (.agg #[(I 0), (I 0), (.slice none 0 0), (I 0), (I 0)]) h_2 fun p3_2 h_10 =>
 pBuildSlice T_uint32 (zerosL [(.int .u32 0)] 0) [] 0 h_10 fun t8_1 h_11 =>
 pAppend T_uint32 1 4 [(.int .u32 0)] t8_1 t15 h_11 fun t16_2 h_12 =>
 (pLoad h_12 t4 fun t5_3 =>
 t5_3 = t5) /\
 (pLoad h_12 t17 fun t18_3 =>
 t18_3 = t18) /\
 (pLoad h_12 t21 fun t22_3 =>
 t22_3 = t22) /\
 (pBuild [(I 0), (I 0), (.slice none 0 0), (I 0), (I 0)] [(0, 1, t7), (2, 1, t16_2), (3, 1, t20), (4, 1, t25)] fun t26_2 =>
 pStore 5 p3_2 t26_2 h_12 fun u_2 h_13 =>
 J (p3_2, ()) h_13)))
 (fun x hh => sh_milestoneref31_Draft_Plan_C1 P d1 t2 K x.1 hh)

theorem lk_milestoneref31_Draft_Plan (d0 : Value) (H : sh_milestoneref31_Draft_Plan Tryz.prog d0 h K) : CallsH Tryz.prog F_milestoneref31_Draft_Plan [d0].toArray h K :=
 callsH_of (ann := (annG (Tryz.f7.body.getD .skip) 0 [(1, [3])]).1) (c := Tryz.f7.body.getD .skip) Tryz.func7 (by kernel_rfl) (by kernel_rfl) (by kernel_rfl) (of_decide_eq_true (by kernel_rfl))
  (Eq.mpr (by kernel_rfl) H)

def sh_milestoneref31_Wrong_k1 (P : Program) (K : KT) (h_2 : Heap) : Prop :=
 K (I 11) h_2

def sh_milestoneref31_Wrong_k4 (P : Program) (K : KT) (h_5 : Heap) : Prop :=
 K (I 14) h_5

def sh_milestoneref31_Wrong_k5 (P : Program) (K : KT) (h_6 : Heap) : Prop :=
 K (I 0) h_6

def sh_milestoneref31_Wrong_k3 (P : Program) (p1 : Value) (K : KT) (h_4 : Heap) : Prop :=
 pField 3 p1 fun t36 =>
 pLoad h_4 t36 fun t37 =>
 pBin .neq t37 (I 0) fun t38 =>
 ifV t38
 (pField 4 p1 fun t40 =>
 pLoad h_4 t40 fun t41 =>
 pBin .lss t41 (I 1) fun t42 =>
 ifV t42
 (sh_milestoneref31_Wrong_k4 P K h_4)
 (pField 4 p1 fun t44 =>
 pLoad h_4 t44 fun t45 =>
 pBin .gtr t45 (I 256) fun t46 =>
 ifV t46
 (sh_milestoneref31_Wrong_k4 P K h_4)
 (sh_milestoneref31_Wrong_k5 P K h_4)))
 (sh_milestoneref31_Wrong_k5 P K h_4)

def sh_milestoneref31_Wrong_k2 (P : Program) (p1 : Value) (K : KT) (h_3 : Heap) : Prop :=
 pField 3 p1 fun t22 =>
 pLoad h_3 t22 fun t23 =>
 pBin .neq t23 (I 0) fun t24 =>
 ifV t24
 (pField 3 p1 fun t26 =>
 pLoad h_3 t26 fun t27 =>
 pBin .neq t27 (I 1) fun t28 =>
 ifV t28
 (pField 3 p1 fun t31 =>
 pLoad h_3 t31 fun t32 =>
 pBin .neq t32 (I 2) fun t33 =>
 ifV t33
 (K (I 13) h_3)
 (sh_milestoneref31_Wrong_k3 P p1 K h_3))
 (sh_milestoneref31_Wrong_k3 P p1 K h_3))
 (sh_milestoneref31_Wrong_k3 P p1 K h_3)

def sh_milestoneref31_Wrong (P : Program) (p0 : Value) (h : Heap) (K : KT) : Prop :=
 pBox T_api_Plan p0 h fun p1 h_1 =>
 pField 0 p1 fun t4 =>
 pLoad h_1 t4 fun t5 =>
 pBin .lss t5 (I 0) fun t6 =>
 ifV t6
 (sh_milestoneref31_Wrong_k1 P K h_1)
 (pField 0 p1 fun t8 =>
 pLoad h_1 t8 fun t9 =>
 pBin .gtr t9 (I 16) fun t10 =>
 ifV t10
 (sh_milestoneref31_Wrong_k1 P K h_1)
 (pField 1 p1 fun t13 =>
 pLoad h_1 t13 fun t14 =>
 pBin .neq t14 (I 0) fun t15 =>
 ifV t15
 (pField 1 p1 fun t17 =>
 pLoad h_1 t17 fun t18 =>
 pBin .neq t18 (I 1) fun t19 =>
 ifV t19
 (K (I 12) h_1)
 (sh_milestoneref31_Wrong_k2 P p1 K h_1))
 (sh_milestoneref31_Wrong_k2 P p1 K h_1)))

theorem lk_milestoneref31_Wrong (p0 : Value) (H : sh_milestoneref31_Wrong Tryz.prog p0 h K) : CallsH Tryz.prog F_milestoneref31_Wrong [p0].toArray h K :=
 lkF Tryz.func8 (Eq.mpr (by kernel_rfl) H)

end Go.Proofs.YtmdldoolnhpaeaaGreatDoor

set_option maxRecDepth 100000
namespace Go.Proofs.YtmdldoolnhpaeaaGreatDoor
open Go Go.Mh
variable {h : Heap} {K : KT}
set_option maxHeartbeats 0

def sh_milestonelaw31_told_C1 (P : Program) (K : KT) (t4 : Value) (h_3 : Heap) : Prop :=
 K t4 h_3

def sh_milestonelaw31_told (P : Program) (err0 f1 : Value) (h : Heap) (K : KT) : Prop :=
 pBox T_api_Fault f1 h fun f3 h_1 =>
 cutP (σ := Vals [4]) (fun J =>
 pEq true .iface err0 .nilIface fun t6 =>
 pField 0 f3 fun t7 =>
 pLoad h_1 t7 fun t8 =>
 pBin .neq t8 (I 0) fun t9 =>
 pEq false .bool t6 t9 fun t10 =>
 ifV t10
 (pLoadN 4 h_1 f3 fun t14 =>
 callS P F_api_Told [err0] h_1 fun t13 h_2 =>
 (pLoadN 4 h_2 f3 fun t14_1 =>
 t14_1 = t14) /\
 (pEqS .eql 4 t13 t14 fun t15 =>
 J (t15, ()) h_2))
 (J ((.bool false), ()) h_1))
 (fun x hh => sh_milestonelaw31_told_C1 P K x.1 hh)

theorem lk_milestonelaw31_told (err0 f1 : Value) (H : sh_milestonelaw31_told Tryz.prog err0 f1 h K) : CallsH Tryz.prog F_milestonelaw31_told [err0, f1].toArray h K :=
 callsH_of (ann := (annG (Tryz.f9.body.getD .skip) 0 [(1, [4])]).1) (c := Tryz.f9.body.getD .skip) Tryz.func9 (by kernel_rfl) (by kernel_rfl) (by kernel_rfl) (of_decide_eq_true (by kernel_rfl))
  (Eq.mpr (by kernel_rfl) H)

def sh_build_Check (P : Program) (p0 : Value) (h : Heap) (K : KT) : Prop :=
 pBox T_api_Plan p0 h fun p1 h_1 =>
 pLoadN 5 h_1 p1 fun t3 =>
 pBuild [.nilFunc, (I 0)] [(0, 1, (.func (.func F_build_Check_1) #[] #[])), (1, 1, (I 11))] fun t4 =>
 pBuild [.nilFunc, (I 0)] [(0, 1, (.func (.func F_build_Check_2) #[] #[])), (1, 1, (I 12))] fun t5 =>
 pBuild [.nilFunc, (I 0)] [(0, 1, (.func (.func F_build_Check_3) #[] #[])), (1, 1, (I 13))] fun t6 =>
 pBuild [.nilFunc, (I 0)] [(0, 1, (.func (.func F_build_Check_4) #[] #[])), (1, 1, (I 14))] fun t7 =>
 pBuildSlice T_build_rule (zerosL [.nilFunc, (I 0)] 4) [(0, 2, t4), (2, 2, t5), (4, 2, t6), (6, 2, t7)] 4 h_1 fun t8 h_2 =>
 callS P F_build_first [t3, t8] h_2 fun t9 h_3 =>
 K t9 h_3

theorem lk_build_Check (p0 : Value) (H : sh_build_Check Tryz.prog p0 h K) : CallsH Tryz.prog F_build_Check [p0].toArray h K :=
 lkF Tryz.func10 (Eq.mpr (by kernel_rfl) H)

def sh_api_Told_k1 (P : Program) (err0 t2 : Value) (K : KT) (h_5 : Heap) : Prop :=
 pBox T_api_Errno (I 0) h_5 fun e4 h_6 =>
 callS P F_errors_As [err0, (.iface T_p_api_Errno e4)] h_6 fun t17 h_7 =>
 ifV t17
 (pLoad h_7 e4 fun t18 =>
 pBuild [(I 0), (I 0), (I 0), (I 0)] [(0, 1, t18)] fun t19 =>
 pStore 4 t2 t19 h_7 fun u_1 h_8 =>
 pLoadN 4 h_8 t2 fun res_1 =>
 K res_1 h_8)
 (pBuild [(I 0), (I 0), (I 0), (I 0)] [] fun t20 =>
 pStore 4 t2 t20 h_7 fun u_2 h_9 =>
 pLoadN 4 h_9 t2 fun res_2 =>
 K res_2 h_9)

def sh_api_Told (P : Program) (err0 : Value) (h : Heap) (K : KT) : Prop :=
 pBox T_api_Fault (.agg #[(I 0), (I 0), (I 0), (I 0)]) h fun t2 h_1 =>
 pBox T_p_api_Fault (.pointer none) h_1 fun f3 h_2 =>
 callS P F_errors_As [err0, (.iface T_p_p_api_Fault f3)] h_2 fun t7 h_3 =>
 ifV t7
 (pLoad h_3 f3 fun t9 =>
 pEq true .ptr t9 (.pointer none) fun t10 =>
 ifV t10
 (pLoad h_3 f3 fun t12 =>
 pNil t12 fun t13 =>
 pLoadN 4 h_3 t13 fun t14 =>
 pStore 4 t2 t14 h_3 fun u h_4 =>
 pLoadN 4 h_4 t2 fun res =>
 K res h_4)
 (sh_api_Told_k1 P err0 t2 K h_3))
 (sh_api_Told_k1 P err0 t2 K h_3)

theorem lk_api_Told (err0 : Value) (H : sh_api_Told Tryz.prog err0 h K) : CallsH Tryz.prog F_api_Told [err0].toArray h K :=
 lkF Tryz.func11 (Eq.mpr (by kernel_rfl) H)

def sh_graph_Check (P : Program) (r0 : Value) (h : Heap) (K : KT) : Prop :=
 pBox T_api_Raw r0 h fun r1 h_1 =>
 pBox T_error .nilIface h_1 fun err2 h_2 =>
 pLoadN 4 h_2 r1 fun t4 =>
 callS P F_graph_look [t4] h_2 fun t5 h_3 =>
 pStore 1 err2 .nilIface h_3 fun u h_4 =>
 DeferS P F_graph_Check_1 #[err2] h_4 fun h_5 =>
 pLoad h_5 err2 fun res =>
 K res h_5

theorem lk_graph_Check (r0 : Value) (H : sh_graph_Check Tryz.prog r0 h K) : CallsH Tryz.prog F_graph_Check [r0].toArray h K :=
 callsH_defer (g := F_graph_Check_1) (A := cL (Tryz.f12.body.getD .skip)) (B := cR (cR (Tryz.f12.body.getD .skip))) (annA := (annG (cL (Tryz.f12.body.getD .skip)) 0 []).1) (annB := (annG (cR (cR (Tryz.f12.body.getD .skip))) 0 []).1) (id := cId (cL (cR (Tryz.f12.body.getD .skip)))) (o1 := cO 0 (cL (cR (Tryz.f12.body.getD .skip)))) (o2 := cO 1 (cL (cR (Tryz.f12.body.getD .skip)))) (s := 3) (caps := #[(.tmp 2)]) (c := { callee := .value (.tmp 3), args := #[], argTypes := #[] })
  Tryz.func12 (by kernel_rfl) (by kernel_rfl) (by kernel_rfl) (of_decide_eq_true (by kernel_rfl)) (by kernel_rfl) (by kernel_rfl) (by kernel_rfl) (by kernel_rfl) rfl rfl (by kernel_rfl) (by kernel_rfl)
  (Eq.mpr (by kernel_rfl) H)

def sh_build_Build_k2 (P : Program) (K : KT) (t25 : Value) (h_19 : Heap) : Prop :=
 K (.tuple #[t25, .nilIface]) h_19

def sh_build_Build_k1 (P : Program) (p3 t18 t25 : Value) (K : KT) (h_11 : Heap) : Prop :=
 pField 3 p3 fun t45 =>
 pLoad h_11 t45 fun t46 =>
 pBin .neq t46 (I 0) fun t47 =>
 ifV t47
 (pField 3 p3 fun t50 =>
 pLoad h_11 t50 fun t51 =>
 pField 4 p3 fun t54 =>
 pLoad h_11 t54 fun t55 =>
 callS P F_build_parts [] h_11 fun t49 h_12 =>
 (pLoad h_12 t50 fun t51_1 =>
 t51_1 = t51) /\
 (pLoad h_12 t54 fun t55_1 =>
 t55_1 = t55) /\
 (pLook (.int .i64) .nilFunc false h_12 t49 t51 fun t52 =>
 callV P t52 [t18, t55].toArray h_12 fun t56 h_13 =>
 callS P F_cell_Norm [t56] h_13 fun t57 h_14 =>
 callS P F_cell_New [t57] h_14 fun t58 h_15 =>
 pNil t25 fun t59 =>
 pField 2 t59 fun t60 =>
 pStore 1 t60 t58 h_15 fun u_1 h_16 =>
 pNil t25 fun t64 =>
 pField 2 t64 fun t65 =>
 pLoad h_16 t65 fun t66 =>
 callS P F_flag_Of [t18, t66] h_16 fun t67 h_17 =>
 pNil t25 fun t68 =>
 pField 3 t68 fun t69 =>
 pStore 1 t69 t67 h_17 fun u_2 h_18 =>
 sh_build_Build_k2 P K t25 h_18))
 (sh_build_Build_k2 P K t25 h_11)

def sh_build_Build (P : Program) (raw0 p1 : Value) (h : Heap) (K : KT) : Prop :=
 pBox T_api_Raw raw0 h fun raw2 h_1 =>
 pBox T_api_Plan p1 h_1 fun p3 h_2 =>
 pLoadN 5 h_2 p3 fun t10 =>
 callS P F_build_Check [t10] h_2 fun t11 h_3 =>
 pEq true .iface t11 .nilIface fun t13 =>
 ifV t13
 (K (.tuple #[(.pointer none), t11]) h_3)
 (pLoadN 4 h_3 raw2 fun t16 =>
 callS P F_net_New [t16] h_3 fun t17 h_4 =>
 pExt t17 0 fun t18 =>
 pExt t17 1 fun t19 =>
 pEq true .iface t19 .nilIface fun t21 =>
 ifV t21
 (K (.tuple #[(.pointer none), t19]) h_4)
 (pBuild [(.pointer none), (.pointer none), (.pointer none), (.pointer none)] [(0, 1, t18)] fun t24 =>
 pBox T_image_Image t24 h_4 fun t25 h_5 =>
 pField 0 p3 fun t26 =>
 pLoad h_5 t26 fun t27 =>
 pBin .gtr t27 (I 0) fun t28 =>
 ifV t28
 (pField 1 p3 fun t32 =>
 pLoad h_5 t32 fun t33 =>
 pField 0 p3 fun t36 =>
 pLoad h_5 t36 fun t37 =>
 pField 2 p3 fun t38 =>
 pLoad h_5 t38 fun t39 =>
 callS P F_build_choices [] h_5 fun t31 h_6 =>
 (pLoad h_6 t32 fun t33_1 =>
 t33_1 = t33) /\
 (pLoad h_6 t36 fun t37_1 =>
 t37_1 = t37) /\
 (pLoad h_6 t38 fun t39_1 =>
 t39_1 = t39) /\
 (pLook (.int .i64) .nilFunc false h_6 t31 t33 fun t34 =>
 callS P F_draw_New [t39] h_6 fun t40 h_7 =>
 (pLoad h_7 t32 fun t33_2 =>
 t33_2 = t33) /\
 (pLoad h_7 t36 fun t37_2 =>
 t37_2 = t37) /\
 (pLook (.int .i64) .nilFunc false h_7 t31 t33 fun t34_1 =>
 t34_1 = t34) /\
 (callV P t34 [t18, t37, t40].toArray h_7 fun t41 h_8 =>
 callS P F_table_Of [t18, t41] h_8 fun t42 h_9 =>
 pNil t25 fun t43 =>
 pField 1 t43 fun t44 =>
 pStore 1 t44 t42 h_9 fun u h_10 =>
 sh_build_Build_k1 P p3 t18 t25 K h_10)))
 (sh_build_Build_k1 P p3 t18 t25 K h_5)))

theorem lk_build_Build (raw0 p1 : Value) (H : sh_build_Build Tryz.prog raw0 p1 h K) : CallsH Tryz.prog F_build_Build [raw0, p1].toArray h K :=
 lkF Tryz.func13 (Eq.mpr (by kernel_rfl) H)

def sh_milestonelaw31_works_k1 (P : Program) (K : KT) (h_6 : Heap) : Prop :=
 K (.bool false) h_6

def sh_milestonelaw31_works_k2 (P : Program) (K : KT) (one5 : Value) (h_13 : Heap) : Prop :=
 ifV one5
 (pBuild [(I 0), (I 0), (.slice none 0 0), (I 0), (I 0)] [(0, 1, (I 17)), (1, 1, (I 9))] fun t86 =>
 callS P F_milestonelaw31_fails [t86, (I 11)] h_13 fun t87 h_14 =>
 ifV t87
 (pBuild [(I 0), (I 0), (.slice none 0 0), (I 0), (I 0)] [(1, 1, (I 2)), (3, 1, (I 9))] fun t90 =>
 callS P F_milestonelaw31_fails [t90, (I 12)] h_14 fun t91 h_15 =>
 ifV t91
 (pBuild [(I 0), (I 0), (.slice none 0 0), (I 0), (I 0)] [(3, 1, (I 3))] fun t94 =>
 callS P F_milestonelaw31_fails [t94, (I 13)] h_15 fun t95 h_16 =>
 ifV t95
 (pBuild [(I 0), (I 0), (.slice none 0 0), (I 0), (I 0)] [(3, 1, (I 1)), (4, 1, (I 257))] fun t98 =>
 callS P F_milestonelaw31_fails [t98, (I 14)] h_16 fun t99 h_17 =>
 K t99 h_17)
 (K (.bool false) h_16))
 (K (.bool false) h_15))
 (K (.bool false) h_14))
 (K (.bool false) h_13)

def sh_milestonelaw31_works (P : Program) (h : Heap) (K : KT) : Prop :=
 callS P F_milestonelaw31_four [] h fun t7 h_1 =>
 pBuildSlice T_uint32 (zerosL [(.int .u32 0)] 1) [(0, 1, (.int .u32 0))] 1 h_1 fun t8 h_2 =>
 pBuild [(I 0), (I 0), (.slice none 0 0), (I 0), (I 0)] [(0, 1, (I 2)), (2, 1, t8), (3, 1, (I 1)), (4, 1, (I 2))] fun t9 =>
 callS P F_build_Build [t7, t9] h_2 fun t10 h_3 =>
 pExt t10 0 fun t11 =>
 pExt t10 1 fun t12 =>
 callS P F_milestonelaw31_four [] h_3 fun t14 h_4 =>
 pBuild [(I 0), (I 0), (.slice none 0 0), (I 0), (I 0)] [] fun t15 =>
 callS P F_build_Build [t14, t15] h_4 fun t16 h_5 =>
 pExt t16 0 fun t17 =>
 pExt t16 1 fun t18 =>
 pEq true .iface t12 .nilIface fun t20 =>
 ifV t20
 (sh_milestonelaw31_works_k1 P K h_5)
 (pEq true .iface t18 .nilIface fun t23 =>
 ifV t23
 (sh_milestonelaw31_works_k1 P K h_5)
 (pEq false .ptr t11 (.pointer none) fun t27 =>
 ifV t27
 (sh_milestonelaw31_works_k1 P K h_5)
 (pEq false .ptr t17 (.pointer none) fun t31 =>
 ifV t31
 (sh_milestonelaw31_works_k1 P K h_5)
 (pNil t11 fun t35 =>
 pField 1 t35 fun t36 =>
 pLoad h_5 t36 fun t37 =>
 pEq false .ptr t37 (.pointer none) fun t38 =>
 ifV t38
 (sh_milestonelaw31_works_k1 P K h_5)
 (pNil t11 fun t42 =>
 pField 2 t42 fun t43 =>
 pLoad h_5 t43 fun t44 =>
 pEq false .ptr t44 (.pointer none) fun t45 =>
 ifV t45
 (sh_milestonelaw31_works_k1 P K h_5)
 (pNil t11 fun t48 =>
 pField 1 t48 fun t49 =>
 pLoad h_5 t49 fun t50 =>
 callS P F_table_Table_Marks [t50] h_5 fun t51 h_7 =>
 pBuildSlice T_int (zerosL [(I 0)] 2) [(0, 1, (I 3)), (1, 1, (I 0))] 2 h_7 fun t52 h_8 =>
 callS P F_milestoneref07_Ints [t51, t52] h_8 fun t53 h_9 =>
 ifV t53
 (pNil t11 fun t56 =>
 pField 2 t56 fun t57 =>
 pLoad h_9 t57 fun t58 =>
 callS P F_cell_Cells_Map [t58] h_9 fun t59 h_10 =>
 pBuildSlice T_int (zerosL [(I 0)] 4) [(0, 1, (I 0)), (1, 1, (I 0)), (2, 1, (I 1)), (3, 1, (I 1))] 4 h_10 fun t60 h_11 =>
 callS P F_milestoneref07_Ints [t59, t60] h_11 fun t61 h_12 =>
 ifV t61
 (pNil t17 fun t65 =>
 pField 1 t65 fun t66 =>
 pLoad h_12 t66 fun t67 =>
 pEq false .ptr t67 (.pointer none) fun t68 =>
 ifV t68
 (pNil t17 fun t72 =>
 pField 2 t72 fun t73 =>
 pLoad h_12 t73 fun t74 =>
 pEq false .ptr t74 (.pointer none) fun t75 =>
 ifV t75
 (pNil t17 fun t79 =>
 pField 3 t79 fun t80 =>
 pLoad h_12 t80 fun t81 =>
 pEq false .ptr t81 (.pointer none) fun t82 =>
 sh_milestonelaw31_works_k2 P K t82 h_12)
 (sh_milestonelaw31_works_k2 P K (.bool false) h_12))
 (sh_milestonelaw31_works_k2 P K (.bool false) h_12))
 (sh_milestonelaw31_works_k2 P K (.bool false) h_12))
 (sh_milestonelaw31_works_k2 P K (.bool false) h_9)))))))

theorem lk_milestonelaw31_works (H : sh_milestonelaw31_works Tryz.prog h K) : CallsH Tryz.prog F_milestonelaw31_works [].toArray h K :=
 lkF Tryz.func14 (Eq.mpr (by kernel_rfl) H)

def sh_milestonelaw31_four_L1 (P : Program) (g1 t0 : Value) (K : KT) (v2 : Value) (h_6 : Heap) (Z : KT) : Prop :=
 pBin .lss v2 (I 3) fun t7 =>
 ifV t7
 (pField 3 g1 fun t10 =>
 pLoad h_6 t10 fun t11 =>
 pBin .add v2 (I 1) fun t14 =>
 pBuild [(I 0), (I 0), (I 0)] [(0, 1, v2), (1, 1, t14), (2, 1, (I 1))] fun t15 =>
 pBin .add v2 (I 1) fun t17 =>
 pBuild [(I 0), (I 0), (I 0)] [(0, 1, t17), (1, 1, v2), (2, 1, (I 1))] fun t19 =>
 pBuildSlice T_api_Arc (zerosL [(I 0), (I 0), (I 0)] 2) [(0, 3, t15), (3, 3, t19)] 2 h_6 fun t20 h_7 =>
 pAppend T_api_Arc 3 24 [(I 0), (I 0), (I 0)] t11 t20 h_7 fun t21 h_8 =>
 pField 3 g1 fun t22 =>
 pStore 1 t22 t21 h_8 fun u_1 h_9 =>
 pBin .add v2 (I 1) fun t9 =>
 Z t9 h_9)
 (pLoadN 4 h_6 g1 fun t23 =>
 pStore 4 t0 t23 h_6 fun u_2 h_10 =>
 pLoadN 4 h_10 t0 fun res =>
 K res h_10)

def sh_milestonelaw31_four (P : Program) (h : Heap) (K : KT) : Prop :=
 pBox T_api_Raw (.agg #[(I 0), (.slice none 0 0), (.slice none 0 0), (.slice none 0 0)]) h fun t0 h_1 =>
 pBuildSlice T_int64 (zerosL [(I 0)] 4) [(0, 1, (I 0)), (1, 1, (I 1)), (2, 1, (I 8)), (3, 1, (I 9))] 4 h_1 fun t3 h_2 =>
 pMakeSlice T_int64 8 [(I 0)] (I 4) (I 4) h_2 fun t4 h_3 =>
 pBuild [(I 0), (.slice none 0 0), (.slice none 0 0), (.slice none 0 0)] [(0, 1, (I 4)), (1, 1, t3), (2, 1, t4)] fun t5 =>
 pBox T_api_Raw (.agg #[(I 0), (.slice none 0 0), (.slice none 0 0), (.slice none 0 0)]) h_3 fun g1 h_4 =>
 pStore 4 g1 t5 h_4 fun u h_5 =>
 LoopH (σ := Vals [2]) (fun x hh ZZ => sh_milestonelaw31_four_L1 P g1 t0 K x.1 hh (fun a0 hz => ZZ (a0, ()) hz)) ((I 0), ()) h_5

theorem lk_milestonelaw31_four (H : sh_milestonelaw31_four Tryz.prog h K) : CallsH Tryz.prog F_milestonelaw31_four [].toArray h K :=
 callsH_of (ann := (annG (Tryz.f15.body.getD .skip) 0 [(4, [2])]).1) (c := Tryz.f15.body.getD .skip) Tryz.func15 (by kernel_rfl) (by kernel_rfl) (by kernel_rfl) (of_decide_eq_true (by kernel_rfl))
  (Eq.mpr (by kernel_rfl) H)

def sh_table_Table_Marks (P : Program) (t0 : Value) (h : Heap) (K : KT) : Prop :=
 pEq false .ptr t0 (.pointer none) fun t4 =>
 ifV t4
 (K (.slice none 0 0) h)
 (pNil t0 fun t6 =>
 pField 1 t6 fun t7 =>
 pLoad h t7 fun t8 =>
 callS P F_slices_Clone_sl_int_int [t8] h fun t9 h_1 =>
 K t9 h_1)

theorem lk_table_Table_Marks (t0 : Value) (H : sh_table_Table_Marks Tryz.prog t0 h K) : CallsH Tryz.prog F_table_Table_Marks [t0].toArray h K :=
 lkF Tryz.func16 (Eq.mpr (by kernel_rfl) H)

def sh_cell_Cells_Many (P : Program) (c0 : Value) (h : Heap) (K : KT) : Prop :=
 pEq false .ptr c0 (.pointer none) fun t4 =>
 ifV t4
 (K (I 0) h)
 (pNil c0 fun t6 =>
 pField 1 t6 fun t7 =>
 pLoad h t7 fun t8 =>
 K t8 h)

theorem lk_cell_Cells_Many (c0 : Value) (H : sh_cell_Cells_Many Tryz.prog c0 h K) : CallsH Tryz.prog F_cell_Cells_Many [c0].toArray h K :=
 lkF Tryz.func17 (Eq.mpr (by kernel_rfl) H)

def sh_bits_Rows_Rows (P : Program) (b0 : Value) (h : Heap) (K : KT) : Prop :=
 pEq false .ptr b0 (.pointer none) fun t4 =>
 ifV t4
 (K (I 0) h)
 (pNil b0 fun t6 =>
 pField 0 t6 fun t7 =>
 pLoad h t7 fun t8 =>
 K t8 h)

theorem lk_bits_Rows_Rows (b0 : Value) (H : sh_bits_Rows_Rows Tryz.prog b0 h K) : CallsH Tryz.prog F_bits_Rows_Rows [b0].toArray h K :=
 lkF Tryz.func18 (Eq.mpr (by kernel_rfl) H)

def sh_milestonelaw31_fails (P : Program) (p0 code1 : Value) (h : Heap) (K : KT) : Prop :=
 pBox T_api_Plan p0 h fun p2 h_1 =>
 pBuild [(I 0), (.slice none 0 0), (.slice none 0 0), (.slice none 0 0)] [] fun t8 =>
 pLoadN 5 h_1 p2 fun t9 =>
 callS P F_build_Build [t8, t9] h_1 fun t10 h_2 =>
 pExt t10 0 fun t11 =>
 pExt t10 1 fun t12 =>
 pEq false .ptr t11 (.pointer none) fun t14 =>
 ifV t14
 (pBuild [(I 0), (I 0), (I 0), (I 0)] [(0, 1, code1)] fun t18 =>
 callS P F_milestonelaw31_told [t12, t18] h_2 fun t19 h_3 =>
 K t19 h_3)
 (K (.bool false) h_2)

theorem lk_milestonelaw31_fails (p0 code1 : Value) (H : sh_milestonelaw31_fails Tryz.prog p0 code1 h K) : CallsH Tryz.prog F_milestonelaw31_fails [p0, code1].toArray h K :=
 lkF Tryz.func19 (Eq.mpr (by kernel_rfl) H)

def sh_flag_Of_B2 (P : Program) (h_11 : Heap) (flags5 k6 : Value) (L : Loop) (t26 : Value) (h_12 : Heap) (R : Exit -> Heap -> Prop) : Prop :=
 beginR (h_11.size + 1) L h_12 fun h_13 =>
 pLoad h_13 flags5 fun t27 =>
 pLoad h_13 k6 fun t28 =>
 callS P F_bits_Rows_Set [t27, t28, t26, (.bool true)] h_13 fun t30 h_14 =>
 R .normal h_14

def sh_flag_Of_L1 (P : Program) (t18 n0 c1 flags5 : Value) (K : KT) (m : List Nat) (t19 : Value) (h_8 : Heap) (Z : List Nat -> KT) : Prop :=
 pBin .lss t19 t18 fun t20 =>
 ifV t20
 (pBox T_int (I 0) h_8 fun k6 h_9 =>
 pStore 1 k6 t19 h_9 fun u_1 h_10 =>
 pLoad h_10 k6 fun t24 =>
 callS P F_flag_worth [n0, c1, t24] h_10 fun t25 h_11 =>
 rangeH P t25 [26] (h_11.size + 1) (h_11.push (.deferred (some []))) (fun L x hh R => sh_flag_Of_B2 P h_11 flags5 k6 L x.1 hh R)
 (fun h_15 => pBin .add t19 (I 1) fun t31 =>
 Z (h_11.size :: m) t31 h_15)
 (fun h_16 => takeM (h_11.size :: m) h_16 fun h_17 =>
 K (.pointer none) h_17)
 [])
 (pLoad h_8 flags5 fun t32 =>
 takeM m h_8 fun h_18 =>
 K t32 h_18)

def sh_flag_Of (P : Program) (n0 c1 : Value) (h : Heap) (K : KT) : Prop :=
 callS P F_flag_fits [n0, c1] h fun t10 h_1 =>
 pUn .not t10 fun t11 =>
 ifV t11
 (K (.pointer none) h_1)
 (callS P F_cell_Cells_Many [c1] h_1 fun t13 h_2 =>
 callS P F_net_Net_Arcs [n0] h_2 fun t15 h_3 =>
 callS P F_bits_New [t13, t15] h_3 fun t16 h_4 =>
 pBox T_p_bits_Rows (.pointer none) h_4 fun flags5 h_5 =>
 pStore 1 flags5 t16 h_5 fun u h_6 =>
 callS P F_cell_Cells_Many [c1] h_6 fun t18 h_7 =>
 LoopH (σ := List Nat × Vals [19]) (fun x hh ZZ => sh_flag_Of_L1 P t18 n0 c1 flags5 K x.1 x.2.1 hh (fun mz a0 hz => ZZ (mz, (a0, ())) hz)) ([], ((I 0), ())) h_7)

theorem lk_flag_Of (n0 c1 : Value) (H : sh_flag_Of Tryz.prog n0 c1 h K) : CallsH Tryz.prog F_flag_Of [n0, c1].toArray h K :=
 callsH_of (ann := (annG (Tryz.f23.body.getD .skip) 0 [(7, [19])]).1) (c := Tryz.f23.body.getD .skip) Tryz.func23 (by kernel_rfl) (by kernel_rfl) (by kernel_rfl) (of_decide_eq_true (by kernel_rfl))
  (Eq.mpr (by kernel_rfl) H)

end Go.Proofs.YtmdldoolnhpaeaaGreatDoor

set_option maxRecDepth 100000
namespace Go.Proofs.YtmdldoolnhpaeaaGreatDoor
open Go Go.Mh
variable {h : Heap} {K : KT}
set_option maxHeartbeats 0

def sh_cell_Cells_Of_k1 (P : Program) (K : KT) (h_1 : Heap) : Prop :=
 K (I (-1)) h_1

def sh_cell_Cells_Of (P : Program) (c0 v1 : Value) (h : Heap) (K : KT) : Prop :=
 pEq false .ptr c0 (.pointer none) fun t6 =>
 ifV t6
 (sh_cell_Cells_Of_k1 P K h)
 (pBin .lss v1 (I 0) fun t9 =>
 ifV t9
 (sh_cell_Cells_Of_k1 P K h)
 (pNil c0 fun t14 =>
 pField 0 t14 fun t15 =>
 pLoad h t15 fun t16 =>
 pLen t16 fun t17 =>
 pBin .geq v1 t17 fun t18 =>
 ifV t18
 (sh_cell_Cells_Of_k1 P K h)
 (pNil c0 fun t21 =>
 pField 0 t21 fun t22 =>
 pLoad h t22 fun t23 =>
 pIdx 1 t23 v1 fun t25 =>
 pLoad h t25 fun t26 =>
 K t26 h)))

theorem lk_cell_Cells_Of (c0 v1 : Value) (H : sh_cell_Cells_Of Tryz.prog c0 v1 h K) : CallsH Tryz.prog F_cell_Cells_Of [c0, v1].toArray h K :=
 lkF Tryz.func26 (Eq.mpr (by kernel_rfl) H)

def sh_milestoneref07_Draft_Raw_k7 (P : Program) (i8 : Value) (Z_2 : KT) (h_52 : Heap) : Prop :=
 pBin .add i8 (I 1) fun t83 =>
 Z_2 t83 h_52

def sh_milestoneref07_Draft_Raw_C6 (P : Program) (g3 d0 i8 : Value) (Z_2 : KT) (a9_4 : Value) (h_44 : Heap) : Prop :=
 pField 3 g3 fun t95 =>
 pLoad h_44 t95 fun t96 =>
 pLoadN 3 h_44 a9_4 fun t97 =>
 pBuildSlice T_api_Arc (zerosL [(I 0), (I 0), (I 0)] 1) [(0, 3, t97)] 1 h_44 fun t98 h_45 =>
 pAppend T_api_Arc 3 24 [(I 0), (I 0), (I 0)] t96 t98 h_45 fun t99 h_46 =>
 pField 3 g3 fun t100 =>
 pStore 1 t100 t99 h_46 fun u_10 h_47 =>
 callS P F_milestoneref07_Draft_Next [d0, (I 4)] h_47 fun t102 h_48 =>
 pBin .eql t102 (I 0) fun t103 =>
 ifV t103
 (pField 3 g3 fun t104 =>
 pLoad h_48 t104 fun t105 =>
 pField 1 a9_4 fun t106 =>
 pLoad h_48 t106 fun t107 =>
 pField 0 a9_4 fun t108 =>
 pLoad h_48 t108 fun t109 =>
 pField 2 a9_4 fun t110 =>
 pLoad h_48 t110 fun t111 =>
 pBuild [(I 0), (I 0), (I 0)] [(0, 1, t107), (1, 1, t109), (2, 1, t111)] fun t112 =>
 pBuildSlice T_api_Arc (zerosL [(I 0), (I 0), (I 0)] 1) [(0, 3, t112)] 1 h_48 fun t113 h_49 =>
 pAppend T_api_Arc 3 24 [(I 0), (I 0), (I 0)] t105 t113 h_49 fun t114 h_50 =>
 pField 3 g3 fun t115 =>
 pStore 1 t115 t114 h_50 fun u_11 h_51 =>
 sh_milestoneref07_Draft_Raw_k7 P i8 Z_2 h_51)
 (sh_milestoneref07_Draft_Raw_k7 P i8 Z_2 h_48)

def sh_milestoneref07_Draft_Raw_L5 (P : Program) (t52 g3 d0 t2 : Value) (K : KT) (i8 : Value) (h_26 : Heap) (Z_2 : KT) : Prop :=
 pBin .lss i8 t52 fun t81 =>
 ifV t81
 (cutP (σ := Vals [9]) (fun J =>
 pField 0 g3 fun t85 =>
 pLoad h_26 t85 fun t86 =>
 pField 0 g3 fun t89 =>
 pLoad h_26 t89 fun t90 =>
 (callS P F_milestoneref07_Draft_Next [d0, t86] h_26 fun t87 h_27 =>
 (pLoad h_27 t89 fun t90_1 =>
 t90_1 = t90) /\
 ((callS P F_milestoneref07_Draft_Next [d0, t90] h_27 fun t91 h_28 =>
 (callS P F_milestoneref07_Draft_Weight [d0] h_28 fun t93 h_29 =>
 pBuild [(I 0), (I 0), (I 0)] [(0, 1, t87), (1, 1, t91), (2, 1, t93)] fun t94 =>
 pBox T_api_Arc (.agg #[(I 0), (I 0), (I 0)]) h_29 fun a9 h_30 =>
 pStore 3 a9 t94 h_30 fun u_6 h_31 =>
 J (a9, ()) h_31) /\
 (pBox T_api_Arc (.agg #[(I 0), (I 0), (I 0)]) h_28 fun a9_1 h_32 =>
 callS P F_milestoneref07_Draft_Weight [d0] h_32 fun t93_1 h_33 =>
 pBuild [(I 0), (I 0), (I 0)] [(0, 1, t87), (1, 1, t91), (2, 1, t93_1)] fun t94_1 =>
 pStore 3 a9_1 t94_1 h_33 fun u_7 h_34 =>
 J (a9_1, ()) h_34)) /\
 (pBox T_api_Arc (.agg #[(I 0), (I 0), (I 0)]) h_27 fun a9_2 h_35 =>
 callS P F_milestoneref07_Draft_Next [d0, t90] h_35 fun t91_1 h_36 =>
 callS P F_milestoneref07_Draft_Weight [d0] h_36 fun t93_2 h_37 =>
 pBuild [(I 0), (I 0), (I 0)] [(0, 1, t87), (1, 1, t91_1), (2, 1, t93_2)] fun t94_2 =>
 pStore 3 a9_2 t94_2 h_37 fun u_8 h_38 =>
 J (a9_2, ()) h_38))) /\
 (pBox T_api_Arc (.agg #[(I 0), (I 0), (I 0)]) h_26 fun a9_3 h_39 =>
 callS P F_milestoneref07_Draft_Next [d0, t86] h_39 fun t87_1 h_40 =>
 (pLoad h_40 t89 fun t90_2 =>
 t90_2 = t90) /\
 (callS P F_milestoneref07_Draft_Next [d0, t90] h_40 fun t91_2 h_41 =>
 callS P F_milestoneref07_Draft_Weight [d0] h_41 fun t93_3 h_42 =>
 pBuild [(I 0), (I 0), (I 0)] [(0, 1, t87_1), (1, 1, t91_2), (2, 1, t93_3)] fun t94_3 =>
 pStore 3 a9_3 t94_3 h_42 fun u_9 h_43 =>
 J (a9_3, ()) h_43)))
 (fun x hh => sh_milestoneref07_Draft_Raw_C6 P g3 d0 i8 Z_2 x.1 hh))
 (pLoadN 4 h_26 g3 fun t116 =>
 pStore 4 t2 t116 h_26 fun u_12 h_53 =>
 pLoadN 4 h_53 t2 fun res =>
 K res h_53)

def sh_milestoneref07_Draft_Raw_k4 (P : Program) (t52 g3 d0 t2 : Value) (K : KT) (h_25 : Heap) : Prop :=
 LoopH (σ := Vals [8]) (fun x hh ZZ => sh_milestoneref07_Draft_Raw_L5 P t52 g3 d0 t2 K x.1 hh (fun a0 hz => ZZ (a0, ()) hz)) ((I 0), ()) h_25

def sh_milestoneref07_Draft_Raw_L3 (P : Program) (g3 t55 d0 t52 t2 : Value) (K : KT) (v7 : Value) (h_20 : Heap) (Z_1 : KT) : Prop :=
 pField 0 g3 fun t57 =>
 pLoad h_20 t57 fun t58 =>
 pBin .lss v7 t58 fun t59 =>
 ifV t59
 (ifV t55
 (pField 3 g3 fun t65 =>
 pLoad h_20 t65 fun t66 =>
 pBin .add v7 (I 1) fun t69 =>
 pField 0 g3 fun t70 =>
 pLoad h_20 t70 fun t71 =>
 pBin .rem t69 t71 fun t72 =>
 callS P F_milestoneref07_Draft_Weight [d0] h_20 fun t74 h_21 =>
 (pLoad h_21 t65 fun t66_1 =>
 t66_1 = t66) /\
 (pLoad h_21 t70 fun t71_1 =>
 t71_1 = t71) /\
 (pBuild [(I 0), (I 0), (I 0)] [(0, 1, v7), (1, 1, t72), (2, 1, t74)] fun t75 =>
 pBuildSlice T_api_Arc (zerosL [(I 0), (I 0), (I 0)] 1) [(0, 3, t75)] 1 h_21 fun t76 h_22 =>
 pAppend T_api_Arc 3 24 [(I 0), (I 0), (I 0)] t66 t76 h_22 fun t77 h_23 =>
 pField 3 g3 fun t78 =>
 pStore 1 t78 t77 h_23 fun u_5 h_24 =>
 pBin .add v7 (I 1) fun t64 =>
 Z_1 t64 h_24))
 (sh_milestoneref07_Draft_Raw_k4 P t52 g3 d0 t2 K h_20))
 (sh_milestoneref07_Draft_Raw_k4 P t52 g3 d0 t2 K h_20)

def sh_milestoneref07_Draft_Raw_k2 (P : Program) (g3 d0 t2 : Value) (K : KT) (h_17 : Heap) : Prop :=
 pField 0 g3 fun t48 =>
 pLoad h_17 t48 fun t49 =>
 pBin .mul (I 3) t49 fun t50 =>
 pBin .add t50 (I 1) fun t51 =>
 callS P F_milestoneref07_Draft_Next [d0, t51] h_17 fun t52 h_18 =>
 callS P F_milestoneref07_Draft_Next [d0, (I 3)] h_18 fun t54 h_19 =>
 pBin .gtr t54 (I 0) fun t55 =>
 LoopH (σ := Vals [7]) (fun x hh ZZ => sh_milestoneref07_Draft_Raw_L3 P g3 t55 d0 t52 t2 K x.1 hh (fun a0 hz => ZZ (a0, ()) hz)) ((I 0), ()) h_19

def sh_milestoneref07_Draft_Raw_L1 (P : Program) (g3 d0 t2 : Value) (K : KT) (v4 : Value) (h_5 : Heap) (Z : KT) : Prop :=
 pField 0 g3 fun t15 =>
 pLoad h_5 t15 fun t16 =>
 pBin .lss v4 t16 fun t17 =>
 ifV t17
 (pField 1 g3 fun t20 =>
 pLoad h_5 t20 fun t21 =>
 callS P F_milestoneref07_Draft_Next [d0, (I 9)] h_5 fun t23 h_6 =>
 (pLoad h_6 t20 fun t21_1 =>
 t21_1 = t21) /\
 (pBin .sub t23 (I 3) fun t24 =>
 pBuildSlice T_int64 (zerosL [(I 0)] 1) [(0, 1, t24)] 1 h_6 fun t25 h_7 =>
 pAppend T_int64 1 8 [(I 0)] t21 t25 h_7 fun t26 h_8 =>
 pField 1 g3 fun t27 =>
 pStore 1 t27 t26 h_8 fun u_1 h_9 =>
 pField 2 g3 fun t28 =>
 pLoad h_9 t28 fun t29 =>
 callS P F_milestoneref07_Draft_Next [d0, (I 7)] h_9 fun t31 h_10 =>
 (pLoad h_10 t28 fun t29_1 =>
 t29_1 = t29) /\
 (pBuildSlice T_int64 (zerosL [(I 0)] 1) [(0, 1, t31)] 1 h_10 fun t32 h_11 =>
 pAppend T_int64 1 8 [(I 0)] t29 t32 h_11 fun t33 h_12 =>
 pField 2 g3 fun t34 =>
 pStore 1 t34 t33 h_12 fun u_2 h_13 =>
 pBin .add v4 (I 1) fun t19 =>
 Z t19 h_13)))
 (callS P F_milestoneref07_Draft_Next [d0, (I 9)] h_5 fun t36 h_14 =>
 pBin .eql t36 (I 0) fun t37 =>
 ifV t37
 (pField 1 g3 fun t38 =>
 pLoad h_14 t38 fun t39 =>
 pIdx 1 t39 (I 0) fun t40 =>
 pStore 1 t40 (I (-2147483648)) h_14 fun u_3 h_15 =>
 pField 2 g3 fun t41 =>
 pLoad h_15 t41 fun t42 =>
 pField 0 g3 fun t43 =>
 pLoad h_15 t43 fun t44 =>
 pBin .sub t44 (I 1) fun t45 =>
 pIdx 1 t42 t45 fun t46 =>
 pStore 1 t46 (I 2147483647) h_15 fun u_4 h_16 =>
 sh_milestoneref07_Draft_Raw_k2 P g3 d0 t2 K h_16)
 (sh_milestoneref07_Draft_Raw_k2 P g3 d0 t2 K h_14))

def sh_milestoneref07_Draft_Raw (P : Program) (d0 : Value) (h : Heap) (K : KT) : Prop :=
 pBox T_api_Raw (.agg #[(I 0), (.slice none 0 0), (.slice none 0 0), (.slice none 0 0)]) h fun t2 h_1 =>
 callS P F_milestoneref07_Draft_Next [d0, (I 12)] h_1 fun t11 h_2 =>
 pBin .add (I 1) t11 fun t12 =>
 pBuild [(I 0), (.slice none 0 0), (.slice none 0 0), (.slice none 0 0)] [(0, 1, t12)] fun t13 =>
 pBox T_api_Raw (.agg #[(I 0), (.slice none 0 0), (.slice none 0 0), (.slice none 0 0)]) h_2 fun g3 h_3 =>
 pStore 4 g3 t13 h_3 fun u h_4 =>
 LoopH (σ := Vals [4]) (fun x hh ZZ => sh_milestoneref07_Draft_Raw_L1 P g3 d0 t2 K x.1 hh (fun a0 hz => ZZ (a0, ()) hz)) ((I 0), ()) h_4

theorem lk_milestoneref07_Draft_Raw (d0 : Value) (H : sh_milestoneref07_Draft_Raw Tryz.prog d0 h K) : CallsH Tryz.prog F_milestoneref07_Draft_Raw [d0].toArray h K :=
 callsH_of (ann := (annG (Tryz.f27.body.getD .skip) 0 [(4, [4]), (16, [7]), (22, [8]), (26, [9])]).1) (c := Tryz.f27.body.getD .skip) Tryz.func27 (by kernel_rfl) (by kernel_rfl) (by kernel_rfl) (of_decide_eq_true (by kernel_rfl))
  (Eq.mpr (by kernel_rfl) H)

def sh_build_first_L1 (P : Program) (t8 l1 p2 : Value) (K : KT) (t9 : Value) (h_2 : Heap) (Z : KT) : Prop :=
 pBin .lss t9 t8 fun t10 =>
 ifV t10
 (pIdx 2 l1 t9 fun t11 =>
 pLoadN 2 h_2 t11 fun t12 =>
 pBox T_build_rule (.agg #[.nilFunc, (I 0)]) h_2 fun r6 h_3 =>
 pStore 2 r6 t12 h_3 fun u h_4 =>
 pField 0 r6 fun t13 =>
 pLoad h_4 t13 fun t14 =>
 pLoadN 5 h_4 p2 fun t15 =>
 callV P t14 [t15].toArray h_4 fun t16 h_5 =>
 pUn .not t16 fun t17 =>
 ifV t17
 (pField 1 r6 fun t18 =>
 pLoad h_5 t18 fun t19 =>
 pBuild [(I 0), (I 0), (I 0), (I 0)] [(0, 1, t19)] fun t20 =>
 pBox T_api_Fault t20 h_5 fun t21 h_6 =>
 K (.iface T_p_api_Fault t21) h_6)
 (pBin .add t9 (I 1) fun t23 =>
 Z t23 h_5))
 (K .nilIface h_2)

def sh_build_first (P : Program) (p0 l1 : Value) (h : Heap) (K : KT) : Prop :=
 pBox T_api_Plan p0 h fun p2 h_1 =>
 pLen l1 fun t8 =>
 LoopH (σ := Vals [9]) (fun x hh ZZ => sh_build_first_L1 P t8 l1 p2 K x.1 hh (fun a0 hz => ZZ (a0, ()) hz)) ((I 0), ()) h_1

theorem lk_build_first (p0 l1 : Value) (H : sh_build_first Tryz.prog p0 l1 h K) : CallsH Tryz.prog F_build_first [p0, l1].toArray h K :=
 callsH_of (ann := (annG (Tryz.f28.body.getD .skip) 0 [(3, [9])]).1) (c := Tryz.f28.body.getD .skip) Tryz.func28 (by kernel_rfl) (by kernel_rfl) (by kernel_rfl) (of_decide_eq_true (by kernel_rfl))
  (Eq.mpr (by kernel_rfl) H)

def sh_build_Check_1 (P : Program) (p0 : Value) (h : Heap) (K : KT) : Prop :=
 pBox T_api_Plan p0 h fun p1 h_1 =>
 pField 0 p1 fun t3 =>
 pLoad h_1 t3 fun t4 =>
 pBin .geq t4 (I 0) fun t5 =>
 ifV t5
 (pField 0 p1 fun t7 =>
 pLoad h_1 t7 fun t8 =>
 pBin .leq t8 (I 16) fun t9 =>
 K t9 h_1)
 (K (.bool false) h_1)

theorem lk_build_Check_1 (p0 : Value) (H : sh_build_Check_1 Tryz.prog p0 h K) : CallsH Tryz.prog F_build_Check_1 [p0].toArray h K :=
 lkF Tryz.func29 (Eq.mpr (by kernel_rfl) H)

def sh_build_Check_2 (P : Program) (p0 : Value) (h : Heap) (K : KT) : Prop :=
 pBox T_api_Plan p0 h fun p1 h_1 =>
 pField 1 p1 fun t4 =>
 pLoad h_1 t4 fun t5 =>
 callS P F_build_choices [] h_1 fun t3 h_2 =>
 (pLoad h_2 t4 fun t5_1 =>
 t5_1 = t5) /\
 (pLook (.int .i64) .nilFunc false h_2 t3 t5 fun t6 =>
 pEq true .func t6 .nilFunc fun t7 =>
 K t7 h_2)

theorem lk_build_Check_2 (p0 : Value) (H : sh_build_Check_2 Tryz.prog p0 h K) : CallsH Tryz.prog F_build_Check_2 [p0].toArray h K :=
 lkF Tryz.func30 (Eq.mpr (by kernel_rfl) H)

def sh_build_choices (P : Program) (h : Heap) (K : KT) : Prop :=
 pMakeMap h fun t1 h_1 =>
 pMapSet (.int .i64) t1 (I 0) (.func (.func F_far_Marks) #[] #[]) h_1 fun u h_2 =>
 pMapSet (.int .i64) t1 (I 1) (.func (.func F_avoid_Marks) #[] #[]) h_2 fun u_1 h_3 =>
 K t1 h_3

theorem lk_build_choices (H : sh_build_choices Tryz.prog h K) : CallsH Tryz.prog F_build_choices [].toArray h K :=
 lkF Tryz.func31 (Eq.mpr (by kernel_rfl) H)

def sh_build_Check_3 (P : Program) (p0 : Value) (h : Heap) (K : KT) : Prop :=
 pBox T_api_Plan p0 h fun p1 h_1 =>
 pField 3 p1 fun t4 =>
 pLoad h_1 t4 fun t5 =>
 callS P F_build_parts [] h_1 fun t3 h_2 =>
 (pLoad h_2 t4 fun t5_1 =>
 t5_1 = t5) /\
 (pLook (.int .i64) .nilFunc false h_2 t3 t5 fun t6 =>
 pEq true .func t6 .nilFunc fun t7 =>
 K t7 h_2)

theorem lk_build_Check_3 (p0 : Value) (H : sh_build_Check_3 Tryz.prog p0 h K) : CallsH Tryz.prog F_build_Check_3 [p0].toArray h K :=
 lkF Tryz.func32 (Eq.mpr (by kernel_rfl) H)

def sh_build_parts (P : Program) (h : Heap) (K : KT) : Prop :=
 pMakeMap h fun t2 h_1 =>
 pMapSet (.int .i64) t2 (I 0) (.func (.func F_build_parts_1) #[] #[]) h_1 fun u h_2 =>
 pMapSet (.int .i64) t2 (I 1) (.func (.func F_grid_Map) #[] #[]) h_2 fun u_1 h_3 =>
 pMapSet (.int .i64) t2 (I 2) (.func (.func F_split_Map) #[] #[]) h_3 fun u_2 h_4 =>
 K t2 h_4

theorem lk_build_parts (H : sh_build_parts Tryz.prog h K) : CallsH Tryz.prog F_build_parts [].toArray h K :=
 lkF Tryz.func33 (Eq.mpr (by kernel_rfl) H)

def sh_build_Check_4 (P : Program) (p0 : Value) (h : Heap) (K : KT) : Prop :=
 pBox T_api_Plan p0 h fun p1 h_1 =>
 pField 3 p1 fun t3 =>
 pLoad h_1 t3 fun t4 =>
 pBin .eql t4 (I 0) fun t5 =>
 ifV t5
 (K (.bool true) h_1)
 (pField 4 p1 fun t7 =>
 pLoad h_1 t7 fun t8 =>
 pBin .geq t8 (I 1) fun t9 =>
 ifV t9
 (pField 4 p1 fun t11 =>
 pLoad h_1 t11 fun t12 =>
 pBin .leq t12 (I 256) fun t13 =>
 K t13 h_1)
 (K (.bool false) h_1))

theorem lk_build_Check_4 (p0 : Value) (H : sh_build_Check_4 Tryz.prog p0 h K) : CallsH Tryz.prog F_build_Check_4 [p0].toArray h K :=
 lkF Tryz.func34 (Eq.mpr (by kernel_rfl) H)

def sh_graph_look_k3 (P : Program) (p4 phase2 : Value) (h_11 : Heap) : Prop :=
 pField 2 p4 fun t32 =>
 pLoad h_11 t32 fun t33 =>
 pLoad h_11 phase2 fun t34 =>
 pField 0 p4 fun t35 =>
 pLoad h_11 t35 fun t36 =>
 pField 1 p4 fun t37 =>
 pLoad h_11 t37 fun t38 =>
 pBuild [(I 0), (I 0), (I 0), (I 0)] [(0, 1, t33), (1, 1, t34), (2, 1, t36), (3, 1, t38)] fun t39 =>
 pBox T_api_Fault t39 h_11 fun t40 h_12 =>
 pBuild [(.pointer none)] [(0, 1, t40)] fun t41 =>
 False

def sh_graph_look_B2 (P : Program) (h_6 : Heap) (phase2 : Value) (L : Loop) (t19 : Value) (h_7 : Heap) (R : Exit -> Heap -> Prop) : Prop :=
 pBox T_graph_place (.agg #[(I 0), (I 0), (I 0), (I 0), (I 0), (I 0)]) h_7 fun p4 h_8 =>
 pStore 6 p4 t19 h_8 fun u_1 h_9 =>
 beginR (h_6.size + 1) L h_9 fun h_10 =>
 pField 3 p4 fun t20 =>
 pLoad h_10 t20 fun t21 =>
 pField 4 p4 fun t22 =>
 pLoad h_10 t22 fun t23 =>
 pBin .lss t21 t23 fun t24 =>
 ifV t24
 (sh_graph_look_k3 P p4 phase2 h_10)
 (pField 3 p4 fun t26 =>
 pLoad h_10 t26 fun t27 =>
 pField 5 p4 fun t28 =>
 pLoad h_10 t28 fun t29 =>
 pBin .geq t27 t29 fun t30 =>
 ifV t30
 (sh_graph_look_k3 P p4 phase2 h_10)
 (R .normal h_10))

def sh_graph_look_L1 (P : Program) (t11 t10 : Value) (K : KT) (m : List Nat) (t12 : Value) (h_3 : Heap) (Z : List Nat -> KT) : Prop :=
 pBin .lss t12 t11 fun t13 =>
 ifV t13
 (pIdx 1 t10 t12 fun t15 =>
 pLoad h_3 t15 fun t16 =>
 pBox T_int (I 0) h_3 fun phase2 h_4 =>
 pStore 1 phase2 t12 h_4 fun u h_5 =>
 callV P t16 [].toArray h_5 fun t18 h_6 =>
 rangeH P t18 [19] (h_6.size + 1) (h_6.push (.deferred (some []))) (fun L x hh R => sh_graph_look_B2 P h_6 phase2 L x.1 hh R)
 (fun h_13 => pBin .add t12 (I 1) fun t43 =>
 Z (h_6.size :: m) t43 h_13)
 (fun h_14 => takeM (h_6.size :: m) h_14 fun h_15 =>
 K (.tuple #[]) h_15)
 [])
 (takeM m h_3 fun h_16 =>
 K (.tuple #[]) h_16)

def sh_graph_look (P : Program) (r0 : Value) (h : Heap) (K : KT) : Prop :=
 pBox T_api_Raw r0 h fun r1 h_1 =>
 pBuildSlice T_func_iter_Seq_graph_place (zerosL [.nilFunc] 5) [(0, 1, (.func (.func F_graph_look_1) #[] #[r1])), (1, 1, (.func (.func F_graph_look_2) #[] #[r1])), (2, 1, (.func (.func F_graph_look_3) #[] #[r1])), (3, 1, (.func (.func F_graph_look_4) #[] #[r1])), (4, 1, (.func (.func F_graph_look_5) #[] #[r1]))] 5 h_1 fun t10 h_2 =>
 pLen t10 fun t11 =>
 LoopH (σ := List Nat × Vals [12]) (fun x hh ZZ => sh_graph_look_L1 P t11 t10 K x.1 x.2.1 hh (fun mz a0 hz => ZZ (mz, (a0, ())) hz)) ([], ((I 0), ())) h_2

theorem lk_graph_look (r0 : Value) (H : sh_graph_look Tryz.prog r0 h K) : CallsH Tryz.prog F_graph_look [r0].toArray h K :=
 callsH_of (ann := (annG (Tryz.f37.body.getD .skip) 0 [(2, [12])]).1) (c := Tryz.f37.body.getD .skip) Tryz.func37 (by kernel_rfl) (by kernel_rfl) (by kernel_rfl) (of_decide_eq_true (by kernel_rfl))
  (Eq.mpr (by kernel_rfl) H)

def sh_net_New (P : Program) (raw0 : Value) (h : Heap) (K : KT) : Prop :=
 pBox T_api_Raw raw0 h fun raw1 h_1 =>
 pLoadN 4 h_1 raw1 fun t6 =>
 callS P F_graph_Check [t6] h_1 fun t7 h_2 =>
 pEq true .iface t7 .nilIface fun t9 =>
 ifV t9
 (callS P F_api_Told [t7] h_2 fun t11 h_3 =>
 pBox T_api_Fault (.agg #[(I 0), (I 0), (I 0), (I 0)]) h_3 fun f5 h_4 =>
 pStore 4 f5 t11 h_4 fun u h_5 =>
 pBuild [(.pointer none)] [(0, 1, f5)] fun t12 =>
 K (.tuple #[(.pointer none), (.iface T_net_trouble t12)]) h_5)
 (pLoadN 4 h_2 raw1 fun t14 =>
 callS P F_net_own [t14] h_2 fun t15 h_6 =>
 callS P F_net_of [t15] h_6 fun t16 h_7 =>
 K (.tuple #[t16, .nilIface]) h_7)

theorem lk_net_New (raw0 : Value) (H : sh_net_New Tryz.prog raw0 h K) : CallsH Tryz.prog F_net_New [raw0].toArray h K :=
 lkF Tryz.func38 (Eq.mpr (by kernel_rfl) H)

def sh_table_Of_k1 (P : Program) (K : KT) (h_1 : Heap) : Prop :=
 K (.pointer none) h_1

def sh_table_Of (P : Program) (n0 marks1 : Value) (h : Heap) (K : KT) : Prop :=
 pEq false .ptr n0 (.pointer none) fun t6 =>
 ifV t6
 (sh_table_Of_k1 P K h)
 (callS P F_net_Net_Nodes [n0] h fun t9 h_2 =>
 callS P F_table_may [t9, marks1] h_2 fun t11 h_3 =>
 pUn .not t11 fun t12 =>
 ifV t12
 (sh_table_Of_k1 P K h_3)
 (callS P F_net_Net_Nodes [n0] h_3 fun t15 h_4 =>
 callS P F_slices_Clone_sl_int_int [marks1] h_4 fun t17 h_5 =>
 callS P F_table_rows [n0, marks1, (.func (.func F_flood_To) #[] #[])] h_5 fun t20 h_6 =>
 callS P F_slices_Collect_sl_int64 [t20] h_6 fun t21 h_7 =>
 callS P F_table_rows [n0, marks1, (.func (.func F_flood_From) #[] #[])] h_7 fun t24 h_8 =>
 callS P F_slices_Collect_sl_int64 [t24] h_8 fun t25 h_9 =>
 pBuild [(I 0), (.slice none 0 0), (.slice none 0 0), (.slice none 0 0)] [(0, 1, t15), (1, 1, t17), (2, 1, t21), (3, 1, t25)] fun t26 =>
 pBox T_table_Table t26 h_9 fun t27 h_10 =>
 K t27 h_10))

theorem lk_table_Of (n0 marks1 : Value) (H : sh_table_Of Tryz.prog n0 marks1 h K) : CallsH Tryz.prog F_table_Of [n0, marks1].toArray h K :=
 lkF Tryz.func39 (Eq.mpr (by kernel_rfl) H)

def sh_draw_New (P : Program) (l0 : Value) (h : Heap) (K : KT) : Prop :=
 pLen l0 fun t5 =>
 pMakeSlice T_uint32 4 [(.int .u32 0)] t5 t5 h fun t6 h_1 =>
 pCopy 1 t6 l0 h_1 fun t9 h_2 =>
 pBuild [(.slice none 0 0)] [(0, 1, t6)] fun t11 =>
 pBox T_draw_Draws t11 h_2 fun t12 h_3 =>
 K t12 h_3

theorem lk_draw_New (l0 : Value) (H : sh_draw_New Tryz.prog l0 h K) : CallsH Tryz.prog F_draw_New [l0].toArray h K :=
 lkF Tryz.func40 (Eq.mpr (by kernel_rfl) H)

def sh_cell_New_k1 (P : Program) (K : KT) (h_1 : Heap) : Prop :=
 K (.pointer none) h_1

def sh_cell_New (P : Program) (of0 : Value) (h : Heap) (K : KT) : Prop :=
 pLen of0 fun t5 =>
 pBin .eql t5 (I 0) fun t6 =>
 ifV t6
 (sh_cell_New_k1 P K h)
 (callS P F_cell_Norm [of0] h fun t9 h_2 =>
 callS P F_slices_Equal_sl_int_int [t9, of0] h_2 fun t11 h_3 =>
 pUn .not t11 fun t12 =>
 ifV t12
 (sh_cell_New_k1 P K h_3)
 (callS P F_slices_Clone_sl_int_int [of0] h_3 fun t15 h_4 =>
 callS P F_slices_Max_sl_int_int [of0] h_4 fun t17 h_5 =>
 pBin .add t17 (I 1) fun t18 =>
 pBuild [(.slice none 0 0), (I 0)] [(0, 1, t15), (1, 1, t18)] fun t19 =>
 pBox T_cell_Cells t19 h_5 fun t20 h_6 =>
 pNil t20 fun t22 =>
 pField 1 t22 fun t23 =>
 pLoad h_6 t23 fun t24 =>
 pBin .gtr t24 (I 256) fun t25 =>
 ifV t25
 (K (.pointer none) h_6)
 (K t20 h_6)))

theorem lk_cell_New (of0 : Value) (H : sh_cell_New Tryz.prog of0 h K) : CallsH Tryz.prog F_cell_New [of0].toArray h K :=
 lkF Tryz.func41 (Eq.mpr (by kernel_rfl) H)

def sh_cell_Norm (P : Program) (of0 : Value) (h : Heap) (K : KT) : Prop :=
 callS P F_cell_namer [] h fun t4 h_1 =>
 callS P F_cell_each_int_int [of0, t4] h_1 fun t5 h_2 =>
 K t5 h_2

theorem lk_cell_Norm (of0 : Value) (H : sh_cell_Norm Tryz.prog of0 h K) : CallsH Tryz.prog F_cell_Norm [of0].toArray h K :=
 lkF Tryz.func42 (Eq.mpr (by kernel_rfl) H)

def sh_milestoneref07_Ints_L1 (P : Program) (a0 b1 : Value) (K : KT) (i5 : Value) (h_1 : Heap) (Z : KT) : Prop :=
 pLen a0 fun t13 =>
 pBin .lss i5 t13 fun t14 =>
 ifV t14
 (pIdx 1 a0 i5 fun t19 =>
 pLoad h_1 t19 fun t20 =>
 pIdx 1 b1 i5 fun t23 =>
 pLoad h_1 t23 fun t24 =>
 pBin .neq t20 t24 fun t25 =>
 ifV t25
 (K (.bool false) h_1)
 (pBin .add i5 (I 1) fun t16 =>
 Z t16 h_1))
 (K (.bool true) h_1)

def sh_milestoneref07_Ints (P : Program) (a0 b1 : Value) (h : Heap) (K : KT) : Prop :=
 pLen a0 fun t7 =>
 pLen b1 fun t9 =>
 pBin .neq t7 t9 fun t10 =>
 ifV t10
 (K (.bool false) h)
 (LoopH (σ := Vals [5]) (fun x hh ZZ => sh_milestoneref07_Ints_L1 P a0 b1 K x.1 hh (fun a0 hz => ZZ (a0, ()) hz)) ((I 0), ()) h)

theorem lk_milestoneref07_Ints (a0 b1 : Value) (H : sh_milestoneref07_Ints Tryz.prog a0 b1 h K) : CallsH Tryz.prog F_milestoneref07_Ints [a0, b1].toArray h K :=
 callsH_of (ann := (annG (Tryz.f43.body.getD .skip) 0 [(6, [5])]).1) (c := Tryz.f43.body.getD .skip) Tryz.func43 (by kernel_rfl) (by kernel_rfl) (by kernel_rfl) (of_decide_eq_true (by kernel_rfl))
  (Eq.mpr (by kernel_rfl) H)

def sh_cell_Cells_Map (P : Program) (c0 : Value) (h : Heap) (K : KT) : Prop :=
 pEq false .ptr c0 (.pointer none) fun t4 =>
 ifV t4
 (K (.slice none 0 0) h)
 (pNil c0 fun t6 =>
 pField 0 t6 fun t7 =>
 pLoad h t7 fun t8 =>
 callS P F_slices_Clone_sl_int_int [t8] h fun t9 h_1 =>
 K t9 h_1)

theorem lk_cell_Cells_Map (c0 : Value) (H : sh_cell_Cells_Map Tryz.prog c0 h K) : CallsH Tryz.prog F_cell_Cells_Map [c0].toArray h K :=
 lkF Tryz.func44 (Eq.mpr (by kernel_rfl) H)

def sh_slices_Clone_sl_int_int (P : Program) (s0 : Value) (h : Heap) (K : KT) : Prop :=
 pEq false .slice s0 (.slice none 0 0) fun t4 =>
 ifV t4
 (K (.slice none 0 0) h)
 (pBuildSlice T_int (zerosL [(I 0)] 0) [] 0 h fun t5 h_1 =>
 pAppend T_int 1 8 [(I 0)] t5 s0 h_1 fun t7 h_2 =>
 K t7 h_2)

theorem lk_slices_Clone_sl_int_int (s0 : Value) (H : sh_slices_Clone_sl_int_int Tryz.prog s0 h K) : CallsH Tryz.prog F_slices_Clone_sl_int_int [s0].toArray h K :=
 lkF Tryz.func45 (Eq.mpr (by kernel_rfl) H)

end Go.Proofs.YtmdldoolnhpaeaaGreatDoor

set_option maxRecDepth 100000
namespace Go.Proofs.YtmdldoolnhpaeaaGreatDoor
open Go Go.Mh
variable {h : Heap} {K : KT}
set_option maxHeartbeats 0

def sh_flag_fits (P : Program) (n0 c1 : Value) (h : Heap) (K : KT) : Prop :=
 callS P F_net_Net_Nodes [n0] h fun t6 h_1 =>
 pBin .gtr t6 (I 0) fun t7 =>
 ifV t7
 (callS P F_cell_Cells_Map [c1] h_1 fun t10 h_2 =>
 pLen t10 fun t11 =>
 callS P F_net_Net_Nodes [n0] h_2 fun t13 h_3 =>
 pBin .eql t11 t13 fun t14 =>
 K t14 h_3)
 (K (.bool false) h_1)

theorem lk_flag_fits (n0 c1 : Value) (H : sh_flag_fits Tryz.prog n0 c1 h K) : CallsH Tryz.prog F_flag_fits [n0, c1].toArray h K :=
 lkF Tryz.func49 (Eq.mpr (by kernel_rfl) H)

def sh_bits_Rows_Wide (P : Program) (b0 : Value) (h : Heap) (K : KT) : Prop :=
 pEq false .ptr b0 (.pointer none) fun t4 =>
 ifV t4
 (K (I 0) h)
 (pNil b0 fun t6 =>
 pField 1 t6 fun t7 =>
 pLoad h t7 fun t8 =>
 K t8 h)

theorem lk_bits_Rows_Wide (b0 : Value) (H : sh_bits_Rows_Wide Tryz.prog b0 h K) : CallsH Tryz.prog F_bits_Rows_Wide [b0].toArray h K :=
 lkF Tryz.func50 (Eq.mpr (by kernel_rfl) H)

def sh_net_Net_Arcs (P : Program) (n0 : Value) (h : Heap) (K : KT) : Prop :=
 pEq false .ptr n0 (.pointer none) fun t4 =>
 ifV t4
 (K (I 0) h)
 (pNil n0 fun t6 =>
 pField 0 t6 fun t7 =>
 pField 3 t7 fun t8 =>
 pLoad h t8 fun t9 =>
 pLen t9 fun t10 =>
 K t10 h)

theorem lk_net_Net_Arcs (n0 : Value) (H : sh_net_Net_Arcs Tryz.prog n0 h K) : CallsH Tryz.prog F_net_Net_Arcs [n0].toArray h K :=
 lkF Tryz.func51 (Eq.mpr (by kernel_rfl) H)

def sh_bits_New_k1 (P : Program) (K : KT) (h_1 : Heap) : Prop :=
 K (.pointer none) h_1

def sh_bits_New_k2 (P : Program) (rows0 t19 wide1 : Value) (K : KT) (h_2 : Heap) : Prop :=
 pBin .mul rows0 t19 fun t33 =>
 pMakeSlice T_uint8 1 [(.int .u8 0)] t33 t33 h_2 fun t34 h_3 =>
 pBuild [(I 0), (I 0), (I 0), (.slice none 0 0)] [(0, 1, rows0), (1, 1, wide1), (2, 1, t19), (3, 1, t34)] fun t35 =>
 pBox T_bits_Rows t35 h_3 fun t36 h_4 =>
 K t36 h_4

def sh_bits_New (P : Program) (rows0 wide1 : Value) (h : Heap) (K : KT) : Prop :=
 pBin .lss rows0 (I 0) fun t7 =>
 ifV t7
 (sh_bits_New_k1 P K h)
 (pBin .lss wide1 (I 0) fun t10 =>
 ifV t10
 (sh_bits_New_k1 P K h)
 (pBin .gtr wide1 (I 67108864) fun t14 =>
 ifV t14
 (sh_bits_New_k1 P K h)
 (pBin .add wide1 (I 8) fun t17 =>
 pBin .sub t17 (I 1) fun t18 =>
 pBin .quo t18 (I 8) fun t19 =>
 pBin .gtr t19 (I 0) fun t21 =>
 ifV t21
 (pBin .quo (I 268435456) t19 fun t25 =>
 pBin .gtr rows0 t25 fun t26 =>
 ifV t26
 (K (.pointer none) h)
 (sh_bits_New_k2 P rows0 t19 wide1 K h))
 (sh_bits_New_k2 P rows0 t19 wide1 K h))))

theorem lk_bits_New (rows0 wide1 : Value) (H : sh_bits_New Tryz.prog rows0 wide1 h K) : CallsH Tryz.prog F_bits_New [rows0, wide1].toArray h K :=
 lkF Tryz.func52 (Eq.mpr (by kernel_rfl) H)

def sh_flag_worth (P : Program) (n0 c1 k2 : Value) (h : Heap) (K : KT) : Prop :=
 pBox T_p_net_Net n0 h fun n3 h_1 =>
 pBox T_p_cell_Cells c1 h_1 fun c4 h_2 =>
 pBox T_int k2 h_2 fun k5 h_3 =>
 K (.func (.func F_flag_worth_1) #[] #[n3, c4, k5]) h_3

theorem lk_flag_worth (n0 c1 k2 : Value) (H : sh_flag_worth Tryz.prog n0 c1 k2 h K) : CallsH Tryz.prog F_flag_worth [n0, c1, k2].toArray h K :=
 lkF Tryz.func53 (Eq.mpr (by kernel_rfl) H)

def sh_bits_Rows_Set (P : Program) (b0 row1 i2 on3 : Value) (h : Heap) (K : KT) : Prop :=
 pBox T_bool on3 h fun on7 h_1 =>
 callS P F_bits_Rows_place [b0, row1, i2, (.func (.func F_bits_Rows_Set_1) #[] #[on7])] h_1 fun t13 h_2 =>
 K t13 h_2

theorem lk_bits_Rows_Set (b0 row1 i2 on3 : Value) (H : sh_bits_Rows_Set Tryz.prog b0 row1 i2 on3 h K) : CallsH Tryz.prog F_bits_Rows_Set [b0, row1, i2, on3].toArray h K :=
 lkF Tryz.func54 (Eq.mpr (by kernel_rfl) H)

def sh_net_Net_Nodes (P : Program) (n0 : Value) (h : Heap) (K : KT) : Prop :=
 pEq false .ptr n0 (.pointer none) fun t4 =>
 ifV t4
 (K (I 0) h)
 (pNil n0 fun t6 =>
 pField 0 t6 fun t7 =>
 pField 0 t7 fun t8 =>
 pLoad h t8 fun t9 =>
 K t9 h)

theorem lk_net_Net_Nodes (n0 : Value) (H : sh_net_Net_Nodes Tryz.prog n0 h K) : CallsH Tryz.prog F_net_Net_Nodes [n0].toArray h K :=
 lkF Tryz.func56 (Eq.mpr (by kernel_rfl) H)

def sh_milestoneref07_Draft_Next_k1 (P : Program) (K : KT) (h_1 : Heap) : Prop :=
 K (I 0) h_1

def sh_milestoneref07_Draft_Next (P : Program) (d0 n1 : Value) (h : Heap) (K : KT) : Prop :=
 pNil d0 fun t6 =>
 pField 0 t6 fun t7 =>
 pLoad h t7 fun t8 =>
 pLen t8 fun t9 =>
 pBin .eql t9 (I 0) fun t10 =>
 ifV t10
 (sh_milestoneref07_Draft_Next_k1 P K h)
 (pBin .lss n1 (I 1) fun t13 =>
 ifV t13
 (sh_milestoneref07_Draft_Next_k1 P K h)
 (pNil d0 fun t16 =>
 pField 1 t16 fun t17 =>
 pLoad h t17 fun t18 =>
 pBin .add t18 (I 1) fun t19 =>
 pNil d0 fun t20 =>
 pField 1 t20 fun t21 =>
 pStore 1 t21 t19 h fun u h_2 =>
 pNil d0 fun t23 =>
 pField 0 t23 fun t24 =>
 pLoad h_2 t24 fun t25 =>
 pNil d0 fun t27 =>
 pField 1 t27 fun t28 =>
 pLoad h_2 t28 fun t29 =>
 pBin .sub t29 (I 1) fun t30 =>
 pNil d0 fun t32 =>
 pField 0 t32 fun t33 =>
 pLoad h_2 t33 fun t34 =>
 pLen t34 fun t35 =>
 pBin .rem t30 t35 fun t36 =>
 pIdx 1 t25 t36 fun t37 =>
 pLoad h_2 t37 fun t38 =>
 pNil d0 fun t40 =>
 pField 1 t40 fun t41 =>
 pLoad h_2 t41 fun t42 =>
 pBin .sub t42 (I 1) fun t43 =>
 pNil d0 fun t45 =>
 pField 0 t45 fun t46 =>
 pLoad h_2 t46 fun t47 =>
 pLen t47 fun t48 =>
 pBin .quo t43 t48 fun t49 =>
 pConv .u8 t49 fun t50 =>
 pBin .add t38 t50 fun t51 =>
 pConv .i64 t51 fun t52 =>
 pBin .rem t52 n1 fun t54 =>
 K t54 h_2))

theorem lk_milestoneref07_Draft_Next (d0 n1 : Value) (H : sh_milestoneref07_Draft_Next Tryz.prog d0 n1 h K) : CallsH Tryz.prog F_milestoneref07_Draft_Next [d0, n1].toArray h K :=
 lkF Tryz.func62 (Eq.mpr (by kernel_rfl) H)

def sh_milestoneref07_Draft_Weight (P : Program) (d0 : Value) (h : Heap) (K : KT) : Prop :=
 callS P F_milestoneref07_Draft_Next [d0, (I 12)] h fun t5 h_1 =>
 pBin .lss t5 (I 3) fun t8 =>
 ifV t8
 (K (I 0) h_1)
 (pBin .lss t5 (I 10) fun t11 =>
 ifV t11
 (callS P F_milestoneref07_Draft_Next [d0, (I 9)] h_1 fun t13 h_2 =>
 pBin .add (I 1) t13 fun t14 =>
 K t14 h_2)
 (pBin .lss t5 (I 11) fun t17 =>
 ifV t17
 (callS P F_milestoneref07_Draft_Next [d0, (I 20)] h_1 fun t19 h_3 =>
 pBin .mul (I 100) t19 fun t20 =>
 K t20 h_3)
 (callS P F_milestoneref07_Draft_Next [d0, (I 2)] h_1 fun t22 h_4 =>
 pBin .sub (I 2147483647) t22 fun t23 =>
 K t23 h_4)))

theorem lk_milestoneref07_Draft_Weight (d0 : Value) (H : sh_milestoneref07_Draft_Weight Tryz.prog d0 h K) : CallsH Tryz.prog F_milestoneref07_Draft_Weight [d0].toArray h K :=
 lkF Tryz.func63 (Eq.mpr (by kernel_rfl) H)

def sh_far_Marks_k1 (P : Program) (l6 : Value) (K : KT) (h_3 : Heap) : Prop :=
 pStore 1 l6 (.slice none 0 0) h_3 fun u h_4 =>
 pLoad h_4 l6 fun res =>
 K res h_4

def sh_far_Marks_B2 (P : Program) (h_7 : Heap) (l6 k4 : Value) (L : Loop) (t20 : Value) (h_8 : Heap) (R : Exit -> Heap -> Prop) : Prop :=
 beginR (h_7.size + 1) L h_8 fun h_9 =>
 pLoad h_9 l6 fun t21 =>
 pBuildSlice T_int (zerosL [(I 0)] 1) [(0, 1, t20)] 1 h_9 fun t23 h_10 =>
 pAppend T_int 1 8 [(I 0)] t21 t23 h_10 fun t24 h_11 =>
 pStore 1 l6 t24 h_11 fun u_1 h_12 =>
 pLoad h_12 l6 fun t25 =>
 pLen t25 fun t26 =>
 pLoad h_12 k4 fun t27 =>
 pBin .eql t26 t27 fun t28 =>
 ifV t28
 (R (.exit 0) h_12)
 (R .normal h_12)

def sh_far_Marks_k3 (P : Program) (l6 : Value) (h_7 : Heap) (K : KT) (h_14 : Heap) : Prop :=
 pLoad h_14 l6 fun t29 =>
 pStore 1 l6 t29 h_14 fun u_2 h_15 =>
 takeM (h_7.size :: []) h_15 fun h_16 =>
 pLoad h_16 l6 fun res_1 =>
 K res_1 h_16

def sh_far_Marks (P : Program) (n0 k1 d2 : Value) (h : Heap) (K : KT) : Prop :=
 pBox T_int k1 h fun k4 h_1 =>
 pBox T_sl_int (.slice none 0 0) h_1 fun l6 h_2 =>
 pEq false .ptr n0 (.pointer none) fun t9 =>
 ifV t9
 (sh_far_Marks_k1 P l6 K h_2)
 (pLoad h_2 k4 fun t11 =>
 pBin .lss t11 (I 1) fun t12 =>
 ifV t12
 (sh_far_Marks_k1 P l6 K h_2)
 (callS P F_net_Net_Nodes [n0] h_2 fun t17 h_5 =>
 callS P F_draw_Draws_Next [d2, t17] h_5 fun t18 h_6 =>
 callS P F_far_marks [n0, t18] h_6 fun t19 h_7 =>
 rangeH P t19 [20] (h_7.size + 1) (h_7.push (.deferred (some []))) (fun L x hh R => sh_far_Marks_B2 P h_7 l6 k4 L x.1 hh R)
 (fun h_17 => sh_far_Marks_k3 P l6 h_7 K h_17)
 (fun h_18 => takeM (h_7.size :: []) h_18 fun h_19 =>
 pLoad h_19 l6 fun res_2 =>
 K res_2 h_19)
 [(0, (fun h_13 => sh_far_Marks_k3 P l6 h_7 K h_13))]))

theorem lk_far_Marks (n0 k1 d2 : Value) (H : sh_far_Marks Tryz.prog n0 k1 d2 h K) : CallsH Tryz.prog F_far_Marks [n0, k1, d2].toArray h K :=
 lkF Tryz.func64 (Eq.mpr (by kernel_rfl) H)

def sh_avoid_Marks_k2 (P : Program) (out6 n0 l7 : Value) (Z : Value -> KT) (v8 : Value) (h_6 : Heap) : Prop :=
 pBuildSlice T_int (zerosL [(I 0)] 1) [(0, 1, v8)] 1 h_6 fun t31 h_7 =>
 pAppend T_int 1 8 [(I 0)] out6 t31 h_7 fun t32 h_8 =>
 pBuildSlice T_int (zerosL [(I 0)] 1) [(0, 1, v8)] 1 h_8 fun t36 h_9 =>
 callS P F_avoid_marks [n0, t36] h_9 fun t37 h_10 =>
 pAppend T_avoid_mark 7 152 [(I 0), (.slice none 0 0), (.slice none 0 0), (.slice none 0 0), (.slice none 0 0), (.slice none 0 0), (.slice none 0 0)] l7 t37 h_10 fun t38 h_11 =>
 Z t32 t38 h_11

def sh_avoid_Marks_L1 (P : Program) (n0 k1 d2 : Value) (K : KT) (out6 l7 : Value) (h_1 : Heap) (Z : Value -> KT) : Prop :=
 pLen out6 fun t12 =>
 callS P F_net_Net_Nodes [n0] h_1 fun t15 h_2 =>
 pMin k1 t15 fun t16 =>
 pBin .lss t12 t16 fun t17 =>
 ifV t17
 (callS P F_net_Net_Nodes [n0] h_2 fun t20 h_3 =>
 callS P F_draw_Draws_Next [d2, t20] h_3 fun t21 h_4 =>
 pLen out6 fun t23 =>
 pBin .gtr t23 (I 0) fun t24 =>
 ifV t24
 (callS P F_avoid_next [n0, l7, t21] h_4 fun t28 h_5 =>
 sh_avoid_Marks_k2 P out6 n0 l7 Z t28 h_5)
 (sh_avoid_Marks_k2 P out6 n0 l7 Z t21 h_4))
 (K out6 h_2)

def sh_avoid_Marks (P : Program) (n0 k1 d2 : Value) (h : Heap) (K : KT) : Prop :=
 pEq false .ptr n0 (.pointer none) fun t10 =>
 ifV t10
 (K (.slice none 0 0) h)
 (LoopH (σ := Vals [6, 7]) (fun x hh ZZ => sh_avoid_Marks_L1 P n0 k1 d2 K x.1 x.2.1 hh (fun a0 a1 hz => ZZ (a0, (a1, ())) hz)) ((.slice none 0 0), ((.slice none 0 0), ())) h)

theorem lk_avoid_Marks (n0 k1 d2 : Value) (H : sh_avoid_Marks Tryz.prog n0 k1 d2 h K) : CallsH Tryz.prog F_avoid_Marks [n0, k1, d2].toArray h K :=
 callsH_of (ann := (annG (Tryz.f65.body.getD .skip) 0 [(6, [6, 7])]).1) (c := Tryz.f65.body.getD .skip) Tryz.func65 (by kernel_rfl) (by kernel_rfl) (by kernel_rfl) (of_decide_eq_true (by kernel_rfl))
  (Eq.mpr (by kernel_rfl) H)

def sh_grid_Map_B1 (P : Program) (h_8 : Heap) (across7 down8 : Value) (L : Loop) (t24 t25 : Value) (h_9 : Heap) (R : Exit -> Heap -> Prop) : Prop :=
 beginR (h_8.size + 1) L h_9 fun h_10 =>
 pLoadN 3 h_10 across7 fun t26 =>
 pLoadN 3 h_10 down8 fun t29 =>
 callS P F_grid_with_int64 [t26, t24] h_10 fun t28 h_11 =>
 (pLoadN 3 h_11 down8 fun t29_1 =>
 t29_1 = t29) /\
 (callS P F_grid_with_int64 [t29, t25] h_11 fun t31 h_12 =>
 pStore 3 across7 t28 h_12 fun u_2 h_13 =>
 pStore 3 down8 t31 h_13 fun u_3 h_14 =>
 R .normal h_14)

def sh_grid_Map_B3 (P : Program) (h_75 : Heap) (l4 row12_9 columns6 column11_9 : Value) (L_1 : Loop) (t40 t41 : Value) (h_76 : Heap) (R_1 : Exit -> Heap -> Prop) : Prop :=
 beginR (h_75.size + 1) L_1 h_76 fun h_77 =>
 pLoad h_77 l4 fun t42 =>
 pLoad h_77 row12_9 fun t43 =>
 pLoad h_77 columns6 fun t46 =>
 pLoad h_77 column11_9 fun t48 =>
 callV P t43 [t41].toArray h_77 fun t45 h_78 =>
 (pLoad h_78 l4 fun t42_1 =>
 t42_1 = t42) /\
 (pLoad h_78 columns6 fun t46_1 =>
 t46_1 = t46) /\
 (pLoad h_78 column11_9 fun t48_1 =>
 t48_1 = t48) /\
 (pBin .mul t45 t46 fun t47 =>
 callV P t48 [t40].toArray h_78 fun t50 h_79 =>
 (pLoad h_79 l4 fun t42_2 =>
 t42_2 = t42) /\
 (pLoad h_79 columns6 fun t46_2 =>
 t46_2 = t46) /\
 (pBin .add t47 t50 fun t51 =>
 pBuildSlice T_int (zerosL [(I 0)] 1) [(0, 1, t51)] 1 h_79 fun t52 h_80 =>
 pAppend T_int 1 8 [(I 0)] t42 t52 h_80 fun t53 h_81 =>
 pStore 1 l4 t53 h_81 fun u_28 h_82 =>
 R_1 .normal h_82))

def sh_grid_Map_C2 (P : Program) (n0 l4 columns6 : Value) (h_8 : Heap) (K : KT) (column11_9 row12_9 : Value) (h_74 : Heap) : Prop :=
 callS P F_grid_places [n0] h_74 fun t39 h_75 =>
 rangeH P t39 [40, 41] (h_75.size + 1) (h_75.push (.deferred (some []))) (fun L x hh R => sh_grid_Map_B3 P h_75 l4 row12_9 columns6 column11_9 L x.1 x.2.1 hh R)
 (fun h_83 => pLoad h_83 l4 fun t54 =>
 pStore 1 l4 t54 h_83 fun u_29 h_84 =>
 takeM (h_75.size :: (h_8.size :: [])) h_84 fun h_85 =>
 pLoad h_85 l4 fun res_1 =>
 K res_1 h_85)
 (fun h_86 => takeM (h_75.size :: (h_8.size :: [])) h_86 fun h_87 =>
 pLoad h_87 l4 fun res_2 =>
 K res_2 h_87)
 []

def sh_grid_Map (P : Program) (n0 cells1 : Value) (h : Heap) (K : KT) : Prop :=
 pBox T_sl_int (.slice none 0 0) h fun l4 h_1 =>
 callS P F_grid_Shape [cells1] h_1 fun t17 h_2 =>
 pExt t17 0 fun t18 =>
 pExt t17 1 fun t19 =>
 pBox T_int (I 0) h_2 fun columns6 h_3 =>
 pStore 1 columns6 t19 h_3 fun u h_4 =>
 pBin .eql t18 (I 0) fun t21 =>
 ifV t21
 (pStore 1 l4 (.slice none 0 0) h_4 fun u_1 h_5 =>
 pLoad h_5 l4 fun res =>
 K res h_5)
 (pBox T_grid_ends_int64 (.agg #[(I 0), (I 0), (.bool false)]) h_4 fun across7 h_6 =>
 pBox T_grid_ends_int64 (.agg #[(I 0), (I 0), (.bool false)]) h_6 fun down8 h_7 =>
 callS P F_grid_places [n0] h_7 fun t23 h_8 =>
 rangeH P t23 [24, 25] (h_8.size + 1) (h_8.push (.deferred (some []))) (fun L x hh R => sh_grid_Map_B1 P h_8 across7 down8 L x.1 x.2.1 hh R)
 (fun h_15 => cutP (σ := Vals [11, 12]) (fun J =>
 pLoadN 3 h_15 across7 fun t32 =>
 pLoad h_15 columns6 fun t33 =>
 pLoadN 3 h_15 down8 fun t35 =>
 (callS P F_grid_parts [t32, t33] h_15 fun t34 h_16 =>
 (pLoadN 3 h_16 down8 fun t35_1 =>
 t35_1 = t35) /\
 ((callS P F_grid_parts [t35, t18] h_16 fun t37 h_17 =>
 (pBox T_func_int64_int .nilFunc h_17 fun column11 h_18 =>
 pBox T_func_int64_int .nilFunc h_18 fun row12 h_19 =>
 pStore 1 column11 t34 h_19 fun u_4 h_20 =>
 pStore 1 row12 t37 h_20 fun u_5 h_21 =>
 J (column11, (row12, ())) h_21) /\
 (pBox T_func_int64_int .nilFunc h_17 fun row12_1 h_22 =>
 pBox T_func_int64_int .nilFunc h_22 fun column11_1 h_23 =>
 pStore 1 column11_1 t34 h_23 fun u_6 h_24 =>
 pStore 1 row12_1 t37 h_24 fun u_7 h_25 =>
 J (column11_1, (row12_1, ())) h_25)) /\
 (pBox T_func_int64_int .nilFunc h_16 fun column11_2 h_26 =>
 (callS P F_grid_parts [t35, t18] h_26 fun t37_1 h_27 =>
 pBox T_func_int64_int .nilFunc h_27 fun row12_2 h_28 =>
 pStore 1 column11_2 t34 h_28 fun u_8 h_29 =>
 pStore 1 row12_2 t37_1 h_29 fun u_9 h_30 =>
 J (column11_2, (row12_2, ())) h_30) /\
 (pBox T_func_int64_int .nilFunc h_26 fun row12_3 h_31 =>
 callS P F_grid_parts [t35, t18] h_31 fun t37_2 h_32 =>
 pStore 1 column11_2 t34 h_32 fun u_10 h_33 =>
 pStore 1 row12_3 t37_2 h_33 fun u_11 h_34 =>
 J (column11_2, (row12_3, ())) h_34)) /\
 (pBox T_func_int64_int .nilFunc h_16 fun row12_4 h_35 =>
 (callS P F_grid_parts [t35, t18] h_35 fun t37_3 h_36 =>
 pBox T_func_int64_int .nilFunc h_36 fun column11_3 h_37 =>
 pStore 1 column11_3 t34 h_37 fun u_12 h_38 =>
 pStore 1 row12_4 t37_3 h_38 fun u_13 h_39 =>
 J (column11_3, (row12_4, ())) h_39) /\
 (pBox T_func_int64_int .nilFunc h_35 fun column11_4 h_40 =>
 callS P F_grid_parts [t35, t18] h_40 fun t37_4 h_41 =>
 pStore 1 column11_4 t34 h_41 fun u_14 h_42 =>
 pStore 1 row12_4 t37_4 h_42 fun u_15 h_43 =>
 J (column11_4, (row12_4, ())) h_43)))) /\
 (pBox T_func_int64_int .nilFunc h_15 fun column11_5 h_44 =>
 (callS P F_grid_parts [t32, t33] h_44 fun t34_1 h_45 =>
 (pLoadN 3 h_45 down8 fun t35_2 =>
 t35_2 = t35) /\
 ((callS P F_grid_parts [t35, t18] h_45 fun t37_5 h_46 =>
 pBox T_func_int64_int .nilFunc h_46 fun row12_5 h_47 =>
 pStore 1 column11_5 t34_1 h_47 fun u_16 h_48 =>
 pStore 1 row12_5 t37_5 h_48 fun u_17 h_49 =>
 J (column11_5, (row12_5, ())) h_49) /\
 (pBox T_func_int64_int .nilFunc h_45 fun row12_6 h_50 =>
 callS P F_grid_parts [t35, t18] h_50 fun t37_6 h_51 =>
 pStore 1 column11_5 t34_1 h_51 fun u_18 h_52 =>
 pStore 1 row12_6 t37_6 h_52 fun u_19 h_53 =>
 J (column11_5, (row12_6, ())) h_53))) /\
 (pBox T_func_int64_int .nilFunc h_44 fun row12_7 h_54 =>
 callS P F_grid_parts [t32, t33] h_54 fun t34_2 h_55 =>
 (pLoadN 3 h_55 down8 fun t35_3 =>
 t35_3 = t35) /\
 (callS P F_grid_parts [t35, t18] h_55 fun t37_7 h_56 =>
 pStore 1 column11_5 t34_2 h_56 fun u_20 h_57 =>
 pStore 1 row12_7 t37_7 h_57 fun u_21 h_58 =>
 J (column11_5, (row12_7, ())) h_58))) /\
 (pBox T_func_int64_int .nilFunc h_15 fun row12_8 h_59 =>
 (callS P F_grid_parts [t32, t33] h_59 fun t34_3 h_60 =>
 (pLoadN 3 h_60 down8 fun t35_4 =>
 t35_4 = t35) /\
 ((callS P F_grid_parts [t35, t18] h_60 fun t37_8 h_61 =>
 pBox T_func_int64_int .nilFunc h_61 fun column11_6 h_62 =>
 pStore 1 column11_6 t34_3 h_62 fun u_22 h_63 =>
 pStore 1 row12_8 t37_8 h_63 fun u_23 h_64 =>
 J (column11_6, (row12_8, ())) h_64) /\
 (pBox T_func_int64_int .nilFunc h_60 fun column11_7 h_65 =>
 callS P F_grid_parts [t35, t18] h_65 fun t37_9 h_66 =>
 pStore 1 column11_7 t34_3 h_66 fun u_24 h_67 =>
 pStore 1 row12_8 t37_9 h_67 fun u_25 h_68 =>
 J (column11_7, (row12_8, ())) h_68))) /\
 (pBox T_func_int64_int .nilFunc h_59 fun column11_8 h_69 =>
 callS P F_grid_parts [t32, t33] h_69 fun t34_4 h_70 =>
 (pLoadN 3 h_70 down8 fun t35_5 =>
 t35_5 = t35) /\
 (callS P F_grid_parts [t35, t18] h_70 fun t37_10 h_71 =>
 pStore 1 column11_8 t34_4 h_71 fun u_26 h_72 =>
 pStore 1 row12_8 t37_10 h_72 fun u_27 h_73 =>
 J (column11_8, (row12_8, ())) h_73))))
 (fun x hh => sh_grid_Map_C2 P n0 l4 columns6 h_8 K x.1 x.2.1 hh))
 (fun h_88 => takeM (h_8.size :: []) h_88 fun h_89 =>
 pLoad h_89 l4 fun res_3 =>
 K res_3 h_89)
 [])

theorem lk_grid_Map (n0 cells1 : Value) (H : sh_grid_Map Tryz.prog n0 cells1 h K) : CallsH Tryz.prog F_grid_Map [n0, cells1].toArray h K :=
 callsH_of (ann := (annG (Tryz.f67.body.getD .skip) 0 [(9, [11, 12])]).1) (c := Tryz.f67.body.getD .skip) Tryz.func67 (by kernel_rfl) (by kernel_rfl) (by kernel_rfl) (of_decide_eq_true (by kernel_rfl))
  (Eq.mpr (by kernel_rfl) H)

end Go.Proofs.YtmdldoolnhpaeaaGreatDoor

set_option maxRecDepth 100000
namespace Go.Proofs.YtmdldoolnhpaeaaGreatDoor
open Go Go.Mh
variable {h : Heap} {K : KT}
set_option maxHeartbeats 0

def sh_split_Map_k1 (P : Program) (K : KT) (h_1 : Heap) : Prop :=
 K (.slice none 0 0) h_1

def sh_split_Map_L2 (P : Program) (t28 t26 t23 cells1 : Value) (K : KT) (t29 : Value) (h_7 : Heap) (Z : KT) : Prop :=
 pBin .lss t29 t28 fun t30 =>
 ifV t30
 (pIdx 1 t26 t29 fun t35 =>
 pStore 1 t35 t29 h_7 fun u h_8 =>
 pBin .add t29 (I 1) fun t36 =>
 Z t36 h_8)
 (callS P F_split_parter_part [t23, t26, cells1] h_7 fun t40 h_9 =>
 pNil t23 fun t42 =>
 pField 1 t42 fun t43 =>
 pLoad h_9 t43 fun t44 =>
 K t44 h_9)

def sh_split_Map (P : Program) (n0 cells1 : Value) (h : Heap) (K : KT) : Prop :=
 pEq false .ptr n0 (.pointer none) fun t9 =>
 ifV t9
 (sh_split_Map_k1 P K h)
 (pBin .lss cells1 (I 1) fun t12 =>
 ifV t12
 (sh_split_Map_k1 P K h)
 (pBin .gtr cells1 (I 256) fun t16 =>
 ifV t16
 (sh_split_Map_k1 P K h)
 (callS P F_net_Net_Nodes [n0] h fun t20 h_2 =>
 pMakeSlice T_int 8 [(I 0)] t20 t20 h_2 fun t21 h_3 =>
 pBuild [(.pointer none), (.slice none 0 0), (I 0)] [(0, 1, n0), (1, 1, t21)] fun t22 =>
 pBox T_split_parter t22 h_3 fun t23 h_4 =>
 callS P F_net_Net_Nodes [n0] h_4 fun t25 h_5 =>
 pMakeSlice T_int 8 [(I 0)] t25 t25 h_5 fun t26 h_6 =>
 pLen t26 fun t28 =>
 LoopH (σ := Vals [29]) (fun x hh ZZ => sh_split_Map_L2 P t28 t26 t23 cells1 K x.1 hh (fun a0 hz => ZZ (a0, ()) hz)) ((I 0), ()) h_6)))

theorem lk_split_Map (n0 cells1 : Value) (H : sh_split_Map Tryz.prog n0 cells1 h K) : CallsH Tryz.prog F_split_Map [n0, cells1].toArray h K :=
 callsH_of (ann := (annG (Tryz.f68.body.getD .skip) 0 [(8, [29])]).1) (c := Tryz.f68.body.getD .skip) Tryz.func68 (by kernel_rfl) (by kernel_rfl) (by kernel_rfl) (of_decide_eq_true (by kernel_rfl))
  (Eq.mpr (by kernel_rfl) H)

def sh_graph_look_1 (P : Program) (t0 : Value) (h : Heap) (K : KT) : Prop :=
 pField 0 t0 fun t2 =>
 pLoad h t2 fun t3 =>
 callS P F_graph_one [(I 5), t3, (I 1), (I 16777217)] h fun t4 h_1 =>
 K t4 h_1

theorem lk_graph_look_1 (t0 : Value) (H : sh_graph_look_1 Tryz.prog t0 h K) : CallsH Tryz.prog F_graph_look_1 [t0].toArray h K :=
 lkF Tryz.func73 (Eq.mpr (by kernel_rfl) H)

def sh_graph_one (P : Program) (code0 n1 least2 end3 : Value) (h : Heap) (K : KT) : Prop :=
 pBuild [(I 0), (I 0), (I 0), (I 0), (I 0), (I 0)] [(0, 1, (I 0)), (1, 1, (I 0)), (2, 1, code0), (3, 1, n1), (4, 1, least2), (5, 1, end3)] fun t13 =>
 pBuildSlice T_graph_place (zerosL [(I 0), (I 0), (I 0), (I 0), (I 0), (I 0)] 1) [(0, 6, t13)] 1 h fun t14 h_1 =>
 callS P F_slices_Values_sl_graph_place_graph_place [t14] h_1 fun t15 h_2 =>
 K t15 h_2

theorem lk_graph_one (code0 n1 least2 end3 : Value) (H : sh_graph_one Tryz.prog code0 n1 least2 end3 h K) : CallsH Tryz.prog F_graph_one [code0, n1, least2, end3].toArray h K :=
 lkF Tryz.func74 (Eq.mpr (by kernel_rfl) H)

def sh_graph_look_2 (P : Program) (t0 : Value) (h : Heap) (K : KT) : Prop :=
 pLoadN 4 h t0 fun t2 =>
 callS P F_graph_shapes [t2] h fun t3 h_1 =>
 K t3 h_1

theorem lk_graph_look_2 (t0 : Value) (H : sh_graph_look_2 Tryz.prog t0 h K) : CallsH Tryz.prog F_graph_look_2 [t0].toArray h K :=
 lkF Tryz.func75 (Eq.mpr (by kernel_rfl) H)

def sh_graph_shapes (P : Program) (r0 : Value) (h : Heap) (K : KT) : Prop :=
 pBox T_api_Raw r0 h fun r1 h_1 =>
 pField 0 r1 fun t4 =>
 pLoad h_1 t4 fun t5 =>
 pField 1 r1 fun t6 =>
 pLoad h_1 t6 fun t7 =>
 pLen t7 fun t8 =>
 pBin .add t5 (I 1) fun t11 =>
 pBuild [(I 0), (I 0), (I 0), (I 0), (I 0), (I 0)] [(0, 1, (I 0)), (1, 1, (I 0)), (2, 1, (I 6)), (3, 1, t8), (4, 1, t5), (5, 1, t11)] fun t12 =>
 pField 2 r1 fun t13 =>
 pLoad h_1 t13 fun t14 =>
 pLen t14 fun t15 =>
 pBin .add t5 (I 1) fun t18 =>
 pBuild [(I 0), (I 0), (I 0), (I 0), (I 0), (I 0)] [(0, 1, (I 0)), (1, 1, (I 1)), (2, 1, (I 6)), (3, 1, t15), (4, 1, t5), (5, 1, t18)] fun t19 =>
 pBuildSlice T_graph_place (zerosL [(I 0), (I 0), (I 0), (I 0), (I 0), (I 0)] 2) [(0, 6, t12), (6, 6, t19)] 2 h_1 fun t20 h_2 =>
 callS P F_slices_Values_sl_graph_place_graph_place [t20] h_2 fun t21 h_3 =>
 K t21 h_3

theorem lk_graph_shapes (r0 : Value) (H : sh_graph_shapes Tryz.prog r0 h K) : CallsH Tryz.prog F_graph_shapes [r0].toArray h K :=
 lkF Tryz.func76 (Eq.mpr (by kernel_rfl) H)

def sh_graph_look_3 (P : Program) (t0 : Value) (h : Heap) (K : KT) : Prop :=
 pLoadN 4 h t0 fun t2 =>
 callS P F_graph_nodes [t2] h fun t3 h_1 =>
 K t3 h_1

theorem lk_graph_look_3 (t0 : Value) (H : sh_graph_look_3 Tryz.prog t0 h K) : CallsH Tryz.prog F_graph_look_3 [t0].toArray h K :=
 lkF Tryz.func77 (Eq.mpr (by kernel_rfl) H)

def sh_graph_nodes (P : Program) (r0 : Value) (h : Heap) (K : KT) : Prop :=
 pBox T_api_Raw r0 h fun r1 h_1 =>
 K (.func (.func F_graph_nodes_1) #[] #[r1]) h_1

theorem lk_graph_nodes (r0 : Value) (H : sh_graph_nodes Tryz.prog r0 h K) : CallsH Tryz.prog F_graph_nodes [r0].toArray h K :=
 lkF Tryz.func78 (Eq.mpr (by kernel_rfl) H)

def sh_graph_look_4 (P : Program) (t0 : Value) (h : Heap) (K : KT) : Prop :=
 pField 3 t0 fun t2 =>
 pLoad h t2 fun t3 =>
 pLen t3 fun t4 =>
 callS P F_graph_one [(I 8), t4, (I 0), (I 67108865)] h fun t5 h_1 =>
 K t5 h_1

theorem lk_graph_look_4 (t0 : Value) (H : sh_graph_look_4 Tryz.prog t0 h K) : CallsH Tryz.prog F_graph_look_4 [t0].toArray h K :=
 lkF Tryz.func79 (Eq.mpr (by kernel_rfl) H)

def sh_graph_look_5 (P : Program) (t0 : Value) (h : Heap) (K : KT) : Prop :=
 pLoadN 4 h t0 fun t2 =>
 callS P F_graph_arcs [t2] h fun t3 h_1 =>
 K t3 h_1

theorem lk_graph_look_5 (t0 : Value) (H : sh_graph_look_5 Tryz.prog t0 h K) : CallsH Tryz.prog F_graph_look_5 [t0].toArray h K :=
 lkF Tryz.func80 (Eq.mpr (by kernel_rfl) H)

def sh_graph_arcs (P : Program) (r0 : Value) (h : Heap) (K : KT) : Prop :=
 pBox T_api_Raw r0 h fun r1 h_1 =>
 K (.func (.func F_graph_arcs_1) #[] #[r1]) h_1

theorem lk_graph_arcs (r0 : Value) (H : sh_graph_arcs Tryz.prog r0 h K) : CallsH Tryz.prog F_graph_arcs [r0].toArray h K :=
 lkF Tryz.func81 (Eq.mpr (by kernel_rfl) H)

def sh_net_of (P : Program) (raw0 : Value) (h : Heap) (K : KT) : Prop :=
 pBox T_api_Raw raw0 h fun raw1 h_1 =>
 pLoadN 4 h_1 raw1 fun t5 =>
 pBuild [(I 0), (.slice none 0 0), (.slice none 0 0), (.slice none 0 0), (.slice none 0 0), (.slice none 0 0)] [(0, 4, t5)] fun t6 =>
 pBox T_net_Net t6 h_1 fun t7 h_2 =>
 callV P (.func (.func F_net_of_1) #[] #[raw1]) [(.func (.func F_net_of_2) #[] #[])].toArray h_2 fun t12 h_3 =>
 callV P (.func (.func F_net_of_1) #[] #[raw1]) [(.func (.func F_net_of_3) #[] #[])].toArray h_3 fun t14 h_4 =>
 pNil t7 fun t15 =>
 pField 4 t15 fun t16 =>
 pStore 1 t16 t12 h_4 fun u h_5 =>
 pNil t7 fun t17 =>
 pField 5 t17 fun t18 =>
 pStore 1 t18 t14 h_5 fun u_1 h_6 =>
 K t7 h_6

theorem lk_net_of (raw0 : Value) (H : sh_net_of Tryz.prog raw0 h K) : CallsH Tryz.prog F_net_of [raw0].toArray h K :=
 lkF Tryz.func82 (Eq.mpr (by kernel_rfl) H)

def sh_net_own (P : Program) (raw0 : Value) (h : Heap) (K : KT) : Prop :=
 pBox T_api_Raw raw0 h fun raw1 h_1 =>
 pBox T_api_Raw (.agg #[(I 0), (.slice none 0 0), (.slice none 0 0), (.slice none 0 0)]) h_1 fun t2 h_2 =>
 pField 1 raw1 fun t3 =>
 pLoad h_2 t3 fun t4 =>
 pField 2 raw1 fun t6 =>
 pLoad h_2 t6 fun t7 =>
 pField 3 raw1 fun t9 =>
 pLoad h_2 t9 fun t10 =>
 callS P F_slices_Clone_sl_int64_int64 [t4] h_2 fun t5 h_3 =>
 (pLoad h_3 t6 fun t7_1 =>
 t7_1 = t7) /\
 (pLoad h_3 t9 fun t10_1 =>
 t10_1 = t10) /\
 (pField 1 raw1 fun t12 =>
 callS P F_slices_Clone_sl_int64_int64 [t7] h_3 fun t8 h_4 =>
 (pLoad h_4 t9 fun t10_2 =>
 t10_2 = t10) /\
 (callS P F_slices_Clone_sl_api_Arc_api_Arc [t10] h_4 fun t11 h_5 =>
 pStore 1 t12 t5 h_5 fun u h_6 =>
 pField 2 raw1 fun t13 =>
 pStore 1 t13 t8 h_6 fun u_1 h_7 =>
 pField 3 raw1 fun t14 =>
 pStore 1 t14 t11 h_7 fun u_2 h_8 =>
 pLoadN 4 h_8 raw1 fun t15 =>
 pStore 4 t2 t15 h_8 fun u_3 h_9 =>
 pLoadN 4 h_9 t2 fun res =>
 K res h_9))

theorem lk_net_own (raw0 : Value) (H : sh_net_own Tryz.prog raw0 h K) : CallsH Tryz.prog F_net_own [raw0].toArray h K :=
 lkF Tryz.func83 (Eq.mpr (by kernel_rfl) H)

def sh_table_may (P : Program) (nodes0 marks1 : Value) (h : Heap) (K : KT) : Prop :=
 pBox T_int nodes0 h fun nodes2 h_1 =>
 pMakeMap h_1 fun t7 h_2 =>
 pBox T_map_int_int (.map none) h_2 fun seen5 h_3 =>
 pStore 1 seen5 t7 h_3 fun u h_4 =>
 pLen marks1 fun t10 =>
 pBin .leq t10 (I 16) fun t11 =>
 ifV t11
 (callS P F_slices_ContainsFunc_sl_int_int [marks1, (.func (.func F_table_may_1) #[] #[seen5, nodes2])] h_4 fun t15 h_5 =>
 pUn .not t15 fun t16 =>
 K t16 h_5)
 (K (.bool false) h_4)

theorem lk_table_may (nodes0 marks1 : Value) (H : sh_table_may Tryz.prog nodes0 marks1 h K) : CallsH Tryz.prog F_table_may [nodes0, marks1].toArray h K :=
 lkF Tryz.func84 (Eq.mpr (by kernel_rfl) H)

def sh_slices_Collect_sl_int64 (P : Program) (seq0 : Value) (h : Heap) (K : KT) : Prop :=
 callS P F_slices_AppendSeq_sl_sl_int64_sl_int64 [(.slice none 0 0), seq0] h fun t4 h_1 =>
 K t4 h_1

theorem lk_slices_Collect_sl_int64 (seq0 : Value) (H : sh_slices_Collect_sl_int64 Tryz.prog seq0 h K) : CallsH Tryz.prog F_slices_Collect_sl_int64 [seq0].toArray h K :=
 lkF Tryz.func85 (Eq.mpr (by kernel_rfl) H)

def sh_table_rows (P : Program) (n0 marks1 run2 : Value) (h : Heap) (K : KT) : Prop :=
 pBox T_p_net_Net n0 h fun n3 h_1 =>
 pBox T_sl_int marks1 h_1 fun marks4 h_2 =>
 pBox T_funcnet_Net_int_flood_Tree run2 h_2 fun run5 h_3 =>
 K (.func (.func F_table_rows_1) #[] #[marks4, run5, n3]) h_3

theorem lk_table_rows (n0 marks1 run2 : Value) (H : sh_table_rows Tryz.prog n0 marks1 run2 h K) : CallsH Tryz.prog F_table_rows [n0, marks1, run2].toArray h K :=
 lkF Tryz.func86 (Eq.mpr (by kernel_rfl) H)

def sh_flood_To (P : Program) (n0 t1 : Value) (h : Heap) (K : KT) : Prop :=
 pBox T_flood_Tree (.agg #[(.slice none 0 0), (.slice none 0 0), (.slice none 0 0)]) h fun t4 h_1 =>
 callS P F_flood_flood [n0, t1, (.func (.func F_net_Net_In) #[n0] #[]), (.func (.func F_flood_To_1) #[] #[])] h_1 fun t9 h_2 =>
 pStore 3 t4 t9 h_2 fun u h_3 =>
 pLoadN 3 h_3 t4 fun res =>
 K res h_3

theorem lk_flood_To (n0 t1 : Value) (H : sh_flood_To Tryz.prog n0 t1 h K) : CallsH Tryz.prog F_flood_To [n0, t1].toArray h K :=
 lkF Tryz.func87 (Eq.mpr (by kernel_rfl) H)

def sh_flood_From (P : Program) (n0 s1 : Value) (h : Heap) (K : KT) : Prop :=
 pBox T_flood_Tree (.agg #[(.slice none 0 0), (.slice none 0 0), (.slice none 0 0)]) h fun t4 h_1 =>
 callS P F_flood_flood [n0, s1, (.func (.func F_net_Net_Out) #[n0] #[]), (.func (.func F_flood_From_1) #[] #[])] h_1 fun t9 h_2 =>
 pStore 3 t4 t9 h_2 fun u h_3 =>
 pLoadN 3 h_3 t4 fun res =>
 K res h_3

theorem lk_flood_From (n0 s1 : Value) (H : sh_flood_From Tryz.prog n0 s1 h K) : CallsH Tryz.prog F_flood_From [n0, s1].toArray h K :=
 lkF Tryz.func88 (Eq.mpr (by kernel_rfl) H)

def sh_slices_Equal_sl_int_int_L1 (P : Program) (t12 s10 s21 : Value) (K : KT) (t13 : Value) (h_1 : Heap) (Z : KT) : Prop :=
 pBin .lss t13 t12 fun t14 =>
 ifV t14
 (pIdx 1 s10 t13 fun t18 =>
 pLoad h_1 t18 fun t19 =>
 pIdx 1 s21 t13 fun t22 =>
 pLoad h_1 t22 fun t23 =>
 pBin .neq t19 t23 fun t24 =>
 ifV t24
 (K (.bool false) h_1)
 (pBin .add t13 (I 1) fun t25 =>
 Z t25 h_1))
 (K (.bool true) h_1)

def sh_slices_Equal_sl_int_int (P : Program) (s10 s21 : Value) (h : Heap) (K : KT) : Prop :=
 pLen s10 fun t7 =>
 pLen s21 fun t9 =>
 pBin .neq t7 t9 fun t10 =>
 ifV t10
 (K (.bool false) h)
 (pLen s10 fun t12 =>
 LoopH (σ := Vals [13]) (fun x hh ZZ => sh_slices_Equal_sl_int_int_L1 P t12 s10 s21 K x.1 hh (fun a0 hz => ZZ (a0, ()) hz)) ((I 0), ()) h)

theorem lk_slices_Equal_sl_int_int (s10 s21 : Value) (H : sh_slices_Equal_sl_int_int Tryz.prog s10 s21 h K) : CallsH Tryz.prog F_slices_Equal_sl_int_int [s10, s21].toArray h K :=
 callsH_of (ann := (annG (Tryz.f89.body.getD .skip) 0 [(6, [13])]).1) (c := Tryz.f89.body.getD .skip) Tryz.func89 (by kernel_rfl) (by kernel_rfl) (by kernel_rfl) (of_decide_eq_true (by kernel_rfl))
  (Eq.mpr (by kernel_rfl) H)

def sh_slices_Max_sl_int_int_L1 (P : Program) (x0 : Value) (K : KT) (m3 i4 : Value) (h_1 : Heap) (Z : Value -> KT) : Prop :=
 pLen x0 fun t14 =>
 pBin .lss i4 t14 fun t15 =>
 ifV t15
 (pIdx 1 x0 i4 fun t21 =>
 pLoad h_1 t21 fun t22 =>
 pMax m3 t22 fun t23 =>
 pBin .add i4 (I 1) fun t17 =>
 Z t23 t17 h_1)
 (K m3 h_1)

def sh_slices_Max_sl_int_int (P : Program) (x0 : Value) (h : Heap) (K : KT) : Prop :=
 pLen x0 fun t6 =>
 pBin .lss t6 (I 1) fun t7 =>
 ifV t7
 (False)
 (pIdx 1 x0 (I 0) fun t10 =>
 pLoad h t10 fun t11 =>
 LoopH (σ := Vals [3, 4]) (fun x hh ZZ => sh_slices_Max_sl_int_int_L1 P x0 K x.1 x.2.1 hh (fun a0 a1 hz => ZZ (a0, (a1, ())) hz)) (t11, ((I 1), ())) h)

theorem lk_slices_Max_sl_int_int (x0 : Value) (H : sh_slices_Max_sl_int_int Tryz.prog x0 h K) : CallsH Tryz.prog F_slices_Max_sl_int_int [x0].toArray h K :=
 callsH_of (ann := (annG (Tryz.f90.body.getD .skip) 0 [(6, [3, 4])]).1) (c := Tryz.f90.body.getD .skip) Tryz.func90 (by kernel_rfl) (by kernel_rfl) (by kernel_rfl) (of_decide_eq_true (by kernel_rfl))
  (Eq.mpr (by kernel_rfl) H)

def sh_cell_each_int_int_L1 (P : Program) (t8 l0 make1 : Value) (K : KT) (out4 t9 : Value) (h_1 : Heap) (Z : Value -> KT) : Prop :=
 pBin .lss t9 t8 fun t10 =>
 ifV t10
 (pIdx 1 l0 t9 fun t11 =>
 pLoad h_1 t11 fun t12 =>
 callV P make1 [t12].toArray h_1 fun t16 h_2 =>
 pBuildSlice T_int (zerosL [(I 0)] 1) [(0, 1, t16)] 1 h_2 fun t17 h_3 =>
 pAppend T_int 1 8 [(I 0)] out4 t17 h_3 fun t18 h_4 =>
 pBin .add t9 (I 1) fun t19 =>
 Z t18 t19 h_4)
 (K out4 h_1)

def sh_cell_each_int_int (P : Program) (l0 make1 : Value) (h : Heap) (K : KT) : Prop :=
 pLen l0 fun t8 =>
 LoopH (σ := Vals [4, 9]) (fun x hh ZZ => sh_cell_each_int_int_L1 P t8 l0 make1 K x.1 x.2.1 hh (fun a0 a1 hz => ZZ (a0, (a1, ())) hz)) ((.slice none 0 0), ((I 0), ())) h

theorem lk_cell_each_int_int (l0 make1 : Value) (H : sh_cell_each_int_int Tryz.prog l0 make1 h K) : CallsH Tryz.prog F_cell_each_int_int [l0, make1].toArray h K :=
 callsH_of (ann := (annG (Tryz.f91.body.getD .skip) 0 [(3, [4, 9])]).1) (c := Tryz.f91.body.getD .skip) Tryz.func91 (by kernel_rfl) (by kernel_rfl) (by kernel_rfl) (of_decide_eq_true (by kernel_rfl))
  (Eq.mpr (by kernel_rfl) H)

def sh_cell_namer (P : Program) (h : Heap) (K : KT) : Prop :=
 pMakeMap h fun t2 h_1 =>
 pBox T_map_int_int (.map none) h_1 fun names1 h_2 =>
 pStore 1 names1 t2 h_2 fun u h_3 =>
 K (.func (.func F_cell_namer_1) #[] #[names1]) h_3

theorem lk_cell_namer (H : sh_cell_namer Tryz.prog h K) : CallsH Tryz.prog F_cell_namer [].toArray h K :=
 lkF Tryz.func92 (Eq.mpr (by kernel_rfl) H)

def sh_flag_worth_1_L1 (P : Program) (t18 t17 t1 yield4 : Value) (K : KT) (t19 : Value) (h_4 : Heap) (Z : KT) : Prop :=
 pBin .lss t19 t18 fun t20 =>
 ifV t20
 (pIdx 1 t17 t19 fun t21 =>
 pLoad h_4 t21 fun t22 =>
 pLoad h_4 t1 fun t23 =>
 callS P F_tight_Arcs [t23, t22] h_4 fun t25 h_5 =>
 pBox T_sl_bool (.slice none 0 0) h_5 fun to8 h_6 =>
 pStore 1 to8 t25 h_6 fun u h_7 =>
 callV P (.func (.func F_flag_worth_1_1) #[] #[t1, yield4]) [(.func (.func F_flag_worth_1_3) #[] #[to8])].toArray h_7 fun t28 h_8 =>
 pUn .not t28 fun t29 =>
 ifV t29
 (K (.tuple #[]) h_8)
 (pBin .add t19 (I 1) fun t30 =>
 Z t30 h_8))
 (K (.tuple #[]) h_4)

def sh_flag_worth_1 (P : Program) (yield0 t1 t2 t3 : Value) (h : Heap) (K : KT) : Prop :=
 pBox T_func_int_bool yield0 h fun yield4 h_1 =>
 callV P (.func (.func F_flag_worth_1_1) #[] #[t1, yield4]) [(.func (.func F_flag_worth_1_2) #[] #[t1, t2, t3])].toArray h_1 fun t12 h_2 =>
 pUn .not t12 fun t13 =>
 ifV t13
 (K (.tuple #[]) h_2)
 (pLoad h_2 t2 fun t14 =>
 pLoad h_2 t1 fun t15 =>
 pLoad h_2 t3 fun t16 =>
 callS P F_cell_Cells_Border [t14, t15, t16] h_2 fun t17 h_3 =>
 pLen t17 fun t18 =>
 LoopH (σ := Vals [19]) (fun x hh ZZ => sh_flag_worth_1_L1 P t18 t17 t1 yield4 K x.1 hh (fun a0 hz => ZZ (a0, ()) hz)) ((I 0), ()) h_3)

theorem lk_flag_worth_1 (yield0 t1 t2 t3 : Value) (H : sh_flag_worth_1 Tryz.prog yield0 t1 t2 t3 h K) : CallsH Tryz.prog F_flag_worth_1 [yield0, t1, t2, t3].toArray h K :=
 callsH_of (ann := (annG (Tryz.f93.body.getD .skip) 0 [(5, [19])]).1) (c := Tryz.f93.body.getD .skip) Tryz.func93 (by kernel_rfl) (by kernel_rfl) (by kernel_rfl) (of_decide_eq_true (by kernel_rfl))
  (Eq.mpr (by kernel_rfl) H)

def sh_flag_worth_1_1_k2 (P : Program) (t8 : Value) (Z : KT) (h_5 : Heap) : Prop :=
 pBin .add t8 (I 1) fun t20 =>
 Z t20 h_5

def sh_flag_worth_1_1_L1 (P : Program) (t7 is0 t2 : Value) (K : KT) (t8 : Value) (h_2 : Heap) (Z : KT) : Prop :=
 pBin .lss t8 t7 fun t9 =>
 ifV t9
 (callV P is0 [t8].toArray h_2 fun t13 h_3 =>
 ifV t13
 (pLoad h_3 t2 fun t15 =>
 callV P t15 [t8].toArray h_3 fun t17 h_4 =>
 pUn .not t17 fun t18 =>
 ifV t18
 (K (.bool false) h_4)
 (sh_flag_worth_1_1_k2 P t8 Z h_4))
 (sh_flag_worth_1_1_k2 P t8 Z h_3))
 (K (.bool true) h_2)

def sh_flag_worth_1_1 (P : Program) (is0 t1 t2 : Value) (h : Heap) (K : KT) : Prop :=
 pLoad h t1 fun t6 =>
 callS P F_net_Net_Arcs [t6] h fun t7 h_1 =>
 LoopH (σ := Vals [8]) (fun x hh ZZ => sh_flag_worth_1_1_L1 P t7 is0 t2 K x.1 hh (fun a0 hz => ZZ (a0, ()) hz)) ((I 0), ()) h_1

theorem lk_flag_worth_1_1 (is0 t1 t2 : Value) (H : sh_flag_worth_1_1 Tryz.prog is0 t1 t2 h K) : CallsH Tryz.prog F_flag_worth_1_1 [is0, t1, t2].toArray h K :=
 callsH_of (ann := (annG (Tryz.f94.body.getD .skip) 0 [(3, [8])]).1) (c := Tryz.f94.body.getD .skip) Tryz.func94 (by kernel_rfl) (by kernel_rfl) (by kernel_rfl) (of_decide_eq_true (by kernel_rfl))
  (Eq.mpr (by kernel_rfl) H)

def sh_flag_worth_1_2 (P : Program) (a0 t1 t2 t3 : Value) (h : Heap) (K : KT) : Prop :=
 pLoad h t1 fun t6 =>
 pLoad h t2 fun t7 =>
 pLoad h t3 fun t8 =>
 callS P F_flag_inside [t6, t7, t8, a0] h fun t10 h_1 =>
 K t10 h_1

theorem lk_flag_worth_1_2 (a0 t1 t2 t3 : Value) (H : sh_flag_worth_1_2 Tryz.prog a0 t1 t2 t3 h K) : CallsH Tryz.prog F_flag_worth_1_2 [a0, t1, t2, t3].toArray h K :=
 lkF Tryz.func95 (Eq.mpr (by kernel_rfl) H)

def sh_flag_inside (P : Program) (n0 c1 k2 a3 : Value) (h : Heap) (K : KT) : Prop :=
 callS P F_net_Net_Arc [n0, a3] h fun t14 h_1 =>
 pExt t14 0 fun t15 =>
 pExt t14 1 fun t16 =>
 pBox T_api_Arc (.agg #[(I 0), (I 0), (I 0)]) h_1 fun x9 h_2 =>
 pStore 3 x9 t15 h_2 fun u h_3 =>
 ifV t16
 (pField 0 x9 fun t20 =>
 pLoad h_3 t20 fun t21 =>
 callS P F_cell_Cells_Of [c1, t21] h_3 fun t22 h_4 =>
 pBin .eql t22 k2 fun t24 =>
 ifV t24
 (pField 1 x9 fun t28 =>
 pLoad h_4 t28 fun t29 =>
 callS P F_cell_Cells_Of [c1, t29] h_4 fun t30 h_5 =>
 pBin .eql t30 k2 fun t32 =>
 K t32 h_5)
 (K (.bool false) h_4))
 (K (.bool false) h_3)

theorem lk_flag_inside (n0 c1 k2 a3 : Value) (H : sh_flag_inside Tryz.prog n0 c1 k2 a3 h K) : CallsH Tryz.prog F_flag_inside [n0, c1, k2, a3].toArray h K :=
 lkF Tryz.func96 (Eq.mpr (by kernel_rfl) H)

def sh_cell_Cells_Border_C1 (P : Program) (K : KT) (n4 c3 cell5 t23 : Value) (h_5 : Heap) : Prop :=
 ifV t23
 (K (.slice none 0 0) h_5)
 (pBox T_func_int_bool .nilFunc h_5 fun beyond7 h_6 =>
 pStore 1 beyond7 (.func (.func F_cell_Cells_Border_1) #[] #[n4, c3, cell5]) h_6 fun u h_7 =>
 pLoad h_7 c3 fun t25 =>
 callS P F_cell_Cells_nodes [t25, (.func (.func F_cell_Cells_Border_2) #[] #[c3, cell5, n4, beyond7])] h_7 fun t27 h_8 =>
 callS P F_slices_Collect_int [t27] h_8 fun t28 h_9 =>
 K t28 h_9)

def sh_cell_Cells_Border (P : Program) (c0 n1 cell2 : Value) (h : Heap) (K : KT) : Prop :=
 pBox T_p_cell_Cells c0 h fun c3 h_1 =>
 pBox T_p_net_Net n1 h_1 fun n4 h_2 =>
 pBox T_int cell2 h_2 fun cell5 h_3 =>
 cutP (σ := Vals [23]) (fun J =>
 pLoad h_3 c3 fun t8 =>
 pEq false .ptr t8 (.pointer none) fun t9 =>
 ifV t9
 (J ((.bool true), ()) h_3)
 (pLoad h_3 n4 fun t11 =>
 pEq false .ptr t11 (.pointer none) fun t12 =>
 ifV t12
 (J ((.bool true), ()) h_3)
 (pLoad h_3 n4 fun t15 =>
 pLoad h_3 c3 fun t17 =>
 pNil t17 fun t18 =>
 pField 0 t18 fun t19 =>
 pLoad h_3 t19 fun t20 =>
 pLen t20 fun t21 =>
 callS P F_net_Net_Nodes [t15] h_3 fun t16 h_4 =>
 (pLoad h_4 c3 fun t17_1 =>
 t17_1 = t17) /\
 (pLoad h_4 t19 fun t20_1 =>
 t20_1 = t20) /\
 (pBin .neq t16 t21 fun t22 =>
 J (t22, ()) h_4))))
 (fun x hh => sh_cell_Cells_Border_C1 P K n4 c3 cell5 x.1 hh)

theorem lk_cell_Cells_Border (c0 n1 cell2 : Value) (H : sh_cell_Cells_Border Tryz.prog c0 n1 cell2 h K) : CallsH Tryz.prog F_cell_Cells_Border [c0, n1, cell2].toArray h K :=
 callsH_of (ann := (annG (Tryz.f97.body.getD .skip) 0 [(2, [23])]).1) (c := Tryz.f97.body.getD .skip) Tryz.func97 (by kernel_rfl) (by kernel_rfl) (by kernel_rfl) (of_decide_eq_true (by kernel_rfl))
  (Eq.mpr (by kernel_rfl) H)

def sh_tight_Arcs (P : Program) (n0 b1 : Value) (h : Heap) (K : KT) : Prop :=
 pBuildSlice T_int (zerosL [(I 0)] 1) [(0, 1, b1)] 1 h fun t7 h_1 =>
 callS P F_tight_Any [n0, t7] h_1 fun t8 h_2 =>
 K t8 h_2

theorem lk_tight_Arcs (n0 b1 : Value) (H : sh_tight_Arcs Tryz.prog n0 b1 h K) : CallsH Tryz.prog F_tight_Arcs [n0, b1].toArray h K :=
 lkF Tryz.func98 (Eq.mpr (by kernel_rfl) H)

def sh_flag_worth_1_3 (P : Program) (a0 t1 : Value) (h : Heap) (K : KT) : Prop :=
 pLoad h t1 fun t5 =>
 pLen t5 fun t6 =>
 pBin .lss a0 t6 fun t7 =>
 ifV t7
 (pLoad h t1 fun t9 =>
 pIdx 1 t9 a0 fun t11 =>
 pLoad h t11 fun t12 =>
 K t12 h)
 (K (.bool false) h)

theorem lk_flag_worth_1_3 (a0 t1 : Value) (H : sh_flag_worth_1_3 Tryz.prog a0 t1 h K) : CallsH Tryz.prog F_flag_worth_1_3 [a0, t1].toArray h K :=
 lkF Tryz.func99 (Eq.mpr (by kernel_rfl) H)

def sh_bits_Rows_place_k1 (P : Program) (K : KT) (h_1 : Heap) : Prop :=
 K (.bool false) h_1

def sh_bits_Rows_place (P : Program) (b0 row1 i2 do3 : Value) (h : Heap) (K : KT) : Prop :=
 pBin .lss row1 (I 0) fun t10 =>
 ifV t10
 (sh_bits_Rows_place_k1 P K h)
 (callS P F_bits_Rows_Rows [b0] h fun t14 h_2 =>
 pBin .geq row1 t14 fun t15 =>
 ifV t15
 (sh_bits_Rows_place_k1 P K h_2)
 (pBin .lss i2 (I 0) fun t19 =>
 ifV t19
 (sh_bits_Rows_place_k1 P K h_2)
 (callS P F_bits_Rows_Wide [b0] h_2 fun t24 h_3 =>
 pBin .geq i2 t24 fun t25 =>
 ifV t25
 (sh_bits_Rows_place_k1 P K h_3)
 (pNil b0 fun t29 =>
 pField 3 t29 fun t30 =>
 pLoad h_3 t30 fun t31 =>
 pNil b0 fun t34 =>
 pField 2 t34 fun t35 =>
 pLoad h_3 t35 fun t36 =>
 pBin .mul row1 t36 fun t37 =>
 pBin .quo i2 (I 8) fun t39 =>
 pBin .add t37 t39 fun t40 =>
 pIdx 1 t31 t40 fun t41 =>
 pBin .rem i2 (I 8) fun t43 =>
 pBin .shl (.int .u8 1) t43 fun t44 =>
 callV P do3 [t41, t44].toArray h_3 fun t45 h_4 =>
 K t45 h_4))))

theorem lk_bits_Rows_place (b0 row1 i2 do3 : Value) (H : sh_bits_Rows_place Tryz.prog b0 row1 i2 do3 h K) : CallsH Tryz.prog F_bits_Rows_place [b0, row1, i2, do3].toArray h K :=
 lkF Tryz.func100 (Eq.mpr (by kernel_rfl) H)

end Go.Proofs.YtmdldoolnhpaeaaGreatDoor

set_option maxRecDepth 100000
namespace Go.Proofs.YtmdldoolnhpaeaaGreatDoor
open Go Go.Mh
variable {h : Heap} {K : KT}
set_option maxHeartbeats 0

def sh_bits_Rows_Set_1_k1 (P : Program) (K : KT) (h_3 : Heap) : Prop :=
 K (.bool true) h_3

def sh_bits_Rows_Set_1 (P : Program) (at0 mask1 t2 : Value) (h : Heap) (K : KT) : Prop :=
 pNil at0 fun t7 =>
 pLoad h t7 fun t8 =>
 pBin .andNot t8 mask1 fun t10 =>
 pNil at0 fun t11 =>
 pStore 1 t11 t10 h fun u h_1 =>
 pLoad h_1 t2 fun t12 =>
 ifV t12
 (pNil at0 fun t14 =>
 pLoad h_1 t14 fun t15 =>
 pBin .or t15 mask1 fun t17 =>
 pNil at0 fun t18 =>
 pStore 1 t18 t17 h_1 fun u_1 h_2 =>
 sh_bits_Rows_Set_1_k1 P K h_2)
 (sh_bits_Rows_Set_1_k1 P K h_1)

theorem lk_bits_Rows_Set_1 (at0 mask1 t2 : Value) (H : sh_bits_Rows_Set_1 Tryz.prog at0 mask1 t2 h K) : CallsH Tryz.prog F_bits_Rows_Set_1 [at0, mask1, t2].toArray h K :=
 lkF Tryz.func101 (Eq.mpr (by kernel_rfl) H)

def sh_heap_New (P : Program) (n0 : Value) (h : Heap) (K : KT) : Prop :=
 pMakeMap h fun t3 h_1 =>
 pBuild [(.slice none 0 0), (.map none)] [(1, 1, t3)] fun t4 =>
 pMax n0 (I 0) fun t6 =>
 pBuild [(.slice none 0 0), (.map none), (I 0)] [(0, 2, t4), (2, 1, t6)] fun t7 =>
 pBox T_heap_Heap t7 h_1 fun t8 h_2 =>
 K t8 h_2

theorem lk_heap_New (n0 : Value) (H : sh_heap_New Tryz.prog n0 h K) : CallsH Tryz.prog F_heap_New [n0].toArray h K :=
 lkF Tryz.func102 (Eq.mpr (by kernel_rfl) H)

def sh_slices_Repeat_sl_int_int_k1 (P : Program) (h_2 : Heap) : Prop :=
 False

def sh_slices_Repeat_sl_int_int_L2 (P : Program) (t30 : Value) (K : KT) (n8 : Value) (h_5 : Heap) (Z : KT) : Prop :=
 pLen t30 fun t36 =>
 pBin .lss n8 t36 fun t37 =>
 ifV t37
 (pSlice 1 t30 (some n8) none none fun t41 =>
 pSlice 1 t30 none (some n8) none fun t44 =>
 pCopy 1 t41 t44 h_5 fun t45 h_6 =>
 pBin .add n8 t45 fun t46 =>
 Z t46 h_6)
 (K t30 h_5)

def sh_slices_Repeat_sl_int_int (P : Program) (x0 count1 : Value) (h : Heap) (K : KT) : Prop :=
 pBin .lss count1 (I 0) fun t10 =>
 ifV t10
 (False)
 (pLen x0 fun t14 =>
 pConv .u64 t14 fun t15 =>
 pConv .u64 count1 fun t17 =>
 callS P F_math_bits_Mul [t15, t17] h fun t18 h_1 =>
 pExt t18 0 fun t19 =>
 pExt t18 1 fun t20 =>
 pBin .gtr t19 (.int .u64 0) fun t22 =>
 ifV t22
 (sh_slices_Repeat_sl_int_int_k1 P h_1)
 (pBin .gtr t20 (.int .u64 9223372036854775807) fun t25 =>
 ifV t25
 (sh_slices_Repeat_sl_int_int_k1 P h_1)
 (pConv .i64 t20 fun t29 =>
 pMakeSlice T_int 8 [(I 0)] t29 t29 h_1 fun t30 h_3 =>
 pCopy 1 t30 x0 h_3 fun t33 h_4 =>
 LoopH (σ := Vals [8]) (fun x hh ZZ => sh_slices_Repeat_sl_int_int_L2 P t30 K x.1 hh (fun a0 hz => ZZ (a0, ()) hz)) (t33, ()) h_4)))

theorem lk_slices_Repeat_sl_int_int (x0 count1 : Value) (H : sh_slices_Repeat_sl_int_int Tryz.prog x0 count1 h K) : CallsH Tryz.prog F_slices_Repeat_sl_int_int [x0, count1].toArray h K :=
 callsH_of (ann := (annG (Tryz.f103.body.getD .skip) 0 [(9, [8])]).1) (c := Tryz.f103.body.getD .skip) Tryz.func103 (by kernel_rfl) (by kernel_rfl) (by kernel_rfl) (of_decide_eq_true (by kernel_rfl))
  (Eq.mpr (by kernel_rfl) H)

def sh_heap_Heap_Pop (P : Program) (h0 : Value) (h : Heap) (K : KT) : Prop :=
 callS P F_heap_Heap_Len [h0] h fun t8 h_1 =>
 pBin .eql t8 (I 0) fun t9 =>
 ifV t9
 (K (.tuple #[(I 0), (I 0), (.bool false)]) h_1)
 (pNil h0 fun t11 =>
 pField 0 t11 fun t12 =>
 pField 0 t12 fun t13 =>
 pLoad h_1 t13 fun t14 =>
 pIdx 2 t14 (I 0) fun t15 =>
 pLoadN 2 h_1 t15 fun t16 =>
 pNil h0 fun t18 =>
 pField 0 t18 fun t19 =>
 pField 0 t19 fun t20 =>
 pLoad h_1 t20 fun t21 =>
 pLen t21 fun t22 =>
 pBin .sub t22 (I 1) fun t23 =>
 pBox T_heap_held (.agg #[(I 0), (I 0)]) h_1 fun first5 h_2 =>
 pStore 2 first5 t16 h_2 fun u h_3 =>
 (pLoad h_3 t20 fun t21_1 =>
 t21_1 = t21) /\
 (pNil h0 fun t25 =>
 pField 0 t25 fun t26 =>
 callS P F_heap_row_swap [t26, (I 0), t23] h_3 fun t28 h_4 =>
 pNil h0 fun t31 =>
 pField 0 t31 fun t32 =>
 pField 0 t32 fun t33 =>
 pLoad h_4 t33 fun t34 =>
 pSlice 2 t34 none (some t23) none fun t36 =>
 pNil h0 fun t37 =>
 pField 0 t37 fun t38 =>
 pField 0 t38 fun t39 =>
 pStore 1 t39 t36 h_4 fun u_1 h_5 =>
 pNil h0 fun t41 =>
 pField 0 t41 fun t42 =>
 pField 1 t42 fun t43 =>
 pLoad h_5 t43 fun t44 =>
 pField 0 first5 fun t45 =>
 pLoad h_5 t45 fun t46 =>
 pDelete (.int .i64) t44 t46 h_5 fun u_2 h_6 =>
 pNil h0 fun t48 =>
 pField 0 t48 fun t49 =>
 callS P F_heap_row_down [t49, (I 0)] h_6 fun t50 h_7 =>
 pField 0 first5 fun t51 =>
 pLoad h_7 t51 fun t52 =>
 pField 1 first5 fun t53 =>
 pLoad h_7 t53 fun t54 =>
 K (.tuple #[t52, t54, (.bool true)]) h_7))

theorem lk_heap_Heap_Pop (h0 : Value) (H : sh_heap_Heap_Pop Tryz.prog h0 h K) : CallsH Tryz.prog F_heap_Heap_Pop [h0].toArray h K :=
 lkF Tryz.func107 (Eq.mpr (by kernel_rfl) H)

def sh_slices_Collect_int (P : Program) (seq0 : Value) (h : Heap) (K : KT) : Prop :=
 callS P F_slices_AppendSeq_sl_int_int [(.slice none 0 0), seq0] h fun t4 h_1 =>
 K t4 h_1

theorem lk_slices_Collect_int (seq0 : Value) (H : sh_slices_Collect_int Tryz.prog seq0 h K) : CallsH Tryz.prog F_slices_Collect_int [seq0].toArray h K :=
 lkF Tryz.func108 (Eq.mpr (by kernel_rfl) H)

def sh_far_marks (P : Program) (n0 first1 : Value) (h : Heap) (K : KT) : Prop :=
 pBox T_p_net_Net n0 h fun n2 h_1 =>
 pBox T_int first1 h_1 fun first3 h_2 =>
 K (.func (.func F_far_marks_1) #[] #[n2, first3]) h_2

theorem lk_far_marks (n0 first1 : Value) (H : sh_far_marks Tryz.prog n0 first1 h K) : CallsH Tryz.prog F_far_marks [n0, first1].toArray h K :=
 lkF Tryz.func113 (Eq.mpr (by kernel_rfl) H)

def sh_draw_Draws_Next_k1 (P : Program) (K : KT) (h_1 : Heap) : Prop :=
 K (I 0) h_1

def sh_draw_Draws_Next (P : Program) (d0 n1 : Value) (h : Heap) (K : KT) : Prop :=
 pBin .lss n1 (I 1) fun t7 =>
 ifV t7
 (sh_draw_Draws_Next_k1 P K h)
 (callS P F_draw_Draws_Left [d0] h fun t10 h_2 =>
 pBin .eql t10 (I 0) fun t11 =>
 ifV t11
 (sh_draw_Draws_Next_k1 P K h_2)
 (pNil d0 fun t16 =>
 pField 0 t16 fun t17 =>
 pLoad h_2 t17 fun t18 =>
 callS P F_draw_first_uint32 [t18] h_2 fun t19 h_3 =>
 pExt t19 0 fun t20 =>
 pExt t19 1 fun t21 =>
 pNil d0 fun t22 =>
 pField 0 t22 fun t23 =>
 pStore 1 t23 t21 h_3 fun u h_4 =>
 pConv .i64 t20 fun t25 =>
 pBin .rem t25 n1 fun t27 =>
 K t27 h_4))

theorem lk_draw_Draws_Next (d0 n1 : Value) (H : sh_draw_Draws_Next Tryz.prog d0 n1 h K) : CallsH Tryz.prog F_draw_Draws_Next [d0, n1].toArray h K :=
 lkF Tryz.func114 (Eq.mpr (by kernel_rfl) H)

def sh_avoid_next_L1 (P : Program) (l1 v8 : Value) (K : KT) (h_7 : Heap) (Z : Heap -> Prop) : Prop :=
 callS P F_slices_ContainsFunc_sl_avoid_mark_avoid_mark [l1, (.func (.func F_avoid_next_1) #[] #[v8])] h_7 fun t27 h_8 =>
 ifV t27
 (pLoad h_8 v8 fun t28 =>
 pBin .add t28 (I 1) fun t29 =>
 pStore 1 v8 t29 h_8 fun u_2 h_9 =>
 Z h_9)
 (pLoad h_8 v8 fun t30 =>
 K t30 h_8)

def sh_avoid_next_L2 (P : Program) (v8 t13 : Value) (K : KT) (k9 : Value) (h_10 : Heap) (Z_1 : KT) : Prop :=
 pBin .geq k9 (I 0) fun t33 =>
 ifV t33
 (pStore 1 v8 k9 h_10 fun u_3 h_11 =>
 pNil t13 fun t35 =>
 pField 3 t35 fun t36 =>
 pLoad h_11 t36 fun t37 =>
 pLoad h_11 v8 fun t38 =>
 pLook (.int .i64) (.slice none 0 0) false h_11 t37 t38 fun t39 =>
 callS P F_slices_Values_sl_int_int [t39] h_11 fun t40 h_12 =>
 callS P F_avoid_best_int64 [t40, (.func (.func F_avoid_tree_size) #[t13] #[])] h_12 fun t43 h_13 =>
 Z_1 t43 h_13)
 (pLoad h_10 v8 fun t45 =>
 K t45 h_10)

def sh_avoid_next (P : Program) (n0 l1 r2 : Value) (h : Heap) (K : KT) : Prop :=
 callS P F_avoid_grow [n0, l1, r2] h fun t13 h_1 =>
 pNil t13 fun t15 =>
 pField 0 t15 fun t16 =>
 pField 2 t16 fun t17 =>
 pLoad h_1 t17 fun t18 =>
 callS P F_slices_Values_sl_int_int [t18] h_1 fun t19 h_2 =>
 callS P F_avoid_best_int64 [t19, (.func (.func F_avoid_tree_size) #[t13] #[])] h_2 fun t22 h_3 =>
 pBox T_int (I 0) h_3 fun v8 h_4 =>
 pStore 1 v8 t22 h_4 fun u h_5 =>
 pLoad h_5 v8 fun t23 =>
 pBin .lss t23 (I 0) fun t24 =>
 ifV t24
 (pStore 1 v8 (I 0) h_5 fun u_1 h_6 =>
 LoopH (σ := Vals []) (fun x hh ZZ => sh_avoid_next_L1 P l1 v8 K hh (fun hz => ZZ () hz)) () h_6)
 (pLoad h_5 v8 fun t31 =>
 LoopH (σ := Vals [9]) (fun x hh ZZ => sh_avoid_next_L2 P v8 t13 K x.1 hh (fun a0 hz => ZZ (a0, ()) hz)) (t31, ()) h_5)

theorem lk_avoid_next (n0 l1 r2 : Value) (H : sh_avoid_next Tryz.prog n0 l1 r2 h K) : CallsH Tryz.prog F_avoid_next [n0, l1, r2].toArray h K :=
 callsH_of (ann := (annG (Tryz.f115.body.getD .skip) 0 [(7, []), (14, [9])]).1) (c := Tryz.f115.body.getD .skip) Tryz.func115 (by kernel_rfl) (by kernel_rfl) (by kernel_rfl) (of_decide_eq_true (by kernel_rfl))
  (Eq.mpr (by kernel_rfl) H)

def sh_avoid_marks_k2 (P : Program) (t9 : Value) (Z : Value -> KT) (out4_1 : Value) (h_7 : Heap) : Prop :=
 pBin .add t9 (I 1) fun t27 =>
 Z out4_1 t27 h_7

def sh_avoid_marks_L1 (P : Program) (t8 l1 n0 : Value) (K : KT) (out4 t9 : Value) (h_1 : Heap) (Z : Value -> KT) : Prop :=
 pBin .lss t9 t8 fun t10 =>
 ifV t10
 (pIdx 1 l1 t9 fun t11 =>
 pLoad h_1 t11 fun t12 =>
 callS P F_avoid_there [n0, t12] h_1 fun t15 h_2 =>
 ifV t15
 (callS P F_flood_To [n0, t12] h_2 fun t20 h_3 =>
 callS P F_flood_From [n0, t12] h_3 fun t23 h_4 =>
 pBuild [(I 0), (.slice none 0 0), (.slice none 0 0), (.slice none 0 0), (.slice none 0 0), (.slice none 0 0), (.slice none 0 0)] [(0, 1, t12), (1, 3, t20), (4, 3, t23)] fun t24 =>
 pBuildSlice T_avoid_mark (zerosL [(I 0), (.slice none 0 0), (.slice none 0 0), (.slice none 0 0), (.slice none 0 0), (.slice none 0 0), (.slice none 0 0)] 1) [(0, 7, t24)] 1 h_4 fun t25 h_5 =>
 pAppend T_avoid_mark 7 152 [(I 0), (.slice none 0 0), (.slice none 0 0), (.slice none 0 0), (.slice none 0 0), (.slice none 0 0), (.slice none 0 0)] out4 t25 h_5 fun t26 h_6 =>
 sh_avoid_marks_k2 P t9 Z t26 h_6)
 (sh_avoid_marks_k2 P t9 Z out4 h_2))
 (K out4 h_1)

def sh_avoid_marks (P : Program) (n0 l1 : Value) (h : Heap) (K : KT) : Prop :=
 pLen l1 fun t8 =>
 LoopH (σ := Vals [4, 9]) (fun x hh ZZ => sh_avoid_marks_L1 P t8 l1 n0 K x.1 x.2.1 hh (fun a0 a1 hz => ZZ (a0, (a1, ())) hz)) ((.slice none 0 0), ((I 0), ())) h

theorem lk_avoid_marks (n0 l1 : Value) (H : sh_avoid_marks Tryz.prog n0 l1 h K) : CallsH Tryz.prog F_avoid_marks [n0, l1].toArray h K :=
 callsH_of (ann := (annG (Tryz.f116.body.getD .skip) 0 [(3, [4, 9])]).1) (c := Tryz.f116.body.getD .skip) Tryz.func116 (by kernel_rfl) (by kernel_rfl) (by kernel_rfl) (of_decide_eq_true (by kernel_rfl))
  (Eq.mpr (by kernel_rfl) H)

def sh_grid_Shape_k1 (P : Program) (K : KT) (h_1 : Heap) : Prop :=
 K (.tuple #[(I 0), (I 0)]) h_1

def sh_grid_Shape_L2 (P : Program) (cells0 : Value) (K : KT) (rows2 : Value) (h_2 : Heap) (Z : KT) : Prop :=
 pBin .add rows2 (I 1) fun t11 =>
 pBin .add rows2 (I 1) fun t13 =>
 pBin .mul t11 t13 fun t14 =>
 pBin .leq t14 cells0 fun t16 =>
 ifV t16
 (pBin .add rows2 (I 1) fun t18 =>
 Z t18 h_2)
 (pBin .quo cells0 rows2 fun t22 =>
 K (.tuple #[rows2, t22]) h_2)

def sh_grid_Shape (P : Program) (cells0 : Value) (h : Heap) (K : KT) : Prop :=
 pBin .lss cells0 (I 1) fun t5 =>
 ifV t5
 (sh_grid_Shape_k1 P K h)
 (pBin .gtr cells0 (I 256) fun t8 =>
 ifV t8
 (sh_grid_Shape_k1 P K h)
 (LoopH (σ := Vals [2]) (fun x hh ZZ => sh_grid_Shape_L2 P cells0 K x.1 hh (fun a0 hz => ZZ (a0, ()) hz)) ((I 1), ()) h))

theorem lk_grid_Shape (cells0 : Value) (H : sh_grid_Shape Tryz.prog cells0 h K) : CallsH Tryz.prog F_grid_Shape [cells0].toArray h K :=
 callsH_of (ann := (annG (Tryz.f117.body.getD .skip) 0 [(6, [2])]).1) (c := Tryz.f117.body.getD .skip) Tryz.func117 (by kernel_rfl) (by kernel_rfl) (by kernel_rfl) (of_decide_eq_true (by kernel_rfl))
  (Eq.mpr (by kernel_rfl) H)

def sh_grid_places (P : Program) (n0 : Value) (h : Heap) (K : KT) : Prop :=
 pBox T_p_net_Net n0 h fun n1 h_1 =>
 K (.func (.func F_grid_places_1) #[] #[n1]) h_1

theorem lk_grid_places (n0 : Value) (H : sh_grid_places Tryz.prog n0 h K) : CallsH Tryz.prog F_grid_places [n0].toArray h K :=
 lkF Tryz.func118 (Eq.mpr (by kernel_rfl) H)

def sh_grid_with_int64 (P : Program) (e0 x1 : Value) (h : Heap) (K : KT) : Prop :=
 pBox T_grid_ends_int64 e0 h fun e2 h_1 =>
 pBox T_grid_ends_int64 (.agg #[(I 0), (I 0), (.bool false)]) h_1 fun t4 h_2 =>
 pField 2 e2 fun t5 =>
 pLoad h_2 t5 fun t6 =>
 pUn .not t6 fun t7 =>
 ifV t7
 (pBuild [(I 0), (I 0), (.bool false)] [(0, 1, x1), (1, 1, x1), (2, 1, (.bool true))] fun t10 =>
 pStore 3 t4 t10 h_2 fun u h_3 =>
 pLoadN 3 h_3 t4 fun res =>
 K res h_3)
 (pField 0 e2 fun t11 =>
 pLoad h_2 t11 fun t12 =>
 pMin t12 x1 fun t14 =>
 pField 1 e2 fun t15 =>
 pLoad h_2 t15 fun t16 =>
 pMax t16 x1 fun t18 =>
 pBuild [(I 0), (I 0), (.bool false)] [(0, 1, t14), (1, 1, t18), (2, 1, (.bool true))] fun t19 =>
 pStore 3 t4 t19 h_2 fun u_1 h_4 =>
 pLoadN 3 h_4 t4 fun res_1 =>
 K res_1 h_4)

theorem lk_grid_with_int64 (e0 x1 : Value) (H : sh_grid_with_int64 Tryz.prog e0 x1 h K) : CallsH Tryz.prog F_grid_with_int64 [e0, x1].toArray h K :=
 lkF Tryz.func119 (Eq.mpr (by kernel_rfl) H)

def sh_grid_parts (P : Program) (e0 many1 : Value) (h : Heap) (K : KT) : Prop :=
 pBox T_grid_ends_int64 e0 h fun e2 h_1 =>
 pBox T_int many1 h_1 fun many3 h_2 =>
 pField 1 e2 fun t6 =>
 pLoad h_2 t6 fun t7 =>
 pField 0 e2 fun t8 =>
 pLoad h_2 t8 fun t9 =>
 pBin .sub t7 t9 fun t10 =>
 pBin .add t10 (I 1) fun t11 =>
 pBox T_int64 (I 0) h_2 fun wide5 h_3 =>
 pStore 1 wide5 t11 h_3 fun u h_4 =>
 K (.func (.func F_grid_parts_1) #[] #[e2, many3, wide5]) h_4

theorem lk_grid_parts (e0 many1 : Value) (H : sh_grid_parts Tryz.prog e0 many1 h K) : CallsH Tryz.prog F_grid_parts [e0, many1].toArray h K :=
 lkF Tryz.func120 (Eq.mpr (by kernel_rfl) H)

def sh_split_parter_part_L1 (P : Program) (t16 l1 p3 : Value) (K : KT) (t17 : Value) (h_2 : Heap) (Z : KT) : Prop :=
 pBin .lss t17 t16 fun t18 =>
 ifV t18
 (pIdx 1 l1 t17 fun t19 =>
 pLoad h_2 t19 fun t20 =>
 pLoad h_2 p3 fun t21 =>
 pNil t21 fun t22 =>
 pField 1 t22 fun t23 =>
 pLoad h_2 t23 fun t24 =>
 pLoad h_2 p3 fun t26 =>
 pNil t26 fun t27 =>
 pField 2 t27 fun t28 =>
 pLoad h_2 t28 fun t29 =>
 pIdx 1 t24 t20 fun t30 =>
 pStore 1 t30 t29 h_2 fun u h_3 =>
 pBin .add t17 (I 1) fun t31 =>
 Z t31 h_3)
 (DeferS P F_split_parter_part_1 #[p3] h_2 fun h_4 =>
 K (.tuple #[]) h_4)

def sh_split_parter_part (P : Program) (p0 l1 cells2 : Value) (h : Heap) (K : KT) : Prop :=
 pBox T_p_split_parter p0 h fun p3 h_1 =>
 pBin .eql cells2 (I 1) fun t13 =>
 ifV t13
 (pLen l1 fun t16 =>
 LoopH (σ := Vals [17]) (fun x hh ZZ => sh_split_parter_part_L1 P t16 l1 p3 K x.1 hh (fun a0 hz => ZZ (a0, ()) hz)) ((I 0), ()) h_1)
 (pLoad h_1 p3 fun t33 =>
 callS P F_split_parter_way [t33, l1] h_1 fun t35 h_5 =>
 pExt t35 0 fun t36 =>
 pExt t35 1 fun t37 =>
 pLoad h_5 p3 fun t38 =>
 callS P F_split_parter_along [t38, t36] h_5 fun t40 h_6 =>
 pBox T_func_int_int64 .nilFunc h_6 fun value10 h_7 =>
 pStore 1 value10 t40 h_7 fun u_1 h_8 =>
 callS P F_slices_Values_sl_int_int [l1] h_8 fun t42 h_9 =>
 callS P F_slices_SortedFunc_int [t42, (.func (.func F_split_parter_part_2) #[] #[value10])] h_9 fun t44 h_10 =>
 pLen t44 fun t46 =>
 pBin .quo cells2 (I 2) fun t48 =>
 pBin .mul t46 t48 fun t49 =>
 pBin .quo t49 cells2 fun t51 =>
 pLoad h_10 p3 fun t52 =>
 pSlice 1 t44 none (some t51) none fun t55 =>
 pBin .quo cells2 (I 2) fun t57 =>
 callS P F_split_parter_part [t52, t55, t57] h_10 fun t58 h_11 =>
 pLoad h_11 p3 fun t59 =>
 pSlice 1 t44 (some t51) none none fun t62 =>
 pBin .quo cells2 (I 2) fun t65 =>
 pBin .sub cells2 t65 fun t66 =>
 callS P F_split_parter_part [t59, t62, t66] h_11 fun t67 h_12 =>
 K (.tuple #[]) h_12)

theorem lk_split_parter_part (p0 l1 cells2 : Value) (H : sh_split_parter_part Tryz.prog p0 l1 cells2 h K) : CallsH Tryz.prog F_split_parter_part [p0, l1, cells2].toArray h K :=
 callsH_deferIf (g := F_split_parter_part_1) (A := cL (Tryz.f121.body.getD .skip)) (A' := (cL (cL (cR (Tryz.f121.body.getD .skip))))) (B := (cR (cT (cR (cL (cR (Tryz.f121.body.getD .skip))))))) (C := (cR (cR (Tryz.f121.body.getD .skip)))) (annA := (annG (cL (Tryz.f121.body.getD .skip)) 0 []).1) (annA' := (annG (cL (cL (cR (Tryz.f121.body.getD .skip)))) 0 []).1) (annB := (annG (cR (cT (cR (cL (cR (Tryz.f121.body.getD .skip)))))) 0 [(2, [17])]).1) (annC := (annG (cR (cR (Tryz.f121.body.getD .skip))) 0 []).1) (id := cId (cL (cT (cR (cL (cR (Tryz.f121.body.getD .skip))))))) (o1 := cO 0 (cL (cT (cR (cL (cR (Tryz.f121.body.getD .skip))))))) (o2 := cO 1 (cL (cT (cR (cL (cR (Tryz.f121.body.getD .skip))))))) (s := 14) (co := (.tmp 13)) (caps := #[(.tmp 3)]) (c := { callee := .value (.tmp 14), args := #[], argTypes := #[] })
  Tryz.func121 (by kernel_rfl) (by kernel_rfl) (by kernel_rfl) (of_decide_eq_true (by kernel_rfl)) (by kernel_rfl) (by kernel_rfl) (by kernel_rfl) (by kernel_rfl) rfl rfl (by kernel_rfl) (by kernel_rfl)
  (Eq.mpr (by kernel_rfl) H)

end Go.Proofs.YtmdldoolnhpaeaaGreatDoor

set_option maxRecDepth 100000
namespace Go.Proofs.YtmdldoolnhpaeaaGreatDoor
open Go Go.Mh
variable {h : Heap} {K : KT}
set_option maxHeartbeats 0

def sh_slices_Values_sl_graph_place_graph_place (P : Program) (s0 : Value) (h : Heap) (K : KT) : Prop :=
 pBox T_sl_graph_place s0 h fun s1 h_1 =>
 K (.func (.func F_slices_Values_sl_graph_place_graph_place_1) #[] #[s1]) h_1

theorem lk_slices_Values_sl_graph_place_graph_place (s0 : Value) (H : sh_slices_Values_sl_graph_place_graph_place Tryz.prog s0 h K) : CallsH Tryz.prog F_slices_Values_sl_graph_place_graph_place [s0].toArray h K :=
 lkF Tryz.func125 (Eq.mpr (by kernel_rfl) H)

def sh_graph_nodes_1_L2 (P : Program) (t23 t22 t9 yield0 : Value) (K Z : KT) (t24 : Value) (h_3 : Heap) (Z_1 : KT) : Prop :=
 pBin .lss t24 t23 fun t25 =>
 ifV t25
 (pIdx 1 t22 t24 fun t27 =>
 pLoad h_3 t27 fun t28 =>
 pBuild [(I 0), (I 0), (I 0), (I 0), (I 0), (I 0)] [(0, 1, t9), (1, 1, t24), (2, 1, (I 7)), (3, 1, t28), (4, 1, (I (-2147483648))), (5, 1, (I 2147483648))] fun t33 =>
 callV P yield0 [t33].toArray h_3 fun t34 h_4 =>
 pUn .not t34 fun t35 =>
 ifV t35
 (K (.tuple #[]) h_4)
 (pBin .add t24 (I 1) fun t36 =>
 Z_1 t36 h_4))
 (pBin .add t9 (I 1) fun t37 =>
 Z t37 h_3)

def sh_graph_nodes_1_L1 (P : Program) (t8 t1 yield0 : Value) (K : KT) (t9 : Value) (h_1 : Heap) (Z : KT) : Prop :=
 pBin .lss t9 t8 fun t10 =>
 ifV t10
 (pField 1 t1 fun t12 =>
 pLoad h_1 t12 fun t13 =>
 pIdx 1 t13 t9 fun t15 =>
 pLoad h_1 t15 fun t16 =>
 pField 2 t1 fun t17 =>
 pLoad h_1 t17 fun t18 =>
 pIdx 1 t18 t9 fun t20 =>
 pLoad h_1 t20 fun t21 =>
 pBuildSlice T_int64 (zerosL [(I 0)] 2) [(0, 1, t16), (1, 1, t21)] 2 h_1 fun t22 h_2 =>
 pLen t22 fun t23 =>
 LoopH (σ := Vals [24]) (fun x hh ZZ => sh_graph_nodes_1_L2 P t23 t22 t9 yield0 K Z x.1 hh (fun a0 hz => ZZ (a0, ()) hz)) ((I 0), ()) h_2)
 (K (.tuple #[]) h_1)

def sh_graph_nodes_1 (P : Program) (yield0 t1 : Value) (h : Heap) (K : KT) : Prop :=
 pField 1 t1 fun t6 =>
 pLoad h t6 fun t7 =>
 pLen t7 fun t8 =>
 LoopH (σ := Vals [9]) (fun x hh ZZ => sh_graph_nodes_1_L1 P t8 t1 yield0 K x.1 hh (fun a0 hz => ZZ (a0, ()) hz)) ((I 0), ()) h

theorem lk_graph_nodes_1 (yield0 t1 : Value) (H : sh_graph_nodes_1 Tryz.prog yield0 t1 h K) : CallsH Tryz.prog F_graph_nodes_1 [yield0, t1].toArray h K :=
 callsH_of (ann := (annG (Tryz.f126.body.getD .skip) 0 [(1, [9]), (7, [24])]).1) (c := Tryz.f126.body.getD .skip) Tryz.func126 (by kernel_rfl) (by kernel_rfl) (by kernel_rfl) (of_decide_eq_true (by kernel_rfl))
  (Eq.mpr (by kernel_rfl) H)

def sh_graph_arcs_1_L2 (P : Program) (t33 t32 yield0 : Value) (K : KT) (t13 : Value) (Z : KT) (t34 : Value) (h_5 : Heap) (Z_1 : KT) : Prop :=
 pBin .lss t34 t33 fun t35 =>
 ifV t35
 (pIdx 6 t32 t34 fun t36 =>
 pLoadN 6 h_5 t36 fun t37 =>
 pBox T_graph_place (.agg #[(I 0), (I 0), (I 0), (I 0), (I 0), (I 0)]) h_5 fun p7 h_6 =>
 pStore 6 p7 t37 h_6 fun u_1 h_7 =>
 pLoadN 6 h_7 p7 fun t39 =>
 callV P yield0 [t39].toArray h_7 fun t40 h_8 =>
 pUn .not t40 fun t41 =>
 ifV t41
 (K (.tuple #[]) h_8)
 (pBin .add t34 (I 1) fun t42 =>
 Z_1 t42 h_8))
 (pBin .add t13 (I 1) fun t43 =>
 Z t43 h_5)

def sh_graph_arcs_1_L1 (P : Program) (t12 t11 t9 yield0 : Value) (K : KT) (t13 : Value) (h_1 : Heap) (Z : KT) : Prop :=
 pBin .lss t13 t12 fun t14 =>
 ifV t14
 (pIdx 3 t11 t13 fun t16 =>
 pLoadN 3 h_1 t16 fun t17 =>
 pBox T_api_Arc (.agg #[(I 0), (I 0), (I 0)]) h_1 fun a5 h_2 =>
 pStore 3 a5 t17 h_2 fun u h_3 =>
 pField 0 a5 fun t19 =>
 pLoad h_3 t19 fun t20 =>
 pBuild [(I 0), (I 0), (I 0), (I 0), (I 0), (I 0)] [(0, 1, t13), (1, 1, (I 0)), (2, 1, (I 9)), (3, 1, t20), (4, 1, (I 0)), (5, 1, t9)] fun t22 =>
 pField 1 a5 fun t24 =>
 pLoad h_3 t24 fun t25 =>
 pBuild [(I 0), (I 0), (I 0), (I 0), (I 0), (I 0)] [(0, 1, t13), (1, 1, (I 1)), (2, 1, (I 9)), (3, 1, t25), (4, 1, (I 0)), (5, 1, t9)] fun t27 =>
 pField 2 a5 fun t29 =>
 pLoad h_3 t29 fun t30 =>
 pBuild [(I 0), (I 0), (I 0), (I 0), (I 0), (I 0)] [(0, 1, t13), (1, 1, (I 2)), (2, 1, (I 10)), (3, 1, t30), (4, 1, (I 0)), (5, 1, (I 2147483648))] fun t31 =>
 pBuildSlice T_graph_place (zerosL [(I 0), (I 0), (I 0), (I 0), (I 0), (I 0)] 3) [(0, 6, t22), (6, 6, t27), (12, 6, t31)] 3 h_3 fun t32 h_4 =>
 pLen t32 fun t33 =>
 LoopH (σ := Vals [34]) (fun x hh ZZ => sh_graph_arcs_1_L2 P t33 t32 yield0 K t13 Z x.1 hh (fun a0 hz => ZZ (a0, ()) hz)) ((I 0), ()) h_4)
 (K (.tuple #[]) h_1)

def sh_graph_arcs_1 (P : Program) (yield0 t1 : Value) (h : Heap) (K : KT) : Prop :=
 pField 0 t1 fun t8 =>
 pLoad h t8 fun t9 =>
 pField 3 t1 fun t10 =>
 pLoad h t10 fun t11 =>
 pLen t11 fun t12 =>
 LoopH (σ := Vals [13]) (fun x hh ZZ => sh_graph_arcs_1_L1 P t12 t11 t9 yield0 K x.1 hh (fun a0 hz => ZZ (a0, ()) hz)) ((I 0), ()) h

theorem lk_graph_arcs_1 (yield0 t1 : Value) (H : sh_graph_arcs_1 Tryz.prog yield0 t1 h K) : CallsH Tryz.prog F_graph_arcs_1 [yield0, t1].toArray h K :=
 callsH_of (ann := (annG (Tryz.f127.body.getD .skip) 0 [(2, [13]), (8, [34])]).1) (c := Tryz.f127.body.getD .skip) Tryz.func127 (by kernel_rfl) (by kernel_rfl) (by kernel_rfl) (of_decide_eq_true (by kernel_rfl))
  (Eq.mpr (by kernel_rfl) H)

def sh_net_of_1_C5 (P : Program) (t64 : Value) (Z_2 : KT) (h_31 : Heap) : Prop :=
 pBin .add t64 (I 1) fun t83 =>
 Z_2 t83 h_31

def sh_net_of_1_L4 (P : Program) (t63 t62 end0 rows8 : Value) (K : KT) (t64 : Value) (h_14 : Heap) (Z_2 : KT) : Prop :=
 pBin .lss t64 t63 fun t65 =>
 ifV t65
 (cutP (σ := Vals []) (fun J_1 =>
 pIdx 3 t62 t64 fun t67 =>
 pLoadN 3 h_14 t67 fun t68 =>
 pBox T_api_Arc (.agg #[(I 0), (I 0), (I 0)]) h_14 fun a13 h_15 =>
 pStore 3 a13 t68 h_15 fun u_3 h_16 =>
 pLoadN 3 h_16 a13 fun t71 =>
 pLoadN 3 h_16 a13 fun t75 =>
 (callV P end0 [t71].toArray h_16 fun t72 h_17 =>
 (pLoadN 3 h_17 a13 fun t75_1 =>
 t75_1 = t75) /\
 ((callV P end0 [t75].toArray h_17 fun t76 h_18 =>
 pIdx 1 rows8 t76 fun t77 =>
 pLoad h_18 t77 fun t78 =>
 pBuildSlice T_int (zerosL [(I 0)] 1) [(0, 1, t64)] 1 h_18 fun t80 h_19 =>
 pAppend T_int 1 8 [(I 0)] t78 t80 h_19 fun t81 h_20 =>
 pIdx 1 rows8 t72 fun t82 =>
 pStore 1 t82 t81 h_20 fun u_4 h_21 =>
 J_1 () h_21) /\
 (pBuildSlice T_int (zerosL [(I 0)] 1) [(0, 1, t64)] 1 h_17 fun t80_1 h_22 =>
 callV P end0 [t75].toArray h_22 fun t76_1 h_23 =>
 pIdx 1 rows8 t76_1 fun t77_1 =>
 pLoad h_23 t77_1 fun t78_1 =>
 pAppend T_int 1 8 [(I 0)] t78_1 t80_1 h_23 fun t81_1 h_24 =>
 pIdx 1 rows8 t72 fun t82_1 =>
 pStore 1 t82_1 t81_1 h_24 fun u_5 h_25 =>
 J_1 () h_25))) /\
 (pBuildSlice T_int (zerosL [(I 0)] 1) [(0, 1, t64)] 1 h_16 fun t80_2 h_26 =>
 callV P end0 [t71].toArray h_26 fun t72_1 h_27 =>
 (pLoadN 3 h_27 a13 fun t75_2 =>
 t75_2 = t75) /\
 (callV P end0 [t75].toArray h_27 fun t76_2 h_28 =>
 pIdx 1 rows8 t76_2 fun t77_2 =>
 pLoad h_28 t77_2 fun t78_2 =>
 pAppend T_int 1 8 [(I 0)] t78_2 t80_2 h_28 fun t81_2 h_29 =>
 pIdx 1 rows8 t72_1 fun t82_2 =>
 pStore 1 t82_2 t81_2 h_29 fun u_6 h_30 =>
 J_1 () h_30)))
 (fun x hh => sh_net_of_1_C5 P t64 Z_2 hh))
 (K rows8 h_14)

def sh_net_of_1_L3 (P : Program) (t41 t16 all7 rows8 t1 end0 : Value) (K : KT) (at9 t42 : Value) (h_12 : Heap) (Z_1 : Value -> KT) : Prop :=
 pBin .lss t42 t41 fun t43 =>
 ifV t43
 (pIdx 1 t16 t42 fun t45 =>
 pLoad h_12 t45 fun t46 =>
 pBin .add at9 t46 fun t54 =>
 pSlice 1 all7 (some at9) (some at9) (some t54) fun t55 =>
 pIdx 1 rows8 t42 fun t56 =>
 pStore 1 t56 t55 h_12 fun u_2 h_13 =>
 pBin .add at9 t46 fun t59 =>
 pBin .add t42 (I 1) fun t60 =>
 Z_1 t59 t60 h_13)
 (pField 3 t1 fun t61 =>
 pLoad h_12 t61 fun t62 =>
 pLen t62 fun t63 =>
 LoopH (σ := Vals [64]) (fun x hh ZZ => sh_net_of_1_L4 P t63 t62 end0 rows8 K x.1 hh (fun a0 hz => ZZ (a0, ()) hz)) ((I 0), ()) h_12)

def sh_net_of_1_C2 (P : Program) (t16 t1 end0 : Value) (K : KT) (all7 rows8 : Value) (h_11 : Heap) : Prop :=
 pLen t16 fun t41 =>
 LoopH (σ := Vals [9, 42]) (fun x hh ZZ => sh_net_of_1_L3 P t41 t16 all7 rows8 t1 end0 K x.1 x.2.1 hh (fun a0 a1 hz => ZZ (a0, (a1, ())) hz)) ((I 0), ((I 0), ())) h_11

def sh_net_of_1_L1 (P : Program) (t19 t18 end0 t16 t1 : Value) (K : KT) (t20 : Value) (h_2 : Heap) (Z : KT) : Prop :=
 pBin .lss t20 t19 fun t21 =>
 ifV t21
 (pIdx 3 t18 t20 fun t22 =>
 pLoadN 3 h_2 t22 fun t23 =>
 pBox T_api_Arc (.agg #[(I 0), (I 0), (I 0)]) h_2 fun a6 h_3 =>
 pStore 3 a6 t23 h_3 fun u h_4 =>
 pLoadN 3 h_4 a6 fun t26 =>
 callV P end0 [t26].toArray h_4 fun t27 h_5 =>
 pIdx 1 t16 t27 fun t28 =>
 pLoad h_5 t28 fun t29 =>
 pBin .add t29 (I 1) fun t30 =>
 pIdx 1 t16 t27 fun t31 =>
 pStore 1 t31 t30 h_5 fun u_1 h_6 =>
 pBin .add t20 (I 1) fun t32 =>
 Z t32 h_6)
 (cutP (σ := Vals [7, 8]) (fun J =>
 pField 3 t1 fun t33 =>
 pLoad h_2 t33 fun t34 =>
 pLen t34 fun t35 =>
 pField 0 t1 fun t37 =>
 pLoad h_2 t37 fun t38 =>
 (pMakeSlice T_int 8 [(I 0)] t35 t35 h_2 fun t36 h_7 =>
 pMakeSlice T_sl_int 24 [(.slice none 0 0)] t38 t38 h_7 fun t39 h_8 =>
 J (t36, (t39, ())) h_8) /\
 (pMakeSlice T_sl_int 24 [(.slice none 0 0)] t38 t38 h_2 fun t39_1 h_9 =>
 pMakeSlice T_int 8 [(I 0)] t35 t35 h_9 fun t36_1 h_10 =>
 J (t36_1, (t39_1, ())) h_10))
 (fun x hh => sh_net_of_1_C2 P t16 t1 end0 K x.1 x.2.1 hh))

def sh_net_of_1 (P : Program) (end0 t1 : Value) (h : Heap) (K : KT) : Prop :=
 pField 0 t1 fun t14 =>
 pLoad h t14 fun t15 =>
 pMakeSlice T_int 8 [(I 0)] t15 t15 h fun t16 h_1 =>
 pField 3 t1 fun t17 =>
 pLoad h_1 t17 fun t18 =>
 pLen t18 fun t19 =>
 LoopH (σ := Vals [20]) (fun x hh ZZ => sh_net_of_1_L1 P t19 t18 end0 t16 t1 K x.1 hh (fun a0 hz => ZZ (a0, ()) hz)) ((I 0), ()) h_1

theorem lk_net_of_1 (end0 t1 : Value) (H : sh_net_of_1 Tryz.prog end0 t1 h K) : CallsH Tryz.prog F_net_of_1 [end0, t1].toArray h K :=
 callsH_of (ann := (annG (Tryz.f128.body.getD .skip) 0 [(4, [20]), (9, [7, 8]), (13, [9, 42]), (21, [64]), (24, [])]).1) (c := Tryz.f128.body.getD .skip) Tryz.func128 (by kernel_rfl) (by kernel_rfl) (by kernel_rfl) (of_decide_eq_true (by kernel_rfl))
  (Eq.mpr (by kernel_rfl) H)

def sh_net_of_2 (P : Program) (a0 : Value) (h : Heap) (K : KT) : Prop :=
 pBox T_api_Arc a0 h fun a1 h_1 =>
 pField 0 a1 fun t3 =>
 pLoad h_1 t3 fun t4 =>
 K t4 h_1

theorem lk_net_of_2 (a0 : Value) (H : sh_net_of_2 Tryz.prog a0 h K) : CallsH Tryz.prog F_net_of_2 [a0].toArray h K :=
 lkF Tryz.func129 (Eq.mpr (by kernel_rfl) H)

def sh_net_of_3 (P : Program) (a0 : Value) (h : Heap) (K : KT) : Prop :=
 pBox T_api_Arc a0 h fun a1 h_1 =>
 pField 1 a1 fun t3 =>
 pLoad h_1 t3 fun t4 =>
 K t4 h_1

theorem lk_net_of_3 (a0 : Value) (H : sh_net_of_3 Tryz.prog a0 h K) : CallsH Tryz.prog F_net_of_3 [a0].toArray h K :=
 lkF Tryz.func130 (Eq.mpr (by kernel_rfl) H)

def sh_slices_Clone_sl_int64_int64 (P : Program) (s0 : Value) (h : Heap) (K : KT) : Prop :=
 pEq false .slice s0 (.slice none 0 0) fun t4 =>
 ifV t4
 (K (.slice none 0 0) h)
 (pBuildSlice T_int64 (zerosL [(I 0)] 0) [] 0 h fun t5 h_1 =>
 pAppend T_int64 1 8 [(I 0)] t5 s0 h_1 fun t7 h_2 =>
 K t7 h_2)

theorem lk_slices_Clone_sl_int64_int64 (s0 : Value) (H : sh_slices_Clone_sl_int64_int64 Tryz.prog s0 h K) : CallsH Tryz.prog F_slices_Clone_sl_int64_int64 [s0].toArray h K :=
 lkF Tryz.func131 (Eq.mpr (by kernel_rfl) H)

def sh_slices_Clone_sl_api_Arc_api_Arc (P : Program) (s0 : Value) (h : Heap) (K : KT) : Prop :=
 pEq false .slice s0 (.slice none 0 0) fun t4 =>
 ifV t4
 (K (.slice none 0 0) h)
 (pBuildSlice T_api_Arc (zerosL [(I 0), (I 0), (I 0)] 0) [] 0 h fun t5 h_1 =>
 pAppend T_api_Arc 3 24 [(I 0), (I 0), (I 0)] t5 s0 h_1 fun t7 h_2 =>
 K t7 h_2)

theorem lk_slices_Clone_sl_api_Arc_api_Arc (s0 : Value) (H : sh_slices_Clone_sl_api_Arc_api_Arc Tryz.prog s0 h K) : CallsH Tryz.prog F_slices_Clone_sl_api_Arc_api_Arc [s0].toArray h K :=
 lkF Tryz.func132 (Eq.mpr (by kernel_rfl) H)

def sh_table_may_1 (P : Program) (v0 t1 t2 : Value) (h : Heap) (K : KT) : Prop :=
 pLoad h t1 fun t5 =>
 pLook (.int .i64) (I 0) false h t5 v0 fun t7 =>
 pBin .add t7 (I 1) fun t8 =>
 pMapSet (.int .i64) t5 v0 t8 h fun u h_1 =>
 pBin .lss v0 (I 0) fun t10 =>
 ifV t10
 (K (.bool true) h_1)
 (pLoad h_1 t2 fun t13 =>
 pBin .geq v0 t13 fun t14 =>
 ifV t14
 (K (.bool true) h_1)
 (pLoad h_1 t1 fun t17 =>
 pLook (.int .i64) (I 0) false h_1 t17 v0 fun t19 =>
 pBin .gtr t19 (I 1) fun t20 =>
 K t20 h_1))

theorem lk_table_may_1 (v0 t1 t2 : Value) (H : sh_table_may_1 Tryz.prog v0 t1 t2 h K) : CallsH Tryz.prog F_table_may_1 [v0, t1, t2].toArray h K :=
 lkF Tryz.func133 (Eq.mpr (by kernel_rfl) H)

def sh_slices_ContainsFunc_sl_int_int (P : Program) (s0 f1 : Value) (h : Heap) (K : KT) : Prop :=
 callS P F_slices_IndexFunc_sl_int_int [s0, f1] h fun t7 h_1 =>
 pBin .geq t7 (I 0) fun t8 =>
 K t8 h_1

theorem lk_slices_ContainsFunc_sl_int_int (s0 f1 : Value) (H : sh_slices_ContainsFunc_sl_int_int Tryz.prog s0 f1 h K) : CallsH Tryz.prog F_slices_ContainsFunc_sl_int_int [s0, f1].toArray h K :=
 lkF Tryz.func134 (Eq.mpr (by kernel_rfl) H)

def sh_slices_AppendSeq_sl_sl_int64_sl_int64_B1 (P : Program) (h_1 : Heap) (s2 : Value) (L : Loop) (t7 : Value) (h_2 : Heap) (R : Exit -> Heap -> Prop) : Prop :=
 beginR (h_1.size + 1) L h_2 fun h_3 =>
 pLoad h_3 s2 fun t8 =>
 pBuildSlice T_sl_int64 (zerosL [(.slice none 0 0)] 1) [(0, 1, t7)] 1 h_3 fun t10 h_4 =>
 pAppend T_sl_int64 1 24 [(.slice none 0 0)] t8 t10 h_4 fun t11 h_5 =>
 pStore 1 s2 t11 h_5 fun u h_6 =>
 R .normal h_6

def sh_slices_AppendSeq_sl_sl_int64_sl_int64 (P : Program) (s0 seq1 : Value) (h : Heap) (K : KT) : Prop :=
 pBox T_sl_sl_int64 s0 h fun s2 h_1 =>
 rangeH P seq1 [7] (h_1.size + 1) (h_1.push (.deferred (some []))) (fun L x hh R => sh_slices_AppendSeq_sl_sl_int64_sl_int64_B1 P h_1 s2 L x.1 hh R)
 (fun h_7 => pLoad h_7 s2 fun t12 =>
 takeM (h_1.size :: []) h_7 fun h_8 =>
 K t12 h_8)
 (fun h_9 => takeM (h_1.size :: []) h_9 fun h_10 =>
 K (.slice none 0 0) h_10)
 []

theorem lk_slices_AppendSeq_sl_sl_int64_sl_int64 (s0 seq1 : Value) (H : sh_slices_AppendSeq_sl_sl_int64_sl_int64 Tryz.prog s0 seq1 h K) : CallsH Tryz.prog F_slices_AppendSeq_sl_sl_int64_sl_int64 [s0, seq1].toArray h K :=
 lkF Tryz.func135 (Eq.mpr (by kernel_rfl) H)

def sh_table_rows_1_L1 (P : Program) (t8 t7 t2 t3 yield0 : Value) (K : KT) (t9 : Value) (h_1 : Heap) (Z : KT) : Prop :=
 pBin .lss t9 t8 fun t10 =>
 ifV t10
 (pIdx 1 t7 t9 fun t11 =>
 pLoad h_1 t11 fun t12 =>
 pLoad h_1 t2 fun t14 =>
 pLoad h_1 t3 fun t15 =>
 callV P t14 [t15, t12].toArray h_1 fun t17 h_2 =>
 pPart1 0 t17 fun t18 =>
 callV P yield0 [t18].toArray h_2 fun t19 h_3 =>
 pUn .not t19 fun t20 =>
 ifV t20
 (K (.tuple #[]) h_3)
 (pBin .add t9 (I 1) fun t21 =>
 Z t21 h_3))
 (K (.tuple #[]) h_1)

def sh_table_rows_1 (P : Program) (yield0 t1 t2 t3 : Value) (h : Heap) (K : KT) : Prop :=
 pLoad h t1 fun t7 =>
 pLen t7 fun t8 =>
 LoopH (σ := Vals [9]) (fun x hh ZZ => sh_table_rows_1_L1 P t8 t7 t2 t3 yield0 K x.1 hh (fun a0 hz => ZZ (a0, ()) hz)) ((I 0), ()) h

theorem lk_table_rows_1 (yield0 t1 t2 t3 : Value) (H : sh_table_rows_1 Tryz.prog yield0 t1 t2 t3 h K) : CallsH Tryz.prog F_table_rows_1 [yield0, t1, t2, t3].toArray h K :=
 callsH_of (ann := (annG (Tryz.f136.body.getD .skip) 0 [(1, [9])]).1) (c := Tryz.f136.body.getD .skip) Tryz.func136 (by kernel_rfl) (by kernel_rfl) (by kernel_rfl) (of_decide_eq_true (by kernel_rfl))
  (Eq.mpr (by kernel_rfl) H)

def sh_flood_flood_k1 (P : Program) (t8 : Value) (K : KT) (h_2 : Heap) : Prop :=
 pBuild [(.slice none 0 0), (.slice none 0 0), (.slice none 0 0)] [] fun t27 =>
 pStore 3 t8 t27 h_2 fun u h_3 =>
 pLoadN 3 h_3 t8 fun res =>
 K res h_3

def sh_flood_flood_B3 (P : Program) (h_28 : Heap) (r9 key11_1 : Value) (L : Loop) (t101 t102 : Value) (h_29 : Heap) (R : Exit -> Heap -> Prop) : Prop :=
 pBox T_api_Arc (.agg #[(I 0), (I 0), (I 0)]) h_29 fun a14 h_30 =>
 pStore 3 a14 t102 h_30 fun u_6 h_31 =>
 beginR (h_28.size + 1) L h_31 fun h_32 =>
 pLoad h_32 r9 fun t103 =>
 pField 1 a14 fun t104 =>
 pLoad h_32 t104 fun t105 =>
 pLoad h_32 key11_1 fun t107 =>
 pField 2 a14 fun t108 =>
 pLoad h_32 t108 fun t109 =>
 pBin .add t107 t109 fun t110 =>
 callS P F_flood_run_reach [t103, t105, t101, t110] h_32 fun t111 h_33 =>
 R .normal h_33

def sh_flood_flood_L2 (P : Program) (r9 next2 n0 end3 t8 : Value) (K : KT) (m : List Nat) (v10 key11_1 is12 : Value) (h_21 : Heap) (Z : List Nat -> Value -> Value -> KT) : Prop :=
 ifV is12
 (pLoad h_21 r9 fun t68 =>
 pNil t68 fun t69 =>
 pField 4 t69 fun t70 =>
 pLoad h_21 t70 fun t71 =>
 pLook (.int .i64) (I 0) false h_21 t71 v10 fun t73 =>
 pBin .add t73 (I 1) fun t74 =>
 pMapSet (.int .i64) t71 v10 t74 h_21 fun u_3 h_22 =>
 pLoad h_22 r9 fun t75 =>
 pNil t75 fun t76 =>
 pField 1 t76 fun t77 =>
 pField 0 t77 fun t78 =>
 pLoad h_22 t78 fun t79 =>
 pLoad h_22 key11_1 fun t81 =>
 pIdx 1 t79 v10 fun t82 =>
 pStore 1 t82 t81 h_22 fun u_4 h_23 =>
 pLoad h_23 r9 fun t83 =>
 pLoad h_23 r9 fun t84 =>
 pNil t84 fun t85 =>
 pField 1 t85 fun t86 =>
 pField 2 t86 fun t87 =>
 pLoad h_23 t87 fun t88 =>
 pBuildSlice T_int (zerosL [(I 0)] 1) [(0, 1, v10)] 1 h_23 fun t90 h_24 =>
 pAppend T_int 1 8 [(I 0)] t88 t90 h_24 fun t91 h_25 =>
 (pLoad h_25 r9 fun t83_1 =>
 t83_1 = t83) /\
 (pNil t83 fun t92 =>
 pField 1 t92 fun t93 =>
 pField 2 t93 fun t94 =>
 pStore 1 t94 t91 h_25 fun u_5 h_26 =>
 callV P next2 [v10].toArray h_26 fun t98 h_27 =>
 callS P F_flood_arcs [n0, t98, end3] h_27 fun t100 h_28 =>
 rangeH P t100 [101, 102] (h_28.size + 1) (h_28.push (.deferred (some []))) (fun L x hh R => sh_flood_flood_B3 P h_28 r9 key11_1 L x.1 x.2.1 hh R)
 (fun h_34 => pLoad h_34 key11_1 fun t112 =>
 pBox T_int64 (I 0) h_34 fun key11_2 h_35 =>
 pStore 1 key11_2 t112 h_35 fun u_7 h_36 =>
 pLoad h_36 r9 fun t60 =>
 pNil t60 fun t61 =>
 pField 0 t61 fun t62 =>
 pLoad h_36 t62 fun t63 =>
 callS P F_heap_Heap_Pop [t63] h_36 fun t64 h_37 =>
 pExt t64 0 fun t65 =>
 pExt t64 1 fun t66 =>
 pExt t64 2 fun t67 =>
 pStore 1 key11_2 t66 h_37 fun u_8 h_38 =>
 Z (h_28.size :: m) t65 key11_2 t67 h_38)
 (fun h_39 => takeM (h_28.size :: m) h_39 fun h_40 =>
 pLoadN 3 h_40 t8 fun res_1 =>
 K res_1 h_40)
 []))
 (pLoad h_21 r9 fun t113 =>
 pNil t113 fun t114 =>
 pField 1 t114 fun t115 =>
 pLoadN 3 h_21 t115 fun t116 =>
 pStore 3 t8 t116 h_21 fun u_9 h_41 =>
 takeM m h_41 fun h_42 =>
 pLoadN 3 h_42 t8 fun res_2 =>
 K res_2 h_42)

def sh_flood_flood (P : Program) (n0 s1 next2 end3 : Value) (h : Heap) (K : KT) : Prop :=
 pBox T_flood_Tree (.agg #[(.slice none 0 0), (.slice none 0 0), (.slice none 0 0)]) h fun t8 h_1 =>
 pEq false .ptr n0 (.pointer none) fun t16 =>
 ifV t16
 (sh_flood_flood_k1 P t8 K h_1)
 (pBin .lss s1 (I 0) fun t19 =>
 ifV t19
 (sh_flood_flood_k1 P t8 K h_1)
 (callS P F_net_Net_Nodes [n0] h_1 fun t24 h_4 =>
 pBin .geq s1 t24 fun t25 =>
 ifV t25
 (sh_flood_flood_k1 P t8 K h_4)
 (callS P F_net_Net_Nodes [n0] h_4 fun t29 h_5 =>
 callS P F_heap_New [t29] h_5 fun t30 h_6 =>
 pBuildSlice T_int64 (zerosL [(I 0)] 1) [(0, 1, (I 72057594037927936))] 1 h_6 fun t31 h_7 =>
 callS P F_net_Net_Nodes [n0] h_7 fun t33 h_8 =>
 callS P F_slices_Repeat_sl_int64_int64 [t31, t33] h_8 fun t34 h_9 =>
 pBuildSlice T_int (zerosL [(I 0)] 1) [(0, 1, (I (-1)))] 1 h_9 fun t35 h_10 =>
 callS P F_net_Net_Nodes [n0] h_10 fun t37 h_11 =>
 callS P F_slices_Repeat_sl_int_int [t35, t37] h_11 fun t38 h_12 =>
 pBuild [(.slice none 0 0), (.slice none 0 0), (.slice none 0 0)] [(0, 1, t34), (1, 1, t38)] fun t39 =>
 pMakeMap h_12 fun t40 h_13 =>
 pBuild [(.pointer none), (.slice none 0 0), (.slice none 0 0), (.slice none 0 0), (.map none)] [(0, 1, t30), (1, 3, t39), (4, 1, t40)] fun t41 =>
 pBox T_flood_run t41 h_13 fun t42 h_14 =>
 pBox T_p_flood_run (.pointer none) h_14 fun r9 h_15 =>
 pStore 1 r9 t42 h_15 fun u_1 h_16 =>
 pLoad h_16 r9 fun t43 =>
 pNil t43 fun t44 =>
 pField 0 t44 fun t45 =>
 pLoad h_16 t45 fun t46 =>
 callS P F_heap_Heap_Push [t46, s1, (I 0)] h_16 fun t48 h_17 =>
 pLoad h_17 r9 fun t50 =>
 pNil t50 fun t51 =>
 pField 0 t51 fun t52 =>
 pLoad h_17 t52 fun t53 =>
 callS P F_heap_Heap_Pop [t53] h_17 fun t54 h_18 =>
 pExt t54 0 fun t55 =>
 pExt t54 1 fun t56 =>
 pExt t54 2 fun t57 =>
 pBox T_int64 (I 0) h_18 fun key11 h_19 =>
 pStore 1 key11 t56 h_19 fun u_2 h_20 =>
 LoopH (σ := List Nat × Vals [10, 11, 12]) (fun x hh ZZ => sh_flood_flood_L2 P r9 next2 n0 end3 t8 K x.1 x.2.1 x.2.2.1 x.2.2.2.1 hh (fun mz a0 a1 a2 hz => ZZ (mz, (a0, (a1, (a2, ())))) hz)) ([], (t55, (key11, (t57, ())))) h_20)))

theorem lk_flood_flood (n0 s1 next2 end3 : Value) (H : sh_flood_flood Tryz.prog n0 s1 next2 end3 h K) : CallsH Tryz.prog F_flood_flood [n0, s1, next2, end3].toArray h K :=
 callsH_of (ann := (annG (Tryz.f137.body.getD .skip) 0 [(8, [10, 11, 12])]).1) (c := Tryz.f137.body.getD .skip) Tryz.func137 (by kernel_rfl) (by kernel_rfl) (by kernel_rfl) (of_decide_eq_true (by kernel_rfl))
  (Eq.mpr (by kernel_rfl) H)

def sh_net_Net_In (P : Program) (n0 v1 : Value) (h : Heap) (K : KT) : Prop :=
 pEq false .ptr n0 (.pointer none) fun t8 =>
 ifV t8
 (K (.slice none 0 0) h)
 (pNil n0 fun t11 =>
 pField 5 t11 fun t12 =>
 pLoad h t12 fun t13 =>
 callS P F_net_one_sl_int [t13, v1] h fun t15 h_1 =>
 pExt t15 0 fun t16 =>
 pExt t15 1 fun t17 =>
 callS P F_slices_Clone_sl_int_int [t16] h_1 fun t19 h_2 =>
 K t19 h_2)

theorem lk_net_Net_In (n0 v1 : Value) (H : sh_net_Net_In Tryz.prog n0 v1 h K) : CallsH Tryz.prog F_net_Net_In [n0, v1].toArray h K :=
 lkF Tryz.func138 (Eq.mpr (by kernel_rfl) H)

def sh_flood_To_1 (P : Program) (a0 : Value) (h : Heap) (K : KT) : Prop :=
 pBox T_api_Arc a0 h fun a1 h_1 =>
 pField 0 a1 fun t3 =>
 pLoad h_1 t3 fun t4 =>
 K t4 h_1

theorem lk_flood_To_1 (a0 : Value) (H : sh_flood_To_1 Tryz.prog a0 h K) : CallsH Tryz.prog F_flood_To_1 [a0].toArray h K :=
 lkF Tryz.func139 (Eq.mpr (by kernel_rfl) H)

def sh_net_Net_Out (P : Program) (n0 v1 : Value) (h : Heap) (K : KT) : Prop :=
 pEq false .ptr n0 (.pointer none) fun t8 =>
 ifV t8
 (K (.slice none 0 0) h)
 (pNil n0 fun t11 =>
 pField 4 t11 fun t12 =>
 pLoad h t12 fun t13 =>
 callS P F_net_one_sl_int [t13, v1] h fun t15 h_1 =>
 pExt t15 0 fun t16 =>
 pExt t15 1 fun t17 =>
 callS P F_slices_Clone_sl_int_int [t16] h_1 fun t19 h_2 =>
 K t19 h_2)

theorem lk_net_Net_Out (n0 v1 : Value) (H : sh_net_Net_Out Tryz.prog n0 v1 h K) : CallsH Tryz.prog F_net_Net_Out [n0, v1].toArray h K :=
 lkF Tryz.func140 (Eq.mpr (by kernel_rfl) H)

def sh_flood_From_1 (P : Program) (a0 : Value) (h : Heap) (K : KT) : Prop :=
 pBox T_api_Arc a0 h fun a1 h_1 =>
 pField 1 a1 fun t3 =>
 pLoad h_1 t3 fun t4 =>
 K t4 h_1

theorem lk_flood_From_1 (a0 : Value) (H : sh_flood_From_1 Tryz.prog a0 h K) : CallsH Tryz.prog F_flood_From_1 [a0].toArray h K :=
 lkF Tryz.func141 (Eq.mpr (by kernel_rfl) H)

def sh_cell_namer_1_k1 (P : Program) (K : KT) (name4 : Value) (h_2 : Heap) : Prop :=
 K name4 h_2

def sh_cell_namer_1 (P : Program) (old0 t1 : Value) (h : Heap) (K : KT) : Prop :=
 pLoad h t1 fun t7 =>
 pLook (.int .i64) (I 0) true h t7 old0 fun t9 =>
 pExt t9 0 fun t10 =>
 pExt t9 1 fun t11 =>
 pUn .not t11 fun t13 =>
 ifV t13
 (pLoad h t1 fun t14 =>
 pLenM h t14 fun t15 =>
 pLoad h t1 fun t16 =>
 pMapSet (.int .i64) t16 old0 t15 h fun u h_1 =>
 sh_cell_namer_1_k1 P K t15 h_1)
 (sh_cell_namer_1_k1 P K t10 h)

theorem lk_cell_namer_1 (old0 t1 : Value) (H : sh_cell_namer_1 Tryz.prog old0 t1 h K) : CallsH Tryz.prog F_cell_namer_1 [old0, t1].toArray h K :=
 lkF Tryz.func142 (Eq.mpr (by kernel_rfl) H)

def sh_net_Net_Arc (P : Program) (n0 a1 : Value) (h : Heap) (K : KT) : Prop :=
 pBox T_api_Arc (.agg #[(I 0), (I 0), (I 0)]) h fun t4 h_1 =>
 pEq false .ptr n0 (.pointer none) fun t7 =>
 ifV t7
 (pBuild [(I 0), (I 0), (I 0)] [] fun t8 =>
 pStore 3 t4 t8 h_1 fun u h_2 =>
 pLoadN 3 h_2 t4 fun res =>
 K (.tuple #[res, (.bool false)]) h_2)
 (pNil n0 fun t10 =>
 pField 0 t10 fun t11 =>
 pField 3 t11 fun t12 =>
 pLoad h_1 t12 fun t13 =>
 callS P F_net_one_api_Arc [t13, a1] h_1 fun t15 h_3 =>
 pExt t15 0 fun t16 =>
 pExt t15 1 fun t17 =>
 pStore 3 t4 t16 h_3 fun u_1 h_4 =>
 pLoadN 3 h_4 t4 fun res_1 =>
 K (.tuple #[res_1, t17]) h_4)

theorem lk_net_Net_Arc (n0 a1 : Value) (H : sh_net_Net_Arc Tryz.prog n0 a1 h K) : CallsH Tryz.prog F_net_Net_Arc [n0, a1].toArray h K :=
 lkF Tryz.func143 (Eq.mpr (by kernel_rfl) H)

end Go.Proofs.YtmdldoolnhpaeaaGreatDoor

set_option maxRecDepth 100000
namespace Go.Proofs.YtmdldoolnhpaeaaGreatDoor
open Go Go.Mh
variable {h : Heap} {K : KT}
set_option maxHeartbeats 0

def sh_cell_Cells_Border_1 (P : Program) (arc0 t1 t2 t3 : Value) (h : Heap) (K : KT) : Prop :=
 pLoad h t1 fun t9 =>
 callS P F_net_Net_Arc [t9, arc0] h fun t11 h_1 =>
 pExt t11 0 fun t12 =>
 pExt t11 1 fun t13 =>
 pBox T_api_Arc (.agg #[(I 0), (I 0), (I 0)]) h_1 fun a6 h_2 =>
 pStore 3 a6 t12 h_2 fun u h_3 =>
 pLoad h_3 t2 fun t14 =>
 pNil t14 fun t15 =>
 pField 0 t15 fun t16 =>
 pLoad h_3 t16 fun t17 =>
 pField 0 a6 fun t18 =>
 pLoad h_3 t18 fun t19 =>
 pIdx 1 t17 t19 fun t20 =>
 pLoad h_3 t20 fun t21 =>
 pLoad h_3 t3 fun t22 =>
 pBin .neq t21 t22 fun t23 =>
 K t23 h_3

theorem lk_cell_Cells_Border_1 (arc0 t1 t2 t3 : Value) (H : sh_cell_Cells_Border_1 Tryz.prog arc0 t1 t2 t3 h K) : CallsH Tryz.prog F_cell_Cells_Border_1 [arc0, t1, t2, t3].toArray h K :=
 lkF Tryz.func144 (Eq.mpr (by kernel_rfl) H)

def sh_cell_Cells_nodes (P : Program) (c0 holds1 : Value) (h : Heap) (K : KT) : Prop :=
 pBox T_p_cell_Cells c0 h fun c2 h_1 =>
 pBox T_func_int_bool holds1 h_1 fun holds3 h_2 =>
 K (.func (.func F_cell_Cells_nodes_1) #[] #[c2, holds3]) h_2

theorem lk_cell_Cells_nodes (c0 holds1 : Value) (H : sh_cell_Cells_nodes Tryz.prog c0 holds1 h K) : CallsH Tryz.prog F_cell_Cells_nodes [c0, holds1].toArray h K :=
 lkF Tryz.func145 (Eq.mpr (by kernel_rfl) H)

def sh_cell_Cells_Border_2_C1 (P : Program) (K : KT) (t6 : Value) (h_3 : Heap) : Prop :=
 K t6 h_3

def sh_cell_Cells_Border_2 (P : Program) (v0 t1 t2 t3 t4 : Value) (h : Heap) (K : KT) : Prop :=
 cutP (σ := Vals [6]) (fun J =>
 pLoad h t1 fun t7 =>
 pNil t7 fun t8 =>
 pField 0 t8 fun t9 =>
 pLoad h t9 fun t10 =>
 pIdx 1 t10 v0 fun t12 =>
 pLoad h t12 fun t13 =>
 pLoad h t2 fun t14 =>
 pBin .eql t13 t14 fun t15 =>
 ifV t15
 (pLoad h t3 fun t17 =>
 pLoad h t4 fun t20 =>
 callS P F_net_Net_In [t17, v0] h fun t19 h_1 =>
 (pLoad h_1 t4 fun t20_1 =>
 t20_1 = t20) /\
 (callS P F_slices_ContainsFunc_sl_int_int [t19, t20] h_1 fun t21 h_2 =>
 J (t21, ()) h_2))
 (J ((.bool false), ()) h))
 (fun x hh => sh_cell_Cells_Border_2_C1 P K x.1 hh)

theorem lk_cell_Cells_Border_2 (v0 t1 t2 t3 t4 : Value) (H : sh_cell_Cells_Border_2 Tryz.prog v0 t1 t2 t3 t4 h K) : CallsH Tryz.prog F_cell_Cells_Border_2 [v0, t1, t2, t3, t4].toArray h K :=
 callsH_of (ann := (annG (Tryz.f146.body.getD .skip) 0 [(1, [6])]).1) (c := Tryz.f146.body.getD .skip) Tryz.func146 (by kernel_rfl) (by kernel_rfl) (by kernel_rfl) (of_decide_eq_true (by kernel_rfl))
  (Eq.mpr (by kernel_rfl) H)

def sh_tight_Any_k2 (P : Program) (t15 : Value) (Z : Value -> KT) (l5_1 : Value) (h_8 : Heap) : Prop :=
 pBin .add t15 (I 1) fun t30 =>
 Z l5_1 t30 h_8

def sh_tight_Any_L1 (P : Program) (t14 nodes1 n0 : Value) (K : KT) (l5 t15 : Value) (h_3 : Heap) (Z : Value -> KT) : Prop :=
 pBin .lss t15 t14 fun t16 =>
 ifV t16
 (pIdx 1 nodes1 t15 fun t17 =>
 pLoad h_3 t17 fun t18 =>
 callS P F_tight_there [n0, t18] h_3 fun t21 h_4 =>
 ifV t21
 (pLen l5 fun t24 =>
 callS P F_tight_tells [n0, t18] h_4 fun t27 h_5 =>
 callS P F_tight_marked [t24, t27] h_5 fun t28 h_6 =>
 callS P F_tight_put_bool [l5, t28, (.bool true)] h_6 fun t29 h_7 =>
 sh_tight_Any_k2 P t15 Z t29 h_7)
 (sh_tight_Any_k2 P t15 Z l5 h_4))
 (K l5 h_3)

def sh_tight_Any (P : Program) (n0 nodes1 : Value) (h : Heap) (K : KT) : Prop :=
 pEq false .ptr n0 (.pointer none) fun t9 =>
 ifV t9
 (K (.slice none 0 0) h)
 (callS P F_net_Net_Arcs [n0] h fun t11 h_1 =>
 pMakeSlice T_bool 1 [(.bool false)] t11 t11 h_1 fun t12 h_2 =>
 pLen nodes1 fun t14 =>
 LoopH (σ := Vals [5, 15]) (fun x hh ZZ => sh_tight_Any_L1 P t14 nodes1 n0 K x.1 x.2.1 hh (fun a0 a1 hz => ZZ (a0, (a1, ())) hz)) (t12, ((I 0), ())) h_2)

theorem lk_tight_Any (n0 nodes1 : Value) (H : sh_tight_Any Tryz.prog n0 nodes1 h K) : CallsH Tryz.prog F_tight_Any [n0, nodes1].toArray h K :=
 callsH_of (ann := (annG (Tryz.f147.body.getD .skip) 0 [(7, [5, 15])]).1) (c := Tryz.f147.body.getD .skip) Tryz.func147 (by kernel_rfl) (by kernel_rfl) (by kernel_rfl) (of_decide_eq_true (by kernel_rfl))
  (Eq.mpr (by kernel_rfl) H)

def sh_math_bits_Mul (P : Program) (x0 y1 : Value) (h : Heap) (K : KT) : Prop :=
 callS P F_math_bits_Mul64 [x0, y1] h fun t25 h_1 =>
 pExt t25 0 fun t26 =>
 pExt t25 1 fun t27 =>
 K (.tuple #[t26, t27]) h_1

theorem lk_math_bits_Mul (x0 y1 : Value) (H : sh_math_bits_Mul Tryz.prog x0 y1 h K) : CallsH Tryz.prog F_math_bits_Mul [x0, y1].toArray h K :=
 lkF Tryz.func148 (Eq.mpr (by kernel_rfl) H)

def sh_heap_Heap_Key (P : Program) (h0 id1 : Value) (h : Heap) (K : KT) : Prop :=
 callS P F_heap_Heap_Len [h0] h fun t9 h_1 =>
 pBin .eql t9 (I 0) fun t10 =>
 ifV t10
 (K (.tuple #[(I 0), (.bool false)]) h_1)
 (pNil h0 fun t13 =>
 pField 0 t13 fun t14 =>
 pField 1 t14 fun t15 =>
 pLoad h_1 t15 fun t16 =>
 pLook (.int .i64) (I 0) true h_1 t16 id1 fun t18 =>
 pExt t18 0 fun t19 =>
 pExt t18 1 fun t20 =>
 pUn .not t20 fun t22 =>
 ifV t22
 (K (.tuple #[(I 0), (.bool false)]) h_1)
 (pNil h0 fun t24 =>
 pField 0 t24 fun t25 =>
 pField 0 t25 fun t26 =>
 pLoad h_1 t26 fun t27 =>
 pIdx 2 t27 t19 fun t29 =>
 pField 1 t29 fun t30 =>
 pLoad h_1 t30 fun t31 =>
 K (.tuple #[t31, (.bool true)]) h_1))

theorem lk_heap_Heap_Key (h0 id1 : Value) (H : sh_heap_Heap_Key Tryz.prog h0 id1 h K) : CallsH Tryz.prog F_heap_Heap_Key [h0, id1].toArray h K :=
 lkF Tryz.func149 (Eq.mpr (by kernel_rfl) H)

def sh_heap_Heap_Lower_k1 (P : Program) (K : KT) (h_1 : Heap) : Prop :=
 K (I 2) h_1

def sh_heap_Heap_Lower (P : Program) (h0 id1 key2 : Value) (h : Heap) (K : KT) : Prop :=
 pEq false .ptr h0 (.pointer none) fun t10 =>
 ifV t10
 (K (I 1) h)
 (pNil h0 fun t13 =>
 pField 0 t13 fun t14 =>
 pField 1 t14 fun t15 =>
 pLoad h t15 fun t16 =>
 pLook (.int .i64) (I 0) true h t16 id1 fun t18 =>
 pExt t18 0 fun t19 =>
 pExt t18 1 fun t20 =>
 pBin .lss id1 (I 0) fun t23 =>
 ifV t23
 (sh_heap_Heap_Lower_k1 P K h)
 (pNil h0 fun t27 =>
 pField 2 t27 fun t28 =>
 pLoad h t28 fun t29 =>
 pBin .geq id1 t29 fun t30 =>
 ifV t30
 (sh_heap_Heap_Lower_k1 P K h)
 (pUn .not t20 fun t34 =>
 ifV t34
 (K (I 20) h)
 (pNil h0 fun t37 =>
 pField 0 t37 fun t38 =>
 pField 0 t38 fun t39 =>
 pLoad h t39 fun t40 =>
 pIdx 2 t40 t19 fun t42 =>
 pField 1 t42 fun t43 =>
 pLoad h t43 fun t44 =>
 pBin .lss t44 key2 fun t46 =>
 ifV t46
 (K (I 2) h)
 (pNil h0 fun t48 =>
 pField 0 t48 fun t49 =>
 pField 0 t49 fun t50 =>
 pLoad h t50 fun t51 =>
 pIdx 2 t51 t19 fun t54 =>
 pField 1 t54 fun t55 =>
 pStore 1 t55 key2 h fun u h_2 =>
 pNil h0 fun t57 =>
 pField 0 t57 fun t58 =>
 callS P F_heap_row_up [t58, t19] h_2 fun t60 h_3 =>
 K (I 0) h_3)))))

theorem lk_heap_Heap_Lower (h0 id1 key2 : Value) (H : sh_heap_Heap_Lower Tryz.prog h0 id1 key2 h K) : CallsH Tryz.prog F_heap_Heap_Lower [h0, id1, key2].toArray h K :=
 lkF Tryz.func150 (Eq.mpr (by kernel_rfl) H)

def sh_heap_Heap_Push_k1 (P : Program) (K : KT) (h_1 : Heap) : Prop :=
 K (I 2) h_1

def sh_heap_Heap_Push (P : Program) (h0 id1 key2 : Value) (h : Heap) (K : KT) : Prop :=
 pEq false .ptr h0 (.pointer none) fun t10 =>
 ifV t10
 (K (I 1) h)
 (pNil h0 fun t13 =>
 pField 0 t13 fun t14 =>
 pField 1 t14 fun t15 =>
 pLoad h t15 fun t16 =>
 pLook (.int .i64) (I 0) true h t16 id1 fun t18 =>
 pExt t18 0 fun t19 =>
 pExt t18 1 fun t20 =>
 ifV t20
 (sh_heap_Heap_Push_k1 P K h)
 (pBin .lss id1 (I 0) fun t24 =>
 ifV t24
 (sh_heap_Heap_Push_k1 P K h)
 (pNil h0 fun t29 =>
 pField 2 t29 fun t30 =>
 pLoad h t30 fun t31 =>
 pBin .geq id1 t31 fun t32 =>
 ifV t32
 (sh_heap_Heap_Push_k1 P K h)
 (pNil h0 fun t35 =>
 pField 0 t35 fun t36 =>
 pField 1 t36 fun t37 =>
 pLoad h t37 fun t38 =>
 pNil h0 fun t41 =>
 pField 0 t41 fun t42 =>
 pField 0 t42 fun t43 =>
 pLoad h t43 fun t44 =>
 pLen t44 fun t45 =>
 pMapSet (.int .i64) t38 id1 t45 h fun u h_2 =>
 pNil h0 fun t48 =>
 pField 0 t48 fun t49 =>
 pField 0 t49 fun t50 =>
 pLoad h_2 t50 fun t51 =>
 pBuild [(I 0), (I 0)] [(0, 1, id1), (1, 1, key2)] fun t54 =>
 pBuildSlice T_heap_held (zerosL [(I 0), (I 0)] 1) [(0, 2, t54)] 1 h_2 fun t55 h_3 =>
 pAppend T_heap_held 2 16 [(I 0), (I 0)] t51 t55 h_3 fun t56 h_4 =>
 pNil h0 fun t57 =>
 pField 0 t57 fun t58 =>
 pField 0 t58 fun t59 =>
 pStore 1 t59 t56 h_4 fun u_1 h_5 =>
 pNil h0 fun t61 =>
 pField 0 t61 fun t62 =>
 pNil h0 fun t64 =>
 pField 0 t64 fun t65 =>
 pField 0 t65 fun t66 =>
 pLoad h_5 t66 fun t67 =>
 pLen t67 fun t68 =>
 pBin .sub t68 (I 1) fun t69 =>
 callS P F_heap_row_up [t62, t69] h_5 fun t70 h_6 =>
 K (I 0) h_6))))

theorem lk_heap_Heap_Push (h0 id1 key2 : Value) (H : sh_heap_Heap_Push Tryz.prog h0 id1 key2 h K) : CallsH Tryz.prog F_heap_Heap_Push [h0, id1, key2].toArray h K :=
 lkF Tryz.func151 (Eq.mpr (by kernel_rfl) H)

def sh_heap_Heap_Len (P : Program) (h0 : Value) (h : Heap) (K : KT) : Prop :=
 pEq false .ptr h0 (.pointer none) fun t4 =>
 ifV t4
 (K (I 0) h)
 (pNil h0 fun t6 =>
 pField 0 t6 fun t7 =>
 pField 0 t7 fun t8 =>
 pLoad h t8 fun t9 =>
 pLen t9 fun t10 =>
 K t10 h)

theorem lk_heap_Heap_Len (h0 : Value) (H : sh_heap_Heap_Len Tryz.prog h0 h K) : CallsH Tryz.prog F_heap_Heap_Len [h0].toArray h K :=
 lkF Tryz.func152 (Eq.mpr (by kernel_rfl) H)

def sh_heap_row_swap (P : Program) (r0 i1 k2 : Value) (h : Heap) (K : KT) : Prop :=
 pNil r0 fun t7 =>
 pField 0 t7 fun t8 =>
 pLoad h t8 fun t9 =>
 pNil r0 fun t12 =>
 pField 0 t12 fun t13 =>
 pLoad h t13 fun t14 =>
 pNil r0 fun t17 =>
 pField 0 t17 fun t18 =>
 pLoad h t18 fun t19 =>
 pIdx 2 t19 k2 fun t21 =>
 pLoadN 2 h t21 fun t22 =>
 pNil r0 fun t24 =>
 pField 0 t24 fun t25 =>
 pLoad h t25 fun t26 =>
 pIdx 2 t26 i1 fun t28 =>
 pLoadN 2 h t28 fun t29 =>
 pIdx 2 t9 i1 fun t30 =>
 pStore 2 t30 t22 h fun u h_1 =>
 pIdx 2 t14 k2 fun t31 =>
 pStore 2 t31 t29 h_1 fun u_1 h_2 =>
 pNil r0 fun t33 =>
 pField 1 t33 fun t34 =>
 pLoad h_2 t34 fun t35 =>
 pNil r0 fun t37 =>
 pField 0 t37 fun t38 =>
 pLoad h_2 t38 fun t39 =>
 pIdx 2 t39 i1 fun t41 =>
 pField 0 t41 fun t42 =>
 pLoad h_2 t42 fun t43 =>
 pNil r0 fun t45 =>
 pField 1 t45 fun t46 =>
 pLoad h_2 t46 fun t47 =>
 pNil r0 fun t49 =>
 pField 0 t49 fun t50 =>
 pLoad h_2 t50 fun t51 =>
 pIdx 2 t51 k2 fun t53 =>
 pField 0 t53 fun t54 =>
 pLoad h_2 t54 fun t55 =>
 pMapEntry (.int .i64) (I 0) t35 t43 h_2 fun t58 h_3 =>
 pExt t58 1 fun t59 =>
 pEntryStore t35 t59 i1 h_3 fun u_2 h_4 =>
 pMapEntry (.int .i64) (I 0) t47 t55 h_4 fun t60 h_5 =>
 pExt t60 1 fun t61 =>
 pEntryStore t47 t61 k2 h_5 fun u_3 h_6 =>
 K (.tuple #[]) h_6

theorem lk_heap_row_swap (r0 i1 k2 : Value) (H : sh_heap_row_swap Tryz.prog r0 i1 k2 h K) : CallsH Tryz.prog F_heap_row_swap [r0, i1, k2].toArray h K :=
 lkF Tryz.func153 (Eq.mpr (by kernel_rfl) H)

def sh_heap_row_down_B2 (P : Program) (h_6 : Heap) (first4 best5 : Value) (L : Loop) (t13 : Value) (h_7 : Heap) (R : Exit -> Heap -> Prop) : Prop :=
 beginR (h_6.size + 1) L h_7 fun h_8 =>
 pLoad h_8 first4 fun t14 =>
 pLoad h_8 best5 fun t16 =>
 callV P t14 [t13, t16].toArray h_8 fun t17 h_9 =>
 ifV t17
 (pStore 1 best5 t13 h_9 fun u_2 h_10 =>
 R .normal h_10)
 (R .normal h_9)

def sh_heap_row_down_L1 (P : Program) (r0 first4 : Value) (K : KT) (m : List Nat) (i1_1 : Value) (h_3 : Heap) (Z : List Nat -> KT) : Prop :=
 pBox T_int (I 0) h_3 fun best5 h_4 =>
 pStore 1 best5 i1_1 h_4 fun u_1 h_5 =>
 callS P F_heap_row_below [r0, i1_1] h_5 fun t12 h_6 =>
 rangeH P t12 [13] (h_6.size + 1) (h_6.push (.deferred (some []))) (fun L x hh R => sh_heap_row_down_B2 P h_6 first4 best5 L x.1 hh R)
 (fun h_11 => pLoad h_11 best5 fun t19 =>
 pBin .eql t19 i1_1 fun t21 =>
 ifV t21
 (takeM (h_6.size :: m) h_11 fun h_12 =>
 K (.tuple #[]) h_12)
 (pLoad h_11 best5 fun t24 =>
 callS P F_heap_row_swap [r0, i1_1, t24] h_11 fun t25 h_13 =>
 pLoad h_13 best5 fun t26 =>
 Z (h_6.size :: m) t26 h_13))
 (fun h_14 => takeM (h_6.size :: m) h_14 fun h_15 =>
 K (.tuple #[]) h_15)
 []

def sh_heap_row_down (P : Program) (r0 i1 : Value) (h : Heap) (K : KT) : Prop :=
 pBox T_func_int_int_bool .nilFunc h fun first4 h_1 =>
 pStore 1 first4 (.func (.func F_heap_row_ahead) #[r0] #[]) h_1 fun u h_2 =>
 LoopH (σ := List Nat × Vals [1]) (fun x hh ZZ => sh_heap_row_down_L1 P r0 first4 K x.1 x.2.1 hh (fun mz a0 hz => ZZ (mz, (a0, ())) hz)) ([], (i1, ())) h_2

theorem lk_heap_row_down (r0 i1 : Value) (H : sh_heap_row_down Tryz.prog r0 i1 h K) : CallsH Tryz.prog F_heap_row_down [r0, i1].toArray h K :=
 callsH_of (ann := (annG (Tryz.f154.body.getD .skip) 0 [(1, [1])]).1) (c := Tryz.f154.body.getD .skip) Tryz.func154 (by kernel_rfl) (by kernel_rfl) (by kernel_rfl) (of_decide_eq_true (by kernel_rfl))
  (Eq.mpr (by kernel_rfl) H)

def sh_slices_AppendSeq_sl_int_int_B1 (P : Program) (h_1 : Heap) (s2 : Value) (L : Loop) (t7 : Value) (h_2 : Heap) (R : Exit -> Heap -> Prop) : Prop :=
 beginR (h_1.size + 1) L h_2 fun h_3 =>
 pLoad h_3 s2 fun t8 =>
 pBuildSlice T_int (zerosL [(I 0)] 1) [(0, 1, t7)] 1 h_3 fun t10 h_4 =>
 pAppend T_int 1 8 [(I 0)] t8 t10 h_4 fun t11 h_5 =>
 pStore 1 s2 t11 h_5 fun u h_6 =>
 R .normal h_6

def sh_slices_AppendSeq_sl_int_int (P : Program) (s0 seq1 : Value) (h : Heap) (K : KT) : Prop :=
 pBox T_sl_int s0 h fun s2 h_1 =>
 rangeH P seq1 [7] (h_1.size + 1) (h_1.push (.deferred (some []))) (fun L x hh R => sh_slices_AppendSeq_sl_int_int_B1 P h_1 s2 L x.1 hh R)
 (fun h_7 => pLoad h_7 s2 fun t12 =>
 takeM (h_1.size :: []) h_7 fun h_8 =>
 K t12 h_8)
 (fun h_9 => takeM (h_1.size :: []) h_9 fun h_10 =>
 K (.slice none 0 0) h_10)
 []

theorem lk_slices_AppendSeq_sl_int_int (s0 seq1 : Value) (H : sh_slices_AppendSeq_sl_int_int Tryz.prog s0 seq1 h K) : CallsH Tryz.prog F_slices_AppendSeq_sl_int_int [s0, seq1].toArray h K :=
 lkF Tryz.func155 (Eq.mpr (by kernel_rfl) H)

def sh_bits_Rows_Get (P : Program) (b0 row1 i2 : Value) (h : Heap) (K : KT) : Prop :=
 callS P F_bits_Rows_place [b0, row1, i2, (.func (.func F_bits_Rows_Get_1) #[] #[])] h fun t10 h_1 =>
 K t10 h_1

theorem lk_bits_Rows_Get (b0 row1 i2 : Value) (H : sh_bits_Rows_Get Tryz.prog b0 row1 i2 h K) : CallsH Tryz.prog F_bits_Rows_Get [b0, row1, i2].toArray h K :=
 lkF Tryz.func158 (Eq.mpr (by kernel_rfl) H)

def sh_far_marks_1_k3 (P : Program) (t1 cover6 m8 i7 : Value) (Z_1 : Value -> KT) (t40 : Value) (h_17 : Heap) : Prop :=
 pLoad h_17 t1 fun t45 =>
 pLoad h_17 cover6 fun t46 =>
 pLoad h_17 m8 fun t47 =>
 callS P F_far_closer [t45, t46, t47] h_17 fun t48 h_18 =>
 pBin .add i7 (I 1) fun t30 =>
 Z_1 t40 t30 h_18

def sh_far_marks_1_L2 (P : Program) (cover6 yield0 : Value) (K : KT) (t1 left4 i7 : Value) (h_9 : Heap) (Z_1 : Value -> KT) : Prop :=
 pLen left4 fun t27 =>
 pBin .gtr t27 (I 0) fun t28 =>
 ifV t28
 (callS P F_far_best_int [left4, (.func (.func F_far_marks_1_1) #[] #[cover6])] h_9 fun t33 h_10 =>
 pBox T_int (I 0) h_10 fun m8 h_11 =>
 pStore 1 m8 t33 h_11 fun u_2 h_12 =>
 pLoad h_12 m8 fun t35 =>
 callV P yield0 [t35].toArray h_12 fun t36 h_13 =>
 pUn .not t36 fun t37 =>
 ifV t37
 (K (.tuple #[]) h_13)
 (callS P F_slices_DeleteFunc_sl_int_int [left4, (.func (.func F_far_marks_1_2) #[] #[m8])] h_13 fun t40 h_14 =>
 pBin .eql i7 (I 0) fun t42 =>
 ifV t42
 (pLoad h_14 t1 fun t43 =>
 callS P F_far_Cover [t43, (.slice none 0 0)] h_14 fun t44 h_15 =>
 pStore 1 cover6 t44 h_15 fun u_3 h_16 =>
 sh_far_marks_1_k3 P t1 cover6 m8 i7 Z_1 t40 h_16)
 (sh_far_marks_1_k3 P t1 cover6 m8 i7 Z_1 t40 h_14)))
 (K (.tuple #[]) h_9)

def sh_far_marks_1_L1 (P : Program) (t13 t11 t1 t2 yield0 : Value) (K : KT) (t14 : Value) (h_3 : Heap) (Z : KT) : Prop :=
 pBin .lss t14 t13 fun t15 =>
 ifV t15
 (pIdx 1 t11 t14 fun t20 =>
 pStore 1 t20 t14 h_3 fun u h_4 =>
 pBin .add t14 (I 1) fun t21 =>
 Z t21 h_4)
 (pLoad h_3 t1 fun t22 =>
 pLoad h_3 t2 fun t23 =>
 pBuildSlice T_int (zerosL [(I 0)] 1) [(0, 1, t23)] 1 h_3 fun t24 h_5 =>
 callS P F_far_Cover [t22, t24] h_5 fun t25 h_6 =>
 pBox T_sl_int64 (.slice none 0 0) h_6 fun cover6 h_7 =>
 pStore 1 cover6 t25 h_7 fun u_1 h_8 =>
 LoopH (σ := Vals [4, 7]) (fun x hh ZZ => sh_far_marks_1_L2 P cover6 yield0 K t1 x.1 x.2.1 hh (fun a0 a1 hz => ZZ (a0, (a1, ())) hz)) (t11, ((I 0), ())) h_8)

def sh_far_marks_1 (P : Program) (yield0 t1 t2 : Value) (h : Heap) (K : KT) : Prop :=
 pLoad h t1 fun t9 =>
 callS P F_net_Net_Nodes [t9] h fun t10 h_1 =>
 pMakeSlice T_int 8 [(I 0)] t10 t10 h_1 fun t11 h_2 =>
 pLen t11 fun t13 =>
 LoopH (σ := Vals [14]) (fun x hh ZZ => sh_far_marks_1_L1 P t13 t11 t1 t2 yield0 K x.1 hh (fun a0 hz => ZZ (a0, ()) hz)) ((I 0), ()) h_2

theorem lk_far_marks_1 (yield0 t1 t2 : Value) (H : sh_far_marks_1 Tryz.prog yield0 t1 t2 h K) : CallsH Tryz.prog F_far_marks_1 [yield0, t1, t2].toArray h K :=
 callsH_of (ann := (annG (Tryz.f159.body.getD .skip) 0 [(3, [14]), (10, [4, 7])]).1) (c := Tryz.f159.body.getD .skip) Tryz.func159 (by kernel_rfl) (by kernel_rfl) (by kernel_rfl) (of_decide_eq_true (by kernel_rfl))
  (Eq.mpr (by kernel_rfl) H)

def sh_far_Cover_L1 (P : Program) (t13 marks1 n0 t11 : Value) (K : KT) (t14 : Value) (h_4 : Heap) (Z : KT) : Prop :=
 pBin .lss t14 t13 fun t15 =>
 ifV t15
 (pIdx 1 marks1 t14 fun t16 =>
 pLoad h_4 t16 fun t17 =>
 callS P F_far_closer [n0, t11, t17] h_4 fun t21 h_5 =>
 pBin .add t14 (I 1) fun t22 =>
 Z t22 h_5)
 (K t11 h_4)

def sh_far_Cover (P : Program) (n0 marks1 : Value) (h : Heap) (K : KT) : Prop :=
 pBuildSlice T_int64 (zerosL [(I 0)] 1) [(0, 1, (I 72057594037927936))] 1 h fun t8 h_1 =>
 callS P F_net_Net_Nodes [n0] h_1 fun t10 h_2 =>
 callS P F_slices_Repeat_sl_int64_int64 [t8, t10] h_2 fun t11 h_3 =>
 pLen marks1 fun t13 =>
 LoopH (σ := Vals [14]) (fun x hh ZZ => sh_far_Cover_L1 P t13 marks1 n0 t11 K x.1 hh (fun a0 hz => ZZ (a0, ()) hz)) ((I 0), ()) h_3

theorem lk_far_Cover (n0 marks1 : Value) (H : sh_far_Cover Tryz.prog n0 marks1 h K) : CallsH Tryz.prog F_far_Cover [n0, marks1].toArray h K :=
 callsH_of (ann := (annG (Tryz.f160.body.getD .skip) 0 [(4, [14])]).1) (c := Tryz.f160.body.getD .skip) Tryz.func160 (by kernel_rfl) (by kernel_rfl) (by kernel_rfl) (of_decide_eq_true (by kernel_rfl))
  (Eq.mpr (by kernel_rfl) H)

def sh_far_best_int_k3 (P : Program) (t9 : Value) (Z : Value -> KT) (x4_1 : Value) (h_3 : Heap) : Prop :=
 pBin .add t9 (I 1) fun t23 =>
 Z x4_1 t23 h_3

def sh_far_best_int_k2 (P : Program) (t9 : Value) (Z : Value -> KT) (t13 : Value) (h_2 : Heap) : Prop :=
 sh_far_best_int_k3 P t9 Z t13 h_2

def sh_far_best_int_L1 (P : Program) (t8 l0 better1 : Value) (K : KT) (x4 t9 : Value) (h_1 : Heap) (Z : Value -> KT) : Prop :=
 pBin .lss t9 t8 fun t10 =>
 ifV t10
 (pIdx 1 l0 t9 fun t12 =>
 pLoad h_1 t12 fun t13 =>
 pBin .eql t9 (I 0) fun t15 =>
 ifV t15
 (sh_far_best_int_k2 P t9 Z t13 h_1)
 (callV P better1 [t13, x4].toArray h_1 fun t20 h_4 =>
 ifV t20
 (sh_far_best_int_k2 P t9 Z t13 h_4)
 (sh_far_best_int_k3 P t9 Z x4 h_4)))
 (K x4 h_1)

def sh_far_best_int (P : Program) (l0 better1 : Value) (h : Heap) (K : KT) : Prop :=
 pLen l0 fun t8 =>
 LoopH (σ := Vals [4, 9]) (fun x hh ZZ => sh_far_best_int_L1 P t8 l0 better1 K x.1 x.2.1 hh (fun a0 a1 hz => ZZ (a0, (a1, ())) hz)) ((I 0), ((I 0), ())) h

theorem lk_far_best_int (l0 better1 : Value) (H : sh_far_best_int Tryz.prog l0 better1 h K) : CallsH Tryz.prog F_far_best_int [l0, better1].toArray h K :=
 callsH_of (ann := (annG (Tryz.f161.body.getD .skip) 0 [(3, [4, 9])]).1) (c := Tryz.f161.body.getD .skip) Tryz.func161 (by kernel_rfl) (by kernel_rfl) (by kernel_rfl) (of_decide_eq_true (by kernel_rfl))
  (Eq.mpr (by kernel_rfl) H)

def sh_far_marks_1_1 (P : Program) (a0 b1 t2 : Value) (h : Heap) (K : KT) : Prop :=
 pLoad h t2 fun t6 =>
 pIdx 1 t6 a0 fun t8 =>
 pLoad h t8 fun t9 =>
 pLoad h t2 fun t10 =>
 pIdx 1 t10 b1 fun t12 =>
 pLoad h t12 fun t13 =>
 pBin .gtr t9 t13 fun t14 =>
 K t14 h

theorem lk_far_marks_1_1 (a0 b1 t2 : Value) (H : sh_far_marks_1_1 Tryz.prog a0 b1 t2 h K) : CallsH Tryz.prog F_far_marks_1_1 [a0, b1, t2].toArray h K :=
 lkF Tryz.func162 (Eq.mpr (by kernel_rfl) H)

def sh_slices_DeleteFunc_sl_int_int_k2 (P : Program) (j6 : Value) (Z : Value -> KT) (i5_1 : Value) (h_5 : Heap) : Prop :=
 pBin .add j6 (I 1) fun t21 =>
 Z i5_1 t21 h_5

def sh_slices_DeleteFunc_sl_int_int_L1 (P : Program) (s0 del1 : Value) (K : KT) (i5 j6 : Value) (h_2 : Heap) (Z : Value -> KT) : Prop :=
 pLen s0 fun t18 =>
 pBin .lss j6 t18 fun t19 =>
 ifV t19
 (pIdx 1 s0 j6 fun t24 =>
 pLoad h_2 t24 fun t25 =>
 callV P del1 [t25].toArray h_2 fun t28 h_3 =>
 pUn .not t28 fun t29 =>
 ifV t29
 (pIdx 1 s0 i5 fun t33 =>
 pStore 1 t33 t25 h_3 fun u h_4 =>
 pBin .add i5 (I 1) fun t35 =>
 sh_slices_DeleteFunc_sl_int_int_k2 P j6 Z t35 h_4)
 (sh_slices_DeleteFunc_sl_int_int_k2 P j6 Z i5 h_3))
 (pSlice 1 s0 (some i5) none none fun t38 =>
 pClear [(I 0)] t38 h_2 fun u_1 h_6 =>
 pSlice 1 s0 none (some i5) none fun t41 =>
 K t41 h_6)

def sh_slices_DeleteFunc_sl_int_int (P : Program) (s0 del1 : Value) (h : Heap) (K : KT) : Prop :=
 callS P F_slices_IndexFunc_sl_int_int [s0, del1] h fun t10 h_1 =>
 pBin .eql t10 (I (-1)) fun t12 =>
 ifV t12
 (K s0 h_1)
 (pBin .add t10 (I 1) fun t15 =>
 LoopH (σ := Vals [5, 6]) (fun x hh ZZ => sh_slices_DeleteFunc_sl_int_int_L1 P s0 del1 K x.1 x.2.1 hh (fun a0 a1 hz => ZZ (a0, (a1, ())) hz)) (t10, (t15, ())) h_1)

theorem lk_slices_DeleteFunc_sl_int_int (s0 del1 : Value) (H : sh_slices_DeleteFunc_sl_int_int Tryz.prog s0 del1 h K) : CallsH Tryz.prog F_slices_DeleteFunc_sl_int_int [s0, del1].toArray h K :=
 callsH_of (ann := (annG (Tryz.f163.body.getD .skip) 0 [(7, [5, 6])]).1) (c := Tryz.f163.body.getD .skip) Tryz.func163 (by kernel_rfl) (by kernel_rfl) (by kernel_rfl) (of_decide_eq_true (by kernel_rfl))
  (Eq.mpr (by kernel_rfl) H)

def sh_far_marks_1_2 (P : Program) (v0 t1 : Value) (h : Heap) (K : KT) : Prop :=
 pLoad h t1 fun t5 =>
 pBin .eql v0 t5 fun t6 =>
 K t6 h

theorem lk_far_marks_1_2 (v0 t1 : Value) (H : sh_far_marks_1_2 Tryz.prog v0 t1 h K) : CallsH Tryz.prog F_far_marks_1_2 [v0, t1].toArray h K :=
 lkF Tryz.func164 (Eq.mpr (by kernel_rfl) H)

end Go.Proofs.YtmdldoolnhpaeaaGreatDoor

set_option maxRecDepth 100000
namespace Go.Proofs.YtmdldoolnhpaeaaGreatDoor
open Go Go.Mh
variable {h : Heap} {K : KT}
set_option maxHeartbeats 0

def sh_far_closer_L1 (P : Program) (t12 t11 cover1 : Value) (K : KT) (t13 : Value) (h_2 : Heap) (Z : KT) : Prop :=
 pBin .lss t13 t12 fun t14 =>
 ifV t14
 (pIdx 1 t11 t13 fun t16 =>
 pLoad h_2 t16 fun t17 =>
 pIdx 1 cover1 t13 fun t22 =>
 pLoad h_2 t22 fun t23 =>
 pMin t23 t17 fun t25 =>
 pIdx 1 cover1 t13 fun t26 =>
 pStore 1 t26 t25 h_2 fun u h_3 =>
 pBin .add t13 (I 1) fun t27 =>
 Z t27 h_3)
 (K (.tuple #[]) h_2)

def sh_far_closer (P : Program) (n0 cover1 mark2 : Value) (h : Heap) (K : KT) : Prop :=
 callS P F_flood_From [n0, mark2] h fun t10 h_1 =>
 pPart1 0 t10 fun t11 =>
 pLen t11 fun t12 =>
 LoopH (σ := Vals [13]) (fun x hh ZZ => sh_far_closer_L1 P t12 t11 cover1 K x.1 hh (fun a0 hz => ZZ (a0, ()) hz)) ((I 0), ()) h_1

theorem lk_far_closer (n0 cover1 mark2 : Value) (H : sh_far_closer Tryz.prog n0 cover1 mark2 h K) : CallsH Tryz.prog F_far_closer [n0, cover1, mark2].toArray h K :=
 callsH_of (ann := (annG (Tryz.f165.body.getD .skip) 0 [(1, [13])]).1) (c := Tryz.f165.body.getD .skip) Tryz.func165 (by kernel_rfl) (by kernel_rfl) (by kernel_rfl) (of_decide_eq_true (by kernel_rfl))
  (Eq.mpr (by kernel_rfl) H)

def sh_draw_Draws_Left (P : Program) (d0 : Value) (h : Heap) (K : KT) : Prop :=
 pEq false .ptr d0 (.pointer none) fun t4 =>
 ifV t4
 (K (I 0) h)
 (pNil d0 fun t6 =>
 pField 0 t6 fun t7 =>
 pLoad h t7 fun t8 =>
 pLen t8 fun t9 =>
 K t9 h)

theorem lk_draw_Draws_Left (d0 : Value) (H : sh_draw_Draws_Left Tryz.prog d0 h K) : CallsH Tryz.prog F_draw_Draws_Left [d0].toArray h K :=
 lkF Tryz.func166 (Eq.mpr (by kernel_rfl) H)

def sh_draw_first_uint32 (P : Program) (l0 : Value) (h : Heap) (K : KT) : Prop :=
 pIdx 1 l0 (I 0) fun t5 =>
 pLoad h t5 fun t6 =>
 pLen l0 fun t9 =>
 pLen l0 fun t11 =>
 pSlice 1 l0 (some (I 1)) (some t9) (some t11) fun t12 =>
 K (.tuple #[t6, t12]) h

theorem lk_draw_first_uint32 (l0 : Value) (H : sh_draw_first_uint32 Tryz.prog l0 h K) : CallsH Tryz.prog F_draw_first_uint32 [l0].toArray h K :=
 lkF Tryz.func167 (Eq.mpr (by kernel_rfl) H)

def sh_avoid_grow_C7 (P : Program) (t7_18 t49 : Value) (R : Exit -> Heap -> Prop) (a15_2 is16 : Value) (h_144 : Heap) : Prop :=
 ifV is16
 (pLoad h_144 t7_18 fun t123 =>
 pNil t123 fun t124 =>
 pField 3 t124 fun t125 =>
 pLoad h_144 t125 fun t126 =>
 pField 0 a15_2 fun t127 =>
 pLoad h_144 t127 fun t128 =>
 pLoad h_144 t7_18 fun t129 =>
 pNil t129 fun t130 =>
 pField 3 t130 fun t131 =>
 pLoad h_144 t131 fun t132 =>
 pField 0 a15_2 fun t133 =>
 pLoad h_144 t133 fun t134 =>
 pLook (.int .i64) (.slice none 0 0) false h_144 t132 t134 fun t135 =>
 pBuildSlice T_int (zerosL [(I 0)] 1) [(0, 1, t49)] 1 h_144 fun t137 h_145 =>
 pAppend T_int 1 8 [(I 0)] t135 t137 h_145 fun t138 h_146 =>
 (pLoad h_146 t7_18 fun t123_1 =>
 t123_1 = t123) /\
 (pLoad h_146 t125 fun t126_1 =>
 t126_1 = t126) /\
 (pLoad h_146 t127 fun t128_1 =>
 t128_1 = t128) /\
 (pMapSet (.int .i64) t126 t128 t138 h_146 fun u_31 h_147 =>
 R .normal h_147))
 (R .normal h_144)

def sh_avoid_grow_k6 (P : Program) (n3 t7_18 t49 : Value) (R : Exit -> Heap -> Prop) (h_137 : Heap) : Prop :=
 cutP (σ := Vals [15, 16]) (fun J_1 =>
 pLoad h_137 n3 fun t110 =>
 pLoad h_137 t7_18 fun t111 =>
 pNil t111 fun t112 =>
 pField 0 t112 fun t113 =>
 pField 1 t113 fun t114 =>
 pLoad h_137 t114 fun t115 =>
 pIdx 1 t115 t49 fun t117 =>
 pLoad h_137 t117 fun t118 =>
 (callS P F_net_Net_Arc [t110, t118] h_137 fun t119 h_138 =>
 pExt t119 0 fun t120 =>
 pExt t119 1 fun t121 =>
 pBox T_api_Arc (.agg #[(I 0), (I 0), (I 0)]) h_138 fun a15 h_139 =>
 pStore 3 a15 t120 h_139 fun u_29 h_140 =>
 J_1 (a15, (t121, ())) h_140) /\
 (pBox T_api_Arc (.agg #[(I 0), (I 0), (I 0)]) h_137 fun a15_1 h_141 =>
 callS P F_net_Net_Arc [t110, t118] h_141 fun t119_1 h_142 =>
 pExt t119_1 0 fun t120_1 =>
 pExt t119_1 1 fun t121_1 =>
 pStore 3 a15_1 t120_1 h_142 fun u_30 h_143 =>
 J_1 (a15_1, (t121_1, ())) h_143))
 (fun x hh => sh_avoid_grow_C7 P t7_18 t49 R x.1 x.2.1 hh)

def sh_avoid_grow_L5 (P : Program) (t72 t71 t7_18 marked8 t49 n3 : Value) (R : Exit -> Heap -> Prop) (own12_1 t73 : Value) (h_133 : Heap) (Z_1 : Value -> KT) : Prop :=
 pBin .lss t73 t72 fun t74 =>
 ifV t74
 (pIdx 1 t71 t73 fun t75 =>
 pLoad h_133 t75 fun t76 =>
 pLoad h_133 t7_18 fun t78 =>
 pNil t78 fun t79 =>
 pField 4 t79 fun t80 =>
 pLoad h_133 t80 fun t81 =>
 pIdx 1 t81 t76 fun t83 =>
 pLoad h_133 t83 fun t84 =>
 callS P F_dist_Sat [own12_1, t84] h_133 fun t85 h_134 =>
 pLoad h_134 marked8 fun t86 =>
 pIdx 1 t86 t49 fun t88 =>
 pLoad h_134 t88 fun t89 =>
 pLoad h_134 marked8 fun t90 =>
 pIdx 1 t90 t76 fun t92 =>
 pLoad h_134 t92 fun t93 =>
 pBin .add t89 t93 fun t94 =>
 pIdx 1 t86 t49 fun t95 =>
 pStore 1 t95 t94 h_134 fun u_27 h_135 =>
 pBin .add t73 (I 1) fun t96 =>
 Z_1 t85 t96 h_135)
 (pLoad h_133 marked8 fun t97 =>
 pIdx 1 t97 t49 fun t99 =>
 pLoad h_133 t99 fun t100 =>
 pBin .eql t100 (I 0) fun t101 =>
 ifV t101
 (pLoad h_133 t7_18 fun t102 =>
 pNil t102 fun t103 =>
 pField 4 t103 fun t104 =>
 pLoad h_133 t104 fun t105 =>
 pIdx 1 t105 t49 fun t108 =>
 pStore 1 t108 own12_1 h_133 fun u_28 h_136 =>
 sh_avoid_grow_k6 P n3 t7_18 t49 R h_136)
 (sh_avoid_grow_k6 P n3 t7_18 t49 R h_133))

def sh_avoid_grow_k4 (P : Program) (t7_18 t49 marked8 n3 : Value) (R : Exit -> Heap -> Prop) (own12 : Value) (h_132 : Heap) : Prop :=
 pLoad h_132 t7_18 fun t66 =>
 pNil t66 fun t67 =>
 pField 3 t67 fun t68 =>
 pLoad h_132 t68 fun t69 =>
 pLook (.int .i64) (.slice none 0 0) false h_132 t69 t49 fun t71 =>
 pLen t71 fun t72 =>
 LoopH (σ := Vals [12, 73]) (fun x hh ZZ => sh_avoid_grow_L5 P t72 t71 t7_18 marked8 t49 n3 R x.1 x.2.1 hh (fun a0 a1 hz => ZZ (a0, (a1, ())) hz)) (own12, ((I 0), ())) h_132

def sh_avoid_grow_B3 (P : Program) (h_128 : Heap) (r5 t7_18 l4 marked8 n3 : Value) (L : Loop) (t49 : Value) (h_129 : Heap) (R : Exit -> Heap -> Prop) : Prop :=
 beginR (h_128.size + 1) L h_129 fun h_130 =>
 pLoad h_130 r5 fun t51 =>
 pBin .neq t49 t51 fun t52 =>
 ifV t52
 (pLoad h_130 t7_18 fun t53 =>
 pNil t53 fun t54 =>
 pField 0 t54 fun t55 =>
 pField 0 t55 fun t56 =>
 pLoad h_130 t56 fun t57 =>
 pIdx 1 t57 t49 fun t59 =>
 pLoad h_130 t59 fun t60 =>
 pLoad h_130 l4 fun t61 =>
 pLoad h_130 r5 fun t62 =>
 callS P F_avoid_bound [t61, t62, t49] h_130 fun t64 h_131 =>
 (pLoad h_131 t7_18 fun t53_1 =>
 t53_1 = t53) /\
 (pLoad h_131 t56 fun t57_1 =>
 t57_1 = t57) /\
 (pLoad h_131 t59 fun t60_1 =>
 t60_1 = t60) /\
 (pBin .sub t60 t64 fun t65 =>
 sh_avoid_grow_k4 P t7_18 t49 marked8 n3 R t65 h_131))
 (sh_avoid_grow_k4 P t7_18 t49 marked8 n3 R (I 0) h_130)

def sh_avoid_grow_L2 (P : Program) (t30 t29 marked8 t7_18 r5 l4 n3 : Value) (K : KT) (t31 : Value) (h_124 : Heap) (Z : KT) : Prop :=
 pBin .lss t31 t30 fun t32 =>
 ifV t32
 (pIdx 7 t29 t31 fun t33 =>
 pLoadN 7 h_124 t33 fun t34 =>
 pBox T_avoid_mark (.agg #[(I 0), (.slice none 0 0), (.slice none 0 0), (.slice none 0 0), (.slice none 0 0), (.slice none 0 0), (.slice none 0 0)]) h_124 fun m10 h_125 =>
 pStore 7 m10 t34 h_125 fun u_25 h_126 =>
 pLoad h_126 marked8 fun t35 =>
 pField 0 m10 fun t36 =>
 pLoad h_126 t36 fun t37 =>
 pIdx 1 t35 t37 fun t38 =>
 pLoad h_126 t38 fun t39 =>
 pBin .add t39 (I 1) fun t40 =>
 pIdx 1 t35 t37 fun t41 =>
 pStore 1 t41 t40 h_126 fun u_26 h_127 =>
 pBin .add t31 (I 1) fun t42 =>
 Z t42 h_127)
 (pLoad h_124 t7_18 fun t43 =>
 pNil t43 fun t44 =>
 pField 0 t44 fun t45 =>
 pField 2 t45 fun t46 =>
 pLoad h_124 t46 fun t47 =>
 callS P F_avoid_behind [t47] h_124 fun t48 h_128 =>
 rangeH P t48 [49] (h_128.size + 1) (h_128.push (.deferred (some []))) (fun L x hh R => sh_avoid_grow_B3 P h_128 r5 t7_18 l4 marked8 n3 L x.1 hh R)
 (fun h_148 => pLoad h_148 t7_18 fun t139 =>
 takeM (h_128.size :: []) h_148 fun h_149 =>
 K t139 h_149)
 (fun h_150 => takeM (h_128.size :: []) h_150 fun h_151 =>
 K (.pointer none) h_151)
 [])

def sh_avoid_grow_C1 (P : Program) (n3 l4 r5 : Value) (K : KT) (t7_18 : Value) (h_119 : Heap) : Prop :=
 pLoad h_119 n3 fun t26 =>
 callS P F_net_Net_Nodes [t26] h_119 fun t27 h_120 =>
 pMakeSlice T_int 8 [(I 0)] t27 t27 h_120 fun t28 h_121 =>
 pBox T_sl_int (.slice none 0 0) h_121 fun marked8 h_122 =>
 pStore 1 marked8 t28 h_122 fun u_24 h_123 =>
 pLoad h_123 l4 fun t29 =>
 pLen t29 fun t30 =>
 LoopH (σ := Vals [31]) (fun x hh ZZ => sh_avoid_grow_L2 P t30 t29 marked8 t7_18 r5 l4 n3 K x.1 hh (fun a0 hz => ZZ (a0, ()) hz)) ((I 0), ()) h_123

def sh_avoid_grow (P : Program) (n0 l1 r2 : Value) (h : Heap) (K : KT) : Prop :=
 pBox T_p_net_Net n0 h fun n3 h_1 =>
 pBox T_sl_avoid_mark l1 h_1 fun l4 h_2 =>
 pBox T_int r2 h_2 fun r5 h_3 =>
 cutP (σ := Vals [7]) (fun J =>
 pLoad h_3 n3 fun t17 =>
 pLoad h_3 r5 fun t18 =>
 pLoad h_3 n3 fun t21 =>
 (callS P F_flood_From [t17, t18] h_3 fun t19 h_4 =>
 (pLoad h_4 n3 fun t21_1 =>
 t21_1 = t21) /\
 ((pMakeMap h_4 fun t20 h_5 =>
 (callS P F_net_Net_Nodes [t21] h_5 fun t22 h_6 =>
 (pMakeSlice T_int64 8 [(I 0)] t22 t22 h_6 fun t23 h_7 =>
 pBuild [(.slice none 0 0), (.slice none 0 0), (.slice none 0 0), (.map none), (.slice none 0 0)] [(0, 3, t19), (3, 1, t20), (4, 1, t23)] fun t24 =>
 (pBox T_avoid_tree t24 h_7 fun t25 h_8 =>
 pBox T_p_avoid_tree (.pointer none) h_8 fun t7 h_9 =>
 pStore 1 t7 t25 h_9 fun u h_10 =>
 J (t7, ()) h_10) /\
 (pBox T_p_avoid_tree (.pointer none) h_7 fun t7_1 h_11 =>
 pBox T_avoid_tree t24 h_11 fun t25_1 h_12 =>
 pStore 1 t7_1 t25_1 h_12 fun u_1 h_13 =>
 J (t7_1, ()) h_13)) /\
 (pBox T_p_avoid_tree (.pointer none) h_6 fun t7_2 h_14 =>
 pMakeSlice T_int64 8 [(I 0)] t22 t22 h_14 fun t23_1 h_15 =>
 pBuild [(.slice none 0 0), (.slice none 0 0), (.slice none 0 0), (.map none), (.slice none 0 0)] [(0, 3, t19), (3, 1, t20), (4, 1, t23_1)] fun t24_1 =>
 pBox T_avoid_tree t24_1 h_15 fun t25_2 h_16 =>
 pStore 1 t7_2 t25_2 h_16 fun u_2 h_17 =>
 J (t7_2, ()) h_17)) /\
 (pBox T_p_avoid_tree (.pointer none) h_5 fun t7_3 h_18 =>
 callS P F_net_Net_Nodes [t21] h_18 fun t22_1 h_19 =>
 pMakeSlice T_int64 8 [(I 0)] t22_1 t22_1 h_19 fun t23_2 h_20 =>
 pBuild [(.slice none 0 0), (.slice none 0 0), (.slice none 0 0), (.map none), (.slice none 0 0)] [(0, 3, t19), (3, 1, t20), (4, 1, t23_2)] fun t24_2 =>
 pBox T_avoid_tree t24_2 h_20 fun t25_3 h_21 =>
 pStore 1 t7_3 t25_3 h_21 fun u_3 h_22 =>
 J (t7_3, ()) h_22)) /\
 (callS P F_net_Net_Nodes [t21] h_4 fun t22_2 h_23 =>
 (pMakeMap h_23 fun t20_1 h_24 =>
 (pMakeSlice T_int64 8 [(I 0)] t22_2 t22_2 h_24 fun t23_3 h_25 =>
 pBuild [(.slice none 0 0), (.slice none 0 0), (.slice none 0 0), (.map none), (.slice none 0 0)] [(0, 3, t19), (3, 1, t20_1), (4, 1, t23_3)] fun t24_3 =>
 (pBox T_avoid_tree t24_3 h_25 fun t25_4 h_26 =>
 pBox T_p_avoid_tree (.pointer none) h_26 fun t7_4 h_27 =>
 pStore 1 t7_4 t25_4 h_27 fun u_4 h_28 =>
 J (t7_4, ()) h_28) /\
 (pBox T_p_avoid_tree (.pointer none) h_25 fun t7_5 h_29 =>
 pBox T_avoid_tree t24_3 h_29 fun t25_5 h_30 =>
 pStore 1 t7_5 t25_5 h_30 fun u_5 h_31 =>
 J (t7_5, ()) h_31)) /\
 (pBox T_p_avoid_tree (.pointer none) h_24 fun t7_6 h_32 =>
 pMakeSlice T_int64 8 [(I 0)] t22_2 t22_2 h_32 fun t23_4 h_33 =>
 pBuild [(.slice none 0 0), (.slice none 0 0), (.slice none 0 0), (.map none), (.slice none 0 0)] [(0, 3, t19), (3, 1, t20_1), (4, 1, t23_4)] fun t24_4 =>
 pBox T_avoid_tree t24_4 h_33 fun t25_6 h_34 =>
 pStore 1 t7_6 t25_6 h_34 fun u_6 h_35 =>
 J (t7_6, ()) h_35)) /\
 (pMakeSlice T_int64 8 [(I 0)] t22_2 t22_2 h_23 fun t23_5 h_36 =>
 (pMakeMap h_36 fun t20_2 h_37 =>
 pBuild [(.slice none 0 0), (.slice none 0 0), (.slice none 0 0), (.map none), (.slice none 0 0)] [(0, 3, t19), (3, 1, t20_2), (4, 1, t23_5)] fun t24_5 =>
 (pBox T_avoid_tree t24_5 h_37 fun t25_7 h_38 =>
 pBox T_p_avoid_tree (.pointer none) h_38 fun t7_7 h_39 =>
 pStore 1 t7_7 t25_7 h_39 fun u_7 h_40 =>
 J (t7_7, ()) h_40) /\
 (pBox T_p_avoid_tree (.pointer none) h_37 fun t7_8 h_41 =>
 pBox T_avoid_tree t24_5 h_41 fun t25_8 h_42 =>
 pStore 1 t7_8 t25_8 h_42 fun u_8 h_43 =>
 J (t7_8, ()) h_43)) /\
 (pBox T_p_avoid_tree (.pointer none) h_36 fun t7_9 h_44 =>
 pMakeMap h_44 fun t20_3 h_45 =>
 pBuild [(.slice none 0 0), (.slice none 0 0), (.slice none 0 0), (.map none), (.slice none 0 0)] [(0, 3, t19), (3, 1, t20_3), (4, 1, t23_5)] fun t24_6 =>
 pBox T_avoid_tree t24_6 h_45 fun t25_9 h_46 =>
 pStore 1 t7_9 t25_9 h_46 fun u_9 h_47 =>
 J (t7_9, ()) h_47)) /\
 (pBox T_p_avoid_tree (.pointer none) h_23 fun t7_10 h_48 =>
 (pMakeMap h_48 fun t20_4 h_49 =>
 pMakeSlice T_int64 8 [(I 0)] t22_2 t22_2 h_49 fun t23_6 h_50 =>
 pBuild [(.slice none 0 0), (.slice none 0 0), (.slice none 0 0), (.map none), (.slice none 0 0)] [(0, 3, t19), (3, 1, t20_4), (4, 1, t23_6)] fun t24_7 =>
 pBox T_avoid_tree t24_7 h_50 fun t25_10 h_51 =>
 pStore 1 t7_10 t25_10 h_51 fun u_10 h_52 =>
 J (t7_10, ()) h_52) /\
 (pMakeSlice T_int64 8 [(I 0)] t22_2 t22_2 h_48 fun t23_7 h_53 =>
 pMakeMap h_53 fun t20_5 h_54 =>
 pBuild [(.slice none 0 0), (.slice none 0 0), (.slice none 0 0), (.map none), (.slice none 0 0)] [(0, 3, t19), (3, 1, t20_5), (4, 1, t23_7)] fun t24_8 =>
 pBox T_avoid_tree t24_8 h_54 fun t25_11 h_55 =>
 pStore 1 t7_10 t25_11 h_55 fun u_11 h_56 =>
 J (t7_10, ()) h_56))) /\
 (pBox T_p_avoid_tree (.pointer none) h_4 fun t7_11 h_57 =>
 (pMakeMap h_57 fun t20_6 h_58 =>
 callS P F_net_Net_Nodes [t21] h_58 fun t22_3 h_59 =>
 pMakeSlice T_int64 8 [(I 0)] t22_3 t22_3 h_59 fun t23_8 h_60 =>
 pBuild [(.slice none 0 0), (.slice none 0 0), (.slice none 0 0), (.map none), (.slice none 0 0)] [(0, 3, t19), (3, 1, t20_6), (4, 1, t23_8)] fun t24_9 =>
 pBox T_avoid_tree t24_9 h_60 fun t25_12 h_61 =>
 pStore 1 t7_11 t25_12 h_61 fun u_12 h_62 =>
 J (t7_11, ()) h_62) /\
 (callS P F_net_Net_Nodes [t21] h_57 fun t22_4 h_63 =>
 (pMakeMap h_63 fun t20_7 h_64 =>
 pMakeSlice T_int64 8 [(I 0)] t22_4 t22_4 h_64 fun t23_9 h_65 =>
 pBuild [(.slice none 0 0), (.slice none 0 0), (.slice none 0 0), (.map none), (.slice none 0 0)] [(0, 3, t19), (3, 1, t20_7), (4, 1, t23_9)] fun t24_10 =>
 pBox T_avoid_tree t24_10 h_65 fun t25_13 h_66 =>
 pStore 1 t7_11 t25_13 h_66 fun u_13 h_67 =>
 J (t7_11, ()) h_67) /\
 (pMakeSlice T_int64 8 [(I 0)] t22_4 t22_4 h_63 fun t23_10 h_68 =>
 pMakeMap h_68 fun t20_8 h_69 =>
 pBuild [(.slice none 0 0), (.slice none 0 0), (.slice none 0 0), (.map none), (.slice none 0 0)] [(0, 3, t19), (3, 1, t20_8), (4, 1, t23_10)] fun t24_11 =>
 pBox T_avoid_tree t24_11 h_69 fun t25_14 h_70 =>
 pStore 1 t7_11 t25_14 h_70 fun u_14 h_71 =>
 J (t7_11, ()) h_71))))) /\
 (pMakeMap h_3 fun t20_9 h_72 =>
 (callS P F_flood_From [t17, t18] h_72 fun t19_1 h_73 =>
 (pLoad h_73 n3 fun t21_2 =>
 t21_2 = t21) /\
 ((callS P F_net_Net_Nodes [t21] h_73 fun t22_5 h_74 =>
 (pMakeSlice T_int64 8 [(I 0)] t22_5 t22_5 h_74 fun t23_11 h_75 =>
 pBuild [(.slice none 0 0), (.slice none 0 0), (.slice none 0 0), (.map none), (.slice none 0 0)] [(0, 3, t19_1), (3, 1, t20_9), (4, 1, t23_11)] fun t24_12 =>
 (pBox T_avoid_tree t24_12 h_75 fun t25_15 h_76 =>
 pBox T_p_avoid_tree (.pointer none) h_76 fun t7_12 h_77 =>
 pStore 1 t7_12 t25_15 h_77 fun u_15 h_78 =>
 J (t7_12, ()) h_78) /\
 (pBox T_p_avoid_tree (.pointer none) h_75 fun t7_13 h_79 =>
 pBox T_avoid_tree t24_12 h_79 fun t25_16 h_80 =>
 pStore 1 t7_13 t25_16 h_80 fun u_16 h_81 =>
 J (t7_13, ()) h_81)) /\
 (pBox T_p_avoid_tree (.pointer none) h_74 fun t7_14 h_82 =>
 pMakeSlice T_int64 8 [(I 0)] t22_5 t22_5 h_82 fun t23_12 h_83 =>
 pBuild [(.slice none 0 0), (.slice none 0 0), (.slice none 0 0), (.map none), (.slice none 0 0)] [(0, 3, t19_1), (3, 1, t20_9), (4, 1, t23_12)] fun t24_13 =>
 pBox T_avoid_tree t24_13 h_83 fun t25_17 h_84 =>
 pStore 1 t7_14 t25_17 h_84 fun u_17 h_85 =>
 J (t7_14, ()) h_85)) /\
 (pBox T_p_avoid_tree (.pointer none) h_73 fun t7_15 h_86 =>
 callS P F_net_Net_Nodes [t21] h_86 fun t22_6 h_87 =>
 pMakeSlice T_int64 8 [(I 0)] t22_6 t22_6 h_87 fun t23_13 h_88 =>
 pBuild [(.slice none 0 0), (.slice none 0 0), (.slice none 0 0), (.map none), (.slice none 0 0)] [(0, 3, t19_1), (3, 1, t20_9), (4, 1, t23_13)] fun t24_14 =>
 pBox T_avoid_tree t24_14 h_88 fun t25_18 h_89 =>
 pStore 1 t7_15 t25_18 h_89 fun u_18 h_90 =>
 J (t7_15, ()) h_90))) /\
 (pBox T_p_avoid_tree (.pointer none) h_72 fun t7_16 h_91 =>
 callS P F_flood_From [t17, t18] h_91 fun t19_2 h_92 =>
 (pLoad h_92 n3 fun t21_3 =>
 t21_3 = t21) /\
 (callS P F_net_Net_Nodes [t21] h_92 fun t22_7 h_93 =>
 pMakeSlice T_int64 8 [(I 0)] t22_7 t22_7 h_93 fun t23_14 h_94 =>
 pBuild [(.slice none 0 0), (.slice none 0 0), (.slice none 0 0), (.map none), (.slice none 0 0)] [(0, 3, t19_2), (3, 1, t20_9), (4, 1, t23_14)] fun t24_15 =>
 pBox T_avoid_tree t24_15 h_94 fun t25_19 h_95 =>
 pStore 1 t7_16 t25_19 h_95 fun u_19 h_96 =>
 J (t7_16, ()) h_96))) /\
 (pBox T_p_avoid_tree (.pointer none) h_3 fun t7_17 h_97 =>
 (callS P F_flood_From [t17, t18] h_97 fun t19_3 h_98 =>
 (pLoad h_98 n3 fun t21_4 =>
 t21_4 = t21) /\
 ((pMakeMap h_98 fun t20_10 h_99 =>
 callS P F_net_Net_Nodes [t21] h_99 fun t22_8 h_100 =>
 pMakeSlice T_int64 8 [(I 0)] t22_8 t22_8 h_100 fun t23_15 h_101 =>
 pBuild [(.slice none 0 0), (.slice none 0 0), (.slice none 0 0), (.map none), (.slice none 0 0)] [(0, 3, t19_3), (3, 1, t20_10), (4, 1, t23_15)] fun t24_16 =>
 pBox T_avoid_tree t24_16 h_101 fun t25_20 h_102 =>
 pStore 1 t7_17 t25_20 h_102 fun u_20 h_103 =>
 J (t7_17, ()) h_103) /\
 (callS P F_net_Net_Nodes [t21] h_98 fun t22_9 h_104 =>
 (pMakeMap h_104 fun t20_11 h_105 =>
 pMakeSlice T_int64 8 [(I 0)] t22_9 t22_9 h_105 fun t23_16 h_106 =>
 pBuild [(.slice none 0 0), (.slice none 0 0), (.slice none 0 0), (.map none), (.slice none 0 0)] [(0, 3, t19_3), (3, 1, t20_11), (4, 1, t23_16)] fun t24_17 =>
 pBox T_avoid_tree t24_17 h_106 fun t25_21 h_107 =>
 pStore 1 t7_17 t25_21 h_107 fun u_21 h_108 =>
 J (t7_17, ()) h_108) /\
 (pMakeSlice T_int64 8 [(I 0)] t22_9 t22_9 h_104 fun t23_17 h_109 =>
 pMakeMap h_109 fun t20_12 h_110 =>
 pBuild [(.slice none 0 0), (.slice none 0 0), (.slice none 0 0), (.map none), (.slice none 0 0)] [(0, 3, t19_3), (3, 1, t20_12), (4, 1, t23_17)] fun t24_18 =>
 pBox T_avoid_tree t24_18 h_110 fun t25_22 h_111 =>
 pStore 1 t7_17 t25_22 h_111 fun u_22 h_112 =>
 J (t7_17, ()) h_112)))) /\
 (pMakeMap h_97 fun t20_13 h_113 =>
 callS P F_flood_From [t17, t18] h_113 fun t19_4 h_114 =>
 (pLoad h_114 n3 fun t21_5 =>
 t21_5 = t21) /\
 (callS P F_net_Net_Nodes [t21] h_114 fun t22_10 h_115 =>
 pMakeSlice T_int64 8 [(I 0)] t22_10 t22_10 h_115 fun t23_18 h_116 =>
 pBuild [(.slice none 0 0), (.slice none 0 0), (.slice none 0 0), (.map none), (.slice none 0 0)] [(0, 3, t19_4), (3, 1, t20_13), (4, 1, t23_18)] fun t24_19 =>
 pBox T_avoid_tree t24_19 h_116 fun t25_23 h_117 =>
 pStore 1 t7_17 t25_23 h_117 fun u_23 h_118 =>
 J (t7_17, ()) h_118))))
 (fun x hh => sh_avoid_grow_C1 P n3 l4 r5 K x.1 hh)

theorem lk_avoid_grow (n0 l1 r2 : Value) (H : sh_avoid_grow Tryz.prog n0 l1 r2 h K) : CallsH Tryz.prog F_avoid_grow [n0, l1, r2].toArray h K :=
 callsH_of (ann := (annG (Tryz.f168.body.getD .skip) 0 [(1, [7]), (5, [31]), (17, [12, 73]), (25, [15, 16])]).1) (c := Tryz.f168.body.getD .skip) Tryz.func168 (by kernel_rfl) (by kernel_rfl) (by kernel_rfl) (of_decide_eq_true (by kernel_rfl))
  (Eq.mpr (by kernel_rfl) H)

def sh_avoid_best_int64_k2 (P : Program) (first5 t9 : Value) (R : Exit -> Heap -> Prop) (h_7 : Heap) : Prop :=
 pStore 1 first5 t9 h_7 fun u_1 h_8 =>
 R .normal h_8

def sh_avoid_best_int64_B1 (P : Program) (h_3 : Heap) (has3 first5 : Value) (L : Loop) (t9 : Value) (h_4 : Heap) (R : Exit -> Heap -> Prop) : Prop :=
 beginR (h_3.size + 1) L h_4 fun h_5 =>
 pLoad h_5 has3 fun t10 =>
 callV P t10 [t9].toArray h_5 fun t12 h_6 =>
 pBin .gtr t12 (I 0) fun t14 =>
 ifV t14
 (pLoad h_6 first5 fun t16 =>
 pBin .lss t16 (I 0) fun t17 =>
 ifV t17
 (sh_avoid_best_int64_k2 P first5 t9 R h_6)
 (pLoad h_6 has3 fun t20 =>
 pLoad h_6 first5 fun t21 =>
 callV P t20 [t21].toArray h_6 fun t22 h_9 =>
 pBin .gtr t12 t22 fun t23 =>
 ifV t23
 (sh_avoid_best_int64_k2 P first5 t9 R h_9)
 (pLoad h_9 has3 fun t27 =>
 pLoad h_9 first5 fun t28 =>
 callV P t27 [t28].toArray h_9 fun t29 h_10 =>
 pBin .eql t12 t29 fun t30 =>
 ifV t30
 (pLoad h_10 first5 fun t33 =>
 pBin .lss t9 t33 fun t34 =>
 ifV t34
 (sh_avoid_best_int64_k2 P first5 t9 R h_10)
 (R .normal h_10))
 (R .normal h_10))))
 (R .normal h_6)

def sh_avoid_best_int64 (P : Program) (l0 has1 : Value) (h : Heap) (K : KT) : Prop :=
 pBox T_func_int_int64 has1 h fun has3 h_1 =>
 pBox T_int (I 0) h_1 fun first5 h_2 =>
 pStore 1 first5 (I (-1)) h_2 fun u h_3 =>
 rangeH P l0 [9] (h_3.size + 1) (h_3.push (.deferred (some []))) (fun L x hh R => sh_avoid_best_int64_B1 P h_3 has3 first5 L x.1 hh R)
 (fun h_11 => pLoad h_11 first5 fun t39 =>
 takeM (h_3.size :: []) h_11 fun h_12 =>
 K t39 h_12)
 (fun h_13 => takeM (h_3.size :: []) h_13 fun h_14 =>
 K (I 0) h_14)
 []

theorem lk_avoid_best_int64 (l0 has1 : Value) (H : sh_avoid_best_int64 Tryz.prog l0 has1 h K) : CallsH Tryz.prog F_avoid_best_int64 [l0, has1].toArray h K :=
 lkF Tryz.func169 (Eq.mpr (by kernel_rfl) H)

def sh_slices_Values_sl_int_int (P : Program) (s0 : Value) (h : Heap) (K : KT) : Prop :=
 pBox T_sl_int s0 h fun s1 h_1 =>
 K (.func (.func F_slices_Values_sl_int_int_1) #[] #[s1]) h_1

theorem lk_slices_Values_sl_int_int (s0 : Value) (H : sh_slices_Values_sl_int_int Tryz.prog s0 h K) : CallsH Tryz.prog F_slices_Values_sl_int_int [s0].toArray h K :=
 lkF Tryz.func170 (Eq.mpr (by kernel_rfl) H)

def sh_avoid_tree_size (P : Program) (t0 v1 : Value) (h : Heap) (K : KT) : Prop :=
 pNil t0 fun t6 =>
 pField 4 t6 fun t7 =>
 pLoad h t7 fun t8 =>
 pIdx 1 t8 v1 fun t10 =>
 pLoad h t10 fun t11 =>
 K t11 h

theorem lk_avoid_tree_size (t0 v1 : Value) (H : sh_avoid_tree_size Tryz.prog t0 v1 h K) : CallsH Tryz.prog F_avoid_tree_size [t0, v1].toArray h K :=
 lkF Tryz.func171 (Eq.mpr (by kernel_rfl) H)

def sh_slices_ContainsFunc_sl_avoid_mark_avoid_mark (P : Program) (s0 f1 : Value) (h : Heap) (K : KT) : Prop :=
 callS P F_slices_IndexFunc_sl_avoid_mark_avoid_mark [s0, f1] h fun t7 h_1 =>
 pBin .geq t7 (I 0) fun t8 =>
 K t8 h_1

theorem lk_slices_ContainsFunc_sl_avoid_mark_avoid_mark (s0 f1 : Value) (H : sh_slices_ContainsFunc_sl_avoid_mark_avoid_mark Tryz.prog s0 f1 h K) : CallsH Tryz.prog F_slices_ContainsFunc_sl_avoid_mark_avoid_mark [s0, f1].toArray h K :=
 lkF Tryz.func172 (Eq.mpr (by kernel_rfl) H)

def sh_avoid_next_1 (P : Program) (m0 t1 : Value) (h : Heap) (K : KT) : Prop :=
 pBox T_avoid_mark m0 h fun m2 h_1 =>
 pField 0 m2 fun t4 =>
 pLoad h_1 t4 fun t5 =>
 pLoad h_1 t1 fun t6 =>
 pBin .eql t5 t6 fun t7 =>
 K t7 h_1

theorem lk_avoid_next_1 (m0 t1 : Value) (H : sh_avoid_next_1 Tryz.prog m0 t1 h K) : CallsH Tryz.prog F_avoid_next_1 [m0, t1].toArray h K :=
 lkF Tryz.func173 (Eq.mpr (by kernel_rfl) H)

def sh_avoid_there (P : Program) (n0 v1 : Value) (h : Heap) (K : KT) : Prop :=
 pEq true .ptr n0 (.pointer none) fun t6 =>
 ifV t6
 (pBin .geq v1 (I 0) fun t9 =>
 ifV t9
 (callS P F_net_Net_Nodes [n0] h fun t14 h_1 =>
 pBin .lss v1 t14 fun t15 =>
 K t15 h_1)
 (K (.bool false) h))
 (K (.bool false) h)

theorem lk_avoid_there (n0 v1 : Value) (H : sh_avoid_there Tryz.prog n0 v1 h K) : CallsH Tryz.prog F_avoid_there [n0, v1].toArray h K :=
 lkF Tryz.func174 (Eq.mpr (by kernel_rfl) H)

def sh_grid_places_1_L1 (P : Program) (t8 t1 yield0 : Value) (K : KT) (t9 : Value) (h_2 : Heap) (Z : KT) : Prop :=
 pBin .lss t9 t8 fun t10 =>
 ifV t10
 (pLoad h_2 t1 fun t13 =>
 callS P F_net_Net_Place [t13, t9] h_2 fun t15 h_3 =>
 pExt t15 0 fun t16 =>
 pExt t15 1 fun t17 =>
 pExt t15 2 fun t18 =>
 callV P yield0 [t16, t17].toArray h_3 fun t22 h_4 =>
 pUn .not t22 fun t23 =>
 ifV t23
 (K (.tuple #[]) h_4)
 (pBin .add t9 (I 1) fun t24 =>
 Z t24 h_4))
 (K (.tuple #[]) h_2)

def sh_grid_places_1 (P : Program) (yield0 t1 : Value) (h : Heap) (K : KT) : Prop :=
 pLoad h t1 fun t7 =>
 callS P F_net_Net_Nodes [t7] h fun t8 h_1 =>
 LoopH (σ := Vals [9]) (fun x hh ZZ => sh_grid_places_1_L1 P t8 t1 yield0 K x.1 hh (fun a0 hz => ZZ (a0, ()) hz)) ((I 0), ()) h_1

theorem lk_grid_places_1 (yield0 t1 : Value) (H : sh_grid_places_1 Tryz.prog yield0 t1 h K) : CallsH Tryz.prog F_grid_places_1 [yield0, t1].toArray h K :=
 callsH_of (ann := (annG (Tryz.f175.body.getD .skip) 0 [(1, [9])]).1) (c := Tryz.f175.body.getD .skip) Tryz.func175 (by kernel_rfl) (by kernel_rfl) (by kernel_rfl) (of_decide_eq_true (by kernel_rfl))
  (Eq.mpr (by kernel_rfl) H)

def sh_net_Net_Place (P : Program) (n0 v1 : Value) (h : Heap) (K : KT) : Prop :=
 pEq false .ptr n0 (.pointer none) fun t8 =>
 ifV t8
 (K (.tuple #[(I 0), (I 0), (.bool false)]) h)
 (pNil n0 fun t11 =>
 pField 0 t11 fun t12 =>
 pField 1 t12 fun t13 =>
 pLoad h t13 fun t14 =>
 callS P F_net_one_int64 [t14, v1] h fun t16 h_1 =>
 pExt t16 0 fun t17 =>
 pExt t16 1 fun t18 =>
 pNil n0 fun t21 =>
 pField 0 t21 fun t22 =>
 pField 2 t22 fun t23 =>
 pLoad h_1 t23 fun t24 =>
 callS P F_net_one_int64 [t24, v1] h_1 fun t26 h_2 =>
 pExt t26 0 fun t27 =>
 pExt t26 1 fun t28 =>
 K (.tuple #[t17, t27, t28]) h_2)

theorem lk_net_Net_Place (n0 v1 : Value) (H : sh_net_Net_Place Tryz.prog n0 v1 h K) : CallsH Tryz.prog F_net_Net_Place [n0, v1].toArray h K :=
 lkF Tryz.func176 (Eq.mpr (by kernel_rfl) H)

def sh_grid_parts_1 (P : Program) (x0 t1 t2 t3 : Value) (h : Heap) (K : KT) : Prop :=
 pField 0 t1 fun t7 =>
 pLoad h t7 fun t8 =>
 pBin .sub x0 t8 fun t9 =>
 pLoad h t2 fun t10 =>
 pBin .mul t9 t10 fun t11 =>
 pLoad h t3 fun t12 =>
 pBin .quo t11 t12 fun t13 =>
 K t13 h

theorem lk_grid_parts_1 (x0 t1 t2 t3 : Value) (H : sh_grid_parts_1 Tryz.prog x0 t1 t2 t3 h K) : CallsH Tryz.prog F_grid_parts_1 [x0, t1, t2, t3].toArray h K :=
 lkF Tryz.func177 (Eq.mpr (by kernel_rfl) H)

def sh_split_parter_part_1 (P : Program) (t0 : Value) (h : Heap) (K : KT) : Prop :=
 pLoad h t0 fun t1 =>
 pNil t1 fun t2 =>
 pField 2 t2 fun t3 =>
 pLoad h t3 fun t4 =>
 pBin .add t4 (I 1) fun t5 =>
 pNil t1 fun t6 =>
 pField 2 t6 fun t7 =>
 pStore 1 t7 t5 h fun u h_1 =>
 K (.tuple #[]) h_1

theorem ld_split_parter_part_1 (t0 : Value) {h : Heap} {K : Heap -> Prop} (H : sh_split_parter_part_1 Tryz.prog t0 h (fun _ h' => K h')) : DeferS Tryz.prog F_split_parter_part_1 [t0].toArray h K :=
 deferS_of (ann := (annG (Tryz.f178.body.getD .skip) 0 []).1) (c := Tryz.f178.body.getD .skip) Tryz.func178 (by kernel_rfl) (by kernel_rfl) (by kernel_rfl) (of_decide_eq_true (by kernel_rfl))
  (Eq.mpr (by kernel_rfl) H)

end Go.Proofs.YtmdldoolnhpaeaaGreatDoor
