/- Texts of the proofs of seat YtmdldoolnhpaeaaGreatDoor, joined: Gen10, Gen11, Gen12, Gen. They have no conditions of their own. -/
import Derived.Test.YtmdldoolnhpaeaaGreatDoorGa
set_option linter.unusedVariables false
set_option linter.unusedSimpArgs false
set_option linter.unusedSectionVars false

set_option maxRecDepth 100000
namespace Go.Proofs.YtmdldoolnhpaeaaGreatDoor
open Go Go.Mh
variable {h : Heap} {K : KT}
set_option maxHeartbeats 0

def sh_split_parter_way_k2 (P : Program) (t9 : Value) (Z : Value -> Value -> KT) (best4_1 most5_1 : Value) (h_5 : Heap) : Prop :=
 pBin .add t9 (I 1) fun t22 =>
 Z best4_1 most5_1 t22 h_5

def sh_split_parter_way_L1 (P : Program) (p0 l1 : Value) (K : KT) (best4 most5 t9 : Value) (h_2 : Heap) (Z : Value -> Value -> KT) : Prop :=
 pBin .lss t9 (I 4) fun t10 =>
 ifV t10
 (callS P F_split_parter_along [p0, t9] h_2 fun t15 h_3 =>
 callS P F_split_spread_int [l1, t15] h_3 fun t16 h_4 =>
 pBin .gtr t16 most5 fun t19 =>
 ifV t19
 (sh_split_parter_way_k2 P t9 Z t9 t16 h_4)
 (sh_split_parter_way_k2 P t9 Z best4 most5 h_4))
 (K (.tuple #[best4, most5]) h_2)

def sh_split_parter_way (P : Program) (p0 l1 : Value) (h : Heap) (K : KT) : Prop :=
 callS P F_split_directions [] h fun t8 h_1 =>
 LoopH (σ := Vals [4, 5, 9]) (fun x hh ZZ => sh_split_parter_way_L1 P p0 l1 K x.1 x.2.1 x.2.2.1 hh (fun a0 a1 a2 hz => ZZ (a0, (a1, (a2, ()))) hz)) ((I 0), ((I 0), ((I 0), ()))) h_1

theorem lk_split_parter_way (p0 l1 : Value) (H : sh_split_parter_way Tryz.prog p0 l1 h K) : CallsH Tryz.prog F_split_parter_way [p0, l1].toArray h K :=
 callsH_of (ann := (annG (Tryz.f179.body.getD .skip) 0 [(3, [4, 5, 9])]).1) (c := Tryz.f179.body.getD .skip) Tryz.func179 (by kernel_rfl) (by kernel_rfl) (by kernel_rfl) (of_decide_eq_true (by kernel_rfl))
  (Eq.mpr (by kernel_rfl) H)

def sh_split_parter_along (P : Program) (p0 direction1 : Value) (h : Heap) (K : KT) : Prop :=
 pBox T_p_split_parter p0 h fun p2 h_1 =>
 callS P F_split_directions [] h_1 fun t6 h_2 =>
 pIdxV1 4 t6 direction1 fun t8 =>
 pBox T_func_int64_int64_int64 .nilFunc h_2 fun tell5 h_3 =>
 pStore 1 tell5 t8 h_3 fun u h_4 =>
 K (.func (.func F_split_parter_along_1) #[] #[p2, tell5]) h_4

theorem lk_split_parter_along (p0 direction1 : Value) (H : sh_split_parter_along Tryz.prog p0 direction1 h K) : CallsH Tryz.prog F_split_parter_along [p0, direction1].toArray h K :=
 lkF Tryz.func180 (Eq.mpr (by kernel_rfl) H)

def sh_slices_SortedFunc_int (P : Program) (seq0 cmp1 : Value) (h : Heap) (K : KT) : Prop :=
 callS P F_slices_Collect_int [seq0] h fun t7 h_1 =>
 callS P F_slices_SortFunc_sl_int_int [t7, cmp1] h_1 fun t10 h_2 =>
 K t7 h_2

theorem lk_slices_SortedFunc_int (seq0 cmp1 : Value) (H : sh_slices_SortedFunc_int Tryz.prog seq0 cmp1 h K) : CallsH Tryz.prog F_slices_SortedFunc_int [seq0, cmp1].toArray h K :=
 lkF Tryz.func181 (Eq.mpr (by kernel_rfl) H)

def sh_split_parter_part_2 (P : Program) (v0 w1 t2 : Value) (h : Heap) (K : KT) : Prop :=
 pLoad h t2 fun t6 =>
 pLoad h t2 fun t9 =>
 callV P t6 [v0].toArray h fun t8 h_1 =>
 (pLoad h_1 t2 fun t9_1 =>
 t9_1 = t9) /\
 (callV P t9 [w1].toArray h_1 fun t11 h_2 =>
 callS P F_cmp_Compare_int64 [t8, t11] h_2 fun t12 h_3 =>
 callS P F_cmp_Compare_int [v0, w1] h_3 fun t15 h_4 =>
 pBuildSlice T_int (zerosL [(I 0)] 2) [(0, 1, t12), (1, 1, t15)] 2 h_4 fun t16 h_5 =>
 callS P F_cmp_Or_int [t16] h_5 fun t17 h_6 =>
 K t17 h_6)

theorem lk_split_parter_part_2 (v0 w1 t2 : Value) (H : sh_split_parter_part_2 Tryz.prog v0 w1 t2 h K) : CallsH Tryz.prog F_split_parter_part_2 [v0, w1, t2].toArray h K :=
 lkF Tryz.func182 (Eq.mpr (by kernel_rfl) H)

def sh_cmp_Or_int_L1 (P : Program) (t7 vals0 : Value) (K : KT) (t8 : Value) (h_1 : Heap) (Z : KT) : Prop :=
 pBin .lss t8 t7 fun t9 =>
 ifV t9
 (pIdx 1 vals0 t8 fun t10 =>
 pLoad h_1 t10 fun t11 =>
 pBin .neq t11 (I 0) fun t14 =>
 ifV t14
 (K t11 h_1)
 (pBin .add t8 (I 1) fun t16 =>
 Z t16 h_1))
 (K (I 0) h_1)

def sh_cmp_Or_int (P : Program) (vals0 : Value) (h : Heap) (K : KT) : Prop :=
 pLen vals0 fun t7 =>
 LoopH (σ := Vals [8]) (fun x hh ZZ => sh_cmp_Or_int_L1 P t7 vals0 K x.1 hh (fun a0 hz => ZZ (a0, ()) hz)) ((I 0), ()) h

theorem lk_cmp_Or_int (vals0 : Value) (H : sh_cmp_Or_int Tryz.prog vals0 h K) : CallsH Tryz.prog F_cmp_Or_int [vals0].toArray h K :=
 callsH_of (ann := (annG (Tryz.f183.body.getD .skip) 0 [(4, [8])]).1) (c := Tryz.f183.body.getD .skip) Tryz.func183 (by kernel_rfl) (by kernel_rfl) (by kernel_rfl) (of_decide_eq_true (by kernel_rfl))
  (Eq.mpr (by kernel_rfl) H)

def sh_cmp_Compare_int64 (P : Program) (x0 y1 : Value) (h : Heap) (K : KT) : Prop :=
 callS P F_cmp_isNaN_int64 [x0] h fun t8 h_1 =>
 callS P F_cmp_isNaN_int64 [y1] h_1 fun t10 h_2 =>
 ifV t8
 (ifV t10
 (K (I 0) h_2)
 (K (I (-1)) h_2))
 (ifV t10
 (K (I 1) h_2)
 (pBin .lss x0 y1 fun t16 =>
 ifV t16
 (K (I (-1)) h_2)
 (pBin .gtr x0 y1 fun t19 =>
 ifV t19
 (K (I 1) h_2)
 (K (I 0) h_2))))

theorem lk_cmp_Compare_int64 (x0 y1 : Value) (H : sh_cmp_Compare_int64 Tryz.prog x0 y1 h K) : CallsH Tryz.prog F_cmp_Compare_int64 [x0, y1].toArray h K :=
 lkF Tryz.func184 (Eq.mpr (by kernel_rfl) H)

def sh_cmp_Compare_int (P : Program) (x0 y1 : Value) (h : Heap) (K : KT) : Prop :=
 callS P F_cmp_isNaN_int [x0] h fun t8 h_1 =>
 callS P F_cmp_isNaN_int [y1] h_1 fun t10 h_2 =>
 ifV t8
 (ifV t10
 (K (I 0) h_2)
 (K (I (-1)) h_2))
 (ifV t10
 (K (I 1) h_2)
 (pBin .lss x0 y1 fun t16 =>
 ifV t16
 (K (I (-1)) h_2)
 (pBin .gtr x0 y1 fun t19 =>
 ifV t19
 (K (I 1) h_2)
 (K (I 0) h_2))))

theorem lk_cmp_Compare_int (x0 y1 : Value) (H : sh_cmp_Compare_int Tryz.prog x0 y1 h K) : CallsH Tryz.prog F_cmp_Compare_int [x0, y1].toArray h K :=
 lkF Tryz.func185 (Eq.mpr (by kernel_rfl) H)

def sh_slices_Values_sl_graph_place_graph_place_1_L1 (P : Program) (t6 t5 yield0 : Value) (K : KT) (t7 : Value) (h_1 : Heap) (Z : KT) : Prop :=
 pBin .lss t7 t6 fun t8 =>
 ifV t8
 (pIdx 6 t5 t7 fun t9 =>
 pLoadN 6 h_1 t9 fun t10 =>
 pBox T_graph_place (.agg #[(I 0), (I 0), (I 0), (I 0), (I 0), (I 0)]) h_1 fun v4 h_2 =>
 pStore 6 v4 t10 h_2 fun u h_3 =>
 pLoadN 6 h_3 v4 fun t12 =>
 callV P yield0 [t12].toArray h_3 fun t13 h_4 =>
 pUn .not t13 fun t14 =>
 ifV t14
 (K (.tuple #[]) h_4)
 (pBin .add t7 (I 1) fun t15 =>
 Z t15 h_4))
 (K (.tuple #[]) h_1)

def sh_slices_Values_sl_graph_place_graph_place_1 (P : Program) (yield0 t1 : Value) (h : Heap) (K : KT) : Prop :=
 pLoad h t1 fun t5 =>
 pLen t5 fun t6 =>
 LoopH (σ := Vals [7]) (fun x hh ZZ => sh_slices_Values_sl_graph_place_graph_place_1_L1 P t6 t5 yield0 K x.1 hh (fun a0 hz => ZZ (a0, ()) hz)) ((I 0), ()) h

theorem lk_slices_Values_sl_graph_place_graph_place_1 (yield0 t1 : Value) (H : sh_slices_Values_sl_graph_place_graph_place_1 Tryz.prog yield0 t1 h K) : CallsH Tryz.prog F_slices_Values_sl_graph_place_graph_place_1 [yield0, t1].toArray h K :=
 callsH_of (ann := (annG (Tryz.f186.body.getD .skip) 0 [(1, [7])]).1) (c := Tryz.f186.body.getD .skip) Tryz.func186 (by kernel_rfl) (by kernel_rfl) (by kernel_rfl) (of_decide_eq_true (by kernel_rfl))
  (Eq.mpr (by kernel_rfl) H)

def sh_slices_IndexFunc_sl_int_int_L1 (P : Program) (t7 s0 f1 : Value) (K : KT) (t8 : Value) (h_1 : Heap) (Z : KT) : Prop :=
 pBin .lss t8 t7 fun t9 =>
 ifV t9
 (pIdx 1 s0 t8 fun t14 =>
 pLoad h_1 t14 fun t15 =>
 callV P f1 [t15].toArray h_1 fun t16 h_2 =>
 ifV t16
 (K t8 h_2)
 (pBin .add t8 (I 1) fun t18 =>
 Z t18 h_2))
 (K (I (-1)) h_1)

def sh_slices_IndexFunc_sl_int_int (P : Program) (s0 f1 : Value) (h : Heap) (K : KT) : Prop :=
 pLen s0 fun t7 =>
 LoopH (σ := Vals [8]) (fun x hh ZZ => sh_slices_IndexFunc_sl_int_int_L1 P t7 s0 f1 K x.1 hh (fun a0 hz => ZZ (a0, ()) hz)) ((I 0), ()) h

theorem lk_slices_IndexFunc_sl_int_int (s0 f1 : Value) (H : sh_slices_IndexFunc_sl_int_int Tryz.prog s0 f1 h K) : CallsH Tryz.prog F_slices_IndexFunc_sl_int_int [s0, f1].toArray h K :=
 callsH_of (ann := (annG (Tryz.f187.body.getD .skip) 0 [(3, [8])]).1) (c := Tryz.f187.body.getD .skip) Tryz.func187 (by kernel_rfl) (by kernel_rfl) (by kernel_rfl) (of_decide_eq_true (by kernel_rfl))
  (Eq.mpr (by kernel_rfl) H)

def sh_slices_Repeat_sl_int64_int64_k1 (P : Program) (h_2 : Heap) : Prop :=
 False

def sh_slices_Repeat_sl_int64_int64_L2 (P : Program) (t30 : Value) (K : KT) (n8 : Value) (h_5 : Heap) (Z : KT) : Prop :=
 pLen t30 fun t36 =>
 pBin .lss n8 t36 fun t37 =>
 ifV t37
 (pSlice 1 t30 (some n8) none none fun t41 =>
 pSlice 1 t30 none (some n8) none fun t44 =>
 pCopy 1 t41 t44 h_5 fun t45 h_6 =>
 pBin .add n8 t45 fun t46 =>
 Z t46 h_6)
 (K t30 h_5)

def sh_slices_Repeat_sl_int64_int64 (P : Program) (x0 count1 : Value) (h : Heap) (K : KT) : Prop :=
 pBin .lss count1 (I 0) fun t10 =>
 ifV t10
 (False)
 (pLen x0 fun t14 =>
 pConv .u64 t14 fun t15 =>
 pConv .u64 count1 fun t17 =>
 callS P F_math_bits_Mul [t15, t17] h fun t18 h_1 =>
 pExt t18 0 fun t19 =>
 pExt t18 1 fun t20 =>
 pBin .gtr t19 (.int .u64 0) fun t22 =>
 ifV t22
 (sh_slices_Repeat_sl_int64_int64_k1 P h_1)
 (pBin .gtr t20 (.int .u64 9223372036854775807) fun t25 =>
 ifV t25
 (sh_slices_Repeat_sl_int64_int64_k1 P h_1)
 (pConv .i64 t20 fun t29 =>
 pMakeSlice T_int64 8 [(I 0)] t29 t29 h_1 fun t30 h_3 =>
 pCopy 1 t30 x0 h_3 fun t33 h_4 =>
 LoopH (σ := Vals [8]) (fun x hh ZZ => sh_slices_Repeat_sl_int64_int64_L2 P t30 K x.1 hh (fun a0 hz => ZZ (a0, ()) hz)) (t33, ()) h_4)))

theorem lk_slices_Repeat_sl_int64_int64 (x0 count1 : Value) (H : sh_slices_Repeat_sl_int64_int64 Tryz.prog x0 count1 h K) : CallsH Tryz.prog F_slices_Repeat_sl_int64_int64 [x0, count1].toArray h K :=
 callsH_of (ann := (annG (Tryz.f188.body.getD .skip) 0 [(9, [8])]).1) (c := Tryz.f188.body.getD .skip) Tryz.func188 (by kernel_rfl) (by kernel_rfl) (by kernel_rfl) (of_decide_eq_true (by kernel_rfl))
  (Eq.mpr (by kernel_rfl) H)

def sh_flood_arcs (P : Program) (n0 l1 end2 : Value) (h : Heap) (K : KT) : Prop :=
 pBox T_p_net_Net n0 h fun n3 h_1 =>
 pBox T_sl_int l1 h_1 fun l4 h_2 =>
 pBox T_func_api_Arc_int end2 h_2 fun end5 h_3 =>
 K (.func (.func F_flood_arcs_1) #[] #[l4, n3, end5]) h_3

theorem lk_flood_arcs (n0 l1 end2 : Value) (H : sh_flood_arcs Tryz.prog n0 l1 end2 h K) : CallsH Tryz.prog F_flood_arcs [n0, l1, end2].toArray h K :=
 lkF Tryz.func189 (Eq.mpr (by kernel_rfl) H)

def sh_flood_run_reach_k2 (P : Program) (r0 v1 arc2 : Value) (K : KT) (h_4 : Heap) : Prop :=
 pNil r0 fun t52 =>
 pField 1 t52 fun t53 =>
 pField 1 t53 fun t54 =>
 pLoad h_4 t54 fun t55 =>
 pIdx 1 t55 v1 fun t58 =>
 pStore 1 t58 arc2 h_4 fun u h_5 =>
 K (.tuple #[]) h_5

def sh_flood_run_reach_k1 (P : Program) (t18 r0 v1 far3 arc2 : Value) (K : KT) (h_2 : Heap) : Prop :=
 ifV t18
 (pNil r0 fun t45 =>
 pField 0 t45 fun t46 =>
 pLoad h_2 t46 fun t47 =>
 callS P F_heap_Heap_Lower [t47, v1, far3] h_2 fun t50 h_3 =>
 sh_flood_run_reach_k2 P r0 v1 arc2 K h_3)
 (pNil r0 fun t20 =>
 pField 0 t20 fun t21 =>
 pLoad h_2 t21 fun t22 =>
 callS P F_heap_Heap_Push [t22, v1, far3] h_2 fun t25 h_6 =>
 sh_flood_run_reach_k2 P r0 v1 arc2 K h_6)

def sh_flood_run_reach (P : Program) (r0 v1 arc2 far3 : Value) (h : Heap) (K : KT) : Prop :=
 pNil r0 fun t12 =>
 pField 0 t12 fun t13 =>
 pLoad h t13 fun t14 =>
 callS P F_heap_Heap_Key [t14, v1] h fun t16 h_1 =>
 pExt t16 0 fun t17 =>
 pExt t16 1 fun t18 =>
 pNil r0 fun t28 =>
 pField 4 t28 fun t29 =>
 pLoad h_1 t29 fun t30 =>
 pLook (.int .i64) (I 0) false h_1 t30 v1 fun t32 =>
 pBin .gtr t32 (I 0) fun t33 =>
 ifV t33
 (K (.tuple #[]) h_1)
 (ifV t18
 (pBin .leq t17 far3 fun t39 =>
 ifV t39
 (K (.tuple #[]) h_1)
 (sh_flood_run_reach_k1 P t18 r0 v1 far3 arc2 K h_1))
 (sh_flood_run_reach_k1 P t18 r0 v1 far3 arc2 K h_1))

theorem lk_flood_run_reach (r0 v1 arc2 far3 : Value) (H : sh_flood_run_reach Tryz.prog r0 v1 arc2 far3 h K) : CallsH Tryz.prog F_flood_run_reach [r0, v1, arc2, far3].toArray h K :=
 lkF Tryz.func190 (Eq.mpr (by kernel_rfl) H)

def sh_net_one_sl_int_k1 (P : Program) (K : KT) (h_1 : Heap) : Prop :=
 K (.tuple #[(.slice none 0 0), (.bool false)]) h_1

def sh_net_one_sl_int (P : Program) (l0 i1 : Value) (h : Heap) (K : KT) : Prop :=
 pBin .lss i1 (I 0) fun t7 =>
 ifV t7
 (sh_net_one_sl_int_k1 P K h)
 (pLen l0 fun t11 =>
 pBin .geq i1 t11 fun t12 =>
 ifV t12
 (sh_net_one_sl_int_k1 P K h)
 (pIdx 1 l0 i1 fun t17 =>
 pLoad h t17 fun t18 =>
 K (.tuple #[t18, (.bool true)]) h))

theorem lk_net_one_sl_int (l0 i1 : Value) (H : sh_net_one_sl_int Tryz.prog l0 i1 h K) : CallsH Tryz.prog F_net_one_sl_int [l0, i1].toArray h K :=
 lkF Tryz.func191 (Eq.mpr (by kernel_rfl) H)

def sh_net_one_api_Arc_k1 (P : Program) (x4 : Value) (K : KT) (h_2 : Heap) : Prop :=
 pLoadN 3 h_2 x4 fun t14 =>
 pStore 3 x4 t14 h_2 fun u h_3 =>
 pLoadN 3 h_3 x4 fun res =>
 K (.tuple #[res, (.bool false)]) h_3

def sh_net_one_api_Arc (P : Program) (l0 i1 : Value) (h : Heap) (K : KT) : Prop :=
 pBox T_api_Arc (.agg #[(I 0), (I 0), (I 0)]) h fun x4 h_1 =>
 pBin .lss i1 (I 0) fun t7 =>
 ifV t7
 (sh_net_one_api_Arc_k1 P x4 K h_1)
 (pLen l0 fun t11 =>
 pBin .geq i1 t11 fun t12 =>
 ifV t12
 (sh_net_one_api_Arc_k1 P x4 K h_1)
 (pIdx 3 l0 i1 fun t17 =>
 pLoadN 3 h_1 t17 fun t18 =>
 pStore 3 x4 t18 h_1 fun u_1 h_4 =>
 pLoadN 3 h_4 x4 fun res_1 =>
 K (.tuple #[res_1, (.bool true)]) h_4))

theorem lk_net_one_api_Arc (l0 i1 : Value) (H : sh_net_one_api_Arc Tryz.prog l0 i1 h K) : CallsH Tryz.prog F_net_one_api_Arc [l0, i1].toArray h K :=
 lkF Tryz.func192 (Eq.mpr (by kernel_rfl) H)

def sh_cell_Cells_nodes_1_k2 (P : Program) (t12 : Value) (Z : KT) (h_4 : Heap) : Prop :=
 pBin .add t12 (I 1) fun t24 =>
 Z t24 h_4

def sh_cell_Cells_nodes_1_L1 (P : Program) (t11 t2 yield0 : Value) (K : KT) (t12 : Value) (h_1 : Heap) (Z : KT) : Prop :=
 pBin .lss t12 t11 fun t13 =>
 ifV t13
 (pLoad h_1 t2 fun t15 =>
 callV P t15 [t12].toArray h_1 fun t17 h_2 =>
 ifV t17
 (callV P yield0 [t12].toArray h_2 fun t21 h_3 =>
 pUn .not t21 fun t22 =>
 ifV t22
 (K (.tuple #[]) h_3)
 (sh_cell_Cells_nodes_1_k2 P t12 Z h_3))
 (sh_cell_Cells_nodes_1_k2 P t12 Z h_2))
 (K (.tuple #[]) h_1)

def sh_cell_Cells_nodes_1 (P : Program) (yield0 t1 t2 : Value) (h : Heap) (K : KT) : Prop :=
 pLoad h t1 fun t5 =>
 pEq false .ptr t5 (.pointer none) fun t6 =>
 ifV t6
 (K (.tuple #[]) h)
 (pLoad h t1 fun t7 =>
 pNil t7 fun t8 =>
 pField 0 t8 fun t9 =>
 pLoad h t9 fun t10 =>
 pLen t10 fun t11 =>
 LoopH (σ := Vals [12]) (fun x hh ZZ => sh_cell_Cells_nodes_1_L1 P t11 t2 yield0 K x.1 hh (fun a0 hz => ZZ (a0, ()) hz)) ((I 0), ()) h)

theorem lk_cell_Cells_nodes_1 (yield0 t1 t2 : Value) (H : sh_cell_Cells_nodes_1 Tryz.prog yield0 t1 t2 h K) : CallsH Tryz.prog F_cell_Cells_nodes_1 [yield0, t1, t2].toArray h K :=
 callsH_of (ann := (annG (Tryz.f193.body.getD .skip) 0 [(3, [12])]).1) (c := Tryz.f193.body.getD .skip) Tryz.func193 (by kernel_rfl) (by kernel_rfl) (by kernel_rfl) (of_decide_eq_true (by kernel_rfl))
  (Eq.mpr (by kernel_rfl) H)

def sh_tight_there (P : Program) (n0 v1 : Value) (h : Heap) (K : KT) : Prop :=
 pEq true .ptr n0 (.pointer none) fun t6 =>
 ifV t6
 (pBin .geq v1 (I 0) fun t9 =>
 ifV t9
 (callS P F_net_Net_Nodes [n0] h fun t14 h_1 =>
 pBin .lss v1 t14 fun t15 =>
 K t15 h_1)
 (K (.bool false) h))
 (K (.bool false) h)

theorem lk_tight_there (n0 v1 : Value) (H : sh_tight_there Tryz.prog n0 v1 h K) : CallsH Tryz.prog F_tight_there [n0, v1].toArray h K :=
 lkF Tryz.func194 (Eq.mpr (by kernel_rfl) H)

def sh_tight_put_bool_B1 (P : Program) (h_2 : Heap) (l3 x5 : Value) (L : Loop) (t9 : Value) (h_3 : Heap) (R : Exit -> Heap -> Prop) : Prop :=
 beginR (h_2.size + 1) L h_3 fun h_4 =>
 pLoad h_4 l3 fun t10 =>
 pLoad h_4 x5 fun t12 =>
 pIdx 1 t10 t9 fun t13 =>
 pStore 1 t13 t12 h_4 fun u h_5 =>
 R .normal h_5

def sh_tight_put_bool (P : Program) (l0 at1 x2 : Value) (h : Heap) (K : KT) : Prop :=
 pBox T_sl_bool l0 h fun l3 h_1 =>
 pBox T_bool x2 h_1 fun x5 h_2 =>
 rangeH P at1 [9] (h_2.size + 1) (h_2.push (.deferred (some []))) (fun L x hh R => sh_tight_put_bool_B1 P h_2 l3 x5 L x.1 hh R)
 (fun h_6 => pLoad h_6 l3 fun t14 =>
 takeM (h_2.size :: []) h_6 fun h_7 =>
 K t14 h_7)
 (fun h_8 => takeM (h_2.size :: []) h_8 fun h_9 =>
 K (.slice none 0 0) h_9)
 []

theorem lk_tight_put_bool (l0 at1 x2 : Value) (H : sh_tight_put_bool Tryz.prog l0 at1 x2 h K) : CallsH Tryz.prog F_tight_put_bool [l0, at1, x2].toArray h K :=
 lkF Tryz.func195 (Eq.mpr (by kernel_rfl) H)

def sh_tight_marked (P : Program) (many0 holds1 : Value) (h : Heap) (K : KT) : Prop :=
 pBox T_int many0 h fun many2 h_1 =>
 pBox T_func_int_bool holds1 h_1 fun holds3 h_2 =>
 K (.func (.func F_tight_marked_1) #[] #[many2, holds3]) h_2

theorem lk_tight_marked (many0 holds1 : Value) (H : sh_tight_marked Tryz.prog many0 holds1 h K) : CallsH Tryz.prog F_tight_marked [many0, holds1].toArray h K :=
 lkF Tryz.func196 (Eq.mpr (by kernel_rfl) H)

def sh_tight_tells (P : Program) (n0 b1 : Value) (h : Heap) (K : KT) : Prop :=
 pBox T_p_net_Net n0 h fun n2 h_1 =>
 pLoad h_1 n2 fun t6 =>
 callS P F_flood_To [t6, b1] h_1 fun t8 h_2 =>
 pBox T_flood_Tree (.agg #[(.slice none 0 0), (.slice none 0 0), (.slice none 0 0)]) h_2 fun x5 h_3 =>
 pStore 3 x5 t8 h_3 fun u h_4 =>
 K (.func (.func F_tight_tells_1) #[] #[n2, x5]) h_4

theorem lk_tight_tells (n0 b1 : Value) (H : sh_tight_tells Tryz.prog n0 b1 h K) : CallsH Tryz.prog F_tight_tells [n0, b1].toArray h K :=
 lkF Tryz.func197 (Eq.mpr (by kernel_rfl) H)

def sh_math_bits_Mul64 (P : Program) (x0 y1 : Value) (h : Heap) (K : KT) : Prop :=
 pBin .and x0 (.int .u64 4294967295) fun t15 =>
 pBin .shr x0 (.int .u64 32) fun t17 =>
 pBin .and y1 (.int .u64 4294967295) fun t19 =>
 pBin .shr y1 (.int .u64 32) fun t21 =>
 pBin .mul t15 t19 fun t24 =>
 pBin .mul t17 t19 fun t27 =>
 pBin .shr t24 (.int .u64 32) fun t29 =>
 pBin .add t27 t29 fun t30 =>
 pBin .and t30 (.int .u64 4294967295) fun t32 =>
 pBin .shr t30 (.int .u64 32) fun t34 =>
 pBin .mul t15 t21 fun t38 =>
 pBin .add t32 t38 fun t39 =>
 pBin .mul t17 t21 fun t42 =>
 pBin .add t42 t34 fun t44 =>
 pBin .shr t39 (.int .u64 32) fun t46 =>
 pBin .add t44 t46 fun t47 =>
 pBin .mul x0 y1 fun t50 =>
 K (.tuple #[t47, t50]) h

theorem lk_math_bits_Mul64 (x0 y1 : Value) (H : sh_math_bits_Mul64 Tryz.prog x0 y1 h K) : CallsH Tryz.prog F_math_bits_Mul64 [x0, y1].toArray h K :=
 lkF Tryz.func199 (Eq.mpr (by kernel_rfl) H)

def sh_heap_row_up_L1 (P : Program) (r0 : Value) (K : KT) (i1_1 : Value) (h_1 : Heap) (Z : KT) : Prop :=
 pBin .gtr i1_1 (I 0) fun t5 =>
 ifV t5
 (pBin .sub i1_1 (I 1) fun t10 =>
 pBin .quo t10 (I 4) fun t11 =>
 callS P F_heap_row_ahead [r0, i1_1, t11] h_1 fun t12 h_2 =>
 ifV t12
 (pBin .sub i1_1 (I 1) fun t17 =>
 pBin .quo t17 (I 4) fun t18 =>
 callS P F_heap_row_swap [r0, i1_1, t18] h_2 fun t19 h_3 =>
 pBin .sub i1_1 (I 1) fun t21 =>
 pBin .quo t21 (I 4) fun t22 =>
 Z t22 h_3)
 (K (.tuple #[]) h_2))
 (K (.tuple #[]) h_1)

def sh_heap_row_up (P : Program) (r0 i1 : Value) (h : Heap) (K : KT) : Prop :=
 LoopH (σ := Vals [1]) (fun x hh ZZ => sh_heap_row_up_L1 P r0 K x.1 hh (fun a0 hz => ZZ (a0, ()) hz)) (i1, ()) h

theorem lk_heap_row_up (r0 i1 : Value) (H : sh_heap_row_up Tryz.prog r0 i1 h K) : CallsH Tryz.prog F_heap_row_up [r0, i1].toArray h K :=
 callsH_of (ann := (annG (Tryz.f200.body.getD .skip) 0 [(0, [1])]).1) (c := Tryz.f200.body.getD .skip) Tryz.func200 (by kernel_rfl) (by kernel_rfl) (by kernel_rfl) (of_decide_eq_true (by kernel_rfl))
  (Eq.mpr (by kernel_rfl) H)

def sh_heap_row_ahead (P : Program) (r0 i1 k2 : Value) (h : Heap) (K : KT) : Prop :=
 pNil r0 fun t8 =>
 pField 0 t8 fun t9 =>
 pLoad h t9 fun t10 =>
 pIdx 2 t10 i1 fun t12 =>
 pField 1 t12 fun t13 =>
 pLoad h t13 fun t14 =>
 pNil r0 fun t16 =>
 pField 0 t16 fun t17 =>
 pLoad h t17 fun t18 =>
 pIdx 2 t18 k2 fun t20 =>
 pField 1 t20 fun t21 =>
 pLoad h t21 fun t22 =>
 pNil r0 fun t25 =>
 pField 0 t25 fun t26 =>
 pLoad h t26 fun t27 =>
 pIdx 2 t27 i1 fun t29 =>
 pField 0 t29 fun t30 =>
 pLoad h t30 fun t31 =>
 pNil r0 fun t33 =>
 pField 0 t33 fun t34 =>
 pLoad h t34 fun t35 =>
 pIdx 2 t35 k2 fun t37 =>
 pField 0 t37 fun t38 =>
 pLoad h t38 fun t39 =>
 callS P F_cmp_Compare_int64 [t14, t22] h fun t23 h_1 =>
 (pLoad h_1 t26 fun t27_1 =>
 t27_1 = t27) /\
 (pLoad h_1 t30 fun t31_1 =>
 t31_1 = t31) /\
 (pLoad h_1 t34 fun t35_1 =>
 t35_1 = t35) /\
 (pLoad h_1 t38 fun t39_1 =>
 t39_1 = t39) /\
 (callS P F_cmp_Compare_int [t31, t39] h_1 fun t40 h_2 =>
 pBuildSlice T_int (zerosL [(I 0)] 2) [(0, 1, t23), (1, 1, t40)] 2 h_2 fun t41 h_3 =>
 callS P F_cmp_Or_int [t41] h_3 fun t42 h_4 =>
 pBin .lss t42 (I 0) fun t43 =>
 K t43 h_4)

theorem lk_heap_row_ahead (r0 i1 k2 : Value) (H : sh_heap_row_ahead Tryz.prog r0 i1 k2 h K) : CallsH Tryz.prog F_heap_row_ahead [r0, i1, k2].toArray h K :=
 lkF Tryz.func201 (Eq.mpr (by kernel_rfl) H)

def sh_heap_row_below (P : Program) (r0 i1 : Value) (h : Heap) (K : KT) : Prop :=
 pBox T_p_heap_row r0 h fun r2 h_1 =>
 pBox T_int i1 h_1 fun i3 h_2 =>
 K (.func (.func F_heap_row_below_1) #[] #[i3, r2]) h_2

theorem lk_heap_row_below (r0 i1 : Value) (H : sh_heap_row_below Tryz.prog r0 i1 h K) : CallsH Tryz.prog F_heap_row_below [r0, i1].toArray h K :=
 lkF Tryz.func202 (Eq.mpr (by kernel_rfl) H)

def sh_bits_Rows_Get_1 (P : Program) (at0 mask1 : Value) (h : Heap) (K : KT) : Prop :=
 pNil at0 fun t6 =>
 pLoad h t6 fun t7 =>
 pBin .and t7 mask1 fun t9 =>
 pBin .neq t9 (.int .u8 0) fun t10 =>
 K t10 h

theorem lk_bits_Rows_Get_1 (at0 mask1 : Value) (H : sh_bits_Rows_Get_1 Tryz.prog at0 mask1 h K) : CallsH Tryz.prog F_bits_Rows_Get_1 [at0, mask1].toArray h K :=
 lkF Tryz.func203 (Eq.mpr (by kernel_rfl) H)

def sh_avoid_behind (P : Program) (order0 : Value) (h : Heap) (K : KT) : Prop :=
 pBox T_sl_int order0 h fun order1 h_1 =>
 K (.func (.func F_avoid_behind_1) #[] #[order1]) h_1

theorem lk_avoid_behind (order0 : Value) (H : sh_avoid_behind Tryz.prog order0 h K) : CallsH Tryz.prog F_avoid_behind [order0].toArray h K :=
 lkF Tryz.func204 (Eq.mpr (by kernel_rfl) H)

def sh_avoid_bound_L1 (P : Program) (t10 l0 r1 v2 : Value) (K : KT) (best6 t11 : Value) (h_1 : Heap) (Z : Value -> KT) : Prop :=
 pBin .lss t11 t10 fun t12 =>
 ifV t12
 (pIdx 7 l0 t11 fun t13 =>
 pLoadN 7 h_1 t13 fun t14 =>
 pBox T_avoid_mark (.agg #[(I 0), (.slice none 0 0), (.slice none 0 0), (.slice none 0 0), (.slice none 0 0), (.slice none 0 0), (.slice none 0 0)]) h_1 fun m8 h_2 =>
 pStore 7 m8 t14 h_2 fun u h_3 =>
 pField 1 m8 fun t16 =>
 pField 0 t16 fun t17 =>
 pLoad h_3 t17 fun t18 =>
 pIdx 1 t18 r1 fun t20 =>
 pLoad h_3 t20 fun t21 =>
 pField 1 m8 fun t22 =>
 pField 0 t22 fun t23 =>
 pLoad h_3 t23 fun t24 =>
 pIdx 1 t24 v2 fun t26 =>
 pLoad h_3 t26 fun t27 =>
 pField 4 m8 fun t29 =>
 pField 0 t29 fun t30 =>
 pLoad h_3 t30 fun t31 =>
 pIdx 1 t31 r1 fun t33 =>
 pLoad h_3 t33 fun t34 =>
 pField 4 m8 fun t35 =>
 pField 0 t35 fun t36 =>
 pLoad h_3 t36 fun t37 =>
 pIdx 1 t37 v2 fun t39 =>
 pLoad h_3 t39 fun t40 =>
 callS P F_dist_Low [t21, t27] h_3 fun t28 h_4 =>
 (pLoad h_4 t30 fun t31_1 =>
 t31_1 = t31) /\
 (pLoad h_4 t33 fun t34_1 =>
 t34_1 = t34) /\
 (pLoad h_4 t36 fun t37_1 =>
 t37_1 = t37) /\
 (pLoad h_4 t39 fun t40_1 =>
 t40_1 = t40) /\
 (callS P F_dist_Lift [t34, t40] h_4 fun t41 h_5 =>
 pMax best6 t28 fun u_1 =>
 pMax u_1 t41 fun t42 =>
 pBin .add t11 (I 1) fun t43 =>
 Z t42 t43 h_5))
 (K best6 h_1)

def sh_avoid_bound (P : Program) (l0 r1 v2 : Value) (h : Heap) (K : KT) : Prop :=
 pLen l0 fun t10 =>
 LoopH (σ := Vals [6, 11]) (fun x hh ZZ => sh_avoid_bound_L1 P t10 l0 r1 v2 K x.1 x.2.1 hh (fun a0 a1 hz => ZZ (a0, (a1, ())) hz)) ((I 0), ((I 0), ())) h

theorem lk_avoid_bound (l0 r1 v2 : Value) (H : sh_avoid_bound Tryz.prog l0 r1 v2 h K) : CallsH Tryz.prog F_avoid_bound [l0, r1, v2].toArray h K :=
 callsH_of (ann := (annG (Tryz.f205.body.getD .skip) 0 [(3, [6, 11])]).1) (c := Tryz.f205.body.getD .skip) Tryz.func205 (by kernel_rfl) (by kernel_rfl) (by kernel_rfl) (of_decide_eq_true (by kernel_rfl))
  (Eq.mpr (by kernel_rfl) H)

end Go.Proofs.YtmdldoolnhpaeaaGreatDoor

set_option maxRecDepth 100000
namespace Go.Proofs.YtmdldoolnhpaeaaGreatDoor
open Go Go.Mh
variable {h : Heap} {K : KT}
set_option maxHeartbeats 0

def sh_dist_Sat (P : Program) (a0 b1 : Value) (h : Heap) (K : KT) : Prop :=
 callS P F_dist_between_int64 [(I 0), (I 2305843009213693952)] h fun t5 h_1 =>
 pBuildSlice T_int64 (zerosL [(I 0)] 2) [(0, 1, a0), (1, 1, b1)] 2 h_1 fun t8 h_2 =>
 callS P F_dist_folded [t5, t8] h_2 fun t9 h_3 =>
 K t9 h_3

theorem lk_dist_Sat (a0 b1 : Value) (H : sh_dist_Sat Tryz.prog a0 b1 h K) : CallsH Tryz.prog F_dist_Sat [a0, b1].toArray h K :=
 lkF Tryz.func206 (Eq.mpr (by kernel_rfl) H)

def sh_slices_Values_sl_int_int_1_L1 (P : Program) (t6 t5 yield0 : Value) (K : KT) (t7 : Value) (h_1 : Heap) (Z : KT) : Prop :=
 pBin .lss t7 t6 fun t8 =>
 ifV t8
 (pIdx 1 t5 t7 fun t9 =>
 pLoad h_1 t9 fun t10 =>
 callV P yield0 [t10].toArray h_1 fun t13 h_2 =>
 pUn .not t13 fun t14 =>
 ifV t14
 (K (.tuple #[]) h_2)
 (pBin .add t7 (I 1) fun t15 =>
 Z t15 h_2))
 (K (.tuple #[]) h_1)

def sh_slices_Values_sl_int_int_1 (P : Program) (yield0 t1 : Value) (h : Heap) (K : KT) : Prop :=
 pLoad h t1 fun t5 =>
 pLen t5 fun t6 =>
 LoopH (σ := Vals [7]) (fun x hh ZZ => sh_slices_Values_sl_int_int_1_L1 P t6 t5 yield0 K x.1 hh (fun a0 hz => ZZ (a0, ()) hz)) ((I 0), ()) h

theorem lk_slices_Values_sl_int_int_1 (yield0 t1 : Value) (H : sh_slices_Values_sl_int_int_1 Tryz.prog yield0 t1 h K) : CallsH Tryz.prog F_slices_Values_sl_int_int_1 [yield0, t1].toArray h K :=
 callsH_of (ann := (annG (Tryz.f207.body.getD .skip) 0 [(1, [7])]).1) (c := Tryz.f207.body.getD .skip) Tryz.func207 (by kernel_rfl) (by kernel_rfl) (by kernel_rfl) (of_decide_eq_true (by kernel_rfl))
  (Eq.mpr (by kernel_rfl) H)

def sh_slices_IndexFunc_sl_avoid_mark_avoid_mark_L1 (P : Program) (t7 s0 f1 : Value) (K : KT) (t8 : Value) (h_1 : Heap) (Z : KT) : Prop :=
 pBin .lss t8 t7 fun t9 =>
 ifV t9
 (pIdx 7 s0 t8 fun t14 =>
 pLoadN 7 h_1 t14 fun t15 =>
 callV P f1 [t15].toArray h_1 fun t16 h_2 =>
 ifV t16
 (K t8 h_2)
 (pBin .add t8 (I 1) fun t18 =>
 Z t18 h_2))
 (K (I (-1)) h_1)

def sh_slices_IndexFunc_sl_avoid_mark_avoid_mark (P : Program) (s0 f1 : Value) (h : Heap) (K : KT) : Prop :=
 pLen s0 fun t7 =>
 LoopH (σ := Vals [8]) (fun x hh ZZ => sh_slices_IndexFunc_sl_avoid_mark_avoid_mark_L1 P t7 s0 f1 K x.1 hh (fun a0 hz => ZZ (a0, ()) hz)) ((I 0), ()) h

theorem lk_slices_IndexFunc_sl_avoid_mark_avoid_mark (s0 f1 : Value) (H : sh_slices_IndexFunc_sl_avoid_mark_avoid_mark Tryz.prog s0 f1 h K) : CallsH Tryz.prog F_slices_IndexFunc_sl_avoid_mark_avoid_mark [s0, f1].toArray h K :=
 callsH_of (ann := (annG (Tryz.f208.body.getD .skip) 0 [(3, [8])]).1) (c := Tryz.f208.body.getD .skip) Tryz.func208 (by kernel_rfl) (by kernel_rfl) (by kernel_rfl) (of_decide_eq_true (by kernel_rfl))
  (Eq.mpr (by kernel_rfl) H)

def sh_net_one_int64_k1 (P : Program) (K : KT) (h_1 : Heap) : Prop :=
 K (.tuple #[(I 0), (.bool false)]) h_1

def sh_net_one_int64 (P : Program) (l0 i1 : Value) (h : Heap) (K : KT) : Prop :=
 pBin .lss i1 (I 0) fun t7 =>
 ifV t7
 (sh_net_one_int64_k1 P K h)
 (pLen l0 fun t11 =>
 pBin .geq i1 t11 fun t12 =>
 ifV t12
 (sh_net_one_int64_k1 P K h)
 (pIdx 1 l0 i1 fun t17 =>
 pLoad h t17 fun t18 =>
 K (.tuple #[t18, (.bool true)]) h))

theorem lk_net_one_int64 (l0 i1 : Value) (H : sh_net_one_int64 Tryz.prog l0 i1 h K) : CallsH Tryz.prog F_net_one_int64 [l0, i1].toArray h K :=
 lkF Tryz.func209 (Eq.mpr (by kernel_rfl) H)

def sh_split_directions (P : Program) (h : Heap) (K : KT) : Prop :=
 pBox T_4_func_int64_int64_int64 (.agg #[.nilFunc, .nilFunc, .nilFunc, .nilFunc]) h fun t0 h_1 =>
 pBuild [.nilFunc, .nilFunc, .nilFunc, .nilFunc] [(0, 1, (.func (.func F_split_directions_1) #[] #[])), (1, 1, (.func (.func F_split_directions_2) #[] #[])), (2, 1, (.func (.func F_split_directions_3) #[] #[])), (3, 1, (.func (.func F_split_directions_4) #[] #[]))] fun t1 =>
 pStore 4 t0 t1 h_1 fun u h_2 =>
 pLoadN 4 h_2 t0 fun res =>
 K res h_2

theorem lk_split_directions (H : sh_split_directions Tryz.prog h K) : CallsH Tryz.prog F_split_directions [].toArray h K :=
 lkF Tryz.func210 (Eq.mpr (by kernel_rfl) H)

def sh_split_spread_int_L1 (P : Program) (t19 l0 tell1 : Value) (K : KT) (least5 most6 t20 : Value) (h_2 : Heap) (Z : Value -> Value -> KT) : Prop :=
 pBin .lss t20 t19 fun t21 =>
 ifV t21
 (pIdx 1 l0 t20 fun t22 =>
 pLoad h_2 t22 fun t23 =>
 callV P tell1 [t23].toArray h_2 fun t27 h_3 =>
 pMin least5 t27 fun t28 =>
 callV P tell1 [t23].toArray h_3 fun t32 h_4 =>
 pMax most6 t32 fun t33 =>
 pBin .add t20 (I 1) fun t34 =>
 Z t28 t33 t34 h_4)
 (pBin .sub most6 least5 fun t37 =>
 K t37 h_2)

def sh_split_spread_int (P : Program) (l0 tell1 : Value) (h : Heap) (K : KT) : Prop :=
 pLen l0 fun t10 =>
 pBin .eql t10 (I 0) fun t11 =>
 ifV t11
 (K (I 0) h)
 (pIdx 1 l0 (I 0) fun t14 =>
 pLoad h t14 fun t15 =>
 callV P tell1 [t15].toArray h fun t16 h_1 =>
 pLen l0 fun t19 =>
 LoopH (σ := Vals [5, 6, 20]) (fun x hh ZZ => sh_split_spread_int_L1 P t19 l0 tell1 K x.1 x.2.1 x.2.2.1 hh (fun a0 a1 a2 hz => ZZ (a0, (a1, (a2, ()))) hz)) (t16, (t16, ((I 0), ()))) h_1)

theorem lk_split_spread_int (l0 tell1 : Value) (H : sh_split_spread_int Tryz.prog l0 tell1 h K) : CallsH Tryz.prog F_split_spread_int [l0, tell1].toArray h K :=
 callsH_of (ann := (annG (Tryz.f211.body.getD .skip) 0 [(8, [5, 6, 20])]).1) (c := Tryz.f211.body.getD .skip) Tryz.func211 (by kernel_rfl) (by kernel_rfl) (by kernel_rfl) (of_decide_eq_true (by kernel_rfl))
  (Eq.mpr (by kernel_rfl) H)

def sh_split_parter_along_1 (P : Program) (v0 t1 t2 : Value) (h : Heap) (K : KT) : Prop :=
 pLoad h t1 fun t9 =>
 pNil t9 fun t10 =>
 pField 0 t10 fun t11 =>
 pLoad h t11 fun t12 =>
 callS P F_net_Net_Place [t12, v0] h fun t14 h_1 =>
 pExt t14 0 fun t15 =>
 pExt t14 1 fun t16 =>
 pExt t14 2 fun t17 =>
 pLoad h_1 t2 fun t18 =>
 callV P t18 [t15, t16].toArray h_1 fun t21 h_2 =>
 K t21 h_2

theorem lk_split_parter_along_1 (v0 t1 t2 : Value) (H : sh_split_parter_along_1 Tryz.prog v0 t1 t2 h K) : CallsH Tryz.prog F_split_parter_along_1 [v0, t1, t2].toArray h K :=
 lkF Tryz.func212 (Eq.mpr (by kernel_rfl) H)

def sh_slices_SortFunc_sl_int_int (P : Program) (x0 cmp1 : Value) (h : Heap) (K : KT) : Prop :=
 pLen x0 fun t6 =>
 pConv .u64 t6 fun t10 =>
 callS P F_math_bits_Len [t10] h fun t11 h_1 =>
 callS P F_slices_pdqsortCmpFunc_int [x0, (I 0), t6, t11, cmp1] h_1 fun t13 h_2 =>
 K (.tuple #[]) h_2

theorem lk_slices_SortFunc_sl_int_int (x0 cmp1 : Value) (H : sh_slices_SortFunc_sl_int_int Tryz.prog x0 cmp1 h K) : CallsH Tryz.prog F_slices_SortFunc_sl_int_int [x0, cmp1].toArray h K :=
 lkF Tryz.func213 (Eq.mpr (by kernel_rfl) H)

def sh_cmp_isNaN_int64 (P : Program) (x0 : Value) (h : Heap) (K : KT) : Prop :=
 pBin .neq x0 x0 fun t5 =>
 K t5 h

theorem lk_cmp_isNaN_int64 (x0 : Value) (H : sh_cmp_isNaN_int64 Tryz.prog x0 h K) : CallsH Tryz.prog F_cmp_isNaN_int64 [x0].toArray h K :=
 lkF Tryz.func214 (Eq.mpr (by kernel_rfl) H)

def sh_cmp_isNaN_int (P : Program) (x0 : Value) (h : Heap) (K : KT) : Prop :=
 pBin .neq x0 x0 fun t5 =>
 K t5 h

theorem lk_cmp_isNaN_int (x0 : Value) (H : sh_cmp_isNaN_int Tryz.prog x0 h K) : CallsH Tryz.prog F_cmp_isNaN_int [x0].toArray h K :=
 lkF Tryz.func215 (Eq.mpr (by kernel_rfl) H)

def sh_flood_arcs_1_L1 (P : Program) (t10 t9 t2 t3 yield0 : Value) (K : KT) (t11 : Value) (h_1 : Heap) (Z : KT) : Prop :=
 pBin .lss t11 t10 fun t12 =>
 ifV t12
 (pIdx 1 t9 t11 fun t13 =>
 pLoad h_1 t13 fun t14 =>
 pLoad h_1 t2 fun t16 =>
 callS P F_net_Net_Arc [t16, t14] h_1 fun t18 h_2 =>
 pExt t18 0 fun t19 =>
 pExt t18 1 fun t20 =>
 pBox T_api_Arc (.agg #[(I 0), (I 0), (I 0)]) h_2 fun a7 h_3 =>
 pStore 3 a7 t19 h_3 fun u h_4 =>
 pLoad h_4 t3 fun t23 =>
 pLoadN 3 h_4 a7 fun t24 =>
 pField 2 a7 fun t26 =>
 pLoad h_4 t26 fun t27 =>
 callV P t23 [t24].toArray h_4 fun t25 h_5 =>
 (pLoad h_5 t26 fun t27_1 =>
 t27_1 = t27) /\
 (pBuild [(I 0), (I 0), (I 0)] [(1, 1, t25), (2, 1, t27)] fun t28 =>
 callV P yield0 [t14, t28].toArray h_5 fun t29 h_6 =>
 pUn .not t29 fun t30 =>
 ifV t30
 (K (.tuple #[]) h_6)
 (pBin .add t11 (I 1) fun t31 =>
 Z t31 h_6)))
 (K (.tuple #[]) h_1)

def sh_flood_arcs_1 (P : Program) (yield0 t1 t2 t3 : Value) (h : Heap) (K : KT) : Prop :=
 pLoad h t1 fun t9 =>
 pLen t9 fun t10 =>
 LoopH (σ := Vals [11]) (fun x hh ZZ => sh_flood_arcs_1_L1 P t10 t9 t2 t3 yield0 K x.1 hh (fun a0 hz => ZZ (a0, ()) hz)) ((I 0), ()) h

theorem lk_flood_arcs_1 (yield0 t1 t2 t3 : Value) (H : sh_flood_arcs_1 Tryz.prog yield0 t1 t2 t3 h K) : CallsH Tryz.prog F_flood_arcs_1 [yield0, t1, t2, t3].toArray h K :=
 callsH_of (ann := (annG (Tryz.f216.body.getD .skip) 0 [(1, [11])]).1) (c := Tryz.f216.body.getD .skip) Tryz.func216 (by kernel_rfl) (by kernel_rfl) (by kernel_rfl) (of_decide_eq_true (by kernel_rfl))
  (Eq.mpr (by kernel_rfl) H)

def sh_tight_marked_1_k2 (P : Program) (t6 : Value) (Z : KT) (h_4 : Heap) : Prop :=
 pBin .add t6 (I 1) fun t18 =>
 Z t18 h_4

def sh_tight_marked_1_L1 (P : Program) (t5 t2 yield0 : Value) (K : KT) (t6 : Value) (h_1 : Heap) (Z : KT) : Prop :=
 pBin .lss t6 t5 fun t7 =>
 ifV t7
 (pLoad h_1 t2 fun t9 =>
 callV P t9 [t6].toArray h_1 fun t11 h_2 =>
 ifV t11
 (callV P yield0 [t6].toArray h_2 fun t15 h_3 =>
 pUn .not t15 fun t16 =>
 ifV t16
 (K (.tuple #[]) h_3)
 (sh_tight_marked_1_k2 P t6 Z h_3))
 (sh_tight_marked_1_k2 P t6 Z h_2))
 (K (.tuple #[]) h_1)

def sh_tight_marked_1 (P : Program) (yield0 t1 t2 : Value) (h : Heap) (K : KT) : Prop :=
 pLoad h t1 fun t5 =>
 LoopH (σ := Vals [6]) (fun x hh ZZ => sh_tight_marked_1_L1 P t5 t2 yield0 K x.1 hh (fun a0 hz => ZZ (a0, ()) hz)) ((I 0), ()) h

theorem lk_tight_marked_1 (yield0 t1 t2 : Value) (H : sh_tight_marked_1 Tryz.prog yield0 t1 t2 h K) : CallsH Tryz.prog F_tight_marked_1 [yield0, t1, t2].toArray h K :=
 callsH_of (ann := (annG (Tryz.f217.body.getD .skip) 0 [(1, [6])]).1) (c := Tryz.f217.body.getD .skip) Tryz.func217 (by kernel_rfl) (by kernel_rfl) (by kernel_rfl) (of_decide_eq_true (by kernel_rfl))
  (Eq.mpr (by kernel_rfl) H)

def sh_tight_tells_1 (P : Program) (arc0 t1 t2 : Value) (h : Heap) (K : KT) : Prop :=
 pLoad h t1 fun t9 =>
 callS P F_net_Net_Arc [t9, arc0] h fun t11 h_1 =>
 pExt t11 0 fun t12 =>
 pExt t11 1 fun t13 =>
 pBox T_api_Arc (.agg #[(I 0), (I 0), (I 0)]) h_1 fun a5 h_2 =>
 pStore 3 a5 t12 h_2 fun u h_3 =>
 pField 0 t2 fun t14 =>
 pLoad h_3 t14 fun t15 =>
 pField 1 a5 fun t16 =>
 pLoad h_3 t16 fun t17 =>
 pIdx 1 t15 t17 fun t18 =>
 pLoad h_3 t18 fun t19 =>
 pField 2 a5 fun t20 =>
 pLoad h_3 t20 fun t21 =>
 callS P F_dist_Add [t19, t21] h_3 fun t22 h_4 =>
 callS P F_dist_Finite [t22] h_4 fun t24 h_5 =>
 ifV t24
 (pField 0 t2 fun t27 =>
 pLoad h_5 t27 fun t28 =>
 pField 0 a5 fun t29 =>
 pLoad h_5 t29 fun t30 =>
 pIdx 1 t28 t30 fun t31 =>
 pLoad h_5 t31 fun t32 =>
 pBin .eql t22 t32 fun t33 =>
 K t33 h_5)
 (K (.bool false) h_5)

theorem lk_tight_tells_1 (arc0 t1 t2 : Value) (H : sh_tight_tells_1 Tryz.prog arc0 t1 t2 h K) : CallsH Tryz.prog F_tight_tells_1 [arc0, t1, t2].toArray h K :=
 lkF Tryz.func218 (Eq.mpr (by kernel_rfl) H)

def sh_dist_Add (P : Program) (a0 b1 : Value) (h : Heap) (K : KT) : Prop :=
 pBuildSlice T_int64 (zerosL [(I 0)] 2) [(0, 1, a0), (1, 1, b1)] 2 h fun t7 h_1 =>
 callS P F_dist_folded [(.func (.func F_dist_way) #[] #[]), t7] h_1 fun t8 h_2 =>
 K t8 h_2

theorem lk_dist_Add (a0 b1 : Value) (H : sh_dist_Add Tryz.prog a0 b1 h K) : CallsH Tryz.prog F_dist_Add [a0, b1].toArray h K :=
 lkF Tryz.func219 (Eq.mpr (by kernel_rfl) H)

def sh_dist_Finite (P : Program) (a0 : Value) (h : Heap) (K : KT) : Prop :=
 callS P F_dist_way [a0] h fun t4 h_1 =>
 pBin .lss t4 (I 72057594037927936) fun t5 =>
 K t5 h_1

theorem lk_dist_Finite (a0 : Value) (H : sh_dist_Finite Tryz.prog a0 h K) : CallsH Tryz.prog F_dist_Finite [a0].toArray h K :=
 lkF Tryz.func220 (Eq.mpr (by kernel_rfl) H)

def sh_heap_row_below_1_L1 (P : Program) (t1 t2 yield0 : Value) (K : KT) (k4 : Value) (h_1 : Heap) (Z : KT) : Prop :=
 pLoad h_1 t1 fun t9 =>
 pBin .mul (I 4) t9 fun t10 =>
 pBin .add t10 (I 4) fun t11 =>
 pBin .leq k4 t11 fun t12 =>
 ifV t12
 (pLoad h_1 t2 fun t15 =>
 pNil t15 fun t16 =>
 pField 0 t16 fun t17 =>
 pLoad h_1 t17 fun t18 =>
 pLen t18 fun t19 =>
 pBin .lss k4 t19 fun t20 =>
 ifV t20
 (callV P yield0 [k4].toArray h_1 fun t26 h_2 =>
 pUn .not t26 fun t27 =>
 ifV t27
 (K (.tuple #[]) h_2)
 (pBin .add k4 (I 1) fun t23 =>
 Z t23 h_2))
 (K (.tuple #[]) h_1))
 (K (.tuple #[]) h_1)

def sh_heap_row_below_1 (P : Program) (yield0 t1 t2 : Value) (h : Heap) (K : KT) : Prop :=
 pLoad h t1 fun t5 =>
 pBin .mul (I 4) t5 fun t6 =>
 pBin .add t6 (I 1) fun t7 =>
 LoopH (σ := Vals [4]) (fun x hh ZZ => sh_heap_row_below_1_L1 P t1 t2 yield0 K x.1 hh (fun a0 hz => ZZ (a0, ()) hz)) (t7, ()) h

theorem lk_heap_row_below_1 (yield0 t1 t2 : Value) (H : sh_heap_row_below_1 Tryz.prog yield0 t1 t2 h K) : CallsH Tryz.prog F_heap_row_below_1 [yield0, t1, t2].toArray h K :=
 callsH_of (ann := (annG (Tryz.f221.body.getD .skip) 0 [(1, [4])]).1) (c := Tryz.f221.body.getD .skip) Tryz.func221 (by kernel_rfl) (by kernel_rfl) (by kernel_rfl) (of_decide_eq_true (by kernel_rfl))
  (Eq.mpr (by kernel_rfl) H)

def sh_avoid_behind_1_B1 (P : Program) (h_2 : Heap) (yield2 : Value) (L : Loop) (t7 t8 : Value) (h_3 : Heap) (R : Exit -> Heap -> Prop) : Prop :=
 beginR (h_2.size + 1) L h_3 fun h_4 =>
 pLoad h_4 yield2 fun t9 =>
 callV P t9 [t8].toArray h_4 fun t11 h_5 =>
 pUn .not t11 fun t12 =>
 ifV t12
 (R .ret h_5)
 (R .normal h_5)

def sh_avoid_behind_1 (P : Program) (yield0 t1 : Value) (h : Heap) (K : KT) : Prop :=
 pBox T_func_int_bool yield0 h fun yield2 h_1 =>
 pLoad h_1 t1 fun t5 =>
 callS P F_slices_Backward_sl_int_int [t5] h_1 fun t6 h_2 =>
 rangeH P t6 [7, 8] (h_2.size + 1) (h_2.push (.deferred (some []))) (fun L x hh R => sh_avoid_behind_1_B1 P h_2 yield2 L x.1 x.2.1 hh R)
 (fun h_6 => takeM (h_2.size :: []) h_6 fun h_7 =>
 K (.tuple #[]) h_7)
 (fun h_8 => takeM (h_2.size :: []) h_8 fun h_9 =>
 K (.tuple #[]) h_9)
 []

theorem lk_avoid_behind_1 (yield0 t1 : Value) (H : sh_avoid_behind_1 Tryz.prog yield0 t1 h K) : CallsH Tryz.prog F_avoid_behind_1 [yield0, t1].toArray h K :=
 lkF Tryz.func222 (Eq.mpr (by kernel_rfl) H)

def sh_slices_Backward_sl_int_int (P : Program) (s0 : Value) (h : Heap) (K : KT) : Prop :=
 pBox T_sl_int s0 h fun s1 h_1 =>
 K (.func (.func F_slices_Backward_sl_int_int_1) #[] #[s1]) h_1

theorem lk_slices_Backward_sl_int_int (s0 : Value) (H : sh_slices_Backward_sl_int_int Tryz.prog s0 h K) : CallsH Tryz.prog F_slices_Backward_sl_int_int [s0].toArray h K :=
 lkF Tryz.func223 (Eq.mpr (by kernel_rfl) H)

def sh_dist_Low (P : Program) (v0 t1 : Value) (h : Heap) (K : KT) : Prop :=
 callS P F_dist_way [v0] h fun t6 h_1 =>
 callS P F_dist_way [t1] h_1 fun t8 h_2 =>
 callS P F_dist_Finite [t8] h_2 fun t15 h_3 =>
 pUn .not t15 fun t16 =>
 ifV t16
 (K (I 0) h_3)
 (callS P F_dist_Finite [t6] h_3 fun t19 h_4 =>
 pUn .not t19 fun t20 =>
 ifV t20
 (K (I 72057594037927936) h_4)
 (pBin .sub t6 t8 fun t11 =>
 callS P F_dist_way [t11] h_4 fun t12 h_5 =>
 K t12 h_5))

theorem lk_dist_Low (v0 t1 : Value) (H : sh_dist_Low Tryz.prog v0 t1 h K) : CallsH Tryz.prog F_dist_Low [v0, t1].toArray h K :=
 lkF Tryz.func224 (Eq.mpr (by kernel_rfl) H)

def sh_dist_Lift (P : Program) (v0 t1 : Value) (h : Heap) (K : KT) : Prop :=
 callS P F_dist_Low [t1, v0] h fun t7 h_1 =>
 K t7 h_1

theorem lk_dist_Lift (v0 t1 : Value) (H : sh_dist_Lift Tryz.prog v0 t1 h K) : CallsH Tryz.prog F_dist_Lift [v0, t1].toArray h K :=
 lkF Tryz.func225 (Eq.mpr (by kernel_rfl) H)

def sh_dist_folded_L1 (P : Program) (t8 l1 keep0 : Value) (K : KT) (sum4 t9 : Value) (h_1 : Heap) (Z : Value -> KT) : Prop :=
 pBin .lss t9 t8 fun t10 =>
 ifV t10
 (pIdx 1 l1 t9 fun t11 =>
 pLoad h_1 t11 fun t12 =>
 callV P keep0 [t12].toArray h_1 fun t17 h_2 =>
 pBin .add sum4 t17 fun t18 =>
 callV P keep0 [t18].toArray h_2 fun t19 h_3 =>
 pBin .add t9 (I 1) fun t20 =>
 Z t19 t20 h_3)
 (K sum4 h_1)

def sh_dist_folded (P : Program) (keep0 l1 : Value) (h : Heap) (K : KT) : Prop :=
 pLen l1 fun t8 =>
 LoopH (σ := Vals [4, 9]) (fun x hh ZZ => sh_dist_folded_L1 P t8 l1 keep0 K x.1 x.2.1 hh (fun a0 a1 hz => ZZ (a0, (a1, ())) hz)) ((I 0), ((I 0), ())) h

theorem lk_dist_folded (keep0 l1 : Value) (H : sh_dist_folded Tryz.prog keep0 l1 h K) : CallsH Tryz.prog F_dist_folded [keep0, l1].toArray h K :=
 callsH_of (ann := (annG (Tryz.f226.body.getD .skip) 0 [(3, [4, 9])]).1) (c := Tryz.f226.body.getD .skip) Tryz.func226 (by kernel_rfl) (by kernel_rfl) (by kernel_rfl) (of_decide_eq_true (by kernel_rfl))
  (Eq.mpr (by kernel_rfl) H)

def sh_dist_between_int64 (P : Program) (least0 greatest1 : Value) (h : Heap) (K : KT) : Prop :=
 pBox T_int64 least0 h fun least2 h_1 =>
 pBox T_int64 greatest1 h_1 fun greatest3 h_2 =>
 K (.func (.func F_dist_between_int64_1) #[] #[least2, greatest3]) h_2

theorem lk_dist_between_int64 (least0 greatest1 : Value) (H : sh_dist_between_int64 Tryz.prog least0 greatest1 h K) : CallsH Tryz.prog F_dist_between_int64 [least0, greatest1].toArray h K :=
 lkF Tryz.func227 (Eq.mpr (by kernel_rfl) H)

def sh_split_directions_1 (P : Program) (x0 t1 : Value) (h : Heap) (K : KT) : Prop :=
 K x0 h

theorem lk_split_directions_1 (x0 t1 : Value) (H : sh_split_directions_1 Tryz.prog x0 t1 h K) : CallsH Tryz.prog F_split_directions_1 [x0, t1].toArray h K :=
 lkF Tryz.func228 (Eq.mpr (by kernel_rfl) H)

def sh_split_directions_2 (P : Program) (t0 y1 : Value) (h : Heap) (K : KT) : Prop :=
 K y1 h

theorem lk_split_directions_2 (t0 y1 : Value) (H : sh_split_directions_2 Tryz.prog t0 y1 h K) : CallsH Tryz.prog F_split_directions_2 [t0, y1].toArray h K :=
 lkF Tryz.func229 (Eq.mpr (by kernel_rfl) H)

def sh_split_directions_3 (P : Program) (x0 y1 : Value) (h : Heap) (K : KT) : Prop :=
 pBin .add x0 y1 fun t7 =>
 K t7 h

theorem lk_split_directions_3 (x0 y1 : Value) (H : sh_split_directions_3 Tryz.prog x0 y1 h K) : CallsH Tryz.prog F_split_directions_3 [x0, y1].toArray h K :=
 lkF Tryz.func230 (Eq.mpr (by kernel_rfl) H)

def sh_split_directions_4 (P : Program) (x0 y1 : Value) (h : Heap) (K : KT) : Prop :=
 pBin .sub x0 y1 fun t7 =>
 K t7 h

theorem lk_split_directions_4 (x0 y1 : Value) (H : sh_split_directions_4 Tryz.prog x0 y1 h K) : CallsH Tryz.prog F_split_directions_4 [x0, y1].toArray h K :=
 lkF Tryz.func231 (Eq.mpr (by kernel_rfl) H)

def sh_slices_pdqsortCmpFunc_int_C5 (P : Program) (data0 a1_1 b2_1 pivot13 cmp4 : Value) (Z : Value -> Value -> Value -> Value -> KT) (limit3_2 wasBalanced10 wasPartitioned11 t23 t97 : Value) (h_12 : Heap) : Prop :=
 ifV t97
 (callS P F_slices_partitionEqualCmpFunc_int [data0, a1_1, b2_1, pivot13, cmp4] h_12 fun t103 h_13 =>
 Z t103 b2_1 limit3_2 wasBalanced10 wasPartitioned11 h_13)
 (callS P F_slices_partitionCmpFunc_int [data0, a1_1, b2_1, pivot13, cmp4] h_12 fun t111 h_14 =>
 pExt t111 0 fun t112 =>
 pExt t111 1 fun t113 =>
 pBin .sub t112 a1_1 fun t117 =>
 pBin .sub b2_1 t112 fun t120 =>
 pBin .quo t23 (I 8) fun t122 =>
 pBin .lss t117 t120 fun t125 =>
 ifV t125
 (pBin .geq t117 t122 fun t128 =>
 callS P F_slices_pdqsortCmpFunc_int [data0, a1_1, t112, limit3_2, cmp4] h_14 fun t134 h_15 =>
 pBin .add t112 (I 1) fun t136 =>
 Z t136 b2_1 limit3_2 t128 t113 h_15)
 (pBin .geq t120 t122 fun t139 =>
 pBin .add t112 (I 1) fun t142 =>
 callS P F_slices_pdqsortCmpFunc_int [data0, t142, b2_1, limit3_2, cmp4] h_14 fun t146 h_16 =>
 Z a1_1 t112 limit3_2 t139 t113 h_16))

def sh_slices_pdqsortCmpFunc_int_k4 (P : Program) (a1_1 data0 pivot13 cmp4 b2_1 : Value) (Z : Value -> Value -> Value -> Value -> KT) (limit3_2 wasBalanced10 wasPartitioned11 t23 : Value) (h_10 : Heap) : Prop :=
 cutP (σ := Vals [97]) (fun J =>
 pBin .gtr a1_1 (I 0) fun t82 =>
 ifV t82
 (pBin .sub a1_1 (I 1) fun t87 =>
 pIdx 1 data0 t87 fun t88 =>
 pLoad h_10 t88 fun t89 =>
 pIdx 1 data0 pivot13 fun t92 =>
 pLoad h_10 t92 fun t93 =>
 callV P cmp4 [t89, t93].toArray h_10 fun t94 h_11 =>
 pBin .lss t94 (I 0) fun t95 =>
 pUn .not t95 fun t96 =>
 J (t96, ()) h_11)
 (J ((.bool false), ()) h_10))
 (fun x hh => sh_slices_pdqsortCmpFunc_int_C5 P data0 a1_1 b2_1 pivot13 cmp4 Z limit3_2 wasBalanced10 wasPartitioned11 t23 x.1 hh)

def sh_slices_pdqsortCmpFunc_int_k3 (P : Program) (wasBalanced10 wasPartitioned11 data0 a1_1 b2_1 cmp4 : Value) (K : KT) (Z : Value -> Value -> Value -> Value -> KT) (limit3_2 t23 pivot13 hint14 : Value) (h_8 : Heap) : Prop :=
 ifV wasBalanced10
 (ifV wasPartitioned11
 (pBin .eql hint14 (I 1) fun t74 =>
 ifV t74
 (callS P F_slices_partialInsertionSortCmpFunc_int [data0, a1_1, b2_1, cmp4] h_8 fun t80 h_9 =>
 ifV t80
 (K (.tuple #[]) h_9)
 (sh_slices_pdqsortCmpFunc_int_k4 P a1_1 data0 pivot13 cmp4 b2_1 Z limit3_2 wasBalanced10 wasPartitioned11 t23 h_9))
 (sh_slices_pdqsortCmpFunc_int_k4 P a1_1 data0 pivot13 cmp4 b2_1 Z limit3_2 wasBalanced10 wasPartitioned11 t23 h_8))
 (sh_slices_pdqsortCmpFunc_int_k4 P a1_1 data0 pivot13 cmp4 b2_1 Z limit3_2 wasBalanced10 wasPartitioned11 t23 h_8))
 (sh_slices_pdqsortCmpFunc_int_k4 P a1_1 data0 pivot13 cmp4 b2_1 Z limit3_2 wasBalanced10 wasPartitioned11 t23 h_8)

def sh_slices_pdqsortCmpFunc_int_k2 (P : Program) (data0 a1_1 b2_1 cmp4 wasBalanced10 wasPartitioned11 : Value) (K : KT) (Z : Value -> Value -> Value -> Value -> KT) (t23 limit3_2 : Value) (h_5 : Heap) : Prop :=
 callS P F_slices_choosePivotCmpFunc_int [data0, a1_1, b2_1, cmp4] h_5 fun t52 h_6 =>
 pExt t52 0 fun t53 =>
 pExt t52 1 fun t54 =>
 pBin .eql t54 (I 2) fun t56 =>
 ifV t56
 (callS P F_slices_reverseRangeCmpFunc_int [data0, a1_1, b2_1, cmp4] h_6 fun t61 h_7 =>
 pBin .sub b2_1 (I 1) fun t63 =>
 pBin .sub t53 a1_1 fun t66 =>
 pBin .sub t63 t66 fun t67 =>
 sh_slices_pdqsortCmpFunc_int_k3 P wasBalanced10 wasPartitioned11 data0 a1_1 b2_1 cmp4 K Z limit3_2 t23 t67 (I 1) h_7)
 (sh_slices_pdqsortCmpFunc_int_k3 P wasBalanced10 wasPartitioned11 data0 a1_1 b2_1 cmp4 K Z limit3_2 t23 t53 t54 h_6)

def sh_slices_pdqsortCmpFunc_int_L1 (P : Program) (data0 cmp4 : Value) (K : KT) (a1_1 b2_1 limit3_1 wasBalanced10 wasPartitioned11 : Value) (h_1 : Heap) (Z : Value -> Value -> Value -> Value -> KT) : Prop :=
 pBin .sub b2_1 a1_1 fun t23 =>
 pBin .leq t23 (I 12) fun t25 =>
 ifV t25
 (callS P F_slices_insertionSortCmpFunc_int [data0, a1_1, b2_1, cmp4] h_1 fun t30 h_2 =>
 K (.tuple #[]) h_2)
 (pBin .eql limit3_1 (I 0) fun t32 =>
 ifV t32
 (callS P F_slices_heapSortCmpFunc_int [data0, a1_1, b2_1, cmp4] h_1 fun t37 h_3 =>
 K (.tuple #[]) h_3)
 (pUn .not wasBalanced10 fun t39 =>
 ifV t39
 (callS P F_slices_breakPatternsCmpFunc_int [data0, a1_1, b2_1, cmp4] h_1 fun t44 h_4 =>
 pBin .sub limit3_1 (I 1) fun t46 =>
 sh_slices_pdqsortCmpFunc_int_k2 P data0 a1_1 b2_1 cmp4 wasBalanced10 wasPartitioned11 K Z t23 t46 h_4)
 (sh_slices_pdqsortCmpFunc_int_k2 P data0 a1_1 b2_1 cmp4 wasBalanced10 wasPartitioned11 K Z t23 limit3_1 h_1)))

def sh_slices_pdqsortCmpFunc_int (P : Program) (data0 a1 b2 limit3 cmp4 : Value) (h : Heap) (K : KT) : Prop :=
 LoopH (σ := Vals [1, 2, 3, 10, 11]) (fun x hh ZZ => sh_slices_pdqsortCmpFunc_int_L1 P data0 cmp4 K x.1 x.2.1 x.2.2.1 x.2.2.2.1 x.2.2.2.2.1 hh (fun a0 a1 a2 a3 a4 hz => ZZ (a0, (a1, (a2, (a3, (a4, ()))))) hz)) (a1, (b2, (limit3, ((.bool true), ((.bool true), ()))))) h

theorem lk_slices_pdqsortCmpFunc_int (data0 a1 b2 limit3 cmp4 : Value) (H : sh_slices_pdqsortCmpFunc_int Tryz.prog data0 a1 b2 limit3 cmp4 h K) : CallsH Tryz.prog F_slices_pdqsortCmpFunc_int [data0, a1, b2, limit3, cmp4].toArray h K :=
 callsH_of (ann := (annG (Tryz.f232.body.getD .skip) 0 [(2, [1, 2, 3, 10, 11]), (22, [97])]).1) (c := Tryz.f232.body.getD .skip) Tryz.func232 (by kernel_rfl) (by kernel_rfl) (by kernel_rfl) (of_decide_eq_true (by kernel_rfl))
  (Eq.mpr (by kernel_rfl) H)

end Go.Proofs.YtmdldoolnhpaeaaGreatDoor

set_option maxRecDepth 100000
namespace Go.Proofs.YtmdldoolnhpaeaaGreatDoor
open Go Go.Mh
variable {h : Heap} {K : KT}
set_option maxHeartbeats 0

def sh_math_bits_Len (P : Program) (x0 : Value) (h : Heap) (K : KT) : Prop :=
 callS P F_math_bits_Len64 [x0] h fun t7 h_1 =>
 K t7 h_1

theorem lk_math_bits_Len (x0 : Value) (H : sh_math_bits_Len Tryz.prog x0 h K) : CallsH Tryz.prog F_math_bits_Len [x0].toArray h K :=
 lkF Tryz.func233 (Eq.mpr (by kernel_rfl) H)

def sh_dist_way (P : Program) (a0 : Value) (h : Heap) (K : KT) : Prop :=
 callS P F_dist_between_int64 [(I 0), (I 72057594037927936)] h fun t3 h_1 =>
 callV P t3 [a0].toArray h_1 fun t5 h_2 =>
 K t5 h_2

theorem lk_dist_way (a0 : Value) (H : sh_dist_way Tryz.prog a0 h K) : CallsH Tryz.prog F_dist_way [a0].toArray h K :=
 lkF Tryz.func234 (Eq.mpr (by kernel_rfl) H)

def sh_slices_Backward_sl_int_int_1_L1 (P : Program) (t1 yield0 : Value) (K : KT) (i3 : Value) (h_1 : Heap) (Z : KT) : Prop :=
 pBin .geq i3 (I 0) fun t8 =>
 ifV t8
 (pLoad h_1 t1 fun t13 =>
 pIdx 1 t13 i3 fun t15 =>
 pLoad h_1 t15 fun t16 =>
 callV P yield0 [i3, t16].toArray h_1 fun t17 h_2 =>
 pUn .not t17 fun t18 =>
 ifV t18
 (K (.tuple #[]) h_2)
 (pBin .sub i3 (I 1) fun t10 =>
 Z t10 h_2))
 (K (.tuple #[]) h_1)

def sh_slices_Backward_sl_int_int_1 (P : Program) (yield0 t1 : Value) (h : Heap) (K : KT) : Prop :=
 pLoad h t1 fun t4 =>
 pLen t4 fun t5 =>
 pBin .sub t5 (I 1) fun t6 =>
 LoopH (σ := Vals [3]) (fun x hh ZZ => sh_slices_Backward_sl_int_int_1_L1 P t1 yield0 K x.1 hh (fun a0 hz => ZZ (a0, ()) hz)) (t6, ()) h

theorem lk_slices_Backward_sl_int_int_1 (yield0 t1 : Value) (H : sh_slices_Backward_sl_int_int_1 Tryz.prog yield0 t1 h K) : CallsH Tryz.prog F_slices_Backward_sl_int_int_1 [yield0, t1].toArray h K :=
 callsH_of (ann := (annG (Tryz.f235.body.getD .skip) 0 [(1, [3])]).1) (c := Tryz.f235.body.getD .skip) Tryz.func235 (by kernel_rfl) (by kernel_rfl) (by kernel_rfl) (of_decide_eq_true (by kernel_rfl))
  (Eq.mpr (by kernel_rfl) H)

def sh_dist_between_int64_1 (P : Program) (x0 t1 t2 : Value) (h : Heap) (K : KT) : Prop :=
 pLoad h t1 fun t6 =>
 pMax x0 t6 fun t7 =>
 pLoad h t2 fun t8 =>
 pMin t7 t8 fun t9 =>
 K t9 h

theorem lk_dist_between_int64_1 (x0 t1 t2 : Value) (H : sh_dist_between_int64_1 Tryz.prog x0 t1 t2 h K) : CallsH Tryz.prog F_dist_between_int64_1 [x0, t1, t2].toArray h K :=
 lkF Tryz.func236 (Eq.mpr (by kernel_rfl) H)

def sh_slices_insertionSortCmpFunc_int_C3 (P : Program) (j9 data0 : Value) (Z_1 : KT) (i8 : Value) (Z : KT) (t34 : Value) (h_4 : Heap) : Prop :=
 ifV t34
 (pBin .sub j9 (I 1) fun t41 =>
 pBin .sub j9 (I 1) fun t44 =>
 pIdx 1 data0 t44 fun t45 =>
 pLoad h_4 t45 fun t46 =>
 pIdx 1 data0 j9 fun t49 =>
 pLoad h_4 t49 fun t50 =>
 pIdx 1 data0 j9 fun t51 =>
 pStore 1 t51 t46 h_4 fun u h_5 =>
 pIdx 1 data0 t41 fun t52 =>
 pStore 1 t52 t50 h_5 fun u_1 h_6 =>
 pBin .sub j9 (I 1) fun t36 =>
 Z_1 t36 h_6)
 (pBin .add i8 (I 1) fun t16 =>
 Z t16 h_4)

def sh_slices_insertionSortCmpFunc_int_L2 (P : Program) (a1 data0 cmp3 i8 : Value) (Z : KT) (j9 : Value) (h_2 : Heap) (Z_1 : KT) : Prop :=
 cutP (σ := Vals [34]) (fun J =>
 pBin .gtr j9 a1 fun t20 =>
 ifV t20
 (pIdx 1 data0 j9 fun t25 =>
 pLoad h_2 t25 fun t26 =>
 pBin .sub j9 (I 1) fun t29 =>
 pIdx 1 data0 t29 fun t30 =>
 pLoad h_2 t30 fun t31 =>
 callV P cmp3 [t26, t31].toArray h_2 fun t32 h_3 =>
 pBin .lss t32 (I 0) fun t33 =>
 J (t33, ()) h_3)
 (J ((.bool false), ()) h_2))
 (fun x hh => sh_slices_insertionSortCmpFunc_int_C3 P j9 data0 Z_1 i8 Z x.1 hh)

def sh_slices_insertionSortCmpFunc_int_L1 (P : Program) (b2 a1 data0 cmp3 : Value) (K : KT) (i8 : Value) (h_1 : Heap) (Z : KT) : Prop :=
 pBin .lss i8 b2 fun t14 =>
 ifV t14
 (LoopH (σ := Vals [9]) (fun x hh ZZ => sh_slices_insertionSortCmpFunc_int_L2 P a1 data0 cmp3 i8 Z x.1 hh (fun a0 hz => ZZ (a0, ()) hz)) (i8, ()) h_1)
 (K (.tuple #[]) h_1)

def sh_slices_insertionSortCmpFunc_int (P : Program) (data0 a1 b2 cmp3 : Value) (h : Heap) (K : KT) : Prop :=
 pBin .add a1 (I 1) fun t11 =>
 LoopH (σ := Vals [8]) (fun x hh ZZ => sh_slices_insertionSortCmpFunc_int_L1 P b2 a1 data0 cmp3 K x.1 hh (fun a0 hz => ZZ (a0, ()) hz)) (t11, ()) h

theorem lk_slices_insertionSortCmpFunc_int (data0 a1 b2 cmp3 : Value) (H : sh_slices_insertionSortCmpFunc_int Tryz.prog data0 a1 b2 cmp3 h K) : CallsH Tryz.prog F_slices_insertionSortCmpFunc_int [data0, a1, b2, cmp3].toArray h K :=
 callsH_of (ann := (annG (Tryz.f237.body.getD .skip) 0 [(1, [8]), (6, [9]), (8, [34])]).1) (c := Tryz.f237.body.getD .skip) Tryz.func237 (by kernel_rfl) (by kernel_rfl) (by kernel_rfl) (of_decide_eq_true (by kernel_rfl))
  (Eq.mpr (by kernel_rfl) H)

def sh_math_bits_Len64_k3 (P : Program) (K : KT) (x0_3 n2_2 : Value) (h_3 : Heap) : Prop :=
 pConv .u8 x0_3 fun t21 =>
 pIdxS (.string ⟨#[0, 1, 2, 2, 3, 3, 3, 3, 4, 4, 4, 4, 4, 4, 4, 4, 5, 5, 5, 5, 5, 5, 5, 5, 5, 5, 5, 5, 5, 5, 5, 5, 6, 6, 6, 6, 6, 6, 6, 6, 6, 6, 6, 6, 6, 6, 6, 6, 6, 6, 6, 6, 6, 6, 6, 6, 6, 6, 6, 6, 6, 6, 6, 6, 7, 7, 7, 7, 7, 7, 7, 7, 7, 7, 7, 7, 7, 7, 7, 7, 7, 7, 7, 7, 7, 7, 7, 7, 7, 7, 7, 7, 7, 7, 7, 7, 7, 7, 7, 7, 7, 7, 7, 7, 7, 7, 7, 7, 7, 7, 7, 7, 7, 7, 7, 7, 7, 7, 7, 7, 7, 7, 7, 7, 7, 7, 7, 7, 8, 8, 8, 8, 8, 8, 8, 8, 8, 8, 8, 8, 8, 8, 8, 8, 8, 8, 8, 8, 8, 8, 8, 8, 8, 8, 8, 8, 8, 8, 8, 8, 8, 8, 8, 8, 8, 8, 8, 8, 8, 8, 8, 8, 8, 8, 8, 8, 8, 8, 8, 8, 8, 8, 8, 8, 8, 8, 8, 8, 8, 8, 8, 8, 8, 8, 8, 8, 8, 8, 8, 8, 8, 8, 8, 8, 8, 8, 8, 8, 8, 8, 8, 8, 8, 8, 8, 8, 8, 8, 8, 8, 8, 8, 8, 8, 8, 8, 8, 8, 8, 8, 8, 8, 8, 8, 8, 8, 8, 8, 8, 8, 8, 8, 8, 8, 8, 8, 8, 8, 8, 8, 8, 8, 8, 8, 8, 8]⟩) t21 fun t22 =>
 pConv .i64 t22 fun t23 =>
 pBin .add n2_2 t23 fun t24 =>
 K t24 h_3

def sh_math_bits_Len64_k2 (P : Program) (K : KT) (x0_2 n2_1 : Value) (h_2 : Heap) : Prop :=
 pBin .geq x0_2 (.int .u64 256) fun t14 =>
 ifV t14
 (pBin .shr x0_2 (.int .u64 8) fun t16 =>
 pBin .add n2_1 (I 8) fun t18 =>
 sh_math_bits_Len64_k3 P K t16 t18 h_2)
 (sh_math_bits_Len64_k3 P K x0_2 n2_1 h_2)

def sh_math_bits_Len64_k1 (P : Program) (K : KT) (x0_1 n2 : Value) (h_1 : Heap) : Prop :=
 pBin .geq x0_1 (.int .u64 65536) fun t8 =>
 ifV t8
 (pBin .shr x0_1 (.int .u64 16) fun t10 =>
 pBin .add n2 (I 16) fun t12 =>
 sh_math_bits_Len64_k2 P K t10 t12 h_1)
 (sh_math_bits_Len64_k2 P K x0_1 n2 h_1)

def sh_math_bits_Len64 (P : Program) (x0 : Value) (h : Heap) (K : KT) : Prop :=
 pBin .geq x0 (.int .u64 4294967296) fun t4 =>
 ifV t4
 (pBin .shr x0 (.int .u64 32) fun t6 =>
 sh_math_bits_Len64_k1 P K t6 (I 32) h)
 (sh_math_bits_Len64_k1 P K x0 (I 0) h)

theorem lk_math_bits_Len64 (x0 : Value) (H : sh_math_bits_Len64 Tryz.prog x0 h K) : CallsH Tryz.prog F_math_bits_Len64 [x0].toArray h K :=
 lkF Tryz.func246 (Eq.mpr (by kernel_rfl) H)

end Go.Proofs.YtmdldoolnhpaeaaGreatDoor


