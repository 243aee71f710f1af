/- Texts of the proofs of seat YtlkcpceobicoiaaGreatDoor, joined: Gen6, Gen. They have no conditions of their own. -/
import Derived.Test.YtlkcpceobicoiaaGreatDoorGa
set_option linter.unusedVariables false
set_option linter.unusedSimpArgs false

namespace Go.Proofs.YtlkcpceobicoiaaGreatDoor
open Go Go.Mh
set_option maxHeartbeats 0
set_option linter.unusedVariables false

/-! milestone/graph.nodes -/

def sh_graph_nodes (P : Program) (r0 : Value) (h : Heap) (K : Value → Heap → Prop) : Prop :=
  pBox T_api_Raw r0 h fun r1 h_1 =>
  K (.func (.func F_graph_nodes_1) #[] #[r1]) h_1

set_option maxRecDepth 100000 in
theorem lk_graph_nodes (r0 : Value) {h : Heap} {K : Value → Heap → Prop} (H : sh_graph_nodes Tryz.prog r0 h K) : CallsH Tryz.prog F_graph_nodes [r0].toArray h K :=
  callsH_of (ann := (annG (Tryz.f85.body.getD .skip) 0 []).1) (c := Tryz.f85.body.getD .skip) Tryz.func85 (by kernel_rfl) (by kernel_rfl) (by kernel_rfl) (of_decide_eq_true (by kernel_rfl))
    (Eq.mpr (by kernel_rfl) H)

/-! milestone/graph.look$4 -/

def sh_graph_look_4 (P : Program) (t0 : Value) (h : Heap) (K : Value → Heap → Prop) : Prop :=
  pField 3 t0 fun t2 =>
  pLoad h t2 fun t3 =>
  pLen t3 fun t4 =>
  callS P F_graph_one [(.int .i64 8), t4, (.int .i64 0), (.int .i64 67108865)] h fun t5 h_1 =>
  K t5 h_1

set_option maxRecDepth 100000 in
theorem lk_graph_look_4 (t0 : Value) {h : Heap} {K : Value → Heap → Prop} (H : sh_graph_look_4 Tryz.prog t0 h K) : CallsH Tryz.prog F_graph_look_4 [t0].toArray h K :=
  callsH_of (ann := (annG (Tryz.f86.body.getD .skip) 0 []).1) (c := Tryz.f86.body.getD .skip) Tryz.func86 (by kernel_rfl) (by kernel_rfl) (by kernel_rfl) (of_decide_eq_true (by kernel_rfl))
    (Eq.mpr (by kernel_rfl) H)

/-! milestone/graph.look$5 -/

def sh_graph_look_5 (P : Program) (t0 : Value) (h : Heap) (K : Value → Heap → Prop) : Prop :=
  pLoadN 4 h t0 fun t2 =>
  callS P F_graph_arcs [t2] h fun t3 h_1 =>
  K t3 h_1

set_option maxRecDepth 100000 in
theorem lk_graph_look_5 (t0 : Value) {h : Heap} {K : Value → Heap → Prop} (H : sh_graph_look_5 Tryz.prog t0 h K) : CallsH Tryz.prog F_graph_look_5 [t0].toArray h K :=
  callsH_of (ann := (annG (Tryz.f87.body.getD .skip) 0 []).1) (c := Tryz.f87.body.getD .skip) Tryz.func87 (by kernel_rfl) (by kernel_rfl) (by kernel_rfl) (of_decide_eq_true (by kernel_rfl))
    (Eq.mpr (by kernel_rfl) H)

/-! milestone/graph.arcs -/

def sh_graph_arcs (P : Program) (r0 : Value) (h : Heap) (K : Value → Heap → Prop) : Prop :=
  pBox T_api_Raw r0 h fun r1 h_1 =>
  K (.func (.func F_graph_arcs_1) #[] #[r1]) h_1

set_option maxRecDepth 100000 in
theorem lk_graph_arcs (r0 : Value) {h : Heap} {K : Value → Heap → Prop} (H : sh_graph_arcs Tryz.prog r0 h K) : CallsH Tryz.prog F_graph_arcs [r0].toArray h K :=
  callsH_of (ann := (annG (Tryz.f88.body.getD .skip) 0 []).1) (c := Tryz.f88.body.getD .skip) Tryz.func88 (by kernel_rfl) (by kernel_rfl) (by kernel_rfl) (of_decide_eq_true (by kernel_rfl))
    (Eq.mpr (by kernel_rfl) H)

/-! math/bits.Mul32 -/

def sh_math_bits_Mul32 (P : Program) (x0 y1 : Value) (h : Heap) (K : Value → Heap → Prop) : Prop :=
  pConv .u64 x0 fun t8 =>
  pConv .u64 y1 fun t10 =>
  pBin .mul t8 t10 fun t11 =>
  pBin .shr t11 (.int .u64 32) fun t13 =>
  pConv .u32 t13 fun t14 =>
  pConv .u32 t11 fun t16 =>
  K (.tuple #[t14, t16]) h

set_option maxRecDepth 100000 in
theorem lk_math_bits_Mul32 (x0 y1 : Value) {h : Heap} {K : Value → Heap → Prop} (H : sh_math_bits_Mul32 Tryz.prog x0 y1 h K) : CallsH Tryz.prog F_math_bits_Mul32 [x0, y1].toArray h K :=
  callsH_of (ann := (annG (Tryz.f93.body.getD .skip) 0 []).1) (c := Tryz.f93.body.getD .skip) Tryz.func93 (by kernel_rfl) (by kernel_rfl) (by kernel_rfl) (of_decide_eq_true (by kernel_rfl))
    (Eq.mpr (by kernel_rfl) H)

/-! math/bits.Mul64 -/

def sh_math_bits_Mul64 (P : Program) (x0 y1 : Value) (h : Heap) (K : Value → Heap → Prop) : Prop :=
  pBin .and x0 (.int .u64 4294967295) fun t15 =>
  pBin .shr x0 (.int .u64 32) fun t17 =>
  pBin .and y1 (.int .u64 4294967295) fun t19 =>
  pBin .shr y1 (.int .u64 32) fun t21 =>
  pBin .mul t15 t19 fun t24 =>
  pBin .mul t17 t19 fun t27 =>
  pBin .shr t24 (.int .u64 32) fun t29 =>
  pBin .add t27 t29 fun t30 =>
  pBin .and t30 (.int .u64 4294967295) fun t32 =>
  pBin .shr t30 (.int .u64 32) fun t34 =>
  pBin .mul t15 t21 fun t38 =>
  pBin .add t32 t38 fun t39 =>
  pBin .mul t17 t21 fun t42 =>
  pBin .add t42 t34 fun t44 =>
  pBin .shr t39 (.int .u64 32) fun t46 =>
  pBin .add t44 t46 fun t47 =>
  pBin .mul x0 y1 fun t50 =>
  K (.tuple #[t47, t50]) h

set_option maxRecDepth 100000 in
theorem lk_math_bits_Mul64 (x0 y1 : Value) {h : Heap} {K : Value → Heap → Prop} (H : sh_math_bits_Mul64 Tryz.prog x0 y1 h K) : CallsH Tryz.prog F_math_bits_Mul64 [x0, y1].toArray h K :=
  callsH_of (ann := (annG (Tryz.f94.body.getD .skip) 0 []).1) (c := Tryz.f94.body.getD .skip) Tryz.func94 (by kernel_rfl) (by kernel_rfl) (by kernel_rfl) (of_decide_eq_true (by kernel_rfl))
    (Eq.mpr (by kernel_rfl) H)

/-! (*milestone/heap.row).ahead -/

def sh_heap_row_ahead (P : Program) (r0 i1 k2 : Value) (h : Heap) (K : Value → Heap → Prop) : Prop :=
  pNil r0 fun t8 =>
  pField 0 t8 fun t9 =>
  pLoad h t9 fun t10 =>
  pIdx 2 t10 i1 fun t12 =>
  pField 1 t12 fun t13 =>
  pLoad h t13 fun t14 =>
  pNil r0 fun t16 =>
  pField 0 t16 fun t17 =>
  pLoad h t17 fun t18 =>
  pIdx 2 t18 k2 fun t20 =>
  pField 1 t20 fun t21 =>
  pLoad h t21 fun t22 =>
  pNil r0 fun t25 =>
  pField 0 t25 fun t26 =>
  pLoad h t26 fun t27 =>
  pIdx 2 t27 i1 fun t29 =>
  pField 0 t29 fun t30 =>
  pLoad h t30 fun t31 =>
  pNil r0 fun t33 =>
  pField 0 t33 fun t34 =>
  pLoad h t34 fun t35 =>
  pIdx 2 t35 k2 fun t37 =>
  pField 0 t37 fun t38 =>
  pLoad h t38 fun t39 =>
  callS P F_cmp_Compare_int64 [t14, t22] h fun t23 h_1 =>
  (pLoad h_1 t26 fun t27_1 =>
  t27_1 = t27) ∧
  (pLoad h_1 t30 fun t31_1 =>
  t31_1 = t31) ∧
  (pLoad h_1 t34 fun t35_1 =>
  t35_1 = t35) ∧
  (pLoad h_1 t38 fun t39_1 =>
  t39_1 = t39) ∧
  (callS P F_cmp_Compare_int [t31, t39] h_1 fun t40 h_2 =>
  pBuildSlice T_int (zerosL [(.int .i64 0)] 2) [(0, 1, t23), (1, 1, t40)] 2 h_2 fun t41 h_3 =>
  callS P F_cmp_Or_int [t41] h_3 fun t42 h_4 =>
  pBin .lss t42 (.int .i64 0) fun t43 =>
  K t43 h_4)

set_option maxRecDepth 100000 in
theorem lk_heap_row_ahead (r0 i1 k2 : Value) {h : Heap} {K : Value → Heap → Prop} (H : sh_heap_row_ahead Tryz.prog r0 i1 k2 h K) : CallsH Tryz.prog F_heap_row_ahead [r0, i1, k2].toArray h K :=
  callsH_of (ann := (annG (Tryz.f95.body.getD .skip) 0 []).1) (c := Tryz.f95.body.getD .skip) Tryz.func95 (by kernel_rfl) (by kernel_rfl) (by kernel_rfl) (of_decide_eq_true (by kernel_rfl))
    (Eq.mpr (by kernel_rfl) H)

/-! (*milestone/heap.row).below -/

def sh_heap_row_below (P : Program) (r0 i1 : Value) (h : Heap) (K : Value → Heap → Prop) : Prop :=
  pBox T_p_heap_row r0 h fun r2 h_1 =>
  pBox T_int i1 h_1 fun i3 h_2 =>
  K (.func (.func F_heap_row_below_1) #[] #[i3, r2]) h_2

set_option maxRecDepth 100000 in
theorem lk_heap_row_below (r0 i1 : Value) {h : Heap} {K : Value → Heap → Prop} (H : sh_heap_row_below Tryz.prog r0 i1 h K) : CallsH Tryz.prog F_heap_row_below [r0, i1].toArray h K :=
  callsH_of (ann := (annG (Tryz.f96.body.getD .skip) 0 []).1) (c := Tryz.f96.body.getD .skip) Tryz.func96 (by kernel_rfl) (by kernel_rfl) (by kernel_rfl) (of_decide_eq_true (by kernel_rfl))
    (Eq.mpr (by kernel_rfl) H)

/-! slices.Values[[]milestone/graph.place,milestone/graph.place] -/

def sh_slices_Values_sl_graph_place_graph_place (P : Program) (s0 : Value) (h : Heap) (K : Value → Heap → Prop) : Prop :=
  pBox T_sl_graph_place s0 h fun s1 h_1 =>
  K (.func (.func F_slices_Values_sl_graph_place_graph_place_1) #[] #[s1]) h_1

set_option maxRecDepth 100000 in
theorem lk_slices_Values_sl_graph_place_graph_place (s0 : Value) {h : Heap} {K : Value → Heap → Prop} (H : sh_slices_Values_sl_graph_place_graph_place Tryz.prog s0 h K) : CallsH Tryz.prog F_slices_Values_sl_graph_place_graph_place [s0].toArray h K :=
  callsH_of (ann := (annG (Tryz.f97.body.getD .skip) 0 []).1) (c := Tryz.f97.body.getD .skip) Tryz.func97 (by kernel_rfl) (by kernel_rfl) (by kernel_rfl) (of_decide_eq_true (by kernel_rfl))
    (Eq.mpr (by kernel_rfl) H)

/-! milestone/graph.nodes$1 -/

def sh_graph_nodes_1_L2 (P : Program) (t23 t22 t9 yield0 : Value) (K Z : Value → Heap → Prop) (t24 : Value) (h_3 : Heap) (Z_1 : Value → Heap → Prop) : Prop :=
  pBin .lss t24 t23 fun t25 =>
  ifV t25
  (pIdx 1 t22 t24 fun t27 =>
  pLoad h_3 t27 fun t28 =>
  pBuild [(.int .i64 0), (.int .i64 0), (.int .i64 0), (.int .i64 0), (.int .i64 0), (.int .i64 0)] [(0, 1, t9), (1, 1, t24), (2, 1, (.int .i64 7)), (3, 1, t28), (4, 1, (.int .i64 (-2147483648))), (5, 1, (.int .i64 2147483648))] fun t33 =>
  callV P yield0 [t33].toArray h_3 fun t34 h_4 =>
  pUn .not t34 fun t35 =>
  ifV t35
  (K (.tuple #[]) h_4)
  (pBin .add t24 (.int .i64 1) fun t36 =>
  Z_1 t36 h_4))
  (pBin .add t9 (.int .i64 1) fun t37 =>
  Z t37 h_3)

def sh_graph_nodes_1_L1 (P : Program) (t8 t1 yield0 : Value) (K : Value → Heap → Prop) (t9 : Value) (h_1 : Heap) (Z : Value → Heap → Prop) : Prop :=
  pBin .lss t9 t8 fun t10 =>
  ifV t10
  (pField 1 t1 fun t12 =>
  pLoad h_1 t12 fun t13 =>
  pIdx 1 t13 t9 fun t15 =>
  pLoad h_1 t15 fun t16 =>
  pField 2 t1 fun t17 =>
  pLoad h_1 t17 fun t18 =>
  pIdx 1 t18 t9 fun t20 =>
  pLoad h_1 t20 fun t21 =>
  pBuildSlice T_int64 (zerosL [(.int .i64 0)] 2) [(0, 1, t16), (1, 1, t21)] 2 h_1 fun t22 h_2 =>
  pLen t22 fun t23 =>
  LoopH (σ := Vals [24]) (fun x hh ZZ => sh_graph_nodes_1_L2 P t23 t22 t9 yield0 K Z x.1 hh (fun a0 hz => ZZ (a0, ()) hz)) ((.int .i64 0), ()) h_2)
  (K (.tuple #[]) h_1)

def sh_graph_nodes_1 (P : Program) (yield0 t1 : Value) (h : Heap) (K : Value → Heap → Prop) : Prop :=
  pField 1 t1 fun t6 =>
  pLoad h t6 fun t7 =>
  pLen t7 fun t8 =>
  LoopH (σ := Vals [9]) (fun x hh ZZ => sh_graph_nodes_1_L1 P t8 t1 yield0 K x.1 hh (fun a0 hz => ZZ (a0, ()) hz)) ((.int .i64 0), ()) h

set_option maxRecDepth 100000 in
theorem lk_graph_nodes_1 (yield0 t1 : Value) {h : Heap} {K : Value → Heap → Prop} (H : sh_graph_nodes_1 Tryz.prog yield0 t1 h K) : CallsH Tryz.prog F_graph_nodes_1 [yield0, t1].toArray h K :=
  callsH_of (ann := (annG (Tryz.f98.body.getD .skip) 0 [(1, [9]), (7, [24])]).1) (c := Tryz.f98.body.getD .skip) Tryz.func98 (by kernel_rfl) (by kernel_rfl) (by kernel_rfl) (of_decide_eq_true (by kernel_rfl))
    (Eq.mpr (by kernel_rfl) H)

/-! milestone/graph.arcs$1 -/

def sh_graph_arcs_1_L2 (P : Program) (t33 t32 yield0 : Value) (K : Value → Heap → Prop) (t13 : Value) (Z : Value → Heap → Prop) (t34 : Value) (h_5 : Heap) (Z_1 : Value → Heap → Prop) : Prop :=
  pBin .lss t34 t33 fun t35 =>
  ifV t35
  (pIdx 6 t32 t34 fun t36 =>
  pLoadN 6 h_5 t36 fun t37 =>
  pBox T_graph_place (.agg #[(.int .i64 0), (.int .i64 0), (.int .i64 0), (.int .i64 0), (.int .i64 0), (.int .i64 0)]) h_5 fun p7 h_6 =>
  pStore 6 p7 t37 h_6 fun u_1 h_7 =>
  pLoadN 6 h_7 p7 fun t39 =>
  callV P yield0 [t39].toArray h_7 fun t40 h_8 =>
  pUn .not t40 fun t41 =>
  ifV t41
  (K (.tuple #[]) h_8)
  (pBin .add t34 (.int .i64 1) fun t42 =>
  Z_1 t42 h_8))
  (pBin .add t13 (.int .i64 1) fun t43 =>
  Z t43 h_5)

def sh_graph_arcs_1_L1 (P : Program) (t12 t11 t9 yield0 : Value) (K : Value → Heap → Prop) (t13 : Value) (h_1 : Heap) (Z : Value → Heap → Prop) : Prop :=
  pBin .lss t13 t12 fun t14 =>
  ifV t14
  (pIdx 3 t11 t13 fun t16 =>
  pLoadN 3 h_1 t16 fun t17 =>
  pBox T_api_Arc (.agg #[(.int .i64 0), (.int .i64 0), (.int .i64 0)]) h_1 fun a5 h_2 =>
  pStore 3 a5 t17 h_2 fun u h_3 =>
  pField 0 a5 fun t19 =>
  pLoad h_3 t19 fun t20 =>
  pBuild [(.int .i64 0), (.int .i64 0), (.int .i64 0), (.int .i64 0), (.int .i64 0), (.int .i64 0)] [(0, 1, t13), (1, 1, (.int .i64 0)), (2, 1, (.int .i64 9)), (3, 1, t20), (4, 1, (.int .i64 0)), (5, 1, t9)] fun t22 =>
  pField 1 a5 fun t24 =>
  pLoad h_3 t24 fun t25 =>
  pBuild [(.int .i64 0), (.int .i64 0), (.int .i64 0), (.int .i64 0), (.int .i64 0), (.int .i64 0)] [(0, 1, t13), (1, 1, (.int .i64 1)), (2, 1, (.int .i64 9)), (3, 1, t25), (4, 1, (.int .i64 0)), (5, 1, t9)] fun t27 =>
  pField 2 a5 fun t29 =>
  pLoad h_3 t29 fun t30 =>
  pBuild [(.int .i64 0), (.int .i64 0), (.int .i64 0), (.int .i64 0), (.int .i64 0), (.int .i64 0)] [(0, 1, t13), (1, 1, (.int .i64 2)), (2, 1, (.int .i64 10)), (3, 1, t30), (4, 1, (.int .i64 0)), (5, 1, (.int .i64 2147483648))] fun t31 =>
  pBuildSlice T_graph_place (zerosL [(.int .i64 0), (.int .i64 0), (.int .i64 0), (.int .i64 0), (.int .i64 0), (.int .i64 0)] 3) [(0, 6, t22), (6, 6, t27), (12, 6, t31)] 3 h_3 fun t32 h_4 =>
  pLen t32 fun t33 =>
  LoopH (σ := Vals [34]) (fun x hh ZZ => sh_graph_arcs_1_L2 P t33 t32 yield0 K t13 Z x.1 hh (fun a0 hz => ZZ (a0, ()) hz)) ((.int .i64 0), ()) h_4)
  (K (.tuple #[]) h_1)

def sh_graph_arcs_1 (P : Program) (yield0 t1 : Value) (h : Heap) (K : Value → Heap → Prop) : Prop :=
  pField 0 t1 fun t8 =>
  pLoad h t8 fun t9 =>
  pField 3 t1 fun t10 =>
  pLoad h t10 fun t11 =>
  pLen t11 fun t12 =>
  LoopH (σ := Vals [13]) (fun x hh ZZ => sh_graph_arcs_1_L1 P t12 t11 t9 yield0 K x.1 hh (fun a0 hz => ZZ (a0, ()) hz)) ((.int .i64 0), ()) h

set_option maxRecDepth 100000 in
theorem lk_graph_arcs_1 (yield0 t1 : Value) {h : Heap} {K : Value → Heap → Prop} (H : sh_graph_arcs_1 Tryz.prog yield0 t1 h K) : CallsH Tryz.prog F_graph_arcs_1 [yield0, t1].toArray h K :=
  callsH_of (ann := (annG (Tryz.f99.body.getD .skip) 0 [(2, [13]), (8, [34])]).1) (c := Tryz.f99.body.getD .skip) Tryz.func99 (by kernel_rfl) (by kernel_rfl) (by kernel_rfl) (of_decide_eq_true (by kernel_rfl))
    (Eq.mpr (by kernel_rfl) H)

/-! cmp.Or[int] -/

def sh_cmp_Or_int_L1 (P : Program) (t7 vals0 : Value) (K : Value → Heap → Prop) (t8 : Value) (h_1 : Heap) (Z : Value → Heap → Prop) : Prop :=
  pBin .lss t8 t7 fun t9 =>
  ifV t9
  (pIdx 1 vals0 t8 fun t10 =>
  pLoad h_1 t10 fun t11 =>
  pBin .neq t11 (.int .i64 0) fun t14 =>
  ifV t14
  (K t11 h_1)
  (pBin .add t8 (.int .i64 1) fun t16 =>
  Z t16 h_1))
  (K (.int .i64 0) h_1)

def sh_cmp_Or_int (P : Program) (vals0 : Value) (h : Heap) (K : Value → Heap → Prop) : Prop :=
  pLen vals0 fun t7 =>
  LoopH (σ := Vals [8]) (fun x hh ZZ => sh_cmp_Or_int_L1 P t7 vals0 K x.1 hh (fun a0 hz => ZZ (a0, ()) hz)) ((.int .i64 0), ()) h

set_option maxRecDepth 100000 in
theorem lk_cmp_Or_int (vals0 : Value) {h : Heap} {K : Value → Heap → Prop} (H : sh_cmp_Or_int Tryz.prog vals0 h K) : CallsH Tryz.prog F_cmp_Or_int [vals0].toArray h K :=
  callsH_of (ann := (annG (Tryz.f103.body.getD .skip) 0 [(4, [8])]).1) (c := Tryz.f103.body.getD .skip) Tryz.func103 (by kernel_rfl) (by kernel_rfl) (by kernel_rfl) (of_decide_eq_true (by kernel_rfl))
    (Eq.mpr (by kernel_rfl) H)

/-! cmp.Compare[int64] -/

def sh_cmp_Compare_int64 (P : Program) (x0 y1 : Value) (h : Heap) (K : Value → Heap → Prop) : Prop :=
  callS P F_cmp_isNaN_int64 [x0] h fun t8 h_1 =>
  callS P F_cmp_isNaN_int64 [y1] h_1 fun t10 h_2 =>
  ifV t8
  (ifV t10
  (K (.int .i64 0) h_2)
  (K (.int .i64 (-1)) h_2))
  (ifV t10
  (K (.int .i64 1) h_2)
  (pBin .lss x0 y1 fun t16 =>
  ifV t16
  (K (.int .i64 (-1)) h_2)
  (pBin .gtr x0 y1 fun t19 =>
  ifV t19
  (K (.int .i64 1) h_2)
  (K (.int .i64 0) h_2))))

set_option maxRecDepth 100000 in
theorem lk_cmp_Compare_int64 (x0 y1 : Value) {h : Heap} {K : Value → Heap → Prop} (H : sh_cmp_Compare_int64 Tryz.prog x0 y1 h K) : CallsH Tryz.prog F_cmp_Compare_int64 [x0, y1].toArray h K :=
  callsH_of (ann := (annG (Tryz.f104.body.getD .skip) 0 []).1) (c := Tryz.f104.body.getD .skip) Tryz.func104 (by kernel_rfl) (by kernel_rfl) (by kernel_rfl) (of_decide_eq_true (by kernel_rfl))
    (Eq.mpr (by kernel_rfl) H)

/-! cmp.Compare[int] -/

def sh_cmp_Compare_int (P : Program) (x0 y1 : Value) (h : Heap) (K : Value → Heap → Prop) : Prop :=
  callS P F_cmp_isNaN_int [x0] h fun t8 h_1 =>
  callS P F_cmp_isNaN_int [y1] h_1 fun t10 h_2 =>
  ifV t8
  (ifV t10
  (K (.int .i64 0) h_2)
  (K (.int .i64 (-1)) h_2))
  (ifV t10
  (K (.int .i64 1) h_2)
  (pBin .lss x0 y1 fun t16 =>
  ifV t16
  (K (.int .i64 (-1)) h_2)
  (pBin .gtr x0 y1 fun t19 =>
  ifV t19
  (K (.int .i64 1) h_2)
  (K (.int .i64 0) h_2))))

set_option maxRecDepth 100000 in
theorem lk_cmp_Compare_int (x0 y1 : Value) {h : Heap} {K : Value → Heap → Prop} (H : sh_cmp_Compare_int Tryz.prog x0 y1 h K) : CallsH Tryz.prog F_cmp_Compare_int [x0, y1].toArray h K :=
  callsH_of (ann := (annG (Tryz.f105.body.getD .skip) 0 []).1) (c := Tryz.f105.body.getD .skip) Tryz.func105 (by kernel_rfl) (by kernel_rfl) (by kernel_rfl) (of_decide_eq_true (by kernel_rfl))
    (Eq.mpr (by kernel_rfl) H)

/-! (*milestone/heap.row).below$1 -/

def sh_heap_row_below_1_L1 (P : Program) (t1 t2 yield0 : Value) (K : Value → Heap → Prop) (k4 : Value) (h_1 : Heap) (Z : Value → Heap → Prop) : Prop :=
  pLoad h_1 t1 fun t9 =>
  pBin .mul (.int .i64 4) t9 fun t10 =>
  pBin .add t10 (.int .i64 4) fun t11 =>
  pBin .leq k4 t11 fun t12 =>
  ifV t12
  (pLoad h_1 t2 fun t15 =>
  pNil t15 fun t16 =>
  pField 0 t16 fun t17 =>
  pLoad h_1 t17 fun t18 =>
  pLen t18 fun t19 =>
  pBin .lss k4 t19 fun t20 =>
  ifV t20
  (callV P yield0 [k4].toArray h_1 fun t26 h_2 =>
  pUn .not t26 fun t27 =>
  ifV t27
  (K (.tuple #[]) h_2)
  (pBin .add k4 (.int .i64 1) fun t23 =>
  Z t23 h_2))
  (K (.tuple #[]) h_1))
  (K (.tuple #[]) h_1)

def sh_heap_row_below_1 (P : Program) (yield0 t1 t2 : Value) (h : Heap) (K : Value → Heap → Prop) : Prop :=
  pLoad h t1 fun t5 =>
  pBin .mul (.int .i64 4) t5 fun t6 =>
  pBin .add t6 (.int .i64 1) fun t7 =>
  LoopH (σ := Vals [4]) (fun x hh ZZ => sh_heap_row_below_1_L1 P t1 t2 yield0 K x.1 hh (fun a0 hz => ZZ (a0, ()) hz)) (t7, ()) h

set_option maxRecDepth 100000 in
theorem lk_heap_row_below_1 (yield0 t1 t2 : Value) {h : Heap} {K : Value → Heap → Prop} (H : sh_heap_row_below_1 Tryz.prog yield0 t1 t2 h K) : CallsH Tryz.prog F_heap_row_below_1 [yield0, t1, t2].toArray h K :=
  callsH_of (ann := (annG (Tryz.f106.body.getD .skip) 0 [(1, [4])]).1) (c := Tryz.f106.body.getD .skip) Tryz.func106 (by kernel_rfl) (by kernel_rfl) (by kernel_rfl) (of_decide_eq_true (by kernel_rfl))
    (Eq.mpr (by kernel_rfl) H)

/-! slices.Values[[]milestone/graph.place,milestone/graph.place]$1 -/

def sh_slices_Values_sl_graph_place_graph_place_1_L1 (P : Program) (t6 t5 yield0 : Value) (K : Value → Heap → Prop) (t7 : Value) (h_1 : Heap) (Z : Value → Heap → Prop) : Prop :=
  pBin .lss t7 t6 fun t8 =>
  ifV t8
  (pIdx 6 t5 t7 fun t9 =>
  pLoadN 6 h_1 t9 fun t10 =>
  pBox T_graph_place (.agg #[(.int .i64 0), (.int .i64 0), (.int .i64 0), (.int .i64 0), (.int .i64 0), (.int .i64 0)]) h_1 fun v4 h_2 =>
  pStore 6 v4 t10 h_2 fun u h_3 =>
  pLoadN 6 h_3 v4 fun t12 =>
  callV P yield0 [t12].toArray h_3 fun t13 h_4 =>
  pUn .not t13 fun t14 =>
  ifV t14
  (K (.tuple #[]) h_4)
  (pBin .add t7 (.int .i64 1) fun t15 =>
  Z t15 h_4))
  (K (.tuple #[]) h_1)

def sh_slices_Values_sl_graph_place_graph_place_1 (P : Program) (yield0 t1 : Value) (h : Heap) (K : Value → Heap → Prop) : Prop :=
  pLoad h t1 fun t5 =>
  pLen t5 fun t6 =>
  LoopH (σ := Vals [7]) (fun x hh ZZ => sh_slices_Values_sl_graph_place_graph_place_1_L1 P t6 t5 yield0 K x.1 hh (fun a0 hz => ZZ (a0, ()) hz)) ((.int .i64 0), ()) h

set_option maxRecDepth 100000 in
theorem lk_slices_Values_sl_graph_place_graph_place_1 (yield0 t1 : Value) {h : Heap} {K : Value → Heap → Prop} (H : sh_slices_Values_sl_graph_place_graph_place_1 Tryz.prog yield0 t1 h K) : CallsH Tryz.prog F_slices_Values_sl_graph_place_graph_place_1 [yield0, t1].toArray h K :=
  callsH_of (ann := (annG (Tryz.f107.body.getD .skip) 0 [(1, [7])]).1) (c := Tryz.f107.body.getD .skip) Tryz.func107 (by kernel_rfl) (by kernel_rfl) (by kernel_rfl) (of_decide_eq_true (by kernel_rfl))
    (Eq.mpr (by kernel_rfl) H)

/-! cmp.isNaN[int64] -/

def sh_cmp_isNaN_int64 (P : Program) (x0 : Value) (h : Heap) (K : Value → Heap → Prop) : Prop :=
  pBin .neq x0 x0 fun t5 =>
  K t5 h

set_option maxRecDepth 100000 in
theorem lk_cmp_isNaN_int64 (x0 : Value) {h : Heap} {K : Value → Heap → Prop} (H : sh_cmp_isNaN_int64 Tryz.prog x0 h K) : CallsH Tryz.prog F_cmp_isNaN_int64 [x0].toArray h K :=
  callsH_of (ann := (annG (Tryz.f108.body.getD .skip) 0 []).1) (c := Tryz.f108.body.getD .skip) Tryz.func108 (by kernel_rfl) (by kernel_rfl) (by kernel_rfl) (of_decide_eq_true (by kernel_rfl))
    (Eq.mpr (by kernel_rfl) H)

/-! cmp.isNaN[int] -/

def sh_cmp_isNaN_int (P : Program) (x0 : Value) (h : Heap) (K : Value → Heap → Prop) : Prop :=
  pBin .neq x0 x0 fun t5 =>
  K t5 h

set_option maxRecDepth 100000 in
theorem lk_cmp_isNaN_int (x0 : Value) {h : Heap} {K : Value → Heap → Prop} (H : sh_cmp_isNaN_int Tryz.prog x0 h K) : CallsH Tryz.prog F_cmp_isNaN_int [x0].toArray h K :=
  callsH_of (ann := (annG (Tryz.f109.body.getD .skip) 0 []).1) (c := Tryz.f109.body.getD .skip) Tryz.func109 (by kernel_rfl) (by kernel_rfl) (by kernel_rfl) (of_decide_eq_true (by kernel_rfl))
    (Eq.mpr (by kernel_rfl) H)

end Go.Proofs.YtlkcpceobicoiaaGreatDoor


