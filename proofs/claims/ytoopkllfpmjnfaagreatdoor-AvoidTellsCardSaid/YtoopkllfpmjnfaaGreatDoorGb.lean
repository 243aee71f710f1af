/- Texts of the proofs of seat YtoopkllfpmjnfaaGreatDoor, joined: Gen6, Gen7, Gen8, Gen. They have no conditions of their own. -/
import Derived.Test.YtoopkllfpmjnfaaGreatDoorGa
set_option linter.unusedVariables false
set_option linter.unusedSimpArgs false

namespace Go.Proofs.YtoopkllfpmjnfaaGreatDoor
open Go Go.Mh
set_option maxHeartbeats 0
set_option linter.unusedVariables false

/-! (*milestone/heap.Heap).Pop -/

def sh_heap_Heap_Pop (P : Program) (h0 : Value) (h : Heap) (K : Value → Heap → Prop) : Prop :=
  callS P F_heap_Heap_Len [h0] h fun t8 h_1 =>
  pBin .eql t8 (.int .i64 0) fun t9 =>
  ifV t9
  (K (.tuple #[(.int .i64 0), (.int .i64 0), (.bool false)]) h_1)
  (pNil h0 fun t11 =>
  pField 0 t11 fun t12 =>
  pField 0 t12 fun t13 =>
  pLoad h_1 t13 fun t14 =>
  pIdx 2 t14 (.int .i64 0) fun t15 =>
  pLoadN 2 h_1 t15 fun t16 =>
  pNil h0 fun t18 =>
  pField 0 t18 fun t19 =>
  pField 0 t19 fun t20 =>
  pLoad h_1 t20 fun t21 =>
  pLen t21 fun t22 =>
  pBin .sub t22 (.int .i64 1) fun t23 =>
  pBox T_heap_held (.agg #[(.int .i64 0), (.int .i64 0)]) h_1 fun first5 h_2 =>
  pStore 2 first5 t16 h_2 fun u h_3 =>
  (pLoad h_3 t20 fun t21_1 =>
  t21_1 = t21) ∧
  (pNil h0 fun t25 =>
  pField 0 t25 fun t26 =>
  callS P F_heap_row_swap [t26, (.int .i64 0), t23] h_3 fun t28 h_4 =>
  pNil h0 fun t31 =>
  pField 0 t31 fun t32 =>
  pField 0 t32 fun t33 =>
  pLoad h_4 t33 fun t34 =>
  pSlice 2 t34 none (some t23) none fun t36 =>
  pNil h0 fun t37 =>
  pField 0 t37 fun t38 =>
  pField 0 t38 fun t39 =>
  pStore 1 t39 t36 h_4 fun u_1 h_5 =>
  pNil h0 fun t41 =>
  pField 0 t41 fun t42 =>
  pField 1 t42 fun t43 =>
  pLoad h_5 t43 fun t44 =>
  pField 0 first5 fun t45 =>
  pLoad h_5 t45 fun t46 =>
  pDelete (.int .i64) t44 t46 h_5 fun u_2 h_6 =>
  pNil h0 fun t48 =>
  pField 0 t48 fun t49 =>
  callS P F_heap_row_down [t49, (.int .i64 0)] h_6 fun t50 h_7 =>
  pField 0 first5 fun t51 =>
  pLoad h_7 t51 fun t52 =>
  pField 1 first5 fun t53 =>
  pLoad h_7 t53 fun t54 =>
  K (.tuple #[t52, t54, (.bool true)]) h_7))

set_option maxRecDepth 100000 in
theorem lk_heap_Heap_Pop (h0 : Value) {h : Heap} {K : Value → Heap → Prop} (H : sh_heap_Heap_Pop Tryz.prog h0 h K) : CallsH Tryz.prog F_heap_Heap_Pop [h0].toArray h K :=
  callsH_of (ann := (annG (Tryz.f73.body.getD .skip) 0 []).1) (c := Tryz.f73.body.getD .skip) Tryz.func73 (by kernel_rfl) (by kernel_rfl) (by kernel_rfl) (of_decide_eq_true (by kernel_rfl))
    (Eq.mpr (by kernel_rfl) H)

/-! milestone/flood.arcs -/

def sh_flood_arcs (P : Program) (n0 l1 end2 : Value) (h : Heap) (K : Value → Heap → Prop) : Prop :=
  pBox T_p_net_Net n0 h fun n3 h_1 =>
  pBox T_sl_int l1 h_1 fun l4 h_2 =>
  pBox T_func_api_Arc_int end2 h_2 fun end5 h_3 =>
  K (.func (.func F_flood_arcs_1) #[] #[l4, n3, end5]) h_3

set_option maxRecDepth 100000 in
theorem lk_flood_arcs (n0 l1 end2 : Value) {h : Heap} {K : Value → Heap → Prop} (H : sh_flood_arcs Tryz.prog n0 l1 end2 h K) : CallsH Tryz.prog F_flood_arcs [n0, l1, end2].toArray h K :=
  callsH_of (ann := (annG (Tryz.f74.body.getD .skip) 0 []).1) (c := Tryz.f74.body.getD .skip) Tryz.func74 (by kernel_rfl) (by kernel_rfl) (by kernel_rfl) (of_decide_eq_true (by kernel_rfl))
    (Eq.mpr (by kernel_rfl) H)

/-! (*milestone/flood.run).reach -/

def sh_flood_run_reach_k2 (P : Program) (r0 v1 arc2 : Value) (K : Value → Heap → Prop) (h_4 : Heap) : Prop :=
  pNil r0 fun t52 =>
  pField 1 t52 fun t53 =>
  pField 1 t53 fun t54 =>
  pLoad h_4 t54 fun t55 =>
  pIdx 1 t55 v1 fun t58 =>
  pStore 1 t58 arc2 h_4 fun u h_5 =>
  K (.tuple #[]) h_5

def sh_flood_run_reach_k1 (P : Program) (t18 r0 v1 far3 arc2 : Value) (K : Value → Heap → Prop) (h_2 : Heap) : Prop :=
  ifV t18
  (pNil r0 fun t45 =>
  pField 0 t45 fun t46 =>
  pLoad h_2 t46 fun t47 =>
  callS P F_heap_Heap_Lower [t47, v1, far3] h_2 fun t50 h_3 =>
  sh_flood_run_reach_k2 P r0 v1 arc2 K h_3)
  (pNil r0 fun t20 =>
  pField 0 t20 fun t21 =>
  pLoad h_2 t21 fun t22 =>
  callS P F_heap_Heap_Push [t22, v1, far3] h_2 fun t25 h_6 =>
  sh_flood_run_reach_k2 P r0 v1 arc2 K h_6)

def sh_flood_run_reach (P : Program) (r0 v1 arc2 far3 : Value) (h : Heap) (K : Value → Heap → Prop) : Prop :=
  pNil r0 fun t12 =>
  pField 0 t12 fun t13 =>
  pLoad h t13 fun t14 =>
  callS P F_heap_Heap_Key [t14, v1] h fun t16 h_1 =>
  pExt t16 0 fun t17 =>
  pExt t16 1 fun t18 =>
  pNil r0 fun t28 =>
  pField 4 t28 fun t29 =>
  pLoad h_1 t29 fun t30 =>
  pLook (.int .i64) (.int .i64 0) false h_1 t30 v1 fun t32 =>
  pBin .gtr t32 (.int .i64 0) fun t33 =>
  ifV t33
  (K (.tuple #[]) h_1)
  (ifV t18
  (pBin .leq t17 far3 fun t39 =>
  ifV t39
  (K (.tuple #[]) h_1)
  (sh_flood_run_reach_k1 P t18 r0 v1 far3 arc2 K h_1))
  (sh_flood_run_reach_k1 P t18 r0 v1 far3 arc2 K h_1))

set_option maxRecDepth 100000 in
theorem lk_flood_run_reach (r0 v1 arc2 far3 : Value) {h : Heap} {K : Value → Heap → Prop} (H : sh_flood_run_reach Tryz.prog r0 v1 arc2 far3 h K) : CallsH Tryz.prog F_flood_run_reach [r0, v1, arc2, far3].toArray h K :=
  callsH_of (ann := (annG (Tryz.f75.body.getD .skip) 0 []).1) (c := Tryz.f75.body.getD .skip) Tryz.func75 (by kernel_rfl) (by kernel_rfl) (by kernel_rfl) (of_decide_eq_true (by kernel_rfl))
    (Eq.mpr (by kernel_rfl) H)

/-! milestone/net.one[[]int] -/

def sh_net_one_sl_int_k1 (P : Program) (K : Value → Heap → Prop) (h_1 : Heap) : Prop :=
  K (.tuple #[(.slice none 0 0), (.bool false)]) h_1

def sh_net_one_sl_int (P : Program) (l0 i1 : Value) (h : Heap) (K : Value → Heap → Prop) : Prop :=
  pBin .lss i1 (.int .i64 0) fun t7 =>
  ifV t7
  (sh_net_one_sl_int_k1 P K h)
  (pLen l0 fun t11 =>
  pBin .geq i1 t11 fun t12 =>
  ifV t12
  (sh_net_one_sl_int_k1 P K h)
  (pIdx 1 l0 i1 fun t17 =>
  pLoad h t17 fun t18 =>
  K (.tuple #[t18, (.bool true)]) h))

set_option maxRecDepth 100000 in
theorem lk_net_one_sl_int (l0 i1 : Value) {h : Heap} {K : Value → Heap → Prop} (H : sh_net_one_sl_int Tryz.prog l0 i1 h K) : CallsH Tryz.prog F_net_one_sl_int [l0, i1].toArray h K :=
  callsH_of (ann := (annG (Tryz.f76.body.getD .skip) 0 []).1) (c := Tryz.f76.body.getD .skip) Tryz.func76 (by kernel_rfl) (by kernel_rfl) (by kernel_rfl) (of_decide_eq_true (by kernel_rfl))
    (Eq.mpr (by kernel_rfl) H)

/-! slices.Clone[[]int,int] -/

def sh_slices_Clone_sl_int_int (P : Program) (s0 : Value) (h : Heap) (K : Value → Heap → Prop) : Prop :=
  pEq false .slice s0 (.slice none 0 0) fun t4 =>
  ifV t4
  (K (.slice none 0 0) h)
  (pBuildSlice T_int (zerosL [(.int .i64 0)] 0) [] 0 h fun t5 h_1 =>
  pAppend T_int 1 8 [(.int .i64 0)] t5 s0 h_1 fun t7 h_2 =>
  K t7 h_2)

set_option maxRecDepth 100000 in
theorem lk_slices_Clone_sl_int_int (s0 : Value) {h : Heap} {K : Value → Heap → Prop} (H : sh_slices_Clone_sl_int_int Tryz.prog s0 h K) : CallsH Tryz.prog F_slices_Clone_sl_int_int [s0].toArray h K :=
  callsH_of (ann := (annG (Tryz.f77.body.getD .skip) 0 []).1) (c := Tryz.f77.body.getD .skip) Tryz.func77 (by kernel_rfl) (by kernel_rfl) (by kernel_rfl) (of_decide_eq_true (by kernel_rfl))
    (Eq.mpr (by kernel_rfl) H)

/-! milestone/graph.look -/

def sh_graph_look_k3 (P : Program) (p4 phase2 : Value) (h_11 : Heap) : Prop :=
  pField 2 p4 fun t32 =>
  pLoad h_11 t32 fun t33 =>
  pLoad h_11 phase2 fun t34 =>
  pField 0 p4 fun t35 =>
  pLoad h_11 t35 fun t36 =>
  pField 1 p4 fun t37 =>
  pLoad h_11 t37 fun t38 =>
  pBuild [(.int .i64 0), (.int .i64 0), (.int .i64 0), (.int .i64 0)] [(0, 1, t33), (1, 1, t34), (2, 1, t36), (3, 1, t38)] fun t39 =>
  pBox T_api_Fault t39 h_11 fun t40 h_12 =>
  pBuild [(.pointer none)] [(0, 1, t40)] fun t41 =>
  False

def sh_graph_look_B2 (P : Program) (h_6 : Heap) (phase2 : Value) (L : Loop) (t19 : Value) (h_7 : Heap) (R : Exit → Heap → Prop) : Prop :=
  pBox T_graph_place (.agg #[(.int .i64 0), (.int .i64 0), (.int .i64 0), (.int .i64 0), (.int .i64 0), (.int .i64 0)]) h_7 fun p4 h_8 =>
  pStore 6 p4 t19 h_8 fun u_1 h_9 =>
  beginR (h_6.size + 1) L h_9 fun h_10 =>
  pField 3 p4 fun t20 =>
  pLoad h_10 t20 fun t21 =>
  pField 4 p4 fun t22 =>
  pLoad h_10 t22 fun t23 =>
  pBin .lss t21 t23 fun t24 =>
  ifV t24
  (sh_graph_look_k3 P p4 phase2 h_10)
  (pField 3 p4 fun t26 =>
  pLoad h_10 t26 fun t27 =>
  pField 5 p4 fun t28 =>
  pLoad h_10 t28 fun t29 =>
  pBin .geq t27 t29 fun t30 =>
  ifV t30
  (sh_graph_look_k3 P p4 phase2 h_10)
  (R .normal h_10))

def sh_graph_look_L1 (P : Program) (t11 t10 : Value) (K : Value → Heap → Prop) (m : List Nat) (t12 : Value) (h_3 : Heap) (Z : List Nat → Value → Heap → Prop) : Prop :=
  pBin .lss t12 t11 fun t13 =>
  ifV t13
  (pIdx 1 t10 t12 fun t15 =>
  pLoad h_3 t15 fun t16 =>
  pBox T_int (.int .i64 0) h_3 fun phase2 h_4 =>
  pStore 1 phase2 t12 h_4 fun u h_5 =>
  callV P t16 [].toArray h_5 fun t18 h_6 =>
  rangeH P t18 [19] (h_6.size + 1) (h_6.push (.deferred (some []))) (fun L x hh R => sh_graph_look_B2 P h_6 phase2 L x.1 hh R)
  (fun h_13 => pBin .add t12 (.int .i64 1) fun t43 =>
  Z (h_6.size :: m) t43 h_13)
  (fun h_14 => takeM (h_6.size :: m) h_14 fun h_15 =>
  K (.tuple #[]) h_15)
  [])
  (takeM m h_3 fun h_16 =>
  K (.tuple #[]) h_16)

def sh_graph_look (P : Program) (r0 : Value) (h : Heap) (K : Value → Heap → Prop) : Prop :=
  pBox T_api_Raw r0 h fun r1 h_1 =>
  pBuildSlice T_func_iter_Seq_graph_place (zerosL [.nilFunc] 5) [(0, 1, (.func (.func F_graph_look_1) #[] #[r1])), (1, 1, (.func (.func F_graph_look_2) #[] #[r1])), (2, 1, (.func (.func F_graph_look_3) #[] #[r1])), (3, 1, (.func (.func F_graph_look_4) #[] #[r1])), (4, 1, (.func (.func F_graph_look_5) #[] #[r1]))] 5 h_1 fun t10 h_2 =>
  pLen t10 fun t11 =>
  LoopH (σ := List Nat × Vals [12]) (fun x hh ZZ => sh_graph_look_L1 P t11 t10 K x.1 x.2.1 hh (fun mz a0 hz => ZZ (mz, (a0, ())) hz)) ([], ((.int .i64 0), ())) h_2

set_option maxRecDepth 100000 in
theorem lk_graph_look (r0 : Value) {h : Heap} {K : Value → Heap → Prop} (H : sh_graph_look Tryz.prog r0 h K) : CallsH Tryz.prog F_graph_look [r0].toArray h K :=
  callsH_of (ann := (annG (Tryz.f79.body.getD .skip) 0 [(2, [12])]).1) (c := Tryz.f79.body.getD .skip) Tryz.func79 (by kernel_rfl) (by kernel_rfl) (by kernel_rfl) (of_decide_eq_true (by kernel_rfl))
    (Eq.mpr (by kernel_rfl) H)

/-! milestone/net.of$1 -/

def sh_net_of_1_C5 (P : Program) (t64 : Value) (Z_2 : Value → Heap → Prop) (h_31 : Heap) : Prop :=
  pBin .add t64 (.int .i64 1) fun t83 =>
  Z_2 t83 h_31

def sh_net_of_1_L4 (P : Program) (t63 t62 end0 rows8 : Value) (K : Value → Heap → Prop) (t64 : Value) (h_14 : Heap) (Z_2 : Value → Heap → Prop) : Prop :=
  pBin .lss t64 t63 fun t65 =>
  ifV t65
  (cutP (σ := Vals []) (fun J_1 =>
  pIdx 3 t62 t64 fun t67 =>
  pLoadN 3 h_14 t67 fun t68 =>
  pBox T_api_Arc (.agg #[(.int .i64 0), (.int .i64 0), (.int .i64 0)]) h_14 fun a13 h_15 =>
  pStore 3 a13 t68 h_15 fun u_3 h_16 =>
  pLoadN 3 h_16 a13 fun t71 =>
  pLoadN 3 h_16 a13 fun t75 =>
  (callV P end0 [t71].toArray h_16 fun t72 h_17 =>
  (pLoadN 3 h_17 a13 fun t75_1 =>
  t75_1 = t75) ∧
  ((callV P end0 [t75].toArray h_17 fun t76 h_18 =>
  pIdx 1 rows8 t76 fun t77 =>
  pLoad h_18 t77 fun t78 =>
  pBuildSlice T_int (zerosL [(.int .i64 0)] 1) [(0, 1, t64)] 1 h_18 fun t80 h_19 =>
  pAppend T_int 1 8 [(.int .i64 0)] t78 t80 h_19 fun t81 h_20 =>
  pIdx 1 rows8 t72 fun t82 =>
  pStore 1 t82 t81 h_20 fun u_4 h_21 =>
  J_1 () h_21) ∧
  (pBuildSlice T_int (zerosL [(.int .i64 0)] 1) [(0, 1, t64)] 1 h_17 fun t80_1 h_22 =>
  callV P end0 [t75].toArray h_22 fun t76_1 h_23 =>
  pIdx 1 rows8 t76_1 fun t77_1 =>
  pLoad h_23 t77_1 fun t78_1 =>
  pAppend T_int 1 8 [(.int .i64 0)] t78_1 t80_1 h_23 fun t81_1 h_24 =>
  pIdx 1 rows8 t72 fun t82_1 =>
  pStore 1 t82_1 t81_1 h_24 fun u_5 h_25 =>
  J_1 () h_25))) ∧
  (pBuildSlice T_int (zerosL [(.int .i64 0)] 1) [(0, 1, t64)] 1 h_16 fun t80_2 h_26 =>
  callV P end0 [t71].toArray h_26 fun t72_1 h_27 =>
  (pLoadN 3 h_27 a13 fun t75_2 =>
  t75_2 = t75) ∧
  (callV P end0 [t75].toArray h_27 fun t76_2 h_28 =>
  pIdx 1 rows8 t76_2 fun t77_2 =>
  pLoad h_28 t77_2 fun t78_2 =>
  pAppend T_int 1 8 [(.int .i64 0)] t78_2 t80_2 h_28 fun t81_2 h_29 =>
  pIdx 1 rows8 t72_1 fun t82_2 =>
  pStore 1 t82_2 t81_2 h_29 fun u_6 h_30 =>
  J_1 () h_30)))
  (fun x hh => sh_net_of_1_C5 P t64 Z_2 hh))
  (K rows8 h_14)

def sh_net_of_1_L3 (P : Program) (t41 t16 all7 rows8 t1 end0 : Value) (K : Value → Heap → Prop) (at9 t42 : Value) (h_12 : Heap) (Z_1 : Value → Value → Heap → Prop) : Prop :=
  pBin .lss t42 t41 fun t43 =>
  ifV t43
  (pIdx 1 t16 t42 fun t45 =>
  pLoad h_12 t45 fun t46 =>
  pBin .add at9 t46 fun t54 =>
  pSlice 1 all7 (some at9) (some at9) (some t54) fun t55 =>
  pIdx 1 rows8 t42 fun t56 =>
  pStore 1 t56 t55 h_12 fun u_2 h_13 =>
  pBin .add at9 t46 fun t59 =>
  pBin .add t42 (.int .i64 1) fun t60 =>
  Z_1 t59 t60 h_13)
  (pField 3 t1 fun t61 =>
  pLoad h_12 t61 fun t62 =>
  pLen t62 fun t63 =>
  LoopH (σ := Vals [64]) (fun x hh ZZ => sh_net_of_1_L4 P t63 t62 end0 rows8 K x.1 hh (fun a0 hz => ZZ (a0, ()) hz)) ((.int .i64 0), ()) h_12)

def sh_net_of_1_C2 (P : Program) (t16 t1 end0 : Value) (K : Value → Heap → Prop) (all7 rows8 : Value) (h_11 : Heap) : Prop :=
  pLen t16 fun t41 =>
  LoopH (σ := Vals [9, 42]) (fun x hh ZZ => sh_net_of_1_L3 P t41 t16 all7 rows8 t1 end0 K x.1 x.2.1 hh (fun a0 a1 hz => ZZ (a0, (a1, ())) hz)) ((.int .i64 0), ((.int .i64 0), ())) h_11

def sh_net_of_1_L1 (P : Program) (t19 t18 end0 t16 t1 : Value) (K : Value → Heap → Prop) (t20 : Value) (h_2 : Heap) (Z : Value → Heap → Prop) : Prop :=
  pBin .lss t20 t19 fun t21 =>
  ifV t21
  (pIdx 3 t18 t20 fun t22 =>
  pLoadN 3 h_2 t22 fun t23 =>
  pBox T_api_Arc (.agg #[(.int .i64 0), (.int .i64 0), (.int .i64 0)]) h_2 fun a6 h_3 =>
  pStore 3 a6 t23 h_3 fun u h_4 =>
  pLoadN 3 h_4 a6 fun t26 =>
  callV P end0 [t26].toArray h_4 fun t27 h_5 =>
  pIdx 1 t16 t27 fun t28 =>
  pLoad h_5 t28 fun t29 =>
  pBin .add t29 (.int .i64 1) fun t30 =>
  pIdx 1 t16 t27 fun t31 =>
  pStore 1 t31 t30 h_5 fun u_1 h_6 =>
  pBin .add t20 (.int .i64 1) fun t32 =>
  Z t32 h_6)
  (cutP (σ := Vals [7, 8]) (fun J =>
  pField 3 t1 fun t33 =>
  pLoad h_2 t33 fun t34 =>
  pLen t34 fun t35 =>
  pField 0 t1 fun t37 =>
  pLoad h_2 t37 fun t38 =>
  (pMakeSlice T_int 8 [(.int .i64 0)] t35 t35 h_2 fun t36 h_7 =>
  pMakeSlice T_sl_int 24 [(.slice none 0 0)] t38 t38 h_7 fun t39 h_8 =>
  J (t36, (t39, ())) h_8) ∧
  (pMakeSlice T_sl_int 24 [(.slice none 0 0)] t38 t38 h_2 fun t39_1 h_9 =>
  pMakeSlice T_int 8 [(.int .i64 0)] t35 t35 h_9 fun t36_1 h_10 =>
  J (t36_1, (t39_1, ())) h_10))
  (fun x hh => sh_net_of_1_C2 P t16 t1 end0 K x.1 x.2.1 hh))

def sh_net_of_1 (P : Program) (end0 t1 : Value) (h : Heap) (K : Value → Heap → Prop) : Prop :=
  pField 0 t1 fun t14 =>
  pLoad h t14 fun t15 =>
  pMakeSlice T_int 8 [(.int .i64 0)] t15 t15 h fun t16 h_1 =>
  pField 3 t1 fun t17 =>
  pLoad h_1 t17 fun t18 =>
  pLen t18 fun t19 =>
  LoopH (σ := Vals [20]) (fun x hh ZZ => sh_net_of_1_L1 P t19 t18 end0 t16 t1 K x.1 hh (fun a0 hz => ZZ (a0, ()) hz)) ((.int .i64 0), ()) h_1

set_option maxRecDepth 100000 in
theorem lk_net_of_1 (end0 t1 : Value) {h : Heap} {K : Value → Heap → Prop} (H : sh_net_of_1 Tryz.prog end0 t1 h K) : CallsH Tryz.prog F_net_of_1 [end0, t1].toArray h K :=
  callsH_of (ann := (annG (Tryz.f81.body.getD .skip) 0 [(4, [20]), (9, [7, 8]), (13, [9, 42]), (21, [64]), (24, [])]).1) (c := Tryz.f81.body.getD .skip) Tryz.func81 (by kernel_rfl) (by kernel_rfl) (by kernel_rfl) (of_decide_eq_true (by kernel_rfl))
    (Eq.mpr (by kernel_rfl) H)

/-! milestone/net.of$2 -/

def sh_net_of_2 (P : Program) (a0 : Value) (h : Heap) (K : Value → Heap → Prop) : Prop :=
  pBox T_api_Arc a0 h fun a1 h_1 =>
  pField 0 a1 fun t3 =>
  pLoad h_1 t3 fun t4 =>
  K t4 h_1

set_option maxRecDepth 100000 in
theorem lk_net_of_2 (a0 : Value) {h : Heap} {K : Value → Heap → Prop} (H : sh_net_of_2 Tryz.prog a0 h K) : CallsH Tryz.prog F_net_of_2 [a0].toArray h K :=
  callsH_of (ann := (annG (Tryz.f82.body.getD .skip) 0 []).1) (c := Tryz.f82.body.getD .skip) Tryz.func82 (by kernel_rfl) (by kernel_rfl) (by kernel_rfl) (of_decide_eq_true (by kernel_rfl))
    (Eq.mpr (by kernel_rfl) H)

/-! milestone/net.of$3 -/

def sh_net_of_3 (P : Program) (a0 : Value) (h : Heap) (K : Value → Heap → Prop) : Prop :=
  pBox T_api_Arc a0 h fun a1 h_1 =>
  pField 1 a1 fun t3 =>
  pLoad h_1 t3 fun t4 =>
  K t4 h_1

set_option maxRecDepth 100000 in
theorem lk_net_of_3 (a0 : Value) {h : Heap} {K : Value → Heap → Prop} (H : sh_net_of_3 Tryz.prog a0 h K) : CallsH Tryz.prog F_net_of_3 [a0].toArray h K :=
  callsH_of (ann := (annG (Tryz.f83.body.getD .skip) 0 []).1) (c := Tryz.f83.body.getD .skip) Tryz.func83 (by kernel_rfl) (by kernel_rfl) (by kernel_rfl) (of_decide_eq_true (by kernel_rfl))
    (Eq.mpr (by kernel_rfl) H)

/-! slices.Clone[[]int64,int64] -/

def sh_slices_Clone_sl_int64_int64 (P : Program) (s0 : Value) (h : Heap) (K : Value → Heap → Prop) : Prop :=
  pEq false .slice s0 (.slice none 0 0) fun t4 =>
  ifV t4
  (K (.slice none 0 0) h)
  (pBuildSlice T_int64 (zerosL [(.int .i64 0)] 0) [] 0 h fun t5 h_1 =>
  pAppend T_int64 1 8 [(.int .i64 0)] t5 s0 h_1 fun t7 h_2 =>
  K t7 h_2)

set_option maxRecDepth 100000 in
theorem lk_slices_Clone_sl_int64_int64 (s0 : Value) {h : Heap} {K : Value → Heap → Prop} (H : sh_slices_Clone_sl_int64_int64 Tryz.prog s0 h K) : CallsH Tryz.prog F_slices_Clone_sl_int64_int64 [s0].toArray h K :=
  callsH_of (ann := (annG (Tryz.f84.body.getD .skip) 0 []).1) (c := Tryz.f84.body.getD .skip) Tryz.func84 (by kernel_rfl) (by kernel_rfl) (by kernel_rfl) (of_decide_eq_true (by kernel_rfl))
    (Eq.mpr (by kernel_rfl) H)

/-! slices.Clone[[]milestone/api.Arc,milestone/api.Arc] -/

def sh_slices_Clone_sl_api_Arc_api_Arc (P : Program) (s0 : Value) (h : Heap) (K : Value → Heap → Prop) : Prop :=
  pEq false .slice s0 (.slice none 0 0) fun t4 =>
  ifV t4
  (K (.slice none 0 0) h)
  (pBuildSlice T_api_Arc (zerosL [(.int .i64 0), (.int .i64 0), (.int .i64 0)] 0) [] 0 h fun t5 h_1 =>
  pAppend T_api_Arc 3 24 [(.int .i64 0), (.int .i64 0), (.int .i64 0)] t5 s0 h_1 fun t7 h_2 =>
  K t7 h_2)

set_option maxRecDepth 100000 in
theorem lk_slices_Clone_sl_api_Arc_api_Arc (s0 : Value) {h : Heap} {K : Value → Heap → Prop} (H : sh_slices_Clone_sl_api_Arc_api_Arc Tryz.prog s0 h K) : CallsH Tryz.prog F_slices_Clone_sl_api_Arc_api_Arc [s0].toArray h K :=
  callsH_of (ann := (annG (Tryz.f85.body.getD .skip) 0 []).1) (c := Tryz.f85.body.getD .skip) Tryz.func85 (by kernel_rfl) (by kernel_rfl) (by kernel_rfl) (of_decide_eq_true (by kernel_rfl))
    (Eq.mpr (by kernel_rfl) H)

/-! slices.Values[[]int,int]$1 -/

def sh_slices_Values_sl_int_int_1_L1 (P : Program) (t6 t5 yield0 : Value) (K : Value → Heap → Prop) (t7 : Value) (h_1 : Heap) (Z : Value → Heap → Prop) : Prop :=
  pBin .lss t7 t6 fun t8 =>
  ifV t8
  (pIdx 1 t5 t7 fun t9 =>
  pLoad h_1 t9 fun t10 =>
  callV P yield0 [t10].toArray h_1 fun t13 h_2 =>
  pUn .not t13 fun t14 =>
  ifV t14
  (K (.tuple #[]) h_2)
  (pBin .add t7 (.int .i64 1) fun t15 =>
  Z t15 h_2))
  (K (.tuple #[]) h_1)

def sh_slices_Values_sl_int_int_1 (P : Program) (yield0 t1 : Value) (h : Heap) (K : Value → Heap → Prop) : Prop :=
  pLoad h t1 fun t5 =>
  pLen t5 fun t6 =>
  LoopH (σ := Vals [7]) (fun x hh ZZ => sh_slices_Values_sl_int_int_1_L1 P t6 t5 yield0 K x.1 hh (fun a0 hz => ZZ (a0, ()) hz)) ((.int .i64 0), ()) h

set_option maxRecDepth 100000 in
theorem lk_slices_Values_sl_int_int_1 (yield0 t1 : Value) {h : Heap} {K : Value → Heap → Prop} (H : sh_slices_Values_sl_int_int_1 Tryz.prog yield0 t1 h K) : CallsH Tryz.prog F_slices_Values_sl_int_int_1 [yield0, t1].toArray h K :=
  callsH_of (ann := (annG (Tryz.f86.body.getD .skip) 0 [(1, [7])]).1) (c := Tryz.f86.body.getD .skip) Tryz.func86 (by kernel_rfl) (by kernel_rfl) (by kernel_rfl) (of_decide_eq_true (by kernel_rfl))
    (Eq.mpr (by kernel_rfl) H)

/-! slices.IndexFunc[[]milestone/avoid.mark,milestone/avoid.mark] -/

def sh_slices_IndexFunc_sl_avoid_mark_avoid_mark_L1 (P : Program) (t7 s0 f1 : Value) (K : Value → Heap → Prop) (t8 : Value) (h_1 : Heap) (Z : Value → Heap → Prop) : Prop :=
  pBin .lss t8 t7 fun t9 =>
  ifV t9
  (pIdx 7 s0 t8 fun t14 =>
  pLoadN 7 h_1 t14 fun t15 =>
  callV P f1 [t15].toArray h_1 fun t16 h_2 =>
  ifV t16
  (K t8 h_2)
  (pBin .add t8 (.int .i64 1) fun t18 =>
  Z t18 h_2))
  (K (.int .i64 (-1)) h_1)

def sh_slices_IndexFunc_sl_avoid_mark_avoid_mark (P : Program) (s0 f1 : Value) (h : Heap) (K : Value → Heap → Prop) : Prop :=
  pLen s0 fun t7 =>
  LoopH (σ := Vals [8]) (fun x hh ZZ => sh_slices_IndexFunc_sl_avoid_mark_avoid_mark_L1 P t7 s0 f1 K x.1 hh (fun a0 hz => ZZ (a0, ()) hz)) ((.int .i64 0), ()) h

set_option maxRecDepth 100000 in
theorem lk_slices_IndexFunc_sl_avoid_mark_avoid_mark (s0 f1 : Value) {h : Heap} {K : Value → Heap → Prop} (H : sh_slices_IndexFunc_sl_avoid_mark_avoid_mark Tryz.prog s0 f1 h K) : CallsH Tryz.prog F_slices_IndexFunc_sl_avoid_mark_avoid_mark [s0, f1].toArray h K :=
  callsH_of (ann := (annG (Tryz.f87.body.getD .skip) 0 [(3, [8])]).1) (c := Tryz.f87.body.getD .skip) Tryz.func87 (by kernel_rfl) (by kernel_rfl) (by kernel_rfl) (of_decide_eq_true (by kernel_rfl))
    (Eq.mpr (by kernel_rfl) H)

/-! (*milestone/net.Net).In -/

def sh_net_Net_In (P : Program) (n0 v1 : Value) (h : Heap) (K : Value → Heap → Prop) : Prop :=
  pEq false .ptr n0 (.pointer none) fun t8 =>
  ifV t8
  (K (.slice none 0 0) h)
  (pNil n0 fun t11 =>
  pField 5 t11 fun t12 =>
  pLoad h t12 fun t13 =>
  callS P F_net_one_sl_int [t13, v1] h fun t15 h_1 =>
  pExt t15 0 fun t16 =>
  pExt t15 1 fun t17 =>
  callS P F_slices_Clone_sl_int_int [t16] h_1 fun t19 h_2 =>
  K t19 h_2)

set_option maxRecDepth 100000 in
theorem lk_net_Net_In (n0 v1 : Value) {h : Heap} {K : Value → Heap → Prop} (H : sh_net_Net_In Tryz.prog n0 v1 h K) : CallsH Tryz.prog F_net_Net_In [n0, v1].toArray h K :=
  callsH_of (ann := (annG (Tryz.f88.body.getD .skip) 0 []).1) (c := Tryz.f88.body.getD .skip) Tryz.func88 (by kernel_rfl) (by kernel_rfl) (by kernel_rfl) (of_decide_eq_true (by kernel_rfl))
    (Eq.mpr (by kernel_rfl) H)

/-! milestone/flood.To$1 -/

def sh_flood_To_1 (P : Program) (a0 : Value) (h : Heap) (K : Value → Heap → Prop) : Prop :=
  pBox T_api_Arc a0 h fun a1 h_1 =>
  pField 0 a1 fun t3 =>
  pLoad h_1 t3 fun t4 =>
  K t4 h_1

set_option maxRecDepth 100000 in
theorem lk_flood_To_1 (a0 : Value) {h : Heap} {K : Value → Heap → Prop} (H : sh_flood_To_1 Tryz.prog a0 h K) : CallsH Tryz.prog F_flood_To_1 [a0].toArray h K :=
  callsH_of (ann := (annG (Tryz.f89.body.getD .skip) 0 []).1) (c := Tryz.f89.body.getD .skip) Tryz.func89 (by kernel_rfl) (by kernel_rfl) (by kernel_rfl) (of_decide_eq_true (by kernel_rfl))
    (Eq.mpr (by kernel_rfl) H)

/-! milestone/avoid.behind$1 -/

def sh_avoid_behind_1_B1 (P : Program) (h_2 : Heap) (yield2 : Value) (L : Loop) (t7 t8 : Value) (h_3 : Heap) (R : Exit → Heap → Prop) : Prop :=
  beginR (h_2.size + 1) L h_3 fun h_4 =>
  pLoad h_4 yield2 fun t9 =>
  callV P t9 [t8].toArray h_4 fun t11 h_5 =>
  pUn .not t11 fun t12 =>
  ifV t12
  (R .ret h_5)
  (R .normal h_5)

def sh_avoid_behind_1 (P : Program) (yield0 t1 : Value) (h : Heap) (K : Value → Heap → Prop) : Prop :=
  pBox T_func_int_bool yield0 h fun yield2 h_1 =>
  pLoad h_1 t1 fun t5 =>
  callS P F_slices_Backward_sl_int_int [t5] h_1 fun t6 h_2 =>
  rangeH P t6 [7, 8] (h_2.size + 1) (h_2.push (.deferred (some []))) (fun L x hh R => sh_avoid_behind_1_B1 P h_2 yield2 L x.1 x.2.1 hh R)
  (fun h_6 => takeM (h_2.size :: []) h_6 fun h_7 =>
  K (.tuple #[]) h_7)
  (fun h_8 => takeM (h_2.size :: []) h_8 fun h_9 =>
  K (.tuple #[]) h_9)
  []

set_option maxRecDepth 100000 in
theorem lk_avoid_behind_1 (yield0 t1 : Value) {h : Heap} {K : Value → Heap → Prop} (H : sh_avoid_behind_1 Tryz.prog yield0 t1 h K) : CallsH Tryz.prog F_avoid_behind_1 [yield0, t1].toArray h K :=
  callsH_of (ann := (annG (Tryz.f90.body.getD .skip) 0 []).1) (c := Tryz.f90.body.getD .skip) Tryz.func90 (by kernel_rfl) (by kernel_rfl) (by kernel_rfl) (of_decide_eq_true (by kernel_rfl))
    (Eq.mpr (by kernel_rfl) H)

/-! slices.Backward[[]int,int] -/

def sh_slices_Backward_sl_int_int (P : Program) (s0 : Value) (h : Heap) (K : Value → Heap → Prop) : Prop :=
  pBox T_sl_int s0 h fun s1 h_1 =>
  K (.func (.func F_slices_Backward_sl_int_int_1) #[] #[s1]) h_1

set_option maxRecDepth 100000 in
theorem lk_slices_Backward_sl_int_int (s0 : Value) {h : Heap} {K : Value → Heap → Prop} (H : sh_slices_Backward_sl_int_int Tryz.prog s0 h K) : CallsH Tryz.prog F_slices_Backward_sl_int_int [s0].toArray h K :=
  callsH_of (ann := (annG (Tryz.f91.body.getD .skip) 0 []).1) (c := Tryz.f91.body.getD .skip) Tryz.func91 (by kernel_rfl) (by kernel_rfl) (by kernel_rfl) (of_decide_eq_true (by kernel_rfl))
    (Eq.mpr (by kernel_rfl) H)

/-! milestone/dist.folded -/

def sh_dist_folded_L1 (P : Program) (t8 l1 keep0 : Value) (K : Value → Heap → Prop) (sum4 t9 : Value) (h_1 : Heap) (Z : Value → Value → Heap → Prop) : Prop :=
  pBin .lss t9 t8 fun t10 =>
  ifV t10
  (pIdx 1 l1 t9 fun t11 =>
  pLoad h_1 t11 fun t12 =>
  callV P keep0 [t12].toArray h_1 fun t17 h_2 =>
  pBin .add sum4 t17 fun t18 =>
  callV P keep0 [t18].toArray h_2 fun t19 h_3 =>
  pBin .add t9 (.int .i64 1) fun t20 =>
  Z t19 t20 h_3)
  (K sum4 h_1)

def sh_dist_folded (P : Program) (keep0 l1 : Value) (h : Heap) (K : Value → Heap → Prop) : Prop :=
  pLen l1 fun t8 =>
  LoopH (σ := Vals [4, 9]) (fun x hh ZZ => sh_dist_folded_L1 P t8 l1 keep0 K x.1 x.2.1 hh (fun a0 a1 hz => ZZ (a0, (a1, ())) hz)) ((.int .i64 0), ((.int .i64 0), ())) h

set_option maxRecDepth 100000 in
theorem lk_dist_folded (keep0 l1 : Value) {h : Heap} {K : Value → Heap → Prop} (H : sh_dist_folded Tryz.prog keep0 l1 h K) : CallsH Tryz.prog F_dist_folded [keep0, l1].toArray h K :=
  callsH_of (ann := (annG (Tryz.f92.body.getD .skip) 0 [(3, [4, 9])]).1) (c := Tryz.f92.body.getD .skip) Tryz.func92 (by kernel_rfl) (by kernel_rfl) (by kernel_rfl) (of_decide_eq_true (by kernel_rfl))
    (Eq.mpr (by kernel_rfl) H)

/-! milestone/dist.between[int64] -/

def sh_dist_between_int64 (P : Program) (least0 greatest1 : Value) (h : Heap) (K : Value → Heap → Prop) : Prop :=
  pBox T_int64 least0 h fun least2 h_1 =>
  pBox T_int64 greatest1 h_1 fun greatest3 h_2 =>
  K (.func (.func F_dist_between_int64_1) #[] #[least2, greatest3]) h_2

set_option maxRecDepth 100000 in
theorem lk_dist_between_int64 (least0 greatest1 : Value) {h : Heap} {K : Value → Heap → Prop} (H : sh_dist_between_int64 Tryz.prog least0 greatest1 h K) : CallsH Tryz.prog F_dist_between_int64 [least0, greatest1].toArray h K :=
  callsH_of (ann := (annG (Tryz.f93.body.getD .skip) 0 []).1) (c := Tryz.f93.body.getD .skip) Tryz.func93 (by kernel_rfl) (by kernel_rfl) (by kernel_rfl) (of_decide_eq_true (by kernel_rfl))
    (Eq.mpr (by kernel_rfl) H)

/-! milestone/net.one[milestone/api.Arc] -/

def sh_net_one_api_Arc_k1 (P : Program) (x4 : Value) (K : Value → Heap → Prop) (h_2 : Heap) : Prop :=
  pLoadN 3 h_2 x4 fun t14 =>
  pStore 3 x4 t14 h_2 fun u h_3 =>
  pLoadN 3 h_3 x4 fun res =>
  K (.tuple #[res, (.bool false)]) h_3

def sh_net_one_api_Arc (P : Program) (l0 i1 : Value) (h : Heap) (K : Value → Heap → Prop) : Prop :=
  pBox T_api_Arc (.agg #[(.int .i64 0), (.int .i64 0), (.int .i64 0)]) h fun x4 h_1 =>
  pBin .lss i1 (.int .i64 0) fun t7 =>
  ifV t7
  (sh_net_one_api_Arc_k1 P x4 K h_1)
  (pLen l0 fun t11 =>
  pBin .geq i1 t11 fun t12 =>
  ifV t12
  (sh_net_one_api_Arc_k1 P x4 K h_1)
  (pIdx 3 l0 i1 fun t17 =>
  pLoadN 3 h_1 t17 fun t18 =>
  pStore 3 x4 t18 h_1 fun u_1 h_4 =>
  pLoadN 3 h_4 x4 fun res_1 =>
  K (.tuple #[res_1, (.bool true)]) h_4))

set_option maxRecDepth 100000 in
theorem lk_net_one_api_Arc (l0 i1 : Value) {h : Heap} {K : Value → Heap → Prop} (H : sh_net_one_api_Arc Tryz.prog l0 i1 h K) : CallsH Tryz.prog F_net_one_api_Arc [l0, i1].toArray h K :=
  callsH_of (ann := (annG (Tryz.f94.body.getD .skip) 0 []).1) (c := Tryz.f94.body.getD .skip) Tryz.func94 (by kernel_rfl) (by kernel_rfl) (by kernel_rfl) (of_decide_eq_true (by kernel_rfl))
    (Eq.mpr (by kernel_rfl) H)

/-! (*milestone/milestoneref08.Heap).at -/

def sh_milestoneref08_Heap_at_L1 (P : Program) (h0 id1 : Value) (K : Value → Heap → Prop) (i5 : Value) (h_1 : Heap) (Z : Value → Heap → Prop) : Prop :=
  pNil h0 fun t8 =>
  pField 1 t8 fun t9 =>
  pLoad h_1 t9 fun t10 =>
  pLen t10 fun t11 =>
  pBin .lss i5 t11 fun t12 =>
  ifV t12
  (pNil h0 fun t16 =>
  pField 1 t16 fun t17 =>
  pLoad h_1 t17 fun t18 =>
  pIdx 2 t18 i5 fun t20 =>
  pField 0 t20 fun t21 =>
  pLoad h_1 t21 fun t22 =>
  pBin .eql t22 id1 fun t24 =>
  ifV t24
  (K i5 h_1)
  (pBin .add i5 (.int .i64 1) fun t14 =>
  Z t14 h_1))
  (K (.int .i64 (-1)) h_1)

def sh_milestoneref08_Heap_at (P : Program) (h0 id1 : Value) (h : Heap) (K : Value → Heap → Prop) : Prop :=
  LoopH (σ := Vals [5]) (fun x hh ZZ => sh_milestoneref08_Heap_at_L1 P h0 id1 K x.1 hh (fun a0 hz => ZZ (a0, ()) hz)) ((.int .i64 0), ()) h

set_option maxRecDepth 100000 in
theorem lk_milestoneref08_Heap_at (h0 id1 : Value) {h : Heap} {K : Value → Heap → Prop} (H : sh_milestoneref08_Heap_at Tryz.prog h0 id1 h K) : CallsH Tryz.prog F_milestoneref08_Heap_at [h0, id1].toArray h K :=
  callsH_of (ann := (annG (Tryz.f95.body.getD .skip) 0 [(3, [5])]).1) (c := Tryz.f95.body.getD .skip) Tryz.func95 (by kernel_rfl) (by kernel_rfl) (by kernel_rfl) (of_decide_eq_true (by kernel_rfl))
    (Eq.mpr (by kernel_rfl) H)

/-! (*milestone/milestoneref08.Heap).least -/

def sh_milestoneref08_Heap_least_k3 (P : Program) (i4 : Value) (Z : Value → Value → Heap → Prop) (best3_1 : Value) (h_3 : Heap) : Prop :=
  pBin .add i4 (.int .i64 1) fun t13 =>
  Z best3_1 t13 h_3

def sh_milestoneref08_Heap_least_k2 (P : Program) (i4 : Value) (Z : Value → Value → Heap → Prop) (h_2 : Heap) : Prop :=
  sh_milestoneref08_Heap_least_k3 P i4 Z i4 h_2

def sh_milestoneref08_Heap_least_L1 (P : Program) (h0 : Value) (K : Value → Heap → Prop) (best3 i4 : Value) (h_1 : Heap) (Z : Value → Value → Heap → Prop) : Prop :=
  pNil h0 fun t7 =>
  pField 1 t7 fun t8 =>
  pLoad h_1 t8 fun t9 =>
  pLen t9 fun t10 =>
  pBin .lss i4 t10 fun t11 =>
  ifV t11
  (pBin .lss best3 (.int .i64 0) fun t15 =>
  ifV t15
  (sh_milestoneref08_Heap_least_k2 P i4 Z h_1)
  (pNil h0 fun t18 =>
  pField 1 t18 fun t19 =>
  pLoad h_1 t19 fun t20 =>
  pIdx 2 t20 i4 fun t22 =>
  pField 1 t22 fun t23 =>
  pLoad h_1 t23 fun t24 =>
  pNil h0 fun t26 =>
  pField 1 t26 fun t27 =>
  pLoad h_1 t27 fun t28 =>
  pIdx 2 t28 best3 fun t30 =>
  pField 1 t30 fun t31 =>
  pLoad h_1 t31 fun t32 =>
  pBin .lss t24 t32 fun t33 =>
  ifV t33
  (sh_milestoneref08_Heap_least_k2 P i4 Z h_1)
  (pNil h0 fun t37 =>
  pField 1 t37 fun t38 =>
  pLoad h_1 t38 fun t39 =>
  pIdx 2 t39 i4 fun t41 =>
  pField 1 t41 fun t42 =>
  pLoad h_1 t42 fun t43 =>
  pNil h0 fun t45 =>
  pField 1 t45 fun t46 =>
  pLoad h_1 t46 fun t47 =>
  pIdx 2 t47 best3 fun t49 =>
  pField 1 t49 fun t50 =>
  pLoad h_1 t50 fun t51 =>
  pBin .eql t43 t51 fun t52 =>
  ifV t52
  (pNil h0 fun t55 =>
  pField 1 t55 fun t56 =>
  pLoad h_1 t56 fun t57 =>
  pIdx 2 t57 i4 fun t59 =>
  pField 0 t59 fun t60 =>
  pLoad h_1 t60 fun t61 =>
  pNil h0 fun t63 =>
  pField 1 t63 fun t64 =>
  pLoad h_1 t64 fun t65 =>
  pIdx 2 t65 best3 fun t67 =>
  pField 0 t67 fun t68 =>
  pLoad h_1 t68 fun t69 =>
  pBin .lss t61 t69 fun t70 =>
  ifV t70
  (sh_milestoneref08_Heap_least_k2 P i4 Z h_1)
  (sh_milestoneref08_Heap_least_k3 P i4 Z best3 h_1))
  (sh_milestoneref08_Heap_least_k3 P i4 Z best3 h_1))))
  (K best3 h_1)

def sh_milestoneref08_Heap_least (P : Program) (h0 : Value) (h : Heap) (K : Value → Heap → Prop) : Prop :=
  LoopH (σ := Vals [3, 4]) (fun x hh ZZ => sh_milestoneref08_Heap_least_L1 P h0 K x.1 x.2.1 hh (fun a0 a1 hz => ZZ (a0, (a1, ())) hz)) ((.int .i64 (-1)), ((.int .i64 0), ())) h

set_option maxRecDepth 100000 in
theorem lk_milestoneref08_Heap_least (h0 : Value) {h : Heap} {K : Value → Heap → Prop} (H : sh_milestoneref08_Heap_least Tryz.prog h0 h K) : CallsH Tryz.prog F_milestoneref08_Heap_least [h0].toArray h K :=
  callsH_of (ann := (annG (Tryz.f96.body.getD .skip) 0 [(4, [3, 4])]).1) (c := Tryz.f96.body.getD .skip) Tryz.func96 (by kernel_rfl) (by kernel_rfl) (by kernel_rfl) (of_decide_eq_true (by kernel_rfl))
    (Eq.mpr (by kernel_rfl) H)

end Go.Proofs.YtoopkllfpmjnfaaGreatDoor

namespace Go.Proofs.YtoopkllfpmjnfaaGreatDoor
open Go Go.Mh
set_option maxHeartbeats 0
set_option linter.unusedVariables false

/-! milestone/dist.way -/

def sh_dist_way (P : Program) (a0 : Value) (h : Heap) (K : Value → Heap → Prop) : Prop :=
  callS P F_dist_between_int64 [(.int .i64 0), (.int .i64 72057594037927936)] h fun t3 h_1 =>
  callV P t3 [a0].toArray h_1 fun t5 h_2 =>
  K t5 h_2

set_option maxRecDepth 100000 in
theorem lk_dist_way (a0 : Value) {h : Heap} {K : Value → Heap → Prop} (H : sh_dist_way Tryz.prog a0 h K) : CallsH Tryz.prog F_dist_way [a0].toArray h K :=
  callsH_of (ann := (annG (Tryz.f97.body.getD .skip) 0 []).1) (c := Tryz.f97.body.getD .skip) Tryz.func97 (by kernel_rfl) (by kernel_rfl) (by kernel_rfl) (of_decide_eq_true (by kernel_rfl))
    (Eq.mpr (by kernel_rfl) H)

/-! milestone/dist.Finite -/

def sh_dist_Finite (P : Program) (a0 : Value) (h : Heap) (K : Value → Heap → Prop) : Prop :=
  callS P F_dist_way [a0] h fun t4 h_1 =>
  pBin .lss t4 (.int .i64 72057594037927936) fun t5 =>
  K t5 h_1

set_option maxRecDepth 100000 in
theorem lk_dist_Finite (a0 : Value) {h : Heap} {K : Value → Heap → Prop} (H : sh_dist_Finite Tryz.prog a0 h K) : CallsH Tryz.prog F_dist_Finite [a0].toArray h K :=
  callsH_of (ann := (annG (Tryz.f98.body.getD .skip) 0 []).1) (c := Tryz.f98.body.getD .skip) Tryz.func98 (by kernel_rfl) (by kernel_rfl) (by kernel_rfl) (of_decide_eq_true (by kernel_rfl))
    (Eq.mpr (by kernel_rfl) H)

/-! milestone/milestoneref07.Copy -/

def sh_milestoneref07_Copy_C1 (P : Program) (t2 : Value) (K : Value → Heap → Prop) (h_85 : Heap) : Prop :=
  pLoadN 4 h_85 t2 fun res =>
  K res h_85

def sh_milestoneref07_Copy (P : Program) (g0 : Value) (h : Heap) (K : Value → Heap → Prop) : Prop :=
  pBox T_api_Raw g0 h fun g1 h_1 =>
  pBox T_api_Raw (.agg #[(.int .i64 0), (.slice none 0 0), (.slice none 0 0), (.slice none 0 0)]) h_1 fun t2 h_2 =>
  cutP (σ := Vals []) (fun J =>
  pField 0 g1 fun t3 =>
  pLoad h_2 t3 fun t4 =>
  pField 1 g1 fun t6 =>
  pLoad h_2 t6 fun t7 =>
  pField 2 g1 fun t10 =>
  pLoad h_2 t10 fun t11 =>
  pField 3 g1 fun t14 =>
  pLoad h_2 t14 fun t15 =>
  (pBuildSlice T_int64 (zerosL [(.int .i64 0)] 0) [] 0 h_2 fun t5 h_3 =>
  (pAppend T_int64 1 8 [(.int .i64 0)] t5 t7 h_3 fun t8 h_4 =>
  (pLoad h_4 t3 fun t4_1 =>
  t4_1 = t4) ∧
  (pLoad h_4 t10 fun t11_1 =>
  t11_1 = t11) ∧
  (pLoad h_4 t14 fun t15_1 =>
  t15_1 = t15) ∧
  ((pBuildSlice T_int64 (zerosL [(.int .i64 0)] 0) [] 0 h_4 fun t9 h_5 =>
  (pAppend T_int64 1 8 [(.int .i64 0)] t9 t11 h_5 fun t12 h_6 =>
  (pLoad h_6 t3 fun t4_2 =>
  t4_2 = t4) ∧
  (pLoad h_6 t14 fun t15_2 =>
  t15_2 = t15) ∧
  (pBuildSlice T_api_Arc (zerosL [(.int .i64 0), (.int .i64 0), (.int .i64 0)] 0) [] 0 h_6 fun t13 h_7 =>
  pAppend T_api_Arc 3 24 [(.int .i64 0), (.int .i64 0), (.int .i64 0)] t13 t15 h_7 fun t16 h_8 =>
  (pLoad h_8 t3 fun t4_3 =>
  t4_3 = t4) ∧
  (pBuild [(.int .i64 0), (.slice none 0 0), (.slice none 0 0), (.slice none 0 0)] [(0, 1, t4), (1, 1, t8), (2, 1, t12), (3, 1, t16)] fun t17 =>
  pStore 4 t2 t17 h_8 fun u h_9 =>
  J () h_9))) ∧
  (pBuildSlice T_api_Arc (zerosL [(.int .i64 0), (.int .i64 0), (.int .i64 0)] 0) [] 0 h_5 fun t13_1 h_10 =>
  pAppend T_int64 1 8 [(.int .i64 0)] t9 t11 h_10 fun t12_1 h_11 =>
  (pLoad h_11 t3 fun t4_4 =>
  t4_4 = t4) ∧
  (pLoad h_11 t14 fun t15_3 =>
  t15_3 = t15) ∧
  (pAppend T_api_Arc 3 24 [(.int .i64 0), (.int .i64 0), (.int .i64 0)] t13_1 t15 h_11 fun t16_1 h_12 =>
  (pLoad h_12 t3 fun t4_5 =>
  t4_5 = t4) ∧
  (pBuild [(.int .i64 0), (.slice none 0 0), (.slice none 0 0), (.slice none 0 0)] [(0, 1, t4), (1, 1, t8), (2, 1, t12_1), (3, 1, t16_1)] fun t17_1 =>
  pStore 4 t2 t17_1 h_12 fun u_1 h_13 =>
  J () h_13)))) ∧
  (pBuildSlice T_api_Arc (zerosL [(.int .i64 0), (.int .i64 0), (.int .i64 0)] 0) [] 0 h_4 fun t13_2 h_14 =>
  pBuildSlice T_int64 (zerosL [(.int .i64 0)] 0) [] 0 h_14 fun t9_1 h_15 =>
  pAppend T_int64 1 8 [(.int .i64 0)] t9_1 t11 h_15 fun t12_2 h_16 =>
  (pLoad h_16 t3 fun t4_6 =>
  t4_6 = t4) ∧
  (pLoad h_16 t14 fun t15_4 =>
  t15_4 = t15) ∧
  (pAppend T_api_Arc 3 24 [(.int .i64 0), (.int .i64 0), (.int .i64 0)] t13_2 t15 h_16 fun t16_2 h_17 =>
  (pLoad h_17 t3 fun t4_7 =>
  t4_7 = t4) ∧
  (pBuild [(.int .i64 0), (.slice none 0 0), (.slice none 0 0), (.slice none 0 0)] [(0, 1, t4), (1, 1, t8), (2, 1, t12_2), (3, 1, t16_2)] fun t17_2 =>
  pStore 4 t2 t17_2 h_17 fun u_2 h_18 =>
  J () h_18))))) ∧
  (pBuildSlice T_int64 (zerosL [(.int .i64 0)] 0) [] 0 h_3 fun t9_2 h_19 =>
  (pAppend T_int64 1 8 [(.int .i64 0)] t5 t7 h_19 fun t8_1 h_20 =>
  (pLoad h_20 t3 fun t4_8 =>
  t4_8 = t4) ∧
  (pLoad h_20 t10 fun t11_2 =>
  t11_2 = t11) ∧
  (pLoad h_20 t14 fun t15_5 =>
  t15_5 = t15) ∧
  ((pAppend T_int64 1 8 [(.int .i64 0)] t9_2 t11 h_20 fun t12_3 h_21 =>
  (pLoad h_21 t3 fun t4_9 =>
  t4_9 = t4) ∧
  (pLoad h_21 t14 fun t15_6 =>
  t15_6 = t15) ∧
  (pBuildSlice T_api_Arc (zerosL [(.int .i64 0), (.int .i64 0), (.int .i64 0)] 0) [] 0 h_21 fun t13_3 h_22 =>
  pAppend T_api_Arc 3 24 [(.int .i64 0), (.int .i64 0), (.int .i64 0)] t13_3 t15 h_22 fun t16_3 h_23 =>
  (pLoad h_23 t3 fun t4_10 =>
  t4_10 = t4) ∧
  (pBuild [(.int .i64 0), (.slice none 0 0), (.slice none 0 0), (.slice none 0 0)] [(0, 1, t4), (1, 1, t8_1), (2, 1, t12_3), (3, 1, t16_3)] fun t17_3 =>
  pStore 4 t2 t17_3 h_23 fun u_3 h_24 =>
  J () h_24))) ∧
  (pBuildSlice T_api_Arc (zerosL [(.int .i64 0), (.int .i64 0), (.int .i64 0)] 0) [] 0 h_20 fun t13_4 h_25 =>
  pAppend T_int64 1 8 [(.int .i64 0)] t9_2 t11 h_25 fun t12_4 h_26 =>
  (pLoad h_26 t3 fun t4_11 =>
  t4_11 = t4) ∧
  (pLoad h_26 t14 fun t15_7 =>
  t15_7 = t15) ∧
  (pAppend T_api_Arc 3 24 [(.int .i64 0), (.int .i64 0), (.int .i64 0)] t13_4 t15 h_26 fun t16_4 h_27 =>
  (pLoad h_27 t3 fun t4_12 =>
  t4_12 = t4) ∧
  (pBuild [(.int .i64 0), (.slice none 0 0), (.slice none 0 0), (.slice none 0 0)] [(0, 1, t4), (1, 1, t8_1), (2, 1, t12_4), (3, 1, t16_4)] fun t17_4 =>
  pStore 4 t2 t17_4 h_27 fun u_4 h_28 =>
  J () h_28))))) ∧
  (pBuildSlice T_api_Arc (zerosL [(.int .i64 0), (.int .i64 0), (.int .i64 0)] 0) [] 0 h_19 fun t13_5 h_29 =>
  pAppend T_int64 1 8 [(.int .i64 0)] t5 t7 h_29 fun t8_2 h_30 =>
  (pLoad h_30 t3 fun t4_13 =>
  t4_13 = t4) ∧
  (pLoad h_30 t10 fun t11_3 =>
  t11_3 = t11) ∧
  (pLoad h_30 t14 fun t15_8 =>
  t15_8 = t15) ∧
  (pAppend T_int64 1 8 [(.int .i64 0)] t9_2 t11 h_30 fun t12_5 h_31 =>
  (pLoad h_31 t3 fun t4_14 =>
  t4_14 = t4) ∧
  (pLoad h_31 t14 fun t15_9 =>
  t15_9 = t15) ∧
  (pAppend T_api_Arc 3 24 [(.int .i64 0), (.int .i64 0), (.int .i64 0)] t13_5 t15 h_31 fun t16_5 h_32 =>
  (pLoad h_32 t3 fun t4_15 =>
  t4_15 = t4) ∧
  (pBuild [(.int .i64 0), (.slice none 0 0), (.slice none 0 0), (.slice none 0 0)] [(0, 1, t4), (1, 1, t8_2), (2, 1, t12_5), (3, 1, t16_5)] fun t17_5 =>
  pStore 4 t2 t17_5 h_32 fun u_5 h_33 =>
  J () h_33))))) ∧
  (pBuildSlice T_api_Arc (zerosL [(.int .i64 0), (.int .i64 0), (.int .i64 0)] 0) [] 0 h_3 fun t13_6 h_34 =>
  (pAppend T_int64 1 8 [(.int .i64 0)] t5 t7 h_34 fun t8_3 h_35 =>
  (pLoad h_35 t3 fun t4_16 =>
  t4_16 = t4) ∧
  (pLoad h_35 t10 fun t11_4 =>
  t11_4 = t11) ∧
  (pLoad h_35 t14 fun t15_10 =>
  t15_10 = t15) ∧
  (pBuildSlice T_int64 (zerosL [(.int .i64 0)] 0) [] 0 h_35 fun t9_3 h_36 =>
  pAppend T_int64 1 8 [(.int .i64 0)] t9_3 t11 h_36 fun t12_6 h_37 =>
  (pLoad h_37 t3 fun t4_17 =>
  t4_17 = t4) ∧
  (pLoad h_37 t14 fun t15_11 =>
  t15_11 = t15) ∧
  (pAppend T_api_Arc 3 24 [(.int .i64 0), (.int .i64 0), (.int .i64 0)] t13_6 t15 h_37 fun t16_6 h_38 =>
  (pLoad h_38 t3 fun t4_18 =>
  t4_18 = t4) ∧
  (pBuild [(.int .i64 0), (.slice none 0 0), (.slice none 0 0), (.slice none 0 0)] [(0, 1, t4), (1, 1, t8_3), (2, 1, t12_6), (3, 1, t16_6)] fun t17_6 =>
  pStore 4 t2 t17_6 h_38 fun u_6 h_39 =>
  J () h_39)))) ∧
  (pBuildSlice T_int64 (zerosL [(.int .i64 0)] 0) [] 0 h_34 fun t9_4 h_40 =>
  pAppend T_int64 1 8 [(.int .i64 0)] t5 t7 h_40 fun t8_4 h_41 =>
  (pLoad h_41 t3 fun t4_19 =>
  t4_19 = t4) ∧
  (pLoad h_41 t10 fun t11_5 =>
  t11_5 = t11) ∧
  (pLoad h_41 t14 fun t15_12 =>
  t15_12 = t15) ∧
  (pAppend T_int64 1 8 [(.int .i64 0)] t9_4 t11 h_41 fun t12_7 h_42 =>
  (pLoad h_42 t3 fun t4_20 =>
  t4_20 = t4) ∧
  (pLoad h_42 t14 fun t15_13 =>
  t15_13 = t15) ∧
  (pAppend T_api_Arc 3 24 [(.int .i64 0), (.int .i64 0), (.int .i64 0)] t13_6 t15 h_42 fun t16_7 h_43 =>
  (pLoad h_43 t3 fun t4_21 =>
  t4_21 = t4) ∧
  (pBuild [(.int .i64 0), (.slice none 0 0), (.slice none 0 0), (.slice none 0 0)] [(0, 1, t4), (1, 1, t8_4), (2, 1, t12_7), (3, 1, t16_7)] fun t17_7 =>
  pStore 4 t2 t17_7 h_43 fun u_7 h_44 =>
  J () h_44)))))) ∧
  (pBuildSlice T_int64 (zerosL [(.int .i64 0)] 0) [] 0 h_2 fun t9_5 h_45 =>
  (pBuildSlice T_int64 (zerosL [(.int .i64 0)] 0) [] 0 h_45 fun t5_1 h_46 =>
  (pAppend T_int64 1 8 [(.int .i64 0)] t5_1 t7 h_46 fun t8_5 h_47 =>
  (pLoad h_47 t3 fun t4_22 =>
  t4_22 = t4) ∧
  (pLoad h_47 t10 fun t11_6 =>
  t11_6 = t11) ∧
  (pLoad h_47 t14 fun t15_14 =>
  t15_14 = t15) ∧
  ((pAppend T_int64 1 8 [(.int .i64 0)] t9_5 t11 h_47 fun t12_8 h_48 =>
  (pLoad h_48 t3 fun t4_23 =>
  t4_23 = t4) ∧
  (pLoad h_48 t14 fun t15_15 =>
  t15_15 = t15) ∧
  (pBuildSlice T_api_Arc (zerosL [(.int .i64 0), (.int .i64 0), (.int .i64 0)] 0) [] 0 h_48 fun t13_7 h_49 =>
  pAppend T_api_Arc 3 24 [(.int .i64 0), (.int .i64 0), (.int .i64 0)] t13_7 t15 h_49 fun t16_8 h_50 =>
  (pLoad h_50 t3 fun t4_24 =>
  t4_24 = t4) ∧
  (pBuild [(.int .i64 0), (.slice none 0 0), (.slice none 0 0), (.slice none 0 0)] [(0, 1, t4), (1, 1, t8_5), (2, 1, t12_8), (3, 1, t16_8)] fun t17_8 =>
  pStore 4 t2 t17_8 h_50 fun u_8 h_51 =>
  J () h_51))) ∧
  (pBuildSlice T_api_Arc (zerosL [(.int .i64 0), (.int .i64 0), (.int .i64 0)] 0) [] 0 h_47 fun t13_8 h_52 =>
  pAppend T_int64 1 8 [(.int .i64 0)] t9_5 t11 h_52 fun t12_9 h_53 =>
  (pLoad h_53 t3 fun t4_25 =>
  t4_25 = t4) ∧
  (pLoad h_53 t14 fun t15_16 =>
  t15_16 = t15) ∧
  (pAppend T_api_Arc 3 24 [(.int .i64 0), (.int .i64 0), (.int .i64 0)] t13_8 t15 h_53 fun t16_9 h_54 =>
  (pLoad h_54 t3 fun t4_26 =>
  t4_26 = t4) ∧
  (pBuild [(.int .i64 0), (.slice none 0 0), (.slice none 0 0), (.slice none 0 0)] [(0, 1, t4), (1, 1, t8_5), (2, 1, t12_9), (3, 1, t16_9)] fun t17_9 =>
  pStore 4 t2 t17_9 h_54 fun u_9 h_55 =>
  J () h_55))))) ∧
  (pBuildSlice T_api_Arc (zerosL [(.int .i64 0), (.int .i64 0), (.int .i64 0)] 0) [] 0 h_46 fun t13_9 h_56 =>
  pAppend T_int64 1 8 [(.int .i64 0)] t5_1 t7 h_56 fun t8_6 h_57 =>
  (pLoad h_57 t3 fun t4_27 =>
  t4_27 = t4) ∧
  (pLoad h_57 t10 fun t11_7 =>
  t11_7 = t11) ∧
  (pLoad h_57 t14 fun t15_17 =>
  t15_17 = t15) ∧
  (pAppend T_int64 1 8 [(.int .i64 0)] t9_5 t11 h_57 fun t12_10 h_58 =>
  (pLoad h_58 t3 fun t4_28 =>
  t4_28 = t4) ∧
  (pLoad h_58 t14 fun t15_18 =>
  t15_18 = t15) ∧
  (pAppend T_api_Arc 3 24 [(.int .i64 0), (.int .i64 0), (.int .i64 0)] t13_9 t15 h_58 fun t16_10 h_59 =>
  (pLoad h_59 t3 fun t4_29 =>
  t4_29 = t4) ∧
  (pBuild [(.int .i64 0), (.slice none 0 0), (.slice none 0 0), (.slice none 0 0)] [(0, 1, t4), (1, 1, t8_6), (2, 1, t12_10), (3, 1, t16_10)] fun t17_10 =>
  pStore 4 t2 t17_10 h_59 fun u_10 h_60 =>
  J () h_60))))) ∧
  (pBuildSlice T_api_Arc (zerosL [(.int .i64 0), (.int .i64 0), (.int .i64 0)] 0) [] 0 h_45 fun t13_10 h_61 =>
  pBuildSlice T_int64 (zerosL [(.int .i64 0)] 0) [] 0 h_61 fun t5_2 h_62 =>
  pAppend T_int64 1 8 [(.int .i64 0)] t5_2 t7 h_62 fun t8_7 h_63 =>
  (pLoad h_63 t3 fun t4_30 =>
  t4_30 = t4) ∧
  (pLoad h_63 t10 fun t11_8 =>
  t11_8 = t11) ∧
  (pLoad h_63 t14 fun t15_19 =>
  t15_19 = t15) ∧
  (pAppend T_int64 1 8 [(.int .i64 0)] t9_5 t11 h_63 fun t12_11 h_64 =>
  (pLoad h_64 t3 fun t4_31 =>
  t4_31 = t4) ∧
  (pLoad h_64 t14 fun t15_20 =>
  t15_20 = t15) ∧
  (pAppend T_api_Arc 3 24 [(.int .i64 0), (.int .i64 0), (.int .i64 0)] t13_10 t15 h_64 fun t16_11 h_65 =>
  (pLoad h_65 t3 fun t4_32 =>
  t4_32 = t4) ∧
  (pBuild [(.int .i64 0), (.slice none 0 0), (.slice none 0 0), (.slice none 0 0)] [(0, 1, t4), (1, 1, t8_7), (2, 1, t12_11), (3, 1, t16_11)] fun t17_11 =>
  pStore 4 t2 t17_11 h_65 fun u_11 h_66 =>
  J () h_66))))) ∧
  (pBuildSlice T_api_Arc (zerosL [(.int .i64 0), (.int .i64 0), (.int .i64 0)] 0) [] 0 h_2 fun t13_11 h_67 =>
  (pBuildSlice T_int64 (zerosL [(.int .i64 0)] 0) [] 0 h_67 fun t5_3 h_68 =>
  (pAppend T_int64 1 8 [(.int .i64 0)] t5_3 t7 h_68 fun t8_8 h_69 =>
  (pLoad h_69 t3 fun t4_33 =>
  t4_33 = t4) ∧
  (pLoad h_69 t10 fun t11_9 =>
  t11_9 = t11) ∧
  (pLoad h_69 t14 fun t15_21 =>
  t15_21 = t15) ∧
  (pBuildSlice T_int64 (zerosL [(.int .i64 0)] 0) [] 0 h_69 fun t9_6 h_70 =>
  pAppend T_int64 1 8 [(.int .i64 0)] t9_6 t11 h_70 fun t12_12 h_71 =>
  (pLoad h_71 t3 fun t4_34 =>
  t4_34 = t4) ∧
  (pLoad h_71 t14 fun t15_22 =>
  t15_22 = t15) ∧
  (pAppend T_api_Arc 3 24 [(.int .i64 0), (.int .i64 0), (.int .i64 0)] t13_11 t15 h_71 fun t16_12 h_72 =>
  (pLoad h_72 t3 fun t4_35 =>
  t4_35 = t4) ∧
  (pBuild [(.int .i64 0), (.slice none 0 0), (.slice none 0 0), (.slice none 0 0)] [(0, 1, t4), (1, 1, t8_8), (2, 1, t12_12), (3, 1, t16_12)] fun t17_12 =>
  pStore 4 t2 t17_12 h_72 fun u_12 h_73 =>
  J () h_73)))) ∧
  (pBuildSlice T_int64 (zerosL [(.int .i64 0)] 0) [] 0 h_68 fun t9_7 h_74 =>
  pAppend T_int64 1 8 [(.int .i64 0)] t5_3 t7 h_74 fun t8_9 h_75 =>
  (pLoad h_75 t3 fun t4_36 =>
  t4_36 = t4) ∧
  (pLoad h_75 t10 fun t11_10 =>
  t11_10 = t11) ∧
  (pLoad h_75 t14 fun t15_23 =>
  t15_23 = t15) ∧
  (pAppend T_int64 1 8 [(.int .i64 0)] t9_7 t11 h_75 fun t12_13 h_76 =>
  (pLoad h_76 t3 fun t4_37 =>
  t4_37 = t4) ∧
  (pLoad h_76 t14 fun t15_24 =>
  t15_24 = t15) ∧
  (pAppend T_api_Arc 3 24 [(.int .i64 0), (.int .i64 0), (.int .i64 0)] t13_11 t15 h_76 fun t16_13 h_77 =>
  (pLoad h_77 t3 fun t4_38 =>
  t4_38 = t4) ∧
  (pBuild [(.int .i64 0), (.slice none 0 0), (.slice none 0 0), (.slice none 0 0)] [(0, 1, t4), (1, 1, t8_9), (2, 1, t12_13), (3, 1, t16_13)] fun t17_13 =>
  pStore 4 t2 t17_13 h_77 fun u_13 h_78 =>
  J () h_78))))) ∧
  (pBuildSlice T_int64 (zerosL [(.int .i64 0)] 0) [] 0 h_67 fun t9_8 h_79 =>
  pBuildSlice T_int64 (zerosL [(.int .i64 0)] 0) [] 0 h_79 fun t5_4 h_80 =>
  pAppend T_int64 1 8 [(.int .i64 0)] t5_4 t7 h_80 fun t8_10 h_81 =>
  (pLoad h_81 t3 fun t4_39 =>
  t4_39 = t4) ∧
  (pLoad h_81 t10 fun t11_11 =>
  t11_11 = t11) ∧
  (pLoad h_81 t14 fun t15_25 =>
  t15_25 = t15) ∧
  (pAppend T_int64 1 8 [(.int .i64 0)] t9_8 t11 h_81 fun t12_14 h_82 =>
  (pLoad h_82 t3 fun t4_40 =>
  t4_40 = t4) ∧
  (pLoad h_82 t14 fun t15_26 =>
  t15_26 = t15) ∧
  (pAppend T_api_Arc 3 24 [(.int .i64 0), (.int .i64 0), (.int .i64 0)] t13_11 t15 h_82 fun t16_14 h_83 =>
  (pLoad h_83 t3 fun t4_41 =>
  t4_41 = t4) ∧
  (pBuild [(.int .i64 0), (.slice none 0 0), (.slice none 0 0), (.slice none 0 0)] [(0, 1, t4), (1, 1, t8_10), (2, 1, t12_14), (3, 1, t16_14)] fun t17_14 =>
  pStore 4 t2 t17_14 h_83 fun u_14 h_84 =>
  J () h_84))))))
  (fun x hh => sh_milestoneref07_Copy_C1 P t2 K hh)

set_option maxRecDepth 100000 in
theorem lk_milestoneref07_Copy (g0 : Value) {h : Heap} {K : Value → Heap → Prop} (H : sh_milestoneref07_Copy Tryz.prog g0 h K) : CallsH Tryz.prog F_milestoneref07_Copy [g0].toArray h K :=
  callsH_of (ann := (annG (Tryz.f99.body.getD .skip) 0 [(1, [])]).1) (c := Tryz.f99.body.getD .skip) Tryz.func99 (by kernel_rfl) (by kernel_rfl) (by kernel_rfl) (of_decide_eq_true (by kernel_rfl))
    (Eq.mpr (by kernel_rfl) H)

/-! math/bits.Mul -/

def sh_math_bits_Mul (P : Program) (x0 y1 : Value) (h : Heap) (K : Value → Heap → Prop) : Prop :=
  callS P F_math_bits_Mul64 [x0, y1] h fun t25 h_1 =>
  pExt t25 0 fun t26 =>
  pExt t25 1 fun t27 =>
  K (.tuple #[t26, t27]) h_1

set_option maxRecDepth 100000 in
theorem lk_math_bits_Mul (x0 y1 : Value) {h : Heap} {K : Value → Heap → Prop} (H : sh_math_bits_Mul Tryz.prog x0 y1 h K) : CallsH Tryz.prog F_math_bits_Mul [x0, y1].toArray h K :=
  callsH_of (ann := (annG (Tryz.f100.body.getD .skip) 0 []).1) (c := Tryz.f100.body.getD .skip) Tryz.func100 (by kernel_rfl) (by kernel_rfl) (by kernel_rfl) (of_decide_eq_true (by kernel_rfl))
    (Eq.mpr (by kernel_rfl) H)

/-! (*milestone/heap.row).up -/

def sh_heap_row_up_L1 (P : Program) (r0 : Value) (K : Value → Heap → Prop) (i1_1 : Value) (h_1 : Heap) (Z : Value → Heap → Prop) : Prop :=
  pBin .gtr i1_1 (.int .i64 0) fun t5 =>
  ifV t5
  (pBin .sub i1_1 (.int .i64 1) fun t10 =>
  pBin .quo t10 (.int .i64 4) fun t11 =>
  callS P F_heap_row_ahead [r0, i1_1, t11] h_1 fun t12 h_2 =>
  ifV t12
  (pBin .sub i1_1 (.int .i64 1) fun t17 =>
  pBin .quo t17 (.int .i64 4) fun t18 =>
  callS P F_heap_row_swap [r0, i1_1, t18] h_2 fun t19 h_3 =>
  pBin .sub i1_1 (.int .i64 1) fun t21 =>
  pBin .quo t21 (.int .i64 4) fun t22 =>
  Z t22 h_3)
  (K (.tuple #[]) h_2))
  (K (.tuple #[]) h_1)

def sh_heap_row_up (P : Program) (r0 i1 : Value) (h : Heap) (K : Value → Heap → Prop) : Prop :=
  LoopH (σ := Vals [1]) (fun x hh ZZ => sh_heap_row_up_L1 P r0 K x.1 hh (fun a0 hz => ZZ (a0, ()) hz)) (i1, ()) h

set_option maxRecDepth 100000 in
theorem lk_heap_row_up (r0 i1 : Value) {h : Heap} {K : Value → Heap → Prop} (H : sh_heap_row_up Tryz.prog r0 i1 h K) : CallsH Tryz.prog F_heap_row_up [r0, i1].toArray h K :=
  callsH_of (ann := (annG (Tryz.f101.body.getD .skip) 0 [(0, [1])]).1) (c := Tryz.f101.body.getD .skip) Tryz.func101 (by kernel_rfl) (by kernel_rfl) (by kernel_rfl) (of_decide_eq_true (by kernel_rfl))
    (Eq.mpr (by kernel_rfl) H)

/-! (*milestone/heap.Heap).Len -/

def sh_heap_Heap_Len (P : Program) (h0 : Value) (h : Heap) (K : Value → Heap → Prop) : Prop :=
  pEq false .ptr h0 (.pointer none) fun t4 =>
  ifV t4
  (K (.int .i64 0) h)
  (pNil h0 fun t6 =>
  pField 0 t6 fun t7 =>
  pField 0 t7 fun t8 =>
  pLoad h t8 fun t9 =>
  pLen t9 fun t10 =>
  K t10 h)

set_option maxRecDepth 100000 in
theorem lk_heap_Heap_Len (h0 : Value) {h : Heap} {K : Value → Heap → Prop} (H : sh_heap_Heap_Len Tryz.prog h0 h K) : CallsH Tryz.prog F_heap_Heap_Len [h0].toArray h K :=
  callsH_of (ann := (annG (Tryz.f102.body.getD .skip) 0 []).1) (c := Tryz.f102.body.getD .skip) Tryz.func102 (by kernel_rfl) (by kernel_rfl) (by kernel_rfl) (of_decide_eq_true (by kernel_rfl))
    (Eq.mpr (by kernel_rfl) H)

/-! (*milestone/heap.row).swap -/

def sh_heap_row_swap (P : Program) (r0 i1 k2 : Value) (h : Heap) (K : Value → Heap → Prop) : Prop :=
  pNil r0 fun t7 =>
  pField 0 t7 fun t8 =>
  pLoad h t8 fun t9 =>
  pNil r0 fun t12 =>
  pField 0 t12 fun t13 =>
  pLoad h t13 fun t14 =>
  pNil r0 fun t17 =>
  pField 0 t17 fun t18 =>
  pLoad h t18 fun t19 =>
  pIdx 2 t19 k2 fun t21 =>
  pLoadN 2 h t21 fun t22 =>
  pNil r0 fun t24 =>
  pField 0 t24 fun t25 =>
  pLoad h t25 fun t26 =>
  pIdx 2 t26 i1 fun t28 =>
  pLoadN 2 h t28 fun t29 =>
  pIdx 2 t9 i1 fun t30 =>
  pStore 2 t30 t22 h fun u h_1 =>
  pIdx 2 t14 k2 fun t31 =>
  pStore 2 t31 t29 h_1 fun u_1 h_2 =>
  pNil r0 fun t33 =>
  pField 1 t33 fun t34 =>
  pLoad h_2 t34 fun t35 =>
  pNil r0 fun t37 =>
  pField 0 t37 fun t38 =>
  pLoad h_2 t38 fun t39 =>
  pIdx 2 t39 i1 fun t41 =>
  pField 0 t41 fun t42 =>
  pLoad h_2 t42 fun t43 =>
  pNil r0 fun t45 =>
  pField 1 t45 fun t46 =>
  pLoad h_2 t46 fun t47 =>
  pNil r0 fun t49 =>
  pField 0 t49 fun t50 =>
  pLoad h_2 t50 fun t51 =>
  pIdx 2 t51 k2 fun t53 =>
  pField 0 t53 fun t54 =>
  pLoad h_2 t54 fun t55 =>
  pMapEntry (.int .i64) (.int .i64 0) t35 t43 h_2 fun t58 h_3 =>
  pExt t58 1 fun t59 =>
  pEntryStore t35 t59 i1 h_3 fun u_2 h_4 =>
  pMapEntry (.int .i64) (.int .i64 0) t47 t55 h_4 fun t60 h_5 =>
  pExt t60 1 fun t61 =>
  pEntryStore t47 t61 k2 h_5 fun u_3 h_6 =>
  K (.tuple #[]) h_6

set_option maxRecDepth 100000 in
theorem lk_heap_row_swap (r0 i1 k2 : Value) {h : Heap} {K : Value → Heap → Prop} (H : sh_heap_row_swap Tryz.prog r0 i1 k2 h K) : CallsH Tryz.prog F_heap_row_swap [r0, i1, k2].toArray h K :=
  callsH_of (ann := (annG (Tryz.f103.body.getD .skip) 0 []).1) (c := Tryz.f103.body.getD .skip) Tryz.func103 (by kernel_rfl) (by kernel_rfl) (by kernel_rfl) (of_decide_eq_true (by kernel_rfl))
    (Eq.mpr (by kernel_rfl) H)

/-! (*milestone/heap.row).down -/

def sh_heap_row_down_B2 (P : Program) (h_6 : Heap) (first4 best5 : Value) (L : Loop) (t13 : Value) (h_7 : Heap) (R : Exit → Heap → Prop) : Prop :=
  beginR (h_6.size + 1) L h_7 fun h_8 =>
  pLoad h_8 first4 fun t14 =>
  pLoad h_8 best5 fun t16 =>
  callV P t14 [t13, t16].toArray h_8 fun t17 h_9 =>
  ifV t17
  (pStore 1 best5 t13 h_9 fun u_2 h_10 =>
  R .normal h_10)
  (R .normal h_9)

def sh_heap_row_down_L1 (P : Program) (r0 first4 : Value) (K : Value → Heap → Prop) (m : List Nat) (i1_1 : Value) (h_3 : Heap) (Z : List Nat → Value → Heap → Prop) : Prop :=
  pBox T_int (.int .i64 0) h_3 fun best5 h_4 =>
  pStore 1 best5 i1_1 h_4 fun u_1 h_5 =>
  callS P F_heap_row_below [r0, i1_1] h_5 fun t12 h_6 =>
  rangeH P t12 [13] (h_6.size + 1) (h_6.push (.deferred (some []))) (fun L x hh R => sh_heap_row_down_B2 P h_6 first4 best5 L x.1 hh R)
  (fun h_11 => pLoad h_11 best5 fun t19 =>
  pBin .eql t19 i1_1 fun t21 =>
  ifV t21
  (takeM (h_6.size :: m) h_11 fun h_12 =>
  K (.tuple #[]) h_12)
  (pLoad h_11 best5 fun t24 =>
  callS P F_heap_row_swap [r0, i1_1, t24] h_11 fun t25 h_13 =>
  pLoad h_13 best5 fun t26 =>
  Z (h_6.size :: m) t26 h_13))
  (fun h_14 => takeM (h_6.size :: m) h_14 fun h_15 =>
  K (.tuple #[]) h_15)
  []

def sh_heap_row_down (P : Program) (r0 i1 : Value) (h : Heap) (K : Value → Heap → Prop) : Prop :=
  pBox T_func_int_int_bool .nilFunc h fun first4 h_1 =>
  pStore 1 first4 (.func (.func F_heap_row_ahead) #[r0] #[]) h_1 fun u h_2 =>
  LoopH (σ := List Nat × Vals [1]) (fun x hh ZZ => sh_heap_row_down_L1 P r0 first4 K x.1 x.2.1 hh (fun mz a0 hz => ZZ (mz, (a0, ())) hz)) ([], (i1, ())) h_2

set_option maxRecDepth 100000 in
theorem lk_heap_row_down (r0 i1 : Value) {h : Heap} {K : Value → Heap → Prop} (H : sh_heap_row_down Tryz.prog r0 i1 h K) : CallsH Tryz.prog F_heap_row_down [r0, i1].toArray h K :=
  callsH_of (ann := (annG (Tryz.f104.body.getD .skip) 0 [(1, [1])]).1) (c := Tryz.f104.body.getD .skip) Tryz.func104 (by kernel_rfl) (by kernel_rfl) (by kernel_rfl) (of_decide_eq_true (by kernel_rfl))
    (Eq.mpr (by kernel_rfl) H)

/-! milestone/flood.arcs$1 -/

def sh_flood_arcs_1_L1 (P : Program) (t10 t9 t2 t3 yield0 : Value) (K : Value → Heap → Prop) (t11 : Value) (h_1 : Heap) (Z : Value → Heap → Prop) : Prop :=
  pBin .lss t11 t10 fun t12 =>
  ifV t12
  (pIdx 1 t9 t11 fun t13 =>
  pLoad h_1 t13 fun t14 =>
  pLoad h_1 t2 fun t16 =>
  callS P F_net_Net_Arc [t16, t14] h_1 fun t18 h_2 =>
  pExt t18 0 fun t19 =>
  pExt t18 1 fun t20 =>
  pBox T_api_Arc (.agg #[(.int .i64 0), (.int .i64 0), (.int .i64 0)]) h_2 fun a7 h_3 =>
  pStore 3 a7 t19 h_3 fun u h_4 =>
  pLoad h_4 t3 fun t23 =>
  pLoadN 3 h_4 a7 fun t24 =>
  pField 2 a7 fun t26 =>
  pLoad h_4 t26 fun t27 =>
  callV P t23 [t24].toArray h_4 fun t25 h_5 =>
  (pLoad h_5 t26 fun t27_1 =>
  t27_1 = t27) ∧
  (pBuild [(.int .i64 0), (.int .i64 0), (.int .i64 0)] [(1, 1, t25), (2, 1, t27)] fun t28 =>
  callV P yield0 [t14, t28].toArray h_5 fun t29 h_6 =>
  pUn .not t29 fun t30 =>
  ifV t30
  (K (.tuple #[]) h_6)
  (pBin .add t11 (.int .i64 1) fun t31 =>
  Z t31 h_6)))
  (K (.tuple #[]) h_1)

def sh_flood_arcs_1 (P : Program) (yield0 t1 t2 t3 : Value) (h : Heap) (K : Value → Heap → Prop) : Prop :=
  pLoad h t1 fun t9 =>
  pLen t9 fun t10 =>
  LoopH (σ := Vals [11]) (fun x hh ZZ => sh_flood_arcs_1_L1 P t10 t9 t2 t3 yield0 K x.1 hh (fun a0 hz => ZZ (a0, ()) hz)) ((.int .i64 0), ()) h

set_option maxRecDepth 100000 in
theorem lk_flood_arcs_1 (yield0 t1 t2 t3 : Value) {h : Heap} {K : Value → Heap → Prop} (H : sh_flood_arcs_1 Tryz.prog yield0 t1 t2 t3 h K) : CallsH Tryz.prog F_flood_arcs_1 [yield0, t1, t2, t3].toArray h K :=
  callsH_of (ann := (annG (Tryz.f105.body.getD .skip) 0 [(1, [11])]).1) (c := Tryz.f105.body.getD .skip) Tryz.func105 (by kernel_rfl) (by kernel_rfl) (by kernel_rfl) (of_decide_eq_true (by kernel_rfl))
    (Eq.mpr (by kernel_rfl) H)

/-! (*milestone/heap.Heap).Key -/

def sh_heap_Heap_Key (P : Program) (h0 id1 : Value) (h : Heap) (K : Value → Heap → Prop) : Prop :=
  callS P F_heap_Heap_Len [h0] h fun t9 h_1 =>
  pBin .eql t9 (.int .i64 0) fun t10 =>
  ifV t10
  (K (.tuple #[(.int .i64 0), (.bool false)]) h_1)
  (pNil h0 fun t13 =>
  pField 0 t13 fun t14 =>
  pField 1 t14 fun t15 =>
  pLoad h_1 t15 fun t16 =>
  pLook (.int .i64) (.int .i64 0) true h_1 t16 id1 fun t18 =>
  pExt t18 0 fun t19 =>
  pExt t18 1 fun t20 =>
  pUn .not t20 fun t22 =>
  ifV t22
  (K (.tuple #[(.int .i64 0), (.bool false)]) h_1)
  (pNil h0 fun t24 =>
  pField 0 t24 fun t25 =>
  pField 0 t25 fun t26 =>
  pLoad h_1 t26 fun t27 =>
  pIdx 2 t27 t19 fun t29 =>
  pField 1 t29 fun t30 =>
  pLoad h_1 t30 fun t31 =>
  K (.tuple #[t31, (.bool true)]) h_1))

set_option maxRecDepth 100000 in
theorem lk_heap_Heap_Key (h0 id1 : Value) {h : Heap} {K : Value → Heap → Prop} (H : sh_heap_Heap_Key Tryz.prog h0 id1 h K) : CallsH Tryz.prog F_heap_Heap_Key [h0, id1].toArray h K :=
  callsH_of (ann := (annG (Tryz.f106.body.getD .skip) 0 []).1) (c := Tryz.f106.body.getD .skip) Tryz.func106 (by kernel_rfl) (by kernel_rfl) (by kernel_rfl) (of_decide_eq_true (by kernel_rfl))
    (Eq.mpr (by kernel_rfl) H)

/-! (*milestone/heap.Heap).Lower -/

def sh_heap_Heap_Lower_k1 (P : Program) (K : Value → Heap → Prop) (h_1 : Heap) : Prop :=
  K (.int .i64 2) h_1

def sh_heap_Heap_Lower (P : Program) (h0 id1 key2 : Value) (h : Heap) (K : Value → Heap → Prop) : Prop :=
  pEq false .ptr h0 (.pointer none) fun t10 =>
  ifV t10
  (K (.int .i64 1) h)
  (pNil h0 fun t13 =>
  pField 0 t13 fun t14 =>
  pField 1 t14 fun t15 =>
  pLoad h t15 fun t16 =>
  pLook (.int .i64) (.int .i64 0) true h t16 id1 fun t18 =>
  pExt t18 0 fun t19 =>
  pExt t18 1 fun t20 =>
  pBin .lss id1 (.int .i64 0) fun t23 =>
  ifV t23
  (sh_heap_Heap_Lower_k1 P K h)
  (pNil h0 fun t27 =>
  pField 2 t27 fun t28 =>
  pLoad h t28 fun t29 =>
  pBin .geq id1 t29 fun t30 =>
  ifV t30
  (sh_heap_Heap_Lower_k1 P K h)
  (pUn .not t20 fun t34 =>
  ifV t34
  (K (.int .i64 20) h)
  (pNil h0 fun t37 =>
  pField 0 t37 fun t38 =>
  pField 0 t38 fun t39 =>
  pLoad h t39 fun t40 =>
  pIdx 2 t40 t19 fun t42 =>
  pField 1 t42 fun t43 =>
  pLoad h t43 fun t44 =>
  pBin .lss t44 key2 fun t46 =>
  ifV t46
  (K (.int .i64 2) h)
  (pNil h0 fun t48 =>
  pField 0 t48 fun t49 =>
  pField 0 t49 fun t50 =>
  pLoad h t50 fun t51 =>
  pIdx 2 t51 t19 fun t54 =>
  pField 1 t54 fun t55 =>
  pStore 1 t55 key2 h fun u h_2 =>
  pNil h0 fun t57 =>
  pField 0 t57 fun t58 =>
  callS P F_heap_row_up [t58, t19] h_2 fun t60 h_3 =>
  K (.int .i64 0) h_3)))))

set_option maxRecDepth 100000 in
theorem lk_heap_Heap_Lower (h0 id1 key2 : Value) {h : Heap} {K : Value → Heap → Prop} (H : sh_heap_Heap_Lower Tryz.prog h0 id1 key2 h K) : CallsH Tryz.prog F_heap_Heap_Lower [h0, id1, key2].toArray h K :=
  callsH_of (ann := (annG (Tryz.f107.body.getD .skip) 0 []).1) (c := Tryz.f107.body.getD .skip) Tryz.func107 (by kernel_rfl) (by kernel_rfl) (by kernel_rfl) (of_decide_eq_true (by kernel_rfl))
    (Eq.mpr (by kernel_rfl) H)

/-! milestone/graph.look$1 -/

def sh_graph_look_1 (P : Program) (t0 : Value) (h : Heap) (K : Value → Heap → Prop) : Prop :=
  pField 0 t0 fun t2 =>
  pLoad h t2 fun t3 =>
  callS P F_graph_one [(.int .i64 5), t3, (.int .i64 1), (.int .i64 16777217)] h fun t4 h_1 =>
  K t4 h_1

set_option maxRecDepth 100000 in
theorem lk_graph_look_1 (t0 : Value) {h : Heap} {K : Value → Heap → Prop} (H : sh_graph_look_1 Tryz.prog t0 h K) : CallsH Tryz.prog F_graph_look_1 [t0].toArray h K :=
  callsH_of (ann := (annG (Tryz.f108.body.getD .skip) 0 []).1) (c := Tryz.f108.body.getD .skip) Tryz.func108 (by kernel_rfl) (by kernel_rfl) (by kernel_rfl) (of_decide_eq_true (by kernel_rfl))
    (Eq.mpr (by kernel_rfl) H)

/-! milestone/graph.one -/

def sh_graph_one (P : Program) (code0 n1 least2 end3 : Value) (h : Heap) (K : Value → Heap → Prop) : Prop :=
  pBuild [(.int .i64 0), (.int .i64 0), (.int .i64 0), (.int .i64 0), (.int .i64 0), (.int .i64 0)] [(0, 1, (.int .i64 0)), (1, 1, (.int .i64 0)), (2, 1, code0), (3, 1, n1), (4, 1, least2), (5, 1, end3)] fun t13 =>
  pBuildSlice T_graph_place (zerosL [(.int .i64 0), (.int .i64 0), (.int .i64 0), (.int .i64 0), (.int .i64 0), (.int .i64 0)] 1) [(0, 6, t13)] 1 h fun t14 h_1 =>
  callS P F_slices_Values_sl_graph_place_graph_place [t14] h_1 fun t15 h_2 =>
  K t15 h_2

set_option maxRecDepth 100000 in
theorem lk_graph_one (code0 n1 least2 end3 : Value) {h : Heap} {K : Value → Heap → Prop} (H : sh_graph_one Tryz.prog code0 n1 least2 end3 h K) : CallsH Tryz.prog F_graph_one [code0, n1, least2, end3].toArray h K :=
  callsH_of (ann := (annG (Tryz.f109.body.getD .skip) 0 []).1) (c := Tryz.f109.body.getD .skip) Tryz.func109 (by kernel_rfl) (by kernel_rfl) (by kernel_rfl) (of_decide_eq_true (by kernel_rfl))
    (Eq.mpr (by kernel_rfl) H)

/-! milestone/graph.look$2 -/

def sh_graph_look_2 (P : Program) (t0 : Value) (h : Heap) (K : Value → Heap → Prop) : Prop :=
  pLoadN 4 h t0 fun t2 =>
  callS P F_graph_shapes [t2] h fun t3 h_1 =>
  K t3 h_1

set_option maxRecDepth 100000 in
theorem lk_graph_look_2 (t0 : Value) {h : Heap} {K : Value → Heap → Prop} (H : sh_graph_look_2 Tryz.prog t0 h K) : CallsH Tryz.prog F_graph_look_2 [t0].toArray h K :=
  callsH_of (ann := (annG (Tryz.f110.body.getD .skip) 0 []).1) (c := Tryz.f110.body.getD .skip) Tryz.func110 (by kernel_rfl) (by kernel_rfl) (by kernel_rfl) (of_decide_eq_true (by kernel_rfl))
    (Eq.mpr (by kernel_rfl) H)

/-! milestone/graph.shapes -/

def sh_graph_shapes (P : Program) (r0 : Value) (h : Heap) (K : Value → Heap → Prop) : Prop :=
  pBox T_api_Raw r0 h fun r1 h_1 =>
  pField 0 r1 fun t4 =>
  pLoad h_1 t4 fun t5 =>
  pField 1 r1 fun t6 =>
  pLoad h_1 t6 fun t7 =>
  pLen t7 fun t8 =>
  pBin .add t5 (.int .i64 1) fun t11 =>
  pBuild [(.int .i64 0), (.int .i64 0), (.int .i64 0), (.int .i64 0), (.int .i64 0), (.int .i64 0)] [(0, 1, (.int .i64 0)), (1, 1, (.int .i64 0)), (2, 1, (.int .i64 6)), (3, 1, t8), (4, 1, t5), (5, 1, t11)] fun t12 =>
  pField 2 r1 fun t13 =>
  pLoad h_1 t13 fun t14 =>
  pLen t14 fun t15 =>
  pBin .add t5 (.int .i64 1) fun t18 =>
  pBuild [(.int .i64 0), (.int .i64 0), (.int .i64 0), (.int .i64 0), (.int .i64 0), (.int .i64 0)] [(0, 1, (.int .i64 0)), (1, 1, (.int .i64 1)), (2, 1, (.int .i64 6)), (3, 1, t15), (4, 1, t5), (5, 1, t18)] fun t19 =>
  pBuildSlice T_graph_place (zerosL [(.int .i64 0), (.int .i64 0), (.int .i64 0), (.int .i64 0), (.int .i64 0), (.int .i64 0)] 2) [(0, 6, t12), (6, 6, t19)] 2 h_1 fun t20 h_2 =>
  callS P F_slices_Values_sl_graph_place_graph_place [t20] h_2 fun t21 h_3 =>
  K t21 h_3

set_option maxRecDepth 100000 in
theorem lk_graph_shapes (r0 : Value) {h : Heap} {K : Value → Heap → Prop} (H : sh_graph_shapes Tryz.prog r0 h K) : CallsH Tryz.prog F_graph_shapes [r0].toArray h K :=
  callsH_of (ann := (annG (Tryz.f111.body.getD .skip) 0 []).1) (c := Tryz.f111.body.getD .skip) Tryz.func111 (by kernel_rfl) (by kernel_rfl) (by kernel_rfl) (of_decide_eq_true (by kernel_rfl))
    (Eq.mpr (by kernel_rfl) H)

end Go.Proofs.YtoopkllfpmjnfaaGreatDoor

namespace Go.Proofs.YtoopkllfpmjnfaaGreatDoor
open Go Go.Mh
set_option maxHeartbeats 0
set_option linter.unusedVariables false

/-! milestone/graph.look$3 -/

def sh_graph_look_3 (P : Program) (t0 : Value) (h : Heap) (K : Value → Heap → Prop) : Prop :=
  pLoadN 4 h t0 fun t2 =>
  callS P F_graph_nodes [t2] h fun t3 h_1 =>
  K t3 h_1

set_option maxRecDepth 100000 in
theorem lk_graph_look_3 (t0 : Value) {h : Heap} {K : Value → Heap → Prop} (H : sh_graph_look_3 Tryz.prog t0 h K) : CallsH Tryz.prog F_graph_look_3 [t0].toArray h K :=
  callsH_of (ann := (annG (Tryz.f112.body.getD .skip) 0 []).1) (c := Tryz.f112.body.getD .skip) Tryz.func112 (by kernel_rfl) (by kernel_rfl) (by kernel_rfl) (of_decide_eq_true (by kernel_rfl))
    (Eq.mpr (by kernel_rfl) H)

/-! milestone/graph.nodes -/

def sh_graph_nodes (P : Program) (r0 : Value) (h : Heap) (K : Value → Heap → Prop) : Prop :=
  pBox T_api_Raw r0 h fun r1 h_1 =>
  K (.func (.func F_graph_nodes_1) #[] #[r1]) h_1

set_option maxRecDepth 100000 in
theorem lk_graph_nodes (r0 : Value) {h : Heap} {K : Value → Heap → Prop} (H : sh_graph_nodes Tryz.prog r0 h K) : CallsH Tryz.prog F_graph_nodes [r0].toArray h K :=
  callsH_of (ann := (annG (Tryz.f113.body.getD .skip) 0 []).1) (c := Tryz.f113.body.getD .skip) Tryz.func113 (by kernel_rfl) (by kernel_rfl) (by kernel_rfl) (of_decide_eq_true (by kernel_rfl))
    (Eq.mpr (by kernel_rfl) H)

/-! milestone/graph.look$4 -/

def sh_graph_look_4 (P : Program) (t0 : Value) (h : Heap) (K : Value → Heap → Prop) : Prop :=
  pField 3 t0 fun t2 =>
  pLoad h t2 fun t3 =>
  pLen t3 fun t4 =>
  callS P F_graph_one [(.int .i64 8), t4, (.int .i64 0), (.int .i64 67108865)] h fun t5 h_1 =>
  K t5 h_1

set_option maxRecDepth 100000 in
theorem lk_graph_look_4 (t0 : Value) {h : Heap} {K : Value → Heap → Prop} (H : sh_graph_look_4 Tryz.prog t0 h K) : CallsH Tryz.prog F_graph_look_4 [t0].toArray h K :=
  callsH_of (ann := (annG (Tryz.f114.body.getD .skip) 0 []).1) (c := Tryz.f114.body.getD .skip) Tryz.func114 (by kernel_rfl) (by kernel_rfl) (by kernel_rfl) (of_decide_eq_true (by kernel_rfl))
    (Eq.mpr (by kernel_rfl) H)

/-! milestone/graph.look$5 -/

def sh_graph_look_5 (P : Program) (t0 : Value) (h : Heap) (K : Value → Heap → Prop) : Prop :=
  pLoadN 4 h t0 fun t2 =>
  callS P F_graph_arcs [t2] h fun t3 h_1 =>
  K t3 h_1

set_option maxRecDepth 100000 in
theorem lk_graph_look_5 (t0 : Value) {h : Heap} {K : Value → Heap → Prop} (H : sh_graph_look_5 Tryz.prog t0 h K) : CallsH Tryz.prog F_graph_look_5 [t0].toArray h K :=
  callsH_of (ann := (annG (Tryz.f115.body.getD .skip) 0 []).1) (c := Tryz.f115.body.getD .skip) Tryz.func115 (by kernel_rfl) (by kernel_rfl) (by kernel_rfl) (of_decide_eq_true (by kernel_rfl))
    (Eq.mpr (by kernel_rfl) H)

/-! milestone/graph.arcs -/

def sh_graph_arcs (P : Program) (r0 : Value) (h : Heap) (K : Value → Heap → Prop) : Prop :=
  pBox T_api_Raw r0 h fun r1 h_1 =>
  K (.func (.func F_graph_arcs_1) #[] #[r1]) h_1

set_option maxRecDepth 100000 in
theorem lk_graph_arcs (r0 : Value) {h : Heap} {K : Value → Heap → Prop} (H : sh_graph_arcs Tryz.prog r0 h K) : CallsH Tryz.prog F_graph_arcs [r0].toArray h K :=
  callsH_of (ann := (annG (Tryz.f116.body.getD .skip) 0 []).1) (c := Tryz.f116.body.getD .skip) Tryz.func116 (by kernel_rfl) (by kernel_rfl) (by kernel_rfl) (of_decide_eq_true (by kernel_rfl))
    (Eq.mpr (by kernel_rfl) H)

/-! slices.Backward[[]int,int]$1 -/

def sh_slices_Backward_sl_int_int_1_L1 (P : Program) (t1 yield0 : Value) (K : Value → Heap → Prop) (i3 : Value) (h_1 : Heap) (Z : Value → Heap → Prop) : Prop :=
  pBin .geq i3 (.int .i64 0) fun t8 =>
  ifV t8
  (pLoad h_1 t1 fun t13 =>
  pIdx 1 t13 i3 fun t15 =>
  pLoad h_1 t15 fun t16 =>
  callV P yield0 [i3, t16].toArray h_1 fun t17 h_2 =>
  pUn .not t17 fun t18 =>
  ifV t18
  (K (.tuple #[]) h_2)
  (pBin .sub i3 (.int .i64 1) fun t10 =>
  Z t10 h_2))
  (K (.tuple #[]) h_1)

def sh_slices_Backward_sl_int_int_1 (P : Program) (yield0 t1 : Value) (h : Heap) (K : Value → Heap → Prop) : Prop :=
  pLoad h t1 fun t4 =>
  pLen t4 fun t5 =>
  pBin .sub t5 (.int .i64 1) fun t6 =>
  LoopH (σ := Vals [3]) (fun x hh ZZ => sh_slices_Backward_sl_int_int_1_L1 P t1 yield0 K x.1 hh (fun a0 hz => ZZ (a0, ()) hz)) (t6, ()) h

set_option maxRecDepth 100000 in
theorem lk_slices_Backward_sl_int_int_1 (yield0 t1 : Value) {h : Heap} {K : Value → Heap → Prop} (H : sh_slices_Backward_sl_int_int_1 Tryz.prog yield0 t1 h K) : CallsH Tryz.prog F_slices_Backward_sl_int_int_1 [yield0, t1].toArray h K :=
  callsH_of (ann := (annG (Tryz.f121.body.getD .skip) 0 [(1, [3])]).1) (c := Tryz.f121.body.getD .skip) Tryz.func121 (by kernel_rfl) (by kernel_rfl) (by kernel_rfl) (of_decide_eq_true (by kernel_rfl))
    (Eq.mpr (by kernel_rfl) H)

/-! milestone/dist.between[int64]$1 -/

def sh_dist_between_int64_1 (P : Program) (x0 t1 t2 : Value) (h : Heap) (K : Value → Heap → Prop) : Prop :=
  pLoad h t1 fun t6 =>
  pMax x0 t6 fun t7 =>
  pLoad h t2 fun t8 =>
  pMin t7 t8 fun t9 =>
  K t9 h

set_option maxRecDepth 100000 in
theorem lk_dist_between_int64_1 (x0 t1 t2 : Value) {h : Heap} {K : Value → Heap → Prop} (H : sh_dist_between_int64_1 Tryz.prog x0 t1 t2 h K) : CallsH Tryz.prog F_dist_between_int64_1 [x0, t1, t2].toArray h K :=
  callsH_of (ann := (annG (Tryz.f122.body.getD .skip) 0 []).1) (c := Tryz.f122.body.getD .skip) Tryz.func122 (by kernel_rfl) (by kernel_rfl) (by kernel_rfl) (of_decide_eq_true (by kernel_rfl))
    (Eq.mpr (by kernel_rfl) H)

/-! math/bits.Mul32 -/

def sh_math_bits_Mul32 (P : Program) (x0 y1 : Value) (h : Heap) (K : Value → Heap → Prop) : Prop :=
  pConv .u64 x0 fun t8 =>
  pConv .u64 y1 fun t10 =>
  pBin .mul t8 t10 fun t11 =>
  pBin .shr t11 (.int .u64 32) fun t13 =>
  pConv .u32 t13 fun t14 =>
  pConv .u32 t11 fun t16 =>
  K (.tuple #[t14, t16]) h

set_option maxRecDepth 100000 in
theorem lk_math_bits_Mul32 (x0 y1 : Value) {h : Heap} {K : Value → Heap → Prop} (H : sh_math_bits_Mul32 Tryz.prog x0 y1 h K) : CallsH Tryz.prog F_math_bits_Mul32 [x0, y1].toArray h K :=
  callsH_of (ann := (annG (Tryz.f123.body.getD .skip) 0 []).1) (c := Tryz.f123.body.getD .skip) Tryz.func123 (by kernel_rfl) (by kernel_rfl) (by kernel_rfl) (of_decide_eq_true (by kernel_rfl))
    (Eq.mpr (by kernel_rfl) H)

/-! math/bits.Mul64 -/

def sh_math_bits_Mul64 (P : Program) (x0 y1 : Value) (h : Heap) (K : Value → Heap → Prop) : Prop :=
  pBin .and x0 (.int .u64 4294967295) fun t15 =>
  pBin .shr x0 (.int .u64 32) fun t17 =>
  pBin .and y1 (.int .u64 4294967295) fun t19 =>
  pBin .shr y1 (.int .u64 32) fun t21 =>
  pBin .mul t15 t19 fun t24 =>
  pBin .mul t17 t19 fun t27 =>
  pBin .shr t24 (.int .u64 32) fun t29 =>
  pBin .add t27 t29 fun t30 =>
  pBin .and t30 (.int .u64 4294967295) fun t32 =>
  pBin .shr t30 (.int .u64 32) fun t34 =>
  pBin .mul t15 t21 fun t38 =>
  pBin .add t32 t38 fun t39 =>
  pBin .mul t17 t21 fun t42 =>
  pBin .add t42 t34 fun t44 =>
  pBin .shr t39 (.int .u64 32) fun t46 =>
  pBin .add t44 t46 fun t47 =>
  pBin .mul x0 y1 fun t50 =>
  K (.tuple #[t47, t50]) h

set_option maxRecDepth 100000 in
theorem lk_math_bits_Mul64 (x0 y1 : Value) {h : Heap} {K : Value → Heap → Prop} (H : sh_math_bits_Mul64 Tryz.prog x0 y1 h K) : CallsH Tryz.prog F_math_bits_Mul64 [x0, y1].toArray h K :=
  callsH_of (ann := (annG (Tryz.f124.body.getD .skip) 0 []).1) (c := Tryz.f124.body.getD .skip) Tryz.func124 (by kernel_rfl) (by kernel_rfl) (by kernel_rfl) (of_decide_eq_true (by kernel_rfl))
    (Eq.mpr (by kernel_rfl) H)

/-! (*milestone/heap.row).ahead -/

def sh_heap_row_ahead (P : Program) (r0 i1 k2 : Value) (h : Heap) (K : Value → Heap → Prop) : Prop :=
  pNil r0 fun t8 =>
  pField 0 t8 fun t9 =>
  pLoad h t9 fun t10 =>
  pIdx 2 t10 i1 fun t12 =>
  pField 1 t12 fun t13 =>
  pLoad h t13 fun t14 =>
  pNil r0 fun t16 =>
  pField 0 t16 fun t17 =>
  pLoad h t17 fun t18 =>
  pIdx 2 t18 k2 fun t20 =>
  pField 1 t20 fun t21 =>
  pLoad h t21 fun t22 =>
  pNil r0 fun t25 =>
  pField 0 t25 fun t26 =>
  pLoad h t26 fun t27 =>
  pIdx 2 t27 i1 fun t29 =>
  pField 0 t29 fun t30 =>
  pLoad h t30 fun t31 =>
  pNil r0 fun t33 =>
  pField 0 t33 fun t34 =>
  pLoad h t34 fun t35 =>
  pIdx 2 t35 k2 fun t37 =>
  pField 0 t37 fun t38 =>
  pLoad h t38 fun t39 =>
  callS P F_cmp_Compare_int64 [t14, t22] h fun t23 h_1 =>
  (pLoad h_1 t26 fun t27_1 =>
  t27_1 = t27) ∧
  (pLoad h_1 t30 fun t31_1 =>
  t31_1 = t31) ∧
  (pLoad h_1 t34 fun t35_1 =>
  t35_1 = t35) ∧
  (pLoad h_1 t38 fun t39_1 =>
  t39_1 = t39) ∧
  (callS P F_cmp_Compare_int [t31, t39] h_1 fun t40 h_2 =>
  pBuildSlice T_int (zerosL [(.int .i64 0)] 2) [(0, 1, t23), (1, 1, t40)] 2 h_2 fun t41 h_3 =>
  callS P F_cmp_Or_int [t41] h_3 fun t42 h_4 =>
  pBin .lss t42 (.int .i64 0) fun t43 =>
  K t43 h_4)

set_option maxRecDepth 100000 in
theorem lk_heap_row_ahead (r0 i1 k2 : Value) {h : Heap} {K : Value → Heap → Prop} (H : sh_heap_row_ahead Tryz.prog r0 i1 k2 h K) : CallsH Tryz.prog F_heap_row_ahead [r0, i1, k2].toArray h K :=
  callsH_of (ann := (annG (Tryz.f125.body.getD .skip) 0 []).1) (c := Tryz.f125.body.getD .skip) Tryz.func125 (by kernel_rfl) (by kernel_rfl) (by kernel_rfl) (of_decide_eq_true (by kernel_rfl))
    (Eq.mpr (by kernel_rfl) H)

/-! (*milestone/heap.row).below -/

def sh_heap_row_below (P : Program) (r0 i1 : Value) (h : Heap) (K : Value → Heap → Prop) : Prop :=
  pBox T_p_heap_row r0 h fun r2 h_1 =>
  pBox T_int i1 h_1 fun i3 h_2 =>
  K (.func (.func F_heap_row_below_1) #[] #[i3, r2]) h_2

set_option maxRecDepth 100000 in
theorem lk_heap_row_below (r0 i1 : Value) {h : Heap} {K : Value → Heap → Prop} (H : sh_heap_row_below Tryz.prog r0 i1 h K) : CallsH Tryz.prog F_heap_row_below [r0, i1].toArray h K :=
  callsH_of (ann := (annG (Tryz.f126.body.getD .skip) 0 []).1) (c := Tryz.f126.body.getD .skip) Tryz.func126 (by kernel_rfl) (by kernel_rfl) (by kernel_rfl) (of_decide_eq_true (by kernel_rfl))
    (Eq.mpr (by kernel_rfl) H)

/-! slices.Values[[]milestone/graph.place,milestone/graph.place] -/

def sh_slices_Values_sl_graph_place_graph_place (P : Program) (s0 : Value) (h : Heap) (K : Value → Heap → Prop) : Prop :=
  pBox T_sl_graph_place s0 h fun s1 h_1 =>
  K (.func (.func F_slices_Values_sl_graph_place_graph_place_1) #[] #[s1]) h_1

set_option maxRecDepth 100000 in
theorem lk_slices_Values_sl_graph_place_graph_place (s0 : Value) {h : Heap} {K : Value → Heap → Prop} (H : sh_slices_Values_sl_graph_place_graph_place Tryz.prog s0 h K) : CallsH Tryz.prog F_slices_Values_sl_graph_place_graph_place [s0].toArray h K :=
  callsH_of (ann := (annG (Tryz.f127.body.getD .skip) 0 []).1) (c := Tryz.f127.body.getD .skip) Tryz.func127 (by kernel_rfl) (by kernel_rfl) (by kernel_rfl) (of_decide_eq_true (by kernel_rfl))
    (Eq.mpr (by kernel_rfl) H)

/-! milestone/graph.nodes$1 -/

def sh_graph_nodes_1_L2 (P : Program) (t23 t22 t9 yield0 : Value) (K Z : Value → Heap → Prop) (t24 : Value) (h_3 : Heap) (Z_1 : Value → Heap → Prop) : Prop :=
  pBin .lss t24 t23 fun t25 =>
  ifV t25
  (pIdx 1 t22 t24 fun t27 =>
  pLoad h_3 t27 fun t28 =>
  pBuild [(.int .i64 0), (.int .i64 0), (.int .i64 0), (.int .i64 0), (.int .i64 0), (.int .i64 0)] [(0, 1, t9), (1, 1, t24), (2, 1, (.int .i64 7)), (3, 1, t28), (4, 1, (.int .i64 (-2147483648))), (5, 1, (.int .i64 2147483648))] fun t33 =>
  callV P yield0 [t33].toArray h_3 fun t34 h_4 =>
  pUn .not t34 fun t35 =>
  ifV t35
  (K (.tuple #[]) h_4)
  (pBin .add t24 (.int .i64 1) fun t36 =>
  Z_1 t36 h_4))
  (pBin .add t9 (.int .i64 1) fun t37 =>
  Z t37 h_3)

def sh_graph_nodes_1_L1 (P : Program) (t8 t1 yield0 : Value) (K : Value → Heap → Prop) (t9 : Value) (h_1 : Heap) (Z : Value → Heap → Prop) : Prop :=
  pBin .lss t9 t8 fun t10 =>
  ifV t10
  (pField 1 t1 fun t12 =>
  pLoad h_1 t12 fun t13 =>
  pIdx 1 t13 t9 fun t15 =>
  pLoad h_1 t15 fun t16 =>
  pField 2 t1 fun t17 =>
  pLoad h_1 t17 fun t18 =>
  pIdx 1 t18 t9 fun t20 =>
  pLoad h_1 t20 fun t21 =>
  pBuildSlice T_int64 (zerosL [(.int .i64 0)] 2) [(0, 1, t16), (1, 1, t21)] 2 h_1 fun t22 h_2 =>
  pLen t22 fun t23 =>
  LoopH (σ := Vals [24]) (fun x hh ZZ => sh_graph_nodes_1_L2 P t23 t22 t9 yield0 K Z x.1 hh (fun a0 hz => ZZ (a0, ()) hz)) ((.int .i64 0), ()) h_2)
  (K (.tuple #[]) h_1)

def sh_graph_nodes_1 (P : Program) (yield0 t1 : Value) (h : Heap) (K : Value → Heap → Prop) : Prop :=
  pField 1 t1 fun t6 =>
  pLoad h t6 fun t7 =>
  pLen t7 fun t8 =>
  LoopH (σ := Vals [9]) (fun x hh ZZ => sh_graph_nodes_1_L1 P t8 t1 yield0 K x.1 hh (fun a0 hz => ZZ (a0, ()) hz)) ((.int .i64 0), ()) h

set_option maxRecDepth 100000 in
theorem lk_graph_nodes_1 (yield0 t1 : Value) {h : Heap} {K : Value → Heap → Prop} (H : sh_graph_nodes_1 Tryz.prog yield0 t1 h K) : CallsH Tryz.prog F_graph_nodes_1 [yield0, t1].toArray h K :=
  callsH_of (ann := (annG (Tryz.f128.body.getD .skip) 0 [(1, [9]), (7, [24])]).1) (c := Tryz.f128.body.getD .skip) Tryz.func128 (by kernel_rfl) (by kernel_rfl) (by kernel_rfl) (of_decide_eq_true (by kernel_rfl))
    (Eq.mpr (by kernel_rfl) H)

/-! milestone/graph.arcs$1 -/

def sh_graph_arcs_1_L2 (P : Program) (t33 t32 yield0 : Value) (K : Value → Heap → Prop) (t13 : Value) (Z : Value → Heap → Prop) (t34 : Value) (h_5 : Heap) (Z_1 : Value → Heap → Prop) : Prop :=
  pBin .lss t34 t33 fun t35 =>
  ifV t35
  (pIdx 6 t32 t34 fun t36 =>
  pLoadN 6 h_5 t36 fun t37 =>
  pBox T_graph_place (.agg #[(.int .i64 0), (.int .i64 0), (.int .i64 0), (.int .i64 0), (.int .i64 0), (.int .i64 0)]) h_5 fun p7 h_6 =>
  pStore 6 p7 t37 h_6 fun u_1 h_7 =>
  pLoadN 6 h_7 p7 fun t39 =>
  callV P yield0 [t39].toArray h_7 fun t40 h_8 =>
  pUn .not t40 fun t41 =>
  ifV t41
  (K (.tuple #[]) h_8)
  (pBin .add t34 (.int .i64 1) fun t42 =>
  Z_1 t42 h_8))
  (pBin .add t13 (.int .i64 1) fun t43 =>
  Z t43 h_5)

def sh_graph_arcs_1_L1 (P : Program) (t12 t11 t9 yield0 : Value) (K : Value → Heap → Prop) (t13 : Value) (h_1 : Heap) (Z : Value → Heap → Prop) : Prop :=
  pBin .lss t13 t12 fun t14 =>
  ifV t14
  (pIdx 3 t11 t13 fun t16 =>
  pLoadN 3 h_1 t16 fun t17 =>
  pBox T_api_Arc (.agg #[(.int .i64 0), (.int .i64 0), (.int .i64 0)]) h_1 fun a5 h_2 =>
  pStore 3 a5 t17 h_2 fun u h_3 =>
  pField 0 a5 fun t19 =>
  pLoad h_3 t19 fun t20 =>
  pBuild [(.int .i64 0), (.int .i64 0), (.int .i64 0), (.int .i64 0), (.int .i64 0), (.int .i64 0)] [(0, 1, t13), (1, 1, (.int .i64 0)), (2, 1, (.int .i64 9)), (3, 1, t20), (4, 1, (.int .i64 0)), (5, 1, t9)] fun t22 =>
  pField 1 a5 fun t24 =>
  pLoad h_3 t24 fun t25 =>
  pBuild [(.int .i64 0), (.int .i64 0), (.int .i64 0), (.int .i64 0), (.int .i64 0), (.int .i64 0)] [(0, 1, t13), (1, 1, (.int .i64 1)), (2, 1, (.int .i64 9)), (3, 1, t25), (4, 1, (.int .i64 0)), (5, 1, t9)] fun t27 =>
  pField 2 a5 fun t29 =>
  pLoad h_3 t29 fun t30 =>
  pBuild [(.int .i64 0), (.int .i64 0), (.int .i64 0), (.int .i64 0), (.int .i64 0), (.int .i64 0)] [(0, 1, t13), (1, 1, (.int .i64 2)), (2, 1, (.int .i64 10)), (3, 1, t30), (4, 1, (.int .i64 0)), (5, 1, (.int .i64 2147483648))] fun t31 =>
  pBuildSlice T_graph_place (zerosL [(.int .i64 0), (.int .i64 0), (.int .i64 0), (.int .i64 0), (.int .i64 0), (.int .i64 0)] 3) [(0, 6, t22), (6, 6, t27), (12, 6, t31)] 3 h_3 fun t32 h_4 =>
  pLen t32 fun t33 =>
  LoopH (σ := Vals [34]) (fun x hh ZZ => sh_graph_arcs_1_L2 P t33 t32 yield0 K t13 Z x.1 hh (fun a0 hz => ZZ (a0, ()) hz)) ((.int .i64 0), ()) h_4)
  (K (.tuple #[]) h_1)

def sh_graph_arcs_1 (P : Program) (yield0 t1 : Value) (h : Heap) (K : Value → Heap → Prop) : Prop :=
  pField 0 t1 fun t8 =>
  pLoad h t8 fun t9 =>
  pField 3 t1 fun t10 =>
  pLoad h t10 fun t11 =>
  pLen t11 fun t12 =>
  LoopH (σ := Vals [13]) (fun x hh ZZ => sh_graph_arcs_1_L1 P t12 t11 t9 yield0 K x.1 hh (fun a0 hz => ZZ (a0, ()) hz)) ((.int .i64 0), ()) h

set_option maxRecDepth 100000 in
theorem lk_graph_arcs_1 (yield0 t1 : Value) {h : Heap} {K : Value → Heap → Prop} (H : sh_graph_arcs_1 Tryz.prog yield0 t1 h K) : CallsH Tryz.prog F_graph_arcs_1 [yield0, t1].toArray h K :=
  callsH_of (ann := (annG (Tryz.f129.body.getD .skip) 0 [(2, [13]), (8, [34])]).1) (c := Tryz.f129.body.getD .skip) Tryz.func129 (by kernel_rfl) (by kernel_rfl) (by kernel_rfl) (of_decide_eq_true (by kernel_rfl))
    (Eq.mpr (by kernel_rfl) H)

/-! cmp.Or[int] -/

def sh_cmp_Or_int_L1 (P : Program) (t7 vals0 : Value) (K : Value → Heap → Prop) (t8 : Value) (h_1 : Heap) (Z : Value → Heap → Prop) : Prop :=
  pBin .lss t8 t7 fun t9 =>
  ifV t9
  (pIdx 1 vals0 t8 fun t10 =>
  pLoad h_1 t10 fun t11 =>
  pBin .neq t11 (.int .i64 0) fun t14 =>
  ifV t14
  (K t11 h_1)
  (pBin .add t8 (.int .i64 1) fun t16 =>
  Z t16 h_1))
  (K (.int .i64 0) h_1)

def sh_cmp_Or_int (P : Program) (vals0 : Value) (h : Heap) (K : Value → Heap → Prop) : Prop :=
  pLen vals0 fun t7 =>
  LoopH (σ := Vals [8]) (fun x hh ZZ => sh_cmp_Or_int_L1 P t7 vals0 K x.1 hh (fun a0 hz => ZZ (a0, ()) hz)) ((.int .i64 0), ()) h

set_option maxRecDepth 100000 in
theorem lk_cmp_Or_int (vals0 : Value) {h : Heap} {K : Value → Heap → Prop} (H : sh_cmp_Or_int Tryz.prog vals0 h K) : CallsH Tryz.prog F_cmp_Or_int [vals0].toArray h K :=
  callsH_of (ann := (annG (Tryz.f133.body.getD .skip) 0 [(4, [8])]).1) (c := Tryz.f133.body.getD .skip) Tryz.func133 (by kernel_rfl) (by kernel_rfl) (by kernel_rfl) (of_decide_eq_true (by kernel_rfl))
    (Eq.mpr (by kernel_rfl) H)

/-! cmp.Compare[int64] -/

def sh_cmp_Compare_int64 (P : Program) (x0 y1 : Value) (h : Heap) (K : Value → Heap → Prop) : Prop :=
  callS P F_cmp_isNaN_int64 [x0] h fun t8 h_1 =>
  callS P F_cmp_isNaN_int64 [y1] h_1 fun t10 h_2 =>
  ifV t8
  (ifV t10
  (K (.int .i64 0) h_2)
  (K (.int .i64 (-1)) h_2))
  (ifV t10
  (K (.int .i64 1) h_2)
  (pBin .lss x0 y1 fun t16 =>
  ifV t16
  (K (.int .i64 (-1)) h_2)
  (pBin .gtr x0 y1 fun t19 =>
  ifV t19
  (K (.int .i64 1) h_2)
  (K (.int .i64 0) h_2))))

set_option maxRecDepth 100000 in
theorem lk_cmp_Compare_int64 (x0 y1 : Value) {h : Heap} {K : Value → Heap → Prop} (H : sh_cmp_Compare_int64 Tryz.prog x0 y1 h K) : CallsH Tryz.prog F_cmp_Compare_int64 [x0, y1].toArray h K :=
  callsH_of (ann := (annG (Tryz.f134.body.getD .skip) 0 []).1) (c := Tryz.f134.body.getD .skip) Tryz.func134 (by kernel_rfl) (by kernel_rfl) (by kernel_rfl) (of_decide_eq_true (by kernel_rfl))
    (Eq.mpr (by kernel_rfl) H)

/-! cmp.Compare[int] -/

def sh_cmp_Compare_int (P : Program) (x0 y1 : Value) (h : Heap) (K : Value → Heap → Prop) : Prop :=
  callS P F_cmp_isNaN_int [x0] h fun t8 h_1 =>
  callS P F_cmp_isNaN_int [y1] h_1 fun t10 h_2 =>
  ifV t8
  (ifV t10
  (K (.int .i64 0) h_2)
  (K (.int .i64 (-1)) h_2))
  (ifV t10
  (K (.int .i64 1) h_2)
  (pBin .lss x0 y1 fun t16 =>
  ifV t16
  (K (.int .i64 (-1)) h_2)
  (pBin .gtr x0 y1 fun t19 =>
  ifV t19
  (K (.int .i64 1) h_2)
  (K (.int .i64 0) h_2))))

set_option maxRecDepth 100000 in
theorem lk_cmp_Compare_int (x0 y1 : Value) {h : Heap} {K : Value → Heap → Prop} (H : sh_cmp_Compare_int Tryz.prog x0 y1 h K) : CallsH Tryz.prog F_cmp_Compare_int [x0, y1].toArray h K :=
  callsH_of (ann := (annG (Tryz.f135.body.getD .skip) 0 []).1) (c := Tryz.f135.body.getD .skip) Tryz.func135 (by kernel_rfl) (by kernel_rfl) (by kernel_rfl) (of_decide_eq_true (by kernel_rfl))
    (Eq.mpr (by kernel_rfl) H)

/-! (*milestone/heap.row).below$1 -/

def sh_heap_row_below_1_L1 (P : Program) (t1 t2 yield0 : Value) (K : Value → Heap → Prop) (k4 : Value) (h_1 : Heap) (Z : Value → Heap → Prop) : Prop :=
  pLoad h_1 t1 fun t9 =>
  pBin .mul (.int .i64 4) t9 fun t10 =>
  pBin .add t10 (.int .i64 4) fun t11 =>
  pBin .leq k4 t11 fun t12 =>
  ifV t12
  (pLoad h_1 t2 fun t15 =>
  pNil t15 fun t16 =>
  pField 0 t16 fun t17 =>
  pLoad h_1 t17 fun t18 =>
  pLen t18 fun t19 =>
  pBin .lss k4 t19 fun t20 =>
  ifV t20
  (callV P yield0 [k4].toArray h_1 fun t26 h_2 =>
  pUn .not t26 fun t27 =>
  ifV t27
  (K (.tuple #[]) h_2)
  (pBin .add k4 (.int .i64 1) fun t23 =>
  Z t23 h_2))
  (K (.tuple #[]) h_1))
  (K (.tuple #[]) h_1)

def sh_heap_row_below_1 (P : Program) (yield0 t1 t2 : Value) (h : Heap) (K : Value → Heap → Prop) : Prop :=
  pLoad h t1 fun t5 =>
  pBin .mul (.int .i64 4) t5 fun t6 =>
  pBin .add t6 (.int .i64 1) fun t7 =>
  LoopH (σ := Vals [4]) (fun x hh ZZ => sh_heap_row_below_1_L1 P t1 t2 yield0 K x.1 hh (fun a0 hz => ZZ (a0, ()) hz)) (t7, ()) h

set_option maxRecDepth 100000 in
theorem lk_heap_row_below_1 (yield0 t1 t2 : Value) {h : Heap} {K : Value → Heap → Prop} (H : sh_heap_row_below_1 Tryz.prog yield0 t1 t2 h K) : CallsH Tryz.prog F_heap_row_below_1 [yield0, t1, t2].toArray h K :=
  callsH_of (ann := (annG (Tryz.f136.body.getD .skip) 0 [(1, [4])]).1) (c := Tryz.f136.body.getD .skip) Tryz.func136 (by kernel_rfl) (by kernel_rfl) (by kernel_rfl) (of_decide_eq_true (by kernel_rfl))
    (Eq.mpr (by kernel_rfl) H)

/-! slices.Values[[]milestone/graph.place,milestone/graph.place]$1 -/

def sh_slices_Values_sl_graph_place_graph_place_1_L1 (P : Program) (t6 t5 yield0 : Value) (K : Value → Heap → Prop) (t7 : Value) (h_1 : Heap) (Z : Value → Heap → Prop) : Prop :=
  pBin .lss t7 t6 fun t8 =>
  ifV t8
  (pIdx 6 t5 t7 fun t9 =>
  pLoadN 6 h_1 t9 fun t10 =>
  pBox T_graph_place (.agg #[(.int .i64 0), (.int .i64 0), (.int .i64 0), (.int .i64 0), (.int .i64 0), (.int .i64 0)]) h_1 fun v4 h_2 =>
  pStore 6 v4 t10 h_2 fun u h_3 =>
  pLoadN 6 h_3 v4 fun t12 =>
  callV P yield0 [t12].toArray h_3 fun t13 h_4 =>
  pUn .not t13 fun t14 =>
  ifV t14
  (K (.tuple #[]) h_4)
  (pBin .add t7 (.int .i64 1) fun t15 =>
  Z t15 h_4))
  (K (.tuple #[]) h_1)

def sh_slices_Values_sl_graph_place_graph_place_1 (P : Program) (yield0 t1 : Value) (h : Heap) (K : Value → Heap → Prop) : Prop :=
  pLoad h t1 fun t5 =>
  pLen t5 fun t6 =>
  LoopH (σ := Vals [7]) (fun x hh ZZ => sh_slices_Values_sl_graph_place_graph_place_1_L1 P t6 t5 yield0 K x.1 hh (fun a0 hz => ZZ (a0, ()) hz)) ((.int .i64 0), ()) h

set_option maxRecDepth 100000 in
theorem lk_slices_Values_sl_graph_place_graph_place_1 (yield0 t1 : Value) {h : Heap} {K : Value → Heap → Prop} (H : sh_slices_Values_sl_graph_place_graph_place_1 Tryz.prog yield0 t1 h K) : CallsH Tryz.prog F_slices_Values_sl_graph_place_graph_place_1 [yield0, t1].toArray h K :=
  callsH_of (ann := (annG (Tryz.f137.body.getD .skip) 0 [(1, [7])]).1) (c := Tryz.f137.body.getD .skip) Tryz.func137 (by kernel_rfl) (by kernel_rfl) (by kernel_rfl) (of_decide_eq_true (by kernel_rfl))
    (Eq.mpr (by kernel_rfl) H)

/-! cmp.isNaN[int64] -/

def sh_cmp_isNaN_int64 (P : Program) (x0 : Value) (h : Heap) (K : Value → Heap → Prop) : Prop :=
  pBin .neq x0 x0 fun t5 =>
  K t5 h

set_option maxRecDepth 100000 in
theorem lk_cmp_isNaN_int64 (x0 : Value) {h : Heap} {K : Value → Heap → Prop} (H : sh_cmp_isNaN_int64 Tryz.prog x0 h K) : CallsH Tryz.prog F_cmp_isNaN_int64 [x0].toArray h K :=
  callsH_of (ann := (annG (Tryz.f138.body.getD .skip) 0 []).1) (c := Tryz.f138.body.getD .skip) Tryz.func138 (by kernel_rfl) (by kernel_rfl) (by kernel_rfl) (of_decide_eq_true (by kernel_rfl))
    (Eq.mpr (by kernel_rfl) H)

/-! cmp.isNaN[int] -/

def sh_cmp_isNaN_int (P : Program) (x0 : Value) (h : Heap) (K : Value → Heap → Prop) : Prop :=
  pBin .neq x0 x0 fun t5 =>
  K t5 h

set_option maxRecDepth 100000 in
theorem lk_cmp_isNaN_int (x0 : Value) {h : Heap} {K : Value → Heap → Prop} (H : sh_cmp_isNaN_int Tryz.prog x0 h K) : CallsH Tryz.prog F_cmp_isNaN_int [x0].toArray h K :=
  callsH_of (ann := (annG (Tryz.f139.body.getD .skip) 0 []).1) (c := Tryz.f139.body.getD .skip) Tryz.func139 (by kernel_rfl) (by kernel_rfl) (by kernel_rfl) (of_decide_eq_true (by kernel_rfl))
    (Eq.mpr (by kernel_rfl) H)

end Go.Proofs.YtoopkllfpmjnfaaGreatDoor


