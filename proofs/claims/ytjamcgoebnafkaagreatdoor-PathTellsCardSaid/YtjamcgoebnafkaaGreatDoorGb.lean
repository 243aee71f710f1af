/- Texts of the proofs of seat YtjamcgoebnafkaaGreatDoor, joined: Gen6, Gen7, Gen. They have no conditions of their own. -/
import Derived.Test.YtjamcgoebnafkaaGreatDoorGa
set_option linter.unusedVariables false
set_option linter.unusedSimpArgs false

namespace Go.Proofs.YtjamcgoebnafkaaGreatDoor
open Go Go.Mh
set_option maxHeartbeats 0
set_option linter.unusedVariables false

/-! milestone/walk.steps$1 -/

def sh_walk_steps_1_k2 (P : Program) (K : Value → Heap → Prop) (a7 t3 t11 : Value) (Z : Value → Heap → Prop) (t31_1 : Value) (h_6 : Heap) : Prop :=
  ifV t31_1
  (K (.tuple #[]) h_6)
  (pField 1 a7 fun t32 =>
  pLoad h_6 t32 fun t33 =>
  pStore 1 t3 t33 h_6 fun u_1 h_7 =>
  pBin .add t11 (.int .i64 1) fun t34 =>
  Z t34 h_7)

def sh_walk_steps_1_L1 (P : Program) (t10 t9 t2 t3 yield0 : Value) (K : Value → Heap → Prop) (t11 : Value) (h_1 : Heap) (Z : Value → Heap → Prop) : Prop :=
  pBin .lss t11 t10 fun t12 =>
  ifV t12
  (pIdx 1 t9 t11 fun t13 =>
  pLoad h_1 t13 fun t14 =>
  pLoad h_1 t2 fun t16 =>
  callS P F_net_Net_Arc [t16, t14] h_1 fun t18 h_2 =>
  pExt t18 0 fun t19 =>
  pExt t18 1 fun t20 =>
  pBox T_api_Arc (.agg #[(.int .i64 0), (.int .i64 0), (.int .i64 0)]) h_2 fun a7 h_3 =>
  pStore 3 a7 t19 h_3 fun u h_4 =>
  pLoadN 3 h_4 a7 fun t22 =>
  ifV t20
  (pField 0 a7 fun t25 =>
  pLoad h_4 t25 fun t26 =>
  pLoad h_4 t3 fun t27 =>
  pBin .eql t26 t27 fun t28 =>
  callV P yield0 [t22, t28].toArray h_4 fun t30 h_5 =>
  pUn .not t30 fun t31 =>
  sh_walk_steps_1_k2 P K a7 t3 t11 Z t31 h_5)
  (callV P yield0 [t22, (.bool false)].toArray h_4 fun t30_1 h_8 =>
  pUn .not t30_1 fun t31_2 =>
  sh_walk_steps_1_k2 P K a7 t3 t11 Z t31_2 h_8))
  (K (.tuple #[]) h_1)

def sh_walk_steps_1 (P : Program) (yield0 t1 t2 t3 : Value) (h : Heap) (K : Value → Heap → Prop) : Prop :=
  pLoad h t1 fun t9 =>
  pLen t9 fun t10 =>
  LoopH (σ := Vals [11]) (fun x hh ZZ => sh_walk_steps_1_L1 P t10 t9 t2 t3 yield0 K x.1 hh (fun a0 hz => ZZ (a0, ()) hz)) ((.int .i64 0), ()) h

set_option maxRecDepth 100000 in
theorem lk_walk_steps_1 (yield0 t1 t2 t3 : Value) {h : Heap} {K : Value → Heap → Prop} (H : sh_walk_steps_1 Tryz.prog yield0 t1 t2 t3 h K) : CallsH Tryz.prog F_walk_steps_1 [yield0, t1, t2, t3].toArray h K :=
  callsH_of (ann := (annG (Tryz.f68.body.getD .skip) 0 [(1, [11])]).1) (c := Tryz.f68.body.getD .skip) Tryz.func68 (by kernel_rfl) (by kernel_rfl) (by kernel_rfl) (of_decide_eq_true (by kernel_rfl))
    (Eq.mpr (by kernel_rfl) H)

/-! (*milestone/net.Net).Arc -/

def sh_net_Net_Arc (P : Program) (n0 a1 : Value) (h : Heap) (K : Value → Heap → Prop) : Prop :=
  pBox T_api_Arc (.agg #[(.int .i64 0), (.int .i64 0), (.int .i64 0)]) h fun t4 h_1 =>
  pEq false .ptr n0 (.pointer none) fun t7 =>
  ifV t7
  (pBuild [(.int .i64 0), (.int .i64 0), (.int .i64 0)] [] fun t8 =>
  pStore 3 t4 t8 h_1 fun u h_2 =>
  pLoadN 3 h_2 t4 fun res =>
  K (.tuple #[res, (.bool false)]) h_2)
  (pNil n0 fun t10 =>
  pField 0 t10 fun t11 =>
  pField 3 t11 fun t12 =>
  pLoad h_1 t12 fun t13 =>
  callS P F_net_one_api_Arc [t13, a1] h_1 fun t15 h_3 =>
  pExt t15 0 fun t16 =>
  pExt t15 1 fun t17 =>
  pStore 3 t4 t16 h_3 fun u_1 h_4 =>
  pLoadN 3 h_4 t4 fun res_1 =>
  K (.tuple #[res_1, t17]) h_4)

set_option maxRecDepth 100000 in
theorem lk_net_Net_Arc (n0 a1 : Value) {h : Heap} {K : Value → Heap → Prop} (H : sh_net_Net_Arc Tryz.prog n0 a1 h K) : CallsH Tryz.prog F_net_Net_Arc [n0, a1].toArray h K :=
  callsH_of (ann := (annG (Tryz.f69.body.getD .skip) 0 []).1) (c := Tryz.f69.body.getD .skip) Tryz.func69 (by kernel_rfl) (by kernel_rfl) (by kernel_rfl) (of_decide_eq_true (by kernel_rfl))
    (Eq.mpr (by kernel_rfl) H)

/-! math/bits.Mul -/

def sh_math_bits_Mul (P : Program) (x0 y1 : Value) (h : Heap) (K : Value → Heap → Prop) : Prop :=
  callS P F_math_bits_Mul64 [x0, y1] h fun t25 h_1 =>
  pExt t25 0 fun t26 =>
  pExt t25 1 fun t27 =>
  K (.tuple #[t26, t27]) h_1

set_option maxRecDepth 100000 in
theorem lk_math_bits_Mul (x0 y1 : Value) {h : Heap} {K : Value → Heap → Prop} (H : sh_math_bits_Mul Tryz.prog x0 y1 h K) : CallsH Tryz.prog F_math_bits_Mul [x0, y1].toArray h K :=
  callsH_of (ann := (annG (Tryz.f70.body.getD .skip) 0 []).1) (c := Tryz.f70.body.getD .skip) Tryz.func70 (by kernel_rfl) (by kernel_rfl) (by kernel_rfl) (of_decide_eq_true (by kernel_rfl))
    (Eq.mpr (by kernel_rfl) H)

/-! (*milestone/heap.row).up -/

def sh_heap_row_up_L1 (P : Program) (r0 : Value) (K : Value → Heap → Prop) (i1_1 : Value) (h_1 : Heap) (Z : Value → Heap → Prop) : Prop :=
  pBin .gtr i1_1 (.int .i64 0) fun t5 =>
  ifV t5
  (pBin .sub i1_1 (.int .i64 1) fun t10 =>
  pBin .quo t10 (.int .i64 4) fun t11 =>
  callS P F_heap_row_ahead [r0, i1_1, t11] h_1 fun t12 h_2 =>
  ifV t12
  (pBin .sub i1_1 (.int .i64 1) fun t17 =>
  pBin .quo t17 (.int .i64 4) fun t18 =>
  callS P F_heap_row_swap [r0, i1_1, t18] h_2 fun t19 h_3 =>
  pBin .sub i1_1 (.int .i64 1) fun t21 =>
  pBin .quo t21 (.int .i64 4) fun t22 =>
  Z t22 h_3)
  (K (.tuple #[]) h_2))
  (K (.tuple #[]) h_1)

def sh_heap_row_up (P : Program) (r0 i1 : Value) (h : Heap) (K : Value → Heap → Prop) : Prop :=
  LoopH (σ := Vals [1]) (fun x hh ZZ => sh_heap_row_up_L1 P r0 K x.1 hh (fun a0 hz => ZZ (a0, ()) hz)) (i1, ()) h

set_option maxRecDepth 100000 in
theorem lk_heap_row_up (r0 i1 : Value) {h : Heap} {K : Value → Heap → Prop} (H : sh_heap_row_up Tryz.prog r0 i1 h K) : CallsH Tryz.prog F_heap_row_up [r0, i1].toArray h K :=
  callsH_of (ann := (annG (Tryz.f71.body.getD .skip) 0 [(0, [1])]).1) (c := Tryz.f71.body.getD .skip) Tryz.func71 (by kernel_rfl) (by kernel_rfl) (by kernel_rfl) (of_decide_eq_true (by kernel_rfl))
    (Eq.mpr (by kernel_rfl) H)

/-! (*milestone/heap.Heap).Len -/

def sh_heap_Heap_Len (P : Program) (h0 : Value) (h : Heap) (K : Value → Heap → Prop) : Prop :=
  pEq false .ptr h0 (.pointer none) fun t4 =>
  ifV t4
  (K (.int .i64 0) h)
  (pNil h0 fun t6 =>
  pField 0 t6 fun t7 =>
  pField 0 t7 fun t8 =>
  pLoad h t8 fun t9 =>
  pLen t9 fun t10 =>
  K t10 h)

set_option maxRecDepth 100000 in
theorem lk_heap_Heap_Len (h0 : Value) {h : Heap} {K : Value → Heap → Prop} (H : sh_heap_Heap_Len Tryz.prog h0 h K) : CallsH Tryz.prog F_heap_Heap_Len [h0].toArray h K :=
  callsH_of (ann := (annG (Tryz.f72.body.getD .skip) 0 []).1) (c := Tryz.f72.body.getD .skip) Tryz.func72 (by kernel_rfl) (by kernel_rfl) (by kernel_rfl) (of_decide_eq_true (by kernel_rfl))
    (Eq.mpr (by kernel_rfl) H)

/-! (*milestone/heap.row).swap -/

def sh_heap_row_swap (P : Program) (r0 i1 k2 : Value) (h : Heap) (K : Value → Heap → Prop) : Prop :=
  pNil r0 fun t7 =>
  pField 0 t7 fun t8 =>
  pLoad h t8 fun t9 =>
  pNil r0 fun t12 =>
  pField 0 t12 fun t13 =>
  pLoad h t13 fun t14 =>
  pNil r0 fun t17 =>
  pField 0 t17 fun t18 =>
  pLoad h t18 fun t19 =>
  pIdx 2 t19 k2 fun t21 =>
  pLoadN 2 h t21 fun t22 =>
  pNil r0 fun t24 =>
  pField 0 t24 fun t25 =>
  pLoad h t25 fun t26 =>
  pIdx 2 t26 i1 fun t28 =>
  pLoadN 2 h t28 fun t29 =>
  pIdx 2 t9 i1 fun t30 =>
  pStore 2 t30 t22 h fun u h_1 =>
  pIdx 2 t14 k2 fun t31 =>
  pStore 2 t31 t29 h_1 fun u_1 h_2 =>
  pNil r0 fun t33 =>
  pField 1 t33 fun t34 =>
  pLoad h_2 t34 fun t35 =>
  pNil r0 fun t37 =>
  pField 0 t37 fun t38 =>
  pLoad h_2 t38 fun t39 =>
  pIdx 2 t39 i1 fun t41 =>
  pField 0 t41 fun t42 =>
  pLoad h_2 t42 fun t43 =>
  pNil r0 fun t45 =>
  pField 1 t45 fun t46 =>
  pLoad h_2 t46 fun t47 =>
  pNil r0 fun t49 =>
  pField 0 t49 fun t50 =>
  pLoad h_2 t50 fun t51 =>
  pIdx 2 t51 k2 fun t53 =>
  pField 0 t53 fun t54 =>
  pLoad h_2 t54 fun t55 =>
  pMapEntry (.int .i64) (.int .i64 0) t35 t43 h_2 fun t58 h_3 =>
  pExt t58 1 fun t59 =>
  pEntryStore t35 t59 i1 h_3 fun u_2 h_4 =>
  pMapEntry (.int .i64) (.int .i64 0) t47 t55 h_4 fun t60 h_5 =>
  pExt t60 1 fun t61 =>
  pEntryStore t47 t61 k2 h_5 fun u_3 h_6 =>
  K (.tuple #[]) h_6

set_option maxRecDepth 100000 in
theorem lk_heap_row_swap (r0 i1 k2 : Value) {h : Heap} {K : Value → Heap → Prop} (H : sh_heap_row_swap Tryz.prog r0 i1 k2 h K) : CallsH Tryz.prog F_heap_row_swap [r0, i1, k2].toArray h K :=
  callsH_of (ann := (annG (Tryz.f73.body.getD .skip) 0 []).1) (c := Tryz.f73.body.getD .skip) Tryz.func73 (by kernel_rfl) (by kernel_rfl) (by kernel_rfl) (of_decide_eq_true (by kernel_rfl))
    (Eq.mpr (by kernel_rfl) H)

/-! (*milestone/heap.row).down -/

def sh_heap_row_down_B2 (P : Program) (h_6 : Heap) (first4 best5 : Value) (L : Loop) (t13 : Value) (h_7 : Heap) (R : Exit → Heap → Prop) : Prop :=
  beginR (h_6.size + 1) L h_7 fun h_8 =>
  pLoad h_8 first4 fun t14 =>
  pLoad h_8 best5 fun t16 =>
  callV P t14 [t13, t16].toArray h_8 fun t17 h_9 =>
  ifV t17
  (pStore 1 best5 t13 h_9 fun u_2 h_10 =>
  R .normal h_10)
  (R .normal h_9)

def sh_heap_row_down_L1 (P : Program) (r0 first4 : Value) (K : Value → Heap → Prop) (m : List Nat) (i1_1 : Value) (h_3 : Heap) (Z : List Nat → Value → Heap → Prop) : Prop :=
  pBox T_int (.int .i64 0) h_3 fun best5 h_4 =>
  pStore 1 best5 i1_1 h_4 fun u_1 h_5 =>
  callS P F_heap_row_below [r0, i1_1] h_5 fun t12 h_6 =>
  rangeH P t12 [13] (h_6.size + 1) (h_6.push (.deferred (some []))) (fun L x hh R => sh_heap_row_down_B2 P h_6 first4 best5 L x.1 hh R)
  (fun h_11 => pLoad h_11 best5 fun t19 =>
  pBin .eql t19 i1_1 fun t21 =>
  ifV t21
  (takeM (h_6.size :: m) h_11 fun h_12 =>
  K (.tuple #[]) h_12)
  (pLoad h_11 best5 fun t24 =>
  callS P F_heap_row_swap [r0, i1_1, t24] h_11 fun t25 h_13 =>
  pLoad h_13 best5 fun t26 =>
  Z (h_6.size :: m) t26 h_13))
  (fun h_14 => takeM (h_6.size :: m) h_14 fun h_15 =>
  K (.tuple #[]) h_15)
  []

def sh_heap_row_down (P : Program) (r0 i1 : Value) (h : Heap) (K : Value → Heap → Prop) : Prop :=
  pBox T_func_int_int_bool .nilFunc h fun first4 h_1 =>
  pStore 1 first4 (.func (.func F_heap_row_ahead) #[r0] #[]) h_1 fun u h_2 =>
  LoopH (σ := List Nat × Vals [1]) (fun x hh ZZ => sh_heap_row_down_L1 P r0 first4 K x.1 x.2.1 hh (fun mz a0 hz => ZZ (mz, (a0, ())) hz)) ([], (i1, ())) h_2

set_option maxRecDepth 100000 in
theorem lk_heap_row_down (r0 i1 : Value) {h : Heap} {K : Value → Heap → Prop} (H : sh_heap_row_down Tryz.prog r0 i1 h K) : CallsH Tryz.prog F_heap_row_down [r0, i1].toArray h K :=
  callsH_of (ann := (annG (Tryz.f74.body.getD .skip) 0 [(1, [1])]).1) (c := Tryz.f74.body.getD .skip) Tryz.func74 (by kernel_rfl) (by kernel_rfl) (by kernel_rfl) (of_decide_eq_true (by kernel_rfl))
    (Eq.mpr (by kernel_rfl) H)

/-! milestone/flood.arcs$1 -/

def sh_flood_arcs_1_L1 (P : Program) (t10 t9 t2 t3 yield0 : Value) (K : Value → Heap → Prop) (t11 : Value) (h_1 : Heap) (Z : Value → Heap → Prop) : Prop :=
  pBin .lss t11 t10 fun t12 =>
  ifV t12
  (pIdx 1 t9 t11 fun t13 =>
  pLoad h_1 t13 fun t14 =>
  pLoad h_1 t2 fun t16 =>
  callS P F_net_Net_Arc [t16, t14] h_1 fun t18 h_2 =>
  pExt t18 0 fun t19 =>
  pExt t18 1 fun t20 =>
  pBox T_api_Arc (.agg #[(.int .i64 0), (.int .i64 0), (.int .i64 0)]) h_2 fun a7 h_3 =>
  pStore 3 a7 t19 h_3 fun u h_4 =>
  pLoad h_4 t3 fun t23 =>
  pLoadN 3 h_4 a7 fun t24 =>
  pField 2 a7 fun t26 =>
  pLoad h_4 t26 fun t27 =>
  callV P t23 [t24].toArray h_4 fun t25 h_5 =>
  (pLoad h_5 t26 fun t27_1 =>
  t27_1 = t27) ∧
  (pBuild [(.int .i64 0), (.int .i64 0), (.int .i64 0)] [(1, 1, t25), (2, 1, t27)] fun t28 =>
  callV P yield0 [t14, t28].toArray h_5 fun t29 h_6 =>
  pUn .not t29 fun t30 =>
  ifV t30
  (K (.tuple #[]) h_6)
  (pBin .add t11 (.int .i64 1) fun t31 =>
  Z t31 h_6)))
  (K (.tuple #[]) h_1)

def sh_flood_arcs_1 (P : Program) (yield0 t1 t2 t3 : Value) (h : Heap) (K : Value → Heap → Prop) : Prop :=
  pLoad h t1 fun t9 =>
  pLen t9 fun t10 =>
  LoopH (σ := Vals [11]) (fun x hh ZZ => sh_flood_arcs_1_L1 P t10 t9 t2 t3 yield0 K x.1 hh (fun a0 hz => ZZ (a0, ()) hz)) ((.int .i64 0), ()) h

set_option maxRecDepth 100000 in
theorem lk_flood_arcs_1 (yield0 t1 t2 t3 : Value) {h : Heap} {K : Value → Heap → Prop} (H : sh_flood_arcs_1 Tryz.prog yield0 t1 t2 t3 h K) : CallsH Tryz.prog F_flood_arcs_1 [yield0, t1, t2, t3].toArray h K :=
  callsH_of (ann := (annG (Tryz.f75.body.getD .skip) 0 [(1, [11])]).1) (c := Tryz.f75.body.getD .skip) Tryz.func75 (by kernel_rfl) (by kernel_rfl) (by kernel_rfl) (of_decide_eq_true (by kernel_rfl))
    (Eq.mpr (by kernel_rfl) H)

/-! (*milestone/heap.Heap).Key -/

def sh_heap_Heap_Key (P : Program) (h0 id1 : Value) (h : Heap) (K : Value → Heap → Prop) : Prop :=
  callS P F_heap_Heap_Len [h0] h fun t9 h_1 =>
  pBin .eql t9 (.int .i64 0) fun t10 =>
  ifV t10
  (K (.tuple #[(.int .i64 0), (.bool false)]) h_1)
  (pNil h0 fun t13 =>
  pField 0 t13 fun t14 =>
  pField 1 t14 fun t15 =>
  pLoad h_1 t15 fun t16 =>
  pLook (.int .i64) (.int .i64 0) true h_1 t16 id1 fun t18 =>
  pExt t18 0 fun t19 =>
  pExt t18 1 fun t20 =>
  pUn .not t20 fun t22 =>
  ifV t22
  (K (.tuple #[(.int .i64 0), (.bool false)]) h_1)
  (pNil h0 fun t24 =>
  pField 0 t24 fun t25 =>
  pField 0 t25 fun t26 =>
  pLoad h_1 t26 fun t27 =>
  pIdx 2 t27 t19 fun t29 =>
  pField 1 t29 fun t30 =>
  pLoad h_1 t30 fun t31 =>
  K (.tuple #[t31, (.bool true)]) h_1))

set_option maxRecDepth 100000 in
theorem lk_heap_Heap_Key (h0 id1 : Value) {h : Heap} {K : Value → Heap → Prop} (H : sh_heap_Heap_Key Tryz.prog h0 id1 h K) : CallsH Tryz.prog F_heap_Heap_Key [h0, id1].toArray h K :=
  callsH_of (ann := (annG (Tryz.f76.body.getD .skip) 0 []).1) (c := Tryz.f76.body.getD .skip) Tryz.func76 (by kernel_rfl) (by kernel_rfl) (by kernel_rfl) (of_decide_eq_true (by kernel_rfl))
    (Eq.mpr (by kernel_rfl) H)

/-! (*milestone/heap.Heap).Lower -/

def sh_heap_Heap_Lower_k1 (P : Program) (K : Value → Heap → Prop) (h_1 : Heap) : Prop :=
  K (.int .i64 2) h_1

def sh_heap_Heap_Lower (P : Program) (h0 id1 key2 : Value) (h : Heap) (K : Value → Heap → Prop) : Prop :=
  pEq false .ptr h0 (.pointer none) fun t10 =>
  ifV t10
  (K (.int .i64 1) h)
  (pNil h0 fun t13 =>
  pField 0 t13 fun t14 =>
  pField 1 t14 fun t15 =>
  pLoad h t15 fun t16 =>
  pLook (.int .i64) (.int .i64 0) true h t16 id1 fun t18 =>
  pExt t18 0 fun t19 =>
  pExt t18 1 fun t20 =>
  pBin .lss id1 (.int .i64 0) fun t23 =>
  ifV t23
  (sh_heap_Heap_Lower_k1 P K h)
  (pNil h0 fun t27 =>
  pField 2 t27 fun t28 =>
  pLoad h t28 fun t29 =>
  pBin .geq id1 t29 fun t30 =>
  ifV t30
  (sh_heap_Heap_Lower_k1 P K h)
  (pUn .not t20 fun t34 =>
  ifV t34
  (K (.int .i64 20) h)
  (pNil h0 fun t37 =>
  pField 0 t37 fun t38 =>
  pField 0 t38 fun t39 =>
  pLoad h t39 fun t40 =>
  pIdx 2 t40 t19 fun t42 =>
  pField 1 t42 fun t43 =>
  pLoad h t43 fun t44 =>
  pBin .lss t44 key2 fun t46 =>
  ifV t46
  (K (.int .i64 2) h)
  (pNil h0 fun t48 =>
  pField 0 t48 fun t49 =>
  pField 0 t49 fun t50 =>
  pLoad h t50 fun t51 =>
  pIdx 2 t51 t19 fun t54 =>
  pField 1 t54 fun t55 =>
  pStore 1 t55 key2 h fun u h_2 =>
  pNil h0 fun t57 =>
  pField 0 t57 fun t58 =>
  callS P F_heap_row_up [t58, t19] h_2 fun t60 h_3 =>
  K (.int .i64 0) h_3)))))

set_option maxRecDepth 100000 in
theorem lk_heap_Heap_Lower (h0 id1 key2 : Value) {h : Heap} {K : Value → Heap → Prop} (H : sh_heap_Heap_Lower Tryz.prog h0 id1 key2 h K) : CallsH Tryz.prog F_heap_Heap_Lower [h0, id1, key2].toArray h K :=
  callsH_of (ann := (annG (Tryz.f77.body.getD .skip) 0 []).1) (c := Tryz.f77.body.getD .skip) Tryz.func77 (by kernel_rfl) (by kernel_rfl) (by kernel_rfl) (of_decide_eq_true (by kernel_rfl))
    (Eq.mpr (by kernel_rfl) H)

/-! milestone/path.follow$1 -/

def sh_path_follow_1_C3 (P : Program) (K : Value → Heap → Prop) (t1 t38 : Value) (Z : Heap → Prop) (t52_2 : Value) (h_12 : Heap) : Prop :=
  ifV t52_2
  (K (.tuple #[]) h_12)
  (pStore 1 t1 t38 h_12 fun u_2 h_13 =>
  Z h_13)

def sh_path_follow_1_C2 (P : Program) (t4 t2 t1 yield0 : Value) (K : Value → Heap → Prop) (Z : Heap → Prop) (a6_2 is7 : Value) (h_8 : Heap) : Prop :=
  pLoad h_8 t4 fun t34 =>
  pLoadN 3 h_8 a6_2 fun t35 =>
  callV P t34 [t35].toArray h_8 fun t36 h_9 =>
  pExt t36 0 fun t37 =>
  pExt t36 1 fun t38 =>
  cutP (σ := Vals [52]) (fun J_1 =>
  pField 1 t2 fun t40 =>
  pLoad h_9 t40 fun t41 =>
  pLoad h_9 t1 fun t42 =>
  pIdx 1 t41 t42 fun t43 =>
  pLoad h_9 t43 fun t44 =>
  ifV is7
  (pLoad h_9 t1 fun t48 =>
  pBin .eql t37 t48 fun t49 =>
  callV P yield0 [t44, t49].toArray h_9 fun t51 h_10 =>
  pUn .not t51 fun t52 =>
  J_1 (t52, ()) h_10)
  (callV P yield0 [t44, (.bool false)].toArray h_9 fun t51_1 h_11 =>
  pUn .not t51_1 fun t52_1 =>
  J_1 (t52_1, ()) h_11))
  (fun x hh => sh_path_follow_1_C3 P K t1 t38 Z x.1 hh)

def sh_path_follow_1_L1 (P : Program) (t1 t2 t3 t4 yield0 : Value) (K : Value → Heap → Prop) (h_1 : Heap) (Z : Heap → Prop) : Prop :=
  pLoad h_1 t1 fun t10 =>
  pField 1 t2 fun t11 =>
  pLoad h_1 t11 fun t12 =>
  pLen t12 fun t13 =>
  pBin .lss t10 t13 fun t14 =>
  ifV t14
  (pField 1 t2 fun t16 =>
  pLoad h_1 t16 fun t17 =>
  pLoad h_1 t1 fun t18 =>
  pIdx 1 t17 t18 fun t19 =>
  pLoad h_1 t19 fun t20 =>
  pBin .geq t20 (.int .i64 0) fun t21 =>
  ifV t21
  (cutP (σ := Vals [6, 7]) (fun J =>
  pLoad h_1 t3 fun t24 =>
  pField 1 t2 fun t25 =>
  pLoad h_1 t25 fun t26 =>
  pLoad h_1 t1 fun t27 =>
  pIdx 1 t26 t27 fun t28 =>
  pLoad h_1 t28 fun t29 =>
  (callS P F_net_Net_Arc [t24, t29] h_1 fun t30 h_2 =>
  pExt t30 0 fun t31 =>
  pExt t30 1 fun t32 =>
  pBox T_api_Arc (.agg #[(.int .i64 0), (.int .i64 0), (.int .i64 0)]) h_2 fun a6 h_3 =>
  pStore 3 a6 t31 h_3 fun u h_4 =>
  J (a6, (t32, ())) h_4) ∧
  (pBox T_api_Arc (.agg #[(.int .i64 0), (.int .i64 0), (.int .i64 0)]) h_1 fun a6_1 h_5 =>
  callS P F_net_Net_Arc [t24, t29] h_5 fun t30_1 h_6 =>
  pExt t30_1 0 fun t31_1 =>
  pExt t30_1 1 fun t32_1 =>
  pStore 3 a6_1 t31_1 h_6 fun u_1 h_7 =>
  J (a6_1, (t32_1, ())) h_7))
  (fun x hh => sh_path_follow_1_C2 P t4 t2 t1 yield0 K Z x.1 x.2.1 hh))
  (K (.tuple #[]) h_1))
  (K (.tuple #[]) h_1)

def sh_path_follow_1 (P : Program) (yield0 t1 t2 t3 t4 : Value) (h : Heap) (K : Value → Heap → Prop) : Prop :=
  LoopH (σ := Vals []) (fun x hh ZZ => sh_path_follow_1_L1 P t1 t2 t3 t4 yield0 K hh (fun hz => ZZ () hz)) () h

set_option maxRecDepth 100000 in
theorem lk_path_follow_1 (yield0 t1 t2 t3 t4 : Value) {h : Heap} {K : Value → Heap → Prop} (H : sh_path_follow_1 Tryz.prog yield0 t1 t2 t3 t4 h K) : CallsH Tryz.prog F_path_follow_1 [yield0, t1, t2, t3, t4].toArray h K :=
  callsH_of (ann := (annG (Tryz.f78.body.getD .skip) 0 [(0, []), (3, [6, 7]), (6, [52])]).1) (c := Tryz.f78.body.getD .skip) Tryz.func78 (by kernel_rfl) (by kernel_rfl) (by kernel_rfl) (of_decide_eq_true (by kernel_rfl))
    (Eq.mpr (by kernel_rfl) H)

/-! milestone/graph.look$1 -/

def sh_graph_look_1 (P : Program) (t0 : Value) (h : Heap) (K : Value → Heap → Prop) : Prop :=
  pField 0 t0 fun t2 =>
  pLoad h t2 fun t3 =>
  callS P F_graph_one [(.int .i64 5), t3, (.int .i64 1), (.int .i64 16777217)] h fun t4 h_1 =>
  K t4 h_1

set_option maxRecDepth 100000 in
theorem lk_graph_look_1 (t0 : Value) {h : Heap} {K : Value → Heap → Prop} (H : sh_graph_look_1 Tryz.prog t0 h K) : CallsH Tryz.prog F_graph_look_1 [t0].toArray h K :=
  callsH_of (ann := (annG (Tryz.f79.body.getD .skip) 0 []).1) (c := Tryz.f79.body.getD .skip) Tryz.func79 (by kernel_rfl) (by kernel_rfl) (by kernel_rfl) (of_decide_eq_true (by kernel_rfl))
    (Eq.mpr (by kernel_rfl) H)

/-! milestone/graph.one -/

def sh_graph_one (P : Program) (code0 n1 least2 end3 : Value) (h : Heap) (K : Value → Heap → Prop) : Prop :=
  pBuild [(.int .i64 0), (.int .i64 0), (.int .i64 0), (.int .i64 0), (.int .i64 0), (.int .i64 0)] [(0, 1, (.int .i64 0)), (1, 1, (.int .i64 0)), (2, 1, code0), (3, 1, n1), (4, 1, least2), (5, 1, end3)] fun t13 =>
  pBuildSlice T_graph_place (zerosL [(.int .i64 0), (.int .i64 0), (.int .i64 0), (.int .i64 0), (.int .i64 0), (.int .i64 0)] 1) [(0, 6, t13)] 1 h fun t14 h_1 =>
  callS P F_slices_Values_sl_graph_place_graph_place [t14] h_1 fun t15 h_2 =>
  K t15 h_2

set_option maxRecDepth 100000 in
theorem lk_graph_one (code0 n1 least2 end3 : Value) {h : Heap} {K : Value → Heap → Prop} (H : sh_graph_one Tryz.prog code0 n1 least2 end3 h K) : CallsH Tryz.prog F_graph_one [code0, n1, least2, end3].toArray h K :=
  callsH_of (ann := (annG (Tryz.f80.body.getD .skip) 0 []).1) (c := Tryz.f80.body.getD .skip) Tryz.func80 (by kernel_rfl) (by kernel_rfl) (by kernel_rfl) (of_decide_eq_true (by kernel_rfl))
    (Eq.mpr (by kernel_rfl) H)

/-! milestone/graph.look$2 -/

def sh_graph_look_2 (P : Program) (t0 : Value) (h : Heap) (K : Value → Heap → Prop) : Prop :=
  pLoadN 4 h t0 fun t2 =>
  callS P F_graph_shapes [t2] h fun t3 h_1 =>
  K t3 h_1

set_option maxRecDepth 100000 in
theorem lk_graph_look_2 (t0 : Value) {h : Heap} {K : Value → Heap → Prop} (H : sh_graph_look_2 Tryz.prog t0 h K) : CallsH Tryz.prog F_graph_look_2 [t0].toArray h K :=
  callsH_of (ann := (annG (Tryz.f81.body.getD .skip) 0 []).1) (c := Tryz.f81.body.getD .skip) Tryz.func81 (by kernel_rfl) (by kernel_rfl) (by kernel_rfl) (of_decide_eq_true (by kernel_rfl))
    (Eq.mpr (by kernel_rfl) H)

/-! milestone/graph.shapes -/

def sh_graph_shapes (P : Program) (r0 : Value) (h : Heap) (K : Value → Heap → Prop) : Prop :=
  pBox T_api_Raw r0 h fun r1 h_1 =>
  pField 0 r1 fun t4 =>
  pLoad h_1 t4 fun t5 =>
  pField 1 r1 fun t6 =>
  pLoad h_1 t6 fun t7 =>
  pLen t7 fun t8 =>
  pBin .add t5 (.int .i64 1) fun t11 =>
  pBuild [(.int .i64 0), (.int .i64 0), (.int .i64 0), (.int .i64 0), (.int .i64 0), (.int .i64 0)] [(0, 1, (.int .i64 0)), (1, 1, (.int .i64 0)), (2, 1, (.int .i64 6)), (3, 1, t8), (4, 1, t5), (5, 1, t11)] fun t12 =>
  pField 2 r1 fun t13 =>
  pLoad h_1 t13 fun t14 =>
  pLen t14 fun t15 =>
  pBin .add t5 (.int .i64 1) fun t18 =>
  pBuild [(.int .i64 0), (.int .i64 0), (.int .i64 0), (.int .i64 0), (.int .i64 0), (.int .i64 0)] [(0, 1, (.int .i64 0)), (1, 1, (.int .i64 1)), (2, 1, (.int .i64 6)), (3, 1, t15), (4, 1, t5), (5, 1, t18)] fun t19 =>
  pBuildSlice T_graph_place (zerosL [(.int .i64 0), (.int .i64 0), (.int .i64 0), (.int .i64 0), (.int .i64 0), (.int .i64 0)] 2) [(0, 6, t12), (6, 6, t19)] 2 h_1 fun t20 h_2 =>
  callS P F_slices_Values_sl_graph_place_graph_place [t20] h_2 fun t21 h_3 =>
  K t21 h_3

set_option maxRecDepth 100000 in
theorem lk_graph_shapes (r0 : Value) {h : Heap} {K : Value → Heap → Prop} (H : sh_graph_shapes Tryz.prog r0 h K) : CallsH Tryz.prog F_graph_shapes [r0].toArray h K :=
  callsH_of (ann := (annG (Tryz.f82.body.getD .skip) 0 []).1) (c := Tryz.f82.body.getD .skip) Tryz.func82 (by kernel_rfl) (by kernel_rfl) (by kernel_rfl) (of_decide_eq_true (by kernel_rfl))
    (Eq.mpr (by kernel_rfl) H)

/-! milestone/graph.look$3 -/

def sh_graph_look_3 (P : Program) (t0 : Value) (h : Heap) (K : Value → Heap → Prop) : Prop :=
  pLoadN 4 h t0 fun t2 =>
  callS P F_graph_nodes [t2] h fun t3 h_1 =>
  K t3 h_1

set_option maxRecDepth 100000 in
theorem lk_graph_look_3 (t0 : Value) {h : Heap} {K : Value → Heap → Prop} (H : sh_graph_look_3 Tryz.prog t0 h K) : CallsH Tryz.prog F_graph_look_3 [t0].toArray h K :=
  callsH_of (ann := (annG (Tryz.f83.body.getD .skip) 0 []).1) (c := Tryz.f83.body.getD .skip) Tryz.func83 (by kernel_rfl) (by kernel_rfl) (by kernel_rfl) (of_decide_eq_true (by kernel_rfl))
    (Eq.mpr (by kernel_rfl) H)

/-! milestone/graph.nodes -/

def sh_graph_nodes (P : Program) (r0 : Value) (h : Heap) (K : Value → Heap → Prop) : Prop :=
  pBox T_api_Raw r0 h fun r1 h_1 =>
  K (.func (.func F_graph_nodes_1) #[] #[r1]) h_1

set_option maxRecDepth 100000 in
theorem lk_graph_nodes (r0 : Value) {h : Heap} {K : Value → Heap → Prop} (H : sh_graph_nodes Tryz.prog r0 h K) : CallsH Tryz.prog F_graph_nodes [r0].toArray h K :=
  callsH_of (ann := (annG (Tryz.f84.body.getD .skip) 0 []).1) (c := Tryz.f84.body.getD .skip) Tryz.func84 (by kernel_rfl) (by kernel_rfl) (by kernel_rfl) (of_decide_eq_true (by kernel_rfl))
    (Eq.mpr (by kernel_rfl) H)

/-! milestone/graph.look$4 -/

def sh_graph_look_4 (P : Program) (t0 : Value) (h : Heap) (K : Value → Heap → Prop) : Prop :=
  pField 3 t0 fun t2 =>
  pLoad h t2 fun t3 =>
  pLen t3 fun t4 =>
  callS P F_graph_one [(.int .i64 8), t4, (.int .i64 0), (.int .i64 67108865)] h fun t5 h_1 =>
  K t5 h_1

set_option maxRecDepth 100000 in
theorem lk_graph_look_4 (t0 : Value) {h : Heap} {K : Value → Heap → Prop} (H : sh_graph_look_4 Tryz.prog t0 h K) : CallsH Tryz.prog F_graph_look_4 [t0].toArray h K :=
  callsH_of (ann := (annG (Tryz.f85.body.getD .skip) 0 []).1) (c := Tryz.f85.body.getD .skip) Tryz.func85 (by kernel_rfl) (by kernel_rfl) (by kernel_rfl) (of_decide_eq_true (by kernel_rfl))
    (Eq.mpr (by kernel_rfl) H)

/-! milestone/graph.look$5 -/

def sh_graph_look_5 (P : Program) (t0 : Value) (h : Heap) (K : Value → Heap → Prop) : Prop :=
  pLoadN 4 h t0 fun t2 =>
  callS P F_graph_arcs [t2] h fun t3 h_1 =>
  K t3 h_1

set_option maxRecDepth 100000 in
theorem lk_graph_look_5 (t0 : Value) {h : Heap} {K : Value → Heap → Prop} (H : sh_graph_look_5 Tryz.prog t0 h K) : CallsH Tryz.prog F_graph_look_5 [t0].toArray h K :=
  callsH_of (ann := (annG (Tryz.f86.body.getD .skip) 0 []).1) (c := Tryz.f86.body.getD .skip) Tryz.func86 (by kernel_rfl) (by kernel_rfl) (by kernel_rfl) (of_decide_eq_true (by kernel_rfl))
    (Eq.mpr (by kernel_rfl) H)

/-! milestone/graph.arcs -/

def sh_graph_arcs (P : Program) (r0 : Value) (h : Heap) (K : Value → Heap → Prop) : Prop :=
  pBox T_api_Raw r0 h fun r1 h_1 =>
  K (.func (.func F_graph_arcs_1) #[] #[r1]) h_1

set_option maxRecDepth 100000 in
theorem lk_graph_arcs (r0 : Value) {h : Heap} {K : Value → Heap → Prop} (H : sh_graph_arcs Tryz.prog r0 h K) : CallsH Tryz.prog F_graph_arcs [r0].toArray h K :=
  callsH_of (ann := (annG (Tryz.f87.body.getD .skip) 0 []).1) (c := Tryz.f87.body.getD .skip) Tryz.func87 (by kernel_rfl) (by kernel_rfl) (by kernel_rfl) (of_decide_eq_true (by kernel_rfl))
    (Eq.mpr (by kernel_rfl) H)

/-! milestone/net.one[milestone/api.Arc] -/

def sh_net_one_api_Arc_k1 (P : Program) (x4 : Value) (K : Value → Heap → Prop) (h_2 : Heap) : Prop :=
  pLoadN 3 h_2 x4 fun t14 =>
  pStore 3 x4 t14 h_2 fun u h_3 =>
  pLoadN 3 h_3 x4 fun res =>
  K (.tuple #[res, (.bool false)]) h_3

def sh_net_one_api_Arc (P : Program) (l0 i1 : Value) (h : Heap) (K : Value → Heap → Prop) : Prop :=
  pBox T_api_Arc (.agg #[(.int .i64 0), (.int .i64 0), (.int .i64 0)]) h fun x4 h_1 =>
  pBin .lss i1 (.int .i64 0) fun t7 =>
  ifV t7
  (sh_net_one_api_Arc_k1 P x4 K h_1)
  (pLen l0 fun t11 =>
  pBin .geq i1 t11 fun t12 =>
  ifV t12
  (sh_net_one_api_Arc_k1 P x4 K h_1)
  (pIdx 3 l0 i1 fun t17 =>
  pLoadN 3 h_1 t17 fun t18 =>
  pStore 3 x4 t18 h_1 fun u_1 h_4 =>
  pLoadN 3 h_4 x4 fun res_1 =>
  K (.tuple #[res_1, (.bool true)]) h_4))

set_option maxRecDepth 100000 in
theorem lk_net_one_api_Arc (l0 i1 : Value) {h : Heap} {K : Value → Heap → Prop} (H : sh_net_one_api_Arc Tryz.prog l0 i1 h K) : CallsH Tryz.prog F_net_one_api_Arc [l0, i1].toArray h K :=
  callsH_of (ann := (annG (Tryz.f92.body.getD .skip) 0 []).1) (c := Tryz.f92.body.getD .skip) Tryz.func92 (by kernel_rfl) (by kernel_rfl) (by kernel_rfl) (of_decide_eq_true (by kernel_rfl))
    (Eq.mpr (by kernel_rfl) H)

/-! math/bits.Mul32 -/

def sh_math_bits_Mul32 (P : Program) (x0 y1 : Value) (h : Heap) (K : Value → Heap → Prop) : Prop :=
  pConv .u64 x0 fun t8 =>
  pConv .u64 y1 fun t10 =>
  pBin .mul t8 t10 fun t11 =>
  pBin .shr t11 (.int .u64 32) fun t13 =>
  pConv .u32 t13 fun t14 =>
  pConv .u32 t11 fun t16 =>
  K (.tuple #[t14, t16]) h

set_option maxRecDepth 100000 in
theorem lk_math_bits_Mul32 (x0 y1 : Value) {h : Heap} {K : Value → Heap → Prop} (H : sh_math_bits_Mul32 Tryz.prog x0 y1 h K) : CallsH Tryz.prog F_math_bits_Mul32 [x0, y1].toArray h K :=
  callsH_of (ann := (annG (Tryz.f93.body.getD .skip) 0 []).1) (c := Tryz.f93.body.getD .skip) Tryz.func93 (by kernel_rfl) (by kernel_rfl) (by kernel_rfl) (of_decide_eq_true (by kernel_rfl))
    (Eq.mpr (by kernel_rfl) H)

/-! math/bits.Mul64 -/

def sh_math_bits_Mul64 (P : Program) (x0 y1 : Value) (h : Heap) (K : Value → Heap → Prop) : Prop :=
  pBin .and x0 (.int .u64 4294967295) fun t15 =>
  pBin .shr x0 (.int .u64 32) fun t17 =>
  pBin .and y1 (.int .u64 4294967295) fun t19 =>
  pBin .shr y1 (.int .u64 32) fun t21 =>
  pBin .mul t15 t19 fun t24 =>
  pBin .mul t17 t19 fun t27 =>
  pBin .shr t24 (.int .u64 32) fun t29 =>
  pBin .add t27 t29 fun t30 =>
  pBin .and t30 (.int .u64 4294967295) fun t32 =>
  pBin .shr t30 (.int .u64 32) fun t34 =>
  pBin .mul t15 t21 fun t38 =>
  pBin .add t32 t38 fun t39 =>
  pBin .mul t17 t21 fun t42 =>
  pBin .add t42 t34 fun t44 =>
  pBin .shr t39 (.int .u64 32) fun t46 =>
  pBin .add t44 t46 fun t47 =>
  pBin .mul x0 y1 fun t50 =>
  K (.tuple #[t47, t50]) h

set_option maxRecDepth 100000 in
theorem lk_math_bits_Mul64 (x0 y1 : Value) {h : Heap} {K : Value → Heap → Prop} (H : sh_math_bits_Mul64 Tryz.prog x0 y1 h K) : CallsH Tryz.prog F_math_bits_Mul64 [x0, y1].toArray h K :=
  callsH_of (ann := (annG (Tryz.f94.body.getD .skip) 0 []).1) (c := Tryz.f94.body.getD .skip) Tryz.func94 (by kernel_rfl) (by kernel_rfl) (by kernel_rfl) (of_decide_eq_true (by kernel_rfl))
    (Eq.mpr (by kernel_rfl) H)

/-! (*milestone/heap.row).ahead -/

def sh_heap_row_ahead (P : Program) (r0 i1 k2 : Value) (h : Heap) (K : Value → Heap → Prop) : Prop :=
  pNil r0 fun t8 =>
  pField 0 t8 fun t9 =>
  pLoad h t9 fun t10 =>
  pIdx 2 t10 i1 fun t12 =>
  pField 1 t12 fun t13 =>
  pLoad h t13 fun t14 =>
  pNil r0 fun t16 =>
  pField 0 t16 fun t17 =>
  pLoad h t17 fun t18 =>
  pIdx 2 t18 k2 fun t20 =>
  pField 1 t20 fun t21 =>
  pLoad h t21 fun t22 =>
  pNil r0 fun t25 =>
  pField 0 t25 fun t26 =>
  pLoad h t26 fun t27 =>
  pIdx 2 t27 i1 fun t29 =>
  pField 0 t29 fun t30 =>
  pLoad h t30 fun t31 =>
  pNil r0 fun t33 =>
  pField 0 t33 fun t34 =>
  pLoad h t34 fun t35 =>
  pIdx 2 t35 k2 fun t37 =>
  pField 0 t37 fun t38 =>
  pLoad h t38 fun t39 =>
  callS P F_cmp_Compare_int64 [t14, t22] h fun t23 h_1 =>
  (pLoad h_1 t26 fun t27_1 =>
  t27_1 = t27) ∧
  (pLoad h_1 t30 fun t31_1 =>
  t31_1 = t31) ∧
  (pLoad h_1 t34 fun t35_1 =>
  t35_1 = t35) ∧
  (pLoad h_1 t38 fun t39_1 =>
  t39_1 = t39) ∧
  (callS P F_cmp_Compare_int [t31, t39] h_1 fun t40 h_2 =>
  pBuildSlice T_int (zerosL [(.int .i64 0)] 2) [(0, 1, t23), (1, 1, t40)] 2 h_2 fun t41 h_3 =>
  callS P F_cmp_Or_int [t41] h_3 fun t42 h_4 =>
  pBin .lss t42 (.int .i64 0) fun t43 =>
  K t43 h_4)

set_option maxRecDepth 100000 in
theorem lk_heap_row_ahead (r0 i1 k2 : Value) {h : Heap} {K : Value → Heap → Prop} (H : sh_heap_row_ahead Tryz.prog r0 i1 k2 h K) : CallsH Tryz.prog F_heap_row_ahead [r0, i1, k2].toArray h K :=
  callsH_of (ann := (annG (Tryz.f95.body.getD .skip) 0 []).1) (c := Tryz.f95.body.getD .skip) Tryz.func95 (by kernel_rfl) (by kernel_rfl) (by kernel_rfl) (of_decide_eq_true (by kernel_rfl))
    (Eq.mpr (by kernel_rfl) H)

/-! (*milestone/heap.row).below -/

def sh_heap_row_below (P : Program) (r0 i1 : Value) (h : Heap) (K : Value → Heap → Prop) : Prop :=
  pBox T_p_heap_row r0 h fun r2 h_1 =>
  pBox T_int i1 h_1 fun i3 h_2 =>
  K (.func (.func F_heap_row_below_1) #[] #[i3, r2]) h_2

set_option maxRecDepth 100000 in
theorem lk_heap_row_below (r0 i1 : Value) {h : Heap} {K : Value → Heap → Prop} (H : sh_heap_row_below Tryz.prog r0 i1 h K) : CallsH Tryz.prog F_heap_row_below [r0, i1].toArray h K :=
  callsH_of (ann := (annG (Tryz.f96.body.getD .skip) 0 []).1) (c := Tryz.f96.body.getD .skip) Tryz.func96 (by kernel_rfl) (by kernel_rfl) (by kernel_rfl) (of_decide_eq_true (by kernel_rfl))
    (Eq.mpr (by kernel_rfl) H)

end Go.Proofs.YtjamcgoebnafkaaGreatDoor

namespace Go.Proofs.YtjamcgoebnafkaaGreatDoor
open Go Go.Mh
set_option maxHeartbeats 0
set_option linter.unusedVariables false

/-! slices.Values[[]milestone/graph.place,milestone/graph.place] -/

def sh_slices_Values_sl_graph_place_graph_place (P : Program) (s0 : Value) (h : Heap) (K : Value → Heap → Prop) : Prop :=
  pBox T_sl_graph_place s0 h fun s1 h_1 =>
  K (.func (.func F_slices_Values_sl_graph_place_graph_place_1) #[] #[s1]) h_1

set_option maxRecDepth 100000 in
theorem lk_slices_Values_sl_graph_place_graph_place (s0 : Value) {h : Heap} {K : Value → Heap → Prop} (H : sh_slices_Values_sl_graph_place_graph_place Tryz.prog s0 h K) : CallsH Tryz.prog F_slices_Values_sl_graph_place_graph_place [s0].toArray h K :=
  callsH_of (ann := (annG (Tryz.f97.body.getD .skip) 0 []).1) (c := Tryz.f97.body.getD .skip) Tryz.func97 (by kernel_rfl) (by kernel_rfl) (by kernel_rfl) (of_decide_eq_true (by kernel_rfl))
    (Eq.mpr (by kernel_rfl) H)

/-! milestone/graph.nodes$1 -/

def sh_graph_nodes_1_L2 (P : Program) (t23 t22 t9 yield0 : Value) (K Z : Value → Heap → Prop) (t24 : Value) (h_3 : Heap) (Z_1 : Value → Heap → Prop) : Prop :=
  pBin .lss t24 t23 fun t25 =>
  ifV t25
  (pIdx 1 t22 t24 fun t27 =>
  pLoad h_3 t27 fun t28 =>
  pBuild [(.int .i64 0), (.int .i64 0), (.int .i64 0), (.int .i64 0), (.int .i64 0), (.int .i64 0)] [(0, 1, t9), (1, 1, t24), (2, 1, (.int .i64 7)), (3, 1, t28), (4, 1, (.int .i64 (-2147483648))), (5, 1, (.int .i64 2147483648))] fun t33 =>
  callV P yield0 [t33].toArray h_3 fun t34 h_4 =>
  pUn .not t34 fun t35 =>
  ifV t35
  (K (.tuple #[]) h_4)
  (pBin .add t24 (.int .i64 1) fun t36 =>
  Z_1 t36 h_4))
  (pBin .add t9 (.int .i64 1) fun t37 =>
  Z t37 h_3)

def sh_graph_nodes_1_L1 (P : Program) (t8 t1 yield0 : Value) (K : Value → Heap → Prop) (t9 : Value) (h_1 : Heap) (Z : Value → Heap → Prop) : Prop :=
  pBin .lss t9 t8 fun t10 =>
  ifV t10
  (pField 1 t1 fun t12 =>
  pLoad h_1 t12 fun t13 =>
  pIdx 1 t13 t9 fun t15 =>
  pLoad h_1 t15 fun t16 =>
  pField 2 t1 fun t17 =>
  pLoad h_1 t17 fun t18 =>
  pIdx 1 t18 t9 fun t20 =>
  pLoad h_1 t20 fun t21 =>
  pBuildSlice T_int64 (zerosL [(.int .i64 0)] 2) [(0, 1, t16), (1, 1, t21)] 2 h_1 fun t22 h_2 =>
  pLen t22 fun t23 =>
  LoopH (σ := Vals [24]) (fun x hh ZZ => sh_graph_nodes_1_L2 P t23 t22 t9 yield0 K Z x.1 hh (fun a0 hz => ZZ (a0, ()) hz)) ((.int .i64 0), ()) h_2)
  (K (.tuple #[]) h_1)

def sh_graph_nodes_1 (P : Program) (yield0 t1 : Value) (h : Heap) (K : Value → Heap → Prop) : Prop :=
  pField 1 t1 fun t6 =>
  pLoad h t6 fun t7 =>
  pLen t7 fun t8 =>
  LoopH (σ := Vals [9]) (fun x hh ZZ => sh_graph_nodes_1_L1 P t8 t1 yield0 K x.1 hh (fun a0 hz => ZZ (a0, ()) hz)) ((.int .i64 0), ()) h

set_option maxRecDepth 100000 in
theorem lk_graph_nodes_1 (yield0 t1 : Value) {h : Heap} {K : Value → Heap → Prop} (H : sh_graph_nodes_1 Tryz.prog yield0 t1 h K) : CallsH Tryz.prog F_graph_nodes_1 [yield0, t1].toArray h K :=
  callsH_of (ann := (annG (Tryz.f98.body.getD .skip) 0 [(1, [9]), (7, [24])]).1) (c := Tryz.f98.body.getD .skip) Tryz.func98 (by kernel_rfl) (by kernel_rfl) (by kernel_rfl) (of_decide_eq_true (by kernel_rfl))
    (Eq.mpr (by kernel_rfl) H)

/-! milestone/graph.arcs$1 -/

def sh_graph_arcs_1_L2 (P : Program) (t33 t32 yield0 : Value) (K : Value → Heap → Prop) (t13 : Value) (Z : Value → Heap → Prop) (t34 : Value) (h_5 : Heap) (Z_1 : Value → Heap → Prop) : Prop :=
  pBin .lss t34 t33 fun t35 =>
  ifV t35
  (pIdx 6 t32 t34 fun t36 =>
  pLoadN 6 h_5 t36 fun t37 =>
  pBox T_graph_place (.agg #[(.int .i64 0), (.int .i64 0), (.int .i64 0), (.int .i64 0), (.int .i64 0), (.int .i64 0)]) h_5 fun p7 h_6 =>
  pStore 6 p7 t37 h_6 fun u_1 h_7 =>
  pLoadN 6 h_7 p7 fun t39 =>
  callV P yield0 [t39].toArray h_7 fun t40 h_8 =>
  pUn .not t40 fun t41 =>
  ifV t41
  (K (.tuple #[]) h_8)
  (pBin .add t34 (.int .i64 1) fun t42 =>
  Z_1 t42 h_8))
  (pBin .add t13 (.int .i64 1) fun t43 =>
  Z t43 h_5)

def sh_graph_arcs_1_L1 (P : Program) (t12 t11 t9 yield0 : Value) (K : Value → Heap → Prop) (t13 : Value) (h_1 : Heap) (Z : Value → Heap → Prop) : Prop :=
  pBin .lss t13 t12 fun t14 =>
  ifV t14
  (pIdx 3 t11 t13 fun t16 =>
  pLoadN 3 h_1 t16 fun t17 =>
  pBox T_api_Arc (.agg #[(.int .i64 0), (.int .i64 0), (.int .i64 0)]) h_1 fun a5 h_2 =>
  pStore 3 a5 t17 h_2 fun u h_3 =>
  pField 0 a5 fun t19 =>
  pLoad h_3 t19 fun t20 =>
  pBuild [(.int .i64 0), (.int .i64 0), (.int .i64 0), (.int .i64 0), (.int .i64 0), (.int .i64 0)] [(0, 1, t13), (1, 1, (.int .i64 0)), (2, 1, (.int .i64 9)), (3, 1, t20), (4, 1, (.int .i64 0)), (5, 1, t9)] fun t22 =>
  pField 1 a5 fun t24 =>
  pLoad h_3 t24 fun t25 =>
  pBuild [(.int .i64 0), (.int .i64 0), (.int .i64 0), (.int .i64 0), (.int .i64 0), (.int .i64 0)] [(0, 1, t13), (1, 1, (.int .i64 1)), (2, 1, (.int .i64 9)), (3, 1, t25), (4, 1, (.int .i64 0)), (5, 1, t9)] fun t27 =>
  pField 2 a5 fun t29 =>
  pLoad h_3 t29 fun t30 =>
  pBuild [(.int .i64 0), (.int .i64 0), (.int .i64 0), (.int .i64 0), (.int .i64 0), (.int .i64 0)] [(0, 1, t13), (1, 1, (.int .i64 2)), (2, 1, (.int .i64 10)), (3, 1, t30), (4, 1, (.int .i64 0)), (5, 1, (.int .i64 2147483648))] fun t31 =>
  pBuildSlice T_graph_place (zerosL [(.int .i64 0), (.int .i64 0), (.int .i64 0), (.int .i64 0), (.int .i64 0), (.int .i64 0)] 3) [(0, 6, t22), (6, 6, t27), (12, 6, t31)] 3 h_3 fun t32 h_4 =>
  pLen t32 fun t33 =>
  LoopH (σ := Vals [34]) (fun x hh ZZ => sh_graph_arcs_1_L2 P t33 t32 yield0 K t13 Z x.1 hh (fun a0 hz => ZZ (a0, ()) hz)) ((.int .i64 0), ()) h_4)
  (K (.tuple #[]) h_1)

def sh_graph_arcs_1 (P : Program) (yield0 t1 : Value) (h : Heap) (K : Value → Heap → Prop) : Prop :=
  pField 0 t1 fun t8 =>
  pLoad h t8 fun t9 =>
  pField 3 t1 fun t10 =>
  pLoad h t10 fun t11 =>
  pLen t11 fun t12 =>
  LoopH (σ := Vals [13]) (fun x hh ZZ => sh_graph_arcs_1_L1 P t12 t11 t9 yield0 K x.1 hh (fun a0 hz => ZZ (a0, ()) hz)) ((.int .i64 0), ()) h

set_option maxRecDepth 100000 in
theorem lk_graph_arcs_1 (yield0 t1 : Value) {h : Heap} {K : Value → Heap → Prop} (H : sh_graph_arcs_1 Tryz.prog yield0 t1 h K) : CallsH Tryz.prog F_graph_arcs_1 [yield0, t1].toArray h K :=
  callsH_of (ann := (annG (Tryz.f99.body.getD .skip) 0 [(2, [13]), (8, [34])]).1) (c := Tryz.f99.body.getD .skip) Tryz.func99 (by kernel_rfl) (by kernel_rfl) (by kernel_rfl) (of_decide_eq_true (by kernel_rfl))
    (Eq.mpr (by kernel_rfl) H)

/-! cmp.Or[int] -/

def sh_cmp_Or_int_L1 (P : Program) (t7 vals0 : Value) (K : Value → Heap → Prop) (t8 : Value) (h_1 : Heap) (Z : Value → Heap → Prop) : Prop :=
  pBin .lss t8 t7 fun t9 =>
  ifV t9
  (pIdx 1 vals0 t8 fun t10 =>
  pLoad h_1 t10 fun t11 =>
  pBin .neq t11 (.int .i64 0) fun t14 =>
  ifV t14
  (K t11 h_1)
  (pBin .add t8 (.int .i64 1) fun t16 =>
  Z t16 h_1))
  (K (.int .i64 0) h_1)

def sh_cmp_Or_int (P : Program) (vals0 : Value) (h : Heap) (K : Value → Heap → Prop) : Prop :=
  pLen vals0 fun t7 =>
  LoopH (σ := Vals [8]) (fun x hh ZZ => sh_cmp_Or_int_L1 P t7 vals0 K x.1 hh (fun a0 hz => ZZ (a0, ()) hz)) ((.int .i64 0), ()) h

set_option maxRecDepth 100000 in
theorem lk_cmp_Or_int (vals0 : Value) {h : Heap} {K : Value → Heap → Prop} (H : sh_cmp_Or_int Tryz.prog vals0 h K) : CallsH Tryz.prog F_cmp_Or_int [vals0].toArray h K :=
  callsH_of (ann := (annG (Tryz.f103.body.getD .skip) 0 [(4, [8])]).1) (c := Tryz.f103.body.getD .skip) Tryz.func103 (by kernel_rfl) (by kernel_rfl) (by kernel_rfl) (of_decide_eq_true (by kernel_rfl))
    (Eq.mpr (by kernel_rfl) H)

/-! cmp.Compare[int64] -/

def sh_cmp_Compare_int64 (P : Program) (x0 y1 : Value) (h : Heap) (K : Value → Heap → Prop) : Prop :=
  callS P F_cmp_isNaN_int64 [x0] h fun t8 h_1 =>
  callS P F_cmp_isNaN_int64 [y1] h_1 fun t10 h_2 =>
  ifV t8
  (ifV t10
  (K (.int .i64 0) h_2)
  (K (.int .i64 (-1)) h_2))
  (ifV t10
  (K (.int .i64 1) h_2)
  (pBin .lss x0 y1 fun t16 =>
  ifV t16
  (K (.int .i64 (-1)) h_2)
  (pBin .gtr x0 y1 fun t19 =>
  ifV t19
  (K (.int .i64 1) h_2)
  (K (.int .i64 0) h_2))))

set_option maxRecDepth 100000 in
theorem lk_cmp_Compare_int64 (x0 y1 : Value) {h : Heap} {K : Value → Heap → Prop} (H : sh_cmp_Compare_int64 Tryz.prog x0 y1 h K) : CallsH Tryz.prog F_cmp_Compare_int64 [x0, y1].toArray h K :=
  callsH_of (ann := (annG (Tryz.f104.body.getD .skip) 0 []).1) (c := Tryz.f104.body.getD .skip) Tryz.func104 (by kernel_rfl) (by kernel_rfl) (by kernel_rfl) (of_decide_eq_true (by kernel_rfl))
    (Eq.mpr (by kernel_rfl) H)

/-! cmp.Compare[int] -/

def sh_cmp_Compare_int (P : Program) (x0 y1 : Value) (h : Heap) (K : Value → Heap → Prop) : Prop :=
  callS P F_cmp_isNaN_int [x0] h fun t8 h_1 =>
  callS P F_cmp_isNaN_int [y1] h_1 fun t10 h_2 =>
  ifV t8
  (ifV t10
  (K (.int .i64 0) h_2)
  (K (.int .i64 (-1)) h_2))
  (ifV t10
  (K (.int .i64 1) h_2)
  (pBin .lss x0 y1 fun t16 =>
  ifV t16
  (K (.int .i64 (-1)) h_2)
  (pBin .gtr x0 y1 fun t19 =>
  ifV t19
  (K (.int .i64 1) h_2)
  (K (.int .i64 0) h_2))))

set_option maxRecDepth 100000 in
theorem lk_cmp_Compare_int (x0 y1 : Value) {h : Heap} {K : Value → Heap → Prop} (H : sh_cmp_Compare_int Tryz.prog x0 y1 h K) : CallsH Tryz.prog F_cmp_Compare_int [x0, y1].toArray h K :=
  callsH_of (ann := (annG (Tryz.f105.body.getD .skip) 0 []).1) (c := Tryz.f105.body.getD .skip) Tryz.func105 (by kernel_rfl) (by kernel_rfl) (by kernel_rfl) (of_decide_eq_true (by kernel_rfl))
    (Eq.mpr (by kernel_rfl) H)

/-! (*milestone/heap.row).below$1 -/

def sh_heap_row_below_1_L1 (P : Program) (t1 t2 yield0 : Value) (K : Value → Heap → Prop) (k4 : Value) (h_1 : Heap) (Z : Value → Heap → Prop) : Prop :=
  pLoad h_1 t1 fun t9 =>
  pBin .mul (.int .i64 4) t9 fun t10 =>
  pBin .add t10 (.int .i64 4) fun t11 =>
  pBin .leq k4 t11 fun t12 =>
  ifV t12
  (pLoad h_1 t2 fun t15 =>
  pNil t15 fun t16 =>
  pField 0 t16 fun t17 =>
  pLoad h_1 t17 fun t18 =>
  pLen t18 fun t19 =>
  pBin .lss k4 t19 fun t20 =>
  ifV t20
  (callV P yield0 [k4].toArray h_1 fun t26 h_2 =>
  pUn .not t26 fun t27 =>
  ifV t27
  (K (.tuple #[]) h_2)
  (pBin .add k4 (.int .i64 1) fun t23 =>
  Z t23 h_2))
  (K (.tuple #[]) h_1))
  (K (.tuple #[]) h_1)

def sh_heap_row_below_1 (P : Program) (yield0 t1 t2 : Value) (h : Heap) (K : Value → Heap → Prop) : Prop :=
  pLoad h t1 fun t5 =>
  pBin .mul (.int .i64 4) t5 fun t6 =>
  pBin .add t6 (.int .i64 1) fun t7 =>
  LoopH (σ := Vals [4]) (fun x hh ZZ => sh_heap_row_below_1_L1 P t1 t2 yield0 K x.1 hh (fun a0 hz => ZZ (a0, ()) hz)) (t7, ()) h

set_option maxRecDepth 100000 in
theorem lk_heap_row_below_1 (yield0 t1 t2 : Value) {h : Heap} {K : Value → Heap → Prop} (H : sh_heap_row_below_1 Tryz.prog yield0 t1 t2 h K) : CallsH Tryz.prog F_heap_row_below_1 [yield0, t1, t2].toArray h K :=
  callsH_of (ann := (annG (Tryz.f106.body.getD .skip) 0 [(1, [4])]).1) (c := Tryz.f106.body.getD .skip) Tryz.func106 (by kernel_rfl) (by kernel_rfl) (by kernel_rfl) (of_decide_eq_true (by kernel_rfl))
    (Eq.mpr (by kernel_rfl) H)

/-! slices.Values[[]milestone/graph.place,milestone/graph.place]$1 -/

def sh_slices_Values_sl_graph_place_graph_place_1_L1 (P : Program) (t6 t5 yield0 : Value) (K : Value → Heap → Prop) (t7 : Value) (h_1 : Heap) (Z : Value → Heap → Prop) : Prop :=
  pBin .lss t7 t6 fun t8 =>
  ifV t8
  (pIdx 6 t5 t7 fun t9 =>
  pLoadN 6 h_1 t9 fun t10 =>
  pBox T_graph_place (.agg #[(.int .i64 0), (.int .i64 0), (.int .i64 0), (.int .i64 0), (.int .i64 0), (.int .i64 0)]) h_1 fun v4 h_2 =>
  pStore 6 v4 t10 h_2 fun u h_3 =>
  pLoadN 6 h_3 v4 fun t12 =>
  callV P yield0 [t12].toArray h_3 fun t13 h_4 =>
  pUn .not t13 fun t14 =>
  ifV t14
  (K (.tuple #[]) h_4)
  (pBin .add t7 (.int .i64 1) fun t15 =>
  Z t15 h_4))
  (K (.tuple #[]) h_1)

def sh_slices_Values_sl_graph_place_graph_place_1 (P : Program) (yield0 t1 : Value) (h : Heap) (K : Value → Heap → Prop) : Prop :=
  pLoad h t1 fun t5 =>
  pLen t5 fun t6 =>
  LoopH (σ := Vals [7]) (fun x hh ZZ => sh_slices_Values_sl_graph_place_graph_place_1_L1 P t6 t5 yield0 K x.1 hh (fun a0 hz => ZZ (a0, ()) hz)) ((.int .i64 0), ()) h

set_option maxRecDepth 100000 in
theorem lk_slices_Values_sl_graph_place_graph_place_1 (yield0 t1 : Value) {h : Heap} {K : Value → Heap → Prop} (H : sh_slices_Values_sl_graph_place_graph_place_1 Tryz.prog yield0 t1 h K) : CallsH Tryz.prog F_slices_Values_sl_graph_place_graph_place_1 [yield0, t1].toArray h K :=
  callsH_of (ann := (annG (Tryz.f107.body.getD .skip) 0 [(1, [7])]).1) (c := Tryz.f107.body.getD .skip) Tryz.func107 (by kernel_rfl) (by kernel_rfl) (by kernel_rfl) (of_decide_eq_true (by kernel_rfl))
    (Eq.mpr (by kernel_rfl) H)

/-! cmp.isNaN[int64] -/

def sh_cmp_isNaN_int64 (P : Program) (x0 : Value) (h : Heap) (K : Value → Heap → Prop) : Prop :=
  pBin .neq x0 x0 fun t5 =>
  K t5 h

set_option maxRecDepth 100000 in
theorem lk_cmp_isNaN_int64 (x0 : Value) {h : Heap} {K : Value → Heap → Prop} (H : sh_cmp_isNaN_int64 Tryz.prog x0 h K) : CallsH Tryz.prog F_cmp_isNaN_int64 [x0].toArray h K :=
  callsH_of (ann := (annG (Tryz.f108.body.getD .skip) 0 []).1) (c := Tryz.f108.body.getD .skip) Tryz.func108 (by kernel_rfl) (by kernel_rfl) (by kernel_rfl) (of_decide_eq_true (by kernel_rfl))
    (Eq.mpr (by kernel_rfl) H)

/-! cmp.isNaN[int] -/

def sh_cmp_isNaN_int (P : Program) (x0 : Value) (h : Heap) (K : Value → Heap → Prop) : Prop :=
  pBin .neq x0 x0 fun t5 =>
  K t5 h

set_option maxRecDepth 100000 in
theorem lk_cmp_isNaN_int (x0 : Value) {h : Heap} {K : Value → Heap → Prop} (H : sh_cmp_isNaN_int Tryz.prog x0 h K) : CallsH Tryz.prog F_cmp_isNaN_int [x0].toArray h K :=
  callsH_of (ann := (annG (Tryz.f109.body.getD .skip) 0 []).1) (c := Tryz.f109.body.getD .skip) Tryz.func109 (by kernel_rfl) (by kernel_rfl) (by kernel_rfl) (of_decide_eq_true (by kernel_rfl))
    (Eq.mpr (by kernel_rfl) H)

end Go.Proofs.YtjamcgoebnafkaaGreatDoor


