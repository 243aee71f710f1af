/- Texts of the proofs of seat YtdbkeklhjjlhbaaGreat, joined: Gen6, Gen7, Gen. They have no conditions of their own. -/
import Derived.Test.YtdbkeklhjjlhbaaGreatGa
set_option linter.unusedVariables false
set_option linter.unusedSimpArgs false
set_option linter.unusedSectionVars false

namespace Go.Proofs.YtdbkeklhjjlhbaaGreat
open Go Go.Mh
set_option maxHeartbeats 0
set_option linter.unusedVariables false

/-! maps.Keys[milestone/disk.directory,string,int] -/

def sh_maps_Keys_disk_directory_string_int (P : Program) (m0 : Value) (h : Heap) (K : Value → Heap → Prop) : Prop :=
  pBox T_disk_directory m0 h fun m1 h_1 =>
  K (.func (.func F_maps_Keys_disk_directory_string_int_1) #[] #[m1]) h_1

set_option maxRecDepth 100000 in
theorem lk_maps_Keys_disk_directory_string_int (m0 : Value) {h : Heap} {K : Value → Heap → Prop} (H : sh_maps_Keys_disk_directory_string_int Tryz.prog m0 h K) : CallsH Tryz.prog F_maps_Keys_disk_directory_string_int [m0].toArray h K :=
  callsH_of (ann := (annG (Tryz.f91.body.getD .skip) 0 []).1) (c := Tryz.f91.body.getD .skip) Tryz.func91 (by kernel_rfl) (by kernel_rfl) (by kernel_rfl) (of_decide_eq_true (by kernel_rfl))
    (Eq.mpr (by kernel_rfl) H)

/-! math/bits.Mul32 -/

def sh_math_bits_Mul32 (P : Program) (x0 y1 : Value) (h : Heap) (K : Value → Heap → Prop) : Prop :=
  pConv .u64 x0 fun t8 =>
  pConv .u64 y1 fun t10 =>
  pBin .mul t8 t10 fun t11 =>
  pBin .shr t11 (.int .u64 32) fun t13 =>
  pConv .u32 t13 fun t14 =>
  pConv .u32 t11 fun t16 =>
  K (.tuple #[t14, t16]) h

set_option maxRecDepth 100000 in
theorem lk_math_bits_Mul32 (x0 y1 : Value) {h : Heap} {K : Value → Heap → Prop} (H : sh_math_bits_Mul32 Tryz.prog x0 y1 h K) : CallsH Tryz.prog F_math_bits_Mul32 [x0, y1].toArray h K :=
  callsH_of (ann := (annG (Tryz.f92.body.getD .skip) 0 []).1) (c := Tryz.f92.body.getD .skip) Tryz.func92 (by kernel_rfl) (by kernel_rfl) (by kernel_rfl) (of_decide_eq_true (by kernel_rfl))
    (Eq.mpr (by kernel_rfl) H)

/-! math/bits.Mul64 -/

def sh_math_bits_Mul64 (P : Program) (x0 y1 : Value) (h : Heap) (K : Value → Heap → Prop) : Prop :=
  pBin .and x0 (.int .u64 4294967295) fun t15 =>
  pBin .shr x0 (.int .u64 32) fun t17 =>
  pBin .and y1 (.int .u64 4294967295) fun t19 =>
  pBin .shr y1 (.int .u64 32) fun t21 =>
  pBin .mul t15 t19 fun t24 =>
  pBin .mul t17 t19 fun t27 =>
  pBin .shr t24 (.int .u64 32) fun t29 =>
  pBin .add t27 t29 fun t30 =>
  pBin .and t30 (.int .u64 4294967295) fun t32 =>
  pBin .shr t30 (.int .u64 32) fun t34 =>
  pBin .mul t15 t21 fun t38 =>
  pBin .add t32 t38 fun t39 =>
  pBin .mul t17 t21 fun t42 =>
  pBin .add t42 t34 fun t44 =>
  pBin .shr t39 (.int .u64 32) fun t46 =>
  pBin .add t44 t46 fun t47 =>
  pBin .mul x0 y1 fun t50 =>
  K (.tuple #[t47, t50]) h

set_option maxRecDepth 100000 in
theorem lk_math_bits_Mul64 (x0 y1 : Value) {h : Heap} {K : Value → Heap → Prop} (H : sh_math_bits_Mul64 Tryz.prog x0 y1 h K) : CallsH Tryz.prog F_math_bits_Mul64 [x0, y1].toArray h K :=
  callsH_of (ann := (annG (Tryz.f93.body.getD .skip) 0 []).1) (c := Tryz.f93.body.getD .skip) Tryz.func93 (by kernel_rfl) (by kernel_rfl) (by kernel_rfl) (of_decide_eq_true (by kernel_rfl))
    (Eq.mpr (by kernel_rfl) H)

/-! internal/stringslite.HasPrefix -/

def sh_internal_stringslite_HasPrefix (P : Program) (s0 prefix1 : Value) (h : Heap) (K : Value → Heap → Prop) : Prop :=
  pLenS s0 fun t6 =>
  pLenS prefix1 fun t8 =>
  pBin .geq t6 t8 fun t9 =>
  ifV t9
  (pLenS prefix1 fun t13 =>
  pSliceS s0 none (some t13) fun t14 =>
  pBin .eql t14 prefix1 fun t16 =>
  K t16 h)
  (K (.bool false) h)

set_option maxRecDepth 100000 in
theorem lk_internal_stringslite_HasPrefix (s0 prefix1 : Value) {h : Heap} {K : Value → Heap → Prop} (H : sh_internal_stringslite_HasPrefix Tryz.prog s0 prefix1 h K) : CallsH Tryz.prog F_internal_stringslite_HasPrefix [s0, prefix1].toArray h K :=
  callsH_of (ann := (annG (Tryz.f94.body.getD .skip) 0 []).1) (c := Tryz.f94.body.getD .skip) Tryz.func94 (by kernel_rfl) (by kernel_rfl) (by kernel_rfl) (of_decide_eq_true (by kernel_rfl))
    (Eq.mpr (by kernel_rfl) H)

/-! slices.IndexFunc[[]string,string] -/

def sh_slices_IndexFunc_sl_string_string_L1 (P : Program) (t7 s0 f1 : Value) (K : Value → Heap → Prop) (t8 : Value) (h_1 : Heap) (Z : Value → Heap → Prop) : Prop :=
  pBin .lss t8 t7 fun t9 =>
  ifV t9
  (pIdx 1 s0 t8 fun t14 =>
  pLoad h_1 t14 fun t15 =>
  callV P f1 [t15].toArray h_1 fun t16 h_2 =>
  ifV t16
  (K t8 h_2)
  (pBin .add t8 (.int .i64 1) fun t18 =>
  Z t18 h_2))
  (K (.int .i64 (-1)) h_1)

def sh_slices_IndexFunc_sl_string_string (P : Program) (s0 f1 : Value) (h : Heap) (K : Value → Heap → Prop) : Prop :=
  pLen s0 fun t7 =>
  LoopH (σ := Vals [8]) (fun x hh ZZ => sh_slices_IndexFunc_sl_string_string_L1 P t7 s0 f1 K x.1 hh (fun a0 hz => ZZ (a0, ()) hz)) ((.int .i64 0), ()) h

set_option maxRecDepth 100000 in
theorem lk_slices_IndexFunc_sl_string_string (s0 f1 : Value) {h : Heap} {K : Value → Heap → Prop} (H : sh_slices_IndexFunc_sl_string_string Tryz.prog s0 f1 h K) : CallsH Tryz.prog F_slices_IndexFunc_sl_string_string [s0, f1].toArray h K :=
  callsH_of (ann := (annG (Tryz.f95.body.getD .skip) 0 [(3, [8])]).1) (c := Tryz.f95.body.getD .skip) Tryz.func95 (by kernel_rfl) (by kernel_rfl) (by kernel_rfl) (of_decide_eq_true (by kernel_rfl))
    (Eq.mpr (by kernel_rfl) H)

/-! slices.Collect[int] -/

def sh_slices_Collect_int (P : Program) (seq0 : Value) (h : Heap) (K : Value → Heap → Prop) : Prop :=
  callS P F_slices_AppendSeq_sl_int_int [(.slice none 0 0), seq0] h fun t4 h_1 =>
  K t4 h_1

set_option maxRecDepth 100000 in
theorem lk_slices_Collect_int (seq0 : Value) {h : Heap} {K : Value → Heap → Prop} (H : sh_slices_Collect_int Tryz.prog seq0 h K) : CallsH Tryz.prog F_slices_Collect_int [seq0].toArray h K :=
  callsH_of (ann := (annG (Tryz.f96.body.getD .skip) 0 []).1) (c := Tryz.f96.body.getD .skip) Tryz.func96 (by kernel_rfl) (by kernel_rfl) (by kernel_rfl) (of_decide_eq_true (by kernel_rfl))
    (Eq.mpr (by kernel_rfl) H)

/-! slices.Sort[[]int,int] -/

def sh_slices_Sort_sl_int_int (P : Program) (x0 : Value) (h : Heap) (K : Value → Heap → Prop) : Prop :=
  pLen x0 fun t4 =>
  pConv .u64 t4 fun t8 =>
  callS P F_math_bits_Len [t8] h fun t9 h_1 =>
  callS P F_slices_pdqsortOrdered_int [x0, (.int .i64 0), t4, t9] h_1 fun t10 h_2 =>
  K (.tuple #[]) h_2

set_option maxRecDepth 100000 in
theorem lk_slices_Sort_sl_int_int (x0 : Value) {h : Heap} {K : Value → Heap → Prop} (H : sh_slices_Sort_sl_int_int Tryz.prog x0 h K) : CallsH Tryz.prog F_slices_Sort_sl_int_int [x0].toArray h K :=
  callsH_of (ann := (annG (Tryz.f97.body.getD .skip) 0 []).1) (c := Tryz.f97.body.getD .skip) Tryz.func97 (by kernel_rfl) (by kernel_rfl) (by kernel_rfl) (of_decide_eq_true (by kernel_rfl))
    (Eq.mpr (by kernel_rfl) H)

/-! maps.Values[milestone/disk.directory,string,int]$1 -/

def sh_maps_Values_disk_directory_string_int_1_L1 (P : Program) (t6 yield0 : Value) (K : Value → Heap → Prop) (h_2 : Heap) (Z : Heap → Prop) : Prop :=
  pNextM t6 h_2 fun t7 h_3 =>
  pExt t7 0 fun t8 =>
  ifV t8
  (pEntryM t6 h_3 fun t9 =>
  pExt t9 1 fun t10 =>
  callV P yield0 [t10].toArray h_3 fun t13 h_4 =>
  pUn .not t13 fun t14 =>
  ifV t14
  (K (.tuple #[]) h_4)
  (Z h_4))
  (K (.tuple #[]) h_3)

def sh_maps_Values_disk_directory_string_int_1 (P : Program) (yield0 t1 : Value) (h : Heap) (K : Value → Heap → Prop) : Prop :=
  pLoad h t1 fun t5 =>
  pRangeM t5 h fun t6 h_1 =>
  LoopH (σ := Vals []) (fun x hh ZZ => sh_maps_Values_disk_directory_string_int_1_L1 P t6 yield0 K hh (fun hz => ZZ () hz)) () h_1

set_option maxRecDepth 100000 in
theorem lk_maps_Values_disk_directory_string_int_1 (yield0 t1 : Value) {h : Heap} {K : Value → Heap → Prop} (H : sh_maps_Values_disk_directory_string_int_1 Tryz.prog yield0 t1 h K) : CallsH Tryz.prog F_maps_Values_disk_directory_string_int_1 [yield0, t1].toArray h K :=
  callsH_of (ann := (annG (Tryz.f98.body.getD .skip) 0 [(1, [])]).1) (c := Tryz.f98.body.getD .skip) Tryz.func98 (by kernel_rfl) (by kernel_rfl) (by kernel_rfl) (of_decide_eq_true (by kernel_rfl))
    (Eq.mpr (by kernel_rfl) H)

/-! slices.Sort[[]string,string] -/

def sh_slices_Sort_sl_string_string (P : Program) (x0 : Value) (h : Heap) (K : Value → Heap → Prop) : Prop :=
  pLen x0 fun t4 =>
  pConv .u64 t4 fun t8 =>
  callS P F_math_bits_Len [t8] h fun t9 h_1 =>
  callS P F_slices_pdqsortOrdered_string [x0, (.int .i64 0), t4, t9] h_1 fun t10 h_2 =>
  K (.tuple #[]) h_2

set_option maxRecDepth 100000 in
theorem lk_slices_Sort_sl_string_string (x0 : Value) {h : Heap} {K : Value → Heap → Prop} (H : sh_slices_Sort_sl_string_string Tryz.prog x0 h K) : CallsH Tryz.prog F_slices_Sort_sl_string_string [x0].toArray h K :=
  callsH_of (ann := (annG (Tryz.f101.body.getD .skip) 0 []).1) (c := Tryz.f101.body.getD .skip) Tryz.func101 (by kernel_rfl) (by kernel_rfl) (by kernel_rfl) (of_decide_eq_true (by kernel_rfl))
    (Eq.mpr (by kernel_rfl) H)

/-! maps.Keys[milestone/disk.directory,string,int]$1 -/

def sh_maps_Keys_disk_directory_string_int_1_L1 (P : Program) (t5 yield0 : Value) (K : Value → Heap → Prop) (h_2 : Heap) (Z : Heap → Prop) : Prop :=
  pNextM t5 h_2 fun t6 h_3 =>
  pExt t6 0 fun t7 =>
  ifV t7
  (pEntryM t5 h_3 fun t8 =>
  pExt t8 0 fun t9 =>
  callV P yield0 [t9].toArray h_3 fun t12 h_4 =>
  pUn .not t12 fun t13 =>
  ifV t13
  (K (.tuple #[]) h_4)
  (Z h_4))
  (K (.tuple #[]) h_3)

def sh_maps_Keys_disk_directory_string_int_1 (P : Program) (yield0 t1 : Value) (h : Heap) (K : Value → Heap → Prop) : Prop :=
  pLoad h t1 fun t4 =>
  pRangeM t4 h fun t5 h_1 =>
  LoopH (σ := Vals []) (fun x hh ZZ => sh_maps_Keys_disk_directory_string_int_1_L1 P t5 yield0 K hh (fun hz => ZZ () hz)) () h_1

set_option maxRecDepth 100000 in
theorem lk_maps_Keys_disk_directory_string_int_1 (yield0 t1 : Value) {h : Heap} {K : Value → Heap → Prop} (H : sh_maps_Keys_disk_directory_string_int_1 Tryz.prog yield0 t1 h K) : CallsH Tryz.prog F_maps_Keys_disk_directory_string_int_1 [yield0, t1].toArray h K :=
  callsH_of (ann := (annG (Tryz.f102.body.getD .skip) 0 [(1, [])]).1) (c := Tryz.f102.body.getD .skip) Tryz.func102 (by kernel_rfl) (by kernel_rfl) (by kernel_rfl) (of_decide_eq_true (by kernel_rfl))
    (Eq.mpr (by kernel_rfl) H)

/-! slices.AppendSeq[[]int,int] -/

def sh_slices_AppendSeq_sl_int_int_B1 (P : Program) (h_1 : Heap) (s2 : Value) (L : Loop) (t7 : Value) (h_2 : Heap) (R : Exit → Heap → Prop) : Prop :=
  beginR (h_1.size + 1) L h_2 fun h_3 =>
  pLoad h_3 s2 fun t8 =>
  pBuildSlice T_int (zerosL [(.int .i64 0)] 1) [(0, 1, t7)] 1 h_3 fun t10 h_4 =>
  pAppend T_int 1 8 [(.int .i64 0)] t8 t10 h_4 fun t11 h_5 =>
  pStore 1 s2 t11 h_5 fun u h_6 =>
  R .normal h_6

def sh_slices_AppendSeq_sl_int_int (P : Program) (s0 seq1 : Value) (h : Heap) (K : Value → Heap → Prop) : Prop :=
  pBox T_sl_int s0 h fun s2 h_1 =>
  rangeH P seq1 [7] (h_1.size + 1) (h_1.push (.deferred (some []))) (fun L x hh R => sh_slices_AppendSeq_sl_int_int_B1 P h_1 s2 L x.1 hh R)
  (fun h_7 => pLoad h_7 s2 fun t12 =>
  takeM (h_1.size :: []) h_7 fun h_8 =>
  K t12 h_8)
  (fun h_9 => takeM (h_1.size :: []) h_9 fun h_10 =>
  K (.slice none 0 0) h_10)
  []

set_option maxRecDepth 100000 in
theorem lk_slices_AppendSeq_sl_int_int (s0 seq1 : Value) {h : Heap} {K : Value → Heap → Prop} (H : sh_slices_AppendSeq_sl_int_int Tryz.prog s0 seq1 h K) : CallsH Tryz.prog F_slices_AppendSeq_sl_int_int [s0, seq1].toArray h K :=
  callsH_of (ann := (annG (Tryz.f103.body.getD .skip) 0 []).1) (c := Tryz.f103.body.getD .skip) Tryz.func103 (by kernel_rfl) (by kernel_rfl) (by kernel_rfl) (of_decide_eq_true (by kernel_rfl))
    (Eq.mpr (by kernel_rfl) H)

/-! slices.pdqsortOrdered[int] -/

def sh_slices_pdqsortOrdered_int_C5 (P : Program) (data0 a1_1 b2_1 pivot11 : Value) (Z : Value → Value → Value → Value → Value → Heap → Prop) (limit3_2 wasBalanced8 wasPartitioned9 t21 t87 : Value) (h_12 : Heap) : Prop :=
  ifV t87
  (callS P F_slices_partitionEqualOrdered_int [data0, a1_1, b2_1, pivot11] h_12 fun t92 h_13 =>
  Z t92 b2_1 limit3_2 wasBalanced8 wasPartitioned9 h_13)
  (callS P F_slices_partitionOrdered_int [data0, a1_1, b2_1, pivot11] h_12 fun t99 h_14 =>
  pExt t99 0 fun t100 =>
  pExt t99 1 fun t101 =>
  pBin .sub t100 a1_1 fun t105 =>
  pBin .sub b2_1 t100 fun t108 =>
  pBin .quo t21 (.int .i64 8) fun t110 =>
  pBin .lss t105 t108 fun t113 =>
  ifV t113
  (pBin .geq t105 t110 fun t116 =>
  callS P F_slices_pdqsortOrdered_int [data0, a1_1, t100, limit3_2] h_14 fun t121 h_15 =>
  pBin .add t100 (.int .i64 1) fun t123 =>
  Z t123 b2_1 limit3_2 t116 t101 h_15)
  (pBin .geq t108 t110 fun t126 =>
  pBin .add t100 (.int .i64 1) fun t129 =>
  callS P F_slices_pdqsortOrdered_int [data0, t129, b2_1, limit3_2] h_14 fun t132 h_16 =>
  Z a1_1 t100 limit3_2 t126 t101 h_16))

def sh_slices_pdqsortOrdered_int_k4 (P : Program) (a1_1 data0 pivot11 b2_1 : Value) (Z : Value → Value → Value → Value → Value → Heap → Prop) (limit3_2 wasBalanced8 wasPartitioned9 t21 : Value) (h_10 : Heap) : Prop :=
  cutP (σ := Vals [87]) (fun J =>
  pBin .gtr a1_1 (.int .i64 0) fun t74 =>
  ifV t74
  (pBin .sub a1_1 (.int .i64 1) fun t78 =>
  pIdx 1 data0 t78 fun t79 =>
  pLoad h_10 t79 fun t80 =>
  pIdx 1 data0 pivot11 fun t83 =>
  pLoad h_10 t83 fun t84 =>
  callS P F_cmp_Less_int [t80, t84] h_10 fun t85 h_11 =>
  pUn .not t85 fun t86 =>
  J (t86, ()) h_11)
  (J ((.bool false), ()) h_10))
  (fun x hh => sh_slices_pdqsortOrdered_int_C5 P data0 a1_1 b2_1 pivot11 Z limit3_2 wasBalanced8 wasPartitioned9 t21 x.1 hh)

def sh_slices_pdqsortOrdered_int_k3 (P : Program) (wasBalanced8 wasPartitioned9 data0 a1_1 b2_1 : Value) (K : Value → Heap → Prop) (Z : Value → Value → Value → Value → Value → Heap → Prop) (limit3_2 t21 pivot11 hint12 : Value) (h_8 : Heap) : Prop :=
  ifV wasBalanced8
  (ifV wasPartitioned9
  (pBin .eql hint12 (.int .i64 1) fun t67 =>
  ifV t67
  (callS P F_slices_partialInsertionSortOrdered_int [data0, a1_1, b2_1] h_8 fun t72 h_9 =>
  ifV t72
  (K (.tuple #[]) h_9)
  (sh_slices_pdqsortOrdered_int_k4 P a1_1 data0 pivot11 b2_1 Z limit3_2 wasBalanced8 wasPartitioned9 t21 h_9))
  (sh_slices_pdqsortOrdered_int_k4 P a1_1 data0 pivot11 b2_1 Z limit3_2 wasBalanced8 wasPartitioned9 t21 h_8))
  (sh_slices_pdqsortOrdered_int_k4 P a1_1 data0 pivot11 b2_1 Z limit3_2 wasBalanced8 wasPartitioned9 t21 h_8))
  (sh_slices_pdqsortOrdered_int_k4 P a1_1 data0 pivot11 b2_1 Z limit3_2 wasBalanced8 wasPartitioned9 t21 h_8)

def sh_slices_pdqsortOrdered_int_k2 (P : Program) (data0 a1_1 b2_1 wasBalanced8 wasPartitioned9 : Value) (K : Value → Heap → Prop) (Z : Value → Value → Value → Value → Value → Heap → Prop) (t21 limit3_2 : Value) (h_5 : Heap) : Prop :=
  callS P F_slices_choosePivotOrdered_int [data0, a1_1, b2_1] h_5 fun t46 h_6 =>
  pExt t46 0 fun t47 =>
  pExt t46 1 fun t48 =>
  pBin .eql t48 (.int .i64 2) fun t50 =>
  ifV t50
  (callS P F_slices_reverseRangeOrdered_int [data0, a1_1, b2_1] h_6 fun t54 h_7 =>
  pBin .sub b2_1 (.int .i64 1) fun t56 =>
  pBin .sub t47 a1_1 fun t59 =>
  pBin .sub t56 t59 fun t60 =>
  sh_slices_pdqsortOrdered_int_k3 P wasBalanced8 wasPartitioned9 data0 a1_1 b2_1 K Z limit3_2 t21 t60 (.int .i64 1) h_7)
  (sh_slices_pdqsortOrdered_int_k3 P wasBalanced8 wasPartitioned9 data0 a1_1 b2_1 K Z limit3_2 t21 t47 t48 h_6)

def sh_slices_pdqsortOrdered_int_L1 (P : Program) (data0 : Value) (K : Value → Heap → Prop) (a1_1 b2_1 limit3_1 wasBalanced8 wasPartitioned9 : Value) (h_1 : Heap) (Z : Value → Value → Value → Value → Value → Heap → Prop) : Prop :=
  pBin .sub b2_1 a1_1 fun t21 =>
  pBin .leq t21 (.int .i64 12) fun t23 =>
  ifV t23
  (callS P F_slices_insertionSortOrdered_int [data0, a1_1, b2_1] h_1 fun t27 h_2 =>
  K (.tuple #[]) h_2)
  (pBin .eql limit3_1 (.int .i64 0) fun t29 =>
  ifV t29
  (callS P F_slices_heapSortOrdered_int [data0, a1_1, b2_1] h_1 fun t33 h_3 =>
  K (.tuple #[]) h_3)
  (pUn .not wasBalanced8 fun t35 =>
  ifV t35
  (callS P F_slices_breakPatternsOrdered_int [data0, a1_1, b2_1] h_1 fun t39 h_4 =>
  pBin .sub limit3_1 (.int .i64 1) fun t41 =>
  sh_slices_pdqsortOrdered_int_k2 P data0 a1_1 b2_1 wasBalanced8 wasPartitioned9 K Z t21 t41 h_4)
  (sh_slices_pdqsortOrdered_int_k2 P data0 a1_1 b2_1 wasBalanced8 wasPartitioned9 K Z t21 limit3_1 h_1)))

def sh_slices_pdqsortOrdered_int (P : Program) (data0 a1 b2 limit3 : Value) (h : Heap) (K : Value → Heap → Prop) : Prop :=
  LoopH (σ := Vals [1, 2, 3, 8, 9]) (fun x hh ZZ => sh_slices_pdqsortOrdered_int_L1 P data0 K x.1 x.2.1 x.2.2.1 x.2.2.2.1 x.2.2.2.2.1 hh (fun a0 a1 a2 a3 a4 hz => ZZ (a0, (a1, (a2, (a3, (a4, ()))))) hz)) (a1, (b2, (limit3, ((.bool true), ((.bool true), ()))))) h

set_option maxRecDepth 100000 in
theorem lk_slices_pdqsortOrdered_int (data0 a1 b2 limit3 : Value) {h : Heap} {K : Value → Heap → Prop} (H : sh_slices_pdqsortOrdered_int Tryz.prog data0 a1 b2 limit3 h K) : CallsH Tryz.prog F_slices_pdqsortOrdered_int [data0, a1, b2, limit3].toArray h K :=
  callsH_of (ann := (annG (Tryz.f104.body.getD .skip) 0 [(2, [1, 2, 3, 8, 9]), (22, [87])]).1) (c := Tryz.f104.body.getD .skip) Tryz.func104 (by kernel_rfl) (by kernel_rfl) (by kernel_rfl) (of_decide_eq_true (by kernel_rfl))
    (Eq.mpr (by kernel_rfl) H)

/-! math/bits.Len -/

def sh_math_bits_Len (P : Program) (x0 : Value) (h : Heap) (K : Value → Heap → Prop) : Prop :=
  callS P F_math_bits_Len64 [x0] h fun t7 h_1 =>
  K t7 h_1

set_option maxRecDepth 100000 in
theorem lk_math_bits_Len (x0 : Value) {h : Heap} {K : Value → Heap → Prop} (H : sh_math_bits_Len Tryz.prog x0 h K) : CallsH Tryz.prog F_math_bits_Len [x0].toArray h K :=
  callsH_of (ann := (annG (Tryz.f105.body.getD .skip) 0 []).1) (c := Tryz.f105.body.getD .skip) Tryz.func105 (by kernel_rfl) (by kernel_rfl) (by kernel_rfl) (of_decide_eq_true (by kernel_rfl))
    (Eq.mpr (by kernel_rfl) H)

/-! slices.pdqsortOrdered[string] -/

def sh_slices_pdqsortOrdered_string_C5 (P : Program) (data0 a1_1 b2_1 pivot11 : Value) (Z : Value → Value → Value → Value → Value → Heap → Prop) (limit3_2 wasBalanced8 wasPartitioned9 t21 t87 : Value) (h_12 : Heap) : Prop :=
  ifV t87
  (callS P F_slices_partitionEqualOrdered_string [data0, a1_1, b2_1, pivot11] h_12 fun t92 h_13 =>
  Z t92 b2_1 limit3_2 wasBalanced8 wasPartitioned9 h_13)
  (callS P F_slices_partitionOrdered_string [data0, a1_1, b2_1, pivot11] h_12 fun t99 h_14 =>
  pExt t99 0 fun t100 =>
  pExt t99 1 fun t101 =>
  pBin .sub t100 a1_1 fun t105 =>
  pBin .sub b2_1 t100 fun t108 =>
  pBin .quo t21 (.int .i64 8) fun t110 =>
  pBin .lss t105 t108 fun t113 =>
  ifV t113
  (pBin .geq t105 t110 fun t116 =>
  callS P F_slices_pdqsortOrdered_string [data0, a1_1, t100, limit3_2] h_14 fun t121 h_15 =>
  pBin .add t100 (.int .i64 1) fun t123 =>
  Z t123 b2_1 limit3_2 t116 t101 h_15)
  (pBin .geq t108 t110 fun t126 =>
  pBin .add t100 (.int .i64 1) fun t129 =>
  callS P F_slices_pdqsortOrdered_string [data0, t129, b2_1, limit3_2] h_14 fun t132 h_16 =>
  Z a1_1 t100 limit3_2 t126 t101 h_16))

def sh_slices_pdqsortOrdered_string_k4 (P : Program) (a1_1 data0 pivot11 b2_1 : Value) (Z : Value → Value → Value → Value → Value → Heap → Prop) (limit3_2 wasBalanced8 wasPartitioned9 t21 : Value) (h_10 : Heap) : Prop :=
  cutP (σ := Vals [87]) (fun J =>
  pBin .gtr a1_1 (.int .i64 0) fun t74 =>
  ifV t74
  (pBin .sub a1_1 (.int .i64 1) fun t78 =>
  pIdx 1 data0 t78 fun t79 =>
  pLoad h_10 t79 fun t80 =>
  pIdx 1 data0 pivot11 fun t83 =>
  pLoad h_10 t83 fun t84 =>
  callS P F_cmp_Less_string [t80, t84] h_10 fun t85 h_11 =>
  pUn .not t85 fun t86 =>
  J (t86, ()) h_11)
  (J ((.bool false), ()) h_10))
  (fun x hh => sh_slices_pdqsortOrdered_string_C5 P data0 a1_1 b2_1 pivot11 Z limit3_2 wasBalanced8 wasPartitioned9 t21 x.1 hh)

def sh_slices_pdqsortOrdered_string_k3 (P : Program) (wasBalanced8 wasPartitioned9 data0 a1_1 b2_1 : Value) (K : Value → Heap → Prop) (Z : Value → Value → Value → Value → Value → Heap → Prop) (limit3_2 t21 pivot11 hint12 : Value) (h_8 : Heap) : Prop :=
  ifV wasBalanced8
  (ifV wasPartitioned9
  (pBin .eql hint12 (.int .i64 1) fun t67 =>
  ifV t67
  (callS P F_slices_partialInsertionSortOrdered_string [data0, a1_1, b2_1] h_8 fun t72 h_9 =>
  ifV t72
  (K (.tuple #[]) h_9)
  (sh_slices_pdqsortOrdered_string_k4 P a1_1 data0 pivot11 b2_1 Z limit3_2 wasBalanced8 wasPartitioned9 t21 h_9))
  (sh_slices_pdqsortOrdered_string_k4 P a1_1 data0 pivot11 b2_1 Z limit3_2 wasBalanced8 wasPartitioned9 t21 h_8))
  (sh_slices_pdqsortOrdered_string_k4 P a1_1 data0 pivot11 b2_1 Z limit3_2 wasBalanced8 wasPartitioned9 t21 h_8))
  (sh_slices_pdqsortOrdered_string_k4 P a1_1 data0 pivot11 b2_1 Z limit3_2 wasBalanced8 wasPartitioned9 t21 h_8)

def sh_slices_pdqsortOrdered_string_k2 (P : Program) (data0 a1_1 b2_1 wasBalanced8 wasPartitioned9 : Value) (K : Value → Heap → Prop) (Z : Value → Value → Value → Value → Value → Heap → Prop) (t21 limit3_2 : Value) (h_5 : Heap) : Prop :=
  callS P F_slices_choosePivotOrdered_string [data0, a1_1, b2_1] h_5 fun t46 h_6 =>
  pExt t46 0 fun t47 =>
  pExt t46 1 fun t48 =>
  pBin .eql t48 (.int .i64 2) fun t50 =>
  ifV t50
  (callS P F_slices_reverseRangeOrdered_string [data0, a1_1, b2_1] h_6 fun t54 h_7 =>
  pBin .sub b2_1 (.int .i64 1) fun t56 =>
  pBin .sub t47 a1_1 fun t59 =>
  pBin .sub t56 t59 fun t60 =>
  sh_slices_pdqsortOrdered_string_k3 P wasBalanced8 wasPartitioned9 data0 a1_1 b2_1 K Z limit3_2 t21 t60 (.int .i64 1) h_7)
  (sh_slices_pdqsortOrdered_string_k3 P wasBalanced8 wasPartitioned9 data0 a1_1 b2_1 K Z limit3_2 t21 t47 t48 h_6)

def sh_slices_pdqsortOrdered_string_L1 (P : Program) (data0 : Value) (K : Value → Heap → Prop) (a1_1 b2_1 limit3_1 wasBalanced8 wasPartitioned9 : Value) (h_1 : Heap) (Z : Value → Value → Value → Value → Value → Heap → Prop) : Prop :=
  pBin .sub b2_1 a1_1 fun t21 =>
  pBin .leq t21 (.int .i64 12) fun t23 =>
  ifV t23
  (callS P F_slices_insertionSortOrdered_string [data0, a1_1, b2_1] h_1 fun t27 h_2 =>
  K (.tuple #[]) h_2)
  (pBin .eql limit3_1 (.int .i64 0) fun t29 =>
  ifV t29
  (callS P F_slices_heapSortOrdered_string [data0, a1_1, b2_1] h_1 fun t33 h_3 =>
  K (.tuple #[]) h_3)
  (pUn .not wasBalanced8 fun t35 =>
  ifV t35
  (callS P F_slices_breakPatternsOrdered_string [data0, a1_1, b2_1] h_1 fun t39 h_4 =>
  pBin .sub limit3_1 (.int .i64 1) fun t41 =>
  sh_slices_pdqsortOrdered_string_k2 P data0 a1_1 b2_1 wasBalanced8 wasPartitioned9 K Z t21 t41 h_4)
  (sh_slices_pdqsortOrdered_string_k2 P data0 a1_1 b2_1 wasBalanced8 wasPartitioned9 K Z t21 limit3_1 h_1)))

def sh_slices_pdqsortOrdered_string (P : Program) (data0 a1 b2 limit3 : Value) (h : Heap) (K : Value → Heap → Prop) : Prop :=
  LoopH (σ := Vals [1, 2, 3, 8, 9]) (fun x hh ZZ => sh_slices_pdqsortOrdered_string_L1 P data0 K x.1 x.2.1 x.2.2.1 x.2.2.2.1 x.2.2.2.2.1 hh (fun a0 a1 a2 a3 a4 hz => ZZ (a0, (a1, (a2, (a3, (a4, ()))))) hz)) (a1, (b2, (limit3, ((.bool true), ((.bool true), ()))))) h

set_option maxRecDepth 100000 in
theorem lk_slices_pdqsortOrdered_string (data0 a1 b2 limit3 : Value) {h : Heap} {K : Value → Heap → Prop} (H : sh_slices_pdqsortOrdered_string Tryz.prog data0 a1 b2 limit3 h K) : CallsH Tryz.prog F_slices_pdqsortOrdered_string [data0, a1, b2, limit3].toArray h K :=
  callsH_of (ann := (annG (Tryz.f106.body.getD .skip) 0 [(2, [1, 2, 3, 8, 9]), (22, [87])]).1) (c := Tryz.f106.body.getD .skip) Tryz.func106 (by kernel_rfl) (by kernel_rfl) (by kernel_rfl) (of_decide_eq_true (by kernel_rfl))
    (Eq.mpr (by kernel_rfl) H)

/-! slices.insertionSortOrdered[int] -/

def sh_slices_insertionSortOrdered_int_C3 (P : Program) (j7 data0 : Value) (Z_1 : Value → Heap → Prop) (i6 : Value) (Z : Value → Heap → Prop) (t30 : Value) (h_4 : Heap) : Prop :=
  ifV t30
  (pBin .sub j7 (.int .i64 1) fun t37 =>
  pBin .sub j7 (.int .i64 1) fun t40 =>
  pIdx 1 data0 t40 fun t41 =>
  pLoad h_4 t41 fun t42 =>
  pIdx 1 data0 j7 fun t45 =>
  pLoad h_4 t45 fun t46 =>
  pIdx 1 data0 j7 fun t47 =>
  pStore 1 t47 t42 h_4 fun u h_5 =>
  pIdx 1 data0 t37 fun t48 =>
  pStore 1 t48 t46 h_5 fun u_1 h_6 =>
  pBin .sub j7 (.int .i64 1) fun t32 =>
  Z_1 t32 h_6)
  (pBin .add i6 (.int .i64 1) fun t14 =>
  Z t14 h_4)

def sh_slices_insertionSortOrdered_int_L2 (P : Program) (a1 data0 i6 : Value) (Z : Value → Heap → Prop) (j7 : Value) (h_2 : Heap) (Z_1 : Value → Heap → Prop) : Prop :=
  cutP (σ := Vals [30]) (fun J =>
  pBin .gtr j7 a1 fun t18 =>
  ifV t18
  (pIdx 1 data0 j7 fun t22 =>
  pLoad h_2 t22 fun t23 =>
  pBin .sub j7 (.int .i64 1) fun t26 =>
  pIdx 1 data0 t26 fun t27 =>
  pLoad h_2 t27 fun t28 =>
  callS P F_cmp_Less_int [t23, t28] h_2 fun t29 h_3 =>
  J (t29, ()) h_3)
  (J ((.bool false), ()) h_2))
  (fun x hh => sh_slices_insertionSortOrdered_int_C3 P j7 data0 Z_1 i6 Z x.1 hh)

def sh_slices_insertionSortOrdered_int_L1 (P : Program) (b2 a1 data0 : Value) (K : Value → Heap → Prop) (i6 : Value) (h_1 : Heap) (Z : Value → Heap → Prop) : Prop :=
  pBin .lss i6 b2 fun t12 =>
  ifV t12
  (LoopH (σ := Vals [7]) (fun x hh ZZ => sh_slices_insertionSortOrdered_int_L2 P a1 data0 i6 Z x.1 hh (fun a0 hz => ZZ (a0, ()) hz)) (i6, ()) h_1)
  (K (.tuple #[]) h_1)

def sh_slices_insertionSortOrdered_int (P : Program) (data0 a1 b2 : Value) (h : Heap) (K : Value → Heap → Prop) : Prop :=
  pBin .add a1 (.int .i64 1) fun t9 =>
  LoopH (σ := Vals [6]) (fun x hh ZZ => sh_slices_insertionSortOrdered_int_L1 P b2 a1 data0 K x.1 hh (fun a0 hz => ZZ (a0, ()) hz)) (t9, ()) h

set_option maxRecDepth 100000 in
theorem lk_slices_insertionSortOrdered_int (data0 a1 b2 : Value) {h : Heap} {K : Value → Heap → Prop} (H : sh_slices_insertionSortOrdered_int Tryz.prog data0 a1 b2 h K) : CallsH Tryz.prog F_slices_insertionSortOrdered_int [data0, a1, b2].toArray h K :=
  callsH_of (ann := (annG (Tryz.f107.body.getD .skip) 0 [(1, [6]), (6, [7]), (8, [30])]).1) (c := Tryz.f107.body.getD .skip) Tryz.func107 (by kernel_rfl) (by kernel_rfl) (by kernel_rfl) (of_decide_eq_true (by kernel_rfl))
    (Eq.mpr (by kernel_rfl) H)

/-! slices.heapSortOrdered[int] -/

def sh_slices_heapSortOrdered_int_L2 (P : Program) (a1 data0 : Value) (K : Value → Heap → Prop) (i10 : Value) (h_3 : Heap) (Z_1 : Value → Heap → Prop) : Prop :=
  pBin .geq i10 (.int .i64 0) fun t30 =>
  ifV t30
  (pBin .add a1 i10 fun t38 =>
  pBin .add a1 i10 fun t42 =>
  pIdx 1 data0 t42 fun t43 =>
  pLoad h_3 t43 fun t44 =>
  pIdx 1 data0 a1 fun t47 =>
  pLoad h_3 t47 fun t48 =>
  pIdx 1 data0 a1 fun t49 =>
  pStore 1 t49 t44 h_3 fun u h_4 =>
  pIdx 1 data0 t38 fun t50 =>
  pStore 1 t50 t48 h_4 fun u_1 h_5 =>
  callS P F_slices_siftDownOrdered_int [data0, (.int .i64 0), i10, a1] h_5 fun t55 h_6 =>
  pBin .sub i10 (.int .i64 1) fun t32 =>
  Z_1 t32 h_6)
  (K (.tuple #[]) h_3)

def sh_slices_heapSortOrdered_int_L1 (P : Program) (data0 t14 a1 : Value) (K : Value → Heap → Prop) (i9 : Value) (h_1 : Heap) (Z : Value → Heap → Prop) : Prop :=
  pBin .geq i9 (.int .i64 0) fun t19 =>
  ifV t19
  (callS P F_slices_siftDownOrdered_int [data0, i9, t14, a1] h_1 fun t26 h_2 =>
  pBin .sub i9 (.int .i64 1) fun t21 =>
  Z t21 h_2)
  (pBin .sub t14 (.int .i64 1) fun t28 =>
  LoopH (σ := Vals [10]) (fun x hh ZZ => sh_slices_heapSortOrdered_int_L2 P a1 data0 K x.1 hh (fun a0 hz => ZZ (a0, ()) hz)) (t28, ()) h_1)

def sh_slices_heapSortOrdered_int (P : Program) (data0 a1 b2 : Value) (h : Heap) (K : Value → Heap → Prop) : Prop :=
  pBin .sub b2 a1 fun t14 =>
  pBin .sub t14 (.int .i64 1) fun t16 =>
  pBin .quo t16 (.int .i64 2) fun t17 =>
  LoopH (σ := Vals [9]) (fun x hh ZZ => sh_slices_heapSortOrdered_int_L1 P data0 t14 a1 K x.1 hh (fun a0 hz => ZZ (a0, ()) hz)) (t17, ()) h

set_option maxRecDepth 100000 in
theorem lk_slices_heapSortOrdered_int (data0 a1 b2 : Value) {h : Heap} {K : Value → Heap → Prop} (H : sh_slices_heapSortOrdered_int Tryz.prog data0 a1 b2 h K) : CallsH Tryz.prog F_slices_heapSortOrdered_int [data0, a1, b2].toArray h K :=
  callsH_of (ann := (annG (Tryz.f108.body.getD .skip) 0 [(5, [9]), (10, [10])]).1) (c := Tryz.f108.body.getD .skip) Tryz.func108 (by kernel_rfl) (by kernel_rfl) (by kernel_rfl) (of_decide_eq_true (by kernel_rfl))
    (Eq.mpr (by kernel_rfl) H)

/-! cmp.Less[int] -/

def sh_cmp_Less_int (P : Program) (x0 y1 : Value) (h : Heap) (K : Value → Heap → Prop) : Prop :=
  callS P F_cmp_isNaN_int [x0] h fun t6 h_1 =>
  ifV t6
  (callS P F_cmp_isNaN_int [y1] h_1 fun t9 h_2 =>
  pUn .not t9 fun t10 =>
  ifV t10
  (K (.bool true) h_2)
  (pBin .lss x0 y1 fun t15 =>
  K t15 h_2))
  (pBin .lss x0 y1 fun t15_1 =>
  K t15_1 h_1)

set_option maxRecDepth 100000 in
theorem lk_cmp_Less_int (x0 y1 : Value) {h : Heap} {K : Value → Heap → Prop} (H : sh_cmp_Less_int Tryz.prog x0 y1 h K) : CallsH Tryz.prog F_cmp_Less_int [x0, y1].toArray h K :=
  callsH_of (ann := (annG (Tryz.f113.body.getD .skip) 0 []).1) (c := Tryz.f113.body.getD .skip) Tryz.func113 (by kernel_rfl) (by kernel_rfl) (by kernel_rfl) (of_decide_eq_true (by kernel_rfl))
    (Eq.mpr (by kernel_rfl) H)

/-! math/bits.Len32 -/

def sh_math_bits_Len32_k2 (P : Program) (K : Value → Heap → Prop) (x0_2 n2_1 : Value) (h_2 : Heap) : Prop :=
  pConv .u8 x0_2 fun t15 =>
  pIdxS (.string ⟨#[0, 1, 2, 2, 3, 3, 3, 3, 4, 4, 4, 4, 4, 4, 4, 4, 5, 5, 5, 5, 5, 5, 5, 5, 5, 5, 5, 5, 5, 5, 5, 5, 6, 6, 6, 6, 6, 6, 6, 6, 6, 6, 6, 6, 6, 6, 6, 6, 6, 6, 6, 6, 6, 6, 6, 6, 6, 6, 6, 6, 6, 6, 6, 6, 7, 7, 7, 7, 7, 7, 7, 7, 7, 7, 7, 7, 7, 7, 7, 7, 7, 7, 7, 7, 7, 7, 7, 7, 7, 7, 7, 7, 7, 7, 7, 7, 7, 7, 7, 7, 7, 7, 7, 7, 7, 7, 7, 7, 7, 7, 7, 7, 7, 7, 7, 7, 7, 7, 7, 7, 7, 7, 7, 7, 7, 7, 7, 7, 8, 8, 8, 8, 8, 8, 8, 8, 8, 8, 8, 8, 8, 8, 8, 8, 8, 8, 8, 8, 8, 8, 8, 8, 8, 8, 8, 8, 8, 8, 8, 8, 8, 8, 8, 8, 8, 8, 8, 8, 8, 8, 8, 8, 8, 8, 8, 8, 8, 8, 8, 8, 8, 8, 8, 8, 8, 8, 8, 8, 8, 8, 8, 8, 8, 8, 8, 8, 8, 8, 8, 8, 8, 8, 8, 8, 8, 8, 8, 8, 8, 8, 8, 8, 8, 8, 8, 8, 8, 8, 8, 8, 8, 8, 8, 8, 8, 8, 8, 8, 8, 8, 8, 8, 8, 8, 8, 8, 8, 8, 8, 8, 8, 8, 8, 8, 8, 8, 8, 8, 8, 8, 8, 8, 8, 8, 8, 8]⟩) t15 fun t16 =>
  pConv .i64 t16 fun t17 =>
  pBin .add n2_1 t17 fun t18 =>
  K t18 h_2

def sh_math_bits_Len32_k1 (P : Program) (K : Value → Heap → Prop) (x0_1 n2 : Value) (h_1 : Heap) : Prop :=
  pBin .geq x0_1 (.int .u32 256) fun t8 =>
  ifV t8
  (pBin .shr x0_1 (.int .u64 8) fun t10 =>
  pBin .add n2 (.int .i64 8) fun t12 =>
  sh_math_bits_Len32_k2 P K t10 t12 h_1)
  (sh_math_bits_Len32_k2 P K x0_1 n2 h_1)

def sh_math_bits_Len32 (P : Program) (x0 : Value) (h : Heap) (K : Value → Heap → Prop) : Prop :=
  pBin .geq x0 (.int .u32 65536) fun t4 =>
  ifV t4
  (pBin .shr x0 (.int .u64 16) fun t6 =>
  sh_math_bits_Len32_k1 P K t6 (.int .i64 16) h)
  (sh_math_bits_Len32_k1 P K x0 (.int .i64 0) h)

set_option maxRecDepth 100000 in
theorem lk_math_bits_Len32 (x0 : Value) {h : Heap} {K : Value → Heap → Prop} (H : sh_math_bits_Len32 Tryz.prog x0 h K) : CallsH Tryz.prog F_math_bits_Len32 [x0].toArray h K :=
  callsH_of (ann := (annG (Tryz.f116.body.getD .skip) 0 []).1) (c := Tryz.f116.body.getD .skip) Tryz.func116 (by kernel_rfl) (by kernel_rfl) (by kernel_rfl) (of_decide_eq_true (by kernel_rfl))
    (Eq.mpr (by kernel_rfl) H)

end Go.Proofs.YtdbkeklhjjlhbaaGreat

namespace Go.Proofs.YtdbkeklhjjlhbaaGreat
open Go Go.Mh
set_option maxHeartbeats 0
set_option linter.unusedVariables false

/-! math/bits.Len64 -/

def sh_math_bits_Len64_k3 (P : Program) (K : Value → Heap → Prop) (x0_3 n2_2 : Value) (h_3 : Heap) : Prop :=
  pConv .u8 x0_3 fun t21 =>
  pIdxS (.string ⟨#[0, 1, 2, 2, 3, 3, 3, 3, 4, 4, 4, 4, 4, 4, 4, 4, 5, 5, 5, 5, 5, 5, 5, 5, 5, 5, 5, 5, 5, 5, 5, 5, 6, 6, 6, 6, 6, 6, 6, 6, 6, 6, 6, 6, 6, 6, 6, 6, 6, 6, 6, 6, 6, 6, 6, 6, 6, 6, 6, 6, 6, 6, 6, 6, 7, 7, 7, 7, 7, 7, 7, 7, 7, 7, 7, 7, 7, 7, 7, 7, 7, 7, 7, 7, 7, 7, 7, 7, 7, 7, 7, 7, 7, 7, 7, 7, 7, 7, 7, 7, 7, 7, 7, 7, 7, 7, 7, 7, 7, 7, 7, 7, 7, 7, 7, 7, 7, 7, 7, 7, 7, 7, 7, 7, 7, 7, 7, 7, 8, 8, 8, 8, 8, 8, 8, 8, 8, 8, 8, 8, 8, 8, 8, 8, 8, 8, 8, 8, 8, 8, 8, 8, 8, 8, 8, 8, 8, 8, 8, 8, 8, 8, 8, 8, 8, 8, 8, 8, 8, 8, 8, 8, 8, 8, 8, 8, 8, 8, 8, 8, 8, 8, 8, 8, 8, 8, 8, 8, 8, 8, 8, 8, 8, 8, 8, 8, 8, 8, 8, 8, 8, 8, 8, 8, 8, 8, 8, 8, 8, 8, 8, 8, 8, 8, 8, 8, 8, 8, 8, 8, 8, 8, 8, 8, 8, 8, 8, 8, 8, 8, 8, 8, 8, 8, 8, 8, 8, 8, 8, 8, 8, 8, 8, 8, 8, 8, 8, 8, 8, 8, 8, 8, 8, 8, 8, 8]⟩) t21 fun t22 =>
  pConv .i64 t22 fun t23 =>
  pBin .add n2_2 t23 fun t24 =>
  K t24 h_3

def sh_math_bits_Len64_k2 (P : Program) (K : Value → Heap → Prop) (x0_2 n2_1 : Value) (h_2 : Heap) : Prop :=
  pBin .geq x0_2 (.int .u64 256) fun t14 =>
  ifV t14
  (pBin .shr x0_2 (.int .u64 8) fun t16 =>
  pBin .add n2_1 (.int .i64 8) fun t18 =>
  sh_math_bits_Len64_k3 P K t16 t18 h_2)
  (sh_math_bits_Len64_k3 P K x0_2 n2_1 h_2)

def sh_math_bits_Len64_k1 (P : Program) (K : Value → Heap → Prop) (x0_1 n2 : Value) (h_1 : Heap) : Prop :=
  pBin .geq x0_1 (.int .u64 65536) fun t8 =>
  ifV t8
  (pBin .shr x0_1 (.int .u64 16) fun t10 =>
  pBin .add n2 (.int .i64 16) fun t12 =>
  sh_math_bits_Len64_k2 P K t10 t12 h_1)
  (sh_math_bits_Len64_k2 P K x0_1 n2 h_1)

def sh_math_bits_Len64 (P : Program) (x0 : Value) (h : Heap) (K : Value → Heap → Prop) : Prop :=
  pBin .geq x0 (.int .u64 4294967296) fun t4 =>
  ifV t4
  (pBin .shr x0 (.int .u64 32) fun t6 =>
  sh_math_bits_Len64_k1 P K t6 (.int .i64 32) h)
  (sh_math_bits_Len64_k1 P K x0 (.int .i64 0) h)

set_option maxRecDepth 100000 in
theorem lk_math_bits_Len64 (x0 : Value) {h : Heap} {K : Value → Heap → Prop} (H : sh_math_bits_Len64 Tryz.prog x0 h K) : CallsH Tryz.prog F_math_bits_Len64 [x0].toArray h K :=
  callsH_of (ann := (annG (Tryz.f117.body.getD .skip) 0 []).1) (c := Tryz.f117.body.getD .skip) Tryz.func117 (by kernel_rfl) (by kernel_rfl) (by kernel_rfl) (of_decide_eq_true (by kernel_rfl))
    (Eq.mpr (by kernel_rfl) H)

/-! slices.insertionSortOrdered[string] -/

def sh_slices_insertionSortOrdered_string_C3 (P : Program) (j7 data0 : Value) (Z_1 : Value → Heap → Prop) (i6 : Value) (Z : Value → Heap → Prop) (t30 : Value) (h_4 : Heap) : Prop :=
  ifV t30
  (pBin .sub j7 (.int .i64 1) fun t37 =>
  pBin .sub j7 (.int .i64 1) fun t40 =>
  pIdx 1 data0 t40 fun t41 =>
  pLoad h_4 t41 fun t42 =>
  pIdx 1 data0 j7 fun t45 =>
  pLoad h_4 t45 fun t46 =>
  pIdx 1 data0 j7 fun t47 =>
  pStore 1 t47 t42 h_4 fun u h_5 =>
  pIdx 1 data0 t37 fun t48 =>
  pStore 1 t48 t46 h_5 fun u_1 h_6 =>
  pBin .sub j7 (.int .i64 1) fun t32 =>
  Z_1 t32 h_6)
  (pBin .add i6 (.int .i64 1) fun t14 =>
  Z t14 h_4)

def sh_slices_insertionSortOrdered_string_L2 (P : Program) (a1 data0 i6 : Value) (Z : Value → Heap → Prop) (j7 : Value) (h_2 : Heap) (Z_1 : Value → Heap → Prop) : Prop :=
  cutP (σ := Vals [30]) (fun J =>
  pBin .gtr j7 a1 fun t18 =>
  ifV t18
  (pIdx 1 data0 j7 fun t22 =>
  pLoad h_2 t22 fun t23 =>
  pBin .sub j7 (.int .i64 1) fun t26 =>
  pIdx 1 data0 t26 fun t27 =>
  pLoad h_2 t27 fun t28 =>
  callS P F_cmp_Less_string [t23, t28] h_2 fun t29 h_3 =>
  J (t29, ()) h_3)
  (J ((.bool false), ()) h_2))
  (fun x hh => sh_slices_insertionSortOrdered_string_C3 P j7 data0 Z_1 i6 Z x.1 hh)

def sh_slices_insertionSortOrdered_string_L1 (P : Program) (b2 a1 data0 : Value) (K : Value → Heap → Prop) (i6 : Value) (h_1 : Heap) (Z : Value → Heap → Prop) : Prop :=
  pBin .lss i6 b2 fun t12 =>
  ifV t12
  (LoopH (σ := Vals [7]) (fun x hh ZZ => sh_slices_insertionSortOrdered_string_L2 P a1 data0 i6 Z x.1 hh (fun a0 hz => ZZ (a0, ()) hz)) (i6, ()) h_1)
  (K (.tuple #[]) h_1)

def sh_slices_insertionSortOrdered_string (P : Program) (data0 a1 b2 : Value) (h : Heap) (K : Value → Heap → Prop) : Prop :=
  pBin .add a1 (.int .i64 1) fun t9 =>
  LoopH (σ := Vals [6]) (fun x hh ZZ => sh_slices_insertionSortOrdered_string_L1 P b2 a1 data0 K x.1 hh (fun a0 hz => ZZ (a0, ()) hz)) (t9, ()) h

set_option maxRecDepth 100000 in
theorem lk_slices_insertionSortOrdered_string (data0 a1 b2 : Value) {h : Heap} {K : Value → Heap → Prop} (H : sh_slices_insertionSortOrdered_string Tryz.prog data0 a1 b2 h K) : CallsH Tryz.prog F_slices_insertionSortOrdered_string [data0, a1, b2].toArray h K :=
  callsH_of (ann := (annG (Tryz.f118.body.getD .skip) 0 [(1, [6]), (6, [7]), (8, [30])]).1) (c := Tryz.f118.body.getD .skip) Tryz.func118 (by kernel_rfl) (by kernel_rfl) (by kernel_rfl) (of_decide_eq_true (by kernel_rfl))
    (Eq.mpr (by kernel_rfl) H)

/-! slices.heapSortOrdered[string] -/

def sh_slices_heapSortOrdered_string_L2 (P : Program) (a1 data0 : Value) (K : Value → Heap → Prop) (i10 : Value) (h_3 : Heap) (Z_1 : Value → Heap → Prop) : Prop :=
  pBin .geq i10 (.int .i64 0) fun t30 =>
  ifV t30
  (pBin .add a1 i10 fun t38 =>
  pBin .add a1 i10 fun t42 =>
  pIdx 1 data0 t42 fun t43 =>
  pLoad h_3 t43 fun t44 =>
  pIdx 1 data0 a1 fun t47 =>
  pLoad h_3 t47 fun t48 =>
  pIdx 1 data0 a1 fun t49 =>
  pStore 1 t49 t44 h_3 fun u h_4 =>
  pIdx 1 data0 t38 fun t50 =>
  pStore 1 t50 t48 h_4 fun u_1 h_5 =>
  callS P F_slices_siftDownOrdered_string [data0, (.int .i64 0), i10, a1] h_5 fun t55 h_6 =>
  pBin .sub i10 (.int .i64 1) fun t32 =>
  Z_1 t32 h_6)
  (K (.tuple #[]) h_3)

def sh_slices_heapSortOrdered_string_L1 (P : Program) (data0 t14 a1 : Value) (K : Value → Heap → Prop) (i9 : Value) (h_1 : Heap) (Z : Value → Heap → Prop) : Prop :=
  pBin .geq i9 (.int .i64 0) fun t19 =>
  ifV t19
  (callS P F_slices_siftDownOrdered_string [data0, i9, t14, a1] h_1 fun t26 h_2 =>
  pBin .sub i9 (.int .i64 1) fun t21 =>
  Z t21 h_2)
  (pBin .sub t14 (.int .i64 1) fun t28 =>
  LoopH (σ := Vals [10]) (fun x hh ZZ => sh_slices_heapSortOrdered_string_L2 P a1 data0 K x.1 hh (fun a0 hz => ZZ (a0, ()) hz)) (t28, ()) h_1)

def sh_slices_heapSortOrdered_string (P : Program) (data0 a1 b2 : Value) (h : Heap) (K : Value → Heap → Prop) : Prop :=
  pBin .sub b2 a1 fun t14 =>
  pBin .sub t14 (.int .i64 1) fun t16 =>
  pBin .quo t16 (.int .i64 2) fun t17 =>
  LoopH (σ := Vals [9]) (fun x hh ZZ => sh_slices_heapSortOrdered_string_L1 P data0 t14 a1 K x.1 hh (fun a0 hz => ZZ (a0, ()) hz)) (t17, ()) h

set_option maxRecDepth 100000 in
theorem lk_slices_heapSortOrdered_string (data0 a1 b2 : Value) {h : Heap} {K : Value → Heap → Prop} (H : sh_slices_heapSortOrdered_string Tryz.prog data0 a1 b2 h K) : CallsH Tryz.prog F_slices_heapSortOrdered_string [data0, a1, b2].toArray h K :=
  callsH_of (ann := (annG (Tryz.f119.body.getD .skip) 0 [(5, [9]), (10, [10])]).1) (c := Tryz.f119.body.getD .skip) Tryz.func119 (by kernel_rfl) (by kernel_rfl) (by kernel_rfl) (of_decide_eq_true (by kernel_rfl))
    (Eq.mpr (by kernel_rfl) H)

/-! cmp.Less[string] -/

def sh_cmp_Less_string (P : Program) (x0 y1 : Value) (h : Heap) (K : Value → Heap → Prop) : Prop :=
  callS P F_cmp_isNaN_string [x0] h fun t6 h_1 =>
  ifV t6
  (callS P F_cmp_isNaN_string [y1] h_1 fun t9 h_2 =>
  pUn .not t9 fun t10 =>
  ifV t10
  (K (.bool true) h_2)
  (pBin .lss x0 y1 fun t15 =>
  K t15 h_2))
  (pBin .lss x0 y1 fun t15_1 =>
  K t15_1 h_1)

set_option maxRecDepth 100000 in
theorem lk_cmp_Less_string (x0 y1 : Value) {h : Heap} {K : Value → Heap → Prop} (H : sh_cmp_Less_string Tryz.prog x0 y1 h K) : CallsH Tryz.prog F_cmp_Less_string [x0, y1].toArray h K :=
  callsH_of (ann := (annG (Tryz.f124.body.getD .skip) 0 []).1) (c := Tryz.f124.body.getD .skip) Tryz.func124 (by kernel_rfl) (by kernel_rfl) (by kernel_rfl) (of_decide_eq_true (by kernel_rfl))
    (Eq.mpr (by kernel_rfl) H)

/-! cmp.isNaN[int] -/

def sh_cmp_isNaN_int (P : Program) (x0 : Value) (h : Heap) (K : Value → Heap → Prop) : Prop :=
  pBin .neq x0 x0 fun t5 =>
  K t5 h

set_option maxRecDepth 100000 in
theorem lk_cmp_isNaN_int (x0 : Value) {h : Heap} {K : Value → Heap → Prop} (H : sh_cmp_isNaN_int Tryz.prog x0 h K) : CallsH Tryz.prog F_cmp_isNaN_int [x0].toArray h K :=
  callsH_of (ann := (annG (Tryz.f132.body.getD .skip) 0 []).1) (c := Tryz.f132.body.getD .skip) Tryz.func132 (by kernel_rfl) (by kernel_rfl) (by kernel_rfl) (of_decide_eq_true (by kernel_rfl))
    (Eq.mpr (by kernel_rfl) H)

/-! cmp.isNaN[string] -/

def sh_cmp_isNaN_string (P : Program) (x0 : Value) (h : Heap) (K : Value → Heap → Prop) : Prop :=
  pBin .neq x0 x0 fun t5 =>
  K t5 h

set_option maxRecDepth 100000 in
theorem lk_cmp_isNaN_string (x0 : Value) {h : Heap} {K : Value → Heap → Prop} (H : sh_cmp_isNaN_string Tryz.prog x0 h K) : CallsH Tryz.prog F_cmp_isNaN_string [x0].toArray h K :=
  callsH_of (ann := (annG (Tryz.f136.body.getD .skip) 0 []).1) (c := Tryz.f136.body.getD .skip) Tryz.func136 (by kernel_rfl) (by kernel_rfl) (by kernel_rfl) (of_decide_eq_true (by kernel_rfl))
    (Eq.mpr (by kernel_rfl) H)

end Go.Proofs.YtdbkeklhjjlhbaaGreat


