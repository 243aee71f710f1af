/- A text of the proofs of seat Ytdpofmalgemcdaa: 'HeapA'. It has no condition of its own. -/
import Derived.Test.YtdpofmalgemcdaaMhFn
import Derived.Test.YtdpofmalgemcdaaChecked
import Derived.KernelRfl
set_option linter.unusedVariables false
set_option linter.unusedSimpArgs false
namespace Go.Proofs.Ytdpofmalgemcdaa
open Go Go.Mh

/-! 3: milestone/milestonelaw08.HeapSorts -/

def sh3_k3 (P : Program) (K : Value → Heap → Prop) (h_9 : Heap) : Prop :=
  K (.bool false) h_9

def sh3_k4 (P : Program) (K : Value → Heap → Prop) (t30 t66 i12 : Value) (Z_1 : Value → Value → Value → Heap → Prop) (t67 t118 : Value) (h_10 : Heap) : Prop :=
  ifV t118
  (sh3_k3 P K h_10)
  (pIdx 1 t30 t66 fun t121 =>
  pLoad h_10 t121 fun t122 =>
  pBin .add t122 (.int .i64 1) fun t123 =>
  pIdx 1 t30 t66 fun t124 =>
  pStore 1 t124 t123 h_10 fun u h_11 =>
  pBin .add i12 (.int .i64 1) fun t57 =>
  Z_1 t66 t67 t57 h_11)

def sh3_L2 (P : Program) (t26 t28 : Value) (K : Value → Heap → Prop) (t24 t30 lastId10 lastKey11 i12 : Value) (h_6 : Heap) (Z_1 : Value → Value → Value → Heap → Prop) : Prop :=
  pBin .lss i12 t26 fun t55 =>
  ifV t55
  (callS P 11 [t28] h_6 fun t60 h_7 =>
  pExt t60 0 fun t61 =>
  pExt t60 1 fun t62 =>
  callS P 12 [t28] h_7 fun t65 h_8 =>
  pExt t65 0 fun t66 =>
  pExt t65 1 fun t67 =>
  pExt t65 2 fun t68 =>
  pUn .not t68 fun t70 =>
  ifV t70
  (sh3_k3 P K h_8)
  (pBin .lss t66 (.int .i64 0) fun t73 =>
  ifV t73
  (sh3_k3 P K h_8)
  (pBin .geq t66 t26 fun t78 =>
  ifV t78
  (sh3_k3 P K h_8)
  (pIdx 1 t24 t66 fun t84 =>
  pLoad h_8 t84 fun t85 =>
  pBin .neq t67 t85 fun t86 =>
  ifV t86
  (sh3_k3 P K h_8)
  (pBin .neq t67 t61 fun t91 =>
  ifV t91
  (sh3_k3 P K h_8)
  (pBin .lss t67 lastKey11 fun t96 =>
  ifV t96
  (sh3_k3 P K h_8)
  (pBin .eql t67 lastKey11 fun t101 =>
  ifV t101
  (pBin .leq t66 lastId10 fun t105 =>
  ifV t105
  (pBin .gtr i12 (.int .i64 0) fun t109 =>
  ifV t109
  (sh3_k3 P K h_8)
  (pIdx 1 t30 t66 fun t115 =>
  pLoad h_8 t115 fun t116 =>
  pBin .gtr t116 (.int .i64 0) fun t117 =>
  sh3_k4 P K t30 t66 i12 Z_1 t67 t117 h_8))
  (pIdx 1 t30 t66 fun t115_1 =>
  pLoad h_8 t115_1 fun t116_1 =>
  pBin .gtr t116_1 (.int .i64 0) fun t117_1 =>
  sh3_k4 P K t30 t66 i12 Z_1 t67 t117_1 h_8))
  (pIdx 1 t30 t66 fun t115_2 =>
  pLoad h_8 t115_2 fun t116_2 =>
  pBin .gtr t116_2 (.int .i64 0) fun t117_2 =>
  sh3_k4 P K t30 t66 i12 Z_1 t67 t117_2 h_8))))))))
  (callS P 13 [t28] h_6 fun t128 h_12 =>
  pBin .eql t128 (.int .i64 0) fun t129 =>
  ifV t129
  (callS P 14 [t28, (.int .i64 0), (.int .i64 0), (.bool false)] h_12 fun t132 h_13 =>
  K t132 h_13)
  (K (.bool false) h_12))

def sh3_L1 (P : Program) (t26 by1 t24 t28 : Value) (K : Value → Heap → Prop) (t30 i8 : Value) (h_4 : Heap) (Z : Value → Heap → Prop) : Prop :=
  pBin .lss i8 t26 fun t33 =>
  ifV t33
  (pBin .rem by1 t26 fun t39 =>
  pBin .add i8 t39 fun t40 =>
  pBin .add t40 t26 fun t42 =>
  pBin .rem t42 t26 fun t44 =>
  pIdx 1 t24 t44 fun t49 =>
  pLoad h_4 t49 fun t50 =>
  callS P 10 [t28, t44, t50] h_4 fun t51 h_5 =>
  pBin .neq t51 (.int .i64 0) fun t52 =>
  ifV t52
  (K (.bool false) h_5)
  (pBin .add i8 (.int .i64 1) fun t35 =>
  Z t35 h_5))
  (LoopH (σ := Vals [10, 11, 12]) (fun x hh Z => sh3_L2 P t26 t28 K t24 t30 x.1 x.2.1 x.2.2.1 hh (fun a0 a1 a2 hz => Z (a0, (a1, (a2, ()))) hz)) ((.int .i64 (-1)), ((.int .i64 (-9223372036854775808)), ((.int .i64 0), ()))) h_4)

def sh3 (P : Program) (keys0 by1 : Value) (h : Heap) (K : Value → Heap → Prop) : Prop :=
  callS P 8 [] h fun t18 h_1 =>
  pUn .not t18 fun t19 =>
  ifV t19
  (K (.bool false) h_1)
  (pLen keys0 fun t22 =>
  pMin t22 (.int .i64 300) fun t23 =>
  pSlice 1 keys0 none (some t23) none fun t24 =>
  pLen t24 fun t26 =>
  callS P 9 [t26] h_1 fun t28 h_2 =>
  pMakeSlice 3 8 [(.int .i64 0)] t26 t26 h_2 fun t30 h_3 =>
  LoopH (σ := Vals [8]) (fun x hh Z => sh3_L1 P t26 by1 t24 t28 K t30 x.1 hh (fun a0 hz => Z (a0, ()) hz)) ((.int .i64 0), ()) h_3)

theorem link3 (keys0 by1 : Value) {h : Heap} {K : Value → Heap → Prop} (H : sh3 Try.prog keys0 by1 h K) : CallsH Try.prog 3 [keys0, by1].toArray h K :=
  callsH_of (ann := (.two .leaf (.two (.two .leaf (.two (.two .leaf .leaf) .leaf)) (.two .leaf (.two .leaf (.two .leaf (.two .leaf (.two (.two .leaf (.one (.loop [8] (.two (.two .leaf (.two .leaf .leaf)) (.two (.one (.two .leaf (.two .leaf (.two (.two .leaf .leaf) .leaf)))) .leaf))))) (.two .leaf (.two (.two .leaf (.one (.loop [10, 11, 12] (.two (.two .leaf (.two .leaf .leaf)) (.two (.one (.two .leaf (.two .leaf (.two (.two .leaf (.two (.two .leaf .leaf) .leaf)) (.two .leaf .leaf))))) .leaf))))) (.two .leaf .leaf))))))))))) (c := Try.f3.body.getD .skip) Try.func3 (by kernel_rfl) (by kernel_rfl) (by kernel_rfl) (of_decide_eq_true (by kernel_rfl))
    (Eq.mpr (by kernel_rfl) H)

/-! 4: milestone/milestonelaw08.HeapLowers -/

def sh4_k3 (P : Program) (K : Value → Heap → Prop) (h_7 : Heap) : Prop :=
  K (.bool false) h_7

def sh4_k2 (P : Program) (t27 i8 t31 : Value) (K : Value → Heap → Prop) (t33 : Value) (Z : Value → Heap → Prop) (up9 : Value) (h_5 : Heap) : Prop :=
  pIdx 1 t27 i8 fun t52 =>
  pLoad h_5 t52 fun t53 =>
  pConv .i64 t53 fun t54 =>
  callS P 10 [t31, i8, t54] h_5 fun t55 h_6 =>
  pBin .neq t55 (.int .i64 0) fun t56 =>
  ifV t56
  (sh4_k3 P K h_6)
  (pIdx 1 t27 i8 fun t62 =>
  pLoad h_6 t62 fun t63 =>
  pConv .i64 t63 fun t64 =>
  pBin .add t64 up9 fun t66 =>
  callS P 10 [t33, i8, t66] h_6 fun t67 h_8 =>
  pBin .neq t67 (.int .i64 0) fun t68 =>
  ifV t68
  (sh4_k3 P K h_8)
  (pBin .add i8 (.int .i64 1) fun t38 =>
  Z t38 h_8))

def sh4_k5 (P : Program) (K : Value → Heap → Prop) (h_11 : Heap) : Prop :=
  K (.bool false) h_11

def sh4_k7 (P : Program) (K : Value → Heap → Prop) (h_18 : Heap) : Prop :=
  K (.bool false) h_18

def sh4_L6 (P : Program) (t29 t31 t33 : Value) (K : Value → Heap → Prop) (i14 : Value) (h_15 : Heap) (Z_2 : Value → Heap → Prop) : Prop :=
  pBin .lss i14 t29 fun t125 =>
  ifV t125
  (callS P 12 [t31] h_15 fun t130 h_16 =>
  pExt t130 0 fun t131 =>
  pExt t130 1 fun t132 =>
  pExt t130 2 fun t133 =>
  callS P 12 [t33] h_16 fun t136 h_17 =>
  pExt t136 0 fun t137 =>
  pExt t136 1 fun t138 =>
  pExt t136 2 fun t139 =>
  pUn .not t133 fun t141 =>
  ifV t141
  (sh4_k7 P K h_17)
  (pUn .not t139 fun t144 =>
  ifV t144
  (sh4_k7 P K h_17)
  (pBin .neq t131 t137 fun t149 =>
  ifV t149
  (sh4_k7 P K h_17)
  (pBin .neq t132 t138 fun t154 =>
  ifV t154
  (sh4_k7 P K h_17)
  (pBin .add i14 (.int .i64 1) fun t127 =>
  Z_2 t127 h_17)))))
  (callS P 13 [t31] h_15 fun t157 h_19 =>
  pBin .eql t157 (.int .i64 0) fun t158 =>
  ifV t158
  (callS P 13 [t33] h_19 fun t161 h_20 =>
  pBin .eql t161 (.int .i64 0) fun t162 =>
  K t162 h_20)
  (K (.bool false) h_19))

def sh4_L4 (P : Program) (t33 t27 : Value) (K : Value → Heap → Prop) (t29 t31 i10 : Value) (h_9 : Heap) (Z_1 : Value → Heap → Prop) : Prop :=
  pBin .geq i10 (.int .i64 0) fun t73 =>
  ifV t73
  (callS P 15 [t33, i10] h_9 fun t79 h_10 =>
  pExt t79 0 fun t80 =>
  pExt t79 1 fun t81 =>
  pIdx 1 t27 i10 fun t84 =>
  pLoad h_10 t84 fun t85 =>
  pConv .i64 t85 fun t86 =>
  pIdx 1 t27 i10 fun t90 =>
  pLoad h_10 t90 fun t91 =>
  pConv .i64 t91 fun t92 =>
  pBin .sub t80 t92 fun t93 =>
  pBin .quo t93 (.int .i64 2) fun t94 =>
  pBin .add t86 t94 fun t95 =>
  pUn .not t81 fun t97 =>
  ifV t97
  (sh4_k5 P K h_10)
  (callS P 16 [t33, i10, t80] h_10 fun t102 h_12 =>
  pBin .neq t102 (.int .i64 0) fun t103 =>
  ifV t103
  (sh4_k5 P K h_12)
  (callS P 16 [t33, i10, t95] h_12 fun t109 h_13 =>
  pBin .neq t109 (.int .i64 0) fun t110 =>
  ifV t110
  (sh4_k5 P K h_13)
  (pIdx 1 t27 i10 fun t117 =>
  pLoad h_13 t117 fun t118 =>
  pConv .i64 t118 fun t119 =>
  callS P 16 [t33, i10, t119] h_13 fun t120 h_14 =>
  pBin .neq t120 (.int .i64 0) fun t121 =>
  ifV t121
  (sh4_k5 P K h_14)
  (pBin .sub i10 (.int .i64 1) fun t75 =>
  Z_1 t75 h_14)))))
  (LoopH (σ := Vals [14]) (fun x hh Z => sh4_L6 P t29 t31 t33 K x.1 hh (fun a0 hz => Z (a0, ()) hz)) ((.int .i64 0), ()) h_9)

def sh4_L1 (P : Program) (t29 more1 t27 t31 : Value) (K : Value → Heap → Prop) (t33 i8 : Value) (h_4 : Heap) (Z : Value → Heap → Prop) : Prop :=
  pBin .lss i8 t29 fun t36 =>
  ifV t36
  (pLen more1 fun t41 =>
  pBin .lss i8 t41 fun t42 =>
  ifV t42
  (pIdx 1 more1 i8 fun t45 =>
  pLoad h_4 t45 fun t46 =>
  pConv .i64 t46 fun t47 =>
  sh4_k2 P t27 i8 t31 K t33 Z t47 h_4)
  (sh4_k2 P t27 i8 t31 K t33 Z (.int .i64 0) h_4))
  (pBin .sub t29 (.int .i64 1) fun t71 =>
  LoopH (σ := Vals [10]) (fun x hh Z => sh4_L4 P t33 t27 K t29 t31 x.1 hh (fun a0 hz => Z (a0, ()) hz)) (t71, ()) h_4)

def sh4 (P : Program) (keys0 more1 : Value) (h : Heap) (K : Value → Heap → Prop) : Prop :=
  callS P 8 [] h fun t21 h_1 =>
  pUn .not t21 fun t22 =>
  ifV t22
  (K (.bool false) h_1)
  (pLen keys0 fun t25 =>
  pMin t25 (.int .i64 100) fun t26 =>
  pSlice 1 keys0 none (some t26) none fun t27 =>
  pLen t27 fun t29 =>
  callS P 9 [t29] h_1 fun t31 h_2 =>
  callS P 9 [t29] h_2 fun t33 h_3 =>
  LoopH (σ := Vals [8]) (fun x hh Z => sh4_L1 P t29 more1 t27 t31 K t33 x.1 hh (fun a0 hz => Z (a0, ()) hz)) ((.int .i64 0), ()) h_3)

theorem link4 (keys0 more1 : Value) {h : Heap} {K : Value → Heap → Prop} (H : sh4 Try.prog keys0 more1 h K) : CallsH Try.prog 4 [keys0, more1].toArray h K :=
  callsH_of (ann := (.two .leaf (.two (.two .leaf (.two (.two .leaf .leaf) .leaf)) (.two .leaf (.two .leaf (.two .leaf (.two (.two .leaf (.one (.loop [8] (.two (.two .leaf (.two .leaf .leaf)) (.two (.one (.two .leaf (.two (.two .leaf (.two .leaf .leaf)) (.two .leaf (.two (.two .leaf .leaf) .leaf))))) .leaf))))) (.two (.two .leaf (.one (.loop [10] (.two (.two .leaf (.two .leaf .leaf)) (.two (.one (.two .leaf (.two .leaf (.two .leaf (.two (.two .leaf .leaf) .leaf))))) .leaf))))) (.two (.two .leaf (.one (.loop [14] (.two (.two .leaf (.two .leaf .leaf)) (.two (.one (.two .leaf (.two .leaf (.two .leaf (.two (.two .leaf .leaf) .leaf))))) .leaf))))) (.two .leaf .leaf)))))))))) (c := Try.f4.body.getD .skip) Try.func4 (by kernel_rfl) (by kernel_rfl) (by kernel_rfl) (of_decide_eq_true (by kernel_rfl))
    (Eq.mpr (by kernel_rfl) H)

/-! 5: milestone/milestonelaw08.HeapRises -/

def sh5_k3 (P : Program) (t16 : Value) (K : Value → Heap → Prop) (i6 : Value) (Z : Value → Value → Value → Heap → Prop) (last4_1 held5_1 : Value) (h_6 : Heap) : Prop :=
  callS P 13 [t16] h_6 fun t102 h_7 =>
  pBin .neq t102 held5_1 fun t104 =>
  ifV t104
  (K (.bool false) h_7)
  (pBin .add i6 (.int .i64 1) fun t26 =>
  Z last4_1 held5_1 t26 h_7)

def sh5_k4 (P : Program) (K : Value → Heap → Prop) (h_11 : Heap) : Prop :=
  K (.bool false) h_11

def sh5_k5 (P : Program) (t56 held5 t16 : Value) (K : Value → Heap → Prop) (i6 : Value) (Z : Value → Value → Value → Heap → Prop) (t55 last4 : Value) (h_12 : Heap) : Prop :=
  ifV t56
  (pBin .sub held5 (.int .i64 1) fun t72 =>
  sh5_k3 P t16 K i6 Z t55 t72 h_12)
  (sh5_k3 P t16 K i6 Z last4 held5 h_12)

def sh5_k2 (P : Program) (t16 t34 t44 held5 : Value) (K : Value → Heap → Prop) (i6 : Value) (Z : Value → Value → Value → Heap → Prop) (last4 t50 t73 : Value) (h_4 : Heap) : Prop :=
  ifV t73
  (callS P 10 [t16, t34, t44] h_4 fun t79 h_5 =>
  pBin .eql t79 (.int .i64 0) fun t80 =>
  ifV t80
  (pBin .add held5 (.int .i64 1) fun t82 =>
  sh5_k3 P t16 K i6 Z last4 t82 h_5)
  (sh5_k3 P t16 K i6 Z last4 held5 h_5))
  (pBin .eql t50 (.int .u8 2) fun t84 =>
  ifV t84
  (callS P 15 [t16, t34] h_4 fun t88 h_8 =>
  pExt t88 0 fun t89 =>
  pExt t88 1 fun t90 =>
  ifV t90
  (pMin t89 t44 fun t97 =>
  callS P 16 [t16, t34, t97] h_8 fun t98 h_9 =>
  pBin .neq t98 (.int .i64 0) fun t99 =>
  ifV t99
  (K (.bool false) h_9)
  (sh5_k3 P t16 K i6 Z last4 held5 h_9))
  (sh5_k3 P t16 K i6 Z last4 held5 h_8))
  (callS P 12 [t16] h_4 fun t53 h_10 =>
  pExt t53 0 fun t54 =>
  pExt t53 1 fun t55 =>
  pExt t53 2 fun t56 =>
  pBin .gtr held5 (.int .i64 0) fun t59 =>
  pEq true .bool t56 t59 fun t60 =>
  ifV t60
  (sh5_k4 P K h_10)
  (ifV t56
  (pBin .lss t55 last4 fun t66 =>
  ifV t66
  (sh5_k4 P K h_10)
  (sh5_k5 P t56 held5 t16 K i6 Z t55 last4 h_10))
  (sh5_k5 P t56 held5 t16 K i6 Z t55 last4 h_10))))

def sh5_k6 (P : Program) (K : Value → Heap → Prop) (h_13 : Heap) : Prop :=
  K (.bool true) h_13

def sh5_L1 (P : Program) (l0 t16 : Value) (K : Value → Heap → Prop) (last4 held5 i6 : Value) (h_3 : Heap) (Z : Value → Value → Value → Heap → Prop) : Prop :=
  pLen l0 fun t19 =>
  pBin .lss i6 t19 fun t20 =>
  ifV t20
  (pBin .lss i6 (.int .i64 200) fun t23 =>
  ifV t23
  (pIdx 3 l0 i6 fun t29 =>
  pField 1 t29 fun t30 =>
  pLoad h_3 t30 fun t31 =>
  pConv .u64 t31 fun t32 =>
  pBin .rem t32 (.int .u64 100) fun t33 =>
  pConv .i64 t33 fun t34 =>
  pIdx 3 l0 i6 fun t38 =>
  pField 2 t38 fun t39 =>
  pLoad h_3 t39 fun t40 =>
  pConv .u64 t40 fun t41 =>
  pBin .rem t41 (.int .u64 1000) fun t42 =>
  pConv .i64 t42 fun t43 =>
  pBin .add last4 t43 fun t44 =>
  pIdx 3 l0 i6 fun t47 =>
  pField 0 t47 fun t48 =>
  pLoad h_3 t48 fun t49 =>
  pBin .rem t49 (.int .u8 4) fun t50 =>
  pBin .eql t50 (.int .u8 0) fun t74 =>
  ifV t74
  (sh5_k2 P t16 t34 t44 held5 K i6 Z last4 t50 t74 h_3)
  (pBin .eql t50 (.int .u8 1) fun t75 =>
  sh5_k2 P t16 t34 t44 held5 K i6 Z last4 t50 t75 h_3))
  (sh5_k6 P K h_3))
  (sh5_k6 P K h_3)

def sh5 (P : Program) (l0 : Value) (h : Heap) (K : Value → Heap → Prop) : Prop :=
  callS P 8 [] h fun t14 h_1 =>
  pUn .not t14 fun t15 =>
  ifV t15
  (K (.bool false) h_1)
  (callS P 9 [(.int .i64 100)] h_1 fun t16 h_2 =>
  LoopH (σ := Vals [4, 5, 6]) (fun x hh Z => sh5_L1 P l0 t16 K x.1 x.2.1 x.2.2.1 hh (fun a0 a1 a2 hz => Z (a0, (a1, (a2, ()))) hz)) ((.int .i64 (-1099511627776)), ((.int .i64 0), ((.int .i64 0), ()))) h_2)

theorem link5 (l0 : Value) {h : Heap} {K : Value → Heap → Prop} (H : sh5 Try.prog l0 h K) : CallsH Try.prog 5 [l0].toArray h K :=
  callsH_of (ann := (.two .leaf (.two (.two .leaf (.two (.two .leaf .leaf) .leaf)) (.two .leaf (.two .leaf (.two .leaf (.two (.two .leaf (.one (.loop [4, 5, 6] (.two (.two .leaf (.two .leaf .leaf)) (.two (.one (.two .leaf (.two (.two .leaf (.one (.two (.two .leaf (.two .leaf .leaf)) (.two (.two .leaf (.two .leaf .leaf)) (.two .leaf (.two (.two .leaf (.two .leaf (.two (.two .leaf .leaf) .leaf))) (.two .leaf (.two (.two .leaf (.two (.two .leaf .leaf) .leaf)) (.two .leaf (.two (.two .leaf .leaf) .leaf)))))))))) (.two .leaf (.two (.two .leaf .leaf) .leaf))))) .leaf))))) (.two .leaf .leaf)))))))) (c := Try.f5.body.getD .skip) Try.func5 (by kernel_rfl) (by kernel_rfl) (by kernel_rfl) (of_decide_eq_true (by kernel_rfl))
    (Eq.mpr (by kernel_rfl) H)

/-! 6: milestone/milestonelaw08.HeapPlays -/

def sh6_k1 (P : Program) (K : Value → Heap → Prop) (h_3 : Heap) : Prop :=
  K (.bool false) h_3

def sh6_k4 (P : Program) (x8 t25 t27 : Value) (K : Value → Heap → Prop) (i7 : Value) (Z : Value → Heap → Prop) (h_11 : Heap) : Prop :=
  pField 1 x8 fun t112 =>
  pLoad h_11 t112 fun t113 =>
  callS P 18 [t25, t27, t113] h_11 fun t114 h_12 =>
  pUn .not t114 fun t115 =>
  ifV t115
  (K (.bool false) h_12)
  (pBin .add i7 (.int .i64 1) fun t45 =>
  Z t45 h_12)

def sh6_k6 (P : Program) (K : Value → Heap → Prop) (h_18 : Heap) : Prop :=
  K (.bool false) h_18

def sh6_k5 (P : Program) (x8 t25 t27 : Value) (K : Value → Heap → Prop) (i7 : Value) (Z : Value → Heap → Prop) (t94 : Value) (h_13 : Heap) : Prop :=
  ifV t94
  (pField 1 x8 fun t98 =>
  pLoad h_13 t98 fun t99 =>
  pField 2 x8 fun t100 =>
  pLoad h_13 t100 fun t101 =>
  pField 1 x8 fun t104 =>
  pLoad h_13 t104 fun t105 =>
  pField 2 x8 fun t106 =>
  pLoad h_13 t106 fun t107 =>
  callS P 16 [t25, t99, t101] h_13 fun t102 h_14 =>
  (pLoad h_14 t104 fun t105_1 =>
  t105_1 = t105) ∧
  (pLoad h_14 t106 fun t107_1 =>
  t107_1 = t107) ∧
  (callS P 20 [t27, t105, t107] h_14 fun t108 h_15 =>
  pBin .neq t102 t108 fun t109 =>
  ifV t109
  (K (.bool false) h_15)
  (sh6_k4 P x8 t25 t27 K i7 Z h_15)))
  (callS P 12 [t25] h_13 fun t55 h_16 =>
  pExt t55 0 fun t56 =>
  pExt t55 1 fun t57 =>
  pExt t55 2 fun t58 =>
  callS P 21 [t27] h_16 fun t61 h_17 =>
  pExt t61 0 fun t62 =>
  pExt t61 1 fun t63 =>
  pExt t61 2 fun t64 =>
  pBin .neq t56 t62 fun t67 =>
  ifV t67
  (sh6_k6 P K h_17)
  (pBin .neq t57 t63 fun t71 =>
  ifV t71
  (sh6_k6 P K h_17)
  (pEq true .bool t58 t64 fun t76 =>
  ifV t76
  (sh6_k6 P K h_17)
  (sh6_k4 P x8 t25 t27 K i7 Z h_17))))

def sh6_k3 (P : Program) (x8 t25 t27 : Value) (K : Value → Heap → Prop) (i7 : Value) (Z : Value → Heap → Prop) (t52 t78 : Value) (h_8 : Heap) : Prop :=
  ifV t78
  (pField 1 x8 fun t82 =>
  pLoad h_8 t82 fun t83 =>
  pField 2 x8 fun t84 =>
  pLoad h_8 t84 fun t85 =>
  pField 1 x8 fun t88 =>
  pLoad h_8 t88 fun t89 =>
  pField 2 x8 fun t90 =>
  pLoad h_8 t90 fun t91 =>
  callS P 10 [t25, t83, t85] h_8 fun t86 h_9 =>
  (pLoad h_9 t88 fun t89_1 =>
  t89_1 = t89) ∧
  (pLoad h_9 t90 fun t91_1 =>
  t91_1 = t91) ∧
  (callS P 19 [t27, t89, t91] h_9 fun t92 h_10 =>
  pBin .neq t86 t92 fun t93 =>
  ifV t93
  (K (.bool false) h_10)
  (sh6_k4 P x8 t25 t27 K i7 Z h_10)))
  (pBin .eql t52 (.int .u8 2) fun t95 =>
  ifV t95
  (sh6_k5 P x8 t25 t27 K i7 Z t95 h_8)
  (pBin .eql t52 (.int .u8 3) fun t96 =>
  sh6_k5 P x8 t25 t27 K i7 Z t96 h_8))

def sh6_k9 (P : Program) (K : Value → Heap → Prop) (h_23 : Heap) : Prop :=
  K (.bool false) h_23

def sh6_L8 (P : Program) (t27 t25 : Value) (K : Value → Heap → Prop) (h_20 : Heap) (Z_1 : Heap → Prop) : Prop :=
  pNil t27 fun t117 =>
  pField 1 t117 fun t118 =>
  pLoad h_20 t118 fun t119 =>
  pLen t119 fun t120 =>
  pBin .gtr t120 (.int .i64 0) fun t121 =>
  ifV t121
  (callS P 12 [t25] h_20 fun t124 h_21 =>
  pExt t124 0 fun t125 =>
  pExt t124 1 fun t126 =>
  pExt t124 2 fun t127 =>
  callS P 21 [t27] h_21 fun t130 h_22 =>
  pExt t130 0 fun t131 =>
  pExt t130 1 fun t132 =>
  pExt t130 2 fun t133 =>
  pBin .neq t125 t131 fun t136 =>
  ifV t136
  (sh6_k9 P K h_22)
  (pBin .neq t126 t132 fun t140 =>
  ifV t140
  (sh6_k9 P K h_22)
  (pUn .not t127 fun t144 =>
  ifV t144
  (sh6_k9 P K h_22)
  (Z_1 h_22))))
  (callS P 12 [t25] h_20 fun t148 h_24 =>
  pExt t148 0 fun t149 =>
  pExt t148 1 fun t150 =>
  pExt t148 2 fun t151 =>
  pUn .not t151 fun t153 =>
  ifV t153
  (callS P 8 [] h_24 fun t155 h_25 =>
  K t155 h_25)
  (K (.bool false) h_24))

def sh6_k7 (P : Program) (t27 t25 : Value) (K : Value → Heap → Prop) (h_19 : Heap) : Prop :=
  LoopH (σ := Vals []) (fun x hh Z => sh6_L8 P t27 t25 K hh (fun hz => Z () hz)) () h_19

def sh6_L2 (P : Program) (l1 t25 t27 : Value) (K : Value → Heap → Prop) (i7 : Value) (h_5 : Heap) (Z : Value → Heap → Prop) : Prop :=
  pLen l1 fun t38 =>
  pBin .lss i7 t38 fun t39 =>
  ifV t39
  (pBin .lss i7 (.int .i64 200) fun t42 =>
  ifV t42
  (pIdx 3 l1 i7 fun t48 =>
  pLoadN 3 h_5 t48 fun t49 =>
  pBox 44 (.agg #[(.int .u8 0), (.int .i64 0), (.int .i64 0)]) h_5 fun x8 h_6 =>
  pStore 3 x8 t49 h_6 fun u h_7 =>
  pField 0 x8 fun t50 =>
  pLoad h_7 t50 fun t51 =>
  pBin .rem t51 (.int .u8 5) fun t52 =>
  pBin .eql t52 (.int .u8 0) fun t79 =>
  ifV t79
  (sh6_k3 P x8 t25 t27 K i7 Z t52 t79 h_7)
  (pBin .eql t52 (.int .u8 1) fun t80 =>
  sh6_k3 P x8 t25 t27 K i7 Z t52 t80 h_7))
  (sh6_k7 P t27 t25 K h_5))
  (sh6_k7 P t27 t25 K h_5)

def sh6 (P : Program) (n0 l1 : Value) (h : Heap) (K : Value → Heap → Prop) : Prop :=
  callS P 9 [n0] h fun t25 h_1 =>
  callS P 17 [n0] h_1 fun t27 h_2 =>
  pEq false .ptr t25 (.pointer none) fun t29 =>
  ifV t29
  (sh6_k1 P K h_2)
  (callS P 18 [t25, t27, (.int .i64 0)] h_2 fun t33 h_4 =>
  pUn .not t33 fun t34 =>
  ifV t34
  (sh6_k1 P K h_4)
  (LoopH (σ := Vals [7]) (fun x hh Z => sh6_L2 P l1 t25 t27 K x.1 hh (fun a0 hz => Z (a0, ()) hz)) ((.int .i64 0), ()) h_4))

theorem link6 (n0 l1 : Value) {h : Heap} {K : Value → Heap → Prop} (H : sh6 Try.prog n0 l1 h K) : CallsH Try.prog 6 [n0, l1].toArray h K :=
  callsH_of (ann := (.two .leaf (.two .leaf (.two (.two .leaf (.two (.two .leaf .leaf) .leaf)) (.two (.two .leaf (.one (.loop [7] (.two (.two .leaf (.two .leaf .leaf)) (.two (.one (.two .leaf (.two (.two .leaf (.one (.two (.two .leaf (.two .leaf .leaf)) (.two (.two .leaf (.two (.two .leaf .leaf) .leaf)) (.two (.two .leaf (.two .leaf .leaf)) (.two (.two .leaf (.two (.two .leaf .leaf) .leaf)) (.two .leaf (.two .leaf (.two .leaf (.two (.two .leaf .leaf) .leaf)))))))))) (.two .leaf (.two (.two .leaf .leaf) .leaf))))) .leaf))))) (.two (.one (.loop [] (.two (.two .leaf (.two .leaf .leaf)) (.one (.two .leaf (.two .leaf (.two .leaf (.two (.two .leaf .leaf) .leaf)))))))) (.two .leaf (.two .leaf .leaf)))))))) (c := Try.f6.body.getD .skip) Try.func6 (by kernel_rfl) (by kernel_rfl) (by kernel_rfl) (of_decide_eq_true (by kernel_rfl))
    (Eq.mpr (by kernel_rfl) H)

/-! 7: milestone/milestonelaw08.HeapKnown -/

def sh7_k2 (P : Program) (a3 : Value) (K : Value → Heap → Prop) (b4 : Value) (h_17 : Heap) : Prop :=
  callS P 11 [(.pointer none)] h_17 fun t76 h_18 =>
  pExt t76 0 fun t77 =>
  pExt t76 1 fun t78 =>
  callS P 15 [(.pointer none), (.int .i64 0)] h_18 fun t81 h_19 =>
  pExt t81 0 fun t82 =>
  pExt t81 1 fun t83 =>
  callS P 9 [(.int .i64 (-3))] h_19 fun t84 h_20 =>
  callS P 8 [] h_20 fun t86 h_21 =>
  ifV t86
  (ifV a3
  (ifV b4
  (pBin .eql t77 (.int .i64 0) fun t96 =>
  ifV t96
  (pUn .not t78 fun t100 =>
  ifV t100
  (pBin .eql t82 (.int .i64 0) fun t104 =>
  ifV t104
  (pUn .not t83 fun t108 =>
  ifV t108
  (callS P 10 [(.pointer none), (.int .i64 0), (.int .i64 0)] h_21 fun t112 h_22 =>
  pBin .eql t112 (.int .i64 1) fun t113 =>
  ifV t113
  (callS P 16 [(.pointer none), (.int .i64 0), (.int .i64 0)] h_22 fun t117 h_23 =>
  pBin .eql t117 (.int .i64 1) fun t118 =>
  ifV t118
  (callS P 13 [(.pointer none)] h_23 fun t122 h_24 =>
  pBin .eql t122 (.int .i64 0) fun t123 =>
  ifV t123
  (callS P 14 [(.pointer none), (.int .i64 0), (.int .i64 0), (.bool false)] h_24 fun t127 h_25 =>
  ifV t127
  (callS P 10 [t84, (.int .i64 0), (.int .i64 0)] h_25 fun t131 h_26 =>
  pBin .eql t131 (.int .i64 2) fun t132 =>
  ifV t132
  (callS P 13 [t84] h_26 fun t136 h_27 =>
  pBin .eql t136 (.int .i64 0) fun t137 =>
  ifV t137
  (callS P 9 [(.int .i64 1099511627776)] h_27 fun t140 h_28 =>
  callS P 10 [t140, (.int .i64 1099511627775), (.int .i64 5)] h_28 fun t141 h_29 =>
  pBin .eql t141 (.int .i64 0) fun t142 =>
  K t142 h_29)
  (K (.bool false) h_27))
  (K (.bool false) h_26))
  (K (.bool false) h_25))
  (K (.bool false) h_24))
  (K (.bool false) h_23))
  (K (.bool false) h_22))
  (K (.bool false) h_21))
  (K (.bool false) h_21))
  (K (.bool false) h_21))
  (K (.bool false) h_21))
  (K (.bool false) h_21))
  (K (.bool false) h_21))
  (K (.bool false) h_21)

def sh7_k1 (P : Program) (t10 : Value) (K : Value → Heap → Prop) (a3 : Value) (h_11 : Heap) : Prop :=
  callS P 10 [t10, (.int .i64 0), (.int .i64 1)] h_11 fun t52 h_12 =>
  pBin .eql t52 (.int .i64 0) fun t53 =>
  ifV t53
  (callS P 16 [t10, (.int .i64 (-1)), (.int .i64 0)] h_12 fun t56 h_13 =>
  pBin .eql t56 (.int .i64 2) fun t57 =>
  ifV t57
  (callS P 16 [t10, (.int .i64 4), (.int .i64 0)] h_13 fun t61 h_14 =>
  pBin .eql t61 (.int .i64 2) fun t62 =>
  ifV t62
  (callS P 10 [t10, (.int .i64 (-1)), (.int .i64 0)] h_14 fun t66 h_15 =>
  pBin .eql t66 (.int .i64 2) fun t67 =>
  ifV t67
  (callS P 16 [t10, (.int .i64 1), (.int .i64 0)] h_15 fun t71 h_16 =>
  pBin .eql t71 (.int .i64 20) fun t72 =>
  sh7_k2 P a3 K t72 h_16)
  (sh7_k2 P a3 K (.bool false) h_15))
  (sh7_k2 P a3 K (.bool false) h_14))
  (sh7_k2 P a3 K (.bool false) h_13))
  (sh7_k2 P a3 K (.bool false) h_12)

def sh7 (P : Program) (h : Heap) (K : Value → Heap → Prop) : Prop :=
  callS P 9 [(.int .i64 4)] h fun t10 h_1 =>
  callS P 10 [t10, (.int .i64 0), (.int .i64 9223372036854775807)] h_1 fun t12 h_2 =>
  pBin .eql t12 (.int .i64 0) fun t13 =>
  ifV t13
  (callS P 10 [t10, (.int .i64 3), (.int .i64 (-9223372036854775808))] h_2 fun t16 h_3 =>
  pBin .eql t16 (.int .i64 0) fun t17 =>
  ifV t17
  (callS P 10 [t10, (.int .i64 2), (.int .i64 9223372036854775807)] h_3 fun t21 h_4 =>
  pBin .eql t21 (.int .i64 0) fun t22 =>
  ifV t22
  (callS P 16 [t10, (.int .i64 2), (.int .i64 (-9223372036854775808))] h_4 fun t26 h_5 =>
  pBin .eql t26 (.int .i64 0) fun t27 =>
  ifV t27
  (callS P 16 [t10, (.int .i64 0), (.int .i64 9223372036854775807)] h_5 fun t31 h_6 =>
  pBin .eql t31 (.int .i64 0) fun t32 =>
  ifV t32
  (callS P 13 [t10] h_6 fun t36 h_7 =>
  pBin .eql t36 (.int .i64 3) fun t37 =>
  ifV t37
  (callS P 14 [t10, (.int .i64 2), (.int .i64 (-9223372036854775808)), (.bool true)] h_7 fun t41 h_8 =>
  ifV t41
  (callS P 14 [t10, (.int .i64 3), (.int .i64 (-9223372036854775808)), (.bool true)] h_8 fun t45 h_9 =>
  ifV t45
  (callS P 14 [t10, (.int .i64 0), (.int .i64 9223372036854775807), (.bool true)] h_9 fun t49 h_10 =>
  sh7_k1 P t10 K t49 h_10)
  (sh7_k1 P t10 K (.bool false) h_9))
  (sh7_k1 P t10 K (.bool false) h_8))
  (sh7_k1 P t10 K (.bool false) h_7))
  (sh7_k1 P t10 K (.bool false) h_6))
  (sh7_k1 P t10 K (.bool false) h_5))
  (sh7_k1 P t10 K (.bool false) h_4))
  (sh7_k1 P t10 K (.bool false) h_3))
  (sh7_k1 P t10 K (.bool false) h_2)

theorem link7  {h : Heap} {K : Value → Heap → Prop} (H : sh7 Try.prog  h K) : CallsH Try.prog 7 [].toArray h K :=
  callsH_of (ann := (.two .leaf (.two .leaf (.two .leaf (.two .leaf (.two .leaf (.two .leaf (.two .leaf (.two .leaf (.two .leaf .leaf)))))))))) (c := Try.f7.body.getD .skip) Try.func7 (by kernel_rfl) (by kernel_rfl) (by kernel_rfl) (of_decide_eq_true (by kernel_rfl))
    (Eq.mpr (by kernel_rfl) H)

/-! 8: milestone/milestonelaw08.works -/

def sh8_k2 (P : Program) (one3 t6 : Value) (K : Value → Heap → Prop) (two4 : Value) (h_12 : Heap) : Prop :=
  ifV one3
  (ifV two4
  (callS P 10 [t6, (.int .i64 5), (.int .i64 1)] h_12 fun t45 h_13 =>
  pBin .eql t45 (.int .i64 2) fun t46 =>
  ifV t46
  (callS P 10 [t6, (.int .i64 3), (.int .i64 1)] h_13 fun t50 h_14 =>
  pBin .eql t50 (.int .i64 0) fun t51 =>
  ifV t51
  (callS P 10 [t6, (.int .i64 3), (.int .i64 0)] h_14 fun t55 h_15 =>
  pBin .eql t55 (.int .i64 2) fun t56 =>
  ifV t56
  (callS P 16 [t6, (.int .i64 3), (.int .i64 2)] h_15 fun t60 h_16 =>
  pBin .eql t60 (.int .i64 2) fun t61 =>
  ifV t61
  (callS P 16 [t6, (.int .i64 4), (.int .i64 0)] h_16 fun t65 h_17 =>
  pBin .eql t65 (.int .i64 20) fun t66 =>
  K t66 h_17)
  (K (.bool false) h_16))
  (K (.bool false) h_15))
  (K (.bool false) h_14))
  (K (.bool false) h_13))
  (K (.bool false) h_12))
  (K (.bool false) h_12)

def sh8_k1 (P : Program) (t5 t6 : Value) (K : Value → Heap → Prop) (one3 : Value) (h_7 : Heap) : Prop :=
  callS P 16 [t5, (.int .i64 0), (.int .i64 2)] h_7 fun t25 h_8 =>
  pBin .eql t25 (.int .i64 0) fun t26 =>
  ifV t26
  (callS P 14 [t5, (.int .i64 0), (.int .i64 2), (.bool true)] h_8 fun t29 h_9 =>
  ifV t29
  (callS P 14 [t5, (.int .i64 3), (.int .i64 7), (.bool true)] h_9 fun t33 h_10 =>
  ifV t33
  (callS P 14 [t5, (.int .i64 0), (.int .i64 0), (.bool false)] h_10 fun t37 h_11 =>
  sh8_k2 P one3 t6 K t37 h_11)
  (sh8_k2 P one3 t6 K (.bool false) h_10))
  (sh8_k2 P one3 t6 K (.bool false) h_9))
  (sh8_k2 P one3 t6 K (.bool false) h_8)

def sh8 (P : Program) (h : Heap) (K : Value → Heap → Prop) : Prop :=
  callS P 9 [(.int .i64 5)] h fun t5 h_1 =>
  callS P 9 [(.int .i64 5)] h_1 fun t6 h_2 =>
  callS P 10 [t5, (.int .i64 3), (.int .i64 7)] h_2 fun t8 h_3 =>
  pBin .eql t8 (.int .i64 0) fun t9 =>
  ifV t9
  (callS P 10 [t5, (.int .i64 1), (.int .i64 7)] h_3 fun t12 h_4 =>
  pBin .eql t12 (.int .i64 0) fun t13 =>
  ifV t13
  (callS P 10 [t5, (.int .i64 0), (.int .i64 9)] h_4 fun t17 h_5 =>
  pBin .eql t17 (.int .i64 0) fun t18 =>
  ifV t18
  (callS P 14 [t5, (.int .i64 1), (.int .i64 7), (.bool true)] h_5 fun t22 h_6 =>
  sh8_k1 P t5 t6 K t22 h_6)
  (sh8_k1 P t5 t6 K (.bool false) h_5))
  (sh8_k1 P t5 t6 K (.bool false) h_4))
  (sh8_k1 P t5 t6 K (.bool false) h_3)

theorem link8  {h : Heap} {K : Value → Heap → Prop} (H : sh8 Try.prog  h K) : CallsH Try.prog 8 [].toArray h K :=
  callsH_of (ann := (.two .leaf (.two .leaf (.two .leaf (.two .leaf (.two .leaf .leaf)))))) (c := Try.f8.body.getD .skip) Try.func8 (by kernel_rfl) (by kernel_rfl) (by kernel_rfl) (of_decide_eq_true (by kernel_rfl))
    (Eq.mpr (by kernel_rfl) H)

/-! 9: milestone/heap.New -/

def sh9 (P : Program) (n0 : Value) (h : Heap) (K : Value → Heap → Prop) : Prop :=
  pMakeMap h fun t3 h_1 =>
  pBuild [(.slice none 0 0), (.map none)] [(1, 1, t3)] fun t4 =>
  pMax n0 (.int .i64 0) fun t6 =>
  pBuild [(.slice none 0 0), (.map none), (.int .i64 0)] [(0, 2, t4), (2, 1, t6)] fun t7 =>
  pBox 59 t7 h_1 fun t8 h_2 =>
  K t8 h_2

theorem link9 (n0 : Value) {h : Heap} {K : Value → Heap → Prop} (H : sh9 Try.prog n0 h K) : CallsH Try.prog 9 [n0].toArray h K :=
  callsH_of (ann := (.two .leaf (.two .leaf .leaf))) (c := Try.f9.body.getD .skip) Try.func9 (by kernel_rfl) (by kernel_rfl) (by kernel_rfl) (of_decide_eq_true (by kernel_rfl))
    (Eq.mpr (by kernel_rfl) H)

/-! 10: (*milestone/heap.Heap).Push -/

def sh10_k1 (P : Program) (K : Value → Heap → Prop) (h_1 : Heap) : Prop :=
  K (.int .i64 2) h_1

def sh10 (P : Program) (h0 id1 key2 : Value) (h : Heap) (K : Value → Heap → Prop) : Prop :=
  pEq false .ptr h0 (.pointer none) fun t10 =>
  ifV t10
  (K (.int .i64 1) h)
  (pNil h0 fun t13 =>
  pField 0 t13 fun t14 =>
  pField 1 t14 fun t15 =>
  pLoad h t15 fun t16 =>
  pLook (.int .i64) (.int .i64 0) true h t16 id1 fun t18 =>
  pExt t18 0 fun t19 =>
  pExt t18 1 fun t20 =>
  ifV t20
  (sh10_k1 P K h)
  (pBin .lss id1 (.int .i64 0) fun t24 =>
  ifV t24
  (sh10_k1 P K h)
  (pNil h0 fun t29 =>
  pField 2 t29 fun t30 =>
  pLoad h t30 fun t31 =>
  pBin .geq id1 t31 fun t32 =>
  ifV t32
  (sh10_k1 P K h)
  (pNil h0 fun t35 =>
  pField 0 t35 fun t36 =>
  pField 1 t36 fun t37 =>
  pLoad h t37 fun t38 =>
  pNil h0 fun t41 =>
  pField 0 t41 fun t42 =>
  pField 0 t42 fun t43 =>
  pLoad h t43 fun t44 =>
  pLen t44 fun t45 =>
  pMapSet (.int .i64) t38 id1 t45 h fun u h_2 =>
  pNil h0 fun t48 =>
  pField 0 t48 fun t49 =>
  pField 0 t49 fun t50 =>
  pLoad h_2 t50 fun t51 =>
  pBuild [(.int .i64 0), (.int .i64 0)] [(0, 1, id1), (1, 1, key2)] fun t54 =>
  pBuildSlice 62 (zerosL [(.int .i64 0), (.int .i64 0)] 1) [(0, 2, t54)] 1 h_2 fun t55 h_3 =>
  pAppend 62 2 16 [(.int .i64 0), (.int .i64 0)] t51 t55 h_3 fun t56 h_4 =>
  pNil h0 fun t57 =>
  pField 0 t57 fun t58 =>
  pField 0 t58 fun t59 =>
  pStore 1 t59 t56 h_4 fun u_1 h_5 =>
  pNil h0 fun t61 =>
  pField 0 t61 fun t62 =>
  pNil h0 fun t64 =>
  pField 0 t64 fun t65 =>
  pField 0 t65 fun t66 =>
  pLoad h_5 t66 fun t67 =>
  pLen t67 fun t68 =>
  pBin .sub t68 (.int .i64 1) fun t69 =>
  callS P 22 [t62, t69] h_5 fun t70 h_6 =>
  K (.int .i64 0) h_6))))

theorem link10 (h0 id1 key2 : Value) {h : Heap} {K : Value → Heap → Prop} (H : sh10 Try.prog h0 id1 key2 h K) : CallsH Try.prog 10 [h0, id1, key2].toArray h K :=
  callsH_of (ann := (.two .leaf (.two (.two .leaf (.two (.two .leaf .leaf) .leaf)) (.two (.two .leaf (.two .leaf (.two (.two .leaf .leaf) .leaf))) (.two .leaf (.two .leaf (.two .leaf (.two .leaf .leaf)))))))) (c := Try.f10.body.getD .skip) Try.func10 (by kernel_rfl) (by kernel_rfl) (by kernel_rfl) (of_decide_eq_true (by kernel_rfl))
    (Eq.mpr (by kernel_rfl) H)

/-! 11: (*milestone/heap.Heap).Least -/

def sh11 (P : Program) (h0 : Value) (h : Heap) (K : Value → Heap → Prop) : Prop :=
  callS P 13 [h0] h fun t5 h_1 =>
  pBin .eql t5 (.int .i64 0) fun t6 =>
  ifV t6
  (K (.tuple #[(.int .i64 0), (.bool false)]) h_1)
  (pNil h0 fun t8 =>
  pField 0 t8 fun t9 =>
  pField 0 t9 fun t10 =>
  pLoad h_1 t10 fun t11 =>
  pIdx 2 t11 (.int .i64 0) fun t12 =>
  pField 1 t12 fun t13 =>
  pLoad h_1 t13 fun t14 =>
  K (.tuple #[t14, (.bool true)]) h_1)

theorem link11 (h0 : Value) {h : Heap} {K : Value → Heap → Prop} (H : sh11 Try.prog h0 h K) : CallsH Try.prog 11 [h0].toArray h K :=
  callsH_of (ann := (.two .leaf (.two (.two .leaf (.two (.two .leaf .leaf) .leaf)) (.two .leaf .leaf)))) (c := Try.f11.body.getD .skip) Try.func11 (by kernel_rfl) (by kernel_rfl) (by kernel_rfl) (of_decide_eq_true (by kernel_rfl))
    (Eq.mpr (by kernel_rfl) H)

/-! 12: (*milestone/heap.Heap).Pop -/

def sh12 (P : Program) (h0 : Value) (h : Heap) (K : Value → Heap → Prop) : Prop :=
  callS P 13 [h0] h fun t8 h_1 =>
  pBin .eql t8 (.int .i64 0) fun t9 =>
  ifV t9
  (K (.tuple #[(.int .i64 0), (.int .i64 0), (.bool false)]) h_1)
  (pNil h0 fun t11 =>
  pField 0 t11 fun t12 =>
  pField 0 t12 fun t13 =>
  pLoad h_1 t13 fun t14 =>
  pIdx 2 t14 (.int .i64 0) fun t15 =>
  pLoadN 2 h_1 t15 fun t16 =>
  pNil h0 fun t18 =>
  pField 0 t18 fun t19 =>
  pField 0 t19 fun t20 =>
  pLoad h_1 t20 fun t21 =>
  pLen t21 fun t22 =>
  pBin .sub t22 (.int .i64 1) fun t23 =>
  pBox 62 (.agg #[(.int .i64 0), (.int .i64 0)]) h_1 fun first5 h_2 =>
  pStore 2 first5 t16 h_2 fun u h_3 =>
  (pLoad h_3 t20 fun t21_1 =>
  t21_1 = t21) ∧
  (pNil h0 fun t25 =>
  pField 0 t25 fun t26 =>
  callS P 23 [t26, (.int .i64 0), t23] h_3 fun t28 h_4 =>
  pNil h0 fun t31 =>
  pField 0 t31 fun t32 =>
  pField 0 t32 fun t33 =>
  pLoad h_4 t33 fun t34 =>
  pSlice 2 t34 none (some t23) none fun t36 =>
  pNil h0 fun t37 =>
  pField 0 t37 fun t38 =>
  pField 0 t38 fun t39 =>
  pStore 1 t39 t36 h_4 fun u_1 h_5 =>
  pNil h0 fun t41 =>
  pField 0 t41 fun t42 =>
  pField 1 t42 fun t43 =>
  pLoad h_5 t43 fun t44 =>
  pField 0 first5 fun t45 =>
  pLoad h_5 t45 fun t46 =>
  pDelete (.int .i64) t44 t46 h_5 fun u_2 h_6 =>
  pNil h0 fun t48 =>
  pField 0 t48 fun t49 =>
  callS P 24 [t49, (.int .i64 0)] h_6 fun t50 h_7 =>
  pField 0 first5 fun t51 =>
  pLoad h_7 t51 fun t52 =>
  pField 1 first5 fun t53 =>
  pLoad h_7 t53 fun t54 =>
  K (.tuple #[t52, t54, (.bool true)]) h_7))

theorem link12 (h0 : Value) {h : Heap} {K : Value → Heap → Prop} (H : sh12 Try.prog h0 h K) : CallsH Try.prog 12 [h0].toArray h K :=
  callsH_of (ann := (.two .leaf (.two (.two .leaf (.two (.two .leaf .leaf) .leaf)) (.two .leaf (.two .leaf (.two .leaf (.two .leaf (.two .leaf (.two .leaf .leaf))))))))) (c := Try.f12.body.getD .skip) Try.func12 (by kernel_rfl) (by kernel_rfl) (by kernel_rfl) (of_decide_eq_true (by kernel_rfl))
    (Eq.mpr (by kernel_rfl) H)

/-! 13: (*milestone/heap.Heap).Len -/

def sh13 (P : Program) (h0 : Value) (h : Heap) (K : Value → Heap → Prop) : Prop :=
  pEq false .ptr h0 (.pointer none) fun t4 =>
  ifV t4
  (K (.int .i64 0) h)
  (pNil h0 fun t6 =>
  pField 0 t6 fun t7 =>
  pField 0 t7 fun t8 =>
  pLoad h t8 fun t9 =>
  pLen t9 fun t10 =>
  K t10 h)

theorem link13 (h0 : Value) {h : Heap} {K : Value → Heap → Prop} (H : sh13 Try.prog h0 h K) : CallsH Try.prog 13 [h0].toArray h K :=
  callsH_of (ann := (.two .leaf (.two (.two .leaf (.two (.two .leaf .leaf) .leaf)) (.two .leaf .leaf)))) (c := Try.f13.body.getD .skip) Try.func13 (by kernel_rfl) (by kernel_rfl) (by kernel_rfl) (of_decide_eq_true (by kernel_rfl))
    (Eq.mpr (by kernel_rfl) H)

/-! 14: milestone/milestonelaw08.pops -/

def sh14 (P : Program) (h0 id1 key2 is3 : Value) (h : Heap) (K : Value → Heap → Prop) : Prop :=
  callS P 12 [h0] h fun t14 h_1 =>
  pExt t14 0 fun t15 =>
  pExt t14 1 fun t16 =>
  pExt t14 2 fun t17 =>
  pBin .eql t15 id1 fun t20 =>
  ifV t20
  (pBin .eql t16 key2 fun t24 =>
  ifV t24
  (pEq false .bool t17 is3 fun t29 =>
  K t29 h_1)
  (K (.bool false) h_1))
  (K (.bool false) h_1)

theorem link14 (h0 id1 key2 is3 : Value) {h : Heap} {K : Value → Heap → Prop} (H : sh14 Try.prog h0 id1 key2 is3 h K) : CallsH Try.prog 14 [h0, id1, key2, is3].toArray h K :=
  callsH_of (ann := (.two .leaf (.two .leaf (.two .leaf .leaf)))) (c := Try.f14.body.getD .skip) Try.func14 (by kernel_rfl) (by kernel_rfl) (by kernel_rfl) (of_decide_eq_true (by kernel_rfl))
    (Eq.mpr (by kernel_rfl) H)

/-! 15: (*milestone/heap.Heap).Key -/

def sh15 (P : Program) (h0 id1 : Value) (h : Heap) (K : Value → Heap → Prop) : Prop :=
  callS P 13 [h0] h fun t9 h_1 =>
  pBin .eql t9 (.int .i64 0) fun t10 =>
  ifV t10
  (K (.tuple #[(.int .i64 0), (.bool false)]) h_1)
  (pNil h0 fun t13 =>
  pField 0 t13 fun t14 =>
  pField 1 t14 fun t15 =>
  pLoad h_1 t15 fun t16 =>
  pLook (.int .i64) (.int .i64 0) true h_1 t16 id1 fun t18 =>
  pExt t18 0 fun t19 =>
  pExt t18 1 fun t20 =>
  pUn .not t20 fun t22 =>
  ifV t22
  (K (.tuple #[(.int .i64 0), (.bool false)]) h_1)
  (pNil h0 fun t24 =>
  pField 0 t24 fun t25 =>
  pField 0 t25 fun t26 =>
  pLoad h_1 t26 fun t27 =>
  pIdx 2 t27 t19 fun t29 =>
  pField 1 t29 fun t30 =>
  pLoad h_1 t30 fun t31 =>
  K (.tuple #[t31, (.bool true)]) h_1))

theorem link15 (h0 id1 : Value) {h : Heap} {K : Value → Heap → Prop} (H : sh15 Try.prog h0 id1 h K) : CallsH Try.prog 15 [h0, id1].toArray h K :=
  callsH_of (ann := (.two .leaf (.two (.two .leaf (.two (.two .leaf .leaf) .leaf)) (.two .leaf (.two (.two .leaf (.two (.two .leaf .leaf) .leaf)) (.two .leaf .leaf)))))) (c := Try.f15.body.getD .skip) Try.func15 (by kernel_rfl) (by kernel_rfl) (by kernel_rfl) (of_decide_eq_true (by kernel_rfl))
    (Eq.mpr (by kernel_rfl) H)

/-! 16: (*milestone/heap.Heap).Lower -/

def sh16_k1 (P : Program) (K : Value → Heap → Prop) (h_1 : Heap) : Prop :=
  K (.int .i64 2) h_1

def sh16 (P : Program) (h0 id1 key2 : Value) (h : Heap) (K : Value → Heap → Prop) : Prop :=
  pEq false .ptr h0 (.pointer none) fun t10 =>
  ifV t10
  (K (.int .i64 1) h)
  (pNil h0 fun t13 =>
  pField 0 t13 fun t14 =>
  pField 1 t14 fun t15 =>
  pLoad h t15 fun t16 =>
  pLook (.int .i64) (.int .i64 0) true h t16 id1 fun t18 =>
  pExt t18 0 fun t19 =>
  pExt t18 1 fun t20 =>
  pBin .lss id1 (.int .i64 0) fun t23 =>
  ifV t23
  (sh16_k1 P K h)
  (pNil h0 fun t27 =>
  pField 2 t27 fun t28 =>
  pLoad h t28 fun t29 =>
  pBin .geq id1 t29 fun t30 =>
  ifV t30
  (sh16_k1 P K h)
  (pUn .not t20 fun t34 =>
  ifV t34
  (K (.int .i64 20) h)
  (pNil h0 fun t37 =>
  pField 0 t37 fun t38 =>
  pField 0 t38 fun t39 =>
  pLoad h t39 fun t40 =>
  pIdx 2 t40 t19 fun t42 =>
  pField 1 t42 fun t43 =>
  pLoad h t43 fun t44 =>
  pBin .lss t44 key2 fun t46 =>
  ifV t46
  (K (.int .i64 2) h)
  (pNil h0 fun t48 =>
  pField 0 t48 fun t49 =>
  pField 0 t49 fun t50 =>
  pLoad h t50 fun t51 =>
  pIdx 2 t51 t19 fun t54 =>
  pField 1 t54 fun t55 =>
  pStore 1 t55 key2 h fun u h_2 =>
  pNil h0 fun t57 =>
  pField 0 t57 fun t58 =>
  callS P 22 [t58, t19] h_2 fun t60 h_3 =>
  K (.int .i64 0) h_3)))))

theorem link16 (h0 id1 key2 : Value) {h : Heap} {K : Value → Heap → Prop} (H : sh16 Try.prog h0 id1 key2 h K) : CallsH Try.prog 16 [h0, id1, key2].toArray h K :=
  callsH_of (ann := (.two .leaf (.two (.two .leaf (.two (.two .leaf .leaf) .leaf)) (.two .leaf (.two (.one (.two .leaf (.two (.two .leaf .leaf) (.two .leaf (.two (.two .leaf .leaf) (.two .leaf (.two (.two .leaf .leaf) .leaf))))))) (.two .leaf (.two .leaf (.two .leaf .leaf)))))))) (c := Try.f16.body.getD .skip) Try.func16 (by kernel_rfl) (by kernel_rfl) (by kernel_rfl) (of_decide_eq_true (by kernel_rfl))
    (Eq.mpr (by kernel_rfl) H)

/-! 17: milestone/milestoneref08.New -/

def sh17 (P : Program) (n0 : Value) (h : Heap) (K : Value → Heap → Prop) : Prop :=
  pMax n0 (.int .i64 0) fun t4 =>
  pBuild [(.int .i64 0), (.slice none 0 0)] [(0, 1, t4)] fun t5 =>
  pBox 52 t5 h fun t6 h_1 =>
  K t6 h_1

theorem link17 (n0 : Value) {h : Heap} {K : Value → Heap → Prop} (H : sh17 Try.prog n0 h K) : CallsH Try.prog 17 [n0].toArray h K :=
  callsH_of (ann := (.two .leaf (.two .leaf .leaf))) (c := Try.f17.body.getD .skip) Try.func17 (by kernel_rfl) (by kernel_rfl) (by kernel_rfl) (of_decide_eq_true (by kernel_rfl))
    (Eq.mpr (by kernel_rfl) H)

/-! 18: milestone/milestonelaw08.alike -/

def sh18 (P : Program) (h0 r1 id2 : Value) (h : Heap) (K : Value → Heap → Prop) : Prop :=
  callS P 11 [h0] h fun t17 h_1 =>
  pExt t17 0 fun t18 =>
  pExt t17 1 fun t19 =>
  callS P 25 [r1] h_1 fun t22 h_2 =>
  pExt t22 0 fun t23 =>
  pExt t22 1 fun t24 =>
  callS P 15 [h0, id2] h_2 fun t28 h_3 =>
  pExt t28 0 fun t29 =>
  pExt t28 1 fun t30 =>
  callS P 26 [r1, id2] h_3 fun t34 h_4 =>
  pExt t34 0 fun t35 =>
  pExt t34 1 fun t36 =>
  pBin .eql t18 t23 fun t39 =>
  ifV t39
  (pEq false .bool t19 t24 fun t43 =>
  ifV t43
  (pBin .eql t29 t35 fun t48 =>
  ifV t48
  (pEq false .bool t30 t36 fun t53 =>
  ifV t53
  (pNil r1 fun t59 =>
  pField 1 t59 fun t60 =>
  pLoad h_4 t60 fun t61 =>
  pLen t61 fun t62 =>
  callS P 13 [h0] h_4 fun t57 h_5 =>
  (pLoad h_5 t60 fun t61_1 =>
  t61_1 = t61) ∧
  (pBin .eql t57 t62 fun t63 =>
  K t63 h_5))
  (K (.bool false) h_4))
  (K (.bool false) h_4))
  (K (.bool false) h_4))
  (K (.bool false) h_4)

theorem link18 (h0 r1 id2 : Value) {h : Heap} {K : Value → Heap → Prop} (H : sh18 Try.prog h0 r1 id2 h K) : CallsH Try.prog 18 [h0, r1, id2].toArray h K :=
  callsH_of (ann := (.two .leaf (.two .leaf (.two .leaf (.two .leaf (.two .leaf (.two .leaf .leaf))))))) (c := Try.f18.body.getD .skip) Try.func18 (by kernel_rfl) (by kernel_rfl) (by kernel_rfl) (of_decide_eq_true (by kernel_rfl))
    (Eq.mpr (by kernel_rfl) H)

/-! 19: (*milestone/milestoneref08.Heap).Push -/

def sh19_k1 (P : Program) (K : Value → Heap → Prop) (h_1 : Heap) : Prop :=
  K (.int .i64 2) h_1

def sh19 (P : Program) (h0 id1 key2 : Value) (h : Heap) (K : Value → Heap → Prop) : Prop :=
  pBin .lss id1 (.int .i64 0) fun t8 =>
  ifV t8
  (sh19_k1 P K h)
  (pNil h0 fun t12 =>
  pField 0 t12 fun t13 =>
  pLoad h t13 fun t14 =>
  pBin .geq id1 t14 fun t15 =>
  ifV t15
  (sh19_k1 P K h)
  (callS P 27 [h0, id1] h fun t20 h_2 =>
  pBin .geq t20 (.int .i64 0) fun t21 =>
  ifV t21
  (sh19_k1 P K h_2)
  (pNil h0 fun t25 =>
  pField 1 t25 fun t26 =>
  pLoad h_2 t26 fun t27 =>
  pBuild [(.int .i64 0), (.int .i64 0)] [(0, 1, id1), (1, 1, key2)] fun t30 =>
  pBuildSlice 67 (zerosL [(.int .i64 0), (.int .i64 0)] 1) [(0, 2, t30)] 1 h_2 fun t31 h_3 =>
  pAppend 67 2 16 [(.int .i64 0), (.int .i64 0)] t27 t31 h_3 fun t32 h_4 =>
  pNil h0 fun t33 =>
  pField 1 t33 fun t34 =>
  pStore 1 t34 t32 h_4 fun u h_5 =>
  K (.int .i64 0) h_5)))

theorem link19 (h0 id1 key2 : Value) {h : Heap} {K : Value → Heap → Prop} (H : sh19 Try.prog h0 id1 key2 h K) : CallsH Try.prog 19 [h0, id1, key2].toArray h K :=
  callsH_of (ann := (.two .leaf (.two (.two .leaf (.two (.two .leaf .leaf) .leaf)) (.two .leaf (.two .leaf .leaf))))) (c := Try.f19.body.getD .skip) Try.func19 (by kernel_rfl) (by kernel_rfl) (by kernel_rfl) (of_decide_eq_true (by kernel_rfl))
    (Eq.mpr (by kernel_rfl) H)

/-! 20: (*milestone/milestoneref08.Heap).Lower -/

def sh20_k1 (P : Program) (K : Value → Heap → Prop) (h_1 : Heap) : Prop :=
  K (.int .i64 2) h_1

def sh20 (P : Program) (h0 id1 key2 : Value) (h : Heap) (K : Value → Heap → Prop) : Prop :=
  pBin .lss id1 (.int .i64 0) fun t9 =>
  ifV t9
  (sh20_k1 P K h)
  (pNil h0 fun t13 =>
  pField 0 t13 fun t14 =>
  pLoad h t14 fun t15 =>
  pBin .geq id1 t15 fun t16 =>
  ifV t16
  (sh20_k1 P K h)
  (callS P 27 [h0, id1] h fun t20 h_2 =>
  pBin .lss t20 (.int .i64 0) fun t22 =>
  ifV t22
  (K (.int .i64 20) h_2)
  (pNil h0 fun t24 =>
  pField 1 t24 fun t25 =>
  pLoad h_2 t25 fun t26 =>
  pIdx 2 t26 t20 fun t28 =>
  pField 1 t28 fun t29 =>
  pLoad h_2 t29 fun t30 =>
  pBin .lss t30 key2 fun t32 =>
  ifV t32
  (K (.int .i64 2) h_2)
  (pNil h0 fun t34 =>
  pField 1 t34 fun t35 =>
  pLoad h_2 t35 fun t36 =>
  pIdx 2 t36 t20 fun t39 =>
  pField 1 t39 fun t40 =>
  pStore 1 t40 key2 h_2 fun u h_3 =>
  K (.int .i64 0) h_3))))

theorem link20 (h0 id1 key2 : Value) {h : Heap} {K : Value → Heap → Prop} (H : sh20 Try.prog h0 id1 key2 h K) : CallsH Try.prog 20 [h0, id1, key2].toArray h K :=
  callsH_of (ann := (.two .leaf (.two (.two .leaf (.two (.two .leaf .leaf) .leaf)) (.two .leaf (.two (.two .leaf (.two (.two .leaf .leaf) .leaf)) (.two (.two .leaf (.two (.two .leaf .leaf) .leaf)) (.two .leaf (.two .leaf .leaf)))))))) (c := Try.f20.body.getD .skip) Try.func20 (by kernel_rfl) (by kernel_rfl) (by kernel_rfl) (of_decide_eq_true (by kernel_rfl))
    (Eq.mpr (by kernel_rfl) H)

/-! 21: (*milestone/milestoneref08.Heap).Pop -/

def sh21 (P : Program) (h0 : Value) (h : Heap) (K : Value → Heap → Prop) : Prop :=
  callS P 28 [h0] h fun t8 h_1 =>
  pBin .lss t8 (.int .i64 0) fun t10 =>
  ifV t10
  (K (.tuple #[(.int .i64 0), (.int .i64 0), (.bool false)]) h_1)
  (pNil h0 fun t12 =>
  pField 1 t12 fun t13 =>
  pLoad h_1 t13 fun t14 =>
  pIdx 2 t14 t8 fun t16 =>
  pLoadN 2 h_1 t16 fun t17 =>
  pBox 67 (.agg #[(.int .i64 0), (.int .i64 0)]) h_1 fun x6 h_2 =>
  pStore 2 x6 t17 h_2 fun u h_3 =>
  pNil h0 fun t21 =>
  pField 1 t21 fun t22 =>
  pLoad h_3 t22 fun t23 =>
  pSlice 2 t23 none (some t8) none fun t25 =>
  pNil h0 fun t28 =>
  pField 1 t28 fun t29 =>
  pLoad h_3 t29 fun t30 =>
  pBin .add t8 (.int .i64 1) fun t32 =>
  pSlice 2 t30 (some t32) none none fun t33 =>
  pBuildSlice 67 (zerosL [(.int .i64 0), (.int .i64 0)] 0) [] 0 h_3 fun t19 h_4 =>
  pAppend 67 2 16 [(.int .i64 0), (.int .i64 0)] t19 t25 h_4 fun t26 h_5 =>
  (pLoad h_5 t29 fun t30_1 =>
  t30_1 = t30) ∧
  (pAppend 67 2 16 [(.int .i64 0), (.int .i64 0)] t26 t33 h_5 fun t34 h_6 =>
  pNil h0 fun t35 =>
  pField 1 t35 fun t36 =>
  pStore 1 t36 t34 h_6 fun u_1 h_7 =>
  pField 0 x6 fun t37 =>
  pLoad h_7 t37 fun t38 =>
  pField 1 x6 fun t39 =>
  pLoad h_7 t39 fun t40 =>
  K (.tuple #[t38, t40, (.bool true)]) h_7))

theorem link21 (h0 : Value) {h : Heap} {K : Value → Heap → Prop} (H : sh21 Try.prog h0 h K) : CallsH Try.prog 21 [h0].toArray h K :=
  callsH_of (ann := (.two .leaf (.two .leaf (.two (.two .leaf (.two (.two .leaf .leaf) .leaf)) (.two .leaf (.two .leaf (.two .leaf .leaf))))))) (c := Try.f21.body.getD .skip) Try.func21 (by kernel_rfl) (by kernel_rfl) (by kernel_rfl) (of_decide_eq_true (by kernel_rfl))
    (Eq.mpr (by kernel_rfl) H)

/-! 22: (*milestone/heap.row).up -/

def sh22_L1 (P : Program) (r0 : Value) (K : Value → Heap → Prop) (i1_1 : Value) (h_1 : Heap) (Z : Value → Heap → Prop) : Prop :=
  pBin .gtr i1_1 (.int .i64 0) fun t5 =>
  ifV t5
  (pBin .sub i1_1 (.int .i64 1) fun t10 =>
  pBin .quo t10 (.int .i64 4) fun t11 =>
  callS P 29 [r0, i1_1, t11] h_1 fun t12 h_2 =>
  ifV t12
  (pBin .sub i1_1 (.int .i64 1) fun t17 =>
  pBin .quo t17 (.int .i64 4) fun t18 =>
  callS P 23 [r0, i1_1, t18] h_2 fun t19 h_3 =>
  pBin .sub i1_1 (.int .i64 1) fun t21 =>
  pBin .quo t21 (.int .i64 4) fun t22 =>
  Z t22 h_3)
  (K (.tuple #[]) h_2))
  (K (.tuple #[]) h_1)

def sh22 (P : Program) (r0 i1 : Value) (h : Heap) (K : Value → Heap → Prop) : Prop :=
  LoopH (σ := Vals [1]) (fun x hh Z => sh22_L1 P r0 K x.1 hh (fun a0 hz => Z (a0, ()) hz)) (i1, ()) h

theorem link22 (r0 i1 : Value) {h : Heap} {K : Value → Heap → Prop} (H : sh22 Try.prog r0 i1 h K) : CallsH Try.prog 22 [r0, i1].toArray h K :=
  callsH_of (ann := (.one (.loop [1] (.two (.two .leaf (.two .leaf .leaf)) (.one (.two .leaf .leaf)))))) (c := Try.f22.body.getD .skip) Try.func22 (by kernel_rfl) (by kernel_rfl) (by kernel_rfl) (of_decide_eq_true (by kernel_rfl))
    (Eq.mpr (by kernel_rfl) H)

/-! 23: (*milestone/heap.row).swap -/

def sh23 (P : Program) (r0 i1 k2 : Value) (h : Heap) (K : Value → Heap → Prop) : Prop :=
  pNil r0 fun t7 =>
  pField 0 t7 fun t8 =>
  pLoad h t8 fun t9 =>
  pNil r0 fun t12 =>
  pField 0 t12 fun t13 =>
  pLoad h t13 fun t14 =>
  pNil r0 fun t17 =>
  pField 0 t17 fun t18 =>
  pLoad h t18 fun t19 =>
  pIdx 2 t19 k2 fun t21 =>
  pLoadN 2 h t21 fun t22 =>
  pNil r0 fun t24 =>
  pField 0 t24 fun t25 =>
  pLoad h t25 fun t26 =>
  pIdx 2 t26 i1 fun t28 =>
  pLoadN 2 h t28 fun t29 =>
  pIdx 2 t9 i1 fun t30 =>
  pStore 2 t30 t22 h fun u h_1 =>
  pIdx 2 t14 k2 fun t31 =>
  pStore 2 t31 t29 h_1 fun u_1 h_2 =>
  pNil r0 fun t33 =>
  pField 1 t33 fun t34 =>
  pLoad h_2 t34 fun t35 =>
  pNil r0 fun t37 =>
  pField 0 t37 fun t38 =>
  pLoad h_2 t38 fun t39 =>
  pIdx 2 t39 i1 fun t41 =>
  pField 0 t41 fun t42 =>
  pLoad h_2 t42 fun t43 =>
  pNil r0 fun t45 =>
  pField 1 t45 fun t46 =>
  pLoad h_2 t46 fun t47 =>
  pNil r0 fun t49 =>
  pField 0 t49 fun t50 =>
  pLoad h_2 t50 fun t51 =>
  pIdx 2 t51 k2 fun t53 =>
  pField 0 t53 fun t54 =>
  pLoad h_2 t54 fun t55 =>
  pMapEntry (.int .i64) (.int .i64 0) t35 t43 h_2 fun t58 h_3 =>
  pExt t58 1 fun t59 =>
  pEntryStore t35 t59 i1 h_3 fun u_2 h_4 =>
  pMapEntry (.int .i64) (.int .i64 0) t47 t55 h_4 fun t60 h_5 =>
  pExt t60 1 fun t61 =>
  pEntryStore t47 t61 k2 h_5 fun u_3 h_6 =>
  K (.tuple #[]) h_6

theorem link23 (r0 i1 k2 : Value) {h : Heap} {K : Value → Heap → Prop} (H : sh23 Try.prog r0 i1 k2 h K) : CallsH Try.prog 23 [r0, i1, k2].toArray h K :=
  callsH_of (ann := (.two .leaf .leaf)) (c := Try.f23.body.getD .skip) Try.func23 (by kernel_rfl) (by kernel_rfl) (by kernel_rfl) (of_decide_eq_true (by kernel_rfl))
    (Eq.mpr (by kernel_rfl) H)

/-! 24: (*milestone/heap.row).down -/

def sh24_B2 (P : Program) (h_6 : Heap) (first4 best5 : Value) (L : Loop) (t13 : Value) (h_7 : Heap) (R : Exit → Heap → Prop) : Prop :=
  beginR (h_6.size + 1) L h_7 fun h_8 =>
  pLoad h_8 first4 fun t14 =>
  pLoad h_8 best5 fun t16 =>
  callV P t14 [t13, t16].toArray h_8 fun t17 h_9 =>
  ifV t17
  (pStore 1 best5 t13 h_9 fun u_2 h_10 =>
  R .normal h_10)
  (R .normal h_9)

def sh24_L1 (P : Program) (r0 first4 : Value) (K : Value → Heap → Prop) (m : List Nat) (i1_1 : Value) (h_3 : Heap) (Z : List Nat → Value → Heap → Prop) : Prop :=
  pBox 3 (.int .i64 0) h_3 fun best5 h_4 =>
  pStore 1 best5 i1_1 h_4 fun u_1 h_5 =>
  callS P 30 [r0, i1_1] h_5 fun t12 h_6 =>
  rangeH P t12 [13] (h_6.size + 1) (h_6.push (.deferred (some []))) (fun L x hh R => sh24_B2 P h_6 first4 best5 L x.1 hh R)
  (fun h_11 => pLoad h_11 best5 fun t19 =>
  pBin .eql t19 i1_1 fun t21 =>
  ifV t21
  (takeM (h_6.size :: m) h_11 fun h_12 =>
  K (.tuple #[]) h_12)
  (pLoad h_11 best5 fun t24 =>
  callS P 23 [r0, i1_1, t24] h_11 fun t25 h_13 =>
  pLoad h_13 best5 fun t26 =>
  Z (h_6.size :: m) t26 h_13))
  (fun h_14 => takeM (h_6.size :: m) h_14 fun h_15 =>
  K (.tuple #[]) h_15)
  []

def sh24 (P : Program) (r0 i1 : Value) (h : Heap) (K : Value → Heap → Prop) : Prop :=
  pBox 69 .nilFunc h fun first4 h_1 =>
  pStore 1 first4 (.func (.func 29) #[r0] #[]) h_1 fun u h_2 =>
  LoopH (σ := List Nat × Vals [1]) (fun x hh Z => sh24_L1 P r0 first4 K x.1 x.2.1 hh (fun mz a0 hz => Z (mz, (a0, ())) hz)) ([], (i1, ())) h_2

theorem link24 (r0 i1 : Value) {h : Heap} {K : Value → Heap → Prop} (H : sh24 Try.prog r0 i1 h K) : CallsH Try.prog 24 [r0, i1].toArray h K :=
  callsH_of (ann := (.two .leaf (.one (.loop [1] (.one (.two .leaf (.two (.two .leaf (.one (.two .leaf (.one (.two .leaf (.two .leaf .leaf)))))) (.two (.two .leaf (.two .leaf .leaf)) (.two .leaf .leaf))))))))) (c := Try.f24.body.getD .skip) Try.func24 (by kernel_rfl) (by kernel_rfl) (by kernel_rfl) (of_decide_eq_true (by kernel_rfl))
    (Eq.mpr (by kernel_rfl) H)

/-! 25: (*milestone/milestoneref08.Heap).Least -/

def sh25 (P : Program) (h0 : Value) (h : Heap) (K : Value → Heap → Prop) : Prop :=
  callS P 28 [h0] h fun t6 h_1 =>
  pBin .lss t6 (.int .i64 0) fun t8 =>
  ifV t8
  (K (.tuple #[(.int .i64 0), (.bool false)]) h_1)
  (pNil h0 fun t10 =>
  pField 1 t10 fun t11 =>
  pLoad h_1 t11 fun t12 =>
  pIdx 2 t12 t6 fun t14 =>
  pField 1 t14 fun t15 =>
  pLoad h_1 t15 fun t16 =>
  K (.tuple #[t16, (.bool true)]) h_1)

theorem link25 (h0 : Value) {h : Heap} {K : Value → Heap → Prop} (H : sh25 Try.prog h0 h K) : CallsH Try.prog 25 [h0].toArray h K :=
  callsH_of (ann := (.two .leaf (.two .leaf (.two (.two .leaf (.two (.two .leaf .leaf) .leaf)) (.two .leaf .leaf))))) (c := Try.f25.body.getD .skip) Try.func25 (by kernel_rfl) (by kernel_rfl) (by kernel_rfl) (of_decide_eq_true (by kernel_rfl))
    (Eq.mpr (by kernel_rfl) H)

/-! 26: (*milestone/milestoneref08.Heap).Key -/

def sh26 (P : Program) (h0 id1 : Value) (h : Heap) (K : Value → Heap → Prop) : Prop :=
  callS P 27 [h0, id1] h fun t9 h_1 =>
  pBin .lss t9 (.int .i64 0) fun t11 =>
  ifV t11
  (K (.tuple #[(.int .i64 0), (.bool false)]) h_1)
  (pNil h0 fun t13 =>
  pField 1 t13 fun t14 =>
  pLoad h_1 t14 fun t15 =>
  pIdx 2 t15 t9 fun t17 =>
  pField 1 t17 fun t18 =>
  pLoad h_1 t18 fun t19 =>
  K (.tuple #[t19, (.bool true)]) h_1)

theorem link26 (h0 id1 : Value) {h : Heap} {K : Value → Heap → Prop} (H : sh26 Try.prog h0 id1 h K) : CallsH Try.prog 26 [h0, id1].toArray h K :=
  callsH_of (ann := (.two .leaf (.two .leaf (.two (.two .leaf (.two (.two .leaf .leaf) .leaf)) (.two .leaf .leaf))))) (c := Try.f26.body.getD .skip) Try.func26 (by kernel_rfl) (by kernel_rfl) (by kernel_rfl) (of_decide_eq_true (by kernel_rfl))
    (Eq.mpr (by kernel_rfl) H)

/-! 27: (*milestone/milestoneref08.Heap).at -/

def sh27_L1 (P : Program) (h0 id1 : Value) (K : Value → Heap → Prop) (i5 : Value) (h_1 : Heap) (Z : Value → Heap → Prop) : Prop :=
  pNil h0 fun t8 =>
  pField 1 t8 fun t9 =>
  pLoad h_1 t9 fun t10 =>
  pLen t10 fun t11 =>
  pBin .lss i5 t11 fun t12 =>
  ifV t12
  (pNil h0 fun t16 =>
  pField 1 t16 fun t17 =>
  pLoad h_1 t17 fun t18 =>
  pIdx 2 t18 i5 fun t20 =>
  pField 0 t20 fun t21 =>
  pLoad h_1 t21 fun t22 =>
  pBin .eql t22 id1 fun t24 =>
  ifV t24
  (K i5 h_1)
  (pBin .add i5 (.int .i64 1) fun t14 =>
  Z t14 h_1))
  (K (.int .i64 (-1)) h_1)

def sh27 (P : Program) (h0 id1 : Value) (h : Heap) (K : Value → Heap → Prop) : Prop :=
  LoopH (σ := Vals [5]) (fun x hh Z => sh27_L1 P h0 id1 K x.1 hh (fun a0 hz => Z (a0, ()) hz)) ((.int .i64 0), ()) h

theorem link27 (h0 id1 : Value) {h : Heap} {K : Value → Heap → Prop} (H : sh27 Try.prog h0 id1 h K) : CallsH Try.prog 27 [h0, id1].toArray h K :=
  callsH_of (ann := (.two .leaf (.two (.two .leaf (.one (.loop [5] (.two (.two .leaf (.two .leaf .leaf)) (.two (.one (.two .leaf (.two (.two .leaf .leaf) .leaf))) .leaf))))) (.two .leaf .leaf)))) (c := Try.f27.body.getD .skip) Try.func27 (by kernel_rfl) (by kernel_rfl) (by kernel_rfl) (of_decide_eq_true (by kernel_rfl))
    (Eq.mpr (by kernel_rfl) H)

/-! 28: (*milestone/milestoneref08.Heap).least -/

def sh28_k3 (P : Program) (i4 : Value) (Z : Value → Value → Heap → Prop) (best3_1 : Value) (h_3 : Heap) : Prop :=
  pBin .add i4 (.int .i64 1) fun t13 =>
  Z best3_1 t13 h_3

def sh28_k2 (P : Program) (i4 : Value) (Z : Value → Value → Heap → Prop) (h_2 : Heap) : Prop :=
  sh28_k3 P i4 Z i4 h_2

def sh28_L1 (P : Program) (h0 : Value) (K : Value → Heap → Prop) (best3 i4 : Value) (h_1 : Heap) (Z : Value → Value → Heap → Prop) : Prop :=
  pNil h0 fun t7 =>
  pField 1 t7 fun t8 =>
  pLoad h_1 t8 fun t9 =>
  pLen t9 fun t10 =>
  pBin .lss i4 t10 fun t11 =>
  ifV t11
  (pBin .lss best3 (.int .i64 0) fun t15 =>
  ifV t15
  (sh28_k2 P i4 Z h_1)
  (pNil h0 fun t18 =>
  pField 1 t18 fun t19 =>
  pLoad h_1 t19 fun t20 =>
  pIdx 2 t20 i4 fun t22 =>
  pField 1 t22 fun t23 =>
  pLoad h_1 t23 fun t24 =>
  pNil h0 fun t26 =>
  pField 1 t26 fun t27 =>
  pLoad h_1 t27 fun t28 =>
  pIdx 2 t28 best3 fun t30 =>
  pField 1 t30 fun t31 =>
  pLoad h_1 t31 fun t32 =>
  pBin .lss t24 t32 fun t33 =>
  ifV t33
  (sh28_k2 P i4 Z h_1)
  (pNil h0 fun t37 =>
  pField 1 t37 fun t38 =>
  pLoad h_1 t38 fun t39 =>
  pIdx 2 t39 i4 fun t41 =>
  pField 1 t41 fun t42 =>
  pLoad h_1 t42 fun t43 =>
  pNil h0 fun t45 =>
  pField 1 t45 fun t46 =>
  pLoad h_1 t46 fun t47 =>
  pIdx 2 t47 best3 fun t49 =>
  pField 1 t49 fun t50 =>
  pLoad h_1 t50 fun t51 =>
  pBin .eql t43 t51 fun t52 =>
  ifV t52
  (pNil h0 fun t55 =>
  pField 1 t55 fun t56 =>
  pLoad h_1 t56 fun t57 =>
  pIdx 2 t57 i4 fun t59 =>
  pField 0 t59 fun t60 =>
  pLoad h_1 t60 fun t61 =>
  pNil h0 fun t63 =>
  pField 1 t63 fun t64 =>
  pLoad h_1 t64 fun t65 =>
  pIdx 2 t65 best3 fun t67 =>
  pField 0 t67 fun t68 =>
  pLoad h_1 t68 fun t69 =>
  pBin .lss t61 t69 fun t70 =>
  ifV t70
  (sh28_k2 P i4 Z h_1)
  (sh28_k3 P i4 Z best3 h_1))
  (sh28_k3 P i4 Z best3 h_1))))
  (K best3 h_1)

def sh28 (P : Program) (h0 : Value) (h : Heap) (K : Value → Heap → Prop) : Prop :=
  LoopH (σ := Vals [3, 4]) (fun x hh Z => sh28_L1 P h0 K x.1 x.2.1 hh (fun a0 a1 hz => Z (a0, (a1, ())) hz)) ((.int .i64 (-1)), ((.int .i64 0), ())) h

theorem link28 (h0 : Value) {h : Heap} {K : Value → Heap → Prop} (H : sh28 Try.prog h0 h K) : CallsH Try.prog 28 [h0].toArray h K :=
  callsH_of (ann := (.two .leaf (.two .leaf (.two (.two .leaf (.one (.loop [3, 4] (.two (.two .leaf (.two .leaf .leaf)) (.two (.one (.two .leaf (.two .leaf .leaf))) .leaf))))) (.two .leaf .leaf))))) (c := Try.f28.body.getD .skip) Try.func28 (by kernel_rfl) (by kernel_rfl) (by kernel_rfl) (of_decide_eq_true (by kernel_rfl))
    (Eq.mpr (by kernel_rfl) H)

/-! 29: (*milestone/heap.row).ahead -/

def sh29 (P : Program) (r0 i1 k2 : Value) (h : Heap) (K : Value → Heap → Prop) : Prop :=
  pNil r0 fun t8 =>
  pField 0 t8 fun t9 =>
  pLoad h t9 fun t10 =>
  pIdx 2 t10 i1 fun t12 =>
  pField 1 t12 fun t13 =>
  pLoad h t13 fun t14 =>
  pNil r0 fun t16 =>
  pField 0 t16 fun t17 =>
  pLoad h t17 fun t18 =>
  pIdx 2 t18 k2 fun t20 =>
  pField 1 t20 fun t21 =>
  pLoad h t21 fun t22 =>
  pNil r0 fun t25 =>
  pField 0 t25 fun t26 =>
  pLoad h t26 fun t27 =>
  pIdx 2 t27 i1 fun t29 =>
  pField 0 t29 fun t30 =>
  pLoad h t30 fun t31 =>
  pNil r0 fun t33 =>
  pField 0 t33 fun t34 =>
  pLoad h t34 fun t35 =>
  pIdx 2 t35 k2 fun t37 =>
  pField 0 t37 fun t38 =>
  pLoad h t38 fun t39 =>
  callS P 32 [t14, t22] h fun t23 h_1 =>
  (pLoad h_1 t26 fun t27_1 =>
  t27_1 = t27) ∧
  (pLoad h_1 t30 fun t31_1 =>
  t31_1 = t31) ∧
  (pLoad h_1 t34 fun t35_1 =>
  t35_1 = t35) ∧
  (pLoad h_1 t38 fun t39_1 =>
  t39_1 = t39) ∧
  (callS P 33 [t31, t39] h_1 fun t40 h_2 =>
  pBuildSlice 3 (zerosL [(.int .i64 0)] 2) [(0, 1, t23), (1, 1, t40)] 2 h_2 fun t41 h_3 =>
  callS P 31 [t41] h_3 fun t42 h_4 =>
  pBin .lss t42 (.int .i64 0) fun t43 =>
  K t43 h_4)

theorem link29 (r0 i1 k2 : Value) {h : Heap} {K : Value → Heap → Prop} (H : sh29 Try.prog r0 i1 k2 h K) : CallsH Try.prog 29 [r0, i1, k2].toArray h K :=
  callsH_of (ann := (.two .leaf (.two .leaf .leaf))) (c := Try.f29.body.getD .skip) Try.func29 (by kernel_rfl) (by kernel_rfl) (by kernel_rfl) (of_decide_eq_true (by kernel_rfl))
    (Eq.mpr (by kernel_rfl) H)

/-! 30: (*milestone/heap.row).below -/

def sh30 (P : Program) (r0 i1 : Value) (h : Heap) (K : Value → Heap → Prop) : Prop :=
  pBox 68 r0 h fun r2 h_1 =>
  pBox 3 i1 h_1 fun i3 h_2 =>
  K (.func (.func 34) #[] #[i3, r2]) h_2

theorem link30 (r0 i1 : Value) {h : Heap} {K : Value → Heap → Prop} (H : sh30 Try.prog r0 i1 h K) : CallsH Try.prog 30 [r0, i1].toArray h K :=
  callsH_of (ann := (.two .leaf (.two .leaf .leaf))) (c := Try.f30.body.getD .skip) Try.func30 (by kernel_rfl) (by kernel_rfl) (by kernel_rfl) (of_decide_eq_true (by kernel_rfl))
    (Eq.mpr (by kernel_rfl) H)

/-! 31: cmp.Or[int] -/

def sh31_L1 (P : Program) (t7 vals0 : Value) (K : Value → Heap → Prop) (t8 : Value) (h_1 : Heap) (Z : Value → Heap → Prop) : Prop :=
  pBin .lss t8 t7 fun t9 =>
  ifV t9
  (pIdx 1 vals0 t8 fun t10 =>
  pLoad h_1 t10 fun t11 =>
  pBin .neq t11 (.int .i64 0) fun t14 =>
  ifV t14
  (K t11 h_1)
  (pBin .add t8 (.int .i64 1) fun t16 =>
  Z t16 h_1))
  (K (.int .i64 0) h_1)

def sh31 (P : Program) (vals0 : Value) (h : Heap) (K : Value → Heap → Prop) : Prop :=
  pLen vals0 fun t7 =>
  LoopH (σ := Vals [8]) (fun x hh Z => sh31_L1 P t7 vals0 K x.1 hh (fun a0 hz => Z (a0, ()) hz)) ((.int .i64 0), ()) h

theorem link31 (vals0 : Value) {h : Heap} {K : Value → Heap → Prop} (H : sh31 Try.prog vals0 h K) : CallsH Try.prog 31 [vals0].toArray h K :=
  callsH_of (ann := (.two .leaf (.two .leaf (.two (.two .leaf (.one (.loop [8] (.two .leaf (.two (.two .leaf .leaf) (.two (.one (.two .leaf (.two .leaf (.two (.two .leaf .leaf) .leaf)))) .leaf)))))) (.two .leaf .leaf))))) (c := Try.f31.body.getD .skip) Try.func31 (by kernel_rfl) (by kernel_rfl) (by kernel_rfl) (of_decide_eq_true (by kernel_rfl))
    (Eq.mpr (by kernel_rfl) H)

/-! 32: cmp.Compare[int64] -/

def sh32 (P : Program) (x0 y1 : Value) (h : Heap) (K : Value → Heap → Prop) : Prop :=
  callS P 35 [x0] h fun t8 h_1 =>
  callS P 35 [y1] h_1 fun t10 h_2 =>
  ifV t8
  (ifV t10
  (K (.int .i64 0) h_2)
  (K (.int .i64 (-1)) h_2))
  (ifV t10
  (K (.int .i64 1) h_2)
  (pBin .lss x0 y1 fun t16 =>
  ifV t16
  (K (.int .i64 (-1)) h_2)
  (pBin .gtr x0 y1 fun t19 =>
  ifV t19
  (K (.int .i64 1) h_2)
  (K (.int .i64 0) h_2))))

theorem link32 (x0 y1 : Value) {h : Heap} {K : Value → Heap → Prop} (H : sh32 Try.prog x0 y1 h K) : CallsH Try.prog 32 [x0, y1].toArray h K :=
  callsH_of (ann := (.two .leaf (.two .leaf (.two .leaf (.two (.two .leaf (.two (.two (.two .leaf (.two (.two .leaf .leaf) .leaf)) (.two .leaf .leaf)) .leaf)) (.two (.two .leaf (.two (.two .leaf .leaf) .leaf)) (.two (.two .leaf (.two (.two .leaf .leaf) .leaf)) (.two (.two .leaf (.two (.two .leaf .leaf) .leaf)) (.two .leaf .leaf))))))))) (c := Try.f32.body.getD .skip) Try.func32 (by kernel_rfl) (by kernel_rfl) (by kernel_rfl) (of_decide_eq_true (by kernel_rfl))
    (Eq.mpr (by kernel_rfl) H)

/-! 33: cmp.Compare[int] -/

def sh33 (P : Program) (x0 y1 : Value) (h : Heap) (K : Value → Heap → Prop) : Prop :=
  callS P 36 [x0] h fun t8 h_1 =>
  callS P 36 [y1] h_1 fun t10 h_2 =>
  ifV t8
  (ifV t10
  (K (.int .i64 0) h_2)
  (K (.int .i64 (-1)) h_2))
  (ifV t10
  (K (.int .i64 1) h_2)
  (pBin .lss x0 y1 fun t16 =>
  ifV t16
  (K (.int .i64 (-1)) h_2)
  (pBin .gtr x0 y1 fun t19 =>
  ifV t19
  (K (.int .i64 1) h_2)
  (K (.int .i64 0) h_2))))

theorem link33 (x0 y1 : Value) {h : Heap} {K : Value → Heap → Prop} (H : sh33 Try.prog x0 y1 h K) : CallsH Try.prog 33 [x0, y1].toArray h K :=
  callsH_of (ann := (.two .leaf (.two .leaf (.two .leaf (.two (.two .leaf (.two (.two (.two .leaf (.two (.two .leaf .leaf) .leaf)) (.two .leaf .leaf)) .leaf)) (.two (.two .leaf (.two (.two .leaf .leaf) .leaf)) (.two (.two .leaf (.two (.two .leaf .leaf) .leaf)) (.two (.two .leaf (.two (.two .leaf .leaf) .leaf)) (.two .leaf .leaf))))))))) (c := Try.f33.body.getD .skip) Try.func33 (by kernel_rfl) (by kernel_rfl) (by kernel_rfl) (of_decide_eq_true (by kernel_rfl))
    (Eq.mpr (by kernel_rfl) H)

/-! 34: (*milestone/heap.row).below$1 -/

def sh34_L1 (P : Program) (t1 t2 yield0 : Value) (K : Value → Heap → Prop) (k4 : Value) (h_1 : Heap) (Z : Value → Heap → Prop) : Prop :=
  pLoad h_1 t1 fun t9 =>
  pBin .mul (.int .i64 4) t9 fun t10 =>
  pBin .add t10 (.int .i64 4) fun t11 =>
  pBin .leq k4 t11 fun t12 =>
  ifV t12
  (pLoad h_1 t2 fun t15 =>
  pNil t15 fun t16 =>
  pField 0 t16 fun t17 =>
  pLoad h_1 t17 fun t18 =>
  pLen t18 fun t19 =>
  pBin .lss k4 t19 fun t20 =>
  ifV t20
  (callV P yield0 [k4].toArray h_1 fun t26 h_2 =>
  pUn .not t26 fun t27 =>
  ifV t27
  (K (.tuple #[]) h_2)
  (pBin .add k4 (.int .i64 1) fun t23 =>
  Z t23 h_2))
  (K (.tuple #[]) h_1))
  (K (.tuple #[]) h_1)

def sh34 (P : Program) (yield0 t1 t2 : Value) (h : Heap) (K : Value → Heap → Prop) : Prop :=
  pLoad h t1 fun t5 =>
  pBin .mul (.int .i64 4) t5 fun t6 =>
  pBin .add t6 (.int .i64 1) fun t7 =>
  LoopH (σ := Vals [4]) (fun x hh Z => sh34_L1 P t1 t2 yield0 K x.1 hh (fun a0 hz => Z (a0, ()) hz)) (t7, ()) h

theorem link34 (yield0 t1 t2 : Value) {h : Heap} {K : Value → Heap → Prop} (H : sh34 Try.prog yield0 t1 t2 h K) : CallsH Try.prog 34 [yield0, t1, t2].toArray h K :=
  callsH_of (ann := (.two .leaf (.one (.loop [4] (.two (.two .leaf (.two .leaf .leaf)) (.two (.one (.two .leaf (.two .leaf .leaf))) .leaf)))))) (c := Try.f34.body.getD .skip) Try.func34 (by kernel_rfl) (by kernel_rfl) (by kernel_rfl) (of_decide_eq_true (by kernel_rfl))
    (Eq.mpr (by kernel_rfl) H)

/-! 35: cmp.isNaN[int64] -/

def sh35 (P : Program) (x0 : Value) (h : Heap) (K : Value → Heap → Prop) : Prop :=
  pBin .neq x0 x0 fun t5 =>
  K t5 h

theorem link35 (x0 : Value) {h : Heap} {K : Value → Heap → Prop} (H : sh35 Try.prog x0 h K) : CallsH Try.prog 35 [x0].toArray h K :=
  callsH_of (ann := (.two .leaf (.two .leaf .leaf))) (c := Try.f35.body.getD .skip) Try.func35 (by kernel_rfl) (by kernel_rfl) (by kernel_rfl) (of_decide_eq_true (by kernel_rfl))
    (Eq.mpr (by kernel_rfl) H)

/-! 36: cmp.isNaN[int] -/

def sh36 (P : Program) (x0 : Value) (h : Heap) (K : Value → Heap → Prop) : Prop :=
  pBin .neq x0 x0 fun t5 =>
  K t5 h

theorem link36 (x0 : Value) {h : Heap} {K : Value → Heap → Prop} (H : sh36 Try.prog x0 h K) : CallsH Try.prog 36 [x0].toArray h K :=
  callsH_of (ann := (.two .leaf (.two .leaf .leaf))) (c := Try.f36.body.getD .skip) Try.func36 (by kernel_rfl) (by kernel_rfl) (by kernel_rfl) (of_decide_eq_true (by kernel_rfl))
    (Eq.mpr (by kernel_rfl) H)

end Go.Proofs.Ytdpofmalgemcdaa
