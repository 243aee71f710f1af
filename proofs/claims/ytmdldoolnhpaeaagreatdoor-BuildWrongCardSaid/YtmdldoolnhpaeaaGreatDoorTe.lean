/- Texts of the proofs of seat YtmdldoolnhpaeaaGreatDoor, joined: ChZ, ChV, AsV, BdC, F31W. They have no conditions of their own. -/
import Derived.Test.YtmdldoolnhpaeaaGreatDoorTd
import Derived.Test.YtmdldoolnhpaeaaGreatDoorMd
import Derived.Test.YtmdldoolnhpaeaaGreatDoorTa
set_option linter.unusedVariables false
set_option linter.unusedSimpArgs false
set_option linter.unusedSectionVars false

set_option maxRecDepth 100000
namespace Go.Proofs.YtmdldoolnhpaeaaGreatDoor
open Go Go.Mh
set_option maxHeartbeats 0

def shX_nodes_L2 (P : Program) (t23 t22 t9 yield0 : Value) (K : KT) (Kp : PanK) (Z : List Nat -> KT) (m : List Nat) (t24 : Value) (h_3 : Heap) (Z_1 : List Nat -> KT) : Prop :=
 pBin .lss t24 t23 fun t25 =>
 ifV t25
 (pIdx 1 t22 t24 fun t27 =>
 pLoad h_3 t27 fun t28 =>
 pBuild [(.int .i64 0), (.int .i64 0), (.int .i64 0), (.int .i64 0), (.int .i64 0), (.int .i64 0)] [(0, 1, t9), (1, 1, t24), (2, 1, (.int .i64 7)), (3, 1, t28), (4, 1, (.int .i64 (-2147483648))), (5, 1, (.int .i64 2147483648))] fun t33 =>
 callX P yield0 [t33].toArray h_3 (fun t34 h_4 =>
  pUn .not t34 fun t35 =>
  ifV t35
  (takeM m h_4 fun h_5 => K (.tuple #[]) h_5)
  (pBin .add t24 (.int .i64 1) fun t36 => Z_1 m t36 h_4)) (fun c h_6 => takeM m h_6 (Kp c)))
 (pBin .add t9 (.int .i64 1) fun t37 =>
 Z m t37 h_3)

def shX_nodes_L1 (P : Program) (t8 t1 yield0 : Value) (K : KT) (Kp : PanK) (m : List Nat) (t9 : Value) (h_1 : Heap) (Z : List Nat -> KT) : Prop :=
 pBin .lss t9 t8 fun t10 =>
 ifV t10
 (pField 1 t1 fun t12 =>
 pLoad h_1 t12 fun t13 =>
 pIdx 1 t13 t9 fun t15 =>
 pLoad h_1 t15 fun t16 =>
 pField 2 t1 fun t17 =>
 pLoad h_1 t17 fun t18 =>
 pIdx 1 t18 t9 fun t20 =>
 pLoad h_1 t20 fun t21 =>
 pBuildSlice T_int64 (zerosL [(.int .i64 0)] 2) [(0, 1, t16), (1, 1, t21)] 2 h_1 fun t22 h_2 =>
 pLen t22 fun t23 =>
 LoopH (σ := List Nat × Vals [24]) (fun x hh ZZ => shX_nodes_L2 P t23 t22 t9 yield0 K Kp Z x.1 x.2.1 hh (fun mz a0 hz => ZZ (mz, (a0, ())) hz)) (m, ((.int .i64 0), ())) h_2)
 (takeM m h_1 fun h_7 => K (.tuple #[]) h_7)

def shX_nodes (P : Program) (yield0 t1 : Value) (h : Heap) (K : KT) (Kp : PanK) : Prop :=
 pField 1 t1 fun t6 =>
 pLoad h t6 fun t7 =>
 pLen t7 fun t8 =>
 LoopH (σ := List Nat × Vals [9]) (fun x hh ZZ => shX_nodes_L1 P t8 t1 yield0 K Kp x.1 x.2.1 hh (fun mz a0 hz => ZZ (mz, (a0, ())) hz)) ([], ((.int .i64 0), ())) h

theorem lkX_nodes (yield0 t1 : Value) {h : Heap} {K : KT} {Kp : PanK} (H : shX_nodes Tryz.prog yield0 t1 h K Kp) : CallsX Tryz.prog F_graph_nodes_1 [yield0, t1].toArray h K Kp :=
 callsX_of (ann := (.two (.pl .leaf) (.one (.loop [9] (.two (.pl .leaf) (.two (.pl (.two .leaf .leaf)) (.two (.one (.two (.pl .leaf) (.two (.pl .leaf) (.one (.loop [24] (.two (.pl .leaf) (.two (.pl (.two .leaf .leaf)) (.two (.one (.two (.pl .leaf) (.two .pan (.pl (.two .leaf .leaf))))) (.pl .leaf))))))))) (.pl .leaf))))))))
  (c := Tryz.f126.body.getD .skip) Tryz.func126 (by kernel_rfl) (by kernel_rfl) (by kernel_rfl) (of_decide_eq_true (by kernel_rfl))
  (Eq.mpr (by kernel_rfl) H)

def shX_arcs_L2 (P : Program) (t33 t32 yield0 : Value) (K : KT) (Kp : PanK) (t13 : Value) (Z : List Nat -> KT) (m : List Nat) (t34 : Value) (h_5 : Heap) (Z_1 : List Nat -> KT) : Prop :=
 pBin .lss t34 t33 fun t35 =>
 ifV t35
 (pIdx 6 t32 t34 fun t36 =>
 pLoadN 6 h_5 t36 fun t37 =>
 pBox T_graph_place (.agg #[(.int .i64 0), (.int .i64 0), (.int .i64 0), (.int .i64 0), (.int .i64 0), (.int .i64 0)]) h_5 fun p7 h_6 =>
 pStore 6 p7 t37 h_6 fun _ h_7 =>
 pLoadN 6 h_7 p7 fun t39 =>
 callX P yield0 [t39].toArray h_7 (fun t40 h_8 =>
  pUn .not t40 fun t41 =>
  ifV t41
  (takeM m h_8 fun h_9 => K (.tuple #[]) h_9)
  (pBin .add t34 (.int .i64 1) fun t42 => Z_1 m t42 h_8)) (fun c h_10 => takeM m h_10 (Kp c)))
 (pBin .add t13 (.int .i64 1) fun t43 =>
 Z m t43 h_5)

def shX_arcs_L1 (P : Program) (t12 t11 t9 yield0 : Value) (K : KT) (Kp : PanK) (m : List Nat) (t13 : Value) (h_1 : Heap) (Z : List Nat -> KT) : Prop :=
 pBin .lss t13 t12 fun t14 =>
 ifV t14
 (pIdx 3 t11 t13 fun t16 =>
 pLoadN 3 h_1 t16 fun t17 =>
 pBox T_api_Arc (.agg #[(.int .i64 0), (.int .i64 0), (.int .i64 0)]) h_1 fun a5 h_2 =>
 pStore 3 a5 t17 h_2 fun _ h_3 =>
 pField 0 a5 fun t19 =>
 pLoad h_3 t19 fun t20 =>
 pBuild [(.int .i64 0), (.int .i64 0), (.int .i64 0), (.int .i64 0), (.int .i64 0), (.int .i64 0)] [(0, 1, t13), (1, 1, (.int .i64 0)), (2, 1, (.int .i64 9)), (3, 1, t20), (4, 1, (.int .i64 0)), (5, 1, t9)] fun t22 =>
 pField 1 a5 fun t24 =>
 pLoad h_3 t24 fun t25 =>
 pBuild [(.int .i64 0), (.int .i64 0), (.int .i64 0), (.int .i64 0), (.int .i64 0), (.int .i64 0)] [(0, 1, t13), (1, 1, (.int .i64 1)), (2, 1, (.int .i64 9)), (3, 1, t25), (4, 1, (.int .i64 0)), (5, 1, t9)] fun t27 =>
 pField 2 a5 fun t29 =>
 pLoad h_3 t29 fun t30 =>
 pBuild [(.int .i64 0), (.int .i64 0), (.int .i64 0), (.int .i64 0), (.int .i64 0), (.int .i64 0)] [(0, 1, t13), (1, 1, (.int .i64 2)), (2, 1, (.int .i64 10)), (3, 1, t30), (4, 1, (.int .i64 0)), (5, 1, (.int .i64 2147483648))] fun t31 =>
 pBuildSlice T_graph_place (zerosL [(.int .i64 0), (.int .i64 0), (.int .i64 0), (.int .i64 0), (.int .i64 0), (.int .i64 0)] 3) [(0, 6, t22), (6, 6, t27), (12, 6, t31)] 3 h_3 fun t32 h_4 =>
 pLen t32 fun t33 =>
 LoopH (σ := List Nat × Vals [34]) (fun x hh ZZ => shX_arcs_L2 P t33 t32 yield0 K Kp t13 Z x.1 x.2.1 hh (fun mz a0 hz => ZZ (mz, (a0, ())) hz)) (m, ((.int .i64 0), ())) h_4)
 (takeM m h_1 fun h_7 => K (.tuple #[]) h_7)

def shX_arcs (P : Program) (yield0 t1 : Value) (h : Heap) (K : KT) (Kp : PanK) : Prop :=
 pField 0 t1 fun t8 =>
 pLoad h t8 fun t9 =>
 pField 3 t1 fun t10 =>
 pLoad h t10 fun t11 =>
 pLen t11 fun t12 =>
 LoopH (σ := List Nat × Vals [13]) (fun x hh ZZ => shX_arcs_L1 P t12 t11 t9 yield0 K Kp x.1 x.2.1 hh (fun mz a0 hz => ZZ (mz, (a0, ())) hz)) ([], ((.int .i64 0), ())) h

theorem lkX_arcs (yield0 t1 : Value) {h : Heap} {K : KT} {Kp : PanK} (H : shX_arcs Tryz.prog yield0 t1 h K Kp) : CallsX Tryz.prog F_graph_arcs_1 [yield0, t1].toArray h K Kp :=
 callsX_of (ann := (.two (.pl .leaf) (.two (.pl .leaf) (.one (.loop [13] (.two (.pl .leaf) (.two (.pl (.two .leaf .leaf)) (.two (.one (.two (.pl .leaf) (.two (.pl .leaf) (.one (.loop [34] (.two (.pl .leaf) (.two (.pl (.two .leaf .leaf)) (.two (.one (.two (.pl .leaf) (.two .pan (.pl (.two .leaf .leaf))))) (.pl .leaf))))))))) (.pl .leaf)))))))))
  (c := Tryz.f127.body.getD .skip) Tryz.func127 (by kernel_rfl) (by kernel_rfl) (by kernel_rfl) (of_decide_eq_true (by kernel_rfl))
  (Eq.mpr (by kernel_rfl) H)

structure Rw where
 n : Int
 X : List Int
 Y : List Int
 arcs : List A3
def RwL (h : Heap) (vx vy va : Value) (g : Rw) : Prop := Vw encJ 1 h vx g.X /\ Vw encJ 1 h vy g.Y /\ Vw encA3 3 h va g.arcs
theorem RwL.more {h h' : Heap} {vx vy va : Value} {g : Rw} (H : RwL h vx vy va g) (x : Ext h h') : RwL h' vx vy va g := ⟨H.1.more x, H.2.1.more x, H.2.2.more x⟩

def nodesPl : Nat -> List Int -> List Int -> List Pl
 | i, x :: X, y :: Y => ⟨i, 0, 7, x, -2147483648, 2147483648⟩ :: ⟨i, 1, 7, y, -2147483648, 2147483648⟩ :: nodesPl (i + 1) X Y
 | _, _, _ => []
def arcsPl (n : Int) : Nat -> List A3 -> List Pl
 | i, a :: r => ⟨i, 0, 9, a.f, 0, n⟩ :: ⟨i, 1, 9, a.t, 0, n⟩ :: ⟨i, 2, 10, a.w, 0, 2147483648⟩ :: arcsPl n (i + 1) r
 | _, [] => []
def Rw.pls (g : Rw) : Nat -> List Pl
 | 0 => [⟨0, 0, 5, g.n, 1, 16777217⟩]
 | 1 => [⟨0, 0, 6, g.X.length, g.n, g.n + 1⟩, ⟨0, 1, 6, g.Y.length, g.n, g.n + 1⟩]
 | 2 => nodesPl 0 g.X g.Y
 | 3 => [⟨0, 0, 8, g.arcs.length, 0, 67108865⟩]
 | _ => arcsPl g.n 0 g.arcs

def Pl.ok (p : Pl) : Bool := decide (p.l <= p.n /\ p.n < p.e)
def bad1 : List Pl -> Option Pl
 | [] => none
 | p :: r => if p.ok then bad1 r else some p

def Rw.badFrom (g : Rw) : Nat -> Nat -> Option (Int × Int × Int × Int)
 | 0, _ => none
 | k + 1, i => match bad1 (g.pls i) with
  | some p => some (p.c, i, p.i, p.f)
  | none => g.badFrom k (i + 1)
def Rw.bad (g : Rw) : Option (Int × Int × Int × Int) := g.badFrom 5 0

def TellsX (fv : Value) (Q : Heap -> Prop) (ps : List Pl) : Prop :=
 ∀ (yv : Value) (h0 h : Heap) (Rs : List Res) (K : KT) (Kp : PanK) (J : List Pl -> List Res -> Prop) (E : List PanicEntry -> List Res -> Prop), (∃ l, yv = yieldV l) ->
  Own h0 h Rs -> J ps Rs -> (∀ s Rs' h', J s Rs' -> Own h0 h' Rs' -> Q h') ->
  (∀ p s Rs' Pr h' R Rp, J (p :: s) Rs' -> Own h0 h' (Rs' ++ Pr) -> (∀ Rs'' h'', J s Rs'' -> Own h0 h'' (Rs'' ++ Pr) -> R (.bool true) h'') ->
   (∀ c Rs'' h'', E c Rs'' -> Own h0 h'' (Rs'' ++ Pr) -> Rp c h'') -> callX Tryz.prog yv [.agg (encP p).toArray].toArray h' R Rp) ->
  (∀ Rs' h', J [] Rs' -> Own h0 h' Rs' -> K (.tuple #[]) h') -> (∀ c Rs' h', E c Rs' -> Own h0 h' Rs' -> Kp c h') -> callFX Tryz.prog fv #[yv] h K Kp

theorem callFX_of {P : Program} {f : Nat} {first captured : Array Value} {args : Array Value} {l : List Value} {h : Heap} {K : KT} {Kp : PanK} (e : first.toList ++ args.toList ++ captured.toList = l) (hc : CallsX P f l.toArray h K Kp) :
  callFX P (.func (.func f) first captured) args h K Kp := by
 show CallsX P f (first ++ args ++ captured) h K Kp
 have : first ++ args ++ captured = l.toArray := by
  apply Array.ext'
  rw [<- e]; simp
 rw [this]; exact hc

section
variable {h0 h : Heap} {L : List Res} {K : KT} {vs : Value} {ps : List Pl} {b : Nat}

theorem values_tells (hl : ps.length < 2 ^ 40) : TellsX (.func (.func F_slices_Values_sl_graph_place_graph_place_1) #[] #[ptr b]) (fun h => h[b]? = some (.cells #[vs] T_sl_graph_place (0, 0)) /\ Vw encP 6 h vs ps) ps := by
 rintro yv h0 h Rs K Kp J E ⟨l, rfl⟩ o j0 hQ hY hK hP
 refine callFX_of (l := [yieldV l, ptr b]) rfl (lkX_values_place _ _ ?_)
 unfold shX_values_place
 obtain ⟨hb, hv⟩ := hQ _ _ _ j0 o
 have hc : hcell h ⟨b, 0, none⟩ = some vs := hcell_of hb rfl
 simp only [pLoad_ptr, hc]
 refine hv.len ?_
 refine LoopH_count ps.length (fun i x h' => x.1 = [] /\ x.2.1 = I i /\ ∃ Rs', J (ps.drop i) Rs' /\ Own h0 h' Rs') ⟨rfl, rfl, Rs, j0, o⟩ ?_
 rintro i ⟨m, x, ⟨⟩⟩ h Z hi ⟨hm, hx, Rs', hj, o⟩ hZ
 dsimp only at hm hx hZ ⊢
 subst hx hm
 unfold shX_values_place_L1
 simp only [pBin_lss, ifV_dec]
 refine ⟨fun hlt => ?_, fun hge => ?_⟩
 ·have hlt : i < ps.length := by omega
  obtain ⟨_, hv⟩ := hQ _ _ _ hj o
  refine hv.atN encP_len hlt ?_
  rw [List.drop_eq_getElem_cons hlt] at hj
  refine o.box fun v4 h1 o1 => o1.st 0 rfl rfl rfl rfl rfl (encP_plain _) fun h2 o2 => o2.ldN 0 rfl rfl rfl ?_
  refine hY _ _ Rs' [] h2 _ _ hj o2.tail.nilTail (fun Rs'' h'' hj' o' => ?_) fun c Rs'' h'' he o' => hP c Rs'' h'' he o'.toNil
  rw [pUn_not, Bool.not_true, ifV_false, pBin_add, wI i (by omega)]
  exact hZ ([], I (i + 1 : Nat), ()) h'' hlt ⟨rfl, rfl, Rs'', hj', o'.toNil⟩
 ·have : i = ps.length := by omega
  rw [this, List.drop_length] at hj
  exact hK _ _ hj o

theorem nodesPl_drop {X Y : List Int} {i : Nat} (hx : i < X.length) (hy : i < Y.length) : nodesPl i (X.drop i) (Y.drop i) = ⟨i, 0, 7, X[i], -2147483648, 2147483648⟩ :: ⟨i, 1, 7, Y[i], -2147483648, 2147483648⟩ :: nodesPl (i + 1) (X.drop (i + 1)) (Y.drop (i + 1)) := by
 rw [List.drop_eq_getElem_cons hx, List.drop_eq_getElem_cons hy]; rfl
theorem arcsPl_drop {n : Int} {l : List A3} {i : Nat} (hx : i < l.length) : arcsPl n i (l.drop i) = ⟨i, 0, 9, l[i].f, 0, n⟩ :: ⟨i, 1, 9, l[i].t, 0, n⟩ :: ⟨i, 2, 10, l[i].w, 0, 2147483648⟩ :: arcsPl n (i + 1) (l.drop (i + 1)) := by
 rw [List.drop_eq_getElem_cons hx]; rfl

theorem nodes_tells {g : Rw} {vx vy va : Value} {r : Nat} (hxy : g.X.length = g.Y.length) (hl : g.X.length <= 2 ^ 63 - 1) : TellsX (.func (.func F_graph_nodes_1) #[] #[ptr r]) (fun h => h[r]? = some (.cells #[I g.n, vx, vy, va] T_api_Raw (0, 0)) /\ RwL h vx vy va g) (nodesPl 0 g.X g.Y) := by
 rintro yv h0 h Rs K Kp J E ⟨l, rfl⟩ o j0 hQ hY hK hP
 refine callFX_of (l := [yieldV l, ptr r]) rfl (lkX_nodes _ _ ?_)
 unfold shX_nodes
 obtain ⟨hb, hv⟩ := hQ _ _ _ j0 o
 have c1 : hcell h ⟨r, 1, none⟩ = some vx := hcell_of hb rfl
 simp only [pField_ptr, pLoad_ptr, Nat.zero_add, c1]
 refine hv.1.len ?_
 refine LoopH_count g.X.length (fun i x h' => x.1 = [] /\ x.2.1 = I i /\ ∃ Rs', J (nodesPl i (g.X.drop i) (g.Y.drop i)) Rs' /\ Own h0 h' Rs') ⟨rfl, rfl, Rs, j0, o⟩ ?_
 rintro i ⟨m, x, ⟨⟩⟩ h Z hi ⟨hm, hx', Rs', hj, o⟩ hZ
 dsimp only at hm hx' hZ ⊢
 subst hx' hm
 unfold shX_nodes_L1
 simp only [pBin_lss, ifV_dec]
 refine ⟨fun hlt => ?_, fun hge => ?_⟩
 ·have hlt : i < g.X.length := by omega
  have hlty : i < g.Y.length := by omega
  obtain ⟨hb, hv⟩ := hQ _ _ _ hj o
  rw [nodesPl_drop hlt hlty] at hj
  have c1 : hcell h ⟨r, 1, none⟩ = some vx := hcell_of hb rfl
  have c2 : hcell h ⟨r, 2, none⟩ = some vy := hcell_of hb rfl
  simp only [pField_ptr, pLoad_ptr, Nat.zero_add, c1, c2]
  refine hv.1.atI hlt (hv.2.1.atI hlty ?_)
  refine o.build (enc := encJ) (n := 1) [g.X[i], g.Y[i]] rfl (sizesOk_of rfl) rfl fun w h1 o1 => ?_
  refine (o1.vw 0 rfl).len ?_
  generalize hx : g.X[i] = x at hj o1
  generalize hy : g.Y[i] = y at hj o1
  refine LoopH_count 2 (fun j x' h' => x'.1 = [] /\ x'.2.1 = I j /\ ∃ Rs', J ((⟨i, 0, 7, x, -2147483648, 2147483648⟩ :: ⟨i, 1, 7, y, -2147483648, 2147483648⟩ :: nodesPl (i + 1) (g.X.drop (i + 1)) (g.Y.drop (i + 1))).drop j) Rs' /\ Own h0 h' (Rs' ++ [slR encJ 1 T_int64 w [x, y]])) ⟨rfl, rfl, Rs', hj, o1.rot⟩ ?_
  rintro j ⟨m, x', ⟨⟩⟩ h2 Z2 hj2 ⟨hm, hx', Rs2, hj', o2⟩ hZ2
  dsimp only at hm hx' hZ2 ⊢
  subst hx' hm
  unfold shX_nodes_L2
  simp only [pBin_lss, ifV_dec]
  refine ⟨fun hlt2 => ?_, fun hge => ?_⟩
  ·have hw : (Rs2 ++ [slR encJ 1 T_int64 w [x, y]])[Rs2.length]? = some (slR encJ 1 T_int64 w [x, y]) := by simp
   have hjl : j < [x, y].length := by simp at hlt2 ⊢; omega
   refine (o2.vw _ hw).atI hjl ⟨sizesOk_of rfl, ?_⟩
   have hp : ∃ s, (⟨i, 0, 7, x, -2147483648, 2147483648⟩ :: ⟨i, 1, 7, y, -2147483648, 2147483648⟩ :: nodesPl (i + 1) (g.X.drop (i + 1)) (g.Y.drop (i + 1))).drop j = ⟨i, j, 7, [x, y][j], -2147483648, 2147483648⟩ :: s /\
     s = (⟨i, 0, 7, x, -2147483648, 2147483648⟩ :: ⟨i, 1, 7, y, -2147483648, 2147483648⟩ :: nodesPl (i + 1) (g.X.drop (i + 1)) (g.Y.drop (i + 1)) : List Pl).drop (j + 1) := by
    have : j = 0 \/ j = 1 := by simp at hjl; omega
    rcases this with rfl | rfl
    ·exact ⟨_, rfl, rfl⟩
    ·exact ⟨_, rfl, rfl⟩
   obtain ⟨s, e1, e2⟩ := hp
   rw [e1] at hj'
   subst e2
   refine hY ⟨i, j, 7, [x, y][j], -2147483648, 2147483648⟩ _ Rs2 _ h2 _ _ hj' o2 (fun Rs'' h'' hj'' o' => ?_) fun c Rs'' h'' he o' => hP c Rs'' h'' he o'.left
   rw [pUn_not, Bool.not_true, ifV_false, pBin_add, wI j (by omega)]
   exact hZ2 ([], I (j + 1 : Nat), ()) h'' (by simp at hlt2; omega) ⟨rfl, rfl, Rs'', hj'', o'⟩
  ·have hj2' : j = 2 := by simp at hge; omega
   subst hj2'
   rw [pBin_add, wI i (by omega)]
   exact hZ ([], I (i + 1 : Nat), ()) h2 hlt ⟨rfl, rfl, Rs2, hj', o2.left⟩
 ·have : i = g.X.length := by omega
  rw [this, List.drop_length] at hj
  exact hK _ _ hj o

theorem arcs_tells {g : Rw} {vx vy va : Value} {r : Nat} (hl : g.arcs.length < 2 ^ 40) : TellsX (.func (.func F_graph_arcs_1) #[] #[ptr r]) (fun h => h[r]? = some (.cells #[I g.n, vx, vy, va] T_api_Raw (0, 0)) /\ RwL h vx vy va g) (arcsPl g.n 0 g.arcs) := by
 rintro yv h0 h Rs K Kp J E ⟨l, rfl⟩ o j0 hQ hY hK hP
 refine callFX_of (l := [yieldV l, ptr r]) rfl (lkX_arcs _ _ ?_)
 unfold shX_arcs
 obtain ⟨hb, hv⟩ := hQ _ _ _ j0 o
 have c0 : hcell h ⟨r, 0, none⟩ = some (I g.n) := hcell_of hb rfl
 have c3 : hcell h ⟨r, 3, none⟩ = some va := hcell_of hb rfl
 simp only [pField_ptr, pLoad_ptr, Nat.zero_add, c0, c3]
 refine hv.2.2.len ?_
 refine LoopH_count g.arcs.length (fun i x h' => x.1 = [] /\ x.2.1 = I i /\ ∃ Rs', J (arcsPl g.n i (g.arcs.drop i)) Rs' /\ Own h0 h' Rs') ⟨rfl, rfl, Rs, j0, o⟩ ?_
 rintro i ⟨m, x, ⟨⟩⟩ h Z hi ⟨hm, hx', Rs', hj, o⟩ hZ
 dsimp only at hm hx' hZ ⊢
 subst hx' hm
 unfold shX_arcs_L1
 simp only [pBin_lss, ifV_dec]
 refine ⟨fun hlt => ?_, fun hge => ?_⟩
 ·have hlt : i < g.arcs.length := by omega
  obtain ⟨hb, hv⟩ := hQ _ _ _ hj o
  rw [arcsPl_drop hlt] at hj
  refine hv.2.2.atN encA3_len hlt ?_
  generalize g.arcs[i] = a at hj
  refine o.box fun a5 h1 o1 => o1.st 0 rfl rfl rfl rfl rfl (encA3_plain _) fun h2 o2 => ?_
  simp only [pField_ptr]
  refine o2.load 0 rfl rfl ⟨sizesOk_of rfl, o2.load 0 rfl rfl ⟨sizesOk_of rfl, o2.load 0 rfl rfl ⟨sizesOk_of rfl, ?_⟩⟩⟩
  have o3 := o2.tail
  clear o2 o1 o
  generalize hp3 : ([⟨i, 0, 9, a.f, 0, g.n⟩, ⟨i, 1, 9, a.t, 0, g.n⟩, ⟨i, 2, 10, a.w, 0, 2147483648⟩] : List Pl) = p3
  refine o3.build (enc := encP) (n := 6) p3 (by rw [<- hp3]; rfl) (sizesOk_of rfl) (by rw [<- hp3]; rfl) fun w h4 o4 => ?_
  have hl3 : p3.length = 3 := by rw [<- hp3]; rfl
  refine (o4.vw 0 rfl).len ?_
  rw [hl3]
  have hj0 : J (p3 ++ arcsPl g.n (i + 1) (g.arcs.drop (i + 1))) Rs' := by rw [<- hp3]; exact hj
  clear hj
  refine LoopH_count 3 (fun j x' h' => x'.1 = [] /\ x'.2.1 = I j /\ ∃ Rs', J ((p3 ++ arcsPl g.n (i + 1) (g.arcs.drop (i + 1))).drop j) Rs' /\ Own h0 h' (Rs' ++ [slR encP 6 T_graph_place w p3])) ⟨rfl, rfl, Rs', hj0, o4.rot⟩ ?_
  rintro j ⟨m, x', ⟨⟩⟩ h5 Z2 hj2 ⟨hm, hx', Rs2, hj', o5⟩ hZ2
  dsimp only at hm hx' hZ2 ⊢
  subst hx' hm
  unfold shX_arcs_L2
  simp only [pBin_lss, ifV_dec]
  refine ⟨fun hlt2 => ?_, fun hge => ?_⟩
  ·have hw : (Rs2 ++ [slR encP 6 T_graph_place w p3])[Rs2.length]? = some (slR encP 6 T_graph_place w p3) := by simp
   have hjl : j < p3.length := by omega
   refine (o5.vw _ hw).atN encP_len hjl ?_
   have e1 : (p3 ++ arcsPl g.n (i + 1) (g.arcs.drop (i + 1))).drop j = p3[j] :: (p3 ++ arcsPl g.n (i + 1) (g.arcs.drop (i + 1))).drop (j + 1) := by
    rw [List.drop_eq_getElem_cons (by rw [List.length_append]; omega), List.getElem_append_left hjl]
   rw [e1] at hj'
   refine o5.box fun p7 h6 o6 => o6.st 0 rfl rfl rfl rfl rfl (encP_plain _) fun h7 o7 => o7.ldN 0 rfl rfl rfl ?_
   refine hY _ _ Rs2 _ h7 _ _ hj' o7.tail (fun Rs'' h'' hj'' o' => ?_) fun c Rs'' h'' he o' => hP c Rs'' h'' he o'.left
   rw [pUn_not, Bool.not_true, ifV_false, pBin_add, wI j (by omega)]
   exact hZ2 ([], I (j + 1 : Nat), ()) h'' (by omega) ⟨rfl, rfl, Rs'', hj'', o'⟩
  ·have hj2' : j = 3 := by omega
   subst hj2'
   rw [List.drop_append, List.drop_of_length_le (by omega), hl3, Nat.sub_self, List.drop_zero, List.nil_append] at hj'
   rw [pBin_add, wI i (by omega)]
   exact hZ ([], I (i + 1 : Nat), ()) h5 hlt ⟨rfl, rfl, Rs2, hj', o5.left⟩
 ·have : i = g.arcs.length := by omega
  rw [this, List.drop_length] at hj
  exact hK _ _ hj o

end
open Go Go.Mh

section
variable {h0 h : Heap} {L : List Res} {K : KT}

theorem bad1_cons {p : Pl} {s : List Pl} (h : p.ok = true) : bad1 (p :: s) = bad1 s := by
 show (if p.ok then bad1 s else some p) = _
 rw [if_pos h]

theorem phase_ok {fv : Value} {Q : Heap -> Prop} {ps : List Pl} {ph i phc : Nat} {Kn Kr : Heap -> Prop} {Kp : PanK} (hT : TellsX fv Q ps) (o : Own h0 h L) (hi : L[i]? = some (cellR phc [I ph] T_int)) (hQ : ∀ h', Own h0 h' L -> Q h')
  (hN : bad1 ps = none -> ∀ h', Own h0 h' (markR h.size :: L) -> Kn h')
  (hB : ∀ p f h', bad1 ps = some p -> Own h0 h' (cellR f [I p.c, I ph, I p.i, I p.f] T_api_Fault :: markR h.size :: L) -> Kp [{ v := .iface T_graph_trouble (.agg #[ptr f]), recovered := false }] h') :
  rangeX Tryz.prog fv [19] (h.size + 1) (h.push (.deferred (some []))) (fun M x hh R => shX_look_B2 Tryz.prog h (ptr phc) M x.1 hh R) Kn Kr [] Kp := by
 intro M hy
 have e1 : (h.push (.deferred (some []))).size = h.size + 1 := push_size
 have o1 : Own h0 (h.push (.deferred (some []))) (markR h.size :: L) := o.new (r := markR h.size) push_new fun b hb => hb
 have o2 : Own h0 ((h.push (.deferred (some []))).push (lo M .ready none)) (loopR (h.size + 1) (lo M .ready none) :: markR h.size :: L) :=
  o1.new (r := loopR (h.size + 1) (lo M .ready none)) (by show (Array.push _ _)[h.size + 1]? = _; rw [<- e1, push_new]) fun b hb => hb.trans e1.symm
 refine hT (yieldV (h.size + 1)) h0 _ _ _ _ (fun s Rs => Rs = loopR (h.size + 1) (lo M .ready none) :: markR h.size :: L /\ bad1 s = bad1 ps)
  (fun c Rs => ∃ p f, bad1 ps = some p /\ c = [{ v := .iface T_graph_trouble (.agg #[ptr f]), recovered := false }] /\ Rs = cellR f [I p.c, I ph, I p.i, I p.f] T_api_Fault :: markR h.size :: L) ⟨_, rfl⟩ o2 ⟨rfl, rfl⟩
  (fun s Rs' h' ⟨e, _⟩ o' => hQ h' (by subst e; exact o'.tail.tail)) ?_ ?_ ?_
 ·rintro p s _ Pr h' R Rp ⟨rfl, hs⟩ o' hT hF
  have hb : h'[h.size + 1]? = some (lo M .ready none) := o'.get 0 rfl
  refine hy (valsOf [19] [.agg (encP p).toArray]) h' R Rp .ready none hb ?_
  dsimp only [valsOf]
  unfold shX_look_B2
  refine o'.box fun p4 h1 o1 => o1.st 0 rfl rfl rfl rfl rfl (encP_plain _) fun h2 o2 => ?_
  refine o2.begin 1 rfl fun h3 o3 => ?_
  have o3 : Own h0 h3 ([cellR p4 (encP p) T_graph_place, loopR (h.size + 1) (lo M .busy none), markR h.size] ++ (L ++ Pr)) := o3
  have hph : ([cellR p4 (encP p) T_graph_place, loopR (h.size + 1) (lo M .busy none), markR h.size] ++ (L ++ Pr))[3 + i]? = some (cellR phc [I ph] T_int) := by
   rw [List.getElem?_append_right (by simp)]
   show (L ++ Pr)[3 + i - 3]? = _
   rw [show 3 + i - 3 = i by omega, List.getElem?_append_left (List.getElem?_eq_some_iff.1 hi).1]
   exact hi
  have k3 : p.ok = false -> shX_look_k3 Tryz.prog (ptr p4) (ptr phc) h3 (roundKX (h.size + 1) M R Rp) := by
   intro hbad
   have hbp : bad1 ps = some p := by
    rw [<- hs]
    show (if p.ok then bad1 s else some p) = _
    rw [if_neg (by rw [hbad]; decide)]
   unfold shX_look_k3
   simp only [pField_ptr]
   refine o3.load 0 rfl rfl (o3.load (3 + i) hph rfl (o3.load 0 rfl rfl (o3.load 0 rfl rfl ?_)))
   refine pBuild_ones (cs' := [I p.c, I ph, I p.i, I p.f]) (by intro q hq; simp at hq; rcases hq with rfl | rfl | rfl | rfl <;> rfl) rfl rfl ?_
   refine o3.box fun f h4 o4 => ?_
   refine pBuild_ones (cs' := [ptr f]) (by intro q hq; simp at hq; subst hq; rfl) rfl rfl ?_
   refine hF _ (cellR f [I p.c, I ph, I p.i, I p.f] T_api_Fault :: markR h.size :: L) h4 ⟨p, f, hbp, rfl, rfl⟩ ?_
   have o4 : Own h0 h4 ([cellR f [I p.c, I ph, I p.i, I p.f] T_api_Fault, cellR p4 (encP p) T_graph_place, loopR (h.size + 1) (lo M .busy none), markR h.size] ++ (L ++ Pr)) := o4
   exact o4.front 4 [0, 3] (by decide) (by decide)
  simp only [pField_ptr]
  refine o3.load 0 rfl rfl (o3.load 0 rfl rfl ?_)
  simp only [pBin_lss, ifV_dec]
  refine ⟨fun hlt => k3 (decide_eq_false (by omega)), fun hge => ?_⟩
  refine o3.load 0 rfl rfl (o3.load 0 rfl rfl ?_)
  simp only [pBin_geq, ifV_dec]
  refine ⟨fun hge2 => k3 (decide_eq_false (by omega)), fun hlt => ?_⟩
  have hok : p.ok = true := decide_eq_true (by omega)
  have o4 := o3.tail
  have hb' : h3[h.size + 1]? = some (lo M .busy none) := o4.get 0 rfl
  have hlt := get_lt hb'
  refine ⟨none, hb', hT (loopR (h.size + 1) (lo M .ready none) :: markR h.size :: L) _ ⟨rfl, by rw [<- hs, bad1_cons hok]⟩ ?_⟩
  have o4 : Own h0 h3 (loopR (h.size + 1) (lo M .busy none) :: markR h.size :: (L ++ Pr)) := o4
  refine o4.set 0 (r' := loopR (h.size + 1) (lo M .ready none)) rfl (Upd.upd (S := (loopR (h.size + 1) (lo M .busy none)).F) h3 _ rfl) (upd_self hlt) fun c hc => ⟨.inl hc, ?_⟩
  rw [setIf_upd, upd_size]; exact (show c = h.size + 1 from hc) ▸ hlt
 ·rintro Rs' h' ⟨rfl, hs⟩ o'
  have hb' : h'[h.size + 1]? = some (lo M .ready none) := o'.get 0 rfl
  have hlt := get_lt hb'
  refine ⟨.ready, none, by decide, hb', ?_⟩
  refine hN hs.symm _ ?_
  exact (o'.set 0 (r' := nilR) rfl (Upd.upd (S := (loopR (h.size + 1) (lo M .ready none)).F) h' (lo M .exhausted none) rfl) trivial fun c hc => hc.elim).tail
 ·rintro c Rs' h' ⟨p, f, hb, rfl, rfl⟩ o'
  exact hB p f h' hb o'

theorem valuesX_ok {vs : Value} {ps : List Pl} (o : Own h0 h (slR encP 6 T_graph_place vs ps :: L)) (hl : ps.length < 2 ^ 40)
  (hK : ∀ fv Q (q : Res) h', Own h0 h' (q :: L) -> (∀ h'', Own h0 h'' (q :: L) -> Q h'') -> TellsX fv Q ps -> K fv h') : callS Tryz.prog F_slices_Values_sl_graph_place_graph_place [vs] h K := by
 refine callS_of (lk_slices_Values_sl_graph_place_graph_place _ ?_)
 unfold sh_slices_Values_sl_graph_place_graph_place
 have e0 : vs.cells = #[vs] := (o.vw 0 rfl).one
 refine o.box fun b h1 o1 => ?_
 rw [e0] at o1
 refine hK _ _ (allR [cellR b [vs] T_sl_graph_place, slR encP 6 T_graph_place vs ps]) h1 (Own.pack (l := [cellR b [vs] T_sl_graph_place, slR encP 6 T_graph_place vs ps]) o1) (fun h'' o'' => ?_) (values_tells (b := b) (vs := vs) hl)
 have hq := o''.get 0 rfl
 obtain ⟨bl, H⟩ := hq (slR encP 6 T_graph_place vs ps) (by simp)
 have hc := hq (cellR b [vs] T_sl_graph_place) (by simp)
 exact ⟨hc, bl, H.view⟩

theorem oneX_ok {c n l e : Int} (o : Own h0 h L) (hK : ∀ fv Q (q : Res) h', Own h0 h' (q :: L) -> (∀ h'', Own h0 h'' (q :: L) -> Q h'') -> TellsX fv Q [⟨0, 0, c, n, l, e⟩] -> K fv h') : callS Tryz.prog F_graph_one [I c, I n, I l, I e] h K := by
 refine callS_of (lk_graph_one _ _ _ _ ?_)
 unfold sh_graph_one
 refine ⟨sizesOk_of rfl, ?_⟩
 refine o.build (enc := encP) (n := 6) [⟨0, 0, c, n, l, e⟩] rfl (sizesOk_of rfl) rfl fun w h1 o1 => ?_
 exact valuesX_ok o1 (by simp) hK

theorem shapesX_ok {g : Rw} {vx vy va : Value} (o : Own h0 h L) (hn : 0 <= g.n /\ g.n <= 2 ^ 40) (H : RwL h vx vy va g) (hK : ∀ fv Q (q : Res) h', Own h0 h' (q :: L) -> (∀ h'', Own h0 h'' (q :: L) -> Q h'') -> TellsX fv Q (g.pls 1) -> K fv h') :
  callS Tryz.prog F_graph_shapes [.agg #[I g.n, vx, vy, va]] h K := by
 refine callS_of (lk_graph_shapes _ ?_)
 unfold sh_graph_shapes
 refine (Own.start h).box fun r h1 o1 => ?_
 simp only [pField_ptr]
 have H1 := H.more o1.ext
 refine o1.load 0 rfl rfl (o1.load 0 rfl rfl (H1.1.len ?_))
 have e1 : IntKind.i64.wrap (g.n + 1) = g.n + 1 := w64 (by omega) (by omega)
 simp only [pBin_add, e1]
 refine ⟨sizesOk_of rfl, o1.load 0 rfl rfl (H1.2.1.len ⟨sizesOk_of rfl, ?_⟩)⟩
 refine o1.build (enc := encP) (n := 6) (g.pls 1) rfl (sizesOk_of rfl) rfl fun w h2 o2 => ?_
 exact valuesX_ok (L := [] ++ L) (o.frame ((o2.sel [0] (by decide)))) (by simp [Rw.pls]) hK

theorem look_any {g : Rw} {vx vy va : Value} {Kp : PanK} (H : RwL h vx vy va g) (hX : g.X.length <= 2 ^ 63 - 1) (hA : g.arcs.length < 2 ^ 40) (hN : g.bad = none -> ∀ h', Ext h h' -> K (.tuple #[]) h')
  (hB : ∀ c ph i f b h', g.bad = some (c, ph, i, f) -> Own h h' [cellR b [I c, I ph, I i, I f] T_api_Fault] -> Kp [{ v := .iface T_graph_trouble (.agg #[ptr b]), recovered := false }] h') :
  CallsX Tryz.prog F_graph_look [.agg #[I g.n, vx, vy, va]].toArray h K Kp := by
 refine lkX_look _ ?_
 unfold shX_look
 refine (Own.start h).box fun r h1 o1 => ?_
 have o1 : Own h h1 [cellR r [I g.n, vx, vy, va] T_api_Raw] := o1
 refine o1.build (enc := encV) (n := 1) [.func (.func F_graph_look_1) #[] #[ptr r], .func (.func F_graph_look_2) #[] #[ptr r], .func (.func F_graph_look_3) #[] #[ptr r], .func (.func F_graph_look_4) #[] #[ptr r], .func (.func F_graph_look_5) #[] #[ptr r]] rfl (sizesOk_of rfl) rfl fun w h2 o2 => ?_
 refine (o2.vw 0 rfl).len ?_
 refine LoopH_count 5 (fun i x h' => ∃ m, x.1 = m /\ x.2.1 = I i /\ g.bad = g.badFrom (5 - i) i /\ (∀ k, k < i -> bad1 (g.pls k) = none) /\ Own h h' [marksR m, slR encV 1 T_func_iter_Seq_graph_place w [.func (.func F_graph_look_1) #[] #[ptr r], .func (.func F_graph_look_2) #[] #[ptr r], .func (.func F_graph_look_3) #[] #[ptr r], .func (.func F_graph_look_4) #[] #[ptr r], .func (.func F_graph_look_5) #[] #[ptr r]], cellR r [I g.n, vx, vy, va] T_api_Raw])
  ⟨[], rfl, rfl, rfl, fun k hk => by omega, o2.noMarks⟩ ?_
 clear o1 o2
 rintro i ⟨m, x, ⟨⟩⟩ h2 Z hi ⟨m', hm', hx, hbd, hgood, o⟩ hZ
 dsimp only at hx hm' hZ ⊢
 subst hx
 obtain rfl := hm'.symm
 unfold shX_look_L1
 simp only [pBin_lss, ifV_dec]
 refine ⟨fun hlt => ?_, fun hge => ?_⟩
 rotate_left
 ·have : i = 5 := by simp at hge; omega
  subst this
  exact o.take 0 rfl fun h' o' => hN hbd h' o'.ext
 have hlt : i < 5 := by simp at hlt; omega
 have rest : ∀ {t16 : Value}, (∀ {h3 : Heap} {L : List Res} {K : KT}, Own h h3 (L ++ [cellR r [I g.n, vx, vy, va] T_api_Raw]) -> (∀ fv Q (q : Res) h', Own h h' (q :: (L ++ [cellR r [I g.n, vx, vy, va] T_api_Raw])) -> (∀ h'', Own h h'' (q :: (L ++ [cellR r [I g.n, vx, vy, va] T_api_Raw])) -> Q h'') -> TellsX fv Q (g.pls i) -> K fv h') -> callV Tryz.prog t16 [].toArray h3 K) ->
   pBox T_int (.int .i64 0) h2 fun phase2 h_4 => pStore 1 phase2 (I i) h_4 fun u h_5 => callV Tryz.prog t16 [].toArray h_5 fun t18 h_6 =>
    rangeX Tryz.prog t18 [19] (h_6.size + 1) (h_6.push (.deferred (some []))) (fun L x hh R => shX_look_B2 Tryz.prog h_6 phase2 L x.1 hh R)
     (fun h_13 => pBin .add (I i) (.int .i64 1) fun t43 => Z (h_6.size :: m', (t43, ())) h_13) (fun h_14 => takeM (h_6.size :: m') h_14 fun h_15 => K (.tuple #[]) h_15) [] (fun c h_17 => takeM (h_6.size :: m') h_17 (Kp c)) := by
  intro t16 hc
  refine o.box fun p h3 o3 => o3.st1 0 rfl rfl rfl rfl rfl fun h4 o4 => ?_
  refine hc (L := [cellR p [I i] T_int, marksR m', slR encV 1 T_func_iter_Seq_graph_place w [.func (.func F_graph_look_1) #[] #[ptr r], .func (.func F_graph_look_2) #[] #[ptr r], .func (.func F_graph_look_3) #[] #[ptr r], .func (.func F_graph_look_4) #[] #[ptr r], .func (.func F_graph_look_5) #[] #[ptr r]]]) o4 fun fv Q q h5 o5 hq ht => ?_
  have step : g.badFrom (5 - i) i = match bad1 (g.pls i) with
    | some p => some (p.c, (i : Int), p.i, p.f)
    | none => g.badFrom (5 - (i + 1)) (i + 1) := by
   rw [show 5 - i = (5 - (i + 1)) + 1 by omega]; rfl
  refine phase_ok ht o5 (i := 1) (ph := i) rfl hq (fun hnb h6 o6 => ?_) fun pl f h6 hpl o6 => ?_
  ·rw [pBin_add, wI i (by omega)]
   have o7 := o6.addMark 2 rfl
   rw [hnb] at step
   refine hZ (h5.size :: m', (I (i + 1 : Nat), ())) h6 hlt ⟨_, rfl, rfl, hbd.trans step, fun k hk => ?_, o7.tail.tail⟩
   by_cases e : k = i
   ·rw [e]; exact hnb
   ·exact hgood k (by omega)
  ·rw [hpl] at step
   have o7 : Own h h6 (markR h5.size :: cellR f [I pl.c, I i, I pl.i, I pl.f] T_api_Fault :: q :: cellR p [I i] T_int :: marksR m' :: [slR encV 1 T_func_iter_Seq_graph_place w [.func (.func F_graph_look_1) #[] #[ptr r], .func (.func F_graph_look_2) #[] #[ptr r], .func (.func F_graph_look_3) #[] #[ptr r], .func (.func F_graph_look_4) #[] #[ptr r], .func (.func F_graph_look_5) #[] #[ptr r]], cellR r [I g.n, vx, vy, va] T_api_Raw]) :=
    o6.front 2 [1, 0] (by decide) (by decide)
   refine o7.takeC 3 rfl fun h7 o8 => ?_
   exact hB _ _ _ _ f h7 (hbd.trans step) (o8.sel [0] (by decide))
 have raw : ∀ {h3 : Heap} {L : List Res}, Own h h3 (L ++ [cellR r [I g.n, vx, vy, va] T_api_Raw]) -> h3[r]? = some (.cells #[I g.n, vx, vy, va] T_api_Raw (0, 0)) /\ RwL h3 vx vy va g := fun {h3 L} o3 =>
  ⟨o3.get (r := cellR r [I g.n, vx, vy, va] T_api_Raw) L.length (by simp), H.more o3.ext⟩
 have hn0 : 0 < i -> 1 <= g.n /\ g.n <= 16777216 := fun h => by
  have := hgood 0 h
  have : (if (decide ((1 : Int) <= g.n /\ g.n < 16777217)) then none else some (⟨0, 0, 5, g.n, 1, 16777217⟩ : Pl)) = none := this
  split at this
  ·rename_i h1
   have := of_decide_eq_true h1
   omega
  ·cases this
 have hxy : 1 < i -> g.X.length = g.Y.length := fun h => by
  have := hgood 1 h
  have : (if (decide (g.n <= (g.X.length : Int) /\ (g.X.length : Int) < g.n + 1)) then (if (decide (g.n <= (g.Y.length : Int) /\ (g.Y.length : Int) < g.n + 1)) then none else some (⟨0, 1, 6, g.Y.length, g.n, g.n + 1⟩ : Pl)) else some (⟨0, 0, 6, g.X.length, g.n, g.n + 1⟩ : Pl)) = none := this
  split at this
  ·rename_i h1
   have h1 := of_decide_eq_true h1
   split at this
   ·rename_i h2
    have h2 := of_decide_eq_true h2
    omega
   ·cases this
  ·cases this
 have hcase : i = 0 \/ i = 1 \/ i = 2 \/ i = 3 \/ i = 4 := by omega
 rcases hcase with rfl | rfl | rfl | rfl | rfl
 ·refine (o.vw 1 rfl).at1 (e := fun x => x) (fun _ => rfl) (by simp) ?_
  refine rest fun {h3 L K} o3 hc => ?_
  show callV Tryz.prog (.func (.func F_graph_look_1) #[] #[ptr r]) _ _ _
  refine callV_of (l := [ptr r]) rfl (lk_graph_look_1 _ ?_)
  unfold sh_graph_look_1
  have c0 : hcell h3 ⟨r, 0, none⟩ = some (I g.n) := hcell_of (raw o3).1 rfl
  simp only [pField_ptr, pLoad_ptr, c0]
  exact oneX_ok o3 hc
 ·refine (o.vw 1 rfl).at1 (e := fun x => x) (fun _ => rfl) (by simp) ?_
  refine rest fun {h3 L K} o3 hc => ?_
  show callV Tryz.prog (.func (.func F_graph_look_2) #[] #[ptr r]) _ _ _
  refine callV_of (l := [ptr r]) rfl (lk_graph_look_2 _ ?_)
  unfold sh_graph_look_2
  refine o3.ldN (cs := [I g.n, vx, vy, va]) (T := T_api_Raw) L.length (by simp) rfl rfl ?_
  exact shapesX_ok o3 (by have := hn0 (by decide); omega) (raw o3).2 hc
 ·refine (o.vw 1 rfl).at1 (e := fun x => x) (fun _ => rfl) (by simp) ?_
  refine rest fun {h3 L K} o3 hc => ?_
  show callV Tryz.prog (.func (.func F_graph_look_3) #[] #[ptr r]) _ _ _
  refine callV_of (l := [ptr r]) rfl (lk_graph_look_3 _ ?_)
  unfold sh_graph_look_3
  refine o3.ldN (cs := [I g.n, vx, vy, va]) (T := T_api_Raw) L.length (by simp) rfl rfl ?_
  refine callS_of (lk_graph_nodes _ ?_)
  unfold sh_graph_nodes
  exact o3.box fun b h4 o4 => hc _ _ _ h4 o4 (fun h'' o'' => ⟨o''.get 0 rfl, H.more o''.ext⟩) (nodes_tells (hxy (by decide)) hX)
 ·refine (o.vw 1 rfl).at1 (e := fun x => x) (fun _ => rfl) (by simp) ?_
  refine rest fun {h3 L K} o3 hc => ?_
  show callV Tryz.prog (.func (.func F_graph_look_4) #[] #[ptr r]) _ _ _
  refine callV_of (l := [ptr r]) rfl (lk_graph_look_4 _ ?_)
  unfold sh_graph_look_4
  have c0 : hcell h3 ⟨r, 3, none⟩ = some va := hcell_of (raw o3).1 rfl
  simp only [pField_ptr, pLoad_ptr, Nat.zero_add, c0]
  refine (raw o3).2.2.2.len ?_
  exact oneX_ok o3 hc
 ·refine (o.vw 1 rfl).at1 (e := fun x => x) (fun _ => rfl) (by simp) ?_
  refine rest fun {h3 L K} o3 hc => ?_
  show callV Tryz.prog (.func (.func F_graph_look_5) #[] #[ptr r]) _ _ _
  refine callV_of (l := [ptr r]) rfl (lk_graph_look_5 _ ?_)
  unfold sh_graph_look_5
  refine o3.ldN (cs := [I g.n, vx, vy, va]) (T := T_api_Raw) L.length (by simp) rfl rfl ?_
  refine callS_of (lk_graph_arcs _ ?_)
  unfold sh_graph_arcs
  exact o3.box fun b h4 o4 => hc _ _ _ h4 o4 (fun h'' o'' => ⟨o''.get 0 rfl, H.more o''.ext⟩) (arcs_tells hA)

theorem check_any {g : Rw} {vx vy va : Value} (H : RwL h vx vy va g) (hX : g.X.length <= 2 ^ 63 - 1) (hA : g.arcs.length < 2 ^ 40) (hN : g.bad = none -> ∀ h', Ext h h' -> K .nilIface h')
  (hB : ∀ c ph i f b h', g.bad = some (c, ph, i, f) -> Own h h' [cellR b [I c, I ph, I i, I f] T_api_Fault] -> K (.iface T_graph_trouble (.agg #[ptr b])) h') : callS Tryz.prog F_graph_Check [.agg #[I g.n, vx, vy, va]] h K := by
 refine callS_of (lkX_Check _ ?_)
 unfold shX_Check
 refine (Own.start h).box fun r h1 o1 => o1.box fun e h2 o2 => ?_
 have o2 : Own h h2 (cellR e [.nilIface] T_error :: cellR r [I g.n, vx, vy, va] T_api_Raw :: []) := o2
 refine o2.ldN 1 rfl rfl rfl ?_
 refine callX_of (l := [.agg #[I g.n, vx, vy, va]]) rfl ?_
 refine look_any (H.more o2.ext) hX hA (fun hn h3 x3 => ?_) fun c ph i f b h3 hb o3 => ?_
 ·have o3 := o2.more x3
  refine o3.st1 0 (cs' := [.nilIface]) rfl rfl rfl rfl rfl fun h4 o4 => ?_
  exact check1_idle (o4.load 0 rfl rfl (hN hn _ o4.ext))
 ·have o4 := o2.frame o3
  refine check1_hit o4 (i := 1) rfl fun h5 o5 => ?_
  have o5 : Own h h5 ([cellR b [I c, I ph, I i, I f] T_api_Fault, cellR e [.iface T_graph_trouble (.agg #[ptr b])] T_error, cellR r [I g.n, vx, vy, va] T_api_Raw]) := o5
  exact o5.load 1 rfl rfl (hB c ph i f b h5 hb (o5.sel [0] (by decide)))

end
open Go Go.Mh

section
variable {h0 h : Heap} {L : List Res} {K : KT} {c ph i f : Int} {ev : Value}

def ErrV (h : Heap) (ev : Value) (c ph i f : Int) : Prop := (ev = .nilIface /\ c = 0 /\ ph = 0 /\ i = 0 /\ f = 0) \/
 (c ≠ 0 /\ ∃ b : Nat, h[b]? = some (.cells #[I c, I ph, I i, I f] T_api_Fault (0, 0)) /\ (ev = .iface T_p_api_Fault (ptr b) \/ ∃ T, TrT T /\ ev = .iface T (.agg #[ptr b])))
theorem ErrV.more {h' : Heap} (H : ErrV h ev c ph i f) (x : Ext h h') : ErrV h' ev c ph i f := by
 rcases H with H | ⟨hc, b, hb, H⟩
 ·exact .inl H
 ·exact .inr ⟨hc, b, x.get hb, H⟩
theorem ErrV.ne {K : Value -> Prop} (H : ErrV h ev c ph i f) (hK : K (.bool (c != 0))) : pEq true .iface ev .nilIface K := by
 rcases H with ⟨rfl, rfl, _⟩ | ⟨hc, b, _, H⟩
 ·exact hK
 ·rw [show (c != 0) = true by simpa using hc] at hK
  rcases H with rfl | ⟨T, _, rfl⟩ <;> exact hK

set_option maxRecDepth 100000 in
theorem asNil_ok {tv : Value} (hK : K (.bool false) h) : callS Tryz.prog F_errors_As [.nilIface, tv] h K :=
 callS_of (lkF Tryz.func35 (Eq.mpr (α := compile Tryz.prog Tryz.f35.ntmps false (Tryz.f35.body.getD .skip) (annG (Tryz.f35.body.getD .skip) 0 []).1 (argE [.nilIface, tv] 0) [] h (fnPost Tryz.prog Tryz.f35.results.toList K)) (β := K (.bool false) h) (by kernel_rfl) hK))

theorem ldFault {b : Nat} {K : Value -> Prop} (hb : h[b]? = some (.cells #[I c, I ph, I i, I f] T_api_Fault (0, 0))) (hK : K (.agg #[I c, I ph, I i, I f])) : pLoadN 4 h (ptr b) K := by
 have : cellsAt h b 0 4 = some [I c, I ph, I i, I f] := cellsAt_of (i := 0) (cs := [I c, I ph, I i, I f]) hb 4 0 (Nat.le_refl 4)
 rw [pLoadN_ptr, this]
 exact hK

theorem told_plain {u : Value} (hu : u ∈ [I c, I ph, I i, I f]) : Mh.plainCell u = true := by
 simp at hu
 rcases hu with rfl | rfl | rfl | rfl <;> rfl

theorem apiTold_any (H : ErrV h ev c ph i f) (hg : Glob h) (hK : ∀ h', Ext h h' -> K (.agg #[I c, I ph, I i, I f]) h') : callS Tryz.prog F_api_Told [ev] h K := by
 refine callS_of (lk_api_Told _ ?_)
 unfold sh_api_Told
 refine (Own.start h).box fun t2 h1 o1 => o1.box fun f3 h2 o2 => ?_
 have o2 : Own h h2 (cellR f3 [.pointer none] T_p_api_Fault :: cellR t2 [I 0, I 0, I 0, I 0] T_api_Fault :: []) := o2
 rcases H with ⟨rfl, rfl, rfl, rfl, rfl⟩ | ⟨hc, b, hb, H⟩
 ·refine asNil_ok ?_
  rw [ifV_false]
  unfold sh_api_Told_k1
  refine o2.box fun e4 h3 o3 => asNil_ok ?_
  rw [ifV_false]
  refine pBuild_ones (cs' := [I 0, I 0, I 0, I 0]) (by intro p hp; cases hp) rfl rfl ?_
  refine o3.st (l := [I 0, I 0, I 0, I 0]) (cs' := [I 0, I 0, I 0, I 0]) 2 rfl rfl rfl rfl rfl (fun u hu => told_plain hu) fun h4 o4 => o4.ldN (cs' := [I 0, I 0, I 0, I 0]) 2 rfl rfl rfl (hK h4 o4.ext)
 ·have rest : ∀ h3, Own h h3 (cellR f3 [ptr b] T_p_api_Fault :: cellR t2 [I 0, I 0, I 0, I 0] T_api_Fault :: []) ->
    ifV (.bool true) (pLoad h3 (ptr f3) fun t9 => pEq true .ptr t9 (.pointer none) fun t10 => ifV t10 (pLoad h3 (ptr f3) fun t12 => pNil t12 fun t13 => pLoadN 4 h3 t13 fun t14 => pStore 4 (ptr t2) t14 h3 fun u h_4 => pLoadN 4 h_4 (ptr t2) fun res => K res h_4)
     (sh_api_Told_k1 Tryz.prog ev (ptr t2) K h3)) (sh_api_Told_k1 Tryz.prog ev (ptr t2) K h3) := by
   intro h3 o3
   rw [ifV_true]
   refine o3.load 0 rfl rfl ?_
   simp only [pNe_ptr_nil, Option.isSome_some, ifV_true]
   refine o3.load 0 rfl rfl ?_
   rw [pNil_ptr]
   refine ldFault (o3.ext.get hb) ?_
   exact o3.st (l := [I c, I ph, I i, I f]) (cs' := [I c, I ph, I i, I f]) 1 rfl rfl rfl rfl rfl (fun u hu => told_plain hu) fun h4 o4 => o4.ldN (cs' := [I c, I ph, I i, I f]) 1 rfl rfl rfl (hK h4 o4.ext)
  rcases H with rfl | ⟨T, hT, rfl⟩
  ·exact asFault_ok o2 0 rfl (hg.more o2.ext) fun h3 o3 => rest h3 o3
  ·exact asTrouble_ok hT o2 0 rfl (hg.more o2.ext) fun h3 o3 => rest h3 o3

theorem told31_any (H : ErrV h ev c ph i f) (hg : Glob h) (hK : ∀ h', Ext h h' -> K (.bool true) h') : callS Tryz.prog F_milestonelaw31_told [ev, .agg #[I c, I ph, I i, I f]] h K := by
 refine callS_of (lk_milestonelaw31_told _ _ ?_)
 unfold sh_milestonelaw31_told
 refine (Own.start h).box fun f3 h1 o1 => ?_
 have o1 : Own h h1 (cellR f3 [I c, I ph, I i, I f] T_api_Fault :: []) := o1
 refine cutP_of (fun y h' => y.1 = .bool true /\ Ext h h') (fun J hJ => ?_) ?_
 ·have p2 : ∀ {x : Bool} {K : Value -> Prop}, K (.bool true) -> pEq false .bool (.bool x) (.bool x) K := fun {x} {K} hk => by cases x <;> exact hk
  have p3 : ∀ {K : Value -> Prop}, K (.bool true) -> pEqS .eql 4 (.agg #[I c, I ph, I i, I f]) (.agg #[I c, I ph, I i, I f]) K := fun hk => by simpa [pEqS, intsL] using hk
  refine H.ne ?_
  simp only [pField_ptr, Nat.zero_add]
  refine o1.load 0 rfl rfl ?_
  rw [pBin_neq]
  refine p2 ?_
  rw [ifV_true]
  refine o1.ldN (cs' := [I c, I ph, I i, I f]) 0 rfl rfl rfl ?_
  refine apiTold_any (H.more o1.ext) (hg.more o1.ext) fun h2 x2 => ⟨(o1.more x2).ldN (cs' := [I c, I ph, I i, I f]) 0 rfl rfl rfl rfl, ?_⟩
  refine p3 ?_
  exact hJ _ _ ⟨rfl, o1.ext2 x2⟩
 ·rintro ⟨y, ⟨⟩⟩ h' ⟨hy, x⟩
  dsimp only at hy ⊢
  subst hy
  unfold sh_milestonelaw31_told_C1
  exact hK h' x

theorem bad1_c : ∀ {l : List Pl} {p : Pl}, bad1 l = some p -> p ∈ l
 | [], p, h => by cases h
 | q :: r, p, h => by
  have h : (if q.ok then bad1 r else some q) = some p := h
  split at h
  ·exact List.mem_cons_of_mem _ (bad1_c h)
  ·cases h; exact List.mem_cons_self
theorem nodesPl_c : ∀ {X Y : List Int} {i : Nat} {p : Pl}, p ∈ nodesPl i X Y -> p.c ≠ 0
 | x :: X, y :: Y, i, p, h => by
  have h : p ∈ (⟨i, 0, 7, x, -2147483648, 2147483648⟩ : Pl) :: ⟨i, 1, 7, y, -2147483648, 2147483648⟩ :: nodesPl (i + 1) X Y := h
  rcases List.mem_cons.1 h with rfl | h
  ·show (7 : Int) ≠ 0; decide
  ·rcases List.mem_cons.1 h with rfl | h
   ·show (7 : Int) ≠ 0; decide
   ·exact nodesPl_c h
 | [], _, _, _, h => by simp [nodesPl] at h
 | _ :: _, [], _, _, h => by simp [nodesPl] at h
theorem arcsPl_c {n : Int} : ∀ {l : List A3} {i : Nat} {p : Pl}, p ∈ arcsPl n i l -> p.c ≠ 0
 | a :: l, i, p, h => by
  have h : p ∈ (⟨i, 0, 9, a.f, 0, n⟩ : Pl) :: ⟨i, 1, 9, a.t, 0, n⟩ :: ⟨i, 2, 10, a.w, 0, 2147483648⟩ :: arcsPl n (i + 1) l := h
  rcases List.mem_cons.1 h with rfl | h
  ·show (9 : Int) ≠ 0; decide
  ·rcases List.mem_cons.1 h with rfl | h
   ·show (9 : Int) ≠ 0; decide
   ·rcases List.mem_cons.1 h with rfl | h
    ·show (10 : Int) ≠ 0; decide
    ·exact arcsPl_c h
 | [], _, _, h => by simp [arcsPl] at h
theorem Rw.pls_c {g : Rw} {k : Nat} {p : Pl} (h : p ∈ g.pls k) : p.c ≠ 0 := by
 match k with
 | 0 => simp [Rw.pls] at h; subst h; show (5 : Int) ≠ 0; decide
 | 1 => simp [Rw.pls] at h; rcases h with rfl | rfl <;> (show (6 : Int) ≠ 0; decide)
 | 2 => exact nodesPl_c h
 | 3 => simp [Rw.pls] at h; subst h; show (8 : Int) ≠ 0; decide
 | k + 4 => exact arcsPl_c h
theorem Rw.badFrom_c {g : Rw} {i' : Int} : ∀ {k i : Nat}, g.badFrom k i = some (c, ph, i', f) -> c ≠ 0
 | 0, i, h => by cases h
 | k + 1, i, h => by
  unfold Rw.badFrom at h
  split at h
  ·rename_i p hp
   cases h
   exact Rw.pls_c (bad1_c hp)
  ·exact Rw.badFrom_c h

end
open Go Go.Mh

section
variable {h0 h : Heap} {L : List Res} {K : KT} {p : Pl31} {dv v : Value} {g : Rw}

structure WG (h : Heap) (v : Value) (g : Rw) : Prop where
 ex : ∃ vx vy va, v = .agg #[I g.n, vx, vy, va] /\ RwL h vx vy va g
 lx : g.X.length <= 2 ^ 63 - 1
 la : g.arcs.length < 2 ^ 40
 good : g.bad = none -> ∃ G : G, Mid G /\ RawV h v G
theorem WG.more {h' : Heap} (H : WG h v g) (x : Ext h h') : WG h' v g := by
 obtain ⟨⟨vx, vy, va, e, HL⟩, a, b, c⟩ := H
 exact ⟨⟨vx, vy, va, e, HL.more x⟩, a, b, fun hb => by obtain ⟨G, h1, h2⟩ := c hb; exact ⟨G, h1, h2.more x⟩⟩

theorem checkG_ok (H : WG h v g) (hN : g.bad = none -> ∀ h', Ext h h' -> K .nilIface h')
  (hB : ∀ c ph i f ev h', g.bad = some (c, ph, i, f) -> Ext h h' -> ErrV h' ev c ph i f -> K ev h') : callS Tryz.prog F_graph_Check [v] h K := by
 obtain ⟨⟨vx, vy, va, rfl, HL⟩, hx, ha, _⟩ := H
 exact check_any HL hx ha hN fun c ph i f b h' hb o => hB c ph i f _ h' hb o.ext (.inr ⟨Rw.badFrom_c hb, b, o.get 0 rfl, .inr ⟨_, .inl rfl, rfl⟩⟩)

theorem newG_bad {c ph i f : Int} (H : WG h v g) (hg : Glob h) (hb : g.bad = some (c, ph, i, f)) (hK : ∀ ev h', Ext h h' -> ErrV h' ev c ph i f -> K (.tuple #[.pointer none, ev]) h') : callS Tryz.prog F_net_New [v] h K := by
 obtain ⟨vx, vy, va, rfl, HL⟩ := H.ex
 refine callS_of (lk_net_New _ ?_)
 unfold sh_net_New
 refine (Own.start h).box fun r h1 o1 => ?_
 have o1 : Own h h1 [cellR r [I g.n, vx, vy, va] T_api_Raw] := o1
 refine o1.ldN 0 rfl rfl rfl ?_
 refine checkG_ok (H.more o1.ext) (fun hn => by rw [hb] at hn; cases hn) fun c' ph' i' f' ev h2 hb' x2 HE => ?_
 rw [hb] at hb'
 cases hb'
 have o2 := o1.more x2
 have hc : c ≠ 0 := Rw.badFrom_c hb
 refine HE.ne ?_
 rw [show (c != 0) = true by simpa using hc, ifV_true]
 refine apiTold_any HE (hg.more o2.ext) fun h3 x3 => ?_
 refine (o2.more x3).box fun g5 h4 o4 => ?_
 have o4 : Own h h4 (cellR g5 [I 0, I 0, I 0, I 0] T_api_Fault :: _) := o4
 refine o4.st (l := [I c, I ph, I i, I f]) (cs' := [I c, I ph, I i, I f]) 0 rfl rfl rfl rfl rfl (fun u hu => told_plain hu) fun h5 o5 => ?_
 refine pBuild_ones (cs' := [ptr g5]) (by intro p hp; simp at hp; subst hp; rfl) rfl rfl ?_
 exact hK _ h5 o5.ext (.inr ⟨hc, g5, o5.get 0 rfl, .inr ⟨_, .inr rfl, rfl⟩⟩)

theorem buildG_bad {c ph i f : Int} (H : WG h v g) (hg : Glob h) (hw : p.wrong = 0) (hb : g.bad = some (c, ph, i, f)) (hK : ∀ ev h', Ext h h' -> ErrV h' ev c ph i f -> K (.tuple #[.pointer none, ev]) h') :
  callS Tryz.prog F_build_Build [v, planV p dv] h K := by
 obtain ⟨vx, vy, va, rfl, HL⟩ := H.ex
 refine callS_of (lk_build_Build _ _ ?_)
 unfold sh_build_Build
 refine (Own.start h).box fun raw2 h1 o1 => o1.box fun p3 h2 o2 => ?_
 have o2 : Own h h2 (cellR p3 (plC p dv) T_api_Plan :: cellR raw2 [I g.n, vx, vy, va] T_api_Raw :: []) := o2
 refine o2.ldN 0 rfl rfl rfl ?_
 refine bcheck_ok (p := p) (dv := dv) (fun _ h3 x3 => ?_) fun hne => absurd hw hne
 have o3 := o2.more x3
 have eN : ∀ {K : Value -> Prop}, K (.bool false) -> pEq true .iface .nilIface .nilIface K := fun hk => hk
 refine eN ?_
 rw [ifV_false]
 refine o3.ldN 1 rfl rfl rfl ?_
 refine newG_bad (H.more o3.ext) (hg.more o3.ext) hb fun ev h4 x4 HE => ?_
 simp only [pExt0, pExt1]
 refine HE.ne ?_
 rw [show (c != 0) = true by simpa using Rw.badFrom_c hb, ifV_true]
 exact hK ev h4 (o3.ext2 x4) HE

theorem buildG_ok (H : WG h v g) (hg : Glob h) (Hd : Vw encU 1 h dv p.draws) (hd1 : p.draws.length <= 2 ^ 20) (hd2 : ∀ x ∈ p.draws, 0 <= x /\ x <= 4294967295)
  (hP : p.wrong ≠ 0 -> ∀ ev h', Ext h h' -> ErrV h' ev p.wrong 0 0 0 -> K (.tuple #[.pointer none, ev]) h')
  (hB : p.wrong = 0 -> ∀ c ph i f ev h', g.bad = some (c, ph, i, f) -> Ext h h' -> ErrV h' ev c ph i f -> K (.tuple #[.pointer none, ev]) h')
  (hK : p.wrong = 0 -> g.bad = none -> ∀ x h', Ext h h' -> K (.tuple #[ptr x, .nilIface]) h') : callS Tryz.prog F_build_Build [v, planV p dv] h K := by
 by_cases hw : p.wrong = 0
 ·cases hb : g.bad with
  | none =>
   obtain ⟨G, hM, HR⟩ := H.good hb
   exact build_ok (p := p) (dv := dv) hM HR hw Hd hd1 hd2 fun x r tv cv fv h' x' _ _ _ _ => hK hw hb x h' x'
  | some q =>
   obtain ⟨c, ph, i, f⟩ := q
   exact buildG_bad H hg hw hb fun ev h' x HE => hB hw c ph i f ev h' hb x HE
 ·exact build_wrong hw fun b h' o => hP hw _ h' o.ext (.inr ⟨hw, b, o.get 0 rfl, .inl rfl⟩)

theorem bcheckG_ok (hK : ∀ ev h', Ext h h' -> ErrV h' ev p.wrong 0 0 0 -> K ev h') : callS Tryz.prog F_build_Check [planV p dv] h K :=
 bcheck_ok (p := p) (dv := dv) (fun hw h' x => hK _ h' x (.inl ⟨rfl, hw, rfl, rfl, rfl⟩)) fun hw b h' o => hK _ h' o.ext (.inr ⟨hw, b, o.get 0 rfl, .inl rfl⟩)

theorem wrong31_ok (hK : ∀ h', Ext h h' -> K (I p.wrong) h') : callS Tryz.prog F_milestoneref31_Wrong [planV p dv] h K := by
 refine callS_of (lk_milestoneref31_Wrong _ ?_)
 unfold sh_milestoneref31_Wrong
 refine (Own.start h).box fun p1 h1 o1 => ?_
 have o1 : Own h h1 [cellR p1 (plC p dv) T_api_Plan] := o1
 have x1 := o1.ext
 have hK := hK h1 x1
 unfold Pl31.wrong at hK
 have c0 : ∀ {K : Value -> Prop}, K (I p.marks) -> pLoad h1 (ptr p1) K := fun hk => o1.load 0 rfl rfl hk
 have c1 : ∀ {K : Value -> Prop}, K (I p.rule) -> pLoad h1 (.pointer (some ⟨p1, 1, none⟩)) K := fun hk => o1.load 0 rfl rfl hk
 have c3 : ∀ {K : Value -> Prop}, K (I p.kind) -> pLoad h1 (.pointer (some ⟨p1, 3, none⟩)) K := fun hk => o1.load 0 rfl rfl hk
 have c4 : ∀ {K : Value -> Prop}, K (I p.cells) -> pLoad h1 (.pointer (some ⟨p1, 4, none⟩)) K := fun hk => o1.load 0 rfl rfl hk
 have k3 : (0 <= p.marks /\ p.marks <= 16) -> (p.rule = 0 \/ p.rule = 1) -> (p.kind = 0 \/ p.kind = 1 \/ p.kind = 2) -> sh_milestoneref31_Wrong_k3 Tryz.prog (ptr p1) K h1 := by
  intro hm hr hk
  rw [if_neg (fun h => h hm), if_neg (fun h => h hr), if_neg (fun h => h hk)] at hK
  unfold sh_milestoneref31_Wrong_k3 sh_milestoneref31_Wrong_k4 sh_milestoneref31_Wrong_k5
  simp only [pField_ptr, Nat.zero_add]
  refine c3 ?_
  rw [pBin_neq]
  by_cases hk0 : p.kind = 0
  ·rw [show (p.kind != 0) = false by simp [hk0], ifV_false]
   rw [if_neg (fun h => h (.inl hk0))] at hK
   exact hK
  ·rw [show (p.kind != 0) = true by simpa using hk0, ifV_true]
   refine c4 ?_
   rw [pBin_lss, ifV_dec]
   refine ⟨fun hc => ?_, fun hc => c4 ?_⟩
   ·rw [if_pos (by omega)] at hK; exact hK
   ·rw [pBin_gtr, ifV_dec]
    refine ⟨fun hc2 => ?_, fun hc2 => ?_⟩
    ·rw [if_pos (by omega)] at hK; exact hK
    ·rw [if_neg (by omega)] at hK; exact hK
 have k2 : (0 <= p.marks /\ p.marks <= 16) -> (p.rule = 0 \/ p.rule = 1) -> sh_milestoneref31_Wrong_k2 Tryz.prog (ptr p1) K h1 := by
  intro hm hr
  unfold sh_milestoneref31_Wrong_k2
  simp only [pField_ptr, Nat.zero_add]
  refine c3 ?_
  rw [pBin_neq]
  by_cases hk0 : p.kind = 0
  ·rw [show (p.kind != 0) = false by simp [hk0], ifV_false]
   exact k3 hm hr (.inl hk0)
  ·rw [show (p.kind != 0) = true by simpa using hk0, ifV_true]
   refine c3 ?_
   rw [pBin_neq]
   by_cases hk1 : p.kind = 1
   ·rw [show (p.kind != 1) = false by simp [hk1], ifV_false]
    exact k3 hm hr (.inr (.inl hk1))
   ·rw [show (p.kind != 1) = true by simpa using hk1, ifV_true]
    refine c3 ?_
    rw [pBin_neq]
    by_cases hk2 : p.kind = 2
    ·rw [show (p.kind != 2) = false by simp [hk2], ifV_false]
     exact k3 hm hr (.inr (.inr hk2))
    ·rw [show (p.kind != 2) = true by simpa using hk2, ifV_true]
     rw [if_neg (fun h => h hm), if_neg (fun h => h hr), if_pos (by omega)] at hK
     exact hK
 simp only [pField_ptr, Nat.zero_add]
 refine c0 ?_
 rw [pBin_lss, ifV_dec]
 refine ⟨fun hc => ?_, fun hc => c0 ?_⟩
 ·unfold sh_milestoneref31_Wrong_k1
  rw [if_pos (by omega)] at hK; exact hK
 rw [pBin_gtr, ifV_dec]
 refine ⟨fun hc2 => ?_, fun hc2 => c1 ?_⟩
 ·unfold sh_milestoneref31_Wrong_k1
  rw [if_pos (by omega)] at hK; exact hK
 have hm : 0 <= p.marks /\ p.marks <= 16 := by omega
 rw [pBin_neq]
 by_cases hr0 : p.rule = 0
 ·rw [show (p.rule != 0) = false by simp [hr0], ifV_false]
  exact k2 hm (.inl hr0)
 ·rw [show (p.rule != 0) = true by simpa using hr0, ifV_true]
  refine c1 ?_
  rw [pBin_neq]
  by_cases hr1 : p.rule = 1
  ·rw [show (p.rule != 1) = false by simp [hr1], ifV_false]
   exact k2 hm (.inr hr1)
  ·rw [show (p.rule != 1) = true by simpa using hr1, ifV_true]
   rw [if_neg (fun h => h hm), if_pos (by omega)] at hK
   exact hK

def toA (a : A3) : A := ⟨a.f.toNat, a.t.toNat, a.w.toNat⟩
def ofA (a : A) : A3 := ⟨a.f, a.t, a.w⟩
theorem row_ofA {l : List A} : Mh.row encA3 (l.map ofA) = Mh.row encA l := by
 unfold Mh.row
 rw [List.flatMap_map]
 rfl
theorem row_toA : ∀ {l : List A3}, (∀ a ∈ l, 0 <= a.f /\ 0 <= a.t /\ 0 <= a.w) -> Mh.row encA (l.map toA) = Mh.row encA3 l
 | [], _ => rfl
 | a :: l, h => by
  have ha := h a List.mem_cons_self
  have ih := row_toA (l := l) fun b hb => h b (List.mem_cons_of_mem _ hb)
  unfold Mh.row at ih ⊢
  rw [List.map_cons, List.flatMap_cons, List.flatMap_cons, ih]
  have e : encA (toA a) = encA3 a := by
   obtain ⟨f, t, w⟩ := a
   simp only at ha
   show [I ((f.toNat : Nat) : Int), I ((t.toNat : Nat) : Int), I ((w.toNat : Nat) : Int)] = [I f, I t, I w]
   rw [Int.toNat_of_nonneg ha.1, Int.toNat_of_nonneg ha.2.1, Int.toNat_of_nonneg ha.2.2]
  rw [e]
theorem vw_row {α β : Type} {e1 : α -> List Value} {e2 : β -> List Value} {n : Nat} {xs : List α} {ys : List β} (hl : ys.length = xs.length) (hr : Mh.row e2 ys = Mh.row e1 xs) (H : Vw e1 n h v xs) : Vw e2 n h v ys := by
 obtain ⟨bl, base, cap, rfl, hc, H⟩ := H
 refine ⟨bl, base, cap, by rw [hl], by rw [hl]; exact hc, ?_⟩
 rcases H with ⟨e, H⟩ | ⟨o, pre, post, T, fz, h1, h2, h3⟩
 ·refine .inl ⟨?_, H⟩
  rw [e] at hl
  exact List.eq_nil_of_length_eq_zero (by simpa using hl)
 ·refine .inr ⟨o, pre, post, T, fz, h1, by rw [hr]; exact h2, ?_⟩
  first
  | exact h3
  | (rw [hl]; exact h3)

def Rw.of (g : G) : Rw := ⟨g.n, g.X, g.Y, g.arcs.map ofA⟩
theorem WG.of_mid {G : G} (hM : Mid G) (H : RawV h v G) : WG h v (Rw.of G) := by
 have H0 := H
 obtain ⟨vx, vy, va, rfl, HL⟩ := H
 have h1 := hM.x
 have h2 := hM.most
 have h3 := hM.short
 refine ⟨⟨vx, vy, va, rfl, HL.1, HL.2.1, vw_row (by simp [Rw.of]) row_ofA HL.2.2⟩, ?_, ?_, fun _ => ⟨G, hM, H0⟩⟩
 ·show G.X.length <= _; omega
 ·show (G.arcs.map ofA).length < _; rw [List.length_map]; omega

theorem bad1_none {l : List Pl} (h : bad1 l = none) : ∀ p ∈ l, p.l <= p.n /\ p.n < p.e := by
 induction l with
 | nil => intro p hp; cases hp
 | cons q r ih =>
  have h : (if q.ok then bad1 r else some q) = none := h
  split at h
  ·rename_i hq
   intro p hp
   rcases List.mem_cons.1 hp with rfl | hp
   ·exact of_decide_eq_true hq
   ·exact ih h p hp
  ·cases h
theorem nodesPl_mem : ∀ {X Y : List Int} {i : Nat}, X.length = Y.length -> (∀ x ∈ X, ∃ p ∈ nodesPl i X Y, p.n = x /\ p.l = -2147483648 /\ p.e = 2147483648) /\ (∀ y ∈ Y, ∃ p ∈ nodesPl i X Y, p.n = y /\ p.l = -2147483648 /\ p.e = 2147483648)
 | [], [], _, _ => ⟨fun x h => (by cases h), fun x h => (by cases h)⟩
 | x :: X, y :: Y, i, hl => by
  obtain ⟨h1, h2⟩ := nodesPl_mem (X := X) (Y := Y) (i := i + 1) (by simpa using hl)
  have e : nodesPl i (x :: X) (y :: Y) = ⟨i, 0, 7, x, -2147483648, 2147483648⟩ :: ⟨i, 1, 7, y, -2147483648, 2147483648⟩ :: nodesPl (i + 1) X Y := rfl
  rw [e]
  refine ⟨fun z hz => ?_, fun z hz => ?_⟩
  ·rcases List.mem_cons.1 hz with rfl | hz
   ·exact ⟨_, List.mem_cons_self, rfl, rfl, rfl⟩
   ·obtain ⟨p, hp, h⟩ := h1 z hz
    exact ⟨p, List.mem_cons_of_mem _ (List.mem_cons_of_mem _ hp), h⟩
  ·rcases List.mem_cons.1 hz with rfl | hz
   ·exact ⟨_, List.mem_cons_of_mem _ List.mem_cons_self, rfl, rfl, rfl⟩
   ·obtain ⟨p, hp, h⟩ := h2 z hz
    exact ⟨p, List.mem_cons_of_mem _ (List.mem_cons_of_mem _ hp), h⟩
 | [], _ :: _, _, h => by simp at h
 | _ :: _, [], _, h => by simp at h
theorem arcsPl_mem {n : Int} : ∀ {l : List A3} {i : Nat}, (∀ p ∈ arcsPl n i l, p.l <= p.n /\ p.n < p.e) -> ∀ a ∈ l, (0 <= a.f /\ a.f < n) /\ (0 <= a.t /\ a.t < n) /\ (0 <= a.w /\ a.w < 2147483648)
 | [], _, _, a, h => by cases h
 | b :: l, i, H, a, h => by
  have e : arcsPl n i (b :: l) = ⟨i, 0, 9, b.f, 0, n⟩ :: ⟨i, 1, 9, b.t, 0, n⟩ :: ⟨i, 2, 10, b.w, 0, 2147483648⟩ :: arcsPl n (i + 1) l := rfl
  rw [e] at H
  rcases List.mem_cons.1 h with rfl | h
  ·exact ⟨H _ List.mem_cons_self, H _ (List.mem_cons_of_mem _ List.mem_cons_self), H _ (List.mem_cons_of_mem _ (List.mem_cons_of_mem _ List.mem_cons_self))⟩
  ·exact arcsPl_mem (fun p hp => H p (List.mem_cons_of_mem _ (List.mem_cons_of_mem _ (List.mem_cons_of_mem _ hp)))) a h

theorem Rw.bad_none {g : Rw} (h : g.bad = none) : ∀ k, k < 5 -> bad1 (g.pls k) = none := by
 have key : ∀ m i, g.badFrom m i = none -> ∀ k, i <= k -> k < i + m -> bad1 (g.pls k) = none := by
  intro m
  induction m with
  | zero => intro i _ k h1 h2; omega
  | succ m ih =>
   intro i hm k h1 h2
   unfold Rw.badFrom at hm
   split at hm
   ·cases hm
   ·rename_i hn
    by_cases e : k = i
    ·rw [e]; exact hn
    ·exact ih (i + 1) hm k (by omega) (by omega)
 intro k hk
 exact key 5 0 h k (Nat.zero_le _) (by omega)

theorem WG.of_raw {vx vy va : Value} (HL : RwL h vx vy va g) (hx : g.X.length <= 2 ^ 63 - 1) (ha : g.arcs.length <= 20) : WG h (.agg #[I g.n, vx, vy, va]) g := by
 refine ⟨⟨vx, vy, va, rfl, HL⟩, hx, by omega, fun hb => ?_⟩
 have hp := fun k hk => bad1_none (g.bad_none hb k hk)
 have h0 : 1 <= g.n /\ g.n < 16777217 := hp 0 (by decide) ⟨0, 0, 5, g.n, 1, 16777217⟩ List.mem_cons_self
 have h1 : g.n <= g.X.length /\ (g.X.length : Int) < g.n + 1 := hp 1 (by decide) ⟨0, 0, 6, g.X.length, g.n, g.n + 1⟩ List.mem_cons_self
 have h2 : g.n <= g.Y.length /\ (g.Y.length : Int) < g.n + 1 := hp 1 (by decide) ⟨0, 1, 6, g.Y.length, g.n, g.n + 1⟩ (List.mem_cons_of_mem _ List.mem_cons_self)
 have h3 := hp 2 (by decide)
 have h4 := arcsPl_mem (hp 4 (by decide))
 obtain ⟨m1, m2⟩ := nodesPl_mem (X := g.X) (Y := g.Y) (i := 0) (by omega)
 have hR : G.Right ⟨g.n.toNat, g.X, g.Y, g.arcs.map toA⟩ := by
  refine ⟨by show 1 <= g.n.toNat; omega, by show g.n.toNat <= _; omega, by show g.X.length = g.n.toNat; omega, by show g.Y.length = g.n.toNat; omega, fun c hc => ?_, fun c hc => ?_, by show (g.arcs.map toA).length <= _; rw [List.length_map]; omega, fun a hma => ?_⟩
  ·obtain ⟨p, hpm, e1, e2, e3⟩ := m1 c hc
   have := h3 p hpm
   rw [e1, e2, e3] at this
   omega
  ·obtain ⟨p, hpm, e1, e2, e3⟩ := m2 c hc
   have := h3 p hpm
   rw [e1, e2, e3] at this
   omega
  ·obtain ⟨b, hb', rfl⟩ := List.mem_map.1 hma
   obtain ⟨q1, q2, q3⟩ := h4 b hb'
   show b.f.toNat < g.n.toNat /\ b.t.toNat < g.n.toNat /\ b.w.toNat <= 2147483647
   omega
 have hla : (g.arcs.map toA).length <= 20 := by rw [List.length_map]; exact ha
 refine ⟨⟨g.n.toNat, g.X, g.Y, g.arcs.map toA⟩, { toRight := hR, sm := Sm.of_arcs hR (by show (g.arcs.map toA).length <= 31; omega), short := by show (g.arcs.map toA).length <= 84; omega }, vx, vy, va, ?_, HL.1, HL.2.1, vw_row (by simp) (row_toA fun a ha => by have := h4 a ha; omega) HL.2.2⟩
 show Value.agg #[I g.n, vx, vy, va] = .agg #[I ((g.n.toNat : Nat) : Int), vx, vy, va]
 rw [Int.toNat_of_nonneg (by omega)]

end
open Go Go.Mh

section
variable {h0 h : Heap} {L : List Res} {K : KT} {g : Rw} {v dv : Value} {p : Pl31}

theorem ldAll {b n : Nat} {cs : List Value} {T : TypeId} {K : Value -> Prop} (hb : h[b]? = some (.cells cs.toArray T (0, 0))) (hl : cs.length = n) (hK : K (.agg cs.toArray)) : pLoadN n h (ptr b) K := by
 have : cellsAt h b 0 n = some cs := by
  rw [cellsAt_of (i := 0) hb n 0 (by omega), List.drop_zero, List.take_of_length_le (by omega)]
 rw [pLoadN_ptr, this]
 exact hK

structure PG (h : Heap) (p : Pl31) (dv : Value) : Prop where
 v : Vw encU 1 h dv p.draws
 l : p.draws.length <= 2 ^ 20
 r : ∀ x ∈ p.draws, 0 <= x /\ x <= 4294967295
theorem PG.more {h' : Heap} (H : PG h p dv) (x : Ext h h') : PG h' p dv := ⟨H.v.more x, H.l, H.r⟩
theorem PG.plain (H : PG h p dv) : ∀ u ∈ plC p dv, Mh.plainCell u = true := fun u hu => by
 simp at hu
 rcases hu with rfl | rfl | rfl | rfl | rfl
 ·rfl
 ·rfl
 ·exact H.v.plain
 ·rfl
 ·rfl

def rawC (g : Rw) (vx vy va : Value) : List Value := [I g.n, vx, vy, va]

theorem wrong_round {t44 t38 : Value} {vx vy va : Value} {g8 j : Nat} {Z Z1 : KT} (hj : j < 2) (hx : ∀ {K : Value -> Prop}, K (planV p dv) -> pIdxVN 5 2 t44 (I j) K) (H : WG h (.agg #[I g.n, vx, vy, va]) g) (hg : Glob h) (HP : PG h p dv) (h8 : h[g8]? = some (.cells (rawC g vx vy va).toArray T_api_Raw (0, 0)))
  (hZ : ∀ h', Ext h h' -> Z1 (I (j + 1 : Nat)) h') : sh_milestonelaw31_BuildWrong_L2 Tryz.prog t44 K (ptr g8) t38 Z (I j) h Z1 := by
 unfold sh_milestonelaw31_BuildWrong_L2
 rw [pBin_lss, show decide ((j : Int) < 2) = true from decide_eq_true (by omega), ifV_true]
 refine hx ?_
 refine (Own.start h).box fun q10 h1 o1 => ?_
 have o1 : Own h h1 (cellR q10 [I 0, I 0, sl0, I 0, I 0] T_api_Plan :: []) := o1
 refine o1.st (l := plC p dv) (cs' := plC p dv) 0 rfl rfl rfl rfl rfl HP.plain fun h2 o2 => ?_
 have o2 : Own h h2 (cellR q10 (plC p dv) T_api_Plan :: []) := o2
 refine o2.ldN 0 rfl rfl rfl ?_
 refine wrong31_ok (p := p) (dv := dv) fun h3 x3 => ?_
 have o3 := o2.more x3
 refine pBuild_ones (cs' := [I p.wrong, I 0, I 0, I 0]) (by intro p hp; simp at hp; subst hp; rfl) rfl rfl ?_
 refine o3.box fun w11 h4 o4 => ?_
 have o4 : Own h h4 (cellR w11 [I 0, I 0, I 0, I 0] T_api_Fault :: cellR q10 (plC p dv) T_api_Plan :: []) := o4
 refine o4.st (l := [I p.wrong, I 0, I 0, I 0]) (cs' := [I p.wrong, I 0, I 0, I 0]) 0 rfl rfl rfl rfl rfl (fun u hu => told_plain hu) fun h5 o5 => ?_
 have o5 : Own h h5 (cellR w11 [I p.wrong, I 0, I 0, I 0] T_api_Fault :: cellR q10 (plC p dv) T_api_Plan :: []) := o5
 refine o5.ldN 1 rfl rfl rfl (o5.ldN 0 rfl rfl rfl ?_)
 refine bcheckG_ok (p := p) (dv := dv) fun ev h6 x6 HE => ?_
 have o6 := o5.more x6
 refine ⟨o6.ldN 0 rfl rfl rfl rfl, ?_⟩
 refine told31_any HE (hg.more o6.ext) fun h7 x7 => ?_
 have o7 := o6.more x7
 rw [pUn_not, Bool.not_true, ifV_false]
 simp only [pField_ptr]
 refine o7.load 0 rfl rfl ?_
 rw [pBin_eql]
 have k3 : ∀ (c ph i f : Int) (h8 : Heap), Own h h8 (cellR w11 [I c, I ph, I i, I f] T_api_Fault :: cellR q10 (plC p dv) T_api_Plan :: []) ->
   (p.wrong ≠ 0 -> c = p.wrong /\ ph = 0 /\ i = 0 /\ f = 0) -> (p.wrong = 0 -> g.bad = none -> c = 0 /\ ph = 0 /\ i = 0 /\ f = 0) -> (p.wrong = 0 -> ∀ c' ph' i' f', g.bad = some (c', ph', i', f') -> c = c' /\ ph = ph' /\ i = i' /\ f = f') ->
   sh_milestonelaw31_BuildWrong_k3 Tryz.prog (ptr g8) (ptr q10) (ptr w11) K (I j) Z1 h8 := by
  intro c ph i f h8' o8 k1 k2 k3
  unfold sh_milestonelaw31_BuildWrong_k3
  refine ldAll (o8.ext.get h8) rfl (o8.ldN 1 rfl rfl rfl ?_)
  have end_ : ∀ (ev : Value) (xv : Value) (c' ph' i' f' : Int) (h9 : Heap), Ext h8' h9 -> ErrV h9 ev c' ph' i' f' -> c = c' /\ ph = ph' /\ i = i' /\ f = f' -> (∀ {K : Value -> Prop}, K (.bool (c' != 0)) -> pEq false .ptr xv (.pointer none) K) ->
    pExt (.tuple #[xv, ev]) 0 fun t66 => pExt (.tuple #[xv, ev]) 1 fun t67 => pLoadN 4 h9 (ptr w11) fun t69 => callS Tryz.prog F_milestonelaw31_told [t67, t69] h9 fun t70 h_25 => pUn .not t70 fun t71 => ifV t71 (sh_milestonelaw31_BuildWrong_k4 Tryz.prog K h_25)
     (pEq false .ptr t66 (.pointer none) fun t74 => pEq true .iface t67 .nilIface fun t76 => pEq true .bool t74 t76 fun t77 => ifV t77 (sh_milestonelaw31_BuildWrong_k4 Tryz.prog K h_25) (pBin .add (I j) (.int .i64 1) fun t79 => Z1 t79 h_25)) := by
   rintro ev xv c' ph' i' f' h9 x9 HE ⟨rfl, rfl, rfl, rfl⟩ hxv
   have o9 := o8.more x9
   simp only [pExt0, pExt1]
   refine o9.ldN 0 rfl rfl rfl ?_
   refine told31_any HE (hg.more o9.ext) fun h10 x10 => ?_
   rw [pUn_not, Bool.not_true, ifV_false]
   refine hxv ((HE.more x10).ne ?_)
   have pb : ∀ {b : Bool} {K : Value -> Prop}, K (.bool false) -> pEq true .bool (.bool b) (.bool b) K := fun {b} {K} hk => by cases b <;> exact hk
   refine pb ?_
   rw [ifV_false, pBin_add, wI j (by omega)]
   exact hZ h10 (o9.ext2 x10)
  refine buildG_ok (p := p) (dv := dv) (H.more o8.ext) (hg.more o8.ext) (HP.more o8.ext).v HP.l HP.r (fun hw ev h9 x9 HE => ?_) (fun hw c' ph' i' f' ev h9 hb x9 HE => ?_) fun hw hb x h9 x9 => ?_
  ·exact end_ ev (.pointer none) _ _ _ _ h9 x9 HE (k1 hw) fun {K} hk => by
    rw [pEq_ptr_nil, Option.isNone_none]
    rwa [show (p.wrong != 0) = true by simpa using hw] at hk
  ·exact end_ ev (.pointer none) _ _ _ _ h9 x9 HE (k3 hw _ _ _ _ hb) fun {K} hk => by
    rw [pEq_ptr_nil, Option.isNone_none]
    rwa [show (c' != 0) = true by simpa using Rw.badFrom_c hb] at hk
  ·exact end_ .nilIface (ptr x) 0 0 0 0 h9 x9 (.inl ⟨rfl, rfl, rfl, rfl, rfl⟩) (k2 hw hb) fun {K} hk => by
    rw [pEq_ptr_nil, Option.isNone_some]
    exact hk
 by_cases hw : p.wrong = 0
 ·rw [show (p.wrong == 0) = true by simpa using hw, ifV_true]
  refine ldAll (o7.ext.get h8) rfl ?_
  refine checkG_ok (H.more o7.ext) (fun hb h8' x8 => ?_) fun c ph i f ev h8' hb x8 HE => ?_
  ·have o8 := o7.more x8
   refine apiTold_any (c := 0) (ph := 0) (i := 0) (f := 0) (.inl ⟨rfl, rfl, rfl, rfl, rfl⟩) (hg.more o8.ext) fun h9 x9 => ?_
   refine (o8.more x9).st (l := [I 0, I 0, I 0, I 0]) (cs' := [I 0, I 0, I 0, I 0]) 0 rfl rfl rfl rfl rfl (fun u hu => told_plain hu) fun h10 o10 => ?_
   exact k3 0 0 0 0 h10 o10 (fun h => absurd hw h) (fun _ _ => ⟨rfl, rfl, rfl, rfl⟩) fun _ c' ph' i' f' hb' => by rw [hb] at hb'; cases hb'
  ·have o8 := o7.more x8
   refine apiTold_any HE (hg.more o8.ext) fun h9 x9 => ?_
   refine (o8.more x9).st (l := [I c, I ph, I i, I f]) (cs' := [I c, I ph, I i, I f]) 0 rfl rfl rfl rfl rfl (fun u hu => told_plain hu) fun h10 o10 => ?_
   refine k3 c ph i f h10 o10 (fun h => absurd hw h) (fun _ hn => by rw [hb] at hn; cases hn) fun _ c' ph' i' f' hb' => ?_
   rw [hb] at hb'
   cases hb'
   exact ⟨rfl, rfl, rfl, rfl⟩
 ·rw [show (p.wrong == 0) = false by simpa using hw, ifV_false]
  exact k3 p.wrong 0 0 0 h7 o7 (fun _ => ⟨rfl, rfl, rfl, rfl⟩) (fun h => absurd h hw) fun h => absurd h hw

theorem PlanOk.pg {h : Heap} (H : PlanOk p) (Hv : Vw encU 1 h dv p.draws) : PG h p dv := ⟨Hv, by have := H.d1; omega, H.d2⟩

theorem wrong_graph {t37 : Value} {vx vy va vb vd : Value} {p4 d3 i : Nat} {mk kd cl : Int} {rl : Bool} {ds : List Int} {Z : KT} (hi : i < 2) (hx : ∀ {K : Value -> Prop}, K (.agg (rawC g vx vy va).toArray) -> pIdxVN 4 2 t37 (I i) K)
  (H : WG h (.agg #[I g.n, vx, vy, va]) g) (hpl : ∀ u ∈ rawC g vx vy va, Mh.plainCell u = true) (hg : Glob h) (HP : PG h p dv) (h4 : h[p4]? = some (.cells (plC p dv).toArray T_api_Plan (0, 0))) (h3 : h[d3]? = some (.cells (draftC vb vd mk kd cl rl).toArray T_milestoneref31_Draft (0, 0)))
  (Hd : Vw encU 1 h vd ds) (hr : ∀ x ∈ ds, 0 <= x /\ x <= 4294967295) (r1 : 0 <= mk /\ mk <= 255) (r2 : 0 <= kd /\ kd <= 255) (r3 : 0 <= cl /\ cl <= 255)
  (hZ : ∀ h', Ext h h' -> Z (I (i + 1 : Nat)) h') : sh_milestonelaw31_BuildWrong_L1 Tryz.prog t37 (ptr p4) (ptr d3) K (I i) h Z := by
 unfold sh_milestonelaw31_BuildWrong_L1
 rw [pBin_lss, show decide ((i : Int) < 2) = true from decide_eq_true (by omega), ifV_true]
 refine hx ?_
 refine (Own.start h).box fun g8 h1 o1 => ?_
 have o1 : Own h h1 (cellR g8 [I 0, sl0, sl0, sl0] T_api_Raw :: []) := o1
 refine o1.st (l := rawC g vx vy va) (cs' := rawC g vx vy va) 0 rfl rfl rfl rfl rfl hpl fun h2 o2 => ?_
 have o2 : Own h h2 (cellR g8 (rawC g vx vy va) T_api_Raw :: []) := o2
 refine ldAll (o2.ext.get h4) rfl (ldAll (o2.ext.get h3) rfl ?_)
 refine plan31_ok o2 (Hd.more o2.ext) hr r1 r2 r3 fun p' dv' h5 hP' hpl' o5 => ⟨ldAll (o5.ext.get h4) rfl rfl, ⟨sizesOk_of rfl, ?_⟩⟩
 have HP' : PG h5 p' dv' := hP'.pg (o5.vw 0 rfl)
 have HP5 := HP.more o5.ext
 have H5 := H.more o5.ext
 have hg5 := hg.more o5.ext
 have h85 : h5[g8]? = some (.cells (rawC g vx vy va).toArray T_api_Raw (0, 0)) := o5.get 1 rfl
 have x5 := o5.ext
 clear o5 o2 o1
 refine LoopH_count 2 (fun j x h' => x.1 = I j /\ Ext h5 h') ⟨rfl, .refl _ _⟩ ?_
 rintro j ⟨x, ⟨⟩⟩ h6 Z2 hj ⟨hxj, x6⟩ hZ2
 dsimp only at hxj hZ2 ⊢
 subst hxj
 have hcase : j = 0 \/ j = 1 \/ j = 2 := by omega
 rcases hcase with rfl | rfl | rfl
 ·exact wrong_round (p := p) (dv := dv) (by decide) (fun {K} hk => ⟨by decide, by decide, hk⟩) (H5.more x6) (hg5.more x6) (HP5.more x6) (x6.get h85) fun h7 x7 => hZ2 (I 1, ()) h7 (by decide) ⟨rfl, ((Own.start h5).more x6).ext2 x7⟩
 ·exact wrong_round (p := p') (dv := dv') (by decide) (fun {K} hk => ⟨by decide, by decide, hk⟩) (H5.more x6) (hg5.more x6) (HP'.more x6) (x6.get h85) fun h7 x7 => hZ2 (I 2, ()) h7 (by decide) ⟨rfl, ((Own.start h5).more x6).ext2 x7⟩
 ·unfold sh_milestonelaw31_BuildWrong_L2
  rw [pBin_lss, show decide (((2 : Nat) : Int) < 2) = false by decide, ifV_false, pBin_add, wI i (by omega)]
  exact hZ h6 (((Own.start h).more x5).ext2 x6)

theorem buildWrong_ok {vb vd : Value} {bs ds : List Int} {mk kd cl : Int} {rl : Bool} {qmm qrr qkk qcc : Int} {dvp : Value} {dps : List Int} {vx vy va : Value} (Hb : Vw encU8 1 h vb bs) (Hd : Vw encU 1 h vd ds) (hr : ∀ x ∈ ds, 0 <= x /\ x <= 4294967295) (r1 : 0 <= mk /\ mk <= 255) (r2 : 0 <= kd /\ kd <= 255) (r3 : 0 <= cl /\ cl <= 255)
  (Hp : Vw encU 1 h dvp dps) (hrp : ∀ x ∈ dps, 0 <= x /\ x <= 4294967295) (HL : RwL h vx vy va g) (hX : g.X.length <= 2 ^ 63 - 1) (hg : Glob h)
  (hK : ∀ h', Ext h h' -> K (.bool true) h') : CallsH Tryz.prog F_milestonelaw31_BuildWrong #[draftV vb vd mk kd cl rl, planV ⟨qmm, qrr, dps, qkk, qcc⟩ dvp, .agg #[I g.n, vx, vy, va]] h K := by
 refine lk_milestonelaw31_BuildWrong _ _ _ ?_
 unfold sh_milestonelaw31_BuildWrong
 refine (Own.start h).box fun d3 h1 o1 => o1.box fun p4 h2 o2 => o2.box fun raw5 h3 o3 => ?_
 have o3 : Own h h3 [cellR raw5 [I g.n, vx, vy, va] T_api_Raw, cellR p4 [I qmm, I qrr, dvp, I qkk, I qcc] T_api_Plan, cellR d3 (draftC vb vd mk kd cl rl) T_milestoneref31_Draft] := o3
 simp only [pField_ptr, Nat.zero_add]
 refine o3.load 0 rfl rfl (o3.load 0 rfl rfl ?_)
 have HL3 := HL.more o3.ext
 refine HL3.2.2.len ?_
 have e20 : (if (20 : Int) < g.arcs.length then 20 else (g.arcs.length : Int)) = ((min g.arcs.length 20 : Nat) : Int) := by split <;> omega
 rw [pMin_int, e20]
 refine HL.2.2.sub (a := 0) (j := min g.arcs.length 20) encA3_len rfl rfl (by omega) (by omega) fun va' ha' => ?_
 rw [List.drop_zero, Nat.sub_zero] at ha'
 refine o3.st1 0 (cs' := [I g.n, vx, vy, va']) rfl rfl rfl ha'.one ha'.plain fun h4 o4 => ?_
 refine o4.load 1 rfl rfl (o4.load 1 rfl rfl ?_)
 have Hp4 := Hp.more o4.ext
 refine Hp4.len ?_
 have e20 : (if (20 : Int) < dps.length then 20 else (dps.length : Int)) = ((min dps.length 20 : Nat) : Int) := by split <;> omega
 rw [pMin_int, e20]
 refine Hp.sub (a := 0) (j := min dps.length 20) (fun _ => rfl) rfl rfl (by omega) (by omega) fun dv' hd' => ?_
 rw [List.drop_zero, Nat.sub_zero] at hd'
 refine o4.st1 1 (cs' := [I qmm, I qrr, dv', I qkk, I qcc]) rfl rfl rfl hd'.one hd'.plain fun h5 o5 => ?_
 refine o5.load 1 rfl rfl ?_
 rw [pBin_rem]
 refine ⟨by decide, ?_⟩
 refine o5.st1 1 (cs' := [I (qmm.tmod 20), I qrr, dv', I qkk, I qcc]) rfl rfl rfl rfl rfl fun h6 o6 => ?_
 have o6 : Own h h6 [cellR raw5 [I g.n, vx, vy, va'] T_api_Raw, cellR p4 [I (qmm.tmod 20), I qrr, dv', I qkk, I qcc] T_api_Plan, cellR d3 (draftC vb vd mk kd cl rl) T_milestoneref31_Draft] := o6
 refine o6.ldN 2 rfl rfl rfl (o6.ldN 0 rfl rfl rfl ?_)
 refine raw31_ok o6 (Hb.more o6.ext) fun G gx gy ga h7 hF hgp o7 => ⟨o7.ldN (cs' := [I g.n, vx, vy, va']) 1 rfl rfl rfl rfl, ⟨sizesOk_of rfl, ?_⟩⟩
 have x7 := o7.ext
 have W0 : WG h7 (.agg #[I (Rw.of G).n, gx, gy, ga]) (Rw.of G) := WG.of_mid hF.mid ⟨gx, gy, ga, rfl, rawR_view o7 (i := 0) rfl⟩
 have W1 : WG h7 (.agg #[I g.n, vx, vy, va']) ⟨g.n, g.X, g.Y, g.arcs.take (min g.arcs.length 20)⟩ := WG.of_raw (g := ⟨g.n, g.X, g.Y, g.arcs.take (min g.arcs.length 20)⟩) ⟨HL.1.more x7, HL.2.1.more x7, ha'.more x7⟩ hX (by rw [List.length_take]; omega)
 have HP : PG h7 ⟨qmm.tmod 20, qrr, dps.take (min dps.length 20), qkk, qcc⟩ dv' := ⟨hd'.more x7, by show (dps.take _).length <= _; rw [List.length_take]; omega, fun x hx => hrp x (List.mem_of_mem_take hx)⟩
 have hg7 := hg.more x7
 have c4 : h7[p4]? = some (.cells (plC ⟨qmm.tmod 20, qrr, dps.take (min dps.length 20), qkk, qcc⟩ dv').toArray T_api_Plan (0, 0)) := o7.get 2 rfl
 have c3 : h7[d3]? = some (.cells (draftC vb vd mk kd cl rl).toArray T_milestoneref31_Draft (0, 0)) := o7.get 3 rfl
 have Hd7 := Hd.more x7
 have hpl1 : ∀ u ∈ rawC ⟨g.n, g.X, g.Y, g.arcs.take (min g.arcs.length 20)⟩ vx vy va', Mh.plainCell u = true := by
  intro u hu
  simp [rawC] at hu
  rcases hu with rfl | rfl | rfl | rfl
  ·rfl
  ·exact HL.1.plain
  ·exact HL.2.1.plain
  ·exact ha'.plain
 clear o7 o6 o5 o4 o3 o2 o1 HL3 Hp4
 refine LoopH_count 2 (fun i x h' => x.1 = I i /\ Ext h7 h') ⟨rfl, .refl _ _⟩ ?_
 rintro i ⟨x, ⟨⟩⟩ h8 Z hi ⟨hxi, x8⟩ hZ
 dsimp only at hxi hZ ⊢
 subst hxi
 have hcase : i = 0 \/ i = 1 \/ i = 2 := by omega
 rcases hcase with rfl | rfl | rfl
 ·exact wrong_graph (g := Rw.of G) (vx := gx) (vy := gy) (va := ga) (by decide) (fun {K} hk => ⟨by decide, by decide, hk⟩) (W0.more x8) hgp (hg7.more x8) (HP.more x8) (x8.get c4) (x8.get c3) (Hd7.more x8) hr r1 r2 r3 fun h9 x9 => hZ (I 1, ()) h9 (by decide) ⟨rfl, ((Own.start h7).more x8).ext2 x9⟩
 ·exact wrong_graph (g := ⟨g.n, g.X, g.Y, g.arcs.take (min g.arcs.length 20)⟩) (vx := vx) (vy := vy) (va := va') (by decide) (fun {K} hk => ⟨by decide, by decide, hk⟩) (W1.more x8) hpl1 (hg7.more x8) (HP.more x8) (x8.get c4) (x8.get c3) (Hd7.more x8) hr r1 r2 r3 fun h9 x9 => hZ (I 2, ()) h9 (by decide) ⟨rfl, ((Own.start h7).more x8).ext2 x9⟩
 ·unfold sh_milestonelaw31_BuildWrong_L1
  rw [pBin_lss, show decide (((2 : Nat) : Int) < 2) = false by decide, ifV_false]
  exact works31_ok (hg7.more x8) fun h9 x9 => hK h9 (((Own.start h).more (((Own.start h).more x7).ext2 x8)).ext2 x9)

end
end Go.Proofs.YtmdldoolnhpaeaaGreatDoor
