/- Texts of the proofs of seat YtmdldoolnhpaeaaGreatDoor, joined: TiA, CeB, FgA, FgB, GrA, GrB, AvA, AvB, WkA, AvC, AvD, AvE, AvF, AvG, FaA, FaB, FaC, FaD. They have no conditions of their own. -/
import Derived.Test.YtmdldoolnhpaeaaGreatDoorTb
import Derived.Test.YtmdldoolnhpaeaaGreatDoorMc
import Derived.Test.YtmdldoolnhpaeaaGreatDoorTa
import Derived.Test.YtmdldoolnhpaeaaGreatDoorMd
set_option linter.unusedVariables false
set_option linter.unusedSimpArgs false
set_option linter.unusedSectionVars false

namespace Go.Proofs.YtmdldoolnhpaeaaGreatDoor
open Go Go.Mh

def encT (x : Bool) : List Value := [.bool x]
theorem encT_len (x : Bool) : (encT x).length = 1 := rfl
theorem encT_plain (x : Bool) : ∀ u ∈ encT x, Mh.plainCell u = true := by intro u hu; simp [encT] at hu; subst hu; rfl

section
variable {h0 h : Heap} {L : List Res} {K : Value -> Heap -> Prop} {g : G} {r : Nat} {d : List Int} {v : Value} {n : Nat} {f : Nat -> Bool}

theorem tells1_ok {n2 x5 i : Nat} {sd sa so : Value} {T1 T2 : TypeId} (hR : g.Right) (hd : d.length = g.n) (hrg : ∀ u, u < g.n -> 0 <= dAt d u /\ dAt d u <= far) (hi : i < g.arcs.length)
  (h1 : h[n2]? = some (.cells #[ptr r] T1 (0, 0))) (h2 : h[x5]? = some (.cells #[sd, sa, so] T2 (0, 0))) (hN : NetR h r g) (hv : Vw encI 1 h sd d)
  (hK : ∀ h', Ext h h' -> K (.bool (tgt d g.arcs[i])) h') : callV Tryz.prog (.func (.func F_tight_tells_1) #[] #[ptr n2, ptr x5]) [I i].toArray h K := by
 refine callV_of (l := [I i, ptr n2, ptr x5]) rfl (lk_tight_tells_1 _ _ _ ?_)
 unfold sh_tight_tells_1
 have c0 : hcell h ⟨n2, 0, none⟩ = some (ptr r) := hcell_of h1 rfl
 have c1 : hcell h ⟨x5, 0, none⟩ = some sd := hcell_of h2 rfl
 refine pLoad_of rfl c0 (arc_ok hN hi fun h3 x3 => ?_)
 simp only [pExt0, pExt1]
 have he := hR.ends _ (List.getElem_mem hi)
 generalize g.arcs[i] = a at he hK
 have hW : (a.w : Int) <= 2147483647 := by omega
 have hf : far = 72057594037927936 := rfl
 have q1 := hrg _ he.1
 have q2 := hrg _ he.2.1
 have o3 := (Own.start h).more x3
 refine o3.box fun b h4 o4 => o4.st 0 rfl rfl rfl rfl rfl (encA_plain _) fun h5 o5 => ?_
 simp only [pField_ptr]
 refine pLoad_of rfl (hcell_more o5.ext c1) (o5.load 0 rfl rfl ((hv.more o5.ext).atI (by omega) (o5.load 0 rfl rfl ?_)))
 rw [dAt_get]
 refine dadd_ok q2.1 q2.2 (by omega) (by omega) fun h6 x6 => ?_
 have o6 := o5.more x6
 refine dfin_ok (by omega) (by omega) fun h7 x7 => ?_
 have o7 := o6.more x7
 unfold tgt at hK
 simp only [ifV_dec]
 refine ⟨fun hlt => ?_, fun hge => ?_⟩
 ·refine pLoad_of rfl (hcell_more o7.ext c1) (o7.load 0 rfl rfl ((hv.more o7.ext).atI (by omega) ?_))
  rw [dAt_get, pBin_eql]
  have := hK h7 o7.ext
  rw [decide_eq_true hlt, Bool.true_and] at this
  exact this
 ·have := hK h7 o7.ext
  rw [decide_eq_false hge, Bool.false_and] at this
  exact this

def HoldF (hv : Value) (n : Nat) (f : Nat -> Bool) (Q : Heap -> Prop) : Prop :=
 ∀ (h : Heap) (K : Value -> Heap -> Prop) (i : Nat), i < n -> Q h -> (∀ h', Ext h h' -> K (.bool (f i)) h') -> callV Tryz.prog hv [I i].toArray h K

theorem marked_iter {m2 h3 : Nat} {hv : Value} {Q : Heap -> Prop} {T1 T2 : TypeId} (hn : n < 2 ^ 40) (hF : HoldF hv n f Q) :
  IterG Tryz.prog (.func (.func F_tight_marked_1) #[] #[ptr m2, ptr h3]) (fun h => h[m2]? = some (.cells #[I n] T1 (0, 0)) /\ h[h3]? = some (.cells #[hv] T2 (0, 0)) /\ Q h) (σ := Nat) 0 (mkNext n f) (mkStop n f) := by
 rintro yv h0 h Rs K J E ⟨l, rfl⟩ o j0 hQ hY hK
 refine callF_of (l := [yieldV l, ptr m2, ptr h3]) rfl (lk_tight_marked_1 _ _ _ ?_)
 unfold sh_tight_marked_1
 obtain ⟨hm, _, _⟩ := hQ _ _ _ j0 o
 have cm : hcell h ⟨m2, 0, none⟩ = some (I n) := hcell_of hm rfl
 refine pLoad_of rfl cm ?_
 refine LoopH_count n (fun i x h' => x.1 = I i /\ ∃ s Rs', s <= i /\ (∀ k, s <= k -> k < i -> f k = false) /\ J s Rs' /\ Own h0 h' Rs') ⟨rfl, 0, Rs, Nat.le_refl _, fun k _ h => absurd h (by omega), j0, o⟩ ?_
 rintro i ⟨x, ⟨⟩⟩ h Z hi ⟨hx, s, Rs', hs, hno, hj, o⟩ hZ
 dsimp only at hx hZ ⊢
 subst hx
 unfold sh_tight_marked_1_L1
 simp only [pBin_lss, ifV_dec]
 refine ⟨fun hlt => ?_, fun hge => ?_⟩
 ·have hlt : i < n := by omega
  obtain ⟨_, hh, hq⟩ := hQ _ _ _ hj o
  have ch : hcell h ⟨h3, 0, none⟩ = some hv := hcell_of hh rfl
  refine pLoad_of rfl ch (hF _ _ i hlt hq fun h1 x1 => ?_)
  have o1 := o.more x1
  by_cases hf : f i = true
  ·rw [hf, ifV_true]
   refine hY s _ (i + 1) Rs' [] h1 _ ⟨i, hs, hlt, hf, hno, rfl, rfl⟩ hj o1.nilTail (fun Rs'' h'' hj' o' => ?_) fun Rs'' h'' he o' => ?_
   ·unfold sh_tight_marked_1_k2
    rw [pUn_not, Bool.not_true, ifV_false, pBin_add, wI i (by omega)]
    exact hZ (I (i + 1 : Nat), ()) h'' hlt ⟨rfl, i + 1, Rs'', Nat.le_refl _, fun k _ h => absurd h (by omega), hj', o'.toNil⟩
   ·rw [pUn_not, Bool.not_false, ifV_true]
    exact hK _ _ (.inr he) o'.toNil
  ·have hf : f i = false := by simpa using hf
   unfold sh_tight_marked_1_k2
   rw [hf, ifV_false, pBin_add, wI i (by omega)]
   refine hZ (I (i + 1 : Nat), ()) h1 hlt ⟨rfl, s, Rs', by omega, fun k h1 h2 => ?_, hj, o1⟩
   by_cases e : k = i
   ·subst e; exact hf
   ·exact hno k h1 (by omega)
 ·have : i = n := by omega
  subst this
  exact hK _ _ (.inl ⟨s, fun k h1 h2 => hno k h1 h2, hj⟩) o

theorem put_ok {fv : Value} {Q : Heap -> Prop} {l : List Bool} (o : Own h0 h (slR encT 1 T_bool v l :: L)) (hl : l.length = n) (hI : IterG Tryz.prog fv Q (σ := Nat) 0 (mkNext n f) (mkStop n f))
  (hQ : ∀ h' l', Own h0 h' (slR encT 1 T_bool v l' :: L) -> Q h') (hK : ∀ h', Own h0 h' (slR encT 1 T_bool v (setT l f n) :: L) -> K v h') : callS Tryz.prog F_tight_put_bool [v, fv, .bool true] h K := by
 refine callS_of (lk_tight_put_bool _ _ _ ?_)
 unfold sh_tight_put_bool
 have hv1 := (o.vw 0 rfl).one
 refine o.box fun l3 h1 o1 => o1.box fun x5 h2 o2 => ?_
 have o3 : Own h0 h2 (cellR x5 [.bool true] T_bool :: cellR l3 [v] T_sl_bool :: slR encT 1 T_bool v (setT l f 0) :: L) := by
  rw [setT_zero]
  rw [show v.cells.toList = [v] by rw [hv1]] at o2
  exact o2
 refine o3.range hI (by rintro s x s' ⟨j, _, _, _, _, rfl, _⟩; rfl) (fun s Rs => s <= n /\ Rs = cellR x5 [.bool true] T_bool :: cellR l3 [v] T_sl_bool :: slR encT 1 T_bool v (setT l f s) :: L) (fun _ => False) (fun _ _ => False) ⟨Nat.zero_le _, rfl⟩ ?_ ?_ ?_ (fun _ _ h => h.elim) (fun _ _ _ h => h.elim)
 ·rintro s Rs' h' ⟨_, rfl⟩ o'
  exact hQ _ _ o'.tail.tail
 ·rintro M s x s' Rs' Pr h' R ⟨j, hij, hj, hf, hno, rfl, rfl⟩ ⟨hs, rfl⟩ o' hN _ _
  dsimp only [valsOf]
  unfold sh_tight_put_bool_B1
  refine o'.begin 0 rfl fun h4 o4 => o4.load 3 rfl rfl (o4.load 2 rfl rfl ?_)
  refine o4.setAt (a := true) 4 rfl encT_len (encT_plain _) (by rw [setT_len, hl]; exact hj) rfl fun h5 o5 => ?_
  rw [setT_next hij (by omega) hf hno] at o5
  exact hN _ _ ⟨by omega, rfl⟩ o5
 ·rintro s h' Rs' hst ⟨hs, rfl⟩ o'
  refine o'.load 2 rfl rfl (o'.take1 0 rfl fun h3 o4 => ?_)
  refine hK h3 ?_
  have e := setT_stop (l := l) (f := f) (i := s) (by rw [hl]; exact hst) (by omega)
  rw [hl] at e
  rw [<- e]
  exact o4.tail.tail.tail

theorem tthere_ok {z : Int} (H : NetR h r g) (hK : K (.bool (decide (0 <= z) && decide (z < g.n))) h) : callS Tryz.prog F_tight_there [ptr r, I z] h K := by
 refine callS_of (lk_tight_there _ _ ?_)
 unfold sh_tight_there
 have pe : ∀ {K : Value -> Prop}, K (.bool true) -> pEq true .ptr (ptr r) (.pointer none) K := fun hk => by simpa [pEq] using hk
 refine pe ?_
 rw [ifV_true]
 simp only [pBin_geq, ifV_dec]
 refine ⟨fun h1 => nodes_ok H ?_, fun h1 => ?_⟩
 ·rw [pBin_lss]
  rw [decide_eq_true h1, Bool.true_and] at hK
  exact hK
 ·rw [decide_eq_false h1, Bool.false_and] at hK
  exact hK

end
open Go Go.Mh

section
variable {h0 h : Heap} {L : List Res} {K : Value -> Heap -> Prop} {g : G} {r c n3 c3 k5 b7 n : Nat} {v : Value} {xs : List Int} {f : Nat -> Bool} {k : Int}

theorem containsN_ok {fv : Value} {ys : List Nat} (H : Vw encN 1 h v ys) (hl : ys.length < 2 ^ 40)
  (hF : ∀ (h' : Heap) (K : Value -> Heap -> Prop) (x : Nat), x ∈ ys -> Ext h h' -> (∀ h'', Ext h' h'' -> K (.bool (f x)) h'') -> callV Tryz.prog fv [I x].toArray h' K)
  (hK : ∀ h', Ext h h' -> K (.bool (ys.any f)) h') : callS Tryz.prog F_slices_ContainsFunc_sl_int_int [v, fv] h K := by
 refine callS_of (lk_slices_ContainsFunc_sl_int_int _ _ ?_)
 unfold sh_slices_ContainsFunc_sl_int_int
 refine callS_of (lk_slices_IndexFunc_sl_int_int _ _ ?_)
 unfold sh_slices_IndexFunc_sl_int_int
 refine H.len ?_
 refine LoopH_count ys.length (fun i x h' => x.1 = I i /\ Ext h h' /\ (ys.take i).any f = false) ⟨rfl, .refl _ _, rfl⟩ ?_
 rintro i ⟨x, ⟨⟩⟩ h' Z hi ⟨hx, x1, hp⟩ hZ
 dsimp only at hx hZ ⊢
 subst hx
 unfold sh_slices_IndexFunc_sl_int_int_L1
 simp only [pBin_lss, ifV_dec]
 refine ⟨fun hlt => ?_, fun hge => ?_⟩
 ·have hlt : i < ys.length := by omega
  refine (H.more x1).at1 (e := fun x : Nat => I x) (fun _ => rfl) hlt ?_
  refine hF h' _ ys[i] (List.getElem_mem hlt) x1 fun h2 x2 => ?_
  have x3 := ((Own.start h).more x1).ext2 x2
  cases hf : f ys[i] with
  | true =>
   rw [ifV_true, pBin_geq, decide_eq_true (by omega)]
   have := hK h2 x3
   rw [show ys.any f = true from List.any_eq_true.2 ⟨_, List.getElem_mem hlt, hf⟩] at this
   exact this
  | false =>
   rw [ifV_false, pBin_add, wI i (by omega)]
   refine hZ (I (i + 1 : Nat), ()) h2 hlt ⟨rfl, x3, ?_⟩
   rw [List.take_succ_eq_append_getElem hlt, List.any_append, hp]
   simp [hf]
 ·have : ys.take i = ys := List.take_of_length_le (by omega)
  rw [this] at hp
  rw [pBin_geq, decide_eq_false (by omega)]
  have := hK h' x1
  rw [hp] at this
  exact this

theorem cnodes_iter {hv : Value} {Q : Heap -> Prop} {T1 T2 : TypeId} (hl : xs.length < 2 ^ 40) (hF : HoldF hv xs.length f Q) :
  IterG Tryz.prog (.func (.func F_cell_Cells_nodes_1) #[] #[ptr n3, ptr k5]) (fun h => h[n3]? = some (.cells #[ptr c] T1 (0, 0)) /\ h[k5]? = some (.cells #[hv] T2 (0, 0)) /\ CellV h c xs /\ Q h) (σ := Nat) 0 (mkNext xs.length f) (mkStop xs.length f) := by
 rintro yv h0 h Rs K J E ⟨l, rfl⟩ o j0 hQ hY hK
 refine callF_of (l := [yieldV l, ptr n3, ptr k5]) rfl (lk_cell_Cells_nodes_1 _ _ _ ?_)
 unfold sh_cell_Cells_nodes_1
 obtain ⟨hm, _, ⟨s, hb, hv'⟩, _⟩ := hQ _ _ _ j0 o
 have cm : hcell h ⟨n3, 0, none⟩ = some (ptr c) := hcell_of hm rfl
 have c0 : hcell h ⟨c, 0, none⟩ = some s := hcell_of hb rfl
 simp only [pLoad_ptr, cm, pEq_ptr_nil, Option.isNone_some, ifV_false, pNil_ptr, pField_ptr, Nat.zero_add, c0]
 refine hv'.len ?_
 refine LoopH_count xs.length (fun i x h' => x.1 = I i /\ ∃ s Rs', s <= i /\ (∀ k, s <= k -> k < i -> f k = false) /\ J s Rs' /\ Own h0 h' Rs') ⟨rfl, 0, Rs, Nat.le_refl _, fun k _ h => absurd h (by omega), j0, o⟩ ?_
 rintro i ⟨x, ⟨⟩⟩ h Z hi ⟨hx, s, Rs', hs, hno, hj, o⟩ hZ
 dsimp only at hx hZ ⊢
 subst hx
 unfold sh_cell_Cells_nodes_1_L1
 simp only [pBin_lss, ifV_dec]
 refine ⟨fun hlt => ?_, fun hge => ?_⟩
 ·have hlt : i < xs.length := by omega
  obtain ⟨_, hh, _, hq⟩ := hQ _ _ _ hj o
  have ch : hcell h ⟨k5, 0, none⟩ = some hv := hcell_of hh rfl
  refine pLoad_of rfl ch (hF _ _ i hlt hq fun h1 x1 => ?_)
  have o1 := o.more x1
  by_cases hf : f i = true
  ·rw [hf, ifV_true]
   refine hY s _ (i + 1) Rs' [] h1 _ ⟨i, hs, hlt, hf, hno, rfl, rfl⟩ hj o1.nilTail (fun Rs'' h'' hj' o' => ?_) fun Rs'' h'' he o' => ?_
   ·unfold sh_cell_Cells_nodes_1_k2
    rw [pUn_not, Bool.not_true, ifV_false, pBin_add, wI i (by omega)]
    exact hZ (I (i + 1 : Nat), ()) h'' hlt ⟨rfl, i + 1, Rs'', Nat.le_refl _, fun k _ h => absurd h (by omega), hj', o'.toNil⟩
   ·rw [pUn_not, Bool.not_false, ifV_true]
    exact hK _ _ (.inr he) o'.toNil
  ·have hf : f i = false := by simpa using hf
   unfold sh_cell_Cells_nodes_1_k2
   rw [hf, ifV_false, pBin_add, wI i (by omega)]
   refine hZ (I (i + 1 : Nat), ()) h1 hlt ⟨rfl, s, Rs', by omega, fun k h1 h2 => ?_, hj, o1⟩
   by_cases e : k = i
   ·subst e; exact hf
   ·exact hno k h1 (by omega)
 ·have : i = xs.length := by omega
  subst this
  exact hK _ _ (.inl ⟨s, fun k h1 h2 => hno k h1 h2, hj⟩) o

theorem beyondB_ok {i : Nat} {T1 T2 T3 : TypeId} (hR : g.Right) (hx : xs.length = g.n) (hi : i < g.arcs.length) (h1 : h[n3]? = some (.cells #[ptr r] T1 (0, 0))) (h2 : h[c3]? = some (.cells #[ptr c] T2 (0, 0))) (h3 : h[k5]? = some (.cells #[I k] T3 (0, 0)))
  (hN : NetR h r g) (hC : CellV h c xs) (hK : ∀ h', Ext h h' -> K (.bool (!decide (dAt xs (arcAt g.arcs i).f = k))) h') : callV Tryz.prog (.func (.func F_cell_Cells_Border_1) #[] #[ptr n3, ptr c3, ptr k5]) [I i].toArray h K := by
 refine callV_of (l := [I i, ptr n3, ptr c3, ptr k5]) rfl (lk_cell_Cells_Border_1 _ _ _ _ ?_)
 unfold sh_cell_Cells_Border_1
 have d1 : hcell h ⟨n3, 0, none⟩ = some (ptr r) := hcell_of h1 rfl
 have d2 : hcell h ⟨c3, 0, none⟩ = some (ptr c) := hcell_of h2 rfl
 have d3 : hcell h ⟨k5, 0, none⟩ = some (I k) := hcell_of h3 rfl
 refine pLoad_of rfl d1 (arc_ok hN hi fun h3' x3 => ?_)
 simp only [pExt0, pExt1]
 have he := hR.ends _ (List.getElem_mem hi)
 have ea : arcAt g.arcs i = g.arcs[i] := by simp [arcAt, hi]
 rw [ea] at hK
 generalize g.arcs[i] = a at he hK
 have o3 := (Own.start h).more x3
 refine o3.box fun b h4 o4 => o4.st 0 rfl rfl rfl rfl rfl (encA_plain _) fun h5 o5 => ?_
 obtain ⟨s, hb, hv⟩ := hC.more o5.ext
 have c0 : hcell h5 ⟨c, 0, none⟩ = some s := hcell_of hb rfl
 refine pLoad_of rfl (hcell_more o5.ext d2) ?_
 simp only [pNil_ptr, pField_ptr, Nat.zero_add]
 refine pLoad_of rfl c0 ?_
 refine o5.load 0 rfl rfl (hv.atI (by omega) ?_)
 refine pLoad_of rfl (hcell_more o5.ext d3) ?_
 rw [dAt_get, pBin_neq]
 have := hK h5 o5.ext
 rw [show (dAt xs a.f != k) = !decide (dAt xs a.f = k) by simp [bne, BEq.beq]]
 exact this

theorem border_hold {T1 T2 T3 T4 : TypeId} (hR : g.Right) (hx : xs.length = g.n) : HoldF (.func (.func F_cell_Cells_Border_2) #[] #[ptr c3, ptr k5, ptr n3, ptr b7]) xs.length (bord g (dAt xs) k)
  (fun h => h[c3]? = some (.cells #[ptr c] T1 (0, 0)) /\ h[k5]? = some (.cells #[I k] T2 (0, 0)) /\ h[n3]? = some (.cells #[ptr r] T3 (0, 0)) /\ h[b7]? = some (.cells #[.func (.func F_cell_Cells_Border_1) #[] #[ptr n3, ptr c3, ptr k5]] T4 (0, 0)) /\ CellV h c xs /\ NetR h r g) := by
 rintro h K i hi ⟨h1, h2, h3, h4, hC, hN⟩ hK
 refine callV_of (l := [I i, ptr c3, ptr k5, ptr n3, ptr b7]) rfl (lk_cell_Cells_Border_2 _ _ _ _ _ ?_)
 unfold sh_cell_Cells_Border_2
 have d1 : hcell h ⟨c3, 0, none⟩ = some (ptr c) := hcell_of h1 rfl
 have d2 : hcell h ⟨k5, 0, none⟩ = some (I k) := hcell_of h2 rfl
 have d3 : hcell h ⟨n3, 0, none⟩ = some (ptr r) := hcell_of h3 rfl
 have d4 : hcell h ⟨b7, 0, none⟩ = some (.func (.func F_cell_Cells_Border_1) #[] #[ptr n3, ptr c3, ptr k5]) := hcell_of h4 rfl
 obtain ⟨s, hb, hv⟩ := id hC
 have c0 : hcell h ⟨c, 0, none⟩ = some s := hcell_of hb rfl
 refine cutP_of (fun y h' => y.1 = .bool (bord g (dAt xs) k i) /\ Ext h h') (fun J hJ => ?_) ?_
 ·refine pLoad_of rfl d1 ?_
  simp only [pNil_ptr, pField_ptr, Nat.zero_add]
  refine pLoad_of rfl c0 (hv.atI hi (pLoad_of rfl d2 ?_))
  rw [dAt_get, pBin_eql]
  by_cases e : dAt xs i = k
  ·rw [show (dAt xs i == k) = true by simpa using e, ifV_true]
   refine pLoad_of rfl d3 (pLoad_of rfl d4 ?_)
   refine inI_ok (Own.start h) hR hN fun w h5 o5 => ⟨pLoad_of rfl (hcell_more o5.ext d4) rfl, ?_⟩
   have hin : (if 0 <= (i : Int) /\ (i : Int) < g.n then g.in (i : Int).toNat else []) = g.in i := by rw [if_pos (by omega)]; rfl
   rw [hin] at o5
   refine containsN_ok (f := fun i => !decide (dAt xs (arcAt g.arcs i).f = k)) (o5.vw 0 rfl) (Nat.lt_of_le_of_lt outsP_short (by have := hR.many; omega)) (fun h' K' x hx' x5 hk => ?_) fun h' x5 => ?_
   ·have x6 := o5.ext2 x5
    exact beyondB_ok hR hx (in_lt hx') (x6.get h3) (x6.get h1) (x6.get h2) (hN.more x6) (hC.more x6) hk
   ·refine hJ _ h' ⟨?_, o5.ext2 x5⟩
    unfold bord
    rw [decide_eq_true e, Bool.true_and]
  ·rw [show (dAt xs i == k) = false by simpa using e, ifV_false]
   refine hJ _ h ⟨?_, .refl _ _⟩
   unfold bord
   rw [decide_eq_false e, Bool.false_and]
 ·rintro ⟨y, ⟨⟩⟩ h' ⟨hy, x⟩
  dsimp only at hy ⊢
  subst hy
  unfold sh_cell_Cells_Border_2_C1
  exact hK _ x

def bordL (g : G) (xs : List Int) (k : Int) : List Int := ((List.range g.n).filter (bord g (dAt xs) k)).map fun (i : Nat) => (i : Int)

theorem border_ok {h0 : Heap} {L : List Res} (o : Own h0 h L) (hR : g.Right) (hx : xs.length = g.n) (hN : NetR h r g) (hC : CellV h c xs) (hK : ∀ w h', Own h0 h' (slR encI 1 T_int w (bordL g xs k) :: L) -> K w h') : callS Tryz.prog F_cell_Cells_Border [ptr c, ptr r, I k] h K := by
 refine callS_of (lk_cell_Cells_Border _ _ _ ?_)
 unfold sh_cell_Cells_Border
 have hmost := hR.most
 refine (Own.start h).box fun c3 h1 o1 => o1.box fun n4 h2 o2 => o2.box fun k5 h3 o3 => ?_
 have o3 : Own h h3 [cellR k5 [I k] T_int, cellR n4 [ptr r] T_p_net_Net, cellR c3 [ptr c] T_p_cell_Cells] := o3
 refine cutP_of (fun y h' => y.1 = .bool false /\ h' = h3) (fun J hJ => ?_) ?_
 ·refine o3.load 2 rfl rfl ?_
  simp only [pEq_ptr_nil, Option.isNone_some, ifV_false]
  refine o3.load 1 rfl rfl ?_
  simp only [pEq_ptr_nil, Option.isNone_some, ifV_false]
  refine o3.load 1 rfl rfl (o3.load 2 rfl rfl ?_)
  obtain ⟨s, hb, hv⟩ := hC.more o3.ext
  have c0 : hcell h3 ⟨c, 0, none⟩ = some s := hcell_of hb rfl
  simp only [pNil_ptr, pField_ptr, Nat.zero_add]
  refine pLoad_of rfl c0 (hv.len ?_)
  refine nodes_ok (hN.more o3.ext) ⟨o3.load 2 rfl rfl rfl, pLoad_of rfl c0 rfl, ?_⟩
  rw [pBin_neq, hx, bne_self_eq_false]
  exact hJ _ _ ⟨rfl, rfl⟩
 ·rintro ⟨y, ⟨⟩⟩ h' ⟨hy, rfl⟩
  dsimp only at hy ⊢
  subst hy
  unfold sh_cell_Cells_Border_C1
  rw [ifV_false]
  refine o3.box fun b7 h6 o6 => o6.st1 0 (cs' := [.func (.func F_cell_Cells_Border_1) #[] #[ptr n4, ptr c3, ptr k5]]) rfl rfl rfl rfl rfl fun h7 o7 => o7.load 3 rfl rfl ?_
  refine callS_of (lk_cell_Cells_nodes _ _ ?_)
  unfold sh_cell_Cells_nodes
  refine o7.box fun c2 h8 o8 => o8.box fun q3 h9 o9 => ?_
  have hF := border_hold (c := c) (r := r) (c3 := c3) (k5 := k5) (n3 := n4) (b7 := b7) (k := k) (T1 := T_p_cell_Cells) (T2 := T_int) (T3 := T_p_net_Net) (T4 := T_func_int_bool) hR hx
  refine collectB_int o9 (cnodes_iter (n3 := c2) (k5 := q3) (c := c) (T1 := T_p_cell_Cells) (T2 := T_func_int_bool) (by omega) hF) (fun s => (onL xs.length (bord g (dAt xs) k) (min s xs.length)).map fun (i : Nat) => (i : Int)) rfl (fun s x s' => ?_) (fun Rs h' o' => ?_) fun w h' s hst o' => ?_
  ·rintro ⟨j, hs, hj, hf, hno, rfl, rfl⟩
   refine ⟨(j : Int), rfl, ?_, ?_⟩
   ·rw [Nat.min_eq_left (show j + 1 <= xs.length by omega), Nat.min_eq_left (show s <= xs.length by omega), onL_next hs hf hno, List.map_append]; rfl
   ·have := List.length_filter_le (bord g (dAt xs) k) (List.range (j + 1))
    rw [List.length_range] at this
    rw [Nat.min_eq_left (show j + 1 <= xs.length by omega), List.length_map]
    unfold onL
    omega
  ·have q : ∀ (i : Nat) (R : Res), (cellR q3 [.func (.func F_cell_Cells_Border_2) #[] #[ptr c3, ptr k5, ptr n4, ptr b7]] T_func_int_bool :: cellR c2 [ptr c] T_p_cell_Cells :: cellR b7 [.func (.func F_cell_Cells_Border_1) #[] #[ptr n4, ptr c3, ptr k5]] T_func_int_bool :: cellR k5 [I k] T_int :: cellR n4 [ptr r] T_p_net_Net :: cellR c3 [ptr c] T_p_cell_Cells :: [])[i]? = some R -> R.Q h' := fun i R hi => o'.get (Rs.length + i) (by rw [List.getElem?_append_right (by omega)]; rw [show Rs.length + i - Rs.length = i by omega]; exact hi)
   exact ⟨q 1 _ rfl, q 0 _ rfl, hC.more o'.ext, q 5 _ rfl, q 3 _ rfl, q 4 _ rfl, q 2 _ rfl, hC.more o'.ext, hN.more o'.ext⟩
  ·have hs : onL xs.length (bord g (dAt xs) k) (min s xs.length) = (List.range g.n).filter (bord g (dAt xs) k) := by
    rw [<- hx]
    refine onL_stop (Nat.min_le_right _ _) fun k' h1 h2 => hst k' (by omega) h2
   rw [hs] at o'
   exact hK w h' (o.frame (o'.sel [0] (by decide)))

end
open Go Go.Mh

section
variable {h0 h : Heap} {L : List Res} {K : Value -> Heap -> Prop} {g : G} {r : Nat} {d : List Int} {v : Value} {n : Nat} {f : Nat -> Bool}

theorem tanyH_ok {vn : Value} {bs : List Int} (o : Own h0 h L) (hR : g.Right) (H : NetR h r g) (hb : Vw encI 1 h vn bs) (hbl : bs.length < 2 ^ 40)
  (hK : ∀ w h', Own h0 h' (slR encT 1 T_bool w (g.arcs.map (tgtAny g bs)) :: L) -> K w h') : callS Tryz.prog F_tight_Any [ptr r, vn] h K := by
 refine callS_of (lk_tight_Any _ _ ?_)
 unfold sh_tight_Any
 have hmany := hR.many
 have hmost := hR.most
 simp only [pEq_ptr_nil, Option.isNone_some, ifV_false]
 refine arcs_ok (H) ?_
 refine (Own.start h).make (enc := encT) (n := 1) (a := false) rfl (by omega) (by omega) fun w h1 o1 => hb.len ?_
 have e0 : List.replicate g.arcs.length false = g.arcs.map (tgtAny g (bs.take 0)) := by
  apply List.ext_getElem (by simp) fun i h1 h2 => by simp [tgtAny]
 rw [e0] at o1
 refine LoopH_count bs.length (fun i x h' => x.1 = w /\ x.2.1 = I i /\ Own h h' [slR encT 1 T_bool w (g.arcs.map (tgtAny g (bs.take i)))]) ⟨rfl, rfl, o1⟩ ?_
 clear o1 e0
 rintro i ⟨w', x, ⟨⟩⟩ h' Z hi ⟨hw, hx, o'⟩ hZ
 dsimp only at hw hx hZ ⊢
 subst hw hx
 unfold sh_tight_Any_L1
 simp only [pBin_lss, ifV_dec]
 refine ⟨fun hlt => ?_, fun hge => ?_⟩
 ·have hlt : i < bs.length := by omega
  have hm : ∀ a, tgtAny g (bs.take (i + 1)) a = (tgtAny g (bs.take i) a || tgtI g bs[i] a) := fun a => by
   rw [List.take_succ_eq_append_getElem hlt, tgtAny_append, tgtAny_one]
  refine (hb.more o'.ext).atI hlt ?_
  generalize bs[i] = b at hm
  refine tthere_ok (H.more o'.ext) ?_
  by_cases hc : 0 <= b /\ b < g.n
  ·rw [decide_eq_true hc.1, decide_eq_true hc.2, Bool.true_and, ifV_true]
   obtain ⟨b, rfl⟩ := Int.eq_ofNat_of_zero_le hc.1
   have hbn : b < g.n := by omega
   have T := to_tree hR hbn
   refine (o'.vw 0 rfl).len ?_
   refine callS_of (lk_tight_tells _ _ ?_)
   unfold sh_tight_tells
   refine o'.box fun n2 h2 o2 => o2.load 0 rfl rfl (to_ok hR (H.more o2.ext) fun sd sa so h3 o3 => ?_)
   have et : g.toI (b : Int) = g.to b := by rw [G.toI, if_pos (by omega)]; rfl
   rw [et] at o3
   replace o3 := o2.frame o3
   refine o3.box fun x5 h4 o4 => o4.st (cs' := [sd, sa, so]) 0 rfl rfl rfl rfl rfl ?_ fun h5 o5 => ?_
   ·intro u hu
    simp at hu
    rcases hu with rfl | rfl | rfl
    ·exact (o3.vw 0 rfl).plain
    ·exact (o3.vw 1 rfl).plain
    ·exact (o3.vw 2 rfl).plain
   refine callS_of (lk_tight_marked _ _ ?_)
   unfold sh_tight_marked
   refine o5.box fun m2 h6 o6 => o6.box fun q3 h7 o7 => ?_
   have hlen : (g.arcs.map (tgtAny g (bs.take i))).length = g.arcs.length := by simp
   have hF : HoldF (.func (.func F_tight_tells_1) #[] #[ptr n2, ptr x5]) (g.arcs.map (tgtAny g (bs.take i))).length (fun k => tgt (g.to b).dist (arcAt g.arcs k)) (fun h' => h'[n2]? = some (.cells #[ptr r] T_p_net_Net (0, 0)) /\ h'[x5]? = some (.cells #[sd, sa, so] T_flood_Tree (0, 0)) /\ NetR h' r g /\ Vw encI 1 h' sd (g.to b).dist) := by
    rintro h'' K'' k hk ⟨q1, q2, q3, q4⟩ hK''
    have hk : k < g.arcs.length := by omega
    dsimp only at hK''
    rw [show arcAt g.arcs k = g.arcs[k] by simp [arcAt, hk]] at hK''
    exact tells1_ok hR T.ls.len (fun u hu => ⟨T.ls.nonneg hu, T.ls.far_le hu⟩) hk q1 q2 q3 q4 hK''
   have o8 := o7.sel [7, 0, 1, 2, 3, 4, 5, 6] (by decide)
   refine put_ok o8 rfl (marked_iter (T1 := T_int) (T2 := T_func_int_bool) (by rw [hlen]; omega) hF) (fun h'' l' o'' => ⟨o''.get 2 rfl, o''.get 1 rfl, o''.get 7 rfl, o''.get 3 rfl, H.more o''.ext, o''.vw 4 rfl⟩) fun h8 o9 => ?_
   unfold sh_tight_Any_k2
   rw [pBin_add, wI i (by omega)]
   refine hZ (w', (I (i + 1 : Nat), ())) h8 hlt ⟨rfl, rfl, ?_⟩
   have e1 := setT_map (l := g.arcs) (p := tgtAny g (bs.take i)) (q := fun a => tgtI g b a) (f := fun k => tgt (g.to b).dist (arcAt g.arcs k)) fun k hk => by
    simp [arcAt, hk, tgtI, et, hbn]
   rw [hlen, e1] at o9
   have e2 : (g.arcs.map fun a => tgtAny g (bs.take i) a || tgtI g b a) = g.arcs.map (tgtAny g (bs.take (i + 1))) := List.map_congr_left fun a _ => (hm a).symm
   rw [e2] at o9
   exact o9.sel [0] (by decide)
  ·have hcf : (decide (0 <= b) && decide (b < (g.n : Int))) = false := by
    rw [Bool.and_eq_false_imp]; intro h1; exact decide_eq_false fun h2 => hc ⟨of_decide_eq_true h1, h2⟩
   rw [hcf, ifV_false]
   unfold sh_tight_Any_k2
   rw [pBin_add, wI i (by omega)]
   refine hZ (w', (I (i + 1 : Nat), ())) h' hlt ⟨rfl, rfl, ?_⟩
   have e2 : g.arcs.map (tgtAny g (bs.take i)) = g.arcs.map (tgtAny g (bs.take (i + 1))) := List.map_congr_left fun a _ => by
    rw [hm a]
    have : tgtI g b a = false := by unfold tgtI; rw [<- Bool.and_assoc, hcf, Bool.false_and]
    rw [this, Bool.or_false]
   rw [<- e2]
   exact o'
 ·have : i = bs.length := by omega
  subst this
  rw [List.take_length] at o'
  exact hK w' h' (o.frame o')

theorem tarcsH_ok {b : Int} (o : Own h0 h L) (hR : g.Right) (H : NetR h r g)
  (hK : ∀ w h', Own h0 h' (slR encT 1 T_bool w (g.arcs.map (tgtI g b)) :: L) -> K w h') : callS Tryz.prog F_tight_Arcs [ptr r, I b] h K := by
 refine callS_of (lk_tight_Arcs _ _ ?_)
 unfold sh_tight_Arcs
 refine (Own.start h).build (enc := encI) (n := 1) [b] rfl (sizesOk_of rfl) rfl fun w h1 o1 => ?_
 refine tanyH_ok o1 hR (H.more o1.ext) (o1.vw 0 rfl) (by simp) fun w2 h2 o3 => hK w2 h2 ?_
 have e : g.arcs.map (tgtAny g [b]) = g.arcs.map (tgtI g b) := List.map_congr_left fun a _ => tgtAny_one
 rw [e] at o3
 exact o.frame (o3.sel [0] (by decide))

end

section
variable {h0 h : Heap} {L : List Res} {K : Value -> Heap -> Prop} {g : G} {r c n3 c4 k5 y4 : Nat} {xs : List Int} {f : Nat -> Bool} {k : Int}

theorem inside_ok {i : Nat} (hR : g.Right) (hx : xs.length = g.n) (hN : NetR h r g) (hC : CellV h c xs) (hi : i < g.arcs.length) (hK : ∀ h', Ext h h' -> K (.bool (insd g (dAt xs) k i)) h') : callS Tryz.prog F_flag_inside [ptr r, ptr c, I k, I i] h K := by
 refine callS_of (lk_flag_inside _ _ _ _ ?_)
 unfold sh_flag_inside
 refine arc_ok hN hi fun h3 x3 => ?_
 simp only [pExt0, pExt1]
 have he := hR.ends _ (List.getElem_mem hi)
 have ea : arcAt g.arcs i = g.arcs[i] := by simp [arcAt, hi]
 unfold insd at hK
 rw [ea] at hK
 generalize g.arcs[i] = a at he hK
 have o3 := (Own.start h).more x3
 refine o3.box fun b h4 o4 => o4.st 0 rfl rfl rfl rfl rfl (encA_plain _) fun h5 o5 => ?_
 rw [ifV_true]
 simp only [pField_ptr, Nat.zero_add]
 refine o5.load 0 rfl rfl (cof_ok (hC.more o5.ext) (by omega) ?_)
 rw [pBin_eql]
 by_cases e : dAt xs a.f = k
 ·rw [show (dAt xs a.f == k) = true by simpa using e, ifV_true]
  refine o5.load 0 rfl rfl (cof_ok (hC.more o5.ext) (by omega) ?_)
  rw [pBin_eql]
  have := hK h5 o5.ext
  rw [decide_eq_true e, Bool.true_and] at this
  rw [show (dAt xs a.t == k) = decide (dAt xs a.t = k) by simp [BEq.beq]]
  exact this
 ·rw [show (dAt xs a.f == k) = false by simpa using e, ifV_false]
  have := hK h5 o5.ext
  rw [decide_eq_false e, Bool.false_and] at this
  exact this

theorem filt_split {m i : Nat} (hi : i < m) (hf : f i = true) : ∃ post, (List.range m).filter f = (List.range i).filter f ++ i :: post := by
 obtain ⟨d, rfl⟩ := Nat.le.dest (show i + 1 <= m by omega)
 refine ⟨((List.range d).map (i + 1 + ·)).filter f, ?_⟩
 rw [List.range_add, List.filter_append, List.range_succ, List.filter_append]
 simp [hf]

theorem on_ok {yv isv : Value} {pre post wl : List Nat} {J : Nat -> List Res -> Prop} {E : List Res -> Prop} {Rs Pr : List Res} {py : Nat} {T T1 : TypeId} {Ky : Value -> Heap -> Prop}
  (hR : g.Right) (hw : wl = pre ++ (List.range g.arcs.length).filter f ++ post)
  (hY : ∀ s x s' Rs' Pr h' (R : Value -> Heap -> Prop), ((∃ hi : s < wl.length, x = [I wl[s]]) /\ s' = s + 1) -> J s Rs' -> Own h0 h' (Rs' ++ Pr) -> (∀ Rs'' h'', J s' Rs'' -> Own h0 h'' (Rs'' ++ Pr) -> R (.bool true) h'') ->
   (∀ Rs'' h'', E Rs'' -> Own h0 h'' (Rs'' ++ Pr) -> R (.bool false) h'') -> callV Tryz.prog yv x.toArray h' R)
  (hQ : ∀ s Rs' h', J s Rs' -> Own h0 h' Rs' -> h'[n3]? = some (.cells #[ptr r] T1 (0, 0)) /\ NetR h' r g)
  (hI : ∀ s Rs' h' i (K : Value -> Heap -> Prop), i < g.arcs.length -> J s Rs' -> Own h0 h' (Rs' ++ Pr) -> (∀ h'', Ext h' h'' -> K (.bool (f i)) h'') -> callV Tryz.prog isv [I i].toArray h' K)
  (hp : Pr[py]? = some (cellR y4 [yv] T)) (o : Own h0 h (Rs ++ Pr)) (j0 : J pre.length Rs)
  (hKt : ∀ Rs' h', J (pre.length + ((List.range g.arcs.length).filter f).length) Rs' -> Own h0 h' (Rs' ++ Pr) -> Ky (.bool true) h')
  (hKf : ∀ Rs' h', E Rs' -> Own h0 h' (Rs' ++ Pr) -> Ky (.bool false) h') : callV Tryz.prog (.func (.func F_flag_worth_1_1) #[] #[ptr n3, ptr y4]) [isv].toArray h Ky := by
 refine callV_of (l := [isv, ptr n3, ptr y4]) rfl (lk_flag_worth_1_1 _ _ _ ?_)
 unfold sh_flag_worth_1_1
 have hmany := hR.many
 obtain ⟨hb, hN⟩ := hQ _ _ _ j0 o.left
 have hc : hcell h ⟨n3, 0, none⟩ = some (ptr r) := hcell_of hb rfl
 refine pLoad_of rfl hc (arcs_ok hN ?_)
 refine LoopH_count g.arcs.length (fun i x h' => x.1 = I i /\ ∃ Rs', J (pre.length + ((List.range i).filter f).length) Rs' /\ Own h0 h' (Rs' ++ Pr)) ⟨rfl, Rs, j0, o⟩ ?_
 rintro i ⟨x, ⟨⟩⟩ h' Z hi ⟨hx, Rs', hj, o'⟩ hZ
 dsimp only at hx hZ ⊢
 subst hx
 unfold sh_flag_worth_1_1_L1
 simp only [pBin_lss, ifV_dec]
 refine ⟨fun hlt => ?_, fun hge => ?_⟩
 ·have hlt : i < g.arcs.length := by omega
  refine hI _ Rs' h' i _ hlt hj o' fun h2 x2 => ?_
  have o2 := o'.more x2
  cases hf : f i with
  | true =>
   rw [ifV_true]
   obtain ⟨po, hs⟩ := filt_split hlt hf
   refine o2.load (Rs'.length + py) (by rw [List.getElem?_append_right (by omega), show Rs'.length + py - Rs'.length = py by omega]; exact hp) rfl ?_
   have hwi : wl[pre.length + ((List.range i).filter f).length]? = some i := by
    rw [hw, hs, List.append_assoc, List.getElem?_append_right (by omega), show pre.length + ((List.range i).filter f).length - pre.length = ((List.range i).filter f).length by omega, List.append_assoc, List.getElem?_append_right (by omega), Nat.sub_self]
    rfl
   obtain ⟨hwl, hwe⟩ := List.getElem?_eq_some_iff.1 hwi
   have hcnt : pre.length + ((List.range i).filter f).length + 1 = pre.length + ((List.range (i + 1)).filter f).length := by
    rw [List.range_succ, List.filter_append]; simp [hf]; omega
   refine hY (pre.length + ((List.range i).filter f).length) _ _ Rs' Pr h2 _ ⟨⟨hwl, by rw [hwe]⟩, rfl⟩ hj o2 (fun Rs'' h'' hj' o'' => ?_) fun Rs'' h'' he o'' => ?_
   ·unfold sh_flag_worth_1_1_k2
    rw [pUn_not, Bool.not_true, ifV_false, pBin_add, wI i (by omega)]
    exact hZ (I (i + 1 : Nat), ()) h'' hlt ⟨rfl, Rs'', by rw [<- hcnt]; exact hj', o''⟩
   ·rw [pUn_not, Bool.not_false, ifV_true]
    exact hKf _ _ he o''
  | false =>
   rw [ifV_false]
   unfold sh_flag_worth_1_1_k2
   rw [pBin_add, wI i (by omega)]
   refine hZ (I (i + 1 : Nat), ()) h2 hlt ⟨rfl, Rs', ?_, o2⟩
   rw [List.range_succ, List.filter_append]
   simpa [hf] using hj
 ·have : i = g.arcs.length := by omega
  subst this
  exact hKt _ _ hj o'

def tgtL (g : G) (b : Int) : List Nat := (List.range g.arcs.length).filter fun i => tgtI g b (arcAt g.arcs i)
def wl (g : G) (xs : List Int) (k : Int) : List Nat := (List.range g.arcs.length).filter (insd g (dAt xs) k) ++ (bordL g xs k).flatMap (tgtL g)

theorem worth_iter {T1 T2 T3 : TypeId} (hR : g.Right) (hx : xs.length = g.n) : Iter Tryz.prog (.func (.func F_flag_worth_1) #[] #[ptr n3, ptr c4, ptr k5])
  (fun h => h[n3]? = some (.cells #[ptr r] T1 (0, 0)) /\ h[c4]? = some (.cells #[ptr c] T2 (0, 0)) /\ h[k5]? = some (.cells #[I k] T3 (0, 0)) /\ CellV h c xs /\ NetR h r g) (wl g xs k).length (fun i hi => [I (wl g xs k)[i]]) := by
 rintro yv h0 h Rs K J E ⟨l, rfl⟩ o j0 hQ hY hK
 refine callF_of (l := [yieldV l, ptr n3, ptr c4, ptr k5]) rfl (lk_flag_worth_1 _ _ _ _ ?_)
 unfold sh_flag_worth_1
 refine o.box fun y4 h1 o1 => ?_
 have o1 : Own h0 h1 (Rs ++ [cellR y4 [yieldV l] T_func_int_bool]) := Own.rot o1
 have hQ2 : ∀ s Rs' h', J s Rs' -> Own h0 h' Rs' -> h'[n3]? = some (.cells #[ptr r] T1 (0, 0)) /\ NetR h' r g := fun s Rs' h' hj o' => ⟨(hQ _ _ _ hj o').1, (hQ _ _ _ hj o').2.2.2.2⟩
 refine on_ok (pre := []) (f := insd g (dAt xs) k) (post := (bordL g xs k).flatMap (tgtL g)) (wl := wl g xs k) (Pr := [cellR y4 [yieldV l] T_func_int_bool]) (py := 0) (T1 := T1) hR rfl hY hQ2 (fun s Rs' h' i K' hi hj o' hk => ?_) rfl o1 j0 (fun Rs' h' hj o' => ?_) fun Rs' h' he o' => ?_
 ·obtain ⟨q1, q2, q3, q4, q5⟩ := hQ _ _ _ hj o'.left
  have d1 : hcell h' ⟨n3, 0, none⟩ = some (ptr r) := hcell_of q1 rfl
  have d2 : hcell h' ⟨c4, 0, none⟩ = some (ptr c) := hcell_of q2 rfl
  have d3 : hcell h' ⟨k5, 0, none⟩ = some (I k) := hcell_of q3 rfl
  refine callV_of (l := [I i, ptr n3, ptr c4, ptr k5]) rfl (lk_flag_worth_1_2 _ _ _ _ ?_)
  unfold sh_flag_worth_1_2
  exact pLoad_of rfl d1 (pLoad_of rfl d2 (pLoad_of rfl d3 (inside_ok hR hx q5 q4 hi hk)))
 ·rw [pUn_not, Bool.not_true, ifV_false]
  obtain ⟨q1, q2, q3, q4, q5⟩ := hQ _ _ _ hj o'.left
  have d1 : hcell h' ⟨n3, 0, none⟩ = some (ptr r) := hcell_of q1 rfl
  have d2 : hcell h' ⟨c4, 0, none⟩ = some (ptr c) := hcell_of q2 rfl
  have d3 : hcell h' ⟨k5, 0, none⟩ = some (I k) := hcell_of q3 rfl
  refine pLoad_of rfl d2 (pLoad_of rfl d1 (pLoad_of rfl d3 ?_))
  refine border_ok o' hR hx q5 q4 fun w h2 o2 => ?_
  refine (o2.vw 0 rfl).len ?_
  have o2 : Own h0 h2 (Rs' ++ [cellR y4 [yieldV l] T_func_int_bool, slR encI 1 T_int w (bordL g xs k)]) := by
   have := Own.rot o2
   rwa [List.append_assoc] at this
  have hbl : (bordL g xs k).length < 2 ^ 40 := by
   unfold bordL
   rw [List.length_map]
   have := List.length_filter_le (bord g (dAt xs) k) (List.range g.n)
   have := hR.most
   rw [List.length_range] at *
   omega
  refine LoopH_count (bordL g xs k).length (fun i x h' => x.1 = I i /\ ∃ Rs', J (((List.range g.arcs.length).filter (insd g (dAt xs) k)).length + (((bordL g xs k).take i).flatMap (tgtL g)).length) Rs' /\ Own h0 h' (Rs' ++ [cellR y4 [yieldV l] T_func_int_bool, slR encI 1 T_int w (bordL g xs k)])) ⟨rfl, Rs', by simpa using hj, o2⟩ ?_
  clear o2 hj o' q1 q2 q3 q4 q5 d1 d2 d3
  rintro i ⟨x, ⟨⟩⟩ h3 Z hi ⟨hx', Rs'', hj, o3⟩ hZ
  dsimp only at hx' hZ ⊢
  subst hx'
  unfold sh_flag_worth_1_L1
  simp only [pBin_lss, ifV_dec]
  refine ⟨fun hlt => ?_, fun hge => ?_⟩
  ·have hlt : i < (bordL g xs k).length := by omega
   obtain ⟨q1, q2, q3, q4, q5⟩ := hQ _ _ _ hj o3.left
   have d1 : hcell h3 ⟨n3, 0, none⟩ = some (ptr r) := hcell_of q1 rfl
   have hv : Vw encI 1 h3 w (bordL g xs k) := o3.vw (Rs''.length + 1) (by rw [List.getElem?_append_right (by omega), show Rs''.length + 1 - Rs''.length = 1 by omega]; rfl)
   refine hv.atI hlt (pLoad_of rfl d1 ?_)
   refine tarcsH_ok o3 hR q5 fun w2 h4 o4 => o4.box fun t8 h5 o5 => ?_
   have hw2 := o5.vw 1 rfl
   refine o5.st1 0 (cs' := [w2]) rfl rfl rfl hw2.one hw2.plain fun h6 o6 => ?_
   have o6 : Own h0 h6 (Rs'' ++ [cellR y4 [yieldV l] T_func_int_bool, slR encI 1 T_int w (bordL g xs k), slR encT 1 T_bool w2 (g.arcs.map (tgtI g (bordL g xs k)[i])), cellR t8 [w2] T_sl_bool]) := by
    have e : Rs'' ++ [cellR y4 [yieldV l] T_func_int_bool, slR encI 1 T_int w (bordL g xs k), slR encT 1 T_bool w2 (g.arcs.map (tgtI g (bordL g xs k)[i])), cellR t8 [w2] T_sl_bool] = ((Rs'' ++ [cellR y4 [yieldV l] T_func_int_bool, slR encI 1 T_int w (bordL g xs k)]) ++ [slR encT 1 T_bool w2 (g.arcs.map (tgtI g (bordL g xs k)[i]))]) ++ [cellR t8 [w2] T_sl_bool] := by simp
    rw [e]
    exact Own.rot (Own.rot (Own.swap o6))
   have hsplit : wl g xs k = ((List.range g.arcs.length).filter (insd g (dAt xs) k) ++ ((bordL g xs k).take i).flatMap (tgtL g)) ++ (List.range g.arcs.length).filter (fun j => tgtI g (bordL g xs k)[i] (arcAt g.arcs j)) ++ ((bordL g xs k).drop (i + 1)).flatMap (tgtL g) := by
    unfold wl
    have e := List.take_append_drop i (bordL g xs k)
    rw [List.drop_eq_getElem_cons hlt] at e
    conv => lhs; rw [<- e]
    rw [List.flatMap_append, List.flatMap_cons]
    simp only [List.append_assoc]
    rfl
   refine on_ok (f := fun j => tgtI g (bordL g xs k)[i] (arcAt g.arcs j)) (wl := wl g xs k) (py := 0) (T1 := T1) hR hsplit hY hQ2 (fun s Rs3 h' j K' hj' _ o' hk => ?_) rfl o6 (by rw [List.length_append]; exact hj) (fun Rs3 h' hj' o' => ?_) fun Rs3 h' he o' => ?_
   ·refine callV_of (l := [I j, ptr t8]) rfl (lk_flag_worth_1_3 _ _ ?_)
    unfold sh_flag_worth_1_3
    have hv3 : Vw encT 1 h' w2 (g.arcs.map (tgtI g (bordL g xs k)[i])) := o'.vw (Rs3.length + 2) (by rw [List.getElem?_append_right (by omega), show Rs3.length + 2 - Rs3.length = 2 by omega]; rfl)
    have hl3 : ∀ {K : Value -> Prop}, K w2 -> pLoad h' (ptr t8) K := fun hk => o'.load (Rs3.length + 3) (by rw [List.getElem?_append_right (by omega), show Rs3.length + 3 - Rs3.length = 3 by omega]; rfl) rfl hk
    refine hl3 (hv3.len ?_)
    rw [pBin_lss, decide_eq_true (by rw [List.length_map]; omega), ifV_true]
    refine hl3 (hv3.at1 (e := fun x : Bool => .bool x) (fun _ => rfl) (by rw [List.length_map]; exact hj') ?_)
    have := hk h' (.refl _ _)
    rw [List.getElem_map]
    rw [show arcAt g.arcs j = g.arcs[j] by simp [arcAt, hj']] at this
    exact this
   ·rw [pUn_not, Bool.not_true, ifV_false, pBin_add, wI i (by omega)]
    refine hZ (I (i + 1 : Nat), ()) h' hlt ⟨rfl, Rs3, ?_, ?_⟩
    ·have e : (((bordL g xs k).take (i + 1)).flatMap (tgtL g)).length = (((bordL g xs k).take i).flatMap (tgtL g)).length + ((List.range g.arcs.length).filter (fun j => tgtI g (bordL g xs k)[i] (arcAt g.arcs j))).length := by
      rw [List.take_succ_eq_append_getElem hlt, List.flatMap_append, List.length_append]
      congr 1
      rw [List.flatMap_cons, List.flatMap_nil, List.append_nil]; rfl
     rw [e, <- Nat.add_assoc]
     rw [List.length_append] at hj'
     exact hj'
    ·have e : Rs3 ++ [cellR y4 [yieldV l] T_func_int_bool, slR encI 1 T_int w (bordL g xs k), slR encT 1 T_bool w2 (g.arcs.map (tgtI g (bordL g xs k)[i])), cellR t8 [w2] T_sl_bool] = (Rs3 ++ [cellR y4 [yieldV l] T_func_int_bool, slR encI 1 T_int w (bordL g xs k)]) ++ [slR encT 1 T_bool w2 (g.arcs.map (tgtI g (bordL g xs k)[i])), cellR t8 [w2] T_sl_bool] := by simp
     rw [e] at o'
     exact o'.left
   ·rw [pUn_not, Bool.not_false, ifV_true]
    exact hK _ _ (.inr he) o'.left
  ·have : i = (bordL g xs k).length := by omega
   subst this
   rw [List.take_length] at hj
   refine hK _ _ (.inl ⟨_, ?_, hj⟩) o3.left
   unfold wl
   rw [List.length_append]
 ·rw [pUn_not, Bool.not_false, ifV_true]
  exact hK _ _ (.inr he) o'.left

end
open Go Go.Mh

section
variable {h0 h : Heap} {L : List Res} {K : Value -> Heap -> Prop} {g : G} {r c b : Nat} {xs : List Int} {k : Int} {M : Nat} {bs : List UInt8}

def flagsK (g : G) (xs : List Int) (M k : Nat) : List UInt8 := (List.range k).foldl (fun bs (r : Nat) => setRow bs (longB g.arcs.length) r (wl g xs r)) (List.replicate (M * longB g.arcs.length) 0)
def flagsB (g : G) (xs : List Int) (M : Nat) : List UInt8 := flagsK g xs M M

theorem flagsK_len : ∀ {k : Nat}, (flagsK g xs M k).length = M * longB g.arcs.length
 | 0 => by simp [flagsK]
 | k + 1 => by
  have := flagsK_len (k := k)
  unfold flagsK at *
  rw [List.range_succ, List.foldl_append, List.foldl_cons, List.foldl_nil, setRow_len, this]
theorem flagsK_succ {k : Nat} : flagsK g xs M (k + 1) = setRow (flagsK g xs M k) (longB g.arcs.length) k (wl g xs k) := by
 unfold flagsK
 rw [List.range_succ, List.foldl_append]; rfl

theorem wl_lt {i : Nat} (h : i ∈ wl g xs k) : i < g.arcs.length := by
 rcases List.mem_append.1 h with h | h
 ·exact List.mem_range.1 (List.mem_filter.1 h).1
 ·obtain ⟨b, _, h⟩ := List.mem_flatMap.1 h
  exact List.mem_range.1 (List.mem_filter.1 h).1

theorem ffits_ok (hR : g.Right) (hx : xs.length = g.n) (hN : NetR h r g) (hC : CellV h c xs) (hK : ∀ h', Ext h h' -> K (.bool true) h') : callS Tryz.prog F_flag_fits [ptr r, ptr c] h K := by
 refine callS_of (lk_flag_fits _ _ ?_)
 unfold sh_flag_fits
 have hmost := hR.most
 have hpos := hR.pos
 refine nodes_ok hN ?_
 rw [pBin_gtr, decide_eq_true (by omega), ifV_true]
 refine cmap_ok (Own.start h) hC (by omega) fun w h1 o1 => (o1.vw 0 rfl).len ?_
 refine nodes_ok (hN.more o1.ext) ?_
 rw [pBin_eql, hx, beq_self_eq_true]
 exact hK h1 o1.ext

set_option maxHeartbeats 2000000 in
theorem flagOf_ok (o0 : Own h0 h L) (hR : g.Right) (hx : xs.length = g.n) (hN : NetR h r g) (hC : CellV h c xs) (hM : maxL xs + 1 = (M : Int)) (hM1 : M <= 256) (hsm : M * longB g.arcs.length <= 268435456)
  (hK : ∀ b s h', Own h0 h' (cellR b (bitCs M g.arcs.length s) T_bits_Rows :: slR encB8 1 T_uint8 s (flagsB g xs M) :: L) -> K (ptr b) h') : callS Tryz.prog F_flag_Of [ptr r, ptr c] h K := by
 refine callS_of (lk_flag_Of _ _ ?_)
 unfold sh_flag_Of
 have hmany := hR.many
 refine ffits_ok hR hx hN hC fun h1 x1 => ?_
 rw [pUn_not, Bool.not_true, ifV_false]
 have o1 := (Own.start h).more x1
 refine cmany_ok (hC.more x1) (arcs_ok (hN.more x1) ?_)
 rw [hM]
 refine bnew_ok o1 (by omega) hsm (by omega) fun b s h2 o2 => o2.box fun f5 h3 o3 => o3.st1 0 (cs' := [ptr b]) rfl rfl rfl rfl rfl fun h4 o4 => ?_
 refine cmany_ok (hC.more o4.ext) ?_
 rw [hM]
 have o5 : Own h h4 (marksR [] :: cellR f5 [ptr b] T_p_bits_Rows :: cellR b (bitCs M g.arcs.length s) T_bits_Rows :: slR encB8 1 T_uint8 s (flagsK g xs M 0) :: []) := Own.noMarks o4
 refine LoopH_count M (fun i x h' => x.2.1 = I i /\ Own h h' (marksR x.1 :: cellR f5 [ptr b] T_p_bits_Rows :: cellR b (bitCs M g.arcs.length s) T_bits_Rows :: slR encB8 1 T_uint8 s (flagsK g xs M i) :: [])) ⟨rfl, o5⟩ ?_
 clear o1 o2 o3 o4 o5
 rintro i ⟨m, x, ⟨⟩⟩ h5 Z hi ⟨hx', o5⟩ hZ
 dsimp only at hx' hZ o5 ⊢
 subst hx'
 unfold sh_flag_Of_L1
 simp only [pBin_lss, ifV_dec]
 refine ⟨fun hlt => ?_, fun hge => ?_⟩
 ·have hlt : i < M := by omega
  refine o5.box fun k6 h6 o6 => o6.st1 0 (cs' := [I i]) rfl rfl rfl rfl rfl fun h7 o7 => o7.load 0 rfl rfl ?_
  refine callS_of (lk_flag_worth _ _ _ ?_)
  unfold sh_flag_worth
  refine o7.box fun n3 h8 o8 => o8.box fun c4 h9 o9 => o9.box fun k5 h10 o10 => ?_
  have o10 : Own h h10 (cellR k5 [I i] T_int :: cellR c4 [ptr c] T_p_cell_Cells :: cellR n3 [ptr r] T_p_net_Net :: cellR k6 [I i] T_int :: marksR m :: cellR f5 [ptr b] T_p_bits_Rows :: cellR b (bitCs M g.arcs.length s) T_bits_Rows :: slR encB8 1 T_uint8 s (setRow (flagsK g xs M i) (longB g.arcs.length) i ((wl g xs i).take 0)) :: []) := o10
  refine o10.range (worth_iter (r := r) (c := c) (n3 := n3) (c4 := c4) (k5 := k5) (k := (i : Int)) (T1 := T_p_net_Net) (T2 := T_p_cell_Cells) (T3 := T_int) hR hx) (by rintro s x s' ⟨⟨_, rfl⟩, _⟩; rfl)
   (fun j Rs => j <= (wl g xs i).length /\ Rs = cellR k5 [I i] T_int :: cellR c4 [ptr c] T_p_cell_Cells :: cellR n3 [ptr r] T_p_net_Net :: cellR k6 [I i] T_int :: marksR m :: cellR f5 [ptr b] T_p_bits_Rows :: cellR b (bitCs M g.arcs.length s) T_bits_Rows :: slR encB8 1 T_uint8 s (setRow (flagsK g xs M i) (longB g.arcs.length) i ((wl g xs i).take j)) :: []) (fun _ => False) (fun _ _ => False) ⟨Nat.zero_le _, rfl⟩ ?_ ?_ ?_ (fun _ _ h => h.elim) (fun _ _ _ h => h.elim)
  ·rintro j Rs h' ⟨_, rfl⟩ o'
   exact ⟨o'.get 2 rfl, o'.get 1 rfl, o'.get 0 rfl, hC.more o'.ext, hN.more o'.ext⟩
  ·rintro M' j x j' Rs Pr h' R ⟨⟨hj, rfl⟩, rfl⟩ ⟨_, rfl⟩ o' hN' _ _
   dsimp only [valsOf]
   unfold sh_flag_Of_B2
   refine o'.begin 0 rfl fun h11 o11 => ?_
   have o11 : Own h h11 (loopR _ _ :: markR _ :: cellR k5 [I i] T_int :: cellR c4 [ptr c] T_p_cell_Cells :: cellR n3 [ptr r] T_p_net_Net :: cellR k6 [I i] T_int :: marksR m :: cellR f5 [ptr b] T_p_bits_Rows :: cellR b (bitCs M g.arcs.length s) T_bits_Rows :: slR encB8 1 T_uint8 s (setRow (flagsK g xs M i) (longB g.arcs.length) i ((wl g xs i).take j)) :: ([] ++ Pr)) := o11
   refine o11.load 7 rfl rfl (o11.load 5 rfl rfl ?_)
   refine bset_ok o11 8 9 (by decide) rfl rfl hlt (wl_lt (List.getElem_mem hj)) (by omega) (by rw [setRow_len, flagsK_len]) fun h12 o12 => ?_
   refine hN' _ h12 ⟨by omega, rfl⟩ ?_
   have e : setRow (flagsK g xs M i) (longB g.arcs.length) i ((wl g xs i).take (j + 1)) = setB (setRow (flagsK g xs M i) (longB g.arcs.length) i ((wl g xs i).take j)) (longB g.arcs.length) i (wl g xs i)[j] := by
    unfold setRow
    rw [List.take_succ_eq_append_getElem hj, List.foldl_append]; rfl
   rw [e]
   exact o12
  ·rintro j h' Rs hj ⟨_, rfl⟩ o'
   subst hj
   rw [List.take_length, <- flagsK_succ] at o'
   rw [pBin_add, wI i (by omega)]
   have o'' := o'.addMark 4 rfl
   refine hZ (_, (I (i + 1 : Nat), ())) h' hlt ⟨rfl, o''.sel [4, 5, 6, 7] (by decide)⟩
 ·have : i = M := by omega
  subst this
  refine o5.load 1 rfl rfl (o5.take 0 rfl fun h6 o6 => ?_)
  exact hK b s h6 (o0.frame (o6.sel [2, 3] (by decide)))

end
open Go Go.Mh

section
variable {h0 h : Heap} {L : List Res} {K : Value -> Heap -> Prop} {g : G} {r n1 : Nat} {xs : List Int}

theorem shape_ok {cells : Nat} (h1 : 1 <= cells) (h2 : cells <= 256) (hK : ∀ rows, Shp cells rows -> K (.tuple #[I rows, I (cells / rows : Nat)]) h) : callS Tryz.prog F_grid_Shape [I cells] h K := by
 refine callS_of (lk_grid_Shape _ ?_)
 unfold sh_grid_Shape
 rw [pBin_lss, decide_eq_false (by omega), ifV_false, pBin_gtr, decide_eq_false (by omega), ifV_false]
 refine LoopH_count 255 (fun i x h' => x.1 = I (i + 1 : Nat) /\ h' = h /\ (i + 1) * (i + 1) <= cells) ⟨rfl, rfl, h1⟩ ?_
 rintro i ⟨x, ⟨⟩⟩ h' Z hi ⟨hx, rfl, hle⟩ hZ
 dsimp only at hx hZ ⊢
 subst hx
 unfold sh_grid_Shape_L2
 have hi' : i + 1 <= 256 := by
  have := Nat.mul_le_mul_right (i + 1) (show 1 <= i + 1 by omega)
  omega
 have hsq : (i + 1 + 1) * (i + 1 + 1) <= 257 * 257 := Nat.mul_le_mul (by omega) (by omega)
 rw [pBin_add, wI (i + 1) (by omega), pBin_add, wI (i + 1) (by omega), pBin_mul]
 have em : ((i + 1 + 1 : Nat) : Int) * ((i + 1 + 1 : Nat) : Int) = (((i + 1 + 1) * (i + 1 + 1) : Nat) : Int) := by rw [Int.natCast_mul]
 rw [em, w64 (by omega) (by omega), pBin_leq, ifV_dec]
 refine ⟨fun hc => ?_, fun hc => ?_⟩
 ·rw [pBin_add, wI (i + 1) (by omega)]
  have hlt : i < 255 := by
   by_cases e : 255 <= i
   ·have := Nat.mul_le_mul (show 257 <= i + 1 + 1 by omega) (show 257 <= i + 1 + 1 by omega); omega
   ·omega
  exact hZ (I (i + 1 + 1 : Nat), ()) _ hlt ⟨rfl, rfl, by omega⟩
 ·rw [pBin_quo]
  refine ⟨by omega, ?_⟩
  have e3 : (cells : Int).tdiv ((i + 1 : Nat) : Int) = ((cells / (i + 1) : Nat) : Int) := by rw [Int.tdiv_eq_ediv_of_nonneg (by omega)]; exact (Int.natCast_ediv cells (i + 1)).symm
  have h4 : cells / (i + 1) <= cells := Nat.div_le_self _ _
  rw [e3]
  have h5 := hK (i + 1) ⟨by omega, hle, by omega⟩
  generalize cells / (i + 1) = q at h4 h5
  rw [w64 (by omega) (by omega)]
  exact h5

theorem places_iter {T : TypeId} (hR : g.Right) : Iter Tryz.prog (.func (.func F_grid_places_1) #[] #[ptr n1]) (fun h => h[n1]? = some (.cells #[ptr r] T (0, 0)) /\ NetR h r g) g.n (fun i _ => [I (g.X.getD i 0), I (g.Y.getD i 0)]) := by
 rintro yv h0 h Rs K J E ⟨l, rfl⟩ o j0 hQ hY hK
 refine callF_of (l := [yieldV l, ptr n1]) rfl (lk_grid_places_1 _ _ ?_)
 unfold sh_grid_places_1
 have hmost := hR.most
 obtain ⟨hb, hN⟩ := hQ _ _ _ j0 o
 have hc : hcell h ⟨n1, 0, none⟩ = some (ptr r) := hcell_of hb rfl
 refine pLoad_of rfl hc (nodes_ok hN ?_)
 refine LoopH_count g.n (fun i x h' => x.1 = I i /\ ∃ Rs', J i Rs' /\ Own h0 h' Rs') ⟨rfl, Rs, j0, o⟩ ?_
 rintro i ⟨x, ⟨⟩⟩ h Z hi ⟨hx, Rs', hj, o⟩ hZ
 dsimp only at hx hZ ⊢
 subst hx
 unfold sh_grid_places_1_L1
 simp only [pBin_lss, ifV_dec]
 refine ⟨fun hlt => ?_, fun hge => ?_⟩
 ·have hlt : i < g.n := by omega
  obtain ⟨hb', hN'⟩ := hQ _ _ _ hj o
  have hc : hcell h ⟨n1, 0, none⟩ = some (ptr r) := hcell_of hb' rfl
  refine pLoad_of rfl hc (place_ok hR hN' hlt ?_)
  simp only [pExt0, pExt1, pExt2]
  refine hY i _ (i + 1) Rs' [] h _ ⟨⟨hlt, rfl⟩, rfl⟩ hj o.nilTail (fun Rs'' h'' hj' o' => ?_) fun Rs'' h'' he o' => ?_
  ·rw [pUn_not, Bool.not_true, ifV_false, pBin_add, wI i (by omega)]
   exact hZ (I (i + 1 : Nat), ()) h'' hlt ⟨rfl, Rs'', hj', o'.toNil⟩
  ·rw [pUn_not, Bool.not_false, ifV_true]
   exact hK _ _ (.inr he) o'.toNil
 ·have : i = g.n := by omega
  exact hK _ _ (.inl ⟨i, this, hj⟩) o

def endsV (e : EndsE) : Value := .agg #[I e.lo, I e.hi, .bool e.any]
def endsC (e : EndsE) : List Value := [I e.lo, I e.hi, .bool e.any]

theorem with_ok {e : EndsE} {x : Int} (hK : ∀ h', Ext h h' -> K (endsV (withE e x)) h') : callS Tryz.prog F_grid_with_int64 [endsV e, I x] h K := by
 refine callS_of (lk_grid_with_int64 _ _ ?_)
 unfold sh_grid_with_int64
 refine (Own.start h).box fun e2 h1 o1 => o1.box fun t4 h2 o2 => ?_
 have o2 : Own h h2 [cellR t4 [I 0, I 0, .bool false] T_grid_ends_int64, cellR e2 (endsC e) T_grid_ends_int64] := o2
 simp only [pField_ptr, Nat.zero_add]
 refine o2.load 1 rfl rfl ?_
 rw [pUn_not]
 have fin : ∀ e' : EndsE, withE e x = e' -> pStore 3 (ptr t4) (endsV e') h2 fun u h_3 => pLoadN 3 h_3 (ptr t4) fun res => K res h_3 := fun e' he => by
  subst he
  refine o2.st (l := endsC (withE e x)) (cs' := endsC (withE e x)) 0 rfl rfl rfl rfl rfl ?_ fun h3 o3 => o3.ldN (cs' := endsC (withE e x)) 0 rfl rfl rfl (hK h3 o3.ext)
  intro u hu
  simp [endsC] at hu
  rcases hu with rfl | rfl | rfl <;> rfl
 cases ha : e.any with
 | false =>
  rw [Bool.not_false, ifV_true]
  refine pBuild_ones (cs' := endsC ⟨x, x, true⟩) (by intro p hp; simp at hp; rcases hp with rfl | rfl | rfl <;> rfl) rfl rfl (fin ⟨x, x, true⟩ ?_)
  unfold withE; rw [ha]; rfl
 | true =>
  rw [Bool.not_true, ifV_false]
  have o2' : Own h h2 [cellR t4 [I 0, I 0, .bool false] T_grid_ends_int64, cellR e2 (endsC e) T_grid_ends_int64] := o2
  refine o2'.load 1 rfl rfl ?_
  rw [pMin_int]
  refine o2'.load 1 rfl rfl ?_
  rw [pMax_int]
  refine pBuild_ones (cs' := endsC ⟨min e.lo x, max e.hi x, true⟩) (by intro p hp; simp at hp; rcases hp with rfl | rfl | rfl <;> rfl) rfl ?_ (fin ⟨min e.lo x, max e.hi x, true⟩ ?_)
  ·show [I (if x < e.lo then x else e.lo), I (if x > e.hi then x else e.hi), Value.bool true] = [I (min e.lo x), I (max e.hi x), Value.bool true]
   rw [show (if x < e.lo then x else e.lo) = min e.lo x by rw [Int.min_def]; split <;> split <;> omega, show (if x > e.hi then x else e.hi) = max e.hi x by rw [Int.max_def]; split <;> split <;> omega]
  ·unfold withE; rw [ha]; rfl

def partV (ea ma wa : Nat) : Value := .func (.func F_grid_parts_1) #[] #[ptr ea, ptr ma, ptr wa]
def partR (ea ma wa : Nat) (e : EndsE) (many : Nat) : Res := sepR [cellR wa [I (e.hi - e.lo + 1)] T_int64, cellR ma [I many] T_int, cellR ea (endsC e) T_grid_ends_int64]

theorem gparts_ok {e : EndsE} {many : Nat} (o : Own h0 h L) (h1 : -2147483648 <= e.lo) (h2 : e.hi <= 2147483647) (h3 : e.lo <= e.hi) (hK : ∀ ea ma wa h', Own h0 h' (partR ea ma wa e many :: L) -> K (partV ea ma wa) h') : callS Tryz.prog F_grid_parts [endsV e, I many] h K := by
 refine callS_of (lk_grid_parts _ _ ?_)
 unfold sh_grid_parts
 refine o.box fun ea h1' o1 => o1.box fun ma h2' o2 => ?_
 have o2 : Own h0 h2' (cellR ma [I many] T_int :: cellR ea (endsC e) T_grid_ends_int64 :: L) := o2
 simp only [pField_ptr, Nat.zero_add]
 refine o2.load 1 rfl rfl (o2.load 1 rfl rfl ?_)
 rw [pBin_sub, w64 (by omega) (by omega), pBin_add, w64 (by omega) (by omega)]
 refine o2.box fun wa h3' o3 => o3.st1 0 (cs' := [I (e.hi - e.lo + 1)]) rfl rfl rfl rfl rfl fun h4 o4 => hK ea ma wa h4 (Own.sep (l := [_, _, _]) o4)

theorem gpart_ok {ea ma wa many : Nat} {e : EndsE} {x : Int} (o : Own h0 h L) (p : Nat) (hp : L[p]? = some (partR ea ma wa e many)) (h1 : -2147483648 <= e.lo) (h2 : e.hi <= 2147483647) (h3 : e.lo <= x) (h4 : x <= e.hi) (hm : many <= 256) (hm1 : 1 <= many)
  (hK : K (I (partOf e many x)) h) : callV Tryz.prog (partV ea ma wa) [I x].toArray h K := by
 refine callV_of (l := [I x, ptr ea, ptr ma, ptr wa]) rfl (lk_grid_parts_1 _ _ _ _ ?_)
 unfold sh_grid_parts_1
 obtain ⟨q, _⟩ := o.get p hp
 have q1 := q _ (List.mem_cons_self)
 have q2 := q _ (List.mem_cons_of_mem _ List.mem_cons_self)
 have q3 := q _ (List.mem_cons_of_mem _ (List.mem_cons_of_mem _ List.mem_cons_self))
 have c1 : hcell h ⟨wa, 0, none⟩ = some (I (e.hi - e.lo + 1)) := hcell_of q1 rfl
 have c2 : hcell h ⟨ma, 0, none⟩ = some (I many) := hcell_of q2 rfl
 have c3 : hcell h ⟨ea, 0, none⟩ = some (I e.lo) := hcell_of q3 rfl
 simp only [pField_ptr, pLoad_ptr, Nat.zero_add, c1, c2, c3]
 have hb : 0 <= (x - e.lo) * (many : Int) := Int.mul_nonneg (by omega) (by omega)
 have hb2 : (x - e.lo) * (many : Int) <= 4294967296 * 256 := Int.mul_le_mul (by omega) (by omega) (by omega) (by omega)
 have hp := part_rng h3 h4 hm1
 rw [pBin_sub, w64 (by omega) (by omega), pBin_mul, w64 (by omega) (by omega), pBin_quo]
 refine ⟨by omega, ?_⟩
 rw [Int.tdiv_eq_ediv_of_nonneg hb]
 unfold partOf at hp hK
 rw [w64 (by omega) (by omega)]
 exact hK

end
open Go Go.Mh

section
variable {h0 h : Heap} {L : List Res} {K : Value -> Heap -> Prop} {g : G} {r : Nat}

theorem ends_take {l : List Int} {i : Nat} (hi : i < l.length) : endsOf (l.take (i + 1)) = withE (endsOf (l.take i)) l[i] := by
 unfold endsOf
 rw [List.take_succ_eq_append_getElem hi, List.foldl_append]; rfl
theorem endsC_plain (e : EndsE) : ∀ u ∈ endsC e, Mh.plainCell u = true := by
 intro u hu
 simp [endsC] at hu
 rcases hu with rfl | rfl | rfl <;> rfl

set_option maxHeartbeats 4000000 in
set_option maxRecDepth 100000 in
theorem gmap_ok {cells : Nat} (o0 : Own h0 h L) (hR : g.Right) (hN : NetR h r g) (hc1 : 1 <= cells) (hc2 : cells <= 256)
  (hK : ∀ rows w h', Shp cells rows -> Own h0 h' (slR encI 1 T_int w (gridL g rows (cells / rows)) :: L) -> K w h') : callS Tryz.prog F_grid_Map [ptr r, I cells] h K := by
 refine callS_of (lk_grid_Map _ _ ?_)
 unfold sh_grid_Map
 have hmost := hR.most
 have hpos := hR.pos
 have hxl := hR.x
 have hyl := hR.y
 refine (Own.start h).box fun l4 h1 o1 => ?_
 refine shape_ok hc1 hc2 fun rows hS => ?_
 simp only [pExt0, pExt1]
 have hcol := hS.cols
 have hcl : cells / rows <= cells := Nat.div_le_self _ _
 have hrl : rows <= 256 := by
  have h1 := hS.1
  have h2 := hS.2.1
  have := Nat.mul_le_mul_right rows h1
  omega
 have hr1 := hS.1
 have hKr := fun w h' => hK rows w h' hS
 generalize cells / rows = cols at hcol hKr hcl
 refine o1.box fun c6 h2 o2 => o2.st1 0 (cs' := [I cols]) rfl rfl rfl rfl rfl fun h3 o3 => ?_
 rw [pBin_eql, show ((rows : Int) == 0) = false by simp; omega, ifV_false]
 refine o3.box fun ac h4 o4 => o4.box fun dn h5 o5 => ?_
 refine callS_of (lk_grid_places _ ?_)
 unfold sh_grid_places
 refine o5.box fun n1 h6 o6 => ?_
 have o6 : Own h h6 [cellR n1 [ptr r] T_p_net_Net, cellR dn (endsC (endsOf (g.Y.take 0))) T_grid_ends_int64, cellR ac (endsC (endsOf (g.X.take 0))) T_grid_ends_int64, cellR c6 [I cols] T_int, cellR l4 [.slice none 0 0] T_sl_int] := o6
 refine o6.range (places_iter (r := r) (n1 := n1) (T := T_p_net_Net) hR) (by rintro s x s' ⟨⟨_, rfl⟩, _⟩; rfl)
  (fun i Rs => i <= g.n /\ Rs = [cellR n1 [ptr r] T_p_net_Net, cellR dn (endsC (endsOf (g.Y.take i))) T_grid_ends_int64, cellR ac (endsC (endsOf (g.X.take i))) T_grid_ends_int64, cellR c6 [I cols] T_int, cellR l4 [.slice none 0 0] T_sl_int]) (fun _ => False) (fun _ _ => False) ⟨Nat.zero_le _, rfl⟩ ?_ ?_ ?_ (fun _ _ h => h.elim) (fun _ _ _ h => h.elim)
 ·rintro i Rs h' ⟨_, rfl⟩ o'
  exact ⟨o'.get 0 rfl, hN.more o'.ext⟩
 ·rintro M i x i' Rs Pr h' R ⟨⟨hlt, rfl⟩, rfl⟩ ⟨_, rfl⟩ o' hN' _ _
  dsimp only [valsOf]
  unfold sh_grid_Map_B1
  refine o'.begin 0 rfl fun h10 o10 => ?_
  have o10 : Own h h10 (loopR _ _ :: markR _ :: cellR n1 [ptr r] T_p_net_Net :: cellR dn (endsC (endsOf (g.Y.take i))) T_grid_ends_int64 :: cellR ac (endsC (endsOf (g.X.take i))) T_grid_ends_int64 :: cellR c6 [I cols] T_int :: cellR l4 [.slice none 0 0] T_sl_int :: Pr) := o10
  refine o10.ldN 4 rfl rfl rfl (o10.ldN 3 rfl rfl rfl ?_)
  refine with_ok (e := endsOf (g.X.take i)) fun h11 x11 => ⟨(o10.more x11).ldN 3 rfl rfl rfl rfl, ?_⟩
  refine with_ok (e := endsOf (g.Y.take i)) fun h12 x12 => ?_
  have o12 := (o10.more x11).more x12
  refine o12.st (l := endsC (withE (endsOf (g.X.take i)) (g.X.getD i 0))) (cs' := endsC (withE (endsOf (g.X.take i)) (g.X.getD i 0))) 4 rfl rfl rfl rfl rfl (endsC_plain _) fun h13 o13 => ?_
  refine o13.st (l := endsC (withE (endsOf (g.Y.take i)) (g.Y.getD i 0))) (cs' := endsC (withE (endsOf (g.Y.take i)) (g.Y.getD i 0))) 3 rfl rfl rfl rfl rfl (endsC_plain _) fun h14 o14 => ?_
  rw [getD_at (by omega), getD_at (by omega), <- ends_take (by omega), <- ends_take (by omega)] at o14
  exact hN' _ h14 ⟨by omega, rfl⟩ o14
 rintro i h15 Rs hi ⟨_, rfl⟩ o15
 subst hi
 rw [List.take_of_length_le (by omega), List.take_of_length_le (by omega)] at o15
 have hxne : g.X ≠ [] := fun e => by rw [e] at hxl; simp at hxl; omega
 have hyne : g.Y ≠ [] := fun e => by rw [e] at hyl; simp at hyl; omega
 obtain ⟨bx1, bx2, bx3, bx4⟩ := ends_of hR.xr hxne
 obtain ⟨by1, by2, by3, by4⟩ := ends_of hR.yr hyne
 have hX : ∀ i, i < g.n -> g.X.getD i 0 ∈ g.X := fun i hi => by rw [getD_at (by omega)]; exact List.getElem_mem _
 have hY : ∀ i, i < g.n -> g.Y.getD i 0 ∈ g.Y := fun i hi => by rw [getD_at (by omega)]; exact List.getElem_mem _
 have hg : ∀ rows cols, gridL g rows cols = (List.range g.n).map fun v => partOf (endsOf g.Y) rows (g.Y.getD v 0) * cols + partOf (endsOf g.X) cols (g.X.getD v 0) := fun _ _ => rfl
 rw [hg] at hKr
 generalize endsOf g.X = ex at o15 bx1 bx2 bx3 bx4 hKr
 generalize endsOf g.Y = ey at o15 by1 by2 by3 by4 hKr
 have lx : ∀ {h' : Heap} {K : Value -> Prop}, Ext h15 h' -> K (endsV ex) -> pLoadN 3 h' (ptr ac) K := fun x hk => (o15.more x).ldN 3 rfl rfl rfl hk
 have ly : ∀ {h' : Heap} {K : Value -> Prop}, Ext h15 h' -> K (endsV ey) -> pLoadN 3 h' (ptr dn) K := fun x hk => (o15.more x).ldN 2 rfl rfl rfl hk
 refine cutP_of (fun y h' => ∃ col row ea ma wa eb mb wb, y = (ptr col, (ptr row, ())) /\ Own h15 h' [cellR row [partV eb mb wb] T_func_int64_int, cellR col [partV ea ma wa] T_func_int64_int, partR eb mb wb ey rows, partR ea ma wa ex cols]) (fun J hJ => ?_) ?_
 ·have o := Own.start h15
  refine lx (.refl _ _) ((o15.load 4 rfl rfl) (ly (.refl _ _) ?_))
  repeat' (first
   | refine gparts_ok o bx1 bx2 bx3 fun ea ma wa hh o => ?_
   | refine gparts_ok o by1 by2 by3 fun eb mb wb hh o => ?_
   | refine o.box fun col hh o => ?_
   | refine o.st1 0 (cs' := [partV _ _ _]) rfl rfl rfl rfl rfl fun hh o => ?_
   | refine o.st1 1 (cs' := [partV _ _ _]) rfl rfl rfl rfl rfl fun hh o => ?_
   | refine o.st1 2 (cs' := [partV _ _ _]) rfl rfl rfl rfl rfl fun hh o => ?_
   | refine o.st1 3 (cs' := [partV _ _ _]) rfl rfl rfl rfl rfl fun hh o => ?_
   | exact ly o.ext rfl
   | exact hJ _ _ ⟨_, _, _, _, _, _, _, _, rfl, o.sel [0, 1, 2, 3] (by decide)⟩
   | exact hJ _ _ ⟨_, _, _, _, _, _, _, _, rfl, o.sel [1, 0, 2, 3] (by decide)⟩
   | exact hJ _ _ ⟨_, _, _, _, _, _, _, _, rfl, o.sel [0, 2, 1, 3] (by decide)⟩
   | exact hJ _ _ ⟨_, _, _, _, _, _, _, _, rfl, o.sel [2, 0, 1, 3] (by decide)⟩
   | exact hJ _ _ ⟨_, _, _, _, _, _, _, _, rfl, o.sel [1, 2, 0, 3] (by decide)⟩
   | exact hJ _ _ ⟨_, _, _, _, _, _, _, _, rfl, o.sel [2, 1, 0, 3] (by decide)⟩
   | exact hJ _ _ ⟨_, _, _, _, _, _, _, _, rfl, o.sel [0, 3, 1, 2] (by decide)⟩
   | exact hJ _ _ ⟨_, _, _, _, _, _, _, _, rfl, o.sel [3, 0, 1, 2] (by decide)⟩
   | exact hJ _ _ ⟨_, _, _, _, _, _, _, _, rfl, o.sel [1, 3, 0, 2] (by decide)⟩
   | exact hJ _ _ ⟨_, _, _, _, _, _, _, _, rfl, o.sel [3, 1, 0, 2] (by decide)⟩
   | exact hJ _ _ ⟨_, _, _, _, _, _, _, _, rfl, o.sel [2, 3, 0, 1] (by decide)⟩
   | exact hJ _ _ ⟨_, _, _, _, _, _, _, _, rfl, o.sel [3, 2, 0, 1] (by decide)⟩
   | with_reducible apply And.intro)
 rintro ⟨y, z, ⟨⟩⟩ h74 ⟨col, row, ea, ma, wa, eb, mb, wb, e, oc⟩
 injection e with e1 e2
 injection e2 with e2 _
 dsimp only
 subst e1 e2
 unfold sh_grid_Map_C2
 have oq := (o15.frame oc).noMarks
 have oq := Own.addMark (j := 0) (oq.sel [5, 0, 1, 2, 3, 4, 6, 7, 8, 9, 10] (by decide)) rfl
 refine callS_of (lk_grid_places _ ?_)
 unfold sh_grid_places
 refine oq.box fun n2 h75 o75 => ?_
 have o75 : Own h h75 (slR encI 1 T_int (.slice none 0 0) (((List.range g.n).map fun v => partOf ey rows (g.Y.getD v 0) * cols + partOf ex cols (g.X.getD v 0)).take 0) :: cellR n2 [ptr r] T_p_net_Net :: marksR [h6.size] :: cellR row [partV eb mb wb] T_func_int64_int :: cellR col [partV ea ma wa] T_func_int64_int :: partR eb mb wb ey rows :: partR ea ma wa ex cols :: cellR n1 [ptr r] T_p_net_Net :: cellR dn (endsC ey) T_grid_ends_int64 :: cellR ac (endsC ex) T_grid_ends_int64 :: cellR c6 [I cols] T_int :: cellR l4 [.slice none 0 0] T_sl_int :: []) := Own.nilS (enc := encI) (n := 1) (T := T_int) o75
 refine o75.range (places_iter (r := r) (n1 := n2) (T := T_p_net_Net) hR) (by rintro s x s' ⟨⟨_, rfl⟩, _⟩; rfl)
  (fun i Rs => i <= g.n /\ ∃ w, Rs = slR encI 1 T_int w (((List.range g.n).map fun v => partOf ey rows (g.Y.getD v 0) * cols + partOf ex cols (g.X.getD v 0)).take i) :: cellR n2 [ptr r] T_p_net_Net :: marksR [h6.size] :: cellR row [partV eb mb wb] T_func_int64_int :: cellR col [partV ea ma wa] T_func_int64_int :: partR eb mb wb ey rows :: partR ea ma wa ex cols :: cellR n1 [ptr r] T_p_net_Net :: cellR dn (endsC ey) T_grid_ends_int64 :: cellR ac (endsC ex) T_grid_ends_int64 :: cellR c6 [I cols] T_int :: cellR l4 [w] T_sl_int :: []) (fun _ => False) (fun _ _ => False) ⟨Nat.zero_le _, _, rfl⟩ ?_ ?_ ?_ (fun _ _ h => h.elim) (fun _ _ _ h => h.elim)
 ·rintro i Rs h' ⟨_, w, rfl⟩ o'
  exact ⟨o'.get 1 rfl, hN.more o'.ext⟩
 ·rintro M i x i' Rs Pr h' R ⟨⟨hlt, rfl⟩, rfl⟩ ⟨_, w, rfl⟩ o' hN' _ _
  dsimp only [valsOf]
  unfold sh_grid_Map_B3
  refine o'.begin 0 rfl fun h10 o10 => ?_
  have o10 : Own h h10 (loopR _ _ :: markR _ :: slR encI 1 T_int w (((List.range g.n).map fun v => partOf ey rows (g.Y.getD v 0) * cols + partOf ex cols (g.X.getD v 0)).take i) :: cellR n2 [ptr r] T_p_net_Net :: marksR [h6.size] :: cellR row [partV eb mb wb] T_func_int64_int :: cellR col [partV ea ma wa] T_func_int64_int :: partR eb mb wb ey rows :: partR ea ma wa ex cols :: cellR n1 [ptr r] T_p_net_Net :: cellR dn (endsC ey) T_grid_ends_int64 :: cellR ac (endsC ex) T_grid_ends_int64 :: cellR c6 [I cols] T_int :: cellR l4 [w] T_sl_int :: ([] ++ Pr)) := o10
  have ix := bx4 _ (hX i hlt)
  have iy := by4 _ (hY i hlt)
  refine o10.load 13 rfl rfl (o10.load 5 rfl rfl (o10.load 12 rfl rfl (o10.load 6 rfl rfl ?_)))
  refine gpart_ok o10 7 rfl by1 by2 iy.1 iy.2 hrl hr1 ⟨o10.load 13 rfl rfl rfl, o10.load 12 rfl rfl rfl, o10.load 6 rfl rfl rfl, ?_⟩
  have p1 := part_rng iy.1 iy.2 hr1
  have p2 := part_rng ix.1 ix.2 hcol.1
  have hm : partOf ey rows (g.Y.getD i 0) * (cols : Int) <= 256 * 256 := Int.mul_le_mul (by omega) (by omega) (by omega) (by omega)
  have hm0 : 0 <= partOf ey rows (g.Y.getD i 0) * (cols : Int) := Int.mul_nonneg p1.1 (by omega)
  rw [pBin_mul, w64 (by omega) (by omega)]
  refine gpart_ok o10 8 rfl bx1 bx2 ix.1 ix.2 (by omega) hcol.1 ⟨o10.load 13 rfl rfl rfl, o10.load 12 rfl rfl rfl, ?_⟩
  rw [pBin_add, w64 (by omega) (by omega)]
  refine o10.app1 2 (partOf ey rows (g.Y.getD i 0) * (cols : Int) + partOf ex cols (g.X.getD i 0)) rfl rfl (sizesOk_of rfl) (fun _ => rfl) encI_plain rfl (by decide) (by rw [List.length_take]; omega) fun w' h5 o5 => ?_
  have hw' := o5.vw 2 rfl
  refine o5.st1 13 (cs' := [w']) rfl rfl rfl hw'.one hw'.plain fun h6 o6 => ?_
  refine hN' _ h6 ⟨by omega, w', rfl⟩ ?_
  rw [List.take_succ_eq_append_getElem (by simpa using hlt)]
  simp only [List.getElem_map, List.getElem_range]
  exact o6
 ·rintro i h' Rs hi ⟨_, w, rfl⟩ o'
  subst hi
  rw [List.take_of_length_le (by simp)] at o'
  have hw' := o'.vw 1 rfl
  refine o'.load 12 rfl rfl (o'.st1 12 (cs' := [w]) rfl rfl rfl hw'.one hw'.plain fun h6 o6 => ?_)
  refine Own.takeC o6 2 rfl fun h7 o7 => o7.load 11 rfl rfl ?_
  exact hKr w h7 (o0.frame (o7.sel [0] (by decide)))

end
open Go Go.Mh

section
variable {h0 h : Heap} {L : List Res} {K : Value -> Heap -> Prop} {g : G} {r : Nat} {a b : Int}

theorem maxE16 {a b : Int} : (if b > a then b else a) = max a b := by split <;> omega

theorem dlow_ok (h0 : 0 <= a) (h1 : a <= far) (h2 : 0 <= b) (h3 : b <= far) (hK : ∀ h', Ext h h' -> K (I (lessI a b)) h') : callS Tryz.prog F_dist_Low [I a, I b] h K := by
 have hf : far = 72057594037927936 := rfl
 refine callS_of (lk_dist_Low _ _ ?_)
 unfold sh_dist_Low
 refine wayS_ok fun h1' x1 => wayS_ok fun h2' x2 => ?_
 rw [kept_in h0 h1, kept_in h2 h3]
 have x12 := x1.trans x2 fun _ h _ => h
 unfold lessI at hK
 refine dfin_ok h2 h3 fun h3' x3 => ?_
 have x13 := x12.trans x3 fun _ h _ => h
 rw [pUn_not]
 by_cases c1 : far <= b
 ·rw [show decide (b < far) = false from decide_eq_false (by omega), Bool.not_false, ifV_true]
  rw [if_pos c1] at hK
  exact hK _ x13
 ·rw [show decide (b < far) = true from decide_eq_true (by omega), Bool.not_true, ifV_false]
  rw [if_neg c1] at hK
  refine dfin_ok h0 h1 fun h4' x4 => ?_
  have x14 := x13.trans x4 fun _ h _ => h
  rw [pUn_not]
  by_cases c2 : far <= a
  ·rw [show decide (a < far) = false from decide_eq_false (by omega), Bool.not_false, ifV_true]
   rw [if_pos c2] at hK
   exact hK _ x14
  ·rw [show decide (a < far) = true from decide_eq_true (by omega), Bool.not_true, ifV_false]
   rw [if_neg c2] at hK
   rw [pBin_sub, w64 (by omega) (by omega)]
   refine wayS_ok fun h5' x5 => ?_
   have := hK _ (x14.trans x5 fun _ h _ => h)
   rw [show kept (a - b) = if 0 < a - b then a - b else 0 by unfold kept; split <;> omega]
   exact this

theorem dlift_ok (h0 : 0 <= a) (h1 : a <= far) (h2 : 0 <= b) (h3 : b <= far) (hK : ∀ h', Ext h h' -> K (I (lessI b a)) h') : callS Tryz.prog F_dist_Lift [I a, I b] h K := by
 refine callS_of (lk_dist_Lift _ _ ?_)
 unfold sh_dist_Lift
 exact dlow_ok h2 h3 h0 h1 hK

theorem betwS_ok {l g : Nat} {T1 T2 : TypeId} (h1 : h[l]? = some (.cells #[I 0] T1 (0, 0))) (h2 : h[g]? = some (.cells #[I 2305843009213693952] T2 (0, 0))) (hK : K (I (keepS a)) h) :
  callV Tryz.prog (.func (.func F_dist_between_int64_1) #[] #[ptr l, ptr g]) [I a].toArray h K := by
 refine callV_of (l := [I a, ptr l, ptr g]) rfl (lk_dist_between_int64_1 _ _ _ ?_)
 unfold sh_dist_between_int64_1
 have c0 : hcell h ⟨l, 0, none⟩ = some (I 0) := hcell_of h1 rfl
 have c1 : hcell h ⟨g, 0, none⟩ = some (I 2305843009213693952) := hcell_of h2 rfl
 simp only [pLoad_ptr, c0, c1, pMax_int, pMin_int]
 have e : (if 2305843009213693952 < (if (0 : Int) > a then 0 else a) then 2305843009213693952 else (if (0 : Int) > a then 0 else a)) = keepS a := by
  unfold keepS mostS; split <;> split <;> omega
 rw [e]; exact hK

theorem dsat_ok (ha : -4611686018427387904 <= a) (ha2 : a <= 4611686018427387904) (hK : ∀ h', Ext h h' -> K (I (satI a b)) h') : callS Tryz.prog F_dist_Sat [I a, I b] h K := by
 refine callS_of (lk_dist_Sat _ _ ?_)
 unfold sh_dist_Sat
 refine callS_of (lk_dist_between_int64 _ _ ?_)
 unfold sh_dist_between_int64
 refine (Own.start h).box fun l h1 o1 => o1.box fun g h2 o2 => ?_
 refine o2.build (enc := encI) (n := 1) [a, b] rfl (sizesOk_of rfl) rfl fun w h4 o4 => ?_
 refine callS_of (lk_dist_folded _ _ ?_)
 unfold sh_dist_folded
 refine (o4.vw 0 rfl).len ?_
 have hkr : ∀ x, 0 <= keepS x /\ keepS x <= 2305843009213693952 := fun x => by unfold keepS mostS; omega
 refine LoopH_count 2 (fun i x h' => x.2.1 = I i /\ x.1 = I (if i = 0 then 0 else if i = 1 then keepS (0 + keepS a) else satI a b) /\ Own h h' [slR encI 1 T_int64 w [a, b], cellR g [I 2305843009213693952] T_int64, cellR l [I 0] T_int64]) ⟨rfl, rfl, o4⟩ ?_
 rintro i ⟨sm, x, ⟨⟩⟩ h' Z hi ⟨hx, hsm, o⟩ hZ
 dsimp only at hx hsm hZ ⊢
 subst hx hsm
 unfold sh_dist_folded_L1
 simp only [pBin_lss, ifV_dec]
 refine ⟨fun hlt => ?_, fun hge => ?_⟩
 ·have hlt : i < 2 := by simp at hlt; omega
  refine (o.vw 0 rfl).atI (by simpa using hlt) ?_
  refine betwS_ok (o.get 2 rfl) (o.get 1 rfl) ?_
  rcases (show i = 0 \/ i = 1 by omega) with rfl | rfl
  ·have := hkr a
   rw [show ([a, b] : List Int)[0] = a from rfl, pBin_add, w64 (by simp; omega) (by simp; omega)]
   refine betwS_ok (o.get 2 rfl) (o.get 1 rfl) ?_
   rw [pBin_add, wI 0 (by omega)]
   exact hZ (_, (I 1, ())) h' (by omega) ⟨rfl, rfl, o⟩
  ·have h1 := hkr b
   have h2 := hkr (0 + keepS a)
   rw [show ([a, b] : List Int)[1] = b from rfl, show (if (1 : Nat) = 0 then (0 : Int) else if (1 : Nat) = 1 then keepS (0 + keepS a) else satI a b) = keepS (0 + keepS a) from rfl, pBin_add, w64 (by omega) (by omega)]
   refine betwS_ok (o.get 2 rfl) (o.get 1 rfl) ?_
   rw [pBin_add, wI 1 (by omega)]
   exact hZ (_, (I 2, ())) h' (by omega) ⟨rfl, rfl, o⟩
 ·have : i = 2 := by
   have : ([a, b] : List Int).length = 2 := rfl
   omega
  subst this
  exact hK _ o.ext

structure MV where
 node : Nat
 sd : Value
 sa : Value
 so : Value
 fd : Value
 fa : Value
 fo : Value
 pl : ∀ u ∈ [sd, sa, so, fd, fa, fo], Mh.plainCell u = true

def encM (m : MV) : List Value := [I m.node, m.sd, m.sa, m.so, m.fd, m.fa, m.fo]
theorem encM_len (m : MV) : (encM m).length = 7 := rfl
theorem encM_plain (m : MV) : ∀ u ∈ encM m, Mh.plainCell u = true := fun u hu => by
 rcases List.mem_cons.1 hu with rfl | hu
 ·rfl
 ·exact m.pl u hu

def markL (g : G) (ms : List MV) : List Res := ms.flatMap fun m => [xR m.sd (g.to m.node).dist, xR m.fd (g.from m.node).dist]
def MkV (g : G) (h : Heap) (m : MV) : Prop := m.node < g.n /\ Vw encI 1 h m.sd (g.to m.node).dist /\ Vw encI 1 h m.fd (g.from m.node).dist
theorem MkV.more {h' : Heap} {m : MV} (H : MkV g h m) (x : Ext h h') : MkV g h' m := ⟨H.1, H.2.1.more x, H.2.2.more x⟩
theorem there_ok {z : Int} (H : NetR h r g) (hK : K (.bool (decide (0 <= z /\ z < g.n))) h) : callS Tryz.prog F_avoid_there [ptr r, I z] h K := by
 refine callS_of (lk_avoid_there _ _ ?_)
 unfold sh_avoid_there
 rw [pNe_ptr_nil, Option.isSome_some, ifV_true, pBin_geq, ifV_dec]
 refine ⟨fun h1 => nodes_ok H ?_, fun h1 => ?_⟩
 ·rw [pBin_lss, show decide (z < g.n) = decide (0 <= z /\ z < g.n) by rw [decide_eq_decide]; exact ⟨fun h => ⟨h1, h⟩, fun h => h.2⟩]
  exact hK
 ·rw [show decide (0 <= z /\ z < g.n) = false from decide_eq_false fun h => h1 h.1] at hK
  exact hK

theorem bound_ok {ms : List MV} {vl : Value} {r v : Nat} (hR : g.Right) (HM : ∀ m ∈ ms, MkV g h m) (Hl : Vw encM 7 h vl ms) (hl : ms.length < 2 ^ 40) (hr : r < g.n) (hv : v < g.n) (hK : ∀ h', Ext h h' -> K (I (bnd g (ms.map MV.node) r v)) h') :
  callS Tryz.prog F_avoid_bound [vl, I r, I v] h K := by
 refine callS_of (lk_avoid_bound _ _ _ ?_)
 unfold sh_avoid_bound
 refine Hl.len ?_
 refine LoopH_count ms.length (fun i x h' => x.1 = I (bnd g ((ms.take i).map MV.node) r v) /\ x.2.1 = I i /\ Ext h h') ⟨rfl, rfl, (Own.start h).ext⟩ ?_
 rintro i ⟨x, y, ⟨⟩⟩ h1 Z hi ⟨hx, hy, x1⟩ hZ
 dsimp only at hx hy hZ ⊢
 subst hx hy
 unfold sh_avoid_bound_L1
 rw [pBin_lss, ifV_dec]
 refine ⟨fun hlt => ?_, fun hge => ?_⟩
 ·have hlt : i < ms.length := by omega
  refine (Hl.more x1).atN encM_len hlt ?_
  obtain ⟨hm, V1, V2⟩ := (HM _ (List.getElem_mem hlt)).more x1
  have tk : (ms.take (i + 1)).map MV.node = (ms.take i).map MV.node ++ [ms[i].node] := by rw [List.take_succ_eq_append_getElem hlt, List.map_append]; rfl
  rw [tk] at hZ
  generalize ms[i] = m at hm V1 V2 hZ
  have T1 := to_tree hR hm
  have T2 := from_tree hR hm
  have l1 := T1.ls.len
  have l2 := T2.ls.len
  have hr1 : r < (g.to m.node).dist.length := by rw [l1]; exact hr
  have hv1 : v < (g.to m.node).dist.length := by rw [l1]; exact hv
  have hr2 : r < (g.from m.node).dist.length := by rw [l2]; exact hr
  have hv2 : v < (g.from m.node).dist.length := by rw [l2]; exact hv
  refine (Own.start h1).box fun m8 h2 o2 => o2.st (l := encM m) (cs' := encM m) 0 rfl rfl rfl rfl rfl (encM_plain m) fun h3 o3 => ?_
  have o3 : Own h1 h3 [cellR m8 (encM m) T_avoid_mark] := o3
  replace V1 := V1.more o3.ext
  replace V2 := V2.more o3.ext
  simp only [pField_ptr]
  refine o3.load 0 rfl rfl (V1.atI hr1 (o3.load 0 rfl rfl (V1.atI hv1 ?_)))
  refine o3.load 0 rfl rfl (V2.idxI hr2 fun b1 f1 c1 => pLoad_of rfl c1 (o3.load 0 rfl rfl (V2.idxI hv2 fun b2 f2 c2 => pLoad_of rfl c2 ?_)))
  rw [dAt_get hr1, dAt_get hv1]
  rw [dAt_get hr2] at c1
  rw [dAt_get hv2] at c2
  rw [dAt_get hr2, dAt_get hv2]
  refine dlow_ok (T1.ls.nonneg hr) (T1.ls.far_le hr) (T1.ls.nonneg hv) (T1.ls.far_le hv) fun h4 x4 => ?_
  have o4 := o3.more x4
  refine ⟨o4.load 0 rfl rfl rfl, pLoad_of rfl (hcell_more x4 c1) rfl, o4.load 0 rfl rfl rfl, pLoad_of rfl (hcell_more x4 c2) rfl, ?_⟩
  refine dlift_ok (T2.ls.nonneg hr) (T2.ls.far_le hr) (T2.ls.nonneg hv) (T2.ls.far_le hv) fun h5 x5 => ?_
  rw [pMax_int, pMax_int, maxE16, maxE16, pBin_add, wI i (by omega)]
  refine hZ (_, _, ()) h5 hlt ⟨?_, rfl, x1.trans (o4.more x5).ext fun _ h _ => h⟩
  rw [bnd_snoc]
  rfl
 ·have : i = ms.length := by omega
  subst this
  rw [List.take_length]
  exact hK _ x1

theorem marks_ok {l : List Int} {vl : Value} (o : Own h0 h L) (hR : g.Right) (H : NetR h r g) (Hl : Vw encI 1 h vl l) (hl : l.length < 2 ^ 32)
  (hK : ∀ w ms h', ms.map MV.node = mksZ g.n l -> Own h0 h' (slR encM 7 T_avoid_mark w ms :: (markL g ms ++ L)) -> K w h') : callS Tryz.prog F_avoid_marks [ptr r, vl] h K := by
 refine callS_of (lk_avoid_marks _ _ ?_)
 unfold sh_avoid_marks
 refine Hl.len ?_
 refine LoopH_count l.length (fun i x h' => x.2.1 = I i /\ ∃ ms, ms.map MV.node = mksZ g.n (l.take i) /\ Own h h' (slR encM 7 T_avoid_mark x.1 ms :: markL g ms)) ⟨rfl, [], rfl, (Own.start h).nilS⟩ ?_
 rintro i ⟨w, y, ⟨⟩⟩ h1 Z hi ⟨hy, ms, hms, o1⟩ hZ
 dsimp only at hy o1 hZ ⊢
 subst hy
 unfold sh_avoid_marks_L1
 rw [pBin_lss, ifV_dec]
 refine ⟨fun hlt => ?_, fun hge => ?_⟩
 ·have hlt : i < l.length := by omega
  have x1 := o1.ext
  refine (Hl.more x1).atI hlt ?_
  have tk : l.take (i + 1) = l.take i ++ [l[i]] := List.take_succ_eq_append_getElem hlt
  have hml : ms.length <= i := by
   rw [<- List.length_map (f := MV.node), hms]
   unfold mksZ
   rw [List.length_map]
   have := List.length_filter_le (fun (z : Int) => decide (0 <= z /\ z < g.n)) (l.take i)
   rw [List.length_take] at this
   omega
  generalize l[i] = z at tk
  have nxt : ∀ w' ms' h', ms'.map MV.node = mksZ g.n (l.take (i + 1)) -> Own h h' (slR encM 7 T_avoid_mark w' ms' :: markL g ms') -> sh_avoid_marks_k2 Tryz.prog (I i) (fun a0 a1 hz => Z (a0, (a1, ())) hz) w' h' := fun w' ms' h' hm o' => by
   unfold sh_avoid_marks_k2
   rw [pBin_add, wI i (by omega)]
   exact hZ (_, _, ()) h' hlt ⟨rfl, ms', hm, o'⟩
  refine there_ok (H.more x1) ?_
  rw [ifV_dec]
  refine ⟨fun hz => ?_, fun hz => nxt w ms h1 ?_ o1⟩
  ·obtain ⟨m, rfl⟩ : ∃ m : Nat, z = m := Int.eq_ofNat_of_zero_le hz.1
   have hm : m < g.n := by omega
   refine to_ok hR (H.more x1) fun sd sa so h2 o2' => ?_
   have o2 := o1.frame o2'
   clear o2'
   refine from_ok hR (H.more o2.ext) fun fd fa fo h3 o3' => ?_
   have o3 := o2.frame o3'
   clear o2 o3'
   rw [show g.toI m = g.to m by simp [G.toI, hm], show g.fromI m = g.from m by simp [G.fromI, hm]] at o3
   have q0 := (o3.vw 0 rfl).plain
   have q1 := (o3.vw 1 rfl).plain
   have q2 := (o3.vw 2 rfl).plain
   have q3 := (o3.vw 3 rfl).plain
   have q4 := (o3.vw 4 rfl).plain
   have q5 := (o3.vw 5 rfl).plain
   have hp : ∀ u ∈ [sd, sa, so, fd, fa, fo], Mh.plainCell u = true := by
    intro u hu
    simp at hu
    rcases hu with rfl | rfl | rfl | rfl | rfl | rfl <;> assumption
   refine ⟨sizesOk_of rfl, ?_⟩
   refine o3.app1 6 (⟨m, sd, sa, so, fd, fa, fo, hp⟩ : MV) rfl rfl (sizesOk_of rfl) encM_len encM_plain rfl (by decide) (by omega) fun w' h4 o4 => ?_
   refine nxt w' (ms ++ [⟨m, sd, sa, so, fd, fa, fo, hp⟩]) h4 ?_ ?_
   ·rw [List.map_append, hms, tk, mksZ_snoc, if_pos hz]; rfl
   ·have o5 : Own h h4 ([xR sd (g.to m).dist, xR fd (g.from m).dist] ++ (slR encM 7 T_avoid_mark w' (ms ++ [⟨m, sd, sa, so, fd, fa, fo, hp⟩]) :: markL g ms)) := o4.front 6 [3, 0] (by decide) (by decide)
    have o6 := Own.comm o5
    unfold markL at o6 ⊢
    rw [List.flatMap_append]
    exact o6
  ·rw [hms, tk, mksZ_snoc, if_neg hz, List.append_nil]
 ·have : i = l.length := by omega
  subst this
  rw [List.take_length] at hms
  exact hK w ms h1 hms (o.frame o1)

end
open Go Go.Mh

section
variable {h0 h : Heap} {L : List Res} {K : Value -> Heap -> Prop} {g : G} {r : Nat} {vo : Value} {O : List Nat}

def backN (O : List Nat) (i : Nat) (x : List Value) (i' : Nat) : Prop := i < O.length /\ i' = i + 1 /\ ∃ k : Int, x = [I k, I (O.reverse.getD i 0 : Nat)]
def revN (O : List Nat) (i : Nat) (x : List Value) (i' : Nat) : Prop := i < O.length /\ i' = i + 1 /\ x = [I (O.reverse.getD i 0 : Nat)]

theorem rev_at {i : Nat} (h : i < O.length) : O.reverse.getD i 0 = O[O.length - 1 - i]'(by omega) := by
 rw [List.getD_eq_getElem?_getD, List.getElem?_reverse h, List.getElem?_eq_getElem (by omega)]; rfl

theorem back_iter {b : Nat} {T : TypeId} (hl : O.length < 2 ^ 40) : IterG Tryz.prog (.func (.func F_slices_Backward_sl_int_int_1) #[] #[ptr b]) (fun h => h[b]? = some (.cells #[vo] T (0, 0)) /\ Vw encN 1 h vo O) (σ := Nat) 0 (backN O) (fun i => i = O.length) := by
 rintro yv h0 h Rs K J E ⟨l, rfl⟩ o j0 hQ hY hK
 refine callF_of (l := [yieldV l, ptr b]) rfl (lk_slices_Backward_sl_int_int_1 _ _ ?_)
 unfold sh_slices_Backward_sl_int_int_1
 obtain ⟨hb, hv⟩ := hQ _ _ _ j0 o
 have hc : hcell h ⟨b, 0, none⟩ = some vo := hcell_of hb rfl
 refine pLoad_of rfl hc (hv.len ?_)
 rw [pBin_sub, w64 (by omega) (by omega)]
 refine LoopH_count O.length (fun i x h' => x.1 = I ((O.length : Int) - 1 - i) /\ ∃ Rs', J i Rs' /\ Own h0 h' Rs') ⟨by show I _ = I _; congr 1; omega, Rs, j0, o⟩ ?_
 clear hb hv hc o j0
 rintro i ⟨x, ⟨⟩⟩ h Z hi ⟨hx, Rs', hj, o⟩ hZ
 dsimp only at hx hZ ⊢
 subst hx
 unfold sh_slices_Backward_sl_int_int_1_L1
 rw [pBin_geq, ifV_dec]
 refine ⟨fun hlt => ?_, fun hge => ?_⟩
 ·have hlt : i < O.length := by omega
  obtain ⟨hb, hv⟩ := hQ _ _ _ hj o
  have hc : hcell h ⟨b, 0, none⟩ = some vo := hcell_of hb rfl
  refine pLoad_of rfl hc ?_
  rw [show ((O.length : Int) - 1 - i) = ((O.length - 1 - i : Nat) : Int) by omega]
  refine hv.at1 (e := fun (x : Nat) => I x) (fun _ => rfl) (show O.length - 1 - i < O.length by omega) ?_
  rw [<- rev_at hlt]
  refine hY i _ (i + 1) Rs' [] h _ ⟨hlt, rfl, _, rfl⟩ hj o.nilTail (fun Rs'' h'' hj' o' => ?_) fun Rs'' h'' he o' => ?_
  ·rw [pUn_not, Bool.not_true, ifV_false, pBin_sub, w64 (by omega) (by omega)]
   exact hZ (_, ()) h'' hlt ⟨by show I _ = I _; congr 1; omega, Rs'', hj', o'.toNil⟩
  ·rw [pUn_not, Bool.not_false, ifV_true]
   exact hK _ _ (.inr he) o'.toNil
 ·have : i = O.length := by omega
  exact hK _ _ (.inl ⟨i, this, hj⟩) o

theorem behind_iter {b : Nat} {T : TypeId} (hl : O.length < 2 ^ 40) : IterG Tryz.prog (.func (.func F_avoid_behind_1) #[] #[ptr b]) (fun h => h[b]? = some (.cells #[vo] T (0, 0)) /\ Vw encN 1 h vo O) (σ := Nat) 0 (revN O) (fun i => i = O.length) := by
 rintro yv h0 h Rs K J E ⟨l, rfl⟩ o j0 hQ hY hK
 refine callF_of (l := [yieldV l, ptr b]) rfl (lk_avoid_behind_1 _ _ ?_)
 unfold sh_avoid_behind_1
 obtain ⟨hb, hv⟩ := hQ _ _ _ j0 o
 have hone := hv.one
 refine o.box fun y2 h1 o1 => ?_
 have o1 : Own h0 h1 (cellR y2 [yieldV l] T_func_int_bool :: Rs) := o1
 obtain ⟨hb1, hv1⟩ := hQ _ _ _ j0 o1.tail
 have hc : hcell h1 ⟨b, 0, none⟩ = some vo := hcell_of hb1 rfl
 refine pLoad_of rfl hc ?_
 refine callS_of (lk_slices_Backward_sl_int_int _ ?_)
 unfold sh_slices_Backward_sl_int_int
 refine o1.box fun s1 h2 o2 => ?_
 rw [show (Value.cells vo).toList = [vo] by rw [hone]] at o2
 refine o2.range (back_iter (O := O) (vo := vo) (T := T_sl_int) hl) (by rintro i x i' ⟨_, _, k, rfl⟩; rfl)
  (fun i Rs1 => ∃ Rs', Rs1 = cellR s1 [vo] T_sl_int :: cellR y2 [yieldV l] T_func_int_bool :: Rs' /\ J i Rs')
  (fun Rs1 => ∃ Rs', Rs1 = cellR s1 [vo] T_sl_int :: cellR y2 [yieldV l] T_func_int_bool :: Rs' /\ E Rs') (fun _ _ => False) ⟨Rs, rfl, j0⟩ ?_ ?_ ?_ ?_ (fun _ _ _ h => h.elim)
 ·rintro i Rs1 h' ⟨Rs', rfl, hj⟩ o'
  exact ⟨o'.get 0 rfl, (hQ _ _ _ hj o'.tail.tail).2⟩
 ·rintro M i x i' Rs1 Pr h' R ⟨h1, rfl, k, rfl⟩ ⟨Rs', rfl, hj⟩ o' hN hR _
  dsimp only [valsOf]
  unfold sh_avoid_behind_1_B1
  refine o'.begin 0 rfl fun h3 o3 => ?_
  refine o3.load 3 rfl rfl ?_
  have o4 : Own h0 h3 ([loopR (h2.size + 1) (lo M .busy none), markR h2.size, cellR s1 [vo] T_sl_int, cellR y2 [yieldV l] T_func_int_bool] ++ (Rs' ++ Pr)) := o3
  have o5 := Own.comm o4
  rw [List.append_assoc] at o5
  refine hY i _ (i + 1) Rs' _ h3 _ ⟨h1, rfl, rfl⟩ hj o5 (fun Rs'' h'' hj' o6 => ?_) fun Rs'' h'' he o6 => ?_
  ·rw [pUn_not, Bool.not_true, ifV_false]
   rw [<- List.append_assoc] at o6
   exact hN _ h'' ⟨Rs'', rfl, hj'⟩ (Own.comm o6)
  ·rw [pUn_not, Bool.not_false, ifV_true]
   rw [<- List.append_assoc] at o6
   exact hR _ h'' ⟨Rs'', rfl, he⟩ (Own.comm o6)
 ·rintro i h' Rs1 rfl ⟨Rs', rfl, hj⟩ o'
  exact o'.take1 0 rfl fun h10 o10 => hK _ _ (.inl ⟨_, rfl, hj⟩) o10.tail.tail.tail
 ·rintro h' Rs1 ⟨Rs', rfl, he⟩ o'
  exact o'.take1 0 rfl fun h10 o10 => hK _ _ (.inr he) o10.tail.tail.tail

def bestV : Option Nat -> Value
 | none => I (-1)
 | some w => I w

theorem best_ok16 {fv hv : Value} {f : Nat -> Int} {Q : Heap -> Prop} (o : Own h0 h L) (hone : hv.cells = #[hv]) (hpl : Mh.plainCell hv = true) (hI : IterG Tryz.prog fv Q (σ := Nat) 0 (fwdN O) (fun i => i = O.length)) (hQ : ∀ h', Own h0 h' L -> Q h')
  (hH : ∀ h' (v : Nat) (K : Value -> Heap -> Prop), v ∈ O -> Own h0 h' L -> K (I (f v)) h' -> callV Tryz.prog hv [I v].toArray h' K) (hK : ∀ h', Own h0 h' L -> K (bestV (bestS f O)) h') : callS Tryz.prog F_avoid_best_int64 [fv, hv] h K := by
 refine callS_of (lk_avoid_best_int64 _ _ ?_)
 unfold sh_avoid_best_int64
 refine o.box fun a3 h1 o1 => o1.box fun f5 h2 o2 => o2.st1 0 (cs' := [I (-1)]) rfl rfl rfl rfl rfl fun h3 o3 => ?_
 have o3 : Own h0 h3 (cellR f5 [bestV (bestS f (O.take 0))] T_int :: cellR a3 [hv] T_func_int_int64 :: L) := by
  have : (Value.cells hv).toList = [hv] := by rw [hone]
  rw [this] at o3
  exact o3
 clear o1 o2
 refine o3.range hI (by rintro i x i' ⟨_, _, rfl⟩; rfl) (fun i Rs => i <= O.length /\ Rs = cellR f5 [bestV (bestS f (O.take i))] T_int :: cellR a3 [hv] T_func_int_int64 :: L) (fun _ => False) (fun _ _ => False) ⟨Nat.zero_le _, rfl⟩ ?_ ?_ ?_ (fun _ _ h => h.elim) (fun _ _ _ h => h.elim)
 ·rintro i Rs h' ⟨_, rfl⟩ o'
  exact hQ _ o'.tail.tail
 ·rintro M i x i' Rs Pr h' R ⟨h1, rfl, rfl⟩ ⟨_, rfl⟩ o' hN _ _
  dsimp only [valsOf]
  unfold sh_avoid_best_int64_B1
  have e : O.getD i 0 = O[i] := by rw [List.getD_eq_getElem?_getD, List.getElem?_eq_getElem h1]; rfl
  rw [e]
  have hmem : O[i] ∈ O := List.getElem_mem h1
  have hsn : bestS f (O.take (i + 1)) = bst1 f (bestS f (O.take i)) O[i] := by rw [List.take_succ_eq_append_getElem h1, bestS_snoc]
  have hold : ∀ w, bestS f (O.take i) = some w -> w ∈ O := fun w hw => by
   rcases bestS_is (f := f) (l := O.take i) with ⟨e, _⟩ | ⟨w', e, h1, _⟩
   ·rw [e] at hw; cases hw
   ·rw [e] at hw; cases hw; exact List.mem_of_mem_take h1
  generalize O[i] = v at hmem hsn
  generalize bestS f (O.take i) = b at o' hsn hold
  refine o'.begin 0 rfl fun h4 o4 => ?_
  have o4 : Own h0 h4 (loopR (h3.size + 1) (lo M .busy none) :: markR h3.size :: cellR f5 [bestV b] T_int :: cellR a3 [hv] T_func_int_int64 :: (L ++ Pr)) := o4
  have oL : Own h0 h4 L := o4.tail.tail.tail.tail.left
  have k2 : bst1 f b v = some v -> sh_avoid_best_int64_k2 Tryz.prog (ptr f5) (I v) R h4 := fun hb => by
   unfold sh_avoid_best_int64_k2
   refine o4.st1 2 (cs' := [I v]) rfl rfl rfl rfl rfl fun h5 o5 => ?_
   refine hN _ h5 ⟨h1, rfl⟩ ?_
   rw [hsn, hb]
   exact o5
  have same : bst1 f b v = b -> R .normal h4 := fun hb => by
   refine hN _ h4 ⟨h1, rfl⟩ ?_
   rw [hsn, hb]
   exact o4
  refine o4.load 3 rfl rfl (hH _ _ _ hmem oL ?_)
  rw [pBin_gtr, ifV_dec]
  refine ⟨fun hp => o4.load 2 rfl rfl ?_, fun hn => same (if_neg fun h => hn h.1)⟩
  cases b with
  | none =>
   show pBin .lss (I (-1)) _ _
   rw [pBin_lss, show decide ((-1 : Int) < 0) = true from rfl, ifV_true]
   exact k2 (if_pos ⟨hp, rfl⟩)
  | some w =>
   show pBin .lss (I w) _ _
   rw [pBin_lss, show decide ((w : Int) < 0) = false from decide_eq_false (by omega), ifV_false]
   refine o4.load 3 rfl rfl (o4.load 2 rfl rfl (hH _ w _ (hold w rfl) oL ?_))
   rw [pBin_gtr, ifV_dec]
   refine ⟨fun hw => k2 (if_pos ⟨hp, decide_eq_true (.inl hw)⟩), fun hw => o4.load 3 rfl rfl (o4.load 2 rfl rfl (hH _ w _ (hold w rfl) oL ?_))⟩
   rw [pBin_eql, ifV_beq]
   refine ⟨fun he => o4.load 2 rfl rfl ?_, fun he => same (if_neg fun h => by have := of_decide_eq_true h.2; omega)⟩
   show pBin .lss _ (I w) _
   rw [pBin_lss, ifV_dec]
   exact ⟨fun hl => k2 (if_pos ⟨hp, decide_eq_true (.inr ⟨he, by omega⟩)⟩), fun hl => same (if_neg fun h => by have := of_decide_eq_true h.2; omega)⟩
 ·rintro i h' Rs rfl ⟨_, rfl⟩ o'
  rw [List.take_length] at o'
  refine o'.load 1 rfl rfl (o'.take1 0 rfl fun h10 o10 => ?_)
  exact hK _ o10.tail.tail.tail

end
open Go Go.Mh

section
variable {h0 h : Heap} {L : List Res} {K : Value -> Heap -> Prop} {g : G} {r : Nat}

theorem arcW_ok {z : Int} (H : NetR h r g) (hK : ∀ h', Ext h h' -> K (.tuple #[vA (wArc g.arcs z).1, .bool (wArc g.arcs z).2]) h') : callS Tryz.prog F_net_Net_Arc [ptr r, I z] h K := by
 refine arcI_ok H (fun i hi e h' x => ?_) fun hn h' x => ?_
 ·subst e
  have := hK h' x
  rw [show wArc g.arcs (i : Int) = (g.arcs[i], true) by simp [wArc, arcAt, hi]] at this
  exact this
 ·have := hK h' x
  rw [wArc, if_neg hn] at this
  exact this

end
open Go Go.Mh

abbrev growL (g : G) (t : Tr) (rn r pt tr m pm b5 b4 b3 : Nat) (vs vm sd sa so vl : Value) (f : Int -> Option Value) (S : GS) (rest : List Res) : List Res :=
  cellR pt [ptr tr] T_p_avoid_tree :: cellR tr [sd, sa, so, .map (some m), vs] T_avoid_tree :: mapR m f :: cellR pm [vm] T_sl_int :: slR encI 1 T_int vm S.mc :: xR vs S.sz :: xR sd t.dist :: slR encI 1 T_int sa t.arc :: slR encN 1 T_int so t.order ::
    cellR b5 [I r] T_int :: cellR b4 [vl] T_sl_avoid_mark :: cellR b3 [ptr rn] T_p_net_Net :: rest

section
variable {h0 h : Heap} {L Pr : List Res} {K : Value -> Heap -> Prop} {g : G} {t : Tr} {rn r pt tr m pm b5 b4 b3 : Nat} {vs vm sd sa so vl : Value} {f : Int -> Option Value} {S : GS} {a b : Res} {kv : Nat -> Value} {R : Exit -> Heap -> Prop} {v : Nat}

theorem wArc_par {l : List A} {z : Int} : ((wArc l z).2 = true ↔ 0 <= z /\ z < l.length) /\ ((wArc l z).2 = true -> (wArc l z).1 = arcAt l z.toNat) := by
  unfold wArc
  split
  · rename_i h
    exact ⟨⟨fun _ => h, fun _ => rfl⟩, fun _ => rfl⟩
  · rename_i h
    exact ⟨⟨fun e => (by cases e), fun e => absurd e h⟩, fun e => (by cases e)⟩

theorem grow6_ok (hN : NetR h0 rn g) (hal : t.arc.length = g.n) (hv : v < g.n) (hn : g.n <= 16) (hpr : ∀ p, parT g.arcs t v = some p -> p < g.n) (hkl : ∀ x, (S.kd x).length <= 2 ^ 32) (hf : ∀ u : Nat, (f u).getD sl0 = kv u)
    (o : Own h0 h (a :: b :: growL g t rn r pt tr m pm b5 b4 b3 vs vm sd sa so vl f S (famR encN 1 T_int kv S.kd g.n ++ Pr)))
    (hR : ∀ f' kv' h', (∀ u : Nat, (f' u).getD sl0 = kv' u) -> Own h0 h' (a :: b :: growL g t rn r pt tr m pm b5 b4 b3 vs vm sd sa so vl f' ⟨S.sz, S.mc, updK S.kd v (parT g.arcs t v)⟩ (famR encN 1 T_int kv' (updK S.kd v (parT g.arcs t v)) g.n ++ Pr)) -> R .normal h') :
    sh_avoid_grow_k6 Tryz.prog (ptr b3) (ptr pt) (I v) R h := by
  unfold sh_avoid_grow_k6
  obtain ⟨w1, w2⟩ := @wArc_par g.arcs (t.arc.getD v (-1))
  refine cutP_of (fun y h' => ∃ a15 : Nat, y.1 = ptr a15 /\ y.2.1 = .bool (wArc g.arcs (t.arc.getD v (-1))).2 /\ Own h0 h' (cellR a15 [I (wArc g.arcs (t.arc.getD v (-1))).1.f, I (wArc g.arcs (t.arc.getD v (-1))).1.t, I (wArc g.arcs (t.arc.getD v (-1))).1.w] T_api_Arc :: a :: b :: growL g t rn r pt tr m pm b5 b4 b3 vs vm sd sa so vl f S (famR encN 1 T_int kv S.kd g.n ++ Pr))) (fun J hJ => ?_) ?_
  · refine o.load 13 rfl rfl (o.load 2 rfl rfl ?_)
    simp only [pNil_ptr, pField_ptr]
    refine o.load 3 rfl rfl ((o.vw 9 rfl).atI (by rw [hal]; exact hv) ?_)
    rw [arc_get (by rw [hal]; exact hv)]
    generalize t.arc.getD v (-1) = z at hJ
    refine ⟨arcW_ok (hN.more o.ext) fun h1 x1 => ?_, o.box fun a15 h1 o1 => arcW_ok (hN.more o1.ext) fun h2 x2 => ?_⟩
    · have o1 := o.more x1
      simp only [pExt0, pExt1]
      refine o1.box fun a15 h2 o2 => o2.st (cs' := [I (wArc g.arcs z).1.f, I (wArc g.arcs z).1.t, I (wArc g.arcs z).1.w]) 0 rfl rfl rfl rfl rfl (by intro u hu; simp at hu; rcases hu with rfl | rfl | rfl <;> rfl) fun h3 o3 => hJ _ _ ⟨a15, rfl, rfl, o3⟩
    · have o2 := o1.more x2
      simp only [pExt0, pExt1]
      refine o2.st (cs' := [I (wArc g.arcs z).1.f, I (wArc g.arcs z).1.t, I (wArc g.arcs z).1.w]) 0 rfl rfl rfl rfl rfl (by intro u hu; simp at hu; rcases hu with rfl | rfl | rfl <;> rfl) fun h3 o3 => hJ _ _ ⟨a15, rfl, rfl, o3⟩
  · rintro ⟨y1, y2, ⟨⟩⟩ h' ⟨a15, hy1, hy2, o1⟩
    dsimp only at hy1 hy2 ⊢
    subst hy1 hy2
    unfold sh_avoid_grow_C7
    cases hw : (wArc g.arcs (t.arc.getD v (-1))).2 with
    | false =>
      rw [ifV_false]
      have hp : parT g.arcs t v = none := by
        unfold parT
        rw [if_neg fun h => by rw [w1.2 h] at hw; cases hw]
      rw [hp] at hR
      exact hR f kv h' hf o1.tail
    | true =>
      rw [ifV_true]
      have hz := w1.1 hw
      have ha := w2 hw
      have hp : parT g.arcs t v = some (arcAt g.arcs (t.arc.getD v (-1)).toNat).f := by unfold parT; rw [if_pos hz]
      rw [ha] at o1
      have hpn := hpr _ hp
      rw [hp] at hR
      generalize arcAt g.arcs (t.arc.getD v (-1)).toNat = q at o1 hR hpn
      refine o1.load 3 rfl rfl ?_
      simp only [pNil_ptr, pField_ptr]
      refine o1.load 4 rfl rfl (o1.load 0 rfl rfl (o1.load 3 rfl rfl ?_))
      simp only [pNil_ptr, pField_ptr]
      refine o1.load 4 rfl rfl (o1.load 0 rfl rfl (o1.look 5 rfl ?_))
      have hfq := hf q.f
      show pBuildSlice T_int _ _ 1 h' fun t137 h_145 => pAppend T_int 1 8 _ ((f q.f).getD sl0) t137 h_145 _
      rw [hfq]
      have hi : (cellR a15 [I q.f, I q.t, I q.w] T_api_Arc :: a :: b :: growL g t rn r pt tr m pm b5 b4 b3 vs vm sd sa so vl f S (famR encN 1 T_int kv S.kd g.n ++ Pr))[q.f + 15]? = some (slR encN 1 T_int (kv q.f) (S.kd q.f)) := by
        show (famR encN 1 T_int kv S.kd g.n ++ Pr)[q.f]? = _
        rw [List.getElem?_append_left (by simp [famR]; exact hpn), famR_get hpn]
      have := hkl q.f
      refine o1.app1 (q.f + 15) v hi rfl (sizesOk_of rfl) (fun _ => rfl) encN_plain rfl (by decide) (by omega) fun w h2 o2 => ?_
      have o2 : Own h0 h2 (cellR a15 [I q.f, I q.t, I q.w] T_api_Arc :: a :: b :: growL g t rn r pt tr m pm b5 b4 b3 vs vm sd sa so vl f S ((famR encN 1 T_int kv S.kd g.n ++ Pr).set q.f (slR encN 1 T_int w (S.kd q.f ++ [v])))) := o2
      rw [List.set_append_left _ _ (by simp [famR]; exact hpn), famR_set] at o2
      refine ⟨o2.load 3 rfl rfl rfl, o2.load 4 rfl rfl rfl, o2.load 0 rfl rfl rfl, ?_⟩
      refine o2.mapPut (f' := fset f q.f w) 5 rfl (fun x => rfl) fun h3 o3 => ?_
      refine hR (fset f q.f w) (upF kv q.f w) h3 (fun u => ?_) ?_
      · unfold fset upF
        by_cases e : u = q.f
        · subst e; simp
        · rw [if_neg (by omega), if_neg e]; exact hf u
      · have e : updK S.kd v (some q.f) = upF S.kd q.f (S.kd q.f ++ [v]) := by
          funext x
          unfold updK upF
          by_cases e : x = q.f
          · subst e; simp
          · simp [e]
        rw [e]
        exact o3.tail

def mcq (S : GS) (v q : Nat) : Int := ((S.kd v).take q).foldl (fun a k => a + S.mc.getD k 0) (S.mc.getD v 0)
def owq (S : GS) (v : Nat) (w0 : Int) (q : Nat) : Int := ((S.kd v).take q).foldl (fun a k => satI a (S.sz.getD k 0)) w0

theorem mcq_rng (hm : ∀ u, 0 <= S.mc.getD u 0 /\ S.mc.getD u 0 <= 2 ^ 32) : ∀ q, 0 <= mcq S v q /\ mcq S v q <= (q + 1) * 2 ^ 32
  | 0 => by have := hm v; show 0 <= S.mc.getD v 0 /\ S.mc.getD v 0 <= _; omega
  | q + 1 => by
    have ih := mcq_rng hm q
    by_cases hq : q < (S.kd v).length
    · have e : mcq S v (q + 1) = mcq S v q + S.mc.getD ((S.kd v)[q]) 0 := by
        unfold mcq
        rw [List.take_succ_eq_append_getElem hq, List.foldl_append]; rfl
      have := hm (S.kd v)[q]
      omega
    · have e : mcq S v (q + 1) = mcq S v q := by
        unfold mcq
        rw [List.take_of_length_le (by omega), List.take_of_length_le (by omega)]
      omega

theorem satI_rng {a b : Int} : 0 <= satI a b /\ satI a b <= 2305843009213693952 := by unfold satI keepS mostS; omega

theorem owq_rng {w0 : Int} (h0 : 0 <= w0 /\ w0 <= far) : ∀ q, 0 <= owq S v w0 q /\ owq S v w0 q <= 2305843009213693952
  | 0 => by have : far = 72057594037927936 := rfl
            show 0 <= w0 /\ w0 <= _; omega
  | q + 1 => by
    by_cases hq : q < (S.kd v).length
    · have e : owq S v w0 (q + 1) = satI (owq S v w0 q) (S.sz.getD ((S.kd v)[q]) 0) := by
        unfold owq
        rw [List.take_succ_eq_append_getElem hq, List.foldl_append]; rfl
      rw [e]; exact satI_rng
    · have e : owq S v w0 (q + 1) = owq S v w0 q := by
        unfold owq
        rw [List.take_of_length_le (by omega), List.take_of_length_le (by omega)]
      rw [e]; exact owq_rng h0 q

theorem getD_at16 {l : List Int} {i : Nat} (h : i < l.length) : l[i] = l.getD i 0 := by rw [List.getD_eq_getElem?_getD, List.getElem?_eq_getElem h]; rfl

theorem grow4_ok {wt : Nat -> Int} (hN : NetR h0 rn g) (hal : t.arc.length = g.n) (hv : v < g.n) (hn : g.n <= 16) (hpr : ∀ p, parT g.arcs t v = some p -> p < g.n) (hkl : ∀ x, (S.kd x).length <= 2 ^ 20) (hf : ∀ u : Nat, (f u).getD sl0 = kv u)
    (hsl : S.sz.length = g.n) (hml : S.mc.length = g.n) (hk : ∀ k ∈ S.kd v, k < g.n /\ k ≠ v) (hm : ∀ u, 0 <= S.mc.getD u 0 /\ S.mc.getD u 0 <= 2 ^ 32) (hw : 0 <= wt v /\ wt v <= far)
    (o : Own h0 h (a :: b :: growL g t rn r pt tr m pm b5 b4 b3 vs vm sd sa so vl f S (famR encN 1 T_int kv S.kd g.n ++ Pr)))
    (hR : ∀ f' kv' h', (∀ u : Nat, (f' u).getD sl0 = kv' u) -> Own h0 h' (a :: b :: growL g t rn r pt tr m pm b5 b4 b3 vs vm sd sa so vl f' (S.step (parT g.arcs t) wt v) (famR encN 1 T_int kv' (S.step (parT g.arcs t) wt v).kd g.n ++ Pr)) -> R .normal h') :
    sh_avoid_grow_k4 Tryz.prog (ptr pt) (I v) (ptr pm) (ptr b3) R (I (wt v)) h := by
  unfold sh_avoid_grow_k4
  refine o.load 2 rfl rfl ?_
  simp only [pNil_ptr, pField_ptr]
  refine o.load 3 rfl rfl (o.look 4 rfl ?_)
  have hfq := hf v
  show pLen ((f v).getD sl0) _
  rw [hfq]
  have hfam : ∀ (S' : GS), S'.kd = S.kd -> (a :: b :: growL g t rn r pt tr m pm b5 b4 b3 vs vm sd sa so vl f S' (famR encN 1 T_int kv S.kd g.n ++ Pr))[v + 14]? = some (slR encN 1 T_int (kv v) (S.kd v)) := fun S' _ => by
    show (famR encN 1 T_int kv S.kd g.n ++ Pr)[v]? = _
    rw [List.getElem?_append_left (by simp [famR]; exact hv), famR_get hv]
  refine (o.vw (v + 14) (hfam S rfl)).len ?_
  have e0 : S.mc.set v (mcq S v 0) = S.mc := by
    show S.mc.set v (S.mc.getD v 0) = S.mc
    rw [<- getD_at16 (by omega)]
    exact List.set_getElem_self (by omega)
  refine LoopH_count (S.kd v).length (fun q y h' => y.1 = I (owq S v (wt v) q) /\ y.2.1 = I q /\ Own h0 h' (a :: b :: growL g t rn r pt tr m pm b5 b4 b3 vs vm sd sa so vl f ⟨S.sz, S.mc.set v (mcq S v q), S.kd⟩ (famR encN 1 T_int kv S.kd g.n ++ Pr))) ⟨rfl, rfl, by rw [e0]; exact o⟩ ?_
  clear o
  rintro q ⟨y1, y2, ⟨⟩⟩ h1 Z hq ⟨hy1, hy2, o⟩ hZ
  dsimp only at hy1 hy2 hZ ⊢
  subst hy1 hy2
  have hkv := hkl v
  have hmr := mcq_rng (v := v) hm q
  have hor := owq_rng (S := S) (v := v) hw q
  have hset : (S.mc.set v (mcq S v q)).length = g.n := by rw [List.length_set]; exact hml
  unfold sh_avoid_grow_L5
  rw [pBin_lss, ifV_dec]
  refine ⟨fun hlt => ?_, fun hge => ?_⟩
  · have hlt : q < (S.kd v).length := by omega
    have ho1 : owq S v (wt v) (q + 1) = satI (owq S v (wt v) q) (S.sz.getD ((S.kd v)[q]) 0) := by
      unfold owq
      rw [List.take_succ_eq_append_getElem hlt, List.foldl_append]; rfl
    have hm1 : mcq S v (q + 1) = mcq S v q + S.mc.getD ((S.kd v)[q]) 0 := by
      unfold mcq
      rw [List.take_succ_eq_append_getElem hlt, List.foldl_append]; rfl
    refine (show Vw encN 1 h1 (kv v) (S.kd v) from o.vw (v + 14) (hfam ⟨S.sz, S.mc.set v (mcq S v q), S.kd⟩ rfl)).at1 (e := fun (x : Nat) => I x) (fun _ => rfl) hlt ?_
    obtain ⟨hkn, hkne⟩ := hk _ (List.getElem_mem hlt)
    generalize (S.kd v)[q] = k at ho1 hm1 hkn hkne
    have hmk := hm k
    refine o.load 2 rfl rfl ?_
    simp only [pNil_ptr, pField_ptr]
    refine o.load 3 rfl rfl ((o.vw 7 rfl).atI (by rw [hsl]; exact hkn) ?_)
    rw [getD_at16 (by rw [hsl]; exact hkn)]
    refine dsat_ok (by omega) (by omega) fun h2 x2 => ?_
    rw [<- ho1]
    have o2 := o.more x2
    clear o
    refine o2.load 5 rfl rfl ((o2.vw 6 rfl).atI (by rw [hset]; exact hv) (o2.load 5 rfl rfl ((o2.vw 6 rfl).atI (by rw [hset]; exact hkn) ?_)))
    rw [List.getElem_set_self, List.getElem_set_ne (fun e => hkne e.symm), getD_at16 (by omega), pBin_add, w64 (by omega) (by omega), <- hm1]
    refine o2.setI 6 rfl (by rw [hset]; exact hv) fun h3 o3 => ?_
    rw [pBin_add, wI q (by omega)]
    refine hZ (_, _, ()) h3 hlt ⟨rfl, rfl, ?_⟩
    rw [<- List.set_set (a := mcq S v q)]
    exact o3
  · have : q = (S.kd v).length := by omega
    subst this
    have em : mcq S v (S.kd v).length = S.mcs v := by unfold mcq GS.mcs; rw [List.take_length]
    have eo : owq S v (wt v) (S.kd v).length = S.own wt v := by unfold owq GS.own; rw [List.take_length]
    rw [em] at o hset
    rw [eo]
    refine o.load 5 rfl rfl ((o.vw 6 rfl).atI (by rw [hset]; exact hv) ?_)
    rw [List.getElem_set_self, pBin_eql, ifV_beq]
    refine ⟨fun h0 => o.load 2 rfl rfl ?_, fun h0 => ?_⟩
    · simp only [pNil_ptr, pField_ptr]
      refine o.load 3 rfl rfl (o.setI 7 rfl (by rw [hsl]; exact hv) fun h2 o2 => ?_)
      refine grow6_ok (S := ⟨S.sz.set v (S.own wt v), S.mc.set v (S.mcs v), S.kd⟩) hN hal hv hn hpr (fun x => by have := hkl x; show (S.kd x).length <= _; omega) hf o2 fun f' kv' h' hf' o' => hR f' kv' h' hf' ?_
      unfold GS.step
      rw [if_pos h0]
      exact o'
    · refine grow6_ok (S := ⟨S.sz, S.mc.set v (S.mcs v), S.kd⟩) hN hal hv hn hpr (fun x => by have := hkl x; show (S.kd x).length <= _; omega) hf o fun f' kv' h' hf' o' => hR f' kv' h' hf' ?_
      unfold GS.step
      rw [if_neg h0]
      exact o'

end
open Go Go.Mh

section
variable {h0 h hD : Heap} {L Pr : List Res} {K : Value -> Heap -> Prop} {g : G} {rn r pt tr m pm b5 b4 b3 : Nat} {vs vm sd sa so vl : Value} {f : Int -> Option Value} {S : GS} {kv : Nat -> Value} {R : Exit -> Heap -> Prop} {v : Nat} {M : Loop} {ms : List MV}

theorem growB_ok (hR : g.Right) (hN : NetR h0 rn g) (hn : g.n <= 16) (hr : r < g.n) (hv : v < g.n) (HM : ∀ m ∈ ms, MkV g h0 m) (Hl : Vw encM 7 h0 vl ms) (hl : ms.length < 2 ^ 40) (hvo : v ∈ (g.from r).order)
  (hkl : ∀ x, (S.kd x).length <= 2 ^ 20) (hf : ∀ u : Nat, (f u).getD sl0 = kv u) (hsl : S.sz.length = g.n) (hml : S.mc.length = g.n) (hk : ∀ k ∈ S.kd v, k < g.n /\ k ≠ v) (hm : ∀ u, 0 <= S.mc.getD u 0 /\ S.mc.getD u 0 <= 2 ^ 32)
  (o : Own h0 h (loopR (hD.size + 1) (lo M .ready none) :: markR hD.size :: growL g (g.from r) rn r pt tr m pm b5 b4 b3 vs vm sd sa so vl f S (famR encN 1 T_int kv S.kd g.n ++ Pr)))
  (hK : ∀ f' kv' h', (∀ u : Nat, (f' u).getD sl0 = kv' u) -> Own h0 h' (loopR (hD.size + 1) (lo M .busy none) :: markR hD.size :: growL g (g.from r) rn r pt tr m pm b5 b4 b3 vs vm sd sa so vl f' (S.step (parA g r) (wtA g (ms.map MV.node) r) v) (famR encN 1 T_int kv' (S.step (parA g r) (wtA g (ms.map MV.node) r) v).kd g.n ++ Pr)) -> R .normal h') :
  sh_avoid_grow_B3 Tryz.prog hD (ptr b5) (ptr pt) (ptr b4) (ptr pm) (ptr b3) M (I v) h R := by
 have T := from_tree hR hr
 have hmn : ∀ x ∈ ms.map MV.node, x < g.n := fun x hx => by
  obtain ⟨y, hy, rfl⟩ := List.mem_map.1 hx
  exact (HM y hy).1
 have hwr := wtA_rng hR hr hmn v hvo
 have hpr : ∀ p, parT g.arcs (g.from r) v = some p -> p < g.n := fun p hp => T.range p (par_some T hp).2.2.1
 unfold sh_avoid_grow_B3
 refine o.begin 0 rfl fun h1 o1 => ?_
 have o1 : Own h0 h1 (loopR (hD.size + 1) (lo M .busy none) :: markR hD.size :: growL g (g.from r) rn r pt tr m pm b5 b4 b3 vs vm sd sa so vl f S (famR encN 1 T_int kv S.kd g.n ++ Pr)) := o1
 clear o
 refine o1.load 11 rfl rfl ?_
 rw [pBin_neq, ifV_bne]
 refine ⟨fun hne => ?_, fun he => ?_⟩
 ·have hne : v ≠ r := fun e => hne (by rw [e])
  refine o1.load 2 rfl rfl ?_
  simp only [pNil_ptr, pField_ptr]
  have hdl : v < (g.from r).dist.length := by rw [T.ls.len]; exact hv
  refine o1.load 3 rfl rfl ((o1.vw 8 rfl).idxI hdl fun b1 f1 c1 => pLoad_of rfl c1 ?_)
  rw [dAt_get hdl] at c1 ⊢
  refine o1.load 12 rfl rfl (o1.load 11 rfl rfl ?_)
  refine bound_ok hR (fun m hm => (HM m hm).more o1.ext) (Hl.more o1.ext) hl hr hv fun h2 x2 => ?_
  have o2 := o1.more x2
  refine ⟨o2.load 2 rfl rfl rfl, o2.load 3 rfl rfl rfl, pLoad_of rfl (hcell_more x2 c1) rfl, ?_⟩
  have hw : wtA g (ms.map MV.node) r v = dAt (g.from r).dist v - bnd g (ms.map MV.node) r v := if_pos hne
  have hfar : far = 72057594037927936 := rfl
  rw [pBin_sub, w64 (by omega) (by omega), <- hw]
  exact grow4_ok hN T.al hv hn hpr hkl hf hsl hml hk hm hwr o2 hK
 ·have he : v = r := by omega
  have hw : wtA g (ms.map MV.node) r v = 0 := if_neg (by simpa using he)
  have := grow4_ok (wt := wtA g (ms.map MV.node) r) hN T.al hv hn hpr hkl hf hsl hml hk hm hwr o1 hK
  rw [hw] at this
  exact this

theorem growC_ok (hR : g.Right) (hN : NetR h0 rn g) (hn : g.n <= 16) (hr : r < g.n) (HM : ∀ m ∈ ms, MkV g h0 m) (Hl : Vw encM 7 h0 vl ms) (hl : ms.length <= 2 ^ 20)
  (o : Own h0 h [cellR pt [ptr tr] T_p_avoid_tree, cellR tr [sd, sa, so, .map (some m), vs] T_avoid_tree, mapR m (fun _ => none), xR vs (List.replicate g.n 0), xR sd (g.from r).dist, slR encI 1 T_int sa (g.from r).arc, slR encN 1 T_int so (g.from r).order, cellR b5 [I r] T_int, cellR b4 [vl] T_sl_avoid_mark, cellR b3 [ptr rn] T_p_net_Net])
  (hK : ∀ vm pm f kv h' ord, (∀ u : Nat, (f u).getD sl0 = kv u) -> Own h0 h' (growL g (g.from r) rn r pt tr m pm b5 b4 b3 vs vm sd sa so vl f (growA g (ms.map MV.node) r) (famR encN 1 T_int kv (growA g (ms.map MV.node) r).kd g.n ++ [cellR ord [so] T_sl_int])) -> K (ptr tr) h') :
  sh_avoid_grow_C1 Tryz.prog (ptr b3) (ptr b4) (ptr b5) K (ptr pt) h := by
 have T := from_tree hR hr
 have hmn : ∀ x ∈ ms.map MV.node, x < g.n := fun x hx => by
  obtain ⟨y, hy, rfl⟩ := List.mem_map.1 hx
  exact (HM y hy).1
 have hmlN : (ms.map MV.node).length <= 2 ^ 20 := by rw [List.length_map]; exact hl
 unfold sh_avoid_grow_C1
 refine o.load 9 rfl rfl (nodes_ok (hN.more o.ext) ?_)
 refine o.make (enc := encI) (n := 1) (a := 0) (m := g.n) rfl (by omega) (by omega) fun vm h1 o1 => ?_
 refine o1.box fun pm h2 o2 => ?_
 have hv := o2.vw 1 rfl
 refine o2.st1 0 (cs' := [vm]) rfl rfl rfl hv.one hv.plain fun h3 o3 => ?_
 clear o o1 o2 hv
 have o3 : Own h0 h3 (cellR pm [vm] T_sl_int :: slR encI 1 T_int vm (List.replicate g.n 0) :: [cellR pt [ptr tr] T_p_avoid_tree, cellR tr [sd, sa, so, .map (some m), vs] T_avoid_tree, mapR m (fun _ => none), xR vs (List.replicate g.n 0), xR sd (g.from r).dist, slR encI 1 T_int sa (g.from r).arc, slR encN 1 T_int so (g.from r).order, cellR b5 [I r] T_int, cellR b4 [vl] T_sl_avoid_mark, cellR b3 [ptr rn] T_p_net_Net]) := o3
 have o4 : Own h0 h3 (growL g (g.from r) rn r pt tr m pm b5 b4 b3 vs vm sd sa so vl (fun _ => none) ⟨List.replicate g.n 0, List.replicate g.n 0, fun _ => []⟩ []) := o3.sel [2, 3, 4, 0, 1, 5, 6, 7, 8, 9, 10, 11] (by decide)
 clear o3
 refine o4.load 10 rfl rfl ((Hl.more o4.ext).len ?_)
 have e0 : (List.range g.n).map (cntA ([] : List Nat)) = List.replicate g.n 0 := by
  apply List.ext_getElem?
  intro i
  by_cases hi : i < g.n
  ·simp [hi, cntA]
  ·rw [List.getElem?_eq_none (by simp; omega), List.getElem?_eq_none (by simp; omega)]
 refine LoopH_count ms.length (fun i x h' => x.1 = I i /\ Own h0 h' (growL g (g.from r) rn r pt tr m pm b5 b4 b3 vs vm sd sa so vl (fun _ => none) ⟨List.replicate g.n 0, (List.range g.n).map (cntA ((ms.take i).map MV.node)), fun _ => []⟩ [])) ⟨rfl, by rw [List.take_zero, List.map_nil, e0]; exact o4⟩ ?_
 clear o4
 rintro i ⟨x, ⟨⟩⟩ h4 Z hi ⟨hx, o⟩ hZ
 dsimp only at hx hZ ⊢
 subst hx
 unfold sh_avoid_grow_L2
 rw [pBin_lss, ifV_dec]
 refine ⟨fun hlt => ?_, fun hge => ?_⟩
 ·have hlt : i < ms.length := by omega
  refine (Hl.more o.ext).atN encM_len hlt ?_
  have tk : (ms.take (i + 1)).map MV.node = (ms.take i).map MV.node ++ [ms[i].node] := by rw [List.take_succ_eq_append_getElem hlt, List.map_append]; rfl
  have hmm := HM _ (List.getElem_mem hlt)
  rw [tk] at hZ
  generalize ms[i] = mv at hmm hZ
  have hmn := hmm.1
  refine o.box fun m8 h5 o5 => o5.st (l := encM mv) (cs' := encM mv) 0 rfl rfl rfl rfl rfl (encM_plain mv) fun h6 o6 => ?_
  clear o o5
  simp only [pField_ptr]
  refine o6.load 4 rfl rfl (o6.load 0 rfl rfl ?_)
  have hll : mv.node < ((List.range g.n).map (cntA ((ms.take i).map MV.node))).length := by simpa using hmn
  refine (o6.vw 5 rfl).atI hll ?_
  have hcl : cntA ((ms.take i).map MV.node) mv.node <= 2 ^ 20 /\ 0 <= cntA ((ms.take i).map MV.node) mv.node := by
   unfold cntA
   have := List.count_le_length (a := mv.node) (l := (ms.take i).map MV.node)
   rw [List.length_map, List.length_take] at this
   omega
  rw [show ((List.range g.n).map (cntA ((ms.take i).map MV.node)))[mv.node]'hll = cntA ((ms.take i).map MV.node) mv.node by simp, pBin_add, w64 (by omega) (by omega)]
  refine o6.setI 5 rfl hll fun h7 o7 => ?_
  rw [pBin_add, wI i (by omega)]
  refine hZ (_, ()) h7 hlt ⟨rfl, ?_⟩
  rw [<- cnt_set hmn]
  exact o7.tail
 ·have : i = ms.length := by omega
  subst this
  rw [List.take_length] at o
  clear hZ
  refine o.load 0 rfl rfl ?_
  simp only [pNil_ptr, pField_ptr]
  refine o.load 1 rfl rfl ?_
  refine callS_of (lk_avoid_behind _ ?_)
  unfold sh_avoid_behind
  have hso := (o.vw 8 rfl).one
  refine o.box fun ord h5 o5 => ?_
  rw [show (Value.cells so).toList = [so] by rw [hso]] at o5
  have o6 := o5.fam0 (enc := encN) (n := 1) (T := T_int) (m := g.n)
  have o7 : Own h0 h5 (growL g (g.from r) rn r pt tr m pm b5 b4 b3 vs vm sd sa so vl (fun _ => none) (growQ g (ms.map MV.node) r 0) (famR encN 1 T_int (fun _ => sl0) (growQ g (ms.map MV.node) r 0).kd g.n ++ [cellR ord [so] T_sl_int])) := by
   have := Own.comm o6
   have h2 : Own h0 h5 (cellR ord [so] T_sl_int :: (growL g (g.from r) rn r pt tr m pm b5 b4 b3 vs vm sd sa so vl (fun _ => none) (growQ g (ms.map MV.node) r 0) (famR encN 1 T_int (fun _ => sl0) (growQ g (ms.map MV.node) r 0).kd g.n))) := this
   exact Own.comm (L := [_]) h2
  clear o5 o6 o
  have hol : (g.from r).order.length <= g.n := nodup_le T.nodup T.range
  refine o7.range (behind_iter (O := (g.from r).order) (vo := so) (b := ord) (T := T_sl_int) (by omega)) (by rintro i x i' ⟨_, _, rfl⟩; rfl)
   (fun i Rs => i <= (g.from r).order.length /\ ∃ f kv, (∀ u : Nat, (f u).getD sl0 = kv u) /\ Rs = growL g (g.from r) rn r pt tr m pm b5 b4 b3 vs vm sd sa so vl f (growQ g (ms.map MV.node) r i) (famR encN 1 T_int kv (growQ g (ms.map MV.node) r i).kd g.n ++ [cellR ord [so] T_sl_int]))
   (fun _ => False) (fun _ _ => False) ⟨Nat.zero_le _, fun _ => none, fun _ => sl0, fun u => rfl, rfl⟩ ?_ ?_ ?_ (fun _ _ h => h.elim) (fun _ _ _ h => h.elim)
  ·rintro i Rs h' ⟨_, f, kv, _, rfl⟩ o'
   have := Own.comm (L := growL g (g.from r) rn r pt tr m pm b5 b4 b3 vs vm sd sa so vl f (growQ g (ms.map MV.node) r i) (famR encN 1 T_int kv (growQ g (ms.map MV.node) r i).kd g.n)) (L' := [cellR ord [so] T_sl_int]) o'
   exact ⟨this.get 0 rfl, o'.vw 8 rfl⟩
  ·rintro M i x i' Rs Pr h' R ⟨h1, rfl, rfl⟩ ⟨_, f, kv, hf, rfl⟩ o' hNx _ _
   dsimp only [valsOf]
   obtain ⟨f1, f2, f3, f4, f5⟩ := growQ_facts hR hn hr hmn hmlN i
   have hst := growQ_step (g := g) (ms := ms.map MV.node) (r := r) h1
   have hvo : (g.from r).order.reverse.getD i 0 ∈ (g.from r).order := by rw [rev_at h1]; exact List.getElem_mem _
   generalize (g.from r).order.reverse.getD i 0 = v at hst hvo
   have o8 : Own h0 h' (loopR (h5.size + 1) (lo M .ready none) :: markR h5.size :: growL g (g.from r) rn r pt tr m pm b5 b4 b3 vs vm sd sa so vl f (growQ g (ms.map MV.node) r i) (famR encN 1 T_int kv (growQ g (ms.map MV.node) r i).kd g.n ++ ([cellR ord [so] T_sl_int] ++ Pr))) := by
    rw [<- List.append_assoc]; exact o'
   refine growB_ok hR hN hn hr (T.range v hvo) HM Hl (by omega) hvo (fun x => by have := f1 x; omega) hf f2 f3 (f4 v) f5 o8 fun f' kv' h'' hf' o9 => ?_
   rw [<- hst] at o9
   refine hNx _ h'' ⟨h1, f', kv', hf', rfl⟩ ?_
   rw [<- List.append_assoc] at o9
   exact o9
  ·rintro i h' Rs rfl ⟨_, f, kv, hf, rfl⟩ o'
   rw [growQ_end] at o'
   refine o'.load 1 rfl rfl (o'.take1 0 rfl fun h10 o10 => ?_)
   exact hK vm pm f kv h10 ord hf o10.tail

end
open Go Go.Mh
set_option maxRecDepth 20000
set_option maxHeartbeats 0

section
variable {h0 h : Heap} {L : List Res} {K : Value -> Heap -> Prop} {g : G} {rn r : Nat} {vl : Value} {ms : List MV}

theorem build5 {sd sa so vs : Value} {m : Nat} {K : Value -> Prop} (hvs : vs.cells = #[vs]) (hk : K (.agg #[sd, sa, so, .map (some m), vs])) :
  pBuild [(.slice none 0 0), (.slice none 0 0), (.slice none 0 0), (.map none), (.slice none 0 0)] [(0, 3, .agg #[sd, sa, so]), (3, 1, .map (some m)), (4, 1, vs)] K := by
 refine ⟨⟨rfl, by decide, rfl, by decide, by rw [hvs]; rfl, by decide, trivial⟩, ?_⟩
 have e : spliceAll [(.slice none 0 0), (.slice none 0 0), (.slice none 0 0), (.map none), (.slice none 0 0)] [(0, 3, .agg #[sd, sa, so]), (3, 1, .map (some m)), (4, 1, vs)] = [sd, sa, so, .map (some m), vs] := by
  show [sd, sa, so, .map (some m)] ++ vs.cells.toList ++ List.drop (4 + vs.cells.size) [sd, sa, so, .map (some m), .slice none 0 0] = _
  rw [hvs]; rfl
 rw [e]; exact hk

theorem grow_ok (hR : g.Right) (hN : NetR h rn g) (hn : g.n <= 16) (hr : r < g.n) (HM : ∀ m ∈ ms, MkV g h m) (Hl : Vw encM 7 h vl ms) (hl : ms.length <= 2 ^ 20)
  (hK : ∀ pt tr m pm b5 b4 b3 ord vs vm sd sa so f kv h', (∀ u : Nat, (f u).getD sl0 = kv u) -> Own h h' (growL g (g.from r) rn r pt tr m pm b5 b4 b3 vs vm sd sa so vl f (growA g (ms.map MV.node) r) (famR encN 1 T_int kv (growA g (ms.map MV.node) r).kd g.n ++ [cellR ord [so] T_sl_int])) -> K (ptr tr) h') :
  callS Tryz.prog F_avoid_grow [ptr rn, vl, I r] h K := by
 refine callS_of (lk_avoid_grow _ _ _ ?_)
 unfold sh_avoid_grow
 refine (Own.start h).box fun b3 h1 o1 => o1.box fun b4 h2 o2 => o2.box fun b5 h3 o => ?_
 rw [show (Value.cells vl).toList = [vl] by rw [Hl.one]] at o
 have o : Own h h3 [cellR b5 [I r] T_int, cellR b4 [vl] T_sl_avoid_mark, cellR b3 [ptr rn] T_p_net_Net] := o
 clear o1 o2
 have hfr : g.fromI r = g.from r := by simp [G.fromI, hr]
 refine cutP_of (fun y h' => ∃ pt tr m vs sd sa so, y.1 = ptr pt /\ Own h h' [cellR pt [ptr tr] T_p_avoid_tree, cellR tr [sd, sa, so, .map (some m), vs] T_avoid_tree, mapR m (fun _ => none), xR vs (List.replicate g.n 0), xR sd (g.fromI r).dist, slR encI 1 T_int sa (g.fromI r).arc, slR encN 1 T_int so (g.fromI r).order, cellR b5 [I r] T_int, cellR b4 [vl] T_sl_avoid_mark, cellR b3 [ptr rn] T_p_net_Net]) (fun J hJ => ?_) ?_
 ·refine o.load 2 rfl rfl (o.load 0 rfl rfl (o.load 2 rfl rfl ?_))
  repeat' (first
   | with_reducible apply And.intro
   | ((with_reducible show pLoad _ _ _); first | exact o.load 2 rfl rfl rfl | exact o.load 3 rfl rfl rfl | exact o.load 4 rfl rfl rfl | exact o.load 5 rfl rfl rfl | exact o.load 6 rfl rfl rfl | exact o.load 7 rfl rfl rfl)
   | ((with_reducible show pBuild _ _ _); first | refine build5 (o.vw 0 rfl).one ?_ | refine build5 (o.vw 1 rfl).one ?_ | refine build5 (o.vw 2 rfl).one ?_ | refine build5 (o.vw 3 rfl).one ?_ | refine build5 (o.vw 4 rfl).one ?_ | refine build5 (o.vw 5 rfl).one ?_)
   | ((with_reducible show pMakeMap _ _); refine o.mkMap fun m hh o => ?_)
   | ((with_reducible show pMakeSlice _ _ _ _ _ _ _); refine o.make (enc := encI) (n := 1) (a := 0) (m := g.n) rfl (by omega) (by omega) fun vs hh o => ?_)
   | ((with_reducible show pBox _ _ _ _); refine o.box fun p hh o => ?_)
   | ((with_reducible show pStore _ _ _ _ _); first | refine o.st1 0 rfl rfl rfl rfl rfl fun hh o => ?_ | refine o.st1 1 rfl rfl rfl rfl rfl fun hh o => ?_ | refine o.st1 2 rfl rfl rfl rfl rfl fun hh o => ?_ | refine o.st1 3 rfl rfl rfl rfl rfl fun hh o => ?_ | refine o.st1 4 rfl rfl rfl rfl rfl fun hh o => ?_ | refine o.st1 5 rfl rfl rfl rfl rfl fun hh o => ?_ | refine o.st1 6 rfl rfl rfl rfl rfl fun hh o => ?_)
   | ((with_reducible show callS Tryz.prog F_net_Net_Nodes _ _ _); refine nodes_ok (hN.more o.ext) ?_)
   | ((with_reducible show callS Tryz.prog F_flood_From _ _ _); refine from_ok hR (hN.more o.ext) fun sd sa so hh o' => ?_; replace o := o.frame o'; clear o')
   | exact hJ _ _ ⟨_, _, _, _, _, _, _, rfl, o.sel [6, 0, 2, 1, 3, 4, 5, 7, 8, 9] (by decide)⟩
   | exact hJ _ _ ⟨_, _, _, _, _, _, _, rfl, o.sel [3, 0, 2, 1, 4, 5, 6, 7, 8, 9] (by decide)⟩
   | exact hJ _ _ ⟨_, _, _, _, _, _, _, rfl, o.sel [2, 0, 3, 1, 4, 5, 6, 7, 8, 9] (by decide)⟩
   | exact hJ _ _ ⟨_, _, _, _, _, _, _, rfl, o.sel [1, 0, 3, 2, 4, 5, 6, 7, 8, 9] (by decide)⟩
   | exact hJ _ _ ⟨_, _, _, _, _, _, _, rfl, o.sel [0, 1, 3, 2, 4, 5, 6, 7, 8, 9] (by decide)⟩
   | exact hJ _ _ ⟨_, _, _, _, _, _, _, rfl, o.sel [6, 0, 1, 2, 3, 4, 5, 7, 8, 9] (by decide)⟩
   | exact hJ _ _ ⟨_, _, _, _, _, _, _, rfl, o.sel [3, 0, 1, 2, 4, 5, 6, 7, 8, 9] (by decide)⟩
   | exact hJ _ _ ⟨_, _, _, _, _, _, _, rfl, o.sel [2, 0, 1, 3, 4, 5, 6, 7, 8, 9] (by decide)⟩
   | exact hJ _ _ ⟨_, _, _, _, _, _, _, rfl, o.sel [1, 0, 2, 3, 4, 5, 6, 7, 8, 9] (by decide)⟩
   | exact hJ _ _ ⟨_, _, _, _, _, _, _, rfl, o.sel [0, 1, 2, 3, 4, 5, 6, 7, 8, 9] (by decide)⟩
   | exact hJ _ _ ⟨_, _, _, _, _, _, _, rfl, o.sel [6, 0, 5, 1, 2, 3, 4, 7, 8, 9] (by decide)⟩
   | exact hJ _ _ ⟨_, _, _, _, _, _, _, rfl, o.sel [5, 0, 6, 1, 2, 3, 4, 7, 8, 9] (by decide)⟩
   | exact hJ _ _ ⟨_, _, _, _, _, _, _, rfl, o.sel [2, 0, 6, 1, 3, 4, 5, 7, 8, 9] (by decide)⟩
   | exact hJ _ _ ⟨_, _, _, _, _, _, _, rfl, o.sel [1, 0, 6, 2, 3, 4, 5, 7, 8, 9] (by decide)⟩
   | exact hJ _ _ ⟨_, _, _, _, _, _, _, rfl, o.sel [0, 1, 6, 2, 3, 4, 5, 7, 8, 9] (by decide)⟩
   | exact hJ _ _ ⟨_, _, _, _, _, _, _, rfl, o.sel [6, 0, 5, 4, 1, 2, 3, 7, 8, 9] (by decide)⟩
   | exact hJ _ _ ⟨_, _, _, _, _, _, _, rfl, o.sel [5, 0, 6, 4, 1, 2, 3, 7, 8, 9] (by decide)⟩
   | exact hJ _ _ ⟨_, _, _, _, _, _, _, rfl, o.sel [4, 0, 6, 5, 1, 2, 3, 7, 8, 9] (by decide)⟩
   | exact hJ _ _ ⟨_, _, _, _, _, _, _, rfl, o.sel [1, 0, 6, 5, 2, 3, 4, 7, 8, 9] (by decide)⟩
   | exact hJ _ _ ⟨_, _, _, _, _, _, _, rfl, o.sel [0, 1, 6, 5, 2, 3, 4, 7, 8, 9] (by decide)⟩
   | exact hJ _ _ ⟨_, _, _, _, _, _, _, rfl, o.sel [6, 0, 1, 5, 2, 3, 4, 7, 8, 9] (by decide)⟩
   | exact hJ _ _ ⟨_, _, _, _, _, _, _, rfl, o.sel [5, 0, 1, 6, 2, 3, 4, 7, 8, 9] (by decide)⟩
   | exact hJ _ _ ⟨_, _, _, _, _, _, _, rfl, o.sel [2, 0, 1, 6, 3, 4, 5, 7, 8, 9] (by decide)⟩
   | exact hJ _ _ ⟨_, _, _, _, _, _, _, rfl, o.sel [1, 0, 2, 6, 3, 4, 5, 7, 8, 9] (by decide)⟩
   | exact hJ _ _ ⟨_, _, _, _, _, _, _, rfl, o.sel [0, 1, 2, 6, 3, 4, 5, 7, 8, 9] (by decide)⟩
   | exact hJ _ _ ⟨_, _, _, _, _, _, _, rfl, o.sel [6, 0, 4, 5, 1, 2, 3, 7, 8, 9] (by decide)⟩
   | exact hJ _ _ ⟨_, _, _, _, _, _, _, rfl, o.sel [5, 0, 4, 6, 1, 2, 3, 7, 8, 9] (by decide)⟩
   | exact hJ _ _ ⟨_, _, _, _, _, _, _, rfl, o.sel [4, 0, 5, 6, 1, 2, 3, 7, 8, 9] (by decide)⟩
   | exact hJ _ _ ⟨_, _, _, _, _, _, _, rfl, o.sel [1, 0, 5, 6, 2, 3, 4, 7, 8, 9] (by decide)⟩
   | exact hJ _ _ ⟨_, _, _, _, _, _, _, rfl, o.sel [0, 1, 5, 6, 2, 3, 4, 7, 8, 9] (by decide)⟩)
 ·rintro ⟨y, ⟨⟩⟩ h' ⟨pt, tr, m, vs, sd, sa, so, hy, o1⟩
  dsimp only at hy ⊢
  subst hy
  rw [hfr] at o1
  exact growC_ok hR hN hn hr HM Hl hl o1 fun vm pm f kv h' ord hf o' => hK pt tr m pm b5 b4 b3 ord vs vm sd sa so f kv h' hf o'

end
open Go Go.Mh

section
variable {h0 h : Heap} {L : List Res} {K : Value -> Heap -> Prop}

theorem size_ok {tr v i j : Nat} {sd sa so mm vs : Value} {T : TypeId} {sz : List Int} (o : Own h0 h L) (hi : L[i]? = some (cellR tr [sd, sa, so, mm, vs] T)) (hj : L[j]? = some (xR vs sz)) (hv : v < sz.length) (hK : K (I (sz.getD v 0)) h) :
  callV Tryz.prog (.func (.func F_avoid_tree_size) #[ptr tr] #[]) [I v].toArray h K := by
 refine callV_of (l := [ptr tr, I v]) rfl (lk_avoid_tree_size _ _ ?_)
 unfold sh_avoid_tree_size
 simp only [pNil_ptr, pField_ptr]
 refine o.load i hi rfl ((o.vw j hj).atI hv ?_)
 rw [getD_at16 hv]
 exact hK

theorem next1_ok {b : Nat} {m : MV} {x : Nat} (hone : ∀ u ∈ encM m, u.cells = #[u]) (o : Own h0 h L) (i : Nat) (hi : L[i]? = some (cellR b [I x] T_int)) (hK : ∀ h', Ext h h' -> K (.bool (decide (m.node = x))) h') :
  callV Tryz.prog (.func (.func F_avoid_next_1) #[] #[ptr b]) [.agg (encM m).toArray].toArray h K := by
 refine callV_of (l := [.agg (encM m).toArray, ptr b]) rfl (lk_avoid_next_1 _ _ ?_)
 unfold sh_avoid_next_1
 refine (Own.start h).box fun m1 h1 o1 => ?_
 have o1 : Own h h1 [cellR m1 (encM m) T_avoid_mark] := o1
 have o2 := o.more o1.ext
 simp only [pField_ptr]
 refine o1.load 0 rfl rfl (o2.load i hi rfl ?_)
 rw [pBin_eql, show ((m.node : Int) == (x : Int)) = decide (m.node = x) by rw [Bool.eq_iff_iff, beq_iff_eq, decide_eq_true_eq]; omega]
 exact hK _ o1.ext

end
open Go Go.Mh

section
variable {h0 h : Heap} {L : List Res} {K : Value -> Heap -> Prop} {g : G} {r : Nat} {vc vm : Value} {c : List Int} {ms : List Int}

theorem pPart1_0 {a b c : Value} {K : Value -> Prop} (hk : K a) : pPart1 0 (.agg #[a, b, c]) K := hk
theorem takeNe {l : List Nat} {i : Nat} (h0 : i ≠ 0) (hi : i < l.length) : l.take i ≠ [] := by
 intro e
 rw [List.take_eq_nil_iff] at e
 rcases e with e | e
 ·exact h0 e
 ·subst e; cases hi

theorem minE {a b : Int} : (if b < a then b else a) = min a b := by split <;> omega

theorem closer_ok {m : Int} (o : Own h0 h L) (p : Nat) (hp : L[p]? = some (xR vc c)) (hc : c.length = g.n) (hR : g.Right) (H : NetR h r g) (hK : ∀ h', Own h0 h' (L.set p (xR vc (cl c (g.fromI m).dist))) -> K (.tuple #[]) h') :
  callS Tryz.prog F_far_closer [ptr r, vc, I m] h K := by
 refine callS_of (lk_far_closer _ _ _ ?_)
 unfold sh_far_closer
 have hmost := hR.most
 refine from_ok hR H fun sd sa so h1 o1 => ?_
 replace o1 := o.frame o1
 have hd : (g.fromI m).dist.length <= g.n := by
  have := tr_len hR (s := m)
  omega
 refine pPart1_0 ?_
 refine (o1.vw 0 rfl).len ?_
 refine LoopH_count (g.fromI m).dist.length (fun i x h' => x.1 = I i /\ Own h0 h' ([xR sd (g.fromI m).dist, slR encI 1 T_int sa (g.fromI m).arc, slR encN 1 T_int so (g.fromI m).order] ++ L.set p (xR vc (clp c (g.fromI m).dist i)))) ⟨rfl, by rw [clp_zero, set_same hp]; exact o1⟩ ?_
 clear o1
 rintro i ⟨x, ⟨⟩⟩ h' Z hi ⟨hx, o1⟩ hZ
 dsimp only at hx hZ ⊢
 subst hx
 unfold sh_far_closer_L1
 simp only [pBin_lss, ifV_dec]
 refine ⟨fun hlt => ?_, fun hge => ?_⟩
 ·have hlt : i < (g.fromI m).dist.length := by omega
  have hic : i < c.length := by omega
  have hq : ([xR sd (g.fromI m).dist, slR encI 1 T_int sa (g.fromI m).arc, slR encN 1 T_int so (g.fromI m).order] ++ L.set p (xR vc (clp c (g.fromI m).dist i)))[p + 3]? = some (xR vc (clp c (g.fromI m).dist i)) := by
   rw [List.getElem?_append_right (by simp)]
   exact set_get hp
  have hi2 : i < (clp c (g.fromI m).dist i).length := by rw [clp_len]; exact hic
  refine (o1.vw 0 rfl).atI hlt ?_
  rw [dAt_get hlt]
  refine (o1.vw (p + 3) hq).atI hi2 ?_
  rw [clp_at hic, pMin_int, minE]
  refine o1.setI (p + 3) hq hi2 fun h2 o2 => ?_
  rw [clp_step hic] at o2
  rw [pBin_add, wI i (by omega)]
  refine hZ (I (i + 1 : Nat), ()) h2 hlt ⟨rfl, ?_⟩
  rw [List.set_append_right _ _ (by simp)] at o2
  simp only [List.length_cons, List.length_nil, Nat.add_sub_cancel, List.set_set] at o2
  exact o2
 ·have : i = (g.fromI m).dist.length := by omega
  subst this
  exact hK h' o1.tail.tail.tail

theorem cover_ok (o : Own h0 h L) (hR : g.Right) (H : NetR h r g) (hm : Vw encI 1 h vm ms) (hml : ms.length < 2 ^ 40) (hK : ∀ w h', Own h0 h' (xR w (cov g ms) :: L) -> K w h') : callS Tryz.prog F_far_Cover [ptr r, vm] h K := by
 refine callS_of (lk_far_Cover _ _ ?_)
 unfold sh_far_Cover
 have hmost := hR.most
 refine (Own.start h).build (enc := encI) (n := 1) [far] rfl (sizesOk_of rfl) rfl fun w1 h1 o1 => ?_
 refine nodes_ok (H.more o1.ext) (repeat_int64 o1 (o1.vw 0 rfl) (by omega) fun w h2 o2 => ?_)
 refine hm.len ?_
 refine LoopH_count ms.length (fun i x h' => x.1 = I i /\ Own h h' [xR w (cov g (ms.take i))]) ⟨rfl, o2.sel [0] (by decide)⟩ ?_
 clear o2 o1
 rintro i ⟨x, ⟨⟩⟩ h' Z hi ⟨hx, o1⟩ hZ
 dsimp only at hx hZ ⊢
 subst hx
 unfold sh_far_Cover_L1
 simp only [pBin_lss, ifV_dec]
 refine ⟨fun hlt => ?_, fun hge => ?_⟩
 ·have hlt : i < ms.length := by omega
  have htk : ms.take (i + 1) = ms.take i ++ [ms[i]] := List.take_succ_eq_append_getElem hlt
  refine (hm.more o1.ext).atI hlt ?_
  generalize ms[i] = m at htk
  refine closer_ok o1 0 rfl cov_len hR (H.more o1.ext) fun h2 o2 => ?_
  rw [pBin_add, wI i (by omega)]
  refine hZ (I (i + 1 : Nat), ()) h2 hlt ⟨rfl, ?_⟩
  rw [htk, cov_snoc]
  exact o2
 ·have : i = ms.length := by omega
  subst this
  rw [List.take_length] at o1
  exact hK w h' (o.frame o1)

theorem best_ok {left : List Nat} {vl : Value} {c6 : Nat} {T1 : TypeId} (Hl : Vw encI 1 h vl (nI left)) (hc6 : h[c6]? = some (.cells #[vc] T1 (0, 0))) (Hc : Vw encI 1 h vc c) (hr : ∀ v ∈ left, v < c.length) (hll : left.length < 2 ^ 40)
  (hK : K (I (bst c left)) h) : callS Tryz.prog F_far_best_int [vl, .func (.func F_far_marks_1_1) #[] #[ptr c6]] h K := by
 refine callS_of (lk_far_best_int _ _ ?_)
 unfold sh_far_best_int
 refine Hl.len ?_
 rw [nI_len]
 refine LoopH_count left.length (fun i x h' => x.2.1 = I i /\ x.1 = I (bst c (left.take i)) /\ h' = h) ⟨rfl, rfl, rfl⟩ ?_
 rintro i ⟨x, y, ⟨⟩⟩ h' Z hi ⟨hy, hx, rfl⟩ hZ
 dsimp only at hx hy hZ ⊢
 subst hx hy
 unfold sh_far_best_int_L1
 simp only [pBin_lss, ifV_dec]
 refine ⟨fun hlt => ?_, fun hge => ?_⟩
 ·have hlt : i < left.length := by omega
  have hq : (nI left)[i]? = some ((left[i] : Nat) : Int) := by simp [nI, hlt]
  have htk : left.take (i + 1) = left.take i ++ [left[i]] := List.take_succ_eq_append_getElem hlt
  have hvr := hr _ (List.getElem_mem hlt)
  have hbm : i ≠ 0 -> bst c (left.take i) < c.length := fun h0 => hr _ (List.mem_of_mem_take (bst_mem (c := c) (takeNe h0 hlt)))
  refine Hl.atQ hq ?_
  generalize left[i] = v at hvr htk
  have k3 : ∀ b : Nat, b = bst c (left.take (i + 1)) -> sh_far_best_int_k3 Tryz.prog (I i) (fun a0 a1 hz => Z (a0, (a1, ())) hz) (I b) h' := by
   intro b e
   unfold sh_far_best_int_k3
   rw [pBin_add, wI i (by omega)]
   exact hZ (_, I (i + 1 : Nat), ()) h' hlt ⟨rfl, by rw [e], rfl⟩
  unfold sh_far_best_int_k2
  rw [pBin_eql]
  by_cases h0 : i = 0
  ·subst h0
   show ifV (.bool true) _ _
   rw [ifV_true]
   exact k3 v (by rw [htk]; rfl)
  ·rw [show ((i : Int) == 0) = false by simpa using h0, ifV_false]
   have hb := hbm h0
   have ne : left.take i ≠ [] := takeNe h0 hlt
   have bs := bst_snoc (c := c) (y := v) ne
   rw [<- htk] at bs
   generalize bst c (left.take i) = b at hb bs
   refine callV_of (l := [I v, I b, ptr c6]) rfl (lk_far_marks_1_1 _ _ _ ?_)
   unfold sh_far_marks_1_1
   have cc : hcell h' ⟨c6, 0, none⟩ = some vc := hcell_of hc6 rfl
   refine pLoad_of rfl cc (Hc.atI hvr (pLoad_of rfl cc (Hc.atI hb ?_)))
   have g1 : c[v] = c.getD v 0 := by simp [List.getD_eq_getElem?_getD, hvr]
   have g2 : c[b] = c.getD b 0 := by simp [List.getD_eq_getElem?_getD, hb]
   rw [g1, g2, pBin_gtr]
   show ifV (.bool (decide (c.getD b 0 < c.getD v 0))) _ _
   rw [ifV_dec]
   exact ⟨fun h => k3 v (by rw [bs, if_pos h]), fun h => k3 b (by rw [bs, if_neg h])⟩
 ·have : i = left.length := by omega
  subst this
  rw [List.take_length]
  exact hK

end
open Go Go.Mh

section
variable {h0 h : Heap} {L : List Res} {K : Value -> Heap -> Prop} {g : G} {r : Nat} {vl : Value} {left : List Nat} {m m8 : Nat} {T1 : TypeId}

theorem isM_ok {v : Nat} (hm : h[m8]? = some (.cells #[I m] T1 (0, 0))) (hK : K (.bool (decide (v = m))) h) : callV Tryz.prog (.func (.func F_far_marks_1_2) #[] #[ptr m8]) [I v].toArray h K := by
 refine callV_of (l := [I v, ptr m8]) rfl (lk_far_marks_1_2 _ _ ?_)
 unfold sh_far_marks_1_2
 have cm : hcell h ⟨m8, 0, none⟩ = some (I m) := hcell_of hm rfl
 refine pLoad_of rfl cm ?_
 rw [pBin_eql]
 have : ((v : Int) == (m : Int)) = decide (v = m) := Bool.eq_iff_iff.2 (by simp; omega)
 rw [this]; exact hK

theorem idx_ok (Hl : Vw encI 1 h vl (nI left)) (hm : h[m8]? = some (.cells #[I m] T1 (0, 0))) (hll : left.length < 2 ^ 40) (hin : m ∈ left)
  (hK : ∀ i (hi : i < left.length), left[i] = m -> m ∉ left.take i -> K (I i) h) : callS Tryz.prog F_slices_IndexFunc_sl_int_int [vl, .func (.func F_far_marks_1_2) #[] #[ptr m8]] h K := by
 refine callS_of (lk_slices_IndexFunc_sl_int_int _ _ ?_)
 unfold sh_slices_IndexFunc_sl_int_int
 refine Hl.len ?_
 rw [nI_len]
 refine LoopH_count left.length (fun i x h' => x.1 = I i /\ m ∉ left.take i /\ h' = h) ⟨rfl, by simp, rfl⟩ ?_
 rintro i ⟨x, ⟨⟩⟩ h' Z hi ⟨hx, hn, rfl⟩ hZ
 dsimp only at hx hZ ⊢
 subst hx
 unfold sh_slices_IndexFunc_sl_int_int_L1
 simp only [pBin_lss, ifV_dec]
 refine ⟨fun hlt => ?_, fun hge => ?_⟩
 ·have hlt : i < left.length := by omega
  have hq : (nI left)[i]? = some ((left[i] : Nat) : Int) := by simp [nI, hlt]
  refine Hl.atQ hq (isM_ok hm ?_)
  show ifV (.bool (decide (left[i] = m))) _ _
  rw [ifV_dec]
  refine ⟨fun e => hK i hlt e hn, fun e => ?_⟩
  rw [pBin_add, wI i (by omega)]
  refine hZ (I (i + 1 : Nat), ()) _ hlt ⟨rfl, ?_, rfl⟩
  rw [List.take_succ_eq_append_getElem hlt, List.mem_append, not_or]
  exact ⟨hn, by simpa using fun h => e h.symm⟩
 ·have : i = left.length := by omega
  subst this
  rw [List.take_length] at hn
  exact absurd hin hn

theorem filter_no {l : List Nat} (h : m ∉ l) : l.filter (· != m) = l := by
 rw [List.filter_eq_self]
 intro a ha
 simp only [bne_iff_ne]
 intro e; subst e; exact h ha

theorem delete_ok {p q : Nat} (o : Own h0 h L) (hp : L[p]? = some (slR encI 1 T_int vl (nI left))) (hq : L[q]? = some (cellR m8 [I m] T1)) (hpq : p ≠ q) (hll : left.length < 2 ^ 40) (hin : m ∈ left)
  (hK : ∀ v' h', Own h0 h' (L.set p (slR encI 1 T_int v' (nI (left.filter (· != m))))) -> K v' h') : callS Tryz.prog F_slices_DeleteFunc_sl_int_int [vl, .func (.func F_far_marks_1_2) #[] #[ptr m8]] h K := by
 refine callS_of (lk_slices_DeleteFunc_sl_int_int _ _ ?_)
 unfold sh_slices_DeleteFunc_sl_int_int
 refine idx_ok (o.vw p hp) (o.get q hq) hll hin fun i0 hi0 e0 n0 => ?_
 rw [pBin_eql, show ((i0 : Int) == -1) = false by simp, ifV_false, pBin_add, wI i0 (by omega)]
 have hset : ∀ {ys : List Int}, (L.set p (slR encI 1 T_int vl ys))[p]? = some (slR encI 1 T_int vl ys) := set_get hp
 have hqs : ∀ {r : Res}, (L.set p r)[q]? = some (cellR m8 [I m] T1) := fun {r} => by rw [List.getElem?_set_ne hpq]; exact hq
 have f0 : (left.take (i0 + 1)).filter (· != m) = left.take i0 := by
  rw [List.take_succ_eq_append_getElem hi0, List.filter_append, filter_no n0, e0]
  simp
 refine LoopH_count (left.length - (i0 + 1)) (fun k x h' => ∃ (ys : List Int) (a : Nat), x.1 = I a /\ x.2.1 = I ((i0 + 1 + k : Nat) : Int) /\ a < i0 + 1 + k /\ ys.length = left.length /\ ys.take a = nI ((left.take (i0 + 1 + k)).filter (· != m)) /\ ys.drop (i0 + 1 + k) = (nI left).drop (i0 + 1 + k) /\ Own h0 h' (L.set p (slR encI 1 T_int vl ys)))
  ⟨nI left, i0, rfl, rfl, by omega, nI_len, by rw [Nat.add_zero, f0]; simp [nI, List.map_take], rfl, by rw [set_same hp]; exact o⟩ ?_
 clear o
 rintro k ⟨x, y, ⟨⟩⟩ h' Z hk ⟨ys, a, hx, hy, haj, hyl, hta, hdr, o⟩ hZ
 dsimp only at hx hy hZ ⊢
 subst hx hy
 generalize hj : i0 + 1 + k = j at haj hta hdr hZ
 unfold sh_slices_DeleteFunc_sl_int_int_L1
 refine (o.vw p hset).len ?_
 rw [hyl]
 simp only [pBin_lss, ifV_dec]
 refine ⟨fun hlt => ?_, fun hge => ?_⟩
 ·have hlt : j < left.length := by omega
  have hyq : ys[j]? = some ((left[j] : Nat) : Int) := by
   have := congrArg (fun l : List Int => l[0]?) hdr
   simp only [List.getElem?_drop, Nat.add_zero] at this
   rw [this]; simp [nI, hlt]
  have htk : left.take (j + 1) = left.take j ++ [left[j]] := List.take_succ_eq_append_getElem hlt
  refine (o.vw p hset).atQ hyq (isM_ok (o.get q hqs) ?_)
  generalize left[j] = v at hyq htk
  have next : ∀ (zs : List Int) (b : Nat) h2, b < j + 1 -> zs.length = left.length -> zs.take b = nI ((left.take (j + 1)).filter (· != m)) -> zs.drop (j + 1) = (nI left).drop (j + 1) -> Own h0 h2 (L.set p (slR encI 1 T_int vl zs)) -> sh_slices_DeleteFunc_sl_int_int_k2 Tryz.prog (I j) (fun a0 a1 hz => Z (a0, (a1, ())) hz) (I b) h2 := by
   intro zs b h2 hb hzl hzt hzd oz
   unfold sh_slices_DeleteFunc_sl_int_int_k2
   rw [pBin_add, wI j (by omega)]
   have ej : i0 + 1 + (k + 1) = j + 1 := by omega
   exact hZ (I b, I (j + 1 : Nat), ()) h2 (by omega) ⟨zs, b, rfl, by rw [ej], by omega, hzl, by rw [ej]; exact hzt, by rw [ej]; exact hzd, oz⟩
  have dropS : ys.drop (j + 1) = (nI left).drop (j + 1) := by
   have := congrArg (List.drop 1) hdr
   simpa [List.drop_drop, Nat.add_comm] using this
  rw [pUn_not]
  by_cases hv : v = m
  ·rw [decide_eq_true hv, Bool.not_true, ifV_false]
   refine next ys a h' (by omega) hyl ?_ dropS o
   rw [htk, List.filter_append, hv, hta]; simp
  ·rw [decide_eq_false hv, Bool.not_false, ifV_true]
   refine o.setI p hset (by omega) fun h2 o2 => ?_
   rw [List.set_set] at o2
   rw [pBin_add, wI a (by omega)]
   refine next (ys.set a v) (a + 1) h2 (by omega) (by rw [List.length_set]; exact hyl) ?_ ?_ o2
   ·rw [htk, List.filter_append]
    have : [v].filter (· != m) = [v] := by simp [hv]
    rw [this]
    have e1 : (ys.set a (v : Int)).take (a + 1) = ys.take a ++ [(v : Int)] := by
     rw [List.take_succ_eq_append_getElem (by rw [List.length_set]; omega), List.getElem_set_self, List.take_set_of_le (Nat.le_refl _)]
    rw [e1, hta]; simp [nI]
   ·rw [List.drop_set_of_lt (by omega)]; exact dropS
 ·have hjl : j = left.length := by omega
  subst hjl
  have hal : a <= ys.length := by omega
  refine o.clearTail p hset hal fun h2 o2 => ?_
  rw [List.set_set] at o2
  refine o2.pre encI_len p (set_get hp) (by simp; omega) fun v' o3 => ?_
  rw [List.set_set] at o3
  rw [List.take_length] at hta
  have e : (ys.take a ++ List.replicate (ys.length - a) (0 : Int)).take a = nI (left.filter (· != m)) := by
   rw [List.take_append_of_le_length (by simp; omega), List.take_take, Nat.min_self]
   exact hta
  rw [e] at o3
  exact hK v' h2 o3

end
open Go Go.Mh

section
variable {h0 h : Heap} {L : List Res} {K : Value -> Heap -> Prop} {g : G} {r : Nat}

def upto (n i : Nat) : List Int := nI (List.range i) ++ List.replicate (n - i) 0
theorem upto_step {n i : Nat} (h : i < n) : (upto n i).set i (i : Int) = upto n (i + 1) := by
 unfold upto
 have hl : (nI (List.range i)).length = i := by rw [nI_len, List.length_range]
 rw [List.set_append_right _ _ (by omega), hl, Nat.sub_self, show n - i = (n - (i + 1)) + 1 by omega, List.replicate_succ, List.set_cons_zero, List.range_succ]
 simp [nI]

theorem fmarks_iter {n2 f3 : Nat} {first : Int} {T1 T2 : TypeId} (hR : g.Right) :
  IterG Tryz.prog (.func (.func F_far_marks_1) #[] #[ptr n2, ptr f3]) (fun h => h[n2]? = some (.cells #[ptr r] T1 (0, 0)) /\ h[f3]? = some (.cells #[I first] T2 (0, 0)) /\ NetR h r g) (σ := Nat × List Nat × List Int)
   (0, List.range g.n, cov g [first]) (mNext g) (fun p => p.2.1 = []) := by
 rintro yv h0 h Rs K J E ⟨l, rfl⟩ o j0 hQ hY hK
 refine callF_of (l := [yieldV l, ptr n2, ptr f3]) rfl (lk_far_marks_1 _ _ _ ?_)
 unfold sh_far_marks_1
 have hmost := hR.most
 obtain ⟨hn, hf, hN⟩ := hQ _ _ _ j0 o
 have cn : hcell h ⟨n2, 0, none⟩ = some (ptr r) := hcell_of hn rfl
 have cf : hcell h ⟨f3, 0, none⟩ = some (I first) := hcell_of hf rfl
 refine pLoad_of rfl cn (nodes_ok hN ?_)
 refine (Own.start h).make (enc := encI) (n := 1) (a := 0) rfl (by omega) (by omega) fun vl h1 o1 => ?_
 refine (o1.vw 0 rfl).len ?_
 rw [List.length_replicate]
 refine LoopH_count g.n (fun i x h' => x.1 = I i /\ Own h h' [slR encI 1 T_int vl (upto g.n i)]) ⟨rfl, by simpa [upto, nI] using o1⟩ ?_
 clear o1
 rintro i ⟨x, ⟨⟩⟩ h1 Z hi ⟨hx, o1⟩ hZ
 dsimp only at hx hZ ⊢
 subst hx
 unfold sh_far_marks_1_L1
 have hul : (upto g.n i).length = g.n := by unfold upto; rw [List.length_append, nI_len, List.length_range, List.length_replicate]; omega
 simp only [pBin_lss, ifV_dec]
 refine ⟨fun hlt => ?_, fun hge => ?_⟩
 ·have hlt : i < g.n := by omega
  refine o1.setI 0 rfl (by omega) fun h2 o2 => ?_
  rw [upto_step hlt] at o2
  rw [pBin_add, wI i (by omega)]
  exact hZ (I (i + 1 : Nat), ()) h2 hlt ⟨rfl, o2⟩
 ·have : i = g.n := by omega
  subst this
  have eu : upto g.n g.n = nI (List.range g.n) := by unfold upto; rw [Nat.sub_self, List.replicate_zero, List.append_nil]
  rw [eu] at o1
  refine pLoad_of rfl (hcell_more o1.ext cn) (pLoad_of rfl (hcell_more o1.ext cf) ?_)
  refine o1.build (enc := encI) (n := 1) [first] rfl (sizesOk_of rfl) rfl fun wf h2 o2 => ?_
  refine cover_ok o2 hR (hN.more o2.ext) (o2.vw 0 rfl) (by simp) fun vc h3 o3 => ?_
  have hvc := o3.vw 0 rfl
  refine o3.box fun c6 h4 o4 => o4.st1 0 (cs' := [vc]) rfl rfl rfl hvc.one hvc.plain fun h5 o5 => ?_
  have o6 : Own h0 h5 ([slR encI 1 T_int vl (nI (List.range g.n)), cellR c6 [vc] T_sl_int64, xR vc (cov g [first])] ++ Rs) := o.frame (o5.sel [3, 0, 1] (by decide))
  clear o5 o4 o3 o2 o1 hZ eu hul
  refine LoopH_down (fun k x h' => ∃ (left : List Nat) (i : Nat) (c : List Int) (vc : Value) (Rs' : List Res), k = left.length /\ x.2.1 = I i /\ i + left.length <= g.n /\ c.length = g.n /\ (∀ v ∈ left, v < g.n) /\ left.Nodup /\ J (i, left, c) Rs' /\
   Own h0 h' ([slR encI 1 T_int x.1 (nI left), cellR c6 [vc] T_sl_int64, xR vc c] ++ Rs')) (k0 := g.n) ⟨List.range g.n, 0, cov g [first], vc, Rs, by simp, rfl, by simp, cov_len, by simp, List.nodup_range, j0, o6⟩ ?_
  clear o6 hvc hn hf hN cn cf o j0
  rintro k ⟨vl, y, ⟨⟩⟩ h6 Z2 ⟨left, i, c, vc, Rs', rfl, hy, hil, hcl, hlr, hnd, hj, o⟩ hZ2
  dsimp only at hy o hZ2 ⊢
  subst hy
  unfold sh_far_marks_1_L2
  refine (o.vw 0 rfl).len ?_
  rw [nI_len]
  simp only [pBin_gtr, ifV_dec]
  refine ⟨fun hpos => ?_, fun hz => ?_⟩
  ·have hne : left ≠ [] := fun e => by subst e; simp at hpos
   obtain ⟨hn, hf, hN⟩ := hQ _ _ _ hj o.tail.tail.tail
   have hm := bst_mem (c := c) hne
   have hmn := hlr _ hm
   refine best_ok (o.vw 0 rfl) (o.get 1 rfl) (o.vw 2 rfl) (fun v hv => by rw [hcl]; exact hlr v hv) (by omega) ?_
   have nx : mNext g (i, left, c) [I (bst c left)] (i + 1, left.filter (· != bst c left), cl (if i = 0 then List.replicate g.n far else c) (g.fromI (bst c left)).dist) := ⟨hne, rfl, rfl⟩
   have hfl : (left.filter (· != bst c left)).length < left.length := by
    have := List.length_filter_lt_length_iff_exists (l := left) (p := (· != bst c left))
    exact this.2 ⟨_, hm, by simp⟩
   generalize bst c left = m at hm hmn nx hfl
   refine o.box fun m8 h7 o7 => o7.st1 0 (cs' := [I m]) rfl rfl rfl rfl rfl fun h8 o8 => o8.load 0 rfl rfl ?_
   have o9 : Own h0 h8 (Rs' ++ [cellR m8 [I m] T_int, slR encI 1 T_int vl (nI left), cellR c6 [vc] T_sl_int64, xR vc c]) := Own.comm (L := [cellR m8 [I m] T_int, slR encI 1 T_int vl (nI left), cellR c6 [vc] T_sl_int64, xR vc c]) o8
   refine hY _ _ _ Rs' _ h8 _ nx hj o9 (fun Rs'' h9 hj' o' => ?_) fun Rs'' h9 he o' => ?_
   ·rw [pUn_not, Bool.not_true, ifV_false]
    have o10 : Own h0 h9 ([cellR m8 [I m] T_int, slR encI 1 T_int vl (nI left), cellR c6 [vc] T_sl_int64, xR vc c] ++ Rs'') := Own.comm o'
    refine delete_ok o10 (p := 1) (q := 0) rfl rfl (by decide) (by omega) hm fun vl' h10 o11 => ?_
    obtain ⟨hn', hf', hN'⟩ := hQ _ _ _ hj' o11.tail.tail.tail.tail
    have cn' : hcell h10 ⟨n2, 0, none⟩ = some (ptr r) := hcell_of hn' rfl
    have k3 : ∀ (vc' : Value) (c' : List Int) h11, c'.length = g.n -> c' = (if i = 0 then List.replicate g.n far else c) -> Own h0 h11 ([cellR m8 [I m] T_int, slR encI 1 T_int vl' (nI (left.filter (· != m))), cellR c6 [vc'] T_sl_int64, xR vc' c'] ++ Rs'') ->
      sh_far_marks_1_k3 Tryz.prog (ptr n2) (ptr c6) (ptr m8) (I i) (fun a0 a1 hz => Z2 (a0, (a1, ())) hz) vl' h11 := by
     intro vc' c' h11 hcl' hc' o12
     unfold sh_far_marks_1_k3
     obtain ⟨hn', hf', hN'⟩ := hQ _ _ _ hj' o12.tail.tail.tail.tail
     have cn' : hcell h11 ⟨n2, 0, none⟩ = some (ptr r) := hcell_of hn' rfl
     refine pLoad_of rfl cn' (o12.load 2 rfl rfl (o12.load 0 rfl rfl ?_))
     refine closer_ok o12 3 rfl hcl' hR hN' fun h12 o13 => ?_
     rw [pBin_add, wI i (by omega)]
     refine hZ2 (vl', I (i + 1 : Nat), ()) h12 (left.filter (· != m)).length hfl ⟨left.filter (· != m), i + 1, cl c' (g.fromI m).dist, vc', Rs'', rfl, rfl, by omega, by rw [cl_len]; exact hcl', fun v hv => hlr v (List.mem_filter.1 hv).1, hnd.filter _, by rw [hc']; exact hj', o13.tail⟩
    rw [pBin_eql]
    by_cases h0 : i = 0
    ·subst h0
     show ifV (.bool true) _ _
     rw [ifV_true]
     refine pLoad_of rfl cn' (cover_ok o11 hR hN' .nil (by decide) fun vc' h11 o12 => ?_)
     have hvc' := o12.vw 0 rfl
     refine o12.st1 3 (cs' := [vc']) rfl rfl rfl hvc'.one hvc'.plain fun h12 o13 => ?_
     refine k3 vc' (cov g []) h12 cov_len rfl ?_
     exact o13.front 5 [1, 2, 3, 0] (by decide) (by decide)
    ·rw [show ((i : Int) == 0) = false by simpa using h0, ifV_false]
     exact k3 vc c h10 hcl (by rw [if_neg h0]) o11
   ·rw [pUn_not, Bool.not_false, ifV_true]
    exact hK _ _ (.inr he) o'.left
  ·have hle : left = [] := List.eq_nil_of_length_eq_zero (by omega)
   exact hK _ _ (.inl ⟨_, hle, hj⟩) o.tail.tail.tail

end
open Go Go.Mh

section
variable {h0 h : Heap} {L : List Res} {K : Value -> Heap -> Prop} {g : G} {r : Nat}

abbrev encU (x : Int) : List Value := encK .u32 x
theorem encU_plain (x : Int) : ∀ u ∈ encU x, Mh.plainCell u = true := by intro u hu; simp [encK] at hu; subst hu; rfl

def drawP : List Int -> Nat -> Int × List Int
 | [], _ => (0, [])
 | x :: r, n => (x.tmod n, r)

theorem dnew_ok {vl : Value} {xs : List Int} (o : Own h0 h L) (Hl : Vw encU 1 h vl xs) (hb : (xs.length : Int) * 4 <= 2 ^ 48) (hK : ∀ pd w h', Own h0 h' (cellR pd [w] T_draw_Draws :: quR encU 1 T_uint32 w xs :: L) -> K (ptr pd) h') : callS Tryz.prog F_draw_New [vl] h K := by
 refine callS_of (lk_draw_New _ ?_)
 unfold sh_draw_New
 refine Hl.len ?_
 refine (Own.start h).make (enc := encU) (n := 1) (a := 0) (m := xs.length) rfl (by omega) (by omega) fun w h1 o1 => ?_
 refine o1.copyAll (ys := xs) 0 rfl (fun _ => rfl) encU_plain (Hl.more o1.ext) (by simp) fun h2 o2 => ?_
 have hw := o2.vw 0 rfl
 refine pBuild_ones (cs' := [w]) (fun p hp => by simp at hp; subst hp; exact hw.one) rfl rfl ?_
 refine o2.box fun pd h3 o3 => ?_
 have o4 := o3.que 1 rfl
 exact hK pd w h3 (o.frame o4)

theorem dleft_ok {pd : Nat} {vl : Value} {xs : List Int} (o : Own h0 h L) (p q : Nat) (hp : L[p]? = some (cellR pd [vl] T_draw_Draws)) (hq : L[q]? = some (quR encU 1 T_uint32 vl xs)) (hK : K (I xs.length) h) : callS Tryz.prog F_draw_Draws_Left [ptr pd] h K := by
 refine callS_of (lk_draw_Draws_Left _ ?_)
 unfold sh_draw_Draws_Left
 simp only [pEq_ptr_nil, Option.isNone_some, ifV_false]
 simp only [pNil_ptr, pField_ptr]
 exact o.load p hp rfl ((o.qvw q hq).len hK)

theorem dnext_ok {pd n : Nat} {vl : Value} {xs : List Int} (o : Own h0 h L) (p q : Nat) (hp : L[p]? = some (cellR pd [vl] T_draw_Draws)) (hq : L[q]? = some (quR encU 1 T_uint32 vl xs)) (hpq : p ≠ q) (hn : 1 <= n) (hn2 : n < 2 ^ 40) (hxl : xs.length < 2 ^ 62) (hr : ∀ x ∈ xs, 0 <= x /\ x <= 4294967295)
  (hK : ∀ vl' h', Own h0 h' ((L.set p (cellR pd [vl'] T_draw_Draws)).set q (quR encU 1 T_uint32 vl' (drawP xs n).2)) -> K (I (drawP xs n).1) h') : callS Tryz.prog F_draw_Draws_Next [ptr pd, I n] h K := by
 refine callS_of (lk_draw_Draws_Next _ _ ?_)
 unfold sh_draw_Draws_Next
 rw [pBin_lss, decide_eq_false (by omega), ifV_false]
 refine dleft_ok o p q hp hq ?_
 rw [pBin_eql]
 cases xs with
 | nil =>
  show ifV (.bool true) _ _
  rw [ifV_true]
  unfold sh_draw_Draws_Next_k1
  refine hK vl h ?_
  rw [set_same hp]
  have : L.set q (quR encU 1 T_uint32 vl (drawP [] n).2) = L := set_same hq
  rw [this]; exact o
 | cons x r =>
  rw [show (((x :: r).length : Int) == 0) = false by simp; omega, ifV_false]
  simp only [pNil_ptr, pField_ptr]
  refine o.load p hp rfl ?_
  refine callS_of (lk_draw_first_uint32 _ ?_)
  unfold sh_draw_first_uint32
  have hx := hr x (List.mem_cons_self ..)
  refine (o.qvw q hq).at1 (e := fun x : Int => .int .u32 x) (fun _ => rfl) (i := 0) (by simp) ?_
  refine (o.qvw q hq).len ((o.qvw q hq).len ?_)
  refine o.qtail3 (fun _ => rfl) q hq (by simp) fun v' o1 => ?_
  simp only [pExt0, pExt1]
  try simp only [pNil_ptr, pField_ptr]
  have hp1 : (L.set q (quR encU 1 T_uint32 v' r))[p]? = some (cellR pd [vl] T_draw_Draws) := by rw [List.getElem?_set_ne (Ne.symm hpq)]; exact hp
  have hv' := o1.qvw q (set_get hq)
  refine o1.st1 p hp1 (cs' := [v']) rfl rfl hv'.one hv'.plain fun h2 o2 => ?_
  simp only [pConv_int]
  rw [show ((x :: r)[0]'(by simp)) = x from rfl, w64 (by omega) (by omega), pBin_rem]
  refine ⟨by omega, hK v' h2 ?_⟩
  rw [List.set_comm _ _ (Ne.symm hpq)] at o2
  exact o2

theorem fmarks_ok {k : Nat} {PL : List Res -> Prop} {first : Int} {d : Value} (hR : g.Right) (H0 : ∀ {h' L'}, PL L' -> Own h0 h' L' -> NetR h' r g) (hk : 1 <= k) (hkl : k < 2 ^ 40)
  (hd : ∀ {K' : Value -> Heap -> Prop} {h1 : Heap} {A : List Res}, Own h h1 A -> (∀ h2 L', PL L' -> Own h0 h2 (A ++ L') -> K' (I first) h2) -> callS Tryz.prog F_draw_Draws_Next [d, I g.n] h1 K') (H1 : NetR h r g)
  (hK : ∀ w h' L', PL L' -> Own h0 h' (slR encI 1 T_int w (nI (mgo g k 0 (List.range g.n) (cov g [first]))) :: L') -> K w h') : callS Tryz.prog F_far_Marks [ptr r, I k, d] h K := by
 refine callS_of (lk_far_Marks _ _ _ ?_)
 unfold sh_far_Marks
 have hmost := hR.most
 refine (Own.start h).box fun k4 h1 o1 => o1.box fun l6 h2 o2 => ?_
 simp only [pEq_ptr_nil, Option.isNone_some, ifV_false]
 refine o2.load 1 rfl rfl ?_
 rw [pBin_lss, decide_eq_false (by omega), ifV_false]
 refine nodes_ok (H1.more o2.ext) (hd o2 fun h3 L' hPL o3 => ?_)
 have H : ∀ {h'}, Own h0 h' L' -> NetR h' r g := fun o => H0 hPL o
 refine callS_of (lk_far_marks _ _ ?_)
 unfold sh_far_marks
 refine o3.box fun n2 h4 o4 => o4.box fun f3 h5 o5 => ?_
 have o5 : Own h0 h5 ([cellR f3 [I first] T_int, cellR n2 [ptr r] T_p_net_Net, cellR l6 [.slice none 0 0] T_sl_int, cellR k4 [I k] T_int] ++ L') := o5
 have o6 : Own h0 h5 ([cellR f3 [I first] T_int, cellR n2 [ptr r] T_p_net_Net, slR encI 1 T_int (.slice none 0 0) (nI []), cellR l6 [.slice none 0 0] T_sl_int, cellR k4 [I k] T_int] ++ L') := (o5.nilS (enc := encI) (n := 1) (T := T_int)).front 5 [1, 2, 0, 3, 4] (by decide) (by decide)
 generalize hall : mgo g k 0 (List.range g.n) (cov g [first]) = all at hK
 refine o6.range (fmarks_iter (r := r) (T1 := T_p_net_Net) (T2 := T_int) hR) (by rintro p x p' ⟨_, rfl, _⟩; rfl)
  (fun p Rs => ∃ acc vl, acc.length = p.1 /\ p.1 < k /\ all = acc ++ mgo g (k - p.1) p.1 p.2.1 p.2.2 /\ Rs = [cellR f3 [I first] T_int, cellR n2 [ptr r] T_p_net_Net, slR encI 1 T_int vl (nI acc), cellR l6 [vl] T_sl_int, cellR k4 [I k] T_int] ++ L')
  (fun _ => False)
  (fun id Rs => id = 0 /\ ∃ vl, Rs = [cellR f3 [I first] T_int, cellR n2 [ptr r] T_p_net_Net, slR encI 1 T_int vl (nI all), cellR l6 [vl] T_sl_int, cellR k4 [I k] T_int] ++ L')
  ⟨[], .slice none 0 0, rfl, by omega, hall.symm, rfl⟩ ?_ ?_ ?_ (fun _ _ h => h.elim) ?_
 ·rintro p Rs' h' ⟨acc, vl, _, _, _, rfl⟩ o'
  exact ⟨o'.get 1 rfl, o'.get 0 rfl, H o'.tail.tail.tail.tail.tail⟩
 ·rintro M ⟨i, left, c⟩ x p' Rs' Pr h' R ⟨hne, rfl, rfl⟩ ⟨acc, vl, hacc, hik, hch, rfl⟩ o' hN _ hX
  dsimp only [valsOf] at hne hacc hik hch ⊢
  rw [show k - i = (k - (i + 1)) + 1 by omega, mgo_next hne] at hch
  generalize bst c left = m at hch hN
  unfold sh_far_Marks_B2
  refine o'.begin 0 rfl fun h9 o9 => ?_
  have o9 : Own h0 h9 (loopR _ _ :: markR _ :: cellR f3 [I first] T_int :: cellR n2 [ptr r] T_p_net_Net :: slR encI 1 T_int vl (nI acc) :: cellR l6 [vl] T_sl_int :: cellR k4 [I k] T_int :: (L' ++ Pr)) := o9
  refine o9.load 5 rfl rfl ?_
  refine o9.app1 4 (m : Int) rfl rfl (sizesOk_of rfl) encI_len encI_plain rfl (by decide) (by rw [nI_len]; omega) fun vl' h10 o10 => ?_
  have e1 : nI acc ++ [(m : Int)] = nI (acc ++ [m]) := by simp [nI]
  rw [e1] at o10
  have hv' := o10.vw 4 rfl
  refine o10.st1 5 (cs' := [vl']) rfl rfl rfl hv'.one hv'.plain fun h11 o11 => o11.load 5 rfl rfl ?_
  refine (o11.vw 4 rfl).len (o11.load 6 rfl rfl ?_)
  rw [nI_len, List.length_append, List.length_singleton, pBin_eql]
  by_cases hik2 : i + 1 = k
  ·rw [show (((acc.length + 1 : Nat) : Int) == (k : Int)) = true by simp; omega, ifV_true]
   refine hX 0 ([cellR f3 [I first] T_int, cellR n2 [ptr r] T_p_net_Net, slR encI 1 T_int vl' (nI all), cellR l6 [vl'] T_sl_int, cellR k4 [I k] T_int] ++ L') h11 ⟨rfl, vl', rfl⟩ ?_
   have : all = acc ++ [m] := by rw [hch, show k - (i + 1) = 0 by omega]; rfl
   rw [this]
   exact o11
  ·rw [show (((acc.length + 1 : Nat) : Int) == (k : Int)) = false by simp; omega, ifV_false]
   refine hN ([cellR f3 [I first] T_int, cellR n2 [ptr r] T_p_net_Net, slR encI 1 T_int vl' (nI (acc ++ [m])), cellR l6 [vl'] T_sl_int, cellR k4 [I k] T_int] ++ L') h11 ⟨acc ++ [m], vl', by simp [hacc], by omega, by rw [hch]; simp, rfl⟩ ?_
   exact o11
 ·rintro ⟨i, left, c⟩ h' Rs' hst ⟨acc, vl, hacc, hik, hch, rfl⟩ o'
  dsimp only at hst hch
  subst hst
  have : all = acc := by
   rw [hch, show k - i = (k - (i + 1)) + 1 by dsimp only at hik; omega]; simp [mgo]
  subst this
  unfold sh_far_Marks_k3
  have o' : Own h0 h' (markR _ :: cellR f3 [I first] T_int :: cellR n2 [ptr r] T_p_net_Net :: slR encI 1 T_int vl (nI all) :: cellR l6 [vl] T_sl_int :: cellR k4 [I k] T_int :: L') := o'
  have hv := o'.vw 3 rfl
  refine o'.load 4 rfl rfl (o'.st1 4 (cs' := [vl]) rfl rfl rfl hv.one hv.plain fun h9 o9 => o9.take1 0 rfl fun h10 o10 => o10.load 4 rfl rfl (hK vl h10 L' hPL ?_))
  exact o10.front 6 [3] (by decide) (by decide)
 ·rintro id h' Rs' ⟨rfl, vl, rfl⟩ o'
  show sh_far_Marks_k3 Tryz.prog (ptr l6) h5 K h'
  unfold sh_far_Marks_k3
  have o' : Own h0 h' (markR _ :: cellR f3 [I first] T_int :: cellR n2 [ptr r] T_p_net_Net :: slR encI 1 T_int vl (nI all) :: cellR l6 [vl] T_sl_int :: cellR k4 [I k] T_int :: L') := o'
  have hv := o'.vw 3 rfl
  refine o'.load 4 rfl rfl (o'.st1 4 (cs' := [vl]) rfl rfl rfl hv.one hv.plain fun h9 o9 => o9.take1 0 rfl fun h10 o10 => o10.load 4 rfl rfl (hK vl h10 L' hPL ?_))
  exact o10.front 6 [3] (by decide) (by decide)

theorem fmarksD_ok {k pd : Nat} {vl : Value} {xs : List Int} {N : Res} (o : Own h0 h (cellR pd [vl] T_draw_Draws :: quR encU 1 T_uint32 vl xs :: L)) (p : Nat) (hp : L[p]? = some N) (hR : g.Right) (hN : netR N r g) (hk : 1 <= k) (hkl : k < 2 ^ 40) (hxl : xs.length < 2 ^ 62) (hr : ∀ x ∈ xs, 0 <= x /\ x <= 4294967295)
  (hK : ∀ w vl' h', Own h0 h' (slR encI 1 T_int w (nI (mgo g k 0 (List.range g.n) (cov g [(drawP xs g.n).1]))) :: cellR pd [vl'] T_draw_Draws :: quR encU 1 T_uint32 vl' (drawP xs g.n).2 :: L) -> K w h') : callS Tryz.prog F_far_Marks [ptr r, I k, ptr pd] h K := by
 have hpos := hR.pos
 have hmost := hR.most
 refine fmarks_ok (PL := fun L2 => ∃ vl', L2 = cellR pd [vl'] T_draw_Draws :: quR encU 1 T_uint32 vl' (drawP xs g.n).2 :: L) (first := (drawP xs g.n).1) hR ?_ hk hkl ?_ (hN _ (o.get (p + 2) hp)) fun w h' L' ⟨vl', e⟩ o' => hK w vl' h' (by subst e; exact o')
 ·rintro h' L' ⟨vl', rfl⟩ o'
  exact hN _ (o'.get (p + 2) hp)
 ·intro K' h1 A oA hk'
  have o1 := o.frame oA
  refine dnext_ok o1 A.length (A.length + 1) (by rw [List.getElem?_append_right (Nat.le_refl _), Nat.sub_self]; rfl) (by rw [List.getElem?_append_right (by omega), Nat.add_sub_cancel_left]; rfl) (by omega) hpos (by omega) hxl hr fun vl' h2 o2 => hk' h2 _ ⟨vl', rfl⟩ ?_
  rw [List.set_append_right _ _ (Nat.le_refl _), Nat.sub_self, List.set_cons_zero, List.set_append_right _ _ (by omega), Nat.add_sub_cancel_left] at o2
  exact o2

end
end Go.Proofs.YtmdldoolnhpaeaaGreatDoor
