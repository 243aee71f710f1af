/- Texts of the proofs of seat YtmdldoolnhpaeaaGreatDoor, joined: AvD, AvE, AvF, AvG, FaA, FaB, FaC, FaD, AvH, AvI, BdB, R7C, F31A, SkA, RvA, SkB, SkC, F31B, AsT, ChX, ChY, ChW, AsU. They have no conditions of their own. -/
import Derived.Test.YtmdldoolnhpaeaaGreatDoorTc
import Derived.Test.YtmdldoolnhpaeaaGreatDoorMc
import Derived.Test.YtmdldoolnhpaeaaGreatDoorTb
import Derived.Test.YtmdldoolnhpaeaaGreatDoorTa
import Derived.Test.YtmdldoolnhpaeaaGreatDoorMd
import Derived.WalkKit
import Derived.CallsIn
import Derived.Tactics
import Derived.Tactics2
set_option linter.unusedVariables false
set_option linter.unusedSimpArgs false
set_option linter.unusedSectionVars false

namespace Go.Proofs.YtmdldoolnhpaeaaGreatDoor
open Go Go.Mh

section
variable {h0 h hD : Heap} {L Pr : List Res} {K : KT} {g : G} {rn r pt tr m pm b5 b4 b3 : Nat} {vs vm sd sa so vl : Value} {f : Int -> Option Value} {S : GS} {kv : Nat -> Value} {R : Exit -> Heap -> Prop} {v : Nat} {M : Loop} {ms : List MV}

theorem growB_ok (hR : g.Right) (hN : NetR h0 rn g) (hn : g.n <= 16777216) (hr : r < g.n) (hv : v < g.n) (HM : ∀ m ∈ ms, MkV g h0 m) (Hl : Vw encM 7 h0 vl ms) (hl : ms.length < 2 ^ 40) (hvo : v ∈ (g.from r).order)
  (hkl : ∀ x, (S.kd x).length <= 2 ^ 20) (hf : ∀ u : Nat, (f u).getD sl0 = kv u) (hsl : S.sz.length = g.n) (hml : S.mc.length = g.n) (hk : ∀ k ∈ S.kd v, k < g.n /\ k ≠ v) (hm : ∀ u, 0 <= S.mc.getD u 0 /\ S.mc.getD u 0 <= 2 ^ 32)
  (o : Own h0 h (loopR (hD.size + 1) (lo M .ready none) :: markR hD.size :: growL g (g.from r) rn r pt tr m pm b5 b4 b3 vs vm sd sa so vl f S (famR encN 1 T_int kv S.kd g.n ++ Pr)))
  (hK : ∀ f' kv' h', (∀ u : Nat, (f' u).getD sl0 = kv' u) -> Own h0 h' (loopR (hD.size + 1) (lo M .busy none) :: markR hD.size :: growL g (g.from r) rn r pt tr m pm b5 b4 b3 vs vm sd sa so vl f' (S.step (parA g r) (wtA g (ms.map MV.node) r) v) (famR encN 1 T_int kv' (S.step (parA g r) (wtA g (ms.map MV.node) r) v).kd g.n ++ Pr)) -> R .normal h') :
  sh_avoid_grow_B3 Tryz.prog hD (ptr b5) (ptr pt) (ptr b4) (ptr pm) (ptr b3) M (I v) h R := by
 have T := from_tree hR hr
 have hmn : ∀ x ∈ ms.map MV.node, x < g.n := fun x hx => by
  obtain ⟨y, hy, rfl⟩ := List.mem_map.1 hx
  exact (HM y hy).1
 have hwr := wtA_rng hR hr hmn v hvo
 have hpr : ∀ p, parT g.arcs (g.from r) v = some p -> p < g.n := fun p hp => T.range p (par_some T hp).2.2.1
 unfold sh_avoid_grow_B3
 refine o.begin 0 rfl fun h1 o1 => ?_
 have o1 : Own h0 h1 (loopR (hD.size + 1) (lo M .busy none) :: markR hD.size :: growL g (g.from r) rn r pt tr m pm b5 b4 b3 vs vm sd sa so vl f S (famR encN 1 T_int kv S.kd g.n ++ Pr)) := o1
 clear o
 refine o1.load 11 rfl rfl ?_
 rw [pBin_neq, ifV_bne]
 refine ⟨fun hne => ?_, fun he => ?_⟩
 ·have hne : v ≠ r := fun e => hne (by rw [e])
  refine o1.load 2 rfl rfl ?_
  simp only [pNil_ptr, pField_ptr]
  have hdl : v < (g.from r).dist.length := by rw [T.ls.len]; exact hv
  refine o1.load 3 rfl rfl ((o1.vw 8 rfl).idxI hdl fun b1 f1 c1 => pLoad_of rfl c1 ?_)
  rw [dAt_get hdl] at c1 ⊢
  refine o1.load 12 rfl rfl (o1.load 11 rfl rfl ?_)
  refine bound_ok hR (fun m hm => (HM m hm).more o1.ext) (Hl.more o1.ext) hl hr hv fun h2 x2 => ?_
  have o2 := o1.more x2
  refine ⟨o2.load 2 rfl rfl rfl, o2.load 3 rfl rfl rfl, pLoad_of rfl (hcell_more x2 c1) rfl, ?_⟩
  have hw : wtA g (ms.map MV.node) r v = dAt (g.from r).dist v - bnd g (ms.map MV.node) r v := if_pos hne
  have hfar : far = 72057594037927936 := rfl
  rw [pBin_sub, w64 (by omega) (by omega), <- hw]
  exact grow4_ok hN T.al hv hn hpr hkl hf hsl hml hk hm hwr o2 hK
 ·have he : v = r := by omega
  have hw : wtA g (ms.map MV.node) r v = 0 := if_neg (by simpa using he)
  have := grow4_ok (wt := wtA g (ms.map MV.node) r) hN T.al hv hn hpr hkl hf hsl hml hk hm hwr o1 hK
  rw [hw] at this
  exact this

theorem growC_ok (hR : g.Right) (hN : NetR h0 rn g) (hn : Sm g) (hr : r < g.n) (HM : ∀ m ∈ ms, MkV g h0 m) (Hl : Vw encM 7 h0 vl ms) (hl : ms.length <= 2 ^ 20)
  (o : Own h0 h [cellR pt [ptr tr] T_p_avoid_tree, cellR tr [sd, sa, so, .map (some m), vs] T_avoid_tree, mapR m (fun _ => none), xR vs (List.replicate g.n 0), xR sd (g.from r).dist, slR encJ 1 T_int sa (g.from r).arc, slR encN 1 T_int so (g.from r).order, cellR b5 [I r] T_int, cellR b4 [vl] T_sl_avoid_mark, cellR b3 [ptr rn] T_p_net_Net])
  (hK : ∀ vm pm f kv h' ord, (∀ u : Nat, (f u).getD sl0 = kv u) -> Own h0 h' (growL g (g.from r) rn r pt tr m pm b5 b4 b3 vs vm sd sa so vl f (growA g (ms.map MV.node) r) (famR encN 1 T_int kv (growA g (ms.map MV.node) r).kd g.n ++ [cellR ord [so] T_sl_int])) -> K (ptr tr) h') :
  sh_avoid_grow_C1 Tryz.prog (ptr b3) (ptr b4) (ptr b5) K (ptr pt) h := by
 have hmost16 := hR.most
 have hord16 := hn r hr
 have T := from_tree hR hr
 have hmn : ∀ x ∈ ms.map MV.node, x < g.n := fun x hx => by
  obtain ⟨y, hy, rfl⟩ := List.mem_map.1 hx
  exact (HM y hy).1
 have hmlN : (ms.map MV.node).length <= 2 ^ 20 := by rw [List.length_map]; exact hl
 unfold sh_avoid_grow_C1
 refine o.load 9 rfl rfl (nodes_ok (hN.more o.ext) ?_)
 refine o.make (enc := encJ) (n := 1) (a := 0) (m := g.n) rfl (by omega) (by omega) fun vm h1 o1 => ?_
 refine o1.box fun pm h2 o2 => ?_
 have hv := o2.vw 1 rfl
 refine o2.st1 0 (cs' := [vm]) rfl rfl rfl hv.one hv.plain fun h3 o3 => ?_
 clear o o1 o2 hv
 have o3 : Own h0 h3 (cellR pm [vm] T_sl_int :: slR encJ 1 T_int vm (List.replicate g.n 0) :: [cellR pt [ptr tr] T_p_avoid_tree, cellR tr [sd, sa, so, .map (some m), vs] T_avoid_tree, mapR m (fun _ => none), xR vs (List.replicate g.n 0), xR sd (g.from r).dist, slR encJ 1 T_int sa (g.from r).arc, slR encN 1 T_int so (g.from r).order, cellR b5 [I r] T_int, cellR b4 [vl] T_sl_avoid_mark, cellR b3 [ptr rn] T_p_net_Net]) := o3
 have o4 : Own h0 h3 (growL g (g.from r) rn r pt tr m pm b5 b4 b3 vs vm sd sa so vl (fun _ => none) ⟨List.replicate g.n 0, List.replicate g.n 0, fun _ => []⟩ []) := o3.sel [2, 3, 4, 0, 1, 5, 6, 7, 8, 9, 10, 11] (by decide)
 clear o3
 refine o4.load 10 rfl rfl ((Hl.more o4.ext).len ?_)
 have e0 : (List.range g.n).map (cntA ([] : List Nat)) = List.replicate g.n 0 := by
  apply List.ext_getElem?
  intro i
  by_cases hi : i < g.n
  ·simp [hi, cntA]
  ·rw [List.getElem?_eq_none (by simp; omega), List.getElem?_eq_none (by simp; omega)]
 refine LoopH_count ms.length (fun i x h' => x.1 = I i /\ Own h0 h' (growL g (g.from r) rn r pt tr m pm b5 b4 b3 vs vm sd sa so vl (fun _ => none) ⟨List.replicate g.n 0, (List.range g.n).map (cntA ((ms.take i).map MV.node)), fun _ => []⟩ [])) ⟨rfl, by rw [List.take_zero, List.map_nil, e0]; exact o4⟩ ?_
 clear o4
 rintro i ⟨x, ⟨⟩⟩ h4 Z hi ⟨hx, o⟩ hZ
 dsimp only at hx hZ ⊢
 subst hx
 unfold sh_avoid_grow_L2
 rw [pBin_lss, ifV_dec]
 refine ⟨fun hlt => ?_, fun hge => ?_⟩
 ·have hlt : i < ms.length := by omega
  refine (Hl.more o.ext).atN encM_len hlt ?_
  have tk : (ms.take (i + 1)).map MV.node = (ms.take i).map MV.node ++ [ms[i].node] := by rw [List.take_succ_eq_append_getElem hlt, List.map_append]; rfl
  have hmm := HM _ (List.getElem_mem hlt)
  rw [tk] at hZ
  generalize ms[i] = mv at hmm hZ
  have hmn := hmm.1
  refine o.box fun m8 h5 o5 => o5.st (l := encM mv) (cs' := encM mv) 0 rfl rfl rfl rfl rfl (encM_plain mv) fun h6 o6 => ?_
  clear o o5
  simp only [pField_ptr]
  refine o6.load 4 rfl rfl (o6.load 0 rfl rfl ?_)
  have hll : mv.node < ((List.range g.n).map (cntA ((ms.take i).map MV.node))).length := by simpa using hmn
  refine (o6.vw 5 rfl).atI hll ?_
  have hcl : cntA ((ms.take i).map MV.node) mv.node <= 2 ^ 20 /\ 0 <= cntA ((ms.take i).map MV.node) mv.node := by
   unfold cntA
   have := List.count_le_length (a := mv.node) (l := (ms.take i).map MV.node)
   rw [List.length_map, List.length_take] at this
   omega
  rw [show ((List.range g.n).map (cntA ((ms.take i).map MV.node)))[mv.node]'hll = cntA ((ms.take i).map MV.node) mv.node by simp, pBin_add, w64 (by omega) (by omega)]
  refine o6.setI 5 rfl hll fun h7 o7 => ?_
  rw [pBin_add, wI i (by omega)]
  refine hZ (_, ()) h7 hlt ⟨rfl, ?_⟩
  rw [<- cnt_set hmn]
  exact o7.tail
 ·have : i = ms.length := by omega
  subst this
  rw [List.take_length] at o
  clear hZ
  refine o.load 0 rfl rfl ?_
  simp only [pNil_ptr, pField_ptr]
  refine o.load 1 rfl rfl ?_
  refine callS_of (lk_avoid_behind _ ?_)
  unfold sh_avoid_behind
  have hso := (o.vw 8 rfl).one
  refine o.box fun ord h5 o5 => ?_
  rw [show (Value.cells so).toList = [so] by rw [hso]] at o5
  have o6 := o5.fam0 (enc := encN) (n := 1) (T := T_int) (m := g.n)
  have o7 : Own h0 h5 (growL g (g.from r) rn r pt tr m pm b5 b4 b3 vs vm sd sa so vl (fun _ => none) (growQ g (ms.map MV.node) r 0) (famR encN 1 T_int (fun _ => sl0) (growQ g (ms.map MV.node) r 0).kd g.n ++ [cellR ord [so] T_sl_int])) := by
   have := Own.comm o6
   have h2 : Own h0 h5 (cellR ord [so] T_sl_int :: (growL g (g.from r) rn r pt tr m pm b5 b4 b3 vs vm sd sa so vl (fun _ => none) (growQ g (ms.map MV.node) r 0) (famR encN 1 T_int (fun _ => sl0) (growQ g (ms.map MV.node) r 0).kd g.n))) := this
   exact Own.comm (L := [_]) h2
  clear o5 o6 o
  have hol : (g.from r).order.length <= g.n := nodup_le T.nodup T.range
  refine o7.range (behind_iter (O := (g.from r).order) (vo := so) (b := ord) (T := T_sl_int) (by omega)) (by rintro i x i' ⟨_, _, rfl⟩; rfl)
   (fun i Rs => i <= (g.from r).order.length /\ ∃ f kv, (∀ u : Nat, (f u).getD sl0 = kv u) /\ Rs = growL g (g.from r) rn r pt tr m pm b5 b4 b3 vs vm sd sa so vl f (growQ g (ms.map MV.node) r i) (famR encN 1 T_int kv (growQ g (ms.map MV.node) r i).kd g.n ++ [cellR ord [so] T_sl_int]))
   (fun _ => False) (fun _ _ => False) ⟨Nat.zero_le _, fun _ => none, fun _ => sl0, fun u => rfl, rfl⟩ ?_ ?_ ?_ (fun _ _ h => h.elim) (fun _ _ _ h => h.elim)
  ·rintro i Rs h' ⟨_, f, kv, _, rfl⟩ o'
   have := Own.comm (L := growL g (g.from r) rn r pt tr m pm b5 b4 b3 vs vm sd sa so vl f (growQ g (ms.map MV.node) r i) (famR encN 1 T_int kv (growQ g (ms.map MV.node) r i).kd g.n)) (L' := [cellR ord [so] T_sl_int]) o'
   exact ⟨this.get 0 rfl, o'.vw 8 rfl⟩
  ·rintro M i x i' Rs Pr h' R ⟨h1, rfl, rfl⟩ ⟨_, f, kv, hf, rfl⟩ o' hNx _ _
   dsimp only [valsOf]
   obtain ⟨f1, f2, f3, f4, f5⟩ := growQ_facts hR hn hr hmn hmlN i
   have hst := growQ_step (g := g) (ms := ms.map MV.node) (r := r) h1
   have hvo : (g.from r).order.reverse.getD i 0 ∈ (g.from r).order := by rw [rev_at h1]; exact List.getElem_mem _
   generalize (g.from r).order.reverse.getD i 0 = v at hst hvo
   have o8 : Own h0 h' (loopR (h5.size + 1) (lo M .ready none) :: markR h5.size :: growL g (g.from r) rn r pt tr m pm b5 b4 b3 vs vm sd sa so vl f (growQ g (ms.map MV.node) r i) (famR encN 1 T_int kv (growQ g (ms.map MV.node) r i).kd g.n ++ ([cellR ord [so] T_sl_int] ++ Pr))) := by
    rw [<- List.append_assoc]; exact o'
   refine growB_ok hR hN hR.most hr (T.range v hvo) HM Hl (by omega) hvo (fun x => by have := f1 x; omega) hf f2 f3 (f4 v) f5 o8 fun f' kv' h'' hf' o9 => ?_
   rw [<- hst] at o9
   refine hNx _ h'' ⟨h1, f', kv', hf', rfl⟩ ?_
   rw [<- List.append_assoc] at o9
   exact o9
  ·rintro i h' Rs rfl ⟨_, f, kv, hf, rfl⟩ o'
   rw [growQ_end] at o'
   refine o'.load 1 rfl rfl (o'.take1 0 rfl fun h10 o10 => ?_)
   exact hK vm pm f kv h10 ord hf o10.tail

end
open Go Go.Mh
set_option maxRecDepth 20000
set_option maxHeartbeats 0

section
variable {h0 h : Heap} {L : List Res} {K : KT} {g : G} {rn r : Nat} {vl : Value} {ms : List MV}

theorem build5 {sd sa so vs : Value} {m : Nat} {K : Value -> Prop} (hvs : vs.cells = #[vs]) (hk : K (.agg #[sd, sa, so, .map (some m), vs])) :
  pBuild [(.slice none 0 0), (.slice none 0 0), (.slice none 0 0), (.map none), (.slice none 0 0)] [(0, 3, .agg #[sd, sa, so]), (3, 1, .map (some m)), (4, 1, vs)] K := by
 refine ⟨⟨rfl, by decide, rfl, by decide, by rw [hvs]; rfl, by decide, trivial⟩, ?_⟩
 have e : spliceAll [(.slice none 0 0), (.slice none 0 0), (.slice none 0 0), (.map none), (.slice none 0 0)] [(0, 3, .agg #[sd, sa, so]), (3, 1, .map (some m)), (4, 1, vs)] = [sd, sa, so, .map (some m), vs] := by
  show [sd, sa, so, .map (some m)] ++ vs.cells.toList ++ List.drop (4 + vs.cells.size) [sd, sa, so, .map (some m), .slice none 0 0] = _
  rw [hvs]; rfl
 rw [e]; exact hk

theorem grow_ok (hR : g.Right) (hN : NetR h rn g) (hn : Sm g) (hr : r < g.n) (HM : ∀ m ∈ ms, MkV g h m) (Hl : Vw encM 7 h vl ms) (hl : ms.length <= 2 ^ 20)
  (hK : ∀ pt tr m pm b5 b4 b3 ord vs vm sd sa so f kv h', (∀ u : Nat, (f u).getD sl0 = kv u) -> Own h h' (growL g (g.from r) rn r pt tr m pm b5 b4 b3 vs vm sd sa so vl f (growA g (ms.map MV.node) r) (famR encN 1 T_int kv (growA g (ms.map MV.node) r).kd g.n ++ [cellR ord [so] T_sl_int])) -> K (ptr tr) h') :
  callS Tryz.prog F_avoid_grow [ptr rn, vl, I r] h K := by
 have hmost16 := hR.most
 have hord16 := hn r hr
 refine callS_of (lk_avoid_grow _ _ _ ?_)
 unfold sh_avoid_grow
 refine (Own.start h).box fun b3 h1 o1 => o1.box fun b4 h2 o2 => o2.box fun b5 h3 o => ?_
 rw [show (Value.cells vl).toList = [vl] by rw [Hl.one]] at o
 have o : Own h h3 [cellR b5 [I r] T_int, cellR b4 [vl] T_sl_avoid_mark, cellR b3 [ptr rn] T_p_net_Net] := o
 clear o1 o2
 have hfr : g.fromI r = g.from r := by simp [G.fromI, hr]
 refine cutP_of (fun y h' => ∃ pt tr m vs sd sa so, y.1 = ptr pt /\ Own h h' [cellR pt [ptr tr] T_p_avoid_tree, cellR tr [sd, sa, so, .map (some m), vs] T_avoid_tree, mapR m (fun _ => none), xR vs (List.replicate g.n 0), xR sd (g.fromI r).dist, slR encJ 1 T_int sa (g.fromI r).arc, slR encN 1 T_int so (g.fromI r).order, cellR b5 [I r] T_int, cellR b4 [vl] T_sl_avoid_mark, cellR b3 [ptr rn] T_p_net_Net]) (fun J hJ => ?_) ?_
 ·refine o.load 2 rfl rfl (o.load 0 rfl rfl (o.load 2 rfl rfl ?_))
  repeat' (first
   | with_reducible apply And.intro
   | ((with_reducible show pLoad _ _ _); first | exact o.load 2 rfl rfl rfl | exact o.load 3 rfl rfl rfl | exact o.load 4 rfl rfl rfl | exact o.load 5 rfl rfl rfl | exact o.load 6 rfl rfl rfl | exact o.load 7 rfl rfl rfl)
   | ((with_reducible show pBuild _ _ _); first | refine build5 (o.vw 0 rfl).one ?_ | refine build5 (o.vw 1 rfl).one ?_ | refine build5 (o.vw 2 rfl).one ?_ | refine build5 (o.vw 3 rfl).one ?_ | refine build5 (o.vw 4 rfl).one ?_ | refine build5 (o.vw 5 rfl).one ?_)
   | ((with_reducible show pMakeMap _ _); refine o.mkMap fun m hh o => ?_)
   | ((with_reducible show pMakeSlice _ _ _ _ _ _ _); refine o.make (enc := encJ) (n := 1) (a := 0) (m := g.n) rfl (by omega) (by omega) fun vs hh o => ?_)
   | ((with_reducible show pBox _ _ _ _); refine o.box fun p hh o => ?_)
   | ((with_reducible show pStore _ _ _ _ _); first | refine o.st1 0 rfl rfl rfl rfl rfl fun hh o => ?_ | refine o.st1 1 rfl rfl rfl rfl rfl fun hh o => ?_ | refine o.st1 2 rfl rfl rfl rfl rfl fun hh o => ?_ | refine o.st1 3 rfl rfl rfl rfl rfl fun hh o => ?_ | refine o.st1 4 rfl rfl rfl rfl rfl fun hh o => ?_ | refine o.st1 5 rfl rfl rfl rfl rfl fun hh o => ?_ | refine o.st1 6 rfl rfl rfl rfl rfl fun hh o => ?_)
   | ((with_reducible show callS Tryz.prog F_net_Net_Nodes _ _ _); refine nodes_ok (hN.more o.ext) ?_)
   | ((with_reducible show callS Tryz.prog F_flood_From _ _ _); refine from_ok hR (hN.more o.ext) fun sd sa so hh o' => ?_; replace o := o.frame o'; clear o')
   | exact hJ _ _ ⟨_, _, _, _, _, _, _, rfl, o.sel [6, 0, 2, 1, 3, 4, 5, 7, 8, 9] (by decide)⟩
   | exact hJ _ _ ⟨_, _, _, _, _, _, _, rfl, o.sel [3, 0, 2, 1, 4, 5, 6, 7, 8, 9] (by decide)⟩
   | exact hJ _ _ ⟨_, _, _, _, _, _, _, rfl, o.sel [2, 0, 3, 1, 4, 5, 6, 7, 8, 9] (by decide)⟩
   | exact hJ _ _ ⟨_, _, _, _, _, _, _, rfl, o.sel [1, 0, 3, 2, 4, 5, 6, 7, 8, 9] (by decide)⟩
   | exact hJ _ _ ⟨_, _, _, _, _, _, _, rfl, o.sel [0, 1, 3, 2, 4, 5, 6, 7, 8, 9] (by decide)⟩
   | exact hJ _ _ ⟨_, _, _, _, _, _, _, rfl, o.sel [6, 0, 1, 2, 3, 4, 5, 7, 8, 9] (by decide)⟩
   | exact hJ _ _ ⟨_, _, _, _, _, _, _, rfl, o.sel [3, 0, 1, 2, 4, 5, 6, 7, 8, 9] (by decide)⟩
   | exact hJ _ _ ⟨_, _, _, _, _, _, _, rfl, o.sel [2, 0, 1, 3, 4, 5, 6, 7, 8, 9] (by decide)⟩
   | exact hJ _ _ ⟨_, _, _, _, _, _, _, rfl, o.sel [1, 0, 2, 3, 4, 5, 6, 7, 8, 9] (by decide)⟩
   | exact hJ _ _ ⟨_, _, _, _, _, _, _, rfl, o.sel [0, 1, 2, 3, 4, 5, 6, 7, 8, 9] (by decide)⟩
   | exact hJ _ _ ⟨_, _, _, _, _, _, _, rfl, o.sel [6, 0, 5, 1, 2, 3, 4, 7, 8, 9] (by decide)⟩
   | exact hJ _ _ ⟨_, _, _, _, _, _, _, rfl, o.sel [5, 0, 6, 1, 2, 3, 4, 7, 8, 9] (by decide)⟩
   | exact hJ _ _ ⟨_, _, _, _, _, _, _, rfl, o.sel [2, 0, 6, 1, 3, 4, 5, 7, 8, 9] (by decide)⟩
   | exact hJ _ _ ⟨_, _, _, _, _, _, _, rfl, o.sel [1, 0, 6, 2, 3, 4, 5, 7, 8, 9] (by decide)⟩
   | exact hJ _ _ ⟨_, _, _, _, _, _, _, rfl, o.sel [0, 1, 6, 2, 3, 4, 5, 7, 8, 9] (by decide)⟩
   | exact hJ _ _ ⟨_, _, _, _, _, _, _, rfl, o.sel [6, 0, 5, 4, 1, 2, 3, 7, 8, 9] (by decide)⟩
   | exact hJ _ _ ⟨_, _, _, _, _, _, _, rfl, o.sel [5, 0, 6, 4, 1, 2, 3, 7, 8, 9] (by decide)⟩
   | exact hJ _ _ ⟨_, _, _, _, _, _, _, rfl, o.sel [4, 0, 6, 5, 1, 2, 3, 7, 8, 9] (by decide)⟩
   | exact hJ _ _ ⟨_, _, _, _, _, _, _, rfl, o.sel [1, 0, 6, 5, 2, 3, 4, 7, 8, 9] (by decide)⟩
   | exact hJ _ _ ⟨_, _, _, _, _, _, _, rfl, o.sel [0, 1, 6, 5, 2, 3, 4, 7, 8, 9] (by decide)⟩
   | exact hJ _ _ ⟨_, _, _, _, _, _, _, rfl, o.sel [6, 0, 1, 5, 2, 3, 4, 7, 8, 9] (by decide)⟩
   | exact hJ _ _ ⟨_, _, _, _, _, _, _, rfl, o.sel [5, 0, 1, 6, 2, 3, 4, 7, 8, 9] (by decide)⟩
   | exact hJ _ _ ⟨_, _, _, _, _, _, _, rfl, o.sel [2, 0, 1, 6, 3, 4, 5, 7, 8, 9] (by decide)⟩
   | exact hJ _ _ ⟨_, _, _, _, _, _, _, rfl, o.sel [1, 0, 2, 6, 3, 4, 5, 7, 8, 9] (by decide)⟩
   | exact hJ _ _ ⟨_, _, _, _, _, _, _, rfl, o.sel [0, 1, 2, 6, 3, 4, 5, 7, 8, 9] (by decide)⟩
   | exact hJ _ _ ⟨_, _, _, _, _, _, _, rfl, o.sel [6, 0, 4, 5, 1, 2, 3, 7, 8, 9] (by decide)⟩
   | exact hJ _ _ ⟨_, _, _, _, _, _, _, rfl, o.sel [5, 0, 4, 6, 1, 2, 3, 7, 8, 9] (by decide)⟩
   | exact hJ _ _ ⟨_, _, _, _, _, _, _, rfl, o.sel [4, 0, 5, 6, 1, 2, 3, 7, 8, 9] (by decide)⟩
   | exact hJ _ _ ⟨_, _, _, _, _, _, _, rfl, o.sel [1, 0, 5, 6, 2, 3, 4, 7, 8, 9] (by decide)⟩
   | exact hJ _ _ ⟨_, _, _, _, _, _, _, rfl, o.sel [0, 1, 5, 6, 2, 3, 4, 7, 8, 9] (by decide)⟩)
 ·rintro ⟨y, ⟨⟩⟩ h' ⟨pt, tr, m, vs, sd, sa, so, hy, o1⟩
  dsimp only at hy ⊢
  subst hy
  rw [hfr] at o1
  exact growC_ok hR hN hn hr HM Hl hl o1 fun vm pm f kv h' ord hf o' => hK pt tr m pm b5 b4 b3 ord vs vm sd sa so f kv h' hf o'

end
open Go Go.Mh

section
variable {h0 h : Heap} {L : List Res} {K : KT}

theorem size_ok {tr v i j : Nat} {sd sa so mm vs : Value} {T : TypeId} {sz : List Int} (o : Own h0 h L) (hi : L[i]? = some (cellR tr [sd, sa, so, mm, vs] T)) (hj : L[j]? = some (xR vs sz)) (hv : v < sz.length) (hK : K (I (sz.getD v 0)) h) :
  callV Tryz.prog (.func (.func F_avoid_tree_size) #[ptr tr] #[]) [I v].toArray h K := by
 refine callV_of (l := [ptr tr, I v]) rfl (lk_avoid_tree_size _ _ ?_)
 unfold sh_avoid_tree_size
 simp only [pNil_ptr, pField_ptr]
 refine o.load i hi rfl ((o.vw j hj).atI hv ?_)
 rw [getD_at16 hv]
 exact hK

theorem next1_ok {b : Nat} {m : MV} {x : Nat} (hone : ∀ u ∈ encM m, u.cells = #[u]) (o : Own h0 h L) (i : Nat) (hi : L[i]? = some (cellR b [I x] T_int)) (hK : ∀ h', Ext h h' -> K (.bool (decide (m.node = x))) h') :
  callV Tryz.prog (.func (.func F_avoid_next_1) #[] #[ptr b]) [.agg (encM m).toArray].toArray h K := by
 refine callV_of (l := [.agg (encM m).toArray, ptr b]) rfl (lk_avoid_next_1 _ _ ?_)
 unfold sh_avoid_next_1
 refine (Own.start h).box fun m1 h1 o1 => ?_
 have o1 : Own h h1 [cellR m1 (encM m) T_avoid_mark] := o1
 have o2 := o.more o1.ext
 simp only [pField_ptr]
 refine o1.load 0 rfl rfl (o2.load i hi rfl ?_)
 rw [pBin_eql, show ((m.node : Int) == (x : Int)) = decide (m.node = x) by rw [Bool.eq_iff_iff, beq_iff_eq, decide_eq_true_eq]; omega]
 exact hK _ o1.ext

end
open Go Go.Mh

section
variable {h0 h : Heap} {L : List Res} {K : KT} {g : G} {r : Nat} {vc vm : Value} {c : List Int} {ms : List Int}

theorem pPart1_0 {a b c : Value} {K : Value -> Prop} (hk : K a) : pPart1 0 (.agg #[a, b, c]) K := hk
theorem takeNe {l : List Nat} {i : Nat} (h0 : i ≠ 0) (hi : i < l.length) : l.take i ≠ [] := by
 intro e
 rw [List.take_eq_nil_iff] at e
 rcases e with e | e
 ·exact h0 e
 ·subst e; cases hi

theorem minE {a b : Int} : (if b < a then b else a) = min a b := by split <;> omega

theorem closer_ok {m : Int} (o : Own h0 h L) (p : Nat) (hp : L[p]? = some (xR vc c)) (hc : c.length = g.n) (hR : g.Right) (H : NetR h r g) (hK : ∀ h', Own h0 h' (L.set p (xR vc (cl c (g.fromI m).dist))) -> K (.tuple #[]) h') :
  callS Tryz.prog F_far_closer [ptr r, vc, I m] h K := by
 refine callS_of (lk_far_closer _ _ _ ?_)
 unfold sh_far_closer
 have hmost := hR.most
 refine from_ok hR H fun sd sa so h1 o1 => ?_
 replace o1 := o.frame o1
 have hd : (g.fromI m).dist.length <= g.n := by
  have := tr_len hR (s := m)
  omega
 refine pPart1_0 ?_
 refine (o1.vw 0 rfl).len ?_
 refine LoopH_count (g.fromI m).dist.length (fun i x h' => x.1 = I i /\ Own h0 h' ([xR sd (g.fromI m).dist, slR encJ 1 T_int sa (g.fromI m).arc, slR encN 1 T_int so (g.fromI m).order] ++ L.set p (xR vc (clp c (g.fromI m).dist i)))) ⟨rfl, by rw [clp_zero, set_same hp]; exact o1⟩ ?_
 clear o1
 rintro i ⟨x, ⟨⟩⟩ h' Z hi ⟨hx, o1⟩ hZ
 dsimp only at hx hZ ⊢
 subst hx
 unfold sh_far_closer_L1
 simp only [pBin_lss, ifV_dec]
 refine ⟨fun hlt => ?_, fun hge => ?_⟩
 ·have hlt : i < (g.fromI m).dist.length := by omega
  have hic : i < c.length := by omega
  have hq : ([xR sd (g.fromI m).dist, slR encJ 1 T_int sa (g.fromI m).arc, slR encN 1 T_int so (g.fromI m).order] ++ L.set p (xR vc (clp c (g.fromI m).dist i)))[p + 3]? = some (xR vc (clp c (g.fromI m).dist i)) := by
   rw [List.getElem?_append_right (by simp)]
   exact set_get hp
  have hi2 : i < (clp c (g.fromI m).dist i).length := by rw [clp_len]; exact hic
  refine (o1.vw 0 rfl).atI hlt ?_
  rw [dAt_get hlt]
  refine (o1.vw (p + 3) hq).atI hi2 ?_
  rw [clp_at hic, pMin_int, minE]
  refine o1.setI (p + 3) hq hi2 fun h2 o2 => ?_
  rw [clp_step hic] at o2
  rw [pBin_add, wI i (by omega)]
  refine hZ (I (i + 1 : Nat), ()) h2 hlt ⟨rfl, ?_⟩
  rw [List.set_append_right _ _ (by simp)] at o2
  simp only [List.length_cons, List.length_nil, Nat.add_sub_cancel, List.set_set] at o2
  exact o2
 ·have : i = (g.fromI m).dist.length := by omega
  subst this
  exact hK h' o1.tail.tail.tail

theorem cover_ok (o : Own h0 h L) (hR : g.Right) (H : NetR h r g) (hm : Vw encJ 1 h vm ms) (hml : ms.length < 2 ^ 40) (hK : ∀ w h', Own h0 h' (xR w (cov g ms) :: L) -> K w h') : callS Tryz.prog F_far_Cover [ptr r, vm] h K := by
 refine callS_of (lk_far_Cover _ _ ?_)
 unfold sh_far_Cover
 have hmost := hR.most
 refine (Own.start h).build (enc := encJ) (n := 1) [far] rfl (sizesOk_of rfl) rfl fun w1 h1 o1 => ?_
 refine nodes_ok (H.more o1.ext) (repeat_int64 o1 (o1.vw 0 rfl) (by omega) fun w h2 o2 => ?_)
 refine hm.len ?_
 refine LoopH_count ms.length (fun i x h' => x.1 = I i /\ Own h h' [xR w (cov g (ms.take i))]) ⟨rfl, o2.sel [0] (by decide)⟩ ?_
 clear o2 o1
 rintro i ⟨x, ⟨⟩⟩ h' Z hi ⟨hx, o1⟩ hZ
 dsimp only at hx hZ ⊢
 subst hx
 unfold sh_far_Cover_L1
 simp only [pBin_lss, ifV_dec]
 refine ⟨fun hlt => ?_, fun hge => ?_⟩
 ·have hlt : i < ms.length := by omega
  have htk : ms.take (i + 1) = ms.take i ++ [ms[i]] := List.take_succ_eq_append_getElem hlt
  refine (hm.more o1.ext).atI hlt ?_
  generalize ms[i] = m at htk
  refine closer_ok o1 0 rfl cov_len hR (H.more o1.ext) fun h2 o2 => ?_
  rw [pBin_add, wI i (by omega)]
  refine hZ (I (i + 1 : Nat), ()) h2 hlt ⟨rfl, ?_⟩
  rw [htk, cov_snoc]
  exact o2
 ·have : i = ms.length := by omega
  subst this
  rw [List.take_length] at o1
  exact hK w h' (o.frame o1)

theorem best_ok {left : List Nat} {vl : Value} {c6 : Nat} {T1 : TypeId} (Hl : Vw encJ 1 h vl (nI left)) (hc6 : h[c6]? = some (.cells #[vc] T1 (0, 0))) (Hc : Vw encJ 1 h vc c) (hr : ∀ v ∈ left, v < c.length) (hll : left.length < 2 ^ 40)
  (hK : K (I (bst c left)) h) : callS Tryz.prog F_far_best_int [vl, .func (.func F_far_marks_1_1) #[] #[ptr c6]] h K := by
 refine callS_of (lk_far_best_int _ _ ?_)
 unfold sh_far_best_int
 refine Hl.len ?_
 rw [nI_len]
 refine LoopH_count left.length (fun i x h' => x.2.1 = I i /\ x.1 = I (bst c (left.take i)) /\ h' = h) ⟨rfl, rfl, rfl⟩ ?_
 rintro i ⟨x, y, ⟨⟩⟩ h' Z hi ⟨hy, hx, rfl⟩ hZ
 dsimp only at hx hy hZ ⊢
 subst hx hy
 unfold sh_far_best_int_L1
 simp only [pBin_lss, ifV_dec]
 refine ⟨fun hlt => ?_, fun hge => ?_⟩
 ·have hlt : i < left.length := by omega
  have hq : (nI left)[i]? = some ((left[i] : Nat) : Int) := by simp [nI, hlt]
  have htk : left.take (i + 1) = left.take i ++ [left[i]] := List.take_succ_eq_append_getElem hlt
  have hvr := hr _ (List.getElem_mem hlt)
  have hbm : i ≠ 0 -> bst c (left.take i) < c.length := fun h0 => hr _ (List.mem_of_mem_take (bst_mem (c := c) (takeNe h0 hlt)))
  refine Hl.atQ hq ?_
  generalize left[i] = v at hvr htk
  have k3 : ∀ b : Nat, b = bst c (left.take (i + 1)) -> sh_far_best_int_k3 Tryz.prog (I i) (fun a0 a1 hz => Z (a0, (a1, ())) hz) (I b) h' := by
   intro b e
   unfold sh_far_best_int_k3
   rw [pBin_add, wI i (by omega)]
   exact hZ (_, I (i + 1 : Nat), ()) h' hlt ⟨rfl, by rw [e], rfl⟩
  unfold sh_far_best_int_k2
  rw [pBin_eql]
  by_cases h0 : i = 0
  ·subst h0
   show ifV (.bool true) _ _
   rw [ifV_true]
   exact k3 v (by rw [htk]; rfl)
  ·rw [show ((i : Int) == 0) = false by simpa using h0, ifV_false]
   have hb := hbm h0
   have ne : left.take i ≠ [] := takeNe h0 hlt
   have bs := bst_snoc (c := c) (y := v) ne
   rw [<- htk] at bs
   generalize bst c (left.take i) = b at hb bs
   refine callV_of (l := [I v, I b, ptr c6]) rfl (lk_far_marks_1_1 _ _ _ ?_)
   unfold sh_far_marks_1_1
   have cc : hcell h' ⟨c6, 0, none⟩ = some vc := hcell_of hc6 rfl
   refine pLoad_of rfl cc (Hc.atI hvr (pLoad_of rfl cc (Hc.atI hb ?_)))
   have g1 : c[v] = c.getD v 0 := by simp [List.getD_eq_getElem?_getD, hvr]
   have g2 : c[b] = c.getD b 0 := by simp [List.getD_eq_getElem?_getD, hb]
   rw [g1, g2, pBin_gtr]
   show ifV (.bool (decide (c.getD b 0 < c.getD v 0))) _ _
   rw [ifV_dec]
   exact ⟨fun h => k3 v (by rw [bs, if_pos h]), fun h => k3 b (by rw [bs, if_neg h])⟩
 ·have : i = left.length := by omega
  subst this
  rw [List.take_length]
  exact hK

end
open Go Go.Mh

section
variable {h0 h : Heap} {L : List Res} {K : KT} {g : G} {r : Nat} {vl : Value} {left : List Nat} {m m8 : Nat} {T1 : TypeId}

theorem isM_ok {v : Nat} (hm : h[m8]? = some (.cells #[I m] T1 (0, 0))) (hK : K (.bool (decide (v = m))) h) : callV Tryz.prog (.func (.func F_far_marks_1_2) #[] #[ptr m8]) [I v].toArray h K := by
 refine callV_of (l := [I v, ptr m8]) rfl (lk_far_marks_1_2 _ _ ?_)
 unfold sh_far_marks_1_2
 have cm : hcell h ⟨m8, 0, none⟩ = some (I m) := hcell_of hm rfl
 refine pLoad_of rfl cm ?_
 rw [pBin_eql]
 have : ((v : Int) == (m : Int)) = decide (v = m) := Bool.eq_iff_iff.2 (by simp; omega)
 rw [this]; exact hK

theorem idx_ok (Hl : Vw encJ 1 h vl (nI left)) (hm : h[m8]? = some (.cells #[I m] T1 (0, 0))) (hll : left.length < 2 ^ 40) (hin : m ∈ left)
  (hK : ∀ i (hi : i < left.length), left[i] = m -> m ∉ left.take i -> K (I i) h) : callS Tryz.prog F_slices_IndexFunc_sl_int_int [vl, .func (.func F_far_marks_1_2) #[] #[ptr m8]] h K := by
 refine callS_of (lk_slices_IndexFunc_sl_int_int _ _ ?_)
 unfold sh_slices_IndexFunc_sl_int_int
 refine Hl.len ?_
 rw [nI_len]
 refine LoopH_count left.length (fun i x h' => x.1 = I i /\ m ∉ left.take i /\ h' = h) ⟨rfl, by simp, rfl⟩ ?_
 rintro i ⟨x, ⟨⟩⟩ h' Z hi ⟨hx, hn, rfl⟩ hZ
 dsimp only at hx hZ ⊢
 subst hx
 unfold sh_slices_IndexFunc_sl_int_int_L1
 simp only [pBin_lss, ifV_dec]
 refine ⟨fun hlt => ?_, fun hge => ?_⟩
 ·have hlt : i < left.length := by omega
  have hq : (nI left)[i]? = some ((left[i] : Nat) : Int) := by simp [nI, hlt]
  refine Hl.atQ hq (isM_ok hm ?_)
  show ifV (.bool (decide (left[i] = m))) _ _
  rw [ifV_dec]
  refine ⟨fun e => hK i hlt e hn, fun e => ?_⟩
  rw [pBin_add, wI i (by omega)]
  refine hZ (I (i + 1 : Nat), ()) _ hlt ⟨rfl, ?_, rfl⟩
  rw [List.take_succ_eq_append_getElem hlt, List.mem_append, not_or]
  exact ⟨hn, by simpa using fun h => e h.symm⟩
 ·have : i = left.length := by omega
  subst this
  rw [List.take_length] at hn
  exact absurd hin hn

theorem filter_no {l : List Nat} (h : m ∉ l) : l.filter (· != m) = l := by
 rw [List.filter_eq_self]
 intro a ha
 simp only [bne_iff_ne]
 intro e; subst e; exact h ha

theorem delete_ok {p q : Nat} (o : Own h0 h L) (hp : L[p]? = some (slR encJ 1 T_int vl (nI left))) (hq : L[q]? = some (cellR m8 [I m] T1)) (hpq : p ≠ q) (hll : left.length < 2 ^ 40) (hin : m ∈ left)
  (hK : ∀ v' h', Own h0 h' (L.set p (slR encJ 1 T_int v' (nI (left.filter (· != m))))) -> K v' h') : callS Tryz.prog F_slices_DeleteFunc_sl_int_int [vl, .func (.func F_far_marks_1_2) #[] #[ptr m8]] h K := by
 refine callS_of (lk_slices_DeleteFunc_sl_int_int _ _ ?_)
 unfold sh_slices_DeleteFunc_sl_int_int
 refine idx_ok (o.vw p hp) (o.get q hq) hll hin fun i0 hi0 e0 n0 => ?_
 rw [pBin_eql, show ((i0 : Int) == -1) = false by simp, ifV_false, pBin_add, wI i0 (by omega)]
 have hset : ∀ {ys : List Int}, (L.set p (slR encJ 1 T_int vl ys))[p]? = some (slR encJ 1 T_int vl ys) := set_get hp
 have hqs : ∀ {r : Res}, (L.set p r)[q]? = some (cellR m8 [I m] T1) := fun {r} => by rw [List.getElem?_set_ne hpq]; exact hq
 have f0 : (left.take (i0 + 1)).filter (· != m) = left.take i0 := by
  rw [List.take_succ_eq_append_getElem hi0, List.filter_append, filter_no n0, e0]
  simp
 refine LoopH_count (left.length - (i0 + 1)) (fun k x h' => ∃ (ys : List Int) (a : Nat), x.1 = I a /\ x.2.1 = I ((i0 + 1 + k : Nat) : Int) /\ a < i0 + 1 + k /\ ys.length = left.length /\ ys.take a = nI ((left.take (i0 + 1 + k)).filter (· != m)) /\ ys.drop (i0 + 1 + k) = (nI left).drop (i0 + 1 + k) /\ Own h0 h' (L.set p (slR encJ 1 T_int vl ys)))
  ⟨nI left, i0, rfl, rfl, by omega, nI_len, by rw [Nat.add_zero, f0]; simp [nI, List.map_take], rfl, by rw [set_same hp]; exact o⟩ ?_
 clear o
 rintro k ⟨x, y, ⟨⟩⟩ h' Z hk ⟨ys, a, hx, hy, haj, hyl, hta, hdr, o⟩ hZ
 dsimp only at hx hy hZ ⊢
 subst hx hy
 generalize hj : i0 + 1 + k = j at haj hta hdr hZ
 unfold sh_slices_DeleteFunc_sl_int_int_L1
 refine (o.vw p hset).len ?_
 rw [hyl]
 simp only [pBin_lss, ifV_dec]
 refine ⟨fun hlt => ?_, fun hge => ?_⟩
 ·have hlt : j < left.length := by omega
  have hyq : ys[j]? = some ((left[j] : Nat) : Int) := by
   have := congrArg (fun l : List Int => l[0]?) hdr
   simp only [List.getElem?_drop, Nat.add_zero] at this
   rw [this]; simp [nI, hlt]
  have htk : left.take (j + 1) = left.take j ++ [left[j]] := List.take_succ_eq_append_getElem hlt
  refine (o.vw p hset).atQ hyq (isM_ok (o.get q hqs) ?_)
  generalize left[j] = v at hyq htk
  have next : ∀ (zs : List Int) (b : Nat) h2, b < j + 1 -> zs.length = left.length -> zs.take b = nI ((left.take (j + 1)).filter (· != m)) -> zs.drop (j + 1) = (nI left).drop (j + 1) -> Own h0 h2 (L.set p (slR encJ 1 T_int vl zs)) -> sh_slices_DeleteFunc_sl_int_int_k2 Tryz.prog (I j) (fun a0 a1 hz => Z (a0, (a1, ())) hz) (I b) h2 := by
   intro zs b h2 hb hzl hzt hzd oz
   unfold sh_slices_DeleteFunc_sl_int_int_k2
   rw [pBin_add, wI j (by omega)]
   have ej : i0 + 1 + (k + 1) = j + 1 := by omega
   exact hZ (I b, I (j + 1 : Nat), ()) h2 (by omega) ⟨zs, b, rfl, by rw [ej], by omega, hzl, by rw [ej]; exact hzt, by rw [ej]; exact hzd, oz⟩
  have dropS : ys.drop (j + 1) = (nI left).drop (j + 1) := by
   have := congrArg (List.drop 1) hdr
   simpa [List.drop_drop, Nat.add_comm] using this
  rw [pUn_not]
  by_cases hv : v = m
  ·rw [decide_eq_true hv, Bool.not_true, ifV_false]
   refine next ys a h' (by omega) hyl ?_ dropS o
   rw [htk, List.filter_append, hv, hta]; simp
  ·rw [decide_eq_false hv, Bool.not_false, ifV_true]
   refine o.setI p hset (by omega) fun h2 o2 => ?_
   rw [List.set_set] at o2
   rw [pBin_add, wI a (by omega)]
   refine next (ys.set a v) (a + 1) h2 (by omega) (by rw [List.length_set]; exact hyl) ?_ ?_ o2
   ·rw [htk, List.filter_append]
    have : [v].filter (· != m) = [v] := by simp [hv]
    rw [this]
    have e1 : (ys.set a (v : Int)).take (a + 1) = ys.take a ++ [(v : Int)] := by
     rw [List.take_succ_eq_append_getElem (by rw [List.length_set]; omega), List.getElem_set_self, List.take_set_of_le (Nat.le_refl _)]
    rw [e1, hta]; simp [nI]
   ·rw [List.drop_set_of_lt (by omega)]; exact dropS
 ·have hjl : j = left.length := by omega
  subst hjl
  have hal : a <= ys.length := by omega
  refine o.clearTail p hset hal fun h2 o2 => ?_
  rw [List.set_set] at o2
  refine o2.pre encI_len p (set_get hp) (by simp; omega) fun v' o3 => ?_
  rw [List.set_set] at o3
  rw [List.take_length] at hta
  have e : (ys.take a ++ List.replicate (ys.length - a) (0 : Int)).take a = nI (left.filter (· != m)) := by
   rw [List.take_append_of_le_length (by simp; omega), List.take_take, Nat.min_self]
   exact hta
  rw [e] at o3
  exact hK v' h2 o3

end
open Go Go.Mh

section
variable {h0 h : Heap} {L : List Res} {K : KT} {g : G} {r : Nat}

def upto (n i : Nat) : List Int := nI (List.range i) ++ List.replicate (n - i) 0
theorem upto_step {n i : Nat} (h : i < n) : (upto n i).set i (i : Int) = upto n (i + 1) := by
 unfold upto
 have hl : (nI (List.range i)).length = i := by rw [nI_len, List.length_range]
 rw [List.set_append_right _ _ (by omega), hl, Nat.sub_self, show n - i = (n - (i + 1)) + 1 by omega, List.replicate_succ, List.set_cons_zero, List.range_succ]
 simp [nI]

theorem fmarks_iter {n2 f3 : Nat} {first : Int} {T1 T2 : TypeId} (hR : g.Right) :
  IterG Tryz.prog (.func (.func F_far_marks_1) #[] #[ptr n2, ptr f3]) (fun h => h[n2]? = some (.cells #[ptr r] T1 (0, 0)) /\ h[f3]? = some (.cells #[I first] T2 (0, 0)) /\ NetR h r g) (σ := Nat × List Nat × List Int)
   (0, List.range g.n, cov g [first]) (mNext g) (fun p => p.2.1 = []) := by
 rintro yv h0 h Rs K J E ⟨l, rfl⟩ o j0 hQ hY hK
 refine callF_of (l := [yieldV l, ptr n2, ptr f3]) rfl (lk_far_marks_1 _ _ _ ?_)
 unfold sh_far_marks_1
 have hmost := hR.most
 obtain ⟨hn, hf, hN⟩ := hQ _ _ _ j0 o
 have cn : hcell h ⟨n2, 0, none⟩ = some (ptr r) := hcell_of hn rfl
 have cf : hcell h ⟨f3, 0, none⟩ = some (I first) := hcell_of hf rfl
 refine pLoad_of rfl cn (nodes_ok hN ?_)
 refine (Own.start h).make (enc := encJ) (n := 1) (a := 0) rfl (by omega) (by omega) fun vl h1 o1 => ?_
 refine (o1.vw 0 rfl).len ?_
 rw [List.length_replicate]
 refine LoopH_count g.n (fun i x h' => x.1 = I i /\ Own h h' [slR encJ 1 T_int vl (upto g.n i)]) ⟨rfl, by simpa [upto, nI] using o1⟩ ?_
 clear o1
 rintro i ⟨x, ⟨⟩⟩ h1 Z hi ⟨hx, o1⟩ hZ
 dsimp only at hx hZ ⊢
 subst hx
 unfold sh_far_marks_1_L1
 have hul : (upto g.n i).length = g.n := by unfold upto; rw [List.length_append, nI_len, List.length_range, List.length_replicate]; omega
 simp only [pBin_lss, ifV_dec]
 refine ⟨fun hlt => ?_, fun hge => ?_⟩
 ·have hlt : i < g.n := by omega
  refine o1.setI 0 rfl (by omega) fun h2 o2 => ?_
  rw [upto_step hlt] at o2
  rw [pBin_add, wI i (by omega)]
  exact hZ (I (i + 1 : Nat), ()) h2 hlt ⟨rfl, o2⟩
 ·have : i = g.n := by omega
  subst this
  have eu : upto g.n g.n = nI (List.range g.n) := by unfold upto; rw [Nat.sub_self, List.replicate_zero, List.append_nil]
  rw [eu] at o1
  refine pLoad_of rfl (hcell_more o1.ext cn) (pLoad_of rfl (hcell_more o1.ext cf) ?_)
  refine o1.build (enc := encJ) (n := 1) [first] rfl (sizesOk_of rfl) rfl fun wf h2 o2 => ?_
  refine cover_ok o2 hR (hN.more o2.ext) (o2.vw 0 rfl) (by simp) fun vc h3 o3 => ?_
  have hvc := o3.vw 0 rfl
  refine o3.box fun c6 h4 o4 => o4.st1 0 (cs' := [vc]) rfl rfl rfl hvc.one hvc.plain fun h5 o5 => ?_
  have o6 : Own h0 h5 ([slR encJ 1 T_int vl (nI (List.range g.n)), cellR c6 [vc] T_sl_int64, xR vc (cov g [first])] ++ Rs) := o.frame (o5.sel [3, 0, 1] (by decide))
  clear o5 o4 o3 o2 o1 hZ eu hul
  refine LoopH_down (fun k x h' => ∃ (left : List Nat) (i : Nat) (c : List Int) (vc : Value) (Rs' : List Res), k = left.length /\ x.2.1 = I i /\ i + left.length <= g.n /\ c.length = g.n /\ (∀ v ∈ left, v < g.n) /\ left.Nodup /\ J (i, left, c) Rs' /\
   Own h0 h' ([slR encJ 1 T_int x.1 (nI left), cellR c6 [vc] T_sl_int64, xR vc c] ++ Rs')) (k0 := g.n) ⟨List.range g.n, 0, cov g [first], vc, Rs, by simp, rfl, by simp, cov_len, by simp, List.nodup_range, j0, o6⟩ ?_
  clear o6 hvc hn hf hN cn cf o j0
  rintro k ⟨vl, y, ⟨⟩⟩ h6 Z2 ⟨left, i, c, vc, Rs', rfl, hy, hil, hcl, hlr, hnd, hj, o⟩ hZ2
  dsimp only at hy o hZ2 ⊢
  subst hy
  unfold sh_far_marks_1_L2
  refine (o.vw 0 rfl).len ?_
  rw [nI_len]
  simp only [pBin_gtr, ifV_dec]
  refine ⟨fun hpos => ?_, fun hz => ?_⟩
  ·have hne : left ≠ [] := fun e => by subst e; simp at hpos
   obtain ⟨hn, hf, hN⟩ := hQ _ _ _ hj o.tail.tail.tail
   have hm := bst_mem (c := c) hne
   have hmn := hlr _ hm
   refine best_ok (o.vw 0 rfl) (o.get 1 rfl) (o.vw 2 rfl) (fun v hv => by rw [hcl]; exact hlr v hv) (by omega) ?_
   have nx : mNext g (i, left, c) [I (bst c left)] (i + 1, left.filter (· != bst c left), cl (if i = 0 then List.replicate g.n far else c) (g.fromI (bst c left)).dist) := ⟨hne, rfl, rfl⟩
   have hfl : (left.filter (· != bst c left)).length < left.length := by
    have := List.length_filter_lt_length_iff_exists (l := left) (p := (· != bst c left))
    exact this.2 ⟨_, hm, by simp⟩
   generalize bst c left = m at hm hmn nx hfl
   refine o.box fun m8 h7 o7 => o7.st1 0 (cs' := [I m]) rfl rfl rfl rfl rfl fun h8 o8 => o8.load 0 rfl rfl ?_
   have o9 : Own h0 h8 (Rs' ++ [cellR m8 [I m] T_int, slR encJ 1 T_int vl (nI left), cellR c6 [vc] T_sl_int64, xR vc c]) := Own.comm (L := [cellR m8 [I m] T_int, slR encJ 1 T_int vl (nI left), cellR c6 [vc] T_sl_int64, xR vc c]) o8
   refine hY _ _ _ Rs' _ h8 _ nx hj o9 (fun Rs'' h9 hj' o' => ?_) fun Rs'' h9 he o' => ?_
   ·rw [pUn_not, Bool.not_true, ifV_false]
    have o10 : Own h0 h9 ([cellR m8 [I m] T_int, slR encJ 1 T_int vl (nI left), cellR c6 [vc] T_sl_int64, xR vc c] ++ Rs'') := Own.comm o'
    refine delete_ok o10 (p := 1) (q := 0) rfl rfl (by decide) (by omega) hm fun vl' h10 o11 => ?_
    obtain ⟨hn', hf', hN'⟩ := hQ _ _ _ hj' o11.tail.tail.tail.tail
    have cn' : hcell h10 ⟨n2, 0, none⟩ = some (ptr r) := hcell_of hn' rfl
    have k3 : ∀ (vc' : Value) (c' : List Int) h11, c'.length = g.n -> c' = (if i = 0 then List.replicate g.n far else c) -> Own h0 h11 ([cellR m8 [I m] T_int, slR encJ 1 T_int vl' (nI (left.filter (· != m))), cellR c6 [vc'] T_sl_int64, xR vc' c'] ++ Rs'') ->
      sh_far_marks_1_k3 Tryz.prog (ptr n2) (ptr c6) (ptr m8) (I i) (fun a0 a1 hz => Z2 (a0, (a1, ())) hz) vl' h11 := by
     intro vc' c' h11 hcl' hc' o12
     unfold sh_far_marks_1_k3
     obtain ⟨hn', hf', hN'⟩ := hQ _ _ _ hj' o12.tail.tail.tail.tail
     have cn' : hcell h11 ⟨n2, 0, none⟩ = some (ptr r) := hcell_of hn' rfl
     refine pLoad_of rfl cn' (o12.load 2 rfl rfl (o12.load 0 rfl rfl ?_))
     refine closer_ok o12 3 rfl hcl' hR hN' fun h12 o13 => ?_
     rw [pBin_add, wI i (by omega)]
     refine hZ2 (vl', I (i + 1 : Nat), ()) h12 (left.filter (· != m)).length hfl ⟨left.filter (· != m), i + 1, cl c' (g.fromI m).dist, vc', Rs'', rfl, rfl, by omega, by rw [cl_len]; exact hcl', fun v hv => hlr v (List.mem_filter.1 hv).1, hnd.filter _, by rw [hc']; exact hj', o13.tail⟩
    rw [pBin_eql]
    by_cases h0 : i = 0
    ·subst h0
     show ifV (.bool true) _ _
     rw [ifV_true]
     refine pLoad_of rfl cn' (cover_ok o11 hR hN' .nil (by decide) fun vc' h11 o12 => ?_)
     have hvc' := o12.vw 0 rfl
     refine o12.st1 3 (cs' := [vc']) rfl rfl rfl hvc'.one hvc'.plain fun h12 o13 => ?_
     refine k3 vc' (cov g []) h12 cov_len rfl ?_
     exact o13.front 5 [1, 2, 3, 0] (by decide) (by decide)
    ·rw [show ((i : Int) == 0) = false by simpa using h0, ifV_false]
     exact k3 vc c h10 hcl (by rw [if_neg h0]) o11
   ·rw [pUn_not, Bool.not_false, ifV_true]
    exact hK _ _ (.inr he) o'.left
  ·have hle : left = [] := List.eq_nil_of_length_eq_zero (by omega)
   exact hK _ _ (.inl ⟨_, hle, hj⟩) o.tail.tail.tail

end
open Go Go.Mh

section
variable {h0 h : Heap} {L : List Res} {K : KT} {g : G} {r : Nat}

abbrev encU (x : Int) : List Value := encK .u32 x
theorem encU_plain (x : Int) : ∀ u ∈ encU x, Mh.plainCell u = true := by intro u hu; simp [encK] at hu; subst hu; rfl

def drawP : List Int -> Nat -> Int × List Int
 | [], _ => (0, [])
 | x :: r, n => (x.tmod n, r)

theorem dnew_ok {vl : Value} {xs : List Int} (o : Own h0 h L) (Hl : Vw encU 1 h vl xs) (hb : (xs.length : Int) * 4 <= 2 ^ 48) (hK : ∀ pd w h', Own h0 h' (cellR pd [w] T_draw_Draws :: quR encU 1 T_uint32 w xs :: L) -> K (ptr pd) h') : callS Tryz.prog F_draw_New [vl] h K := by
 refine callS_of (lk_draw_New _ ?_)
 unfold sh_draw_New
 refine Hl.len ?_
 refine (Own.start h).make (enc := encU) (n := 1) (a := 0) (m := xs.length) rfl (by omega) (by omega) fun w h1 o1 => ?_
 refine o1.copyAll (ys := xs) 0 rfl (fun _ => rfl) encU_plain (Hl.more o1.ext) (by simp) fun h2 o2 => ?_
 have hw := o2.vw 0 rfl
 refine pBuild_ones (cs' := [w]) (fun p hp => by simp at hp; subst hp; exact hw.one) rfl rfl ?_
 refine o2.box fun pd h3 o3 => ?_
 have o4 := o3.que 1 rfl
 exact hK pd w h3 (o.frame o4)

theorem dleft_ok {pd : Nat} {vl : Value} {xs : List Int} (o : Own h0 h L) (p q : Nat) (hp : L[p]? = some (cellR pd [vl] T_draw_Draws)) (hq : L[q]? = some (quR encU 1 T_uint32 vl xs)) (hK : K (I xs.length) h) : callS Tryz.prog F_draw_Draws_Left [ptr pd] h K := by
 refine callS_of (lk_draw_Draws_Left _ ?_)
 unfold sh_draw_Draws_Left
 simp only [pEq_ptr_nil, Option.isNone_some, ifV_false]
 simp only [pNil_ptr, pField_ptr]
 exact o.load p hp rfl ((o.qvw q hq).len hK)

theorem dnext_ok {pd n : Nat} {vl : Value} {xs : List Int} (o : Own h0 h L) (p q : Nat) (hp : L[p]? = some (cellR pd [vl] T_draw_Draws)) (hq : L[q]? = some (quR encU 1 T_uint32 vl xs)) (hpq : p ≠ q) (hn : 1 <= n) (hn2 : n < 2 ^ 40) (hxl : xs.length < 2 ^ 62) (hr : ∀ x ∈ xs, 0 <= x /\ x <= 4294967295)
  (hK : ∀ vl' h', Own h0 h' ((L.set p (cellR pd [vl'] T_draw_Draws)).set q (quR encU 1 T_uint32 vl' (drawP xs n).2)) -> K (I (drawP xs n).1) h') : callS Tryz.prog F_draw_Draws_Next [ptr pd, I n] h K := by
 refine callS_of (lk_draw_Draws_Next _ _ ?_)
 unfold sh_draw_Draws_Next
 rw [pBin_lss, decide_eq_false (by omega), ifV_false]
 refine dleft_ok o p q hp hq ?_
 rw [pBin_eql]
 cases xs with
 | nil =>
  show ifV (.bool true) _ _
  rw [ifV_true]
  unfold sh_draw_Draws_Next_k1
  refine hK vl h ?_
  rw [set_same hp]
  have : L.set q (quR encU 1 T_uint32 vl (drawP [] n).2) = L := set_same hq
  rw [this]; exact o
 | cons x r =>
  rw [show (((x :: r).length : Int) == 0) = false by simp; omega, ifV_false]
  simp only [pNil_ptr, pField_ptr]
  refine o.load p hp rfl ?_
  refine callS_of (lk_draw_first_uint32 _ ?_)
  unfold sh_draw_first_uint32
  have hx := hr x (List.mem_cons_self ..)
  refine (o.qvw q hq).at1 (e := fun x : Int => .int .u32 x) (fun _ => rfl) (i := 0) (by simp) ?_
  refine (o.qvw q hq).len ((o.qvw q hq).len ?_)
  refine o.qtail3 (fun _ => rfl) q hq (by simp) fun v' o1 => ?_
  simp only [pExt0, pExt1]
  try simp only [pNil_ptr, pField_ptr]
  have hp1 : (L.set q (quR encU 1 T_uint32 v' r))[p]? = some (cellR pd [vl] T_draw_Draws) := by rw [List.getElem?_set_ne (Ne.symm hpq)]; exact hp
  have hv' := o1.qvw q (set_get hq)
  refine o1.st1 p hp1 (cs' := [v']) rfl rfl hv'.one hv'.plain fun h2 o2 => ?_
  simp only [pConv_int]
  rw [show ((x :: r)[0]'(by simp)) = x from rfl, w64 (by omega) (by omega), pBin_rem]
  refine ⟨by omega, hK v' h2 ?_⟩
  rw [List.set_comm _ _ (Ne.symm hpq)] at o2
  exact o2

theorem fmarks_ok {k : Nat} {PL : List Res -> Prop} {first : Int} {d : Value} (hR : g.Right) (H0 : ∀ {h' L'}, PL L' -> Own h0 h' L' -> NetR h' r g) (hk : 1 <= k) (hkl : k < 2 ^ 40)
  (hd : ∀ {K' : KT} {h1 : Heap} {A : List Res}, Own h h1 A -> (∀ h2 L', PL L' -> Own h0 h2 (A ++ L') -> K' (I first) h2) -> callS Tryz.prog F_draw_Draws_Next [d, I g.n] h1 K') (H1 : NetR h r g)
  (hK : ∀ w h' L', PL L' -> Own h0 h' (slR encJ 1 T_int w (nI (mgo g k 0 (List.range g.n) (cov g [first]))) :: L') -> K w h') : callS Tryz.prog F_far_Marks [ptr r, I k, d] h K := by
 refine callS_of (lk_far_Marks _ _ _ ?_)
 unfold sh_far_Marks
 have hmost := hR.most
 refine (Own.start h).box fun k4 h1 o1 => o1.box fun l6 h2 o2 => ?_
 simp only [pEq_ptr_nil, Option.isNone_some, ifV_false]
 refine o2.load 1 rfl rfl ?_
 rw [pBin_lss, decide_eq_false (by omega), ifV_false]
 refine nodes_ok (H1.more o2.ext) (hd o2 fun h3 L' hPL o3 => ?_)
 have H : ∀ {h'}, Own h0 h' L' -> NetR h' r g := fun o => H0 hPL o
 refine callS_of (lk_far_marks _ _ ?_)
 unfold sh_far_marks
 refine o3.box fun n2 h4 o4 => o4.box fun f3 h5 o5 => ?_
 have o5 : Own h0 h5 ([cellR f3 [I first] T_int, cellR n2 [ptr r] T_p_net_Net, cellR l6 [.slice none 0 0] T_sl_int, cellR k4 [I k] T_int] ++ L') := o5
 have o6 : Own h0 h5 ([cellR f3 [I first] T_int, cellR n2 [ptr r] T_p_net_Net, slR encJ 1 T_int (.slice none 0 0) (nI []), cellR l6 [.slice none 0 0] T_sl_int, cellR k4 [I k] T_int] ++ L') := (o5.nilS (enc := encJ) (n := 1) (T := T_int)).front 5 [1, 2, 0, 3, 4] (by decide) (by decide)
 generalize hall : mgo g k 0 (List.range g.n) (cov g [first]) = all at hK
 refine o6.range (fmarks_iter (r := r) (T1 := T_p_net_Net) (T2 := T_int) hR) (by rintro p x p' ⟨_, rfl, _⟩; rfl)
  (fun p Rs => ∃ acc vl, acc.length = p.1 /\ p.1 < k /\ all = acc ++ mgo g (k - p.1) p.1 p.2.1 p.2.2 /\ Rs = [cellR f3 [I first] T_int, cellR n2 [ptr r] T_p_net_Net, slR encJ 1 T_int vl (nI acc), cellR l6 [vl] T_sl_int, cellR k4 [I k] T_int] ++ L')
  (fun _ => False)
  (fun id Rs => id = 0 /\ ∃ vl, Rs = [cellR f3 [I first] T_int, cellR n2 [ptr r] T_p_net_Net, slR encJ 1 T_int vl (nI all), cellR l6 [vl] T_sl_int, cellR k4 [I k] T_int] ++ L')
  ⟨[], .slice none 0 0, rfl, by omega, hall.symm, rfl⟩ ?_ ?_ ?_ (fun _ _ h => h.elim) ?_
 ·rintro p Rs' h' ⟨acc, vl, _, _, _, rfl⟩ o'
  exact ⟨o'.get 1 rfl, o'.get 0 rfl, H o'.tail.tail.tail.tail.tail⟩
 ·rintro M ⟨i, left, c⟩ x p' Rs' Pr h' R ⟨hne, rfl, rfl⟩ ⟨acc, vl, hacc, hik, hch, rfl⟩ o' hN _ hX
  dsimp only [valsOf] at hne hacc hik hch ⊢
  rw [show k - i = (k - (i + 1)) + 1 by omega, mgo_next hne] at hch
  generalize bst c left = m at hch hN
  unfold sh_far_Marks_B2
  refine o'.begin 0 rfl fun h9 o9 => ?_
  have o9 : Own h0 h9 (loopR _ _ :: markR _ :: cellR f3 [I first] T_int :: cellR n2 [ptr r] T_p_net_Net :: slR encJ 1 T_int vl (nI acc) :: cellR l6 [vl] T_sl_int :: cellR k4 [I k] T_int :: (L' ++ Pr)) := o9
  refine o9.load 5 rfl rfl ?_
  refine o9.app1 4 (m : Int) rfl rfl (sizesOk_of rfl) encI_len encI_plain rfl (by decide) (by rw [nI_len]; omega) fun vl' h10 o10 => ?_
  have e1 : nI acc ++ [(m : Int)] = nI (acc ++ [m]) := by simp [nI]
  rw [e1] at o10
  have hv' := o10.vw 4 rfl
  refine o10.st1 5 (cs' := [vl']) rfl rfl rfl hv'.one hv'.plain fun h11 o11 => o11.load 5 rfl rfl ?_
  refine (o11.vw 4 rfl).len (o11.load 6 rfl rfl ?_)
  rw [nI_len, List.length_append, List.length_singleton, pBin_eql]
  by_cases hik2 : i + 1 = k
  ·rw [show (((acc.length + 1 : Nat) : Int) == (k : Int)) = true by simp; omega, ifV_true]
   refine hX 0 ([cellR f3 [I first] T_int, cellR n2 [ptr r] T_p_net_Net, slR encJ 1 T_int vl' (nI all), cellR l6 [vl'] T_sl_int, cellR k4 [I k] T_int] ++ L') h11 ⟨rfl, vl', rfl⟩ ?_
   have : all = acc ++ [m] := by rw [hch, show k - (i + 1) = 0 by omega]; rfl
   rw [this]
   exact o11
  ·rw [show (((acc.length + 1 : Nat) : Int) == (k : Int)) = false by simp; omega, ifV_false]
   refine hN ([cellR f3 [I first] T_int, cellR n2 [ptr r] T_p_net_Net, slR encJ 1 T_int vl' (nI (acc ++ [m])), cellR l6 [vl'] T_sl_int, cellR k4 [I k] T_int] ++ L') h11 ⟨acc ++ [m], vl', by simp [hacc], by omega, by rw [hch]; simp, rfl⟩ ?_
   exact o11
 ·rintro ⟨i, left, c⟩ h' Rs' hst ⟨acc, vl, hacc, hik, hch, rfl⟩ o'
  dsimp only at hst hch
  subst hst
  have : all = acc := by
   rw [hch, show k - i = (k - (i + 1)) + 1 by dsimp only at hik; omega]; simp [mgo]
  subst this
  unfold sh_far_Marks_k3
  have o' : Own h0 h' (markR _ :: cellR f3 [I first] T_int :: cellR n2 [ptr r] T_p_net_Net :: slR encJ 1 T_int vl (nI all) :: cellR l6 [vl] T_sl_int :: cellR k4 [I k] T_int :: L') := o'
  have hv := o'.vw 3 rfl
  refine o'.load 4 rfl rfl (o'.st1 4 (cs' := [vl]) rfl rfl rfl hv.one hv.plain fun h9 o9 => o9.take1 0 rfl fun h10 o10 => o10.load 4 rfl rfl (hK vl h10 L' hPL ?_))
  exact o10.front 6 [3] (by decide) (by decide)
 ·rintro id h' Rs' ⟨rfl, vl, rfl⟩ o'
  show sh_far_Marks_k3 Tryz.prog (ptr l6) h5 K h'
  unfold sh_far_Marks_k3
  have o' : Own h0 h' (markR _ :: cellR f3 [I first] T_int :: cellR n2 [ptr r] T_p_net_Net :: slR encJ 1 T_int vl (nI all) :: cellR l6 [vl] T_sl_int :: cellR k4 [I k] T_int :: L') := o'
  have hv := o'.vw 3 rfl
  refine o'.load 4 rfl rfl (o'.st1 4 (cs' := [vl]) rfl rfl rfl hv.one hv.plain fun h9 o9 => o9.take1 0 rfl fun h10 o10 => o10.load 4 rfl rfl (hK vl h10 L' hPL ?_))
  exact o10.front 6 [3] (by decide) (by decide)

theorem fmarksD_ok {k pd : Nat} {vl : Value} {xs : List Int} {N : Res} (o : Own h0 h (cellR pd [vl] T_draw_Draws :: quR encU 1 T_uint32 vl xs :: L)) (p : Nat) (hp : L[p]? = some N) (hR : g.Right) (hN : netR N r g) (hk : 1 <= k) (hkl : k < 2 ^ 40) (hxl : xs.length < 2 ^ 62) (hr : ∀ x ∈ xs, 0 <= x /\ x <= 4294967295)
  (hK : ∀ w vl' h', Own h0 h' (slR encJ 1 T_int w (nI (mgo g k 0 (List.range g.n) (cov g [(drawP xs g.n).1]))) :: cellR pd [vl'] T_draw_Draws :: quR encU 1 T_uint32 vl' (drawP xs g.n).2 :: L) -> K w h') : callS Tryz.prog F_far_Marks [ptr r, I k, ptr pd] h K := by
 have hpos := hR.pos
 have hmost := hR.most
 refine fmarks_ok (PL := fun L2 => ∃ vl', L2 = cellR pd [vl'] T_draw_Draws :: quR encU 1 T_uint32 vl' (drawP xs g.n).2 :: L) (first := (drawP xs g.n).1) hR ?_ hk hkl ?_ (hN _ (o.get (p + 2) hp)) fun w h' L' ⟨vl', e⟩ o' => hK w vl' h' (by subst e; exact o')
 ·rintro h' L' ⟨vl', rfl⟩ o'
  exact hN _ (o'.get (p + 2) hp)
 ·intro K' h1 A oA hk'
  have o1 := o.frame oA
  refine dnext_ok o1 A.length (A.length + 1) (by rw [List.getElem?_append_right (Nat.le_refl _), Nat.sub_self]; rfl) (by rw [List.getElem?_append_right (by omega), Nat.add_sub_cancel_left]; rfl) (by omega) hpos (by omega) hxl hr fun vl' h2 o2 => hk' h2 _ ⟨vl', rfl⟩ ?_
  rw [List.set_append_right _ _ (Nat.le_refl _), Nat.sub_self, List.set_cons_zero, List.set_append_right _ _ (by omega), Nat.add_sub_cancel_left] at o2
  exact o2

end
open Go Go.Mh

theorem plain_one {u : Value} (h : Mh.plainCell u = true) : u.cells = #[u] := by
 cases u <;> first | rfl | (exfalso; revert h; decide) | simp [Mh.plainCell] at h

section
variable {h0 h : Heap} {L : List Res} {K : KT} {g : G} {rn r : Nat} {vl : Value} {ms : List MV}

theorem has16_ok {b x : Nat} (o : Own h0 h L) (i : Nat) (hi : L[i]? = some (cellR b [I x] T_int)) (Hl : Vw encM 7 h vl ms) (hl : ms.length < 2 ^ 40) (hK : ∀ h', Own h0 h' L -> K (.bool (decide (x ∈ ms.map MV.node))) h') :
  callS Tryz.prog F_slices_ContainsFunc_sl_avoid_mark_avoid_mark [vl, .func (.func F_avoid_next_1) #[] #[ptr b]] h K := by
 refine callS_of (lk_slices_ContainsFunc_sl_avoid_mark_avoid_mark _ _ ?_)
 unfold sh_slices_ContainsFunc_sl_avoid_mark_avoid_mark
 refine callS_of (lk_slices_IndexFunc_sl_avoid_mark_avoid_mark _ _ ?_)
 unfold sh_slices_IndexFunc_sl_avoid_mark_avoid_mark
 refine Hl.len ?_
 refine LoopH_count ms.length (fun j y h' => y.1 = I j /\ Ext h h' /\ Own h0 h' L /\ x ∉ (ms.take j).map MV.node) ⟨rfl, (Own.start h).ext, o, by simp⟩ ?_
 rintro j ⟨y, ⟨⟩⟩ h1 Z hj ⟨hy, x1, o1, hno⟩ hZ
 dsimp only at hy hZ ⊢
 subst hy
 unfold sh_slices_IndexFunc_sl_avoid_mark_avoid_mark_L1
 rw [pBin_lss, ifV_dec]
 refine ⟨fun hlt => ?_, fun hge => ?_⟩
 ·have hlt : j < ms.length := by omega
  refine (Hl.more x1).atN encM_len hlt ?_
  refine next1_ok (fun u hu => plain_one (encM_plain _ u hu)) o1 i hi fun h2 x2 => ?_
  rw [ifV_dec]
  refine ⟨fun he => ?_, fun he => ?_⟩
  ·dsimp only
   rw [pBin_geq, decide_eq_true (by omega)]
   have : x ∈ ms.map MV.node := List.mem_map.2 ⟨_, List.getElem_mem hlt, he⟩
   rw [decide_eq_true this] at hK
   exact hK h2 (o1.more x2)
  ·rw [pBin_add, wI j (by omega)]
   refine hZ (_, ()) h2 hlt ⟨rfl, x1.trans x2 fun _ h _ => h, o1.more x2, ?_⟩
   rw [List.take_succ_eq_append_getElem hlt, List.map_append, List.mem_append]
   rintro (h | h)
   ·exact hno h
   ·simp at h; exact he h.symm
 ·have : j = ms.length := by omega
  subst this
  rw [List.take_length] at hno
  dsimp only
  rw [pBin_geq, decide_eq_false (by omega)]
  rw [decide_eq_false hno] at hK
  exact hK h1 o1

theorem freeM_in {M : List Nat} {k v : Nat} (h : v ∈ M) : freeM M (k + 1) v = freeM M k (v + 1) := by
 conv => lhs; unfold freeM
 rw [if_pos h]
theorem freeM_no {M : List Nat} {k v : Nat} (h : v ∉ M) : freeM M (k + 1) v = v := by
 unfold freeM
 rw [if_neg h]

theorem anext_ok (o : Own h0 h L) (hR : g.Right) (hN : NetR h rn g) (hn : Sm g) (hr : r < g.n) (HM : ∀ m ∈ ms, MkV g h m) (Hl : Vw encM 7 h vl ms) (hl : ms.length < g.n) (hl20 : ms.length <= 2 ^ 20) (hnd : (ms.map MV.node).Nodup)
  (hK : ∀ h', Own h0 h' L -> K (I (nextA g (ms.map MV.node) r)) h') : callS Tryz.prog F_avoid_next [ptr rn, vl, I r] h K := by
 have hmost16 := hR.most
 have hord16 := hn r hr
 refine callS_of (lk_avoid_next _ _ _ ?_)
 unfold sh_avoid_next
 have T := from_tree hR hr
 have hmn : ∀ x ∈ ms.map MV.node, x < g.n := fun x hx => by
  obtain ⟨y, hy, rfl⟩ := List.mem_map.1 hx
  exact (HM y hy).1
 have hol : (g.from r).order.length <= g.n := nodup_le T.nodup T.range
 refine grow_ok hR hN hn hr HM Hl (by omega) fun pt tr m pm b5 b4 b3 ord vs vm sd sa so f kv h1 hf o1 => ?_
 have x1 := o1.ext
 simp only [pNil_ptr, pField_ptr]
 refine o1.load 1 rfl rfl ?_
 refine valuesN_ok o1 (o1.vw 8 rfl) fun s1 h2 o2 => ?_
 have hszl : (growA g (ms.map MV.node) r).sz.length = g.n := (growA_gi hR hn hr hmn).sl
 refine best_ok16 (f := szA g (ms.map MV.node) r) (O := (g.from r).order) o2 rfl rfl (valsN_iter (b := s1) (T := T_sl_int) (by omega)) (fun h' o' => ⟨o'.get 0 rfl, o'.vw 9 rfl⟩)
  (fun h' v K' hv o' hk => size_ok (sz := (growA g (ms.map MV.node) r).sz) o' (i := 2) (j := 6) rfl rfl (by rw [hszl]; exact T.range v hv) hk) fun h3 o3 => ?_
 refine o3.tail.box fun v8 h4 o4 => ?_
 clear o1 o2 o3
 have hnx : nextA g (ms.map MV.node) r = match bestS (szA g (ms.map MV.node) r) (g.from r).order with
  | none => freeM (ms.map MV.node) (g.n + 1) 0
  | some v => down (szA g (ms.map MV.node) r) (growA g (ms.map MV.node) r).kd g.n v := rfl
 have hord : ∀ w, bestS (szA g (ms.map MV.node) r) (g.from r).order = some w -> w ∈ (g.from r).order := fun w hw => by
  rcases bestS_is (f := szA g (ms.map MV.node) r) (l := (g.from r).order) with ⟨e, _⟩ | ⟨w', e, h1, _⟩
  ·rw [e] at hw; cases hw
  ·rw [e] at hw; cases hw; exact h1
 generalize bestS (szA g (ms.map MV.node) r) (g.from r).order = bb at hnx hord
 refine o4.st1 0 (cs' := [bestV bb]) rfl rfl rfl (by cases bb <;> rfl) (by cases bb <;> rfl) fun h5 o5 => o5.load 0 rfl rfl ?_
 clear o4
 cases bb with
 | none =>
  show pBin .lss (I (-1)) _ _
  rw [pBin_lss, show decide ((-1 : Int) < 0) = true from rfl, ifV_true]
  refine o5.st1 0 (cs' := [I (0 : Nat)]) rfl rfl rfl rfl rfl fun h6 o6 => ?_
  clear o5
  have hml : (ms.map MV.node).length = ms.length := List.length_map _
  refine LoopH_count ms.length (fun i y h' => (∀ u, u < i -> u ∈ ms.map MV.node) /\ freeM (ms.map MV.node) (g.n + 1 - i) i = nextA g (ms.map MV.node) r /\ ∃ L', Own h h' (cellR v8 [I i] T_int :: L')) ⟨fun u hu => by omega, hnx.symm, _, o6⟩ ?_
  rintro i ⟨⟩ h7 Z hi ⟨hall, hfm, L', o7⟩ hZ
  unfold sh_avoid_next_L1
  refine has16_ok o7 0 rfl (Hl.more o7.ext) (by omega) fun h8 o8 => ?_
  rw [ifV_dec]
  refine ⟨fun hin => ?_, fun hno => ?_⟩
  ·have hall' : ∀ u, u < i + 1 -> u ∈ ms.map MV.node := fun u hu => by
    by_cases e : u = i
    ·rw [e]; exact hin
    ·exact hall u (by omega)
   have := range_len hall'
   rw [List.length_range, hml] at this
   refine o8.load 0 rfl rfl ?_
   rw [pBin_add, wI i (by omega)]
   refine o8.st1 0 (cs' := [I (i + 1 : Nat)]) rfl rfl rfl rfl rfl fun h9 o9 => hZ () h9 this ⟨hall', ?_, L', o9⟩
   rw [<- hfm, show g.n + 1 - i = (g.n + 1 - (i + 1)) + 1 by omega, freeM_in hin]
  ·refine o8.load 0 rfl rfl ?_
   have := range_len hall
   rw [List.length_range, hml] at this
   rw [show g.n + 1 - i = (g.n - i) + 1 by omega, freeM_no hno] at hfm
   rw [<- hfm] at hK
   exact hK h8 (o.more o8.ext)
 | some w0 =>
  show pBin .lss (I w0) _ _
  rw [pBin_lss, show decide ((w0 : Int) < 0) = false from decide_eq_false (by omega), ifV_false]
  refine o5.load 0 rfl rfl ?_
  have hkd : ∀ v, ∀ w ∈ (growA g (ms.map MV.node) r).kd v, w ∈ (g.from r).order /\ (g.from r).order.idxOf v < (g.from r).order.idxOf w := fun v w hw => by
   obtain ⟨q1, _, _, q4⟩ := par_some T ((kdA hR hn hr hmn).1 hw)
   exact ⟨q1, q4⟩
  have hwo := hord w0 rfl
  dsimp only at hnx
  refine LoopH_count g.n (fun i y h' => (∃ v' : Value, Own h h' (cellR v8 [v'] T_int :: growL g (g.from r) rn r pt tr m pm b5 b4 b3 vs vm sd sa so vl f (growA g (ms.map MV.node) r) (famR encN 1 T_int kv (growA g (ms.map MV.node) r).kd g.n ++ [cellR ord [so] T_sl_int])) /\
    ((∃ w : Nat, y.1 = I w /\ w ∈ (g.from r).order /\ i <= (g.from r).order.idxOf w /\ down (szA g (ms.map MV.node) r) (growA g (ms.map MV.node) r).kd (g.n - i) w = nextA g (ms.map MV.node) r) \/ (y.1 = I (-1) /\ v' = I (nextA g (ms.map MV.node) r))))) ⟨_, o5, .inl ⟨w0, rfl, hwo, Nat.zero_le _, hnx.symm⟩⟩ ?_
  clear o5
  rintro i ⟨y, ⟨⟩⟩ h6 Z hi ⟨v', o6, hs⟩ hZ
  dsimp only at hs hZ ⊢
  unfold sh_avoid_next_L2
  rcases hs with ⟨w, rfl, hw1, hw2, hw3⟩ | ⟨rfl, rfl⟩
  ·have hil : i < g.n := by have := List.idxOf_lt_length_of_mem hw1; omega
   have hwn := T.range w hw1
   rw [pBin_geq, decide_eq_true (by omega), ifV_true]
   refine o6.st1 0 (cs' := [I w]) rfl rfl rfl rfl rfl fun h7 o7 => ?_
   clear o6
   simp only [pNil_ptr, pField_ptr]
   refine o7.load 2 rfl rfl (o7.load 0 rfl rfl (o7.look 3 rfl ?_))
   have hfw := hf w
   show callS Tryz.prog F_slices_Values_sl_int_int [(f w).getD sl0] h7 _
   rw [hfw]
   have hfi : ∀ {v8' : Res} {X : List Res}, (v8' :: growL g (g.from r) rn r pt tr m pm b5 b4 b3 vs vm sd sa so vl f (growA g (ms.map MV.node) r) (famR encN 1 T_int kv (growA g (ms.map MV.node) r).kd g.n ++ X))[w + 13]? = some (slR encN 1 T_int (kv w) ((growA g (ms.map MV.node) r).kd w)) := by
    intro v8' X
    show (famR encN 1 T_int kv (growA g (ms.map MV.node) r).kd g.n ++ X)[w]? = _
    rw [List.getElem?_append_left (by simp [famR]; exact hwn), famR_get hwn]
   refine valuesN_ok o7 (o7.vw (w + 13) hfi) fun s2 h8 o8 => ?_
   have hkl : ((growA g (ms.map MV.node) r).kd w).length <= 32 := by
    have := (growQ_facts hR hn hr hmn (by rw [List.length_map]; omega) (g.from r).order.length).1 w
    rw [growQ_end] at this
    exact this
   refine best_ok16 (f := szA g (ms.map MV.node) r) (O := (growA g (ms.map MV.node) r).kd w) o8 rfl rfl (valsN_iter (b := s2) (T := T_sl_int) (by omega)) (fun h' o' => ⟨o'.get 0 rfl, o'.tail.vw (w + 13) hfi⟩)
    (fun h' v K' hv o' hk => size_ok (sz := (growA g (ms.map MV.node) r).sz) o' (i := 3) (j := 7) rfl rfl (by rw [hszl]; exact T.range v (hkd w v hv).1) hk) fun h9 o9 => ?_
   replace o9 := o9.tail
   refine hZ (_, ()) h9 hil ⟨_, o9, ?_⟩
   rw [show g.n - i = (g.n - (i + 1)) + 1 by omega] at hw3
   unfold down at hw3
   rcases bestS_is (f := szA g (ms.map MV.node) r) (l := (growA g (ms.map MV.node) r).kd w) with ⟨e, _⟩ | ⟨w', e, h1, _⟩
   ·rw [e] at hw3 ⊢
    dsimp only at hw3
    rw [hw3]
    exact .inr ⟨rfl, rfl⟩
   ·rw [e] at hw3 ⊢
    dsimp only at hw3
    obtain ⟨q1, q2⟩ := hkd w w' h1
    exact .inl ⟨w', rfl, q1, by omega, hw3⟩
  ·rw [pBin_geq, show decide ((0 : Int) <= -1) = false from rfl, ifV_false]
   exact o6.load 0 rfl rfl (hK h6 (o.more o6.ext))

end
open Go Go.Mh

section
variable {h0 h : Heap} {L : List Res} {K : KT} {g : G} {r : Nat} {d : Value} {xs : List Int} {DS : Nat -> List Res -> Prop}

theorem own_mid {A B C : List Res} (o : Own h0 h (A ++ (B ++ C))) : Own h0 h (A ++ C) := by
 have o1 : Own h0 h ((A ++ B) ++ C) := by rw [List.append_assoc]; exact o
 have o2 := Own.comm o1
 rw [<- List.append_assoc] at o2
 exact Own.comm o2.left

theorem rootA_draw {i n : Nat} (hn : 0 < n) (hx : ∀ x ∈ xs, 0 <= x) : (drawP (xs.drop i) n).1 = (rootA xs n i : Int) /\ (drawP (xs.drop i) n).2 = xs.drop (i + 1) := by
 by_cases h : i < xs.length
 ·rw [List.drop_eq_getElem_cons h]
  refine ⟨?_, rfl⟩
  show xs[i].tmod n = _
  unfold rootA
  rw [List.getElem?_eq_getElem h]
  show _ = (((xs[i].tmod n).toNat : Nat) : Int)
  have := Int.tmod_nonneg (n : Int) (hx _ (List.getElem_mem h))
  omega
 ·rw [List.drop_eq_nil_of_le (by omega), List.drop_eq_nil_of_le (by omega)]
  refine ⟨?_, rfl⟩
  unfold rootA
  rw [List.getElem?_eq_none (by omega)]
  rfl

theorem amarks_ok {k : Int} (o : Own h0 h L) (hR : g.Right) (hn : Sm g) (hx : ∀ x ∈ xs, 0 <= x) (hk2 : k < 2 ^ 20) (H0 : ∀ {i h' L'}, DS i L' -> Own h0 h' L' -> NetR h' r g) (hL : DS 0 L)
  (hd : ∀ {i : Nat} {K' : KT} {h1 : Heap} {A L' : List Res}, DS i L' -> Own h0 h1 (A ++ L') -> (∀ h2 L'', DS (i + 1) L'' -> Own h0 h2 (A ++ L'') -> K' (I (rootA xs g.n i)) h2) -> callS Tryz.prog F_draw_Draws_Next [d, I g.n] h1 K')
  (hK : ∀ w h' L', DS (min k g.n).toNat L' -> Own h0 h' (slR encN 1 T_int w (mksA g xs (min k g.n).toNat) :: L') -> K w h') : callS Tryz.prog F_avoid_Marks [ptr r, I k, d] h K := by
 have hmost16 := hR.most
 refine callS_of (lk_avoid_Marks _ _ _ ?_)
 unfold sh_avoid_Marks
 have hpos := hR.pos
 simp only [pEq_ptr_nil, Option.isNone_some, ifV_false]
 generalize hkk : (min k g.n).toNat = kk at hK
 have hkn : kk <= g.n := by omega
 refine LoopH_count kk (fun i x h' => ∃ (ms : List MV) (ML L' : List Res), ms.map MV.node = mksA g xs i /\ DS i L' /\ (∀ m ∈ ms, xR m.sd (g.to m.node).dist ∈ ML /\ xR m.fd (g.from m.node).dist ∈ ML) /\
  Own h0 h' (slR encN 1 T_int x.1 (mksA g xs i) :: slR encM 7 T_avoid_mark x.2.1 ms :: (ML ++ L'))) ⟨[], [], L, rfl, hL, fun m hm => by (cases hm), o.nilS.nilS⟩ ?_
 rintro i ⟨wo, wl, ⟨⟩⟩ h1 Z hi ⟨ms, ML, L', hms, hDS, hML, o1⟩ hZ
 dsimp only at o1 hZ ⊢
 unfold sh_avoid_Marks_L1
 refine (o1.vw 0 rfl).len ?_
 rw [mksA_len]
 have oL : Own h0 h1 L' := (Own.comm (L := slR encN 1 T_int wo (mksA g xs i) :: slR encM 7 T_avoid_mark wl ms :: ML) o1).left
 have hN := H0 hDS oL
 refine nodes_ok hN ?_
 rw [pMin_int, show (if (g.n : Int) < k then (g.n : Int) else k) = min k g.n by split <;> omega, pBin_lss, ifV_dec]
 refine ⟨fun hlt => ?_, fun hge => ?_⟩
 ·have hlt : i < kk := by omega
  obtain ⟨hnd, hmlt⟩ := mksA_ok hR hn hx (k := i) (xs := xs) (by omega)
  refine nodes_ok hN ?_
  refine hd (A := slR encN 1 T_int wo (mksA g xs i) :: slR encM 7 T_avoid_mark wl ms :: ML) hDS o1 fun h2 L2 hDS2 o2 => ?_
  clear o1 oL hN
  have o2 : Own h0 h2 (slR encN 1 T_int wo (mksA g xs i) :: slR encM 7 T_avoid_mark wl ms :: (ML ++ L2)) := o2
  have hrt : rootA xs g.n i < g.n := rootA_lt (by omega) hx
  have hlen : ms.length = i := by rw [<- List.length_map (f := MV.node), hms, mksA_len]
  have k2 : ∀ (v : Nat) (h3 : Heap), v < g.n -> mksA g xs (i + 1) = mksA g xs i ++ [v] -> Own h0 h3 (slR encN 1 T_int wo (mksA g xs i) :: slR encM 7 T_avoid_mark wl ms :: (ML ++ L2)) ->
    sh_avoid_Marks_k2 Tryz.prog wo (ptr r) wl (fun a0 a1 hz => Z (a0, (a1, ())) hz) (I v) h3 := by
   intro v h3 hv he o3
   unfold sh_avoid_Marks_k2
   refine o3.app1 0 v rfl rfl (sizesOk_of rfl) (fun _ => rfl) encN_plain rfl (by decide) (by rw [mksA_len]; omega) fun w' h4 o4 => ?_
   have o4 : Own h0 h4 (slR encN 1 T_int w' (mksA g xs i ++ [v]) :: slR encM 7 T_avoid_mark wl ms :: (ML ++ L2)) := o4
   rw [<- he] at o4
   refine o4.build (enc := encJ) (n := 1) [(v : Int)] rfl (sizesOk_of rfl) rfl fun w5 h5 o5 => ?_
   have oL : Own h0 h5 L2 := (Own.comm (L := slR encJ 1 T_int w5 [(v : Int)] :: slR encN 1 T_int w' (mksA g xs (i + 1)) :: slR encM 7 T_avoid_mark wl ms :: ML) o5).left
   refine marks_ok o5 hR (H0 hDS2 oL) (o5.vw 0 rfl) (show 1 < 2 ^ 32 by decide) fun w6 ms1 h6 hms1 o6 => ?_
   have e1 : mksZ g.n [(v : Int)] = [v] := by
    have := mksZ_nI (n := g.n) (l := [v]) (fun m hm => by rw [List.mem_singleton.1 hm]; exact hv)
    exact this
   rw [e1] at hms1
   obtain ⟨m, rfl⟩ : ∃ m, ms1 = [m] := by
    match ms1, hms1 with
    | [m], _ => exact ⟨m, rfl⟩
   have hmv : m.node = v := by simpa using hms1
   have o6 : Own h0 h6 (slR encM 7 T_avoid_mark w6 [m] :: xR m.sd (g.to m.node).dist :: xR m.fd (g.from m.node).dist :: slR encJ 1 T_int w5 [(v : Int)] :: slR encN 1 T_int w' (mksA g xs (i + 1)) :: slR encM 7 T_avoid_mark wl ms :: (ML ++ L2)) := o6
   refine o6.app 5 rfl encM_len encM_plain rfl (o6.vw 0 rfl) (by decide) (by simp only [List.length_cons, List.length_nil]; omega) fun w7 h7 o7 => ?_
   refine hZ (w', (w7, ())) h7 hlt ⟨ms ++ [m], xR m.sd (g.to m.node).dist :: xR m.fd (g.from m.node).dist :: ML, L2, ?_, hDS2, fun m' hm' => ?_, ?_⟩
   ·rw [List.map_append, hms, he]
    simp [hmv]
   ·rcases List.mem_append.1 hm' with hm' | hm'
    ·obtain ⟨a, b⟩ := hML m' hm'
     exact ⟨List.mem_cons_of_mem _ (List.mem_cons_of_mem _ a), List.mem_cons_of_mem _ (List.mem_cons_of_mem _ b)⟩
    ·rw [List.mem_singleton.1 hm']
     exact ⟨List.mem_cons_self, List.mem_cons_of_mem _ List.mem_cons_self⟩
   ·exact o7.front 6 [4, 5, 1, 2] (by decide) (by decide)
  refine (o2.vw 0 rfl).len ?_
  rw [mksA_len, pBin_gtr, ifV_dec]
  refine ⟨fun hp => ?_, fun hz => ?_⟩
  ·have oL : Own h0 h2 L2 := (Own.comm (L := slR encN 1 T_int wo (mksA g xs i) :: slR encM 7 T_avoid_mark wl ms :: ML) o2).left
   refine anext_ok (ms := ms) o2 hR (H0 hDS2 oL) hn hrt (fun m hm => ?_) (o2.vw 1 rfl) (by omega) (by omega) (by rw [hms]; exact hnd) fun h3 o3 => ?_
   ·obtain ⟨a, b⟩ := hML m hm
    refine ⟨hmlt _ (by rw [<- hms]; exact List.mem_map_of_mem hm), o2.vwm (T := T_int64) ?_, o2.vwm (T := T_int64) ?_⟩
    ·exact List.mem_cons_of_mem _ (List.mem_cons_of_mem _ (List.mem_append_left _ a))
    ·exact List.mem_cons_of_mem _ (List.mem_cons_of_mem _ (List.mem_append_left _ b))
   ·rw [hms]
    refine k2 _ h3 (nextA_spec hR hn hrt hmlt hnd (by rw [mksA_len]; omega)).1 ?_ o3
    show mksA g xs i ++ [if i = 0 then _ else _] = _
    rw [if_neg (by omega)]
  ·have hi0 : i = 0 := by omega
   subst hi0
   exact k2 _ h2 hrt rfl o2
 ·have : i = kk := by omega
  subst this
  refine hK wo h1 L' hDS ?_
  exact own_mid (A := [slR encN 1 T_int wo (mksA g xs i)]) (B := slR encM 7 T_avoid_mark wl ms :: ML) o1

theorem amarksD_ok {k : Int} {pd : Nat} {vl : Value} {N : Res} (o : Own h0 h (cellR pd [vl] T_draw_Draws :: quR encU 1 T_uint32 vl xs :: L)) (p : Nat) (hp : L[p]? = some N) (hR : g.Right) (hN : netR N r g) (hn : Sm g) (hk : k < 2 ^ 20) (hxl : xs.length < 2 ^ 62) (hr : ∀ x ∈ xs, 0 <= x /\ x <= 4294967295)
  (hK : ∀ w vl' h', Own h0 h' (slR encN 1 T_int w (mksA g xs (min k g.n).toNat) :: cellR pd [vl'] T_draw_Draws :: quR encU 1 T_uint32 vl' (xs.drop (min k g.n).toNat) :: L) -> K w h') : callS Tryz.prog F_avoid_Marks [ptr r, I k, ptr pd] h K := by
 have hmost16 := hR.most
 have hpos := hR.pos
 have hmost := hR.most
 refine amarks_ok (xs := xs) (DS := fun i L2 => ∃ vl', L2 = cellR pd [vl'] T_draw_Draws :: quR encU 1 T_uint32 vl' (xs.drop i) :: L) o hR hn (fun x hx => (hr x hx).1) hk ?_ ⟨vl, rfl⟩ ?_ fun w h' L' ⟨vl', e⟩ o' => hK w vl' h' (by subst e; exact o')
 ·rintro i h' L' ⟨vl', rfl⟩ o'
  exact hN _ (o'.get (p + 2) hp)
 ·rintro i K' h1 A L' ⟨vl', rfl⟩ o1 hk'
  have hlen : (xs.drop i).length < 2 ^ 62 := by rw [List.length_drop]; omega
  obtain ⟨e1, e2⟩ := rootA_draw (xs := xs) (i := i) (n := g.n) (by omega) fun x hx => (hr x hx).1
  refine dnext_ok o1 A.length (A.length + 1) (by rw [List.getElem?_append_right (Nat.le_refl _), Nat.sub_self]; rfl) (by rw [List.getElem?_append_right (by omega), Nat.add_sub_cancel_left]; rfl) (by omega) hpos (by omega) hlen (fun x hx => hr x (List.mem_of_mem_drop hx)) fun vl2 h2 o2 => ?_
  rw [e1]
  refine hk' h2 _ ⟨vl2, rfl⟩ ?_
  rw [e2, List.set_append_right _ _ (Nat.le_refl _), Nat.sub_self, List.set_cons_zero, List.set_append_right _ _ (by omega), Nat.add_sub_cancel_left] at o2
  exact o2

end
open Go Go.Mh

section
variable {h0 h : Heap} {L : List Res} {K : KT} {g : G} {p : Pl31} {dv : Value} {x r p3 : Nat} {N : Res}

theorem Few.mid {g : G} (H : Few g) : Mid g := { toRight := H.toRight, sm := Sm.of_n H.toRight (by have := H.few; omega), short := H.short }

def TabP (h : Heap) (g : G) (p : Pl31) (tv : Value) : Prop := (p.marks = 0 /\ tv = .pointer none) \/ (p.marks ≠ 0 /\ ∃ t, tv = ptr t /\ TableV h t g (marksOf g p))
def CelP (h : Heap) (g : G) (p : Pl31) (cv fv : Value) : Prop := (p.kind = 0 /\ cv = .pointer none /\ fv = .pointer none) \/
 (p.kind ≠ 0 /\ ∃ c b xs M, cv = ptr c /\ fv = ptr b /\ CellsOf g p xs /\ maxL xs + 1 = ((M : Nat) : Int) /\ CellV h c xs /\ BitV h b M g.arcs.length (flagsB g xs M))
theorem own_at {i : Nat} {R : Res} {A : List Res} (hi : L[i]? = some R) : (A ++ L)[A.length + i]? = some R := by
 rw [List.getElem?_append_right (by omega), show A.length + i - A.length = i by omega]; exact hi

theorem build_k1 {tv : Value} {i j k : Nat} (o : Own h0 h L) (hF : Mid g) (hN : netR N r g) (hw : p.wrong = 0) (hij : i ≠ j) (hik : i ≠ k) (hi : L[i]? = some (cellR x [ptr r, tv, .pointer none, .pointer none] T_image_Image)) (hj : L[j]? = some (cellR p3 (plC p dv) T_api_Plan)) (hk : L[k]? = some N)
  (hK : ∀ cv fv L' h', Own h0 h' (L.set i (cellR x [ptr r, tv, cv, fv] T_image_Image) ++ L') -> CelP h' g p cv fv -> K (.tuple #[ptr x, .nilIface]) h') : sh_build_Build_k1 Tryz.prog (ptr p3) (ptr r) (ptr x) K h := by
 have hR := hF.toRight
 have hmost := hR.most
 have hpos := hR.pos
 have hck := (@wrong_ck p).1.1 hw
 have hkind := of_decide_eq_true (hck 2 (by decide))
 have hcell := of_decide_eq_true (hck 3 (by decide))
 unfold sh_build_Build_k1
 simp only [pField_ptr, Nat.zero_add]
 refine o.load j hj rfl ?_
 rw [pBin_neq]
 by_cases h0' : p.kind = 0
 ·rw [show (p.kind != 0) = false by simp [h0'], ifV_false]
  unfold sh_build_Build_k2
  refine hK (.pointer none) (.pointer none) [] h ?_ (.inl ⟨h0', rfl, rfl⟩)
  rw [List.append_nil, set_same hi]; exact o
 rw [show (p.kind != 0) = true by simpa using h0', ifV_true]
 have hc := hcell.resolve_left h0'
 refine o.load j hj rfl (o.load j hj rfl (parts31_ok o fun m h1 o1 => ?_))
 have hj1 : (mapR m prF :: L)[j + 1]? = some (cellR p3 (plC p dv) T_api_Plan) := by simpa using hj
 refine ⟨o1.load (j + 1) hj1 rfl rfl, o1.load (j + 1) hj1 rfl rfl, o1.look 0 rfl ?_⟩
 simp only [Bool.false_eq_true, if_false]
 have o1 := o1.tail
 have rest : ∀ (ys : List Int) (w : Value) (h2 : Heap), CellsOf g p (norm ys) -> ys.length = g.n -> Own h0 h2 (slR encJ 1 T_int w ys :: L) ->
   callS Tryz.prog F_cell_Norm [w] h2 fun t57 h_14 => callS Tryz.prog F_cell_New [t57] h_14 fun t58 h_15 => pNil (ptr x) fun t59 => pField 2 t59 fun t60 => pStore 1 t60 t58 h_15 fun u_1 h_16 => pNil (ptr x) fun t64 => pField 2 t64 fun t65 => pLoad h_16 t65 fun t66 =>
    callS Tryz.prog F_flag_Of [ptr r, t66] h_16 fun t67 h_17 => pNil (ptr x) fun t68 => pField 3 t68 fun t69 => pStore 1 t69 t67 h_17 fun u_2 h_18 => sh_build_Build_k2 Tryz.prog K (ptr x) h_18 := by
  intro ys w h2 hC hyl o2
  obtain ⟨f1, f2, f3, f4⟩ := hC.facts hR hc.1
  refine norm_ok o2 (o2.vw 0 rfl) (by omega) fun w2 h3 o3 => ?_
  refine cnew_ok o3 0 rfl (fun e => by rw [e] at f1; simp at f1; omega) f2 (by omega) (by omega) f3 fun c v' h4 o4 => ?_
  simp only [pNil_ptr, pField_ptr, Nat.zero_add]
  have o4 : Own h0 h4 ([cellR c (cellCs v' (norm ys)) T_cell_Cells, slR encJ 1 T_int v' (norm ys), slR encJ 1 T_int w2 (norm ys), slR encJ 1 T_int w ys] ++ L) := o4
  refine o4.st1 (4 + i) (cs' := [ptr r, tv, ptr c, .pointer none]) (own_at (A := [_, _, _, _]) hi) rfl rfl rfl rfl fun h5 o5 => ?_
  rw [List.set_append_right _ _ (by simp)] at o5
  have e : 4 + i - [cellR c (cellCs v' (norm ys)) T_cell_Cells, slR encJ 1 T_int v' (norm ys), slR encJ 1 T_int w2 (norm ys), slR encJ 1 T_int w ys].length = i := by simp
  rw [e] at o5
  have hi5 : (L.set i (cellR x [ptr r, tv, ptr c, .pointer none] T_image_Image))[i]? = some (cellR x [ptr r, tv, ptr c, .pointer none] T_image_Image) := set_get hi
  have hk5 : (L.set i (cellR x [ptr r, tv, ptr c, .pointer none] T_image_Image))[k]? = some N := by rw [List.getElem?_set_ne hik]; exact hk
  refine o5.load (4 + i) (own_at (A := [_, _, _, _]) hi5) rfl ?_
  have hC5 : CellV h5 c (norm ys) := ⟨v', o5.get 0 rfl, o5.vw 1 rfl⟩
  have hN5 : NetR h5 r g := hN _ (o5.get (4 + k) (own_at (A := [_, _, _, _]) hk5))
  obtain ⟨M, hM⟩ := Int.eq_ofNat_of_zero_le (show 0 <= maxL (norm ys) + 1 by omega)
  have hsmall : M * longB g.arcs.length <= 268435456 := by
   have h1 := hF.short
   have : longB g.arcs.length <= 12 := by unfold longB; omega
   have := Nat.mul_le_mul (show M <= 256 by omega) this
   omega
  refine flagOf_ok o5 hR f1 hN5 hC5 hM (by omega) hsmall fun b s h6 o6 => ?_
  have o6 : Own h0 h6 ([cellR b (bitCs M g.arcs.length s) T_bits_Rows, slR encB8 1 T_uint8 s (flagsB g (norm ys) M), cellR c (cellCs v' (norm ys)) T_cell_Cells, slR encJ 1 T_int v' (norm ys), slR encJ 1 T_int w2 (norm ys), slR encJ 1 T_int w ys] ++ L.set i (cellR x [ptr r, tv, ptr c, .pointer none] T_image_Image)) := o6
  refine o6.st1 (6 + i) (cs' := [ptr r, tv, ptr c, ptr b]) (own_at (A := [_, _, _, _, _, _]) hi5) rfl rfl rfl rfl fun h7 o7 => ?_
  rw [List.set_append_right _ _ (by simp)] at o7
  have e : 6 + i - [cellR b (bitCs M g.arcs.length s) T_bits_Rows, slR encB8 1 T_uint8 s (flagsB g (norm ys) M), cellR c (cellCs v' (norm ys)) T_cell_Cells, slR encJ 1 T_int v' (norm ys), slR encJ 1 T_int w2 (norm ys), slR encJ 1 T_int w ys].length = i := by simp
  rw [e, List.set_set] at o7
  unfold sh_build_Build_k2
  exact hK (ptr c) (ptr b) _ h7 o7.comm (.inr ⟨h0', c, b, norm ys, M, rfl, rfl, hC, hM, ⟨v', o7.get 2 rfl, o7.vw 3 rfl⟩, ⟨s, o7.get 0 rfl, o7.vw 1 rfl⟩⟩)
 obtain ⟨cn, hcn⟩ := Int.eq_ofNat_of_zero_le (show 0 <= p.cells by omega)
 rcases @prF_some p.kind with ⟨e, h⟩ | ⟨e, h⟩ | ⟨e, h⟩ | ⟨e1, e2, e3, h⟩
 ·exact absurd e h0'
 ·rw [h, Option.getD_some, hcn]
  refine gmap_ok o1 hR (hN _ (o1.get k hk)) (by omega) (by omega) fun rows w h2 hS o2 => ?_
  have htn : p.cells.toNat = cn := by omega
  exact rest _ w h2 ⟨_, rfl, .inl ⟨e, rows, by rw [htn]; exact hS, by rw [htn]⟩⟩ gridL_len o2
 ·rw [h, Option.getD_some]
  refine smap_ok o1 hk hN hR fun w h2 o2 => ?_
  unfold mapZ at o2
  rw [if_pos hc] at o2
  exact rest _ w h2 ⟨_, rfl, .inr ⟨e, rfl⟩⟩ mapG_len o2
 ·rcases hkind with h | h | h
  ·exact absurd h e1
  ·exact absurd h e2
  ·exact absurd h e3

theorem toNI {w : Value} {ms : List Nat} (o : Own h0 h (slR encN 1 T_int w ms :: L)) : Own h0 h (slR encJ 1 T_int w (nI ms) :: L) := by
 refine o.weak (fun ⟨bl, H⟩ => ⟨bl, ?_⟩) fun b hb => hb
 rcases H with ⟨h1, h2⟩ | ⟨cap, rest, h1, h2, h3, h4⟩
 ·exact .inl ⟨h1, by rw [h2]; rfl⟩
 ·have e : Mh.row encJ (nI ms) = Mh.row encN ms := by
   simp only [Mh.row, nI, encJ, List.flatMap_map]
   rfl
  exact .inr ⟨cap, rest, by rw [nI_len]; exact h1, by rw [e]; exact h2, by rw [nI_len]; exact h3, by rw [nI_len]; exact h4⟩

theorem build_ok {raw : Value} (hF : Mid g) (HR : RawV h raw g) (hw : p.wrong = 0) (Hd : Vw encU 1 h dv p.draws) (hd1 : p.draws.length <= 2 ^ 20) (hd2 : ∀ x ∈ p.draws, 0 <= x /\ x <= 4294967295)
  (hK : ∀ x r tv cv fv h', Ext h h' -> h'[x]? = some (.cells #[ptr r, tv, cv, fv] T_image_Image (0, 0)) -> NetR h' r g -> TabP h' g p tv -> CelP h' g p cv fv -> K (.tuple #[ptr x, .nilIface]) h') : callS Tryz.prog F_build_Build [raw, planV p dv] h K := by
 have hR := hF.toRight
 have hck := (@wrong_ck p).1.1 hw
 have hmk := of_decide_eq_true (hck 0 (by decide))
 have hrl := of_decide_eq_true (hck 1 (by decide))
 refine callS_of (lk_build_Build _ _ ?_)
 unfold sh_build_Build
 have HR' := HR
 obtain ⟨vx, vy, va, rfl, HL⟩ := HR
 refine (Own.start h).box fun raw2 h1 o1 => o1.box fun p3 h2 o2 => ?_
 have o2 : Own h h2 [cellR p3 (plC p dv) T_api_Plan, cellR raw2 [I g.n, vx, vy, va] T_api_Raw] := o2
 refine o2.ldN 0 rfl rfl rfl ?_
 refine bcheck_ok (p := p) (dv := dv) (fun _ h3 x3 => ?_) fun hne => absurd hw hne
 have o3 := o2.more x3
 have eN : ∀ {K : Value -> Prop}, K (.bool false) -> pEq true .iface .nilIface .nilIface K := fun hk => hk
 refine eN ?_
 rw [ifV_false]
 refine o3.ldN 1 rfl rfl rfl ?_
 refine new_net_ok o3 hR (HR'.more o3.ext) fun r N h4 hN o4 => ?_
 simp only [pExt0, pExt1]
 refine eN ?_
 rw [ifV_false]
 refine pBuild_ones (cs' := [ptr r, .pointer none, .pointer none, .pointer none]) (by intro p hp; simp at hp; subst hp; rfl) rfl rfl ?_
 refine o4.box fun x h5 o5 => ?_
 have o5 : Own h h5 [cellR x [ptr r, .pointer none, .pointer none, .pointer none] T_image_Image, N, cellR p3 (plC p dv) T_api_Plan, cellR raw2 [I g.n, vx, vy, va] T_api_Raw] := o5
 simp only [pField_ptr, Nat.zero_add]
 refine o5.load 2 rfl rfl ?_
 rw [pBin_gtr, ifV_dec]
 refine ⟨fun hpos => ?_, fun hnp => ?_⟩
 ·obtain ⟨mk, hmk'⟩ := Int.eq_ofNat_of_zero_le hmk.1
  refine o5.load 2 rfl rfl (o5.load 2 rfl rfl (o5.load 2 rfl rfl (choices_ok o5 fun m h6 o6 => ⟨o6.load 3 rfl rfl rfl, o6.load 3 rfl rfl rfl, o6.load 3 rfl rfl rfl, ?_⟩)))
  refine o6.look 0 rfl ?_
  simp only [Bool.false_eq_true, if_false]
  refine dnew_ok o6 (Hd.more o6.ext) (by omega) fun pd w h7 o7 => ⟨o7.load 5 rfl rfl rfl, o7.load 5 rfl rfl rfl, ?_⟩
  have hlk : ∀ {K : Value -> Prop}, K ((chF p.rule).getD .nilFunc) -> pLook (.int .i64) .nilFunc false h7 (.map (some m)) (I p.rule) K := fun hk => o7.look 2 rfl (by simpa using hk)
  obtain ⟨f1, f2, f3⟩ := marksOf_facts hR hF.sm hmk.1 (fun x hx => (hd2 x hx).1) (p := p)
  have fin : ∀ (w' vl' : Value) (qs : List Int) (h8 : Heap), Own h h8 (slR encJ 1 T_int w' (nI (marksOf g p)) :: cellR pd [vl'] T_draw_Draws :: quR encU 1 T_uint32 vl' qs :: mapR m chF :: [cellR x [ptr r, .pointer none, .pointer none, .pointer none] T_image_Image, N, cellR p3 (plC p dv) T_api_Plan, cellR raw2 [I g.n, vx, vy, va] T_api_Raw]) ->
    callS Tryz.prog F_table_Of [ptr r, w'] h8 fun t42 h_9 => pNil (ptr x) fun t43 => pField 1 t43 fun t44 => pStore 1 t44 t42 h_9 fun u h_10 => sh_build_Build_k1 Tryz.prog (ptr p3) (ptr r) (ptr x) K h_10 := fun w' vl' qs h8 o8 => by
   refine tableOf_ok o8 (o8.vw 0 rfl) hR (hN _ (o8.get 5 rfl)) (by omega) f1 f2 fun t mv tv fv ps qs' h9 e1 e2 o9 => ?_
   simp only [pNil_ptr, pField_ptr, Nat.zero_add]
   refine o9.st1 8 (cs' := [ptr r, ptr t, .pointer none, .pointer none]) rfl rfl rfl rfl rfl fun h10 o10 => ?_
   refine build_k1 (i := 8) (j := 10) (k := 9) o10 hF hN hw (by decide) (by decide) rfl rfl rfl fun cv fv' L' h11 o11 hCe => ?_
   refine hK x r (ptr t) cv fv' h11 o11.ext (o11.get 8 rfl) (hN _ (o11.get 9 rfl)) (.inr ⟨by omega, t, rfl, tableR_view (L := _) o11 e1 e2⟩) hCe
  rcases @chF_some p.rule with ⟨e, hh⟩ | ⟨e, hh⟩ | ⟨e1, e2, hh⟩
  ·rw [hh, Option.getD_some] at hlk ⊢
   refine ⟨hlk (K := fun t => t = fnV F_far_Marks) rfl, ?_⟩
   rw [hmk']
   refine fmarksD_ok (k := mk) o7 2 rfl hR hN (by omega) (by omega) (by omega) hd2 fun w' vl' h8 o8 => ?_
   have em : mgo g mk 0 (List.range g.n) (cov g [(drawP p.draws g.n).1]) = marksOf g p := by
    unfold marksOf marksFar
    rw [if_pos e, show p.marks.toNat = mk by omega]
    cases p.draws <;> rfl
   rw [em] at o8
   exact fin w' vl' _ h8 o8
  ·rw [hh, Option.getD_some] at hlk ⊢
   refine ⟨hlk (K := fun t => t = fnV F_avoid_Marks) rfl, ?_⟩
   refine amarksD_ok (k := p.marks) o7 2 rfl hR hN hF.sm (by omega) (by omega) hd2 fun w' vl' h8 o8 => ?_
   have em : mksA g p.draws (min p.marks g.n).toNat = marksOf g p := by
    unfold marksOf
    rw [if_neg (by omega)]
   rw [em] at o8
   exact fin w' vl' _ h8 (toNI o8)
  ·exact absurd hrl fun h => h.elim e1 e2
 ·refine build_k1 (i := 0) (j := 2) (k := 1) o5 hF hN hw (by decide) (by decide) rfl rfl rfl fun cv fv L' h6 o6 hCe => ?_
  exact hK x r (.pointer none) cv fv h6 o6.ext (o6.get 0 rfl) (hN _ (o6.get 1 rfl)) (.inl ⟨by omega, rfl⟩) hCe

end
open Go Go.Mh

section
variable {h0 h : Heap} {L : List Res} {K : KT} {g : G} {v : Value}

theorem rints_ok {α : Type} {enc : α -> List Value} {e : α -> Int} {xs : List α} {va vb : Value} (he : ∀ a, enc a = [I (e a)]) (Ha : Vw enc 1 h va xs) (Hb : Vw enc 1 h vb xs) (hl : xs.length < 2 ^ 40) (hK : K (.bool true) h) : callS Tryz.prog F_milestoneref07_Ints [va, vb] h K := by
 refine callS_of (lk_milestoneref07_Ints _ _ ?_)
 unfold sh_milestoneref07_Ints
 refine Ha.len (Hb.len ?_)
 rw [pBin_neq, bne_self_eq_false, ifV_false]
 refine LoopH_count xs.length (fun i x h' => x.1 = I i /\ h' = h) ⟨rfl, rfl⟩ ?_
 rintro i ⟨x, ⟨⟩⟩ h' Z hi ⟨hx, rfl⟩ hZ
 dsimp only at hx hZ ⊢
 subst hx
 unfold sh_milestoneref07_Ints_L1
 refine Ha.len ?_
 simp only [pBin_lss, ifV_dec]
 refine ⟨fun hlt => ?_, fun hge => hK⟩
 have hlt : i < xs.length := by omega
 refine Ha.at1 (e := fun a => I (e a)) he hlt (Hb.at1 (e := fun a => I (e a)) he hlt ?_)
 rw [pBin_neq, bne_self_eq_false, ifV_false, pBin_add, wI i (by omega)]
 exact hZ (I (i + 1 : Nat), ()) _ hlt ⟨rfl, rfl⟩

end
open Go Go.Mh

def g4 : G := ⟨4, [0, 1, 8, 9], [0, 0, 0, 0], [⟨0, 1, 1⟩, ⟨1, 0, 1⟩, ⟨1, 2, 1⟩, ⟨2, 1, 1⟩, ⟨2, 3, 1⟩, ⟨3, 2, 1⟩]⟩
theorem g4_few : Few g4 := { toRight := ⟨by decide, by decide, rfl, rfl, by decide, by decide, by decide, by decide⟩, few := by decide, short := by decide }
def p4 : Pl31 := ⟨2, 0, [0], 1, 2⟩
def p0 : Pl31 := ⟨0, 0, [], 0, 0⟩
theorem p4_marks : marksOf g4 p4 = [3, 0] := by decide +kernel
theorem p4_cells {xs : List Int} (H : CellsOf g4 p4 xs) : xs = [0, 0, 1, 1] := by
 obtain ⟨ys, rfl, ⟨_, rows, hS, rfl⟩ | ⟨e, _⟩⟩ := H
 ·have := hS.two
  subst this
  decide +kernel
 ·cases e

section
variable {h0 h : Heap} {L : List Res} {K : KT}

theorem four_ok (hK : ∀ v h', Ext h h' -> RawV h' v g4 -> K v h') : callS Tryz.prog F_milestonelaw31_four [] h K := by
 refine callS_of (lk_milestonelaw31_four ?_)
 unfold sh_milestonelaw31_four
 refine (Own.start h).box fun t0 h1 o1 => ?_
 refine o1.build (enc := encJ) (n := 1) g4.X rfl (sizesOk_of rfl) rfl fun vx h2 o2 => ?_
 refine o2.make (enc := encJ) (n := 1) (a := 0) (m := 4) rfl (by decide) (by decide) fun vy h3 o3 => ?_
 have hx := o3.vw 1 rfl
 have hy := o3.vw 0 rfl
 refine pBuild_ones (cs' := [I 4, vx, vy, sl0]) ?_ rfl rfl ?_
 ·intro p hp
  simp at hp
  rcases hp with rfl | rfl | rfl
  ·rfl
  ·exact hx.one
  ·exact hy.one
 refine o3.box fun g1 h4 o4 => ?_
 refine o4.st (l := [I 4, vx, vy, sl0]) (cs' := [I 4, vx, vy, sl0]) 0 rfl rfl rfl rfl rfl ?_ fun h5 o5 => ?_
 ·intro u hu
  simp at hu
  rcases hu with rfl | rfl | rfl | rfl
  ·rfl
  ·exact hx.plain
  ·exact hy.plain
  ·rfl
 have o6 : Own h h5 [slR encA 3 T_api_Arc sl0 (g4.arcs.take (2 * 0)), cellR g1 [I 4, vx, vy, sl0] T_api_Raw, xR vy g4.Y, xR vx g4.X, cellR t0 [I 0, sl0, sl0, sl0] T_api_Raw] := Own.nilS (enc := encA) (n := 3) (T := T_api_Arc) o5
 refine LoopH_count 3 (fun i x h' => x.1 = I i /\ ∃ va, Own h h' [slR encA 3 T_api_Arc va (g4.arcs.take (2 * i)), cellR g1 [I 4, vx, vy, va] T_api_Raw, xR vy g4.Y, xR vx g4.X, cellR t0 [I 0, sl0, sl0, sl0] T_api_Raw]) ⟨rfl, sl0, o6⟩ ?_
 clear o1 o2 o3 o4 o5 o6 hx hy
 rintro i ⟨x, ⟨⟩⟩ h' Z hi ⟨hx, va, o⟩ hZ
 dsimp only at hx hZ ⊢
 subst hx
 unfold sh_milestonelaw31_four_L1
 rw [pBin_lss, ifV_dec]
 refine ⟨fun hlt => ?_, fun hge => ?_⟩
 ·have hlt : i < 3 := by omega
  simp only [pField_ptr, Nat.zero_add]
  refine o.load 1 rfl rfl ?_
  rw [pBin_add, wI i (by omega)]
  refine pBuild_ones (cs' := encA ⟨i, i + 1, 1⟩) (by intro p hp; simp at hp; rcases hp with rfl | rfl | rfl <;> rfl) rfl rfl ?_
  rw [pBin_add, wI i (by omega)]
  refine pBuild_ones (cs' := encA ⟨i + 1, i, 1⟩) (by intro p hp; simp at hp; rcases hp with rfl | rfl | rfl <;> rfl) rfl rfl ?_
  refine o.build (enc := encA) (n := 3) [⟨i, i + 1, 1⟩, ⟨i + 1, i, 1⟩] rfl (sizesOk_of rfl) rfl fun w h2 o2 => ?_
  have h6 : g4.arcs.length = 6 := rfl
  have hb : ((g4.arcs.take (2 * i)).length + [(⟨i, i + 1, 1⟩ : A), ⟨i + 1, i, 1⟩].length) * 24 <= 2 ^ 47 := by
   rw [List.length_take, h6, List.length_cons, List.length_cons, List.length_nil]
   omega
  refine o2.app (ys := [⟨i, i + 1, 1⟩, ⟨i + 1, i, 1⟩]) 1 rfl encA_len encA_plain rfl (o2.vw 0 rfl) (by decide) hb fun va' h3 o3 => ?_
  have hv := o3.vw 1 rfl
  refine o3.st1 2 (cs' := [I 4, vx, vy, va']) rfl rfl rfl hv.one hv.plain fun h4 o4 => ?_
  rw [pBin_add, wI i (by omega)]
  refine hZ (I (i + 1 : Nat), ()) h4 hlt ⟨rfl, va', ?_⟩
  have e : g4.arcs.take (2 * (i + 1)) = g4.arcs.take (2 * i) ++ [⟨i, i + 1, 1⟩, ⟨i + 1, i, 1⟩] := by
   have : i = 0 \/ i = 1 \/ i = 2 := by omega
   rcases this with rfl | rfl | rfl <;> rfl
  rw [e]
  exact o4.sel [1, 2, 3, 4, 5] (by decide)
 ·have : i = 3 := by omega
  subst this
  have hx := o.vw 3 rfl
  have hy := o.vw 2 rfl
  have ha := o.vw 0 rfl
  refine o.ldN 1 rfl rfl rfl ?_
  refine o.st (l := [I 4, vx, vy, va]) (cs' := [I 4, vx, vy, va]) 4 rfl rfl rfl rfl rfl ?_ fun h2 o2 => o2.ldN 4 rfl rfl rfl ?_
  ·intro u hu
   simp at hu
   rcases hu with rfl | rfl | rfl | rfl
   ·rfl
   ·exact hx.plain
   ·exact hy.plain
   ·exact ha.plain
  ·exact hK _ h2 o2.ext ⟨vx, vy, va, rfl, o2.vw 3 rfl, o2.vw 2 rfl, o2.vw 0 rfl⟩

theorem works31_ok (hg : Glob h) (hK : ∀ h', Ext h h' -> K (.bool true) h') : callS Tryz.prog F_milestonelaw31_works [] h K := by
 refine callS_of (lk_milestonelaw31_works ?_)
 unfold sh_milestonelaw31_works
 refine four_ok fun v h1 x1 HV => ?_
 refine (Own.start h1).build (enc := encU) (n := 1) [0] rfl (sizesOk_of rfl) rfl fun dv h2 o2 => ?_
 have hd := o2.vw 0 rfl
 have x2 := ((Own.start h).more x1).ext2 o2.ext
 refine pBuild_ones (cs' := plC p4 dv) ?_ rfl rfl ?_
 ·intro p hp
  simp at hp
  rcases hp with rfl | rfl | rfl | rfl
  ·rfl
  ·exact hd.one
  ·rfl
  ·rfl
 refine build_ok (p := p4) (dv := dv) g4_few.mid (HV.more o2.ext) (by decide) hd (by decide) (by decide) fun x r tv cv fv h3 x3 hx hN hT hC => ?_
 have y3 := ((Own.start h).more x2).ext2 x3
 simp only [pExt0, pExt1]
 refine four_ok fun v2 h4 x4 HV2 => ?_
 have y4 := ((Own.start h).more y3).ext2 x4
 refine pBuild_ones (cs' := plC p0 sl0) (by intro p hp; cases hp) rfl rfl ?_
 refine build_ok (p := p0) (dv := sl0) g4_few.mid HV2 (by decide) Vw.nil (by decide) (by decide) fun x' r' tv' cv' fv' h5 x5 hx' hN' hT' hC' => ?_
 have y5 := ((Own.start h).more y4).ext2 x5
 have z5 := ((Own.start h3).more x4).ext2 x5
 simp only [pExt0, pExt1]
 have eN : ∀ {K : Value -> Prop}, K (.bool false) -> pEq true .iface .nilIface .nilIface K := fun hk => hk
 refine eN ?_
 rw [ifV_false]
 refine eN ?_
 rw [ifV_false]
 simp only [pEq_ptr_nil, Option.isNone_some, ifV_false]
 rcases hT with ⟨e, _⟩ | ⟨_, t, rfl, HT⟩
 ·exact absurd e (by decide)
 rcases hC with ⟨e, _⟩ | ⟨_, c, b, xs, M, rfl, rfl, hxs, hM, HC, HB⟩
 ·exact absurd e (by decide)
 obtain rfl := p4_cells hxs
 rcases hT' with ⟨_, rfl⟩ | ⟨e, _⟩
 rotate_left
 ·exact absurd (show p0.marks = 0 from rfl) e
 rcases hC' with ⟨_, rfl, rfl⟩ | ⟨e, _⟩
 rotate_left
 ·exact absurd (show p0.kind = 0 from rfl) e
 have hx5 := z5.get hx
 have c1 : hcell h5 ⟨x, 1, none⟩ = some (ptr t) := hcell_of hx5 rfl
 have c2 : hcell h5 ⟨x, 2, none⟩ = some (ptr c) := hcell_of hx5 rfl
 simp only [pNil_ptr, pField_ptr, Nat.zero_add]
 refine pLoad_of rfl c1 ?_
 simp only [pEq_ptr_nil, Option.isNone_some, ifV_false]
 refine pLoad_of rfl c2 ?_
 simp only [pEq_ptr_nil, Option.isNone_some, ifV_false]
 refine pLoad_of rfl c1 ?_
 refine tmarks_ok (Own.start h5) (HT.more z5) (by rw [p4_marks]; decide) fun w h6 o6 => ?_
 rw [p4_marks] at o6
 refine o6.build (enc := encJ) (n := 1) [3, 0] rfl (sizesOk_of rfl) rfl fun w2 h7 o7 => ?_
 refine rints_ok (enc := encJ) (e := fun x => x) (xs := [3, 0]) (fun _ => rfl) (o7.vw 1 rfl) (o7.vw 0 rfl) (by decide) ?_
 rw [ifV_true]
 refine pLoad_of rfl (hcell_more o7.ext c2) ?_
 refine cmap_ok o7 (HC.more (((Own.start h3).more z5).ext2 o7.ext)) (by decide) fun w3 h8 o8 => ?_
 refine o8.build (enc := encJ) (n := 1) [0, 0, 1, 1] rfl (sizesOk_of rfl) rfl fun w4 h9 o9 => ?_
 refine rints_ok (enc := encJ) (e := fun x => x) (xs := [0, 0, 1, 1]) (fun _ => rfl) (o9.vw 1 rfl) (o9.vw 0 rfl) (by decide) ?_
 rw [ifV_true]
 have d1 : hcell h9 ⟨x', 1, none⟩ = some (.pointer none) := hcell_more o9.ext (hcell_of hx' rfl)
 have d2 : hcell h9 ⟨x', 2, none⟩ = some (.pointer none) := hcell_more o9.ext (hcell_of hx' rfl)
 have d3 : hcell h9 ⟨x', 3, none⟩ = some (.pointer none) := hcell_more o9.ext (hcell_of hx' rfl)
 refine pLoad_of rfl d1 ?_
 simp only [pEq_ptr_nil, Option.isNone_none, ifV_true]
 refine pLoad_of rfl d2 ?_
 simp only [pEq_ptr_nil, Option.isNone_none, ifV_true]
 refine pLoad_of rfl d3 ?_
 simp only [pEq_ptr_nil, Option.isNone_none]
 unfold sh_milestonelaw31_works_k2
 rw [ifV_true]
 have y9 := ((Own.start h).more y5).ext2 o9.ext
 refine pBuild_ones (cs' := plC ⟨17, 9, [], 0, 0⟩ sl0) (by intro p hp; simp at hp; rcases hp with rfl | rfl <;> rfl) rfl rfl ?_
 refine fails_ok (p := ⟨17, 9, [], 0, 0⟩) (dv := sl0) (by decide) (by decide) (hg.more y9) fun h10 x10 => ?_
 rw [ifV_true]
 have y10 := ((Own.start h).more y9).ext2 x10
 refine pBuild_ones (cs' := plC ⟨0, 2, [], 9, 0⟩ sl0) (by intro p hp; simp at hp; rcases hp with rfl | rfl <;> rfl) rfl rfl ?_
 refine fails_ok (p := ⟨0, 2, [], 9, 0⟩) (dv := sl0) (by decide) (by decide) (hg.more y10) fun h11 x11 => ?_
 rw [ifV_true]
 have y11 := ((Own.start h).more y10).ext2 x11
 refine pBuild_ones (cs' := plC ⟨0, 0, [], 3, 0⟩ sl0) (by intro p hp; simp at hp; subst hp; rfl) rfl rfl ?_
 refine fails_ok (p := ⟨0, 0, [], 3, 0⟩) (dv := sl0) (by decide) (by decide) (hg.more y11) fun h12 x12 => ?_
 rw [ifV_true]
 have y12 := ((Own.start h).more y11).ext2 x12
 refine pBuild_ones (cs' := plC ⟨0, 0, [], 1, 257⟩ sl0) (by intro p hp; simp at hp; rcases hp with rfl | rfl <;> rfl) rfl rfl ?_
 refine fails_ok (p := ⟨0, 0, [], 1, 257⟩) (dv := sl0) (by decide) (by decide) (hg.more y12) fun h13 x13 => ?_
 exact hK h13 (((Own.start h).more y12).ext2 x13)

end
open Go Go.Mh

section
variable {h0 h : Heap} {L : List Res} {K : KT} {g : G} {r : Nat} {av pv : Value} {al : List Bool}

def rawR (vx vy va : Value) (g : G) : Res := sepR [xR vx g.X, xR vy g.Y, aR va g.arcs]
theorem rawR_view {vx vy va : Value} {i : Nat} (o : Own h0 h L) (hi : L[i]? = some (rawR vx vy va g)) : RawL h vx vy va g := by
 have o1 := o.out i hi
 exact ⟨o1.vw 0 rfl, o1.vw 1 rfl, o1.vw 2 rfl⟩

def draftV (vb vd : Value) (mk kd cl : Int) (rl : Bool) : Value := .agg #[vb, .int .u8 mk, .bool rl, vd, .int .u8 kd, .int .u8 cl]
abbrev draftC (vb vd : Value) (mk kd cl : Int) (rl : Bool) : List Value := [vb, .int .u8 mk, .bool rl, vd, .int .u8 kd, .int .u8 cl]

theorem raw31_ok {vb vd : Value} {bs : List Int} {mk kd cl : Int} {rl : Bool} (o : Own h0 h L) (H : Vw encU8 1 h vb bs)
  (hK : ∀ (g : G) vx vy va h', Few g -> (∀ u ∈ [I g.n, vx, vy, va], Mh.plainCell u = true) -> Own h0 h' (rawR vx vy va g :: L) -> K (.agg #[I g.n, vx, vy, va]) h') : callS Tryz.prog F_milestoneref31_Draft_Raw [draftV vb vd mk kd cl rl] h K := by
 refine callS_of (lk_milestoneref31_Draft_Raw _ ?_)
 unfold sh_milestoneref31_Draft_Raw
 refine (Own.start h).box fun d1 h1 o1 => ?_
 have o1 : Own h h1 [cellR d1 (draftC vb vd mk kd cl rl) T_milestoneref31_Draft] := o1
 refine o1.box fun t2 h2 o2 => ?_
 simp only [pField_ptr, Nat.zero_add]
 refine o2.load 1 rfl rfl (o2.load 1 rfl rfl ((H.more o2.ext).len ?_))
 have e : (if (60 : Int) < bs.length then 60 else (bs.length : Int)) = ((min bs.length 60 : Nat) : Int) := by split <;> omega
 rw [pMin_int, e]
 refine H.sub (a := 0) (j := min bs.length 60) encU8_len rfl rfl (by omega) (by omega) fun vb' hb => ⟨sizesOk_of (by obtain ⟨b, c, e⟩ := hb.isSl; subst e; rfl), ?_⟩
 refine o2.box fun d h3 o3 => ?_
 have o4 : Own h h3 (dR d vb' 0 :: [cellR t2 [I 0, sl0, sl0, sl0] T_api_Raw, cellR d1 (draftC vb vd mk kd cl rl) T_milestoneref31_Draft]) := by obtain ⟨b, c, e⟩ := hb.isSl; subst e; exact o3
 refine raw_ok o4 hb fun g vx vy va a' h4 hg o5 => ?_
 have hp : ∀ u ∈ [I g.n, vx, vy, va], Mh.plainCell u = true := by
  intro u hu
  simp at hu
  rcases hu with rfl | rfl | rfl | rfl
  ·rfl
  ·exact (o5.vw 0 rfl).plain
  ·exact (o5.vw 1 rfl).plain
  ·exact (o5.vw 2 rfl).plain
 refine o5.st (l := [I g.n, vx, vy, va]) (cs' := [I g.n, vx, vy, va]) 4 rfl rfl rfl rfl rfl hp fun h5 o6 => o6.ldN 4 rfl rfl rfl ?_
 have o7 := o6.front 6 [0, 1, 2] (by decide) (by decide)
 exact hK g vx vy va h5 hg hp (o.frame (Own.sep (l := [_, _, _]) (L := []) o7))

structure PlanOk (p : Pl31) : Prop where
 w : p.wrong = 0
 d1 : p.draws.length <= 12
 d2 : ∀ x ∈ p.draws, 0 <= x /\ x <= 4294967295

theorem plan31_ok {vb vd : Value} {ds : List Int} {mk kd cl : Int} {rl : Bool} (o : Own h0 h L) (H : Vw encU 1 h vd ds) (hr : ∀ x ∈ ds, 0 <= x /\ x <= 4294967295) (r1 : 0 <= mk /\ mk <= 255) (r2 : 0 <= kd /\ kd <= 255) (r3 : 0 <= cl /\ cl <= 255)
  (hK : ∀ p dv h', PlanOk p -> (∀ u ∈ plC p dv, Mh.plainCell u = true) -> Own h0 h' (slR encU 1 T_uint32 dv p.draws :: L) -> K (planV p dv) h') : callS Tryz.prog F_milestoneref31_Draft_Plan [draftV vb vd mk kd cl rl] h K := by
 refine callS_of (lk_milestoneref31_Draft_Plan _ ?_)
 unfold sh_milestoneref31_Draft_Plan
 refine (Own.start h).box fun d1 h1 o1 => ?_
 have o1 : Own h h1 [cellR d1 (draftC vb vd mk kd cl rl) T_milestoneref31_Draft] := o1
 refine o1.box fun t2 h2 o2 => ?_
 have o2 : Own h h2 [cellR t2 [I 0, I 0, sl0, I 0, I 0] T_api_Plan, cellR d1 (draftC vb vd mk kd cl rl) T_milestoneref31_Draft] := o2
 have e1 : mk.tmod 6 = mk % 6 := Int.tmod_eq_emod_of_nonneg r1.1
 have e2 : kd.tmod 3 = kd % 3 := Int.tmod_eq_emod_of_nonneg r2.1
 have e3 : cl.tmod 8 = cl % 8 := Int.tmod_eq_emod_of_nonneg r3.1
 have b1 : 0 <= mk.tmod 6 /\ mk.tmod 6 <= 5 := by omega
 have b2 : 0 <= kd.tmod 3 /\ kd.tmod 3 <= 2 := by omega
 have b3 : 0 <= cl.tmod 8 /\ cl.tmod 8 <= 7 := by omega
 clear e1 e2 e3
 have hds : ∀ x ∈ ds.take (min ds.length 12), 0 <= x /\ x <= 4294967295 := fun x hx => hr x (List.mem_of_mem_take hx)
 have hdl : (ds.take (min ds.length 12)).length <= 12 := by rw [List.length_take]; omega
 have H2 := H.more o2.ext
 refine cutP_of (fun y h' => ∃ p3 dv, y = (ptr p3, ()) /\ Own h h' [cellR p3 [I (mk.tmod 6), I 0, dv, I (kd.tmod 3), I (1 + cl.tmod 8)] T_api_Plan, slR encU 1 T_uint32 dv (ds.take (min ds.length 12)), cellR t2 [I 0, I 0, sl0, I 0, I 0] T_api_Plan, cellR d1 (draftC vb vd mk kd cl rl) T_milestoneref31_Draft]) (fun J hJ => ?_) ?_
 ·simp only [pField_ptr, Nat.zero_add]
  refine o2.load 1 rfl rfl ?_
  rw [pBin_rem]
  refine ⟨by decide, ?_⟩
  rw [pConv_int, w64 (by omega) (by omega)]
  refine o2.load 1 rfl rfl (o2.load 1 rfl rfl (H2.len ?_))
  have e : (if (12 : Int) < ds.length then 12 else (ds.length : Int)) = ((min ds.length 12 : Nat) : Int) := by split <;> omega
  rw [pMin_int, e]
  refine H2.sub (a := 0) (j := min ds.length 12) (fun _ => rfl) rfl rfl (by omega) (by omega) fun vd' hd => ?_
  rw [List.drop_zero, Nat.sub_zero] at hd
  refine o2.load 1 rfl rfl ?_
  rw [pBin_rem]
  refine ⟨by decide, ?_⟩
  rw [pConv_int, w64 (by omega) (by omega)]
  refine o2.load 1 rfl rfl ?_
  rw [pBin_rem]
  refine ⟨by decide, ?_⟩
  rw [pConv_int, w64 (by omega) (by omega), pBin_add, w64 (by omega) (by omega)]
  generalize ds.take (min ds.length 12) = es at hd hds hdl hJ
  have bld : ∀ {dv : Value} {K' : Value -> Prop}, dv.cells = #[dv] -> K' (.agg #[I (mk.tmod 6), I 0, dv, I (kd.tmod 3), I (1 + cl.tmod 8)]) -> pBuild [(.int .i64 0), (.int .i64 0), (.slice none 0 0), (.int .i64 0), (.int .i64 0)] [(0, 1, I (mk.tmod 6)), (2, 1, dv), (3, 1, I (kd.tmod 3)), (4, 1, I (1 + cl.tmod 8))] K' := fun {dv K'} h1 hk => by
   refine pBuild_ones (cs' := [I (mk.tmod 6), I 0, dv, I (kd.tmod 3), I (1 + cl.tmod 8)]) ?_ rfl rfl hk
   intro p hp
   simp at hp
   rcases hp with rfl | rfl | rfl | rfl
   ·rfl
   ·exact h1
   ·rfl
   ·rfl
  have pl : ∀ {dv : Value}, Mh.plainCell dv = true -> ∀ u ∈ [I (mk.tmod 6), I 0, dv, I (kd.tmod 3), I (1 + cl.tmod 8)], Mh.plainCell u = true := fun {dv} h1 u hu => by
   simp at hu
   rcases hu with rfl | rfl | rfl | rfl | rfl
   ·rfl
   ·rfl
   ·exact h1
   ·rfl
   ·rfl
  have ld : ∀ {h' : Heap} {k : Nat} {v : Value} {K' : Value -> Prop}, Ext h2 h' -> (draftC vb vd mk kd cl rl)[k]? = some v -> K' v -> pLoad h' (.pointer (some ⟨d1, k, none⟩)) K' := fun x hk hK' => (o2.more x).load 1 rfl hk hK'
  refine ⟨?_, ?_⟩
  ·refine (Own.start h2).build (enc := encU) (n := 1) (T := T_uint32) [] rfl (sizesOk_of rfl) rfl fun w h3 o3 => ⟨?_, ?_⟩
   ·refine o3.app (ys := es) 0 rfl (fun _ => rfl) encU_plain rfl (hd.more o3.ext) (by decide) (by simp; omega) fun dv h4 o4 => ⟨ld o4.ext rfl rfl, ld o4.ext rfl rfl, ld o4.ext rfl rfl, ?_⟩
    have hv := o4.vw 0 rfl
    refine bld hv.one (o4.box fun p3 h5 o5 => o5.st (l := [I (mk.tmod 6), I 0, dv, I (kd.tmod 3), I (1 + cl.tmod 8)]) (cs' := [I (mk.tmod 6), I 0, dv, I (kd.tmod 3), I (1 + cl.tmod 8)]) 0 rfl rfl rfl rfl rfl (pl hv.plain) fun h6 o6 => hJ _ _ ⟨p3, dv, rfl, o2.frame o6⟩)
   ·refine o3.box fun p3 h4 o4 => ?_
    refine o4.app (ys := es) 1 rfl (fun _ => rfl) encU_plain rfl (hd.more o4.ext) (by decide) (by simp; omega) fun dv h5 o5 => ⟨ld o5.ext rfl rfl, ld o5.ext rfl rfl, ld o5.ext rfl rfl, ?_⟩
    have hv := o5.vw 1 rfl
    refine bld hv.one (o5.st (l := [I (mk.tmod 6), I 0, dv, I (kd.tmod 3), I (1 + cl.tmod 8)]) (cs' := [I (mk.tmod 6), I 0, dv, I (kd.tmod 3), I (1 + cl.tmod 8)]) 0 rfl rfl rfl rfl rfl (pl hv.plain) fun h6 o6 => hJ _ _ ⟨p3, dv, rfl, o2.frame o6⟩)
  ·refine (Own.start h2).box fun p3 h3 o3 => ?_
   refine o3.build (enc := encU) (n := 1) (T := T_uint32) [] rfl (sizesOk_of rfl) rfl fun w h4 o4 => ?_
   refine o4.app (ys := es) 0 rfl (fun _ => rfl) encU_plain rfl (hd.more o4.ext) (by decide) (by simp; omega) fun dv h5 o5 => ⟨ld o5.ext rfl rfl, ld o5.ext rfl rfl, ld o5.ext rfl rfl, ?_⟩
   have hv := o5.vw 0 rfl
   refine bld hv.one (o5.st (l := [I (mk.tmod 6), I 0, dv, I (kd.tmod 3), I (1 + cl.tmod 8)]) (cs' := [I (mk.tmod 6), I 0, dv, I (kd.tmod 3), I (1 + cl.tmod 8)]) 1 rfl rfl rfl rfl rfl (pl hv.plain) fun h6 o6 => hJ _ _ ⟨p3, dv, rfl, o2.frame (o6.sel [1, 0] (by decide))⟩)
 ·rintro ⟨y, ⟨⟩⟩ h' ⟨p3, dv, e, o3⟩
  injection e with e _
  dsimp only
  subst e
  unfold sh_milestoneref31_Draft_Plan_C1 sh_milestoneref31_Draft_Plan_k2
  simp only [pField_ptr, Nat.zero_add]
  have hv := o3.vw 1 rfl
  have fin : ∀ (p : Pl31) (h2 : Heap), p.marks = mk.tmod 6 -> (p.rule = 0 \/ p.rule = 1) -> p.draws = ds.take (min ds.length 12) -> p.kind = kd.tmod 3 -> p.cells = 1 + cl.tmod 8 ->
    Own h h2 [cellR p3 (plC p dv) T_api_Plan, slR encU 1 T_uint32 dv (ds.take (min ds.length 12)), cellR t2 [I 0, I 0, sl0, I 0, I 0] T_api_Plan, cellR d1 (draftC vb vd mk kd cl rl) T_milestoneref31_Draft] ->
    pLoadN 5 h2 (ptr p3) fun t30 => pStore 5 (ptr t2) t30 h2 fun u_4 h_17 => pLoadN 5 h_17 (ptr t2) fun res => K res h_17 := by
   intro p h2 e1 e2 e3 e4 e5 o4
   have hpl : ∀ u ∈ plC p dv, Mh.plainCell u = true := fun u hu => by
    simp at hu
    rcases hu with rfl | rfl | rfl | rfl | rfl
    ·rfl
    ·rfl
    ·exact hv.plain
    ·rfl
    ·rfl
   refine o4.ldN 0 rfl rfl rfl (o4.st (l := plC p dv) (cs' := plC p dv) 2 rfl rfl rfl rfl rfl hpl fun h5 o5 => o5.ldN 2 rfl rfl rfl ?_)
   have o6 : Own h h5 [slR encU 1 T_uint32 dv p.draws] := by rw [e3]; exact o5.sel [1] (by decide)
   refine hK p dv h5 ⟨?_, by rw [e3]; exact hdl, by rw [e3]; exact hds⟩ hpl (o.frame o6)
   unfold Pl31.wrong
   rw [if_neg (by omega), if_neg (by omega), if_neg (by omega), if_neg (by omega)]
  refine o3.load 3 rfl rfl ?_
  cases rl with
  | true =>
   rw [ifV_true]
   refine o3.st1 0 (cs' := plC ⟨mk.tmod 6, 1, ds.take (min ds.length 12), kd.tmod 3, 1 + cl.tmod 8⟩ dv) rfl rfl rfl rfl rfl fun h4 o4 => ?_
   exact fin ⟨mk.tmod 6, 1, ds.take (min ds.length 12), kd.tmod 3, 1 + cl.tmod 8⟩ h4 rfl (.inr rfl) rfl rfl rfl o4
  | false =>
   rw [ifV_false]
   exact fin ⟨mk.tmod 6, 0, ds.take (min ds.length 12), kd.tmod 3, 1 + cl.tmod 8⟩ h' rfl (.inl rfl) rfl rfl rfl o3

end
open Go Go.RowKit Go.Extern.Stop Go.Stop Go.Extern

theorem missing_one {want : Array (String × TypeId)} {got : Array Method} {x : String × TypeId} (h : (want.toList.filter fun (name, sig) => !got.any fun m => m.name == name && m.sig == sig) = [x]) : ∃ y, Instr.missingMethod want got = some y := by
 unfold Instr.missingMethod
 simp only [h, List.map_cons, List.map_nil]
 cases hb : x.1.contains (Char.ofNat 46) with
 | true =>
  have : List.partition (fun x : String => x.contains (Char.ofNat 46)) [x.1] = ([x.1], []) := by simp [List.partition, List.partition.loop, hb]
  rw [this]
  exact ⟨_, rfl⟩
 | false =>
  have : List.partition (fun x : String => x.contains (Char.ofNat 46)) [x.1] = ([], [x.1]) := by simp [List.partition, List.partition.loop, hb]
  rw [this]
  exact ⟨_, rfl⟩
theorem as_noAs (t : TypeId) (v : Value) (w : World)
  (h : (match Tryz.prog.underlying 215, Tryz.prog.info? t with
   | some (.interface want), some i => (match want.toList.filter fun (name, sig) => !i.methods.any fun m => m.name == name && m.sig == sig with
    | [_] => true
    | _ => false)
   | _, _ => false) = true) : (Instr.typeAssert (.iface t v) 42 215 true).run Tryz.prog w = .ok (.tuple #[.nilIface, .bool false]) w := by
 split at h
 ·rename_i want i hu hi
  split at h
  ·rename_i x hf
   obtain ⟨y, hy⟩ := missing_one hf
   have hz : (zeroValue 215).run Tryz.prog w = .ok .nilIface w := by kernel_rfl
   have hti : (typeInfo t).run Tryz.prog w = .ok i w := by
    simp [typeInfo, program, bind, Sem.bind, Sem.run, hi, pure]
   have hun : (underlying 215).run Tryz.prog w = .ok (.interface want) w := by
    simp [underlying, program, bind, Sem.bind, Sem.run, hu, pure]
   unfold Instr.typeAssert
   simp only [Sem.run_bind, hun, Result.andThen, hti, hy, hz]
   simp [hz, Sem.run_bind, Result.andThen, pure, Sem.run]
  ·cases h
 ·cases h

theorem as_typeOf95 (v : Value) (w : World) : (ReflectliteType.typeOf #[.iface 95 v]).run Tryz.prog w = .ok (.iface 210 (.agg #[.pointer (some ⟨1, 95, none⟩)])) w := by kernel_rfl
theorem as_assignable95 (w : World) : (ReflectliteType.relation "AssignableTo" ReflectliteType.assignableTo #[.agg #[.pointer (some ⟨1, 95, none⟩)], .iface 210 (.agg #[.pointer (some ⟨1, 90, none⟩)])]).run Tryz.prog w = .ok (.bool false) w := by kernel_rfl
theorem as_noAs95 (v : Value) (w : World) : (Instr.typeAssert (.iface 95 v) 42 215 true).run Tryz.prog w = .ok (.tuple #[.nilIface, .bool false]) w := as_noAs 95 v w (by kernel_rfl)
theorem as_isUnwrap95 (v : Value) (w : World) : (Instr.typeAssert (.iface 95 v) 42 218 true).run Tryz.prog w = .ok (.tuple #[.iface 95 v, .bool true]) w := by kernel_rfl
theorem as_unwrap95 (v : Value) (w : World) : (Go.method 468 95 v "Unwrap").run Tryz.prog w = .ok (275, v) w := by kernel_rfl

set_option maxHeartbeats 8000000 in
theorem as_hit95 (e t : Addr) (old : Value) (w : World) (hg : w.cell? ⟨0, 0, none⟩ = some (.iface 210 (.agg #[.pointer (some ⟨1, 42, none⟩)]))) (ht0 : w.cell? t = some old) (hf0 : w.frozen? t = false) :
  Calls Tryz.prog 35 #[.iface 95 (.agg #[.pointer (some e)]), .iface 92 (.pointer (some t))] w fun ev w' => ev = .returned (.bool true) /\ w' = (((((w.alloc (.cells #[.pointer (some t)] 92)).alloc (.cells #[.pointer (some ⟨1, 92, none⟩), .pointer (some ⟨w.heap.size, 0, none⟩), .int .u64 150] 136)).alloc (.cells #[.pointer (some ⟨1, 92, none⟩), .pointer (some ⟨w.heap.size, 0, none⟩), .int .u64 150] 136)).alloc (.cells #[.pointer (some e)] 95)).alloc (.cells #[.pointer (some e)] 90)).setCell t (.pointer (some e)) := by
 have h6 := @run_callFunc_extern Tryz.prog 69 _ (fun args => ReflectliteValue.unpack (args.getD 0 (.tuple #[]))) Tryz.func69 (by kernel_rfl) (by kernel_rfl) (by kernel_rfl) (by kernel_rfl)
 have h7 := @run_callFunc_extern Tryz.prog 70 _ (ReflectliteValue.methodAny (ReflectliteValue.valueError "reflectlite.Value.Type" 0) (fun t _ _ _ => ReflectliteType.toType t)) Tryz.func70 (by kernel_rfl) (by kernel_rfl) (by kernel_rfl) (by kernel_rfl)
 have h8 := @run_callFunc_extern Tryz.prog 71 _ (ReflectliteValue.method (ReflectliteValue.valueError "reflectlite.Value.IsNil" 0) ReflectliteValue.isNil) Tryz.func71 (by kernel_rfl) (by kernel_rfl) (by kernel_rfl) (by kernel_rfl)
 have h27 := @run_callFunc_extern Tryz.prog 267 _ (ReflectliteType.abiMethod fun t => do pure (.int .u8 (<- Rtype.kind t))) Tryz.func267 (by kernel_rfl) (by kernel_rfl) (by kernel_rfl) (by kernel_rfl)
 have h37 := @run_callFunc_extern Tryz.prog 283 _ (ReflectliteType.method ReflectliteType.elem) Tryz.func283 (by kernel_rfl) (by kernel_rfl) (by kernel_rfl) (by kernel_rfl)
 have h38 := @run_callFunc_extern Tryz.prog 284 _ (ReflectliteType.relation "Implements" ReflectliteType.implements_) Tryz.func284 (by kernel_rfl) (by kernel_rfl) (by kernel_rfl) (by kernel_rfl)
 have h10 := @run_callFunc_extern Tryz.prog 122 _ ReflectliteType.typeOf Tryz.func122 (by kernel_rfl) (by kernel_rfl) (by kernel_rfl) (by kernel_rfl)
 have h35 := @run_callFunc_extern Tryz.prog 281 _ (ReflectliteType.relation "AssignableTo" ReflectliteType.assignableTo) Tryz.func281 (by kernel_rfl) (by kernel_rfl) (by kernel_rfl) (by kernel_rfl)
 have h11 := @run_callFunc_extern Tryz.prog 123 _ (ReflectliteValue.method (ReflectliteValue.valueError "reflectlite.Value.Elem" 0) ReflectliteValue.elem) Tryz.func123 (by kernel_rfl) (by kernel_rfl) (by kernel_rfl) (by kernel_rfl)
 have h12 := @run_callFunc_extern Tryz.prog 124 _ ReflectliteValue.set Tryz.func124 (by kernel_rfl) (by kernel_rfl) (by kernel_rfl) (by kernel_rfl)
 have tO := as_typeOf25
 have tT := as_typeOf95
 have aT := as_assignable95
 have nT := as_noAs95
 have uT := as_isUnwrap95
 have mU := as_unwrap95
 have mA := as_methodAssignableTo
 have a25 := as_assignable25
 have v25 := as_valueOf25
 have f6 := as_valueOf27
 have f7 := as_type27
 have mK := as_methodKind
 have mE := as_methodElem
 have mI := as_methodImplements
 have k27 := as_kind27
 have k25 := as_kind25
 have e27 := as_elem27
 have i25 := as_implements25
 have n8 := as_isNil27 ⟨w.heap.size, 0, none⟩ t ((w.alloc (.cells #[.pointer (some t)] 92)).alloc (.cells #[.pointer (some ⟨1, 92, none⟩), .pointer (some ⟨w.heap.size, 0, none⟩), .int .u64 150] 136)) (by simp)
 have hlt : 0 < w.heap.size := by
  rcases Nat.eq_zero_or_pos w.heap.size with h0 | h
  ·simp [World.cell?, h0] at hg
  ·exact h
 have hg2 : ((w.alloc (.cells #[.pointer (some t)] 92)).alloc (.cells #[.pointer (some ⟨1, 92, none⟩), .pointer (some ⟨w.heap.size, 0, none⟩), .int .u64 150] 136)).cell? ⟨0, 0, none⟩ = some (.iface 210 (.agg #[.pointer (some ⟨1, 42, none⟩)])) := by
  rw [World.cell?_alloc_lt _ _ ⟨0, 0, none⟩ (by simp), World.cell?_alloc_lt _ _ ⟨0, 0, none⟩ hlt]; exact hg
 have htl : t.block < w.heap.size := by
  rcases Nat.lt_or_ge t.block w.heap.size with h | h
  ·exact h
  ·simp [World.cell?, Array.getElem?_eq_none h] at ht0
 have el := as_elemV27 ⟨w.heap.size, 0, none⟩ t ((((w.alloc (.cells #[.pointer (some t)] 92)).alloc (.cells #[.pointer (some ⟨1, 92, none⟩), .pointer (some ⟨w.heap.size, 0, none⟩), .int .u64 150] 136)).alloc (.cells #[.pointer (some ⟨1, 92, none⟩), .pointer (some ⟨w.heap.size, 0, none⟩), .int .u64 150] 136)).alloc (.cells #[.pointer (some e)] 95)) (by rw [World.cell?_alloc_lt _ _ ⟨w.heap.size, 0, none⟩ (by simp; omega), World.cell?_alloc_lt _ _ ⟨w.heap.size, 0, none⟩ (by simp; omega)]; simp)
 have st := as_set25 t ⟨w.heap.size + 1 + 1 + 1 + 1, 0, none⟩ e old (((((w.alloc (.cells #[.pointer (some t)] 92)).alloc (.cells #[.pointer (some ⟨1, 92, none⟩), .pointer (some ⟨w.heap.size, 0, none⟩), .int .u64 150] 136)).alloc (.cells #[.pointer (some ⟨1, 92, none⟩), .pointer (some ⟨w.heap.size, 0, none⟩), .int .u64 150] 136)).alloc (.cells #[.pointer (some e)] 95)).alloc (.cells #[.pointer (some e)] 90))
  (by rw [World.cell?_alloc_at _ _ _ _ (by simp)]; rfl)
  (by rw [World.cell?_alloc_lt _ _ t (by simp; omega), World.cell?_alloc_lt _ _ t (by simp; omega), World.cell?_alloc_lt _ _ t (by simp; omega), World.cell?_alloc_lt _ _ t (by simp; omega), World.cell?_alloc_lt _ _ t htl]; exact ht0)
  (by rw [World.frozen?_alloc_old _ _ t (by simp; omega), World.frozen?_alloc_old _ _ t (by simp; omega), World.frozen?_alloc_old _ _ t (by simp; omega), World.frozen?_alloc_old _ _ t (by simp; omega), World.frozen?_alloc_old _ _ t (Nat.ne_of_lt htl)]; exact hf0)
 go_enter Tryz.func35, Tryz.ntmps35
 go_wp2
 refine wp_loop_rounds 2 ?_
 rw [rounds_succ]
 go_wp2
 rw [rounds_succ]
 go_wp2
 go_ret
 exact ⟨rfl, rfl⟩

theorem as_typeOf153 (v : Value) (w : World) : (ReflectliteType.typeOf #[.iface 153 v]).run Tryz.prog w = .ok (.iface 210 (.agg #[.pointer (some ⟨1, 153, none⟩)])) w := by kernel_rfl
theorem as_assignable153 (w : World) : (ReflectliteType.relation "AssignableTo" ReflectliteType.assignableTo #[.agg #[.pointer (some ⟨1, 153, none⟩)], .iface 210 (.agg #[.pointer (some ⟨1, 90, none⟩)])]).run Tryz.prog w = .ok (.bool false) w := by kernel_rfl
theorem as_noAs153 (v : Value) (w : World) : (Instr.typeAssert (.iface 153 v) 42 215 true).run Tryz.prog w = .ok (.tuple #[.nilIface, .bool false]) w := as_noAs 153 v w (by kernel_rfl)
theorem as_isUnwrap153 (v : Value) (w : World) : (Instr.typeAssert (.iface 153 v) 42 218 true).run Tryz.prog w = .ok (.tuple #[.iface 153 v, .bool true]) w := by kernel_rfl
theorem as_unwrap153 (v : Value) (w : World) : (Go.method 468 153 v "Unwrap").run Tryz.prog w = .ok (279, v) w := by kernel_rfl

set_option maxHeartbeats 8000000 in
theorem as_hit153 (e t : Addr) (old : Value) (w : World) (hg : w.cell? ⟨0, 0, none⟩ = some (.iface 210 (.agg #[.pointer (some ⟨1, 42, none⟩)]))) (ht0 : w.cell? t = some old) (hf0 : w.frozen? t = false) :
  Calls Tryz.prog 35 #[.iface 153 (.agg #[.pointer (some e)]), .iface 92 (.pointer (some t))] w fun ev w' => ev = .returned (.bool true) /\ w' = (((((w.alloc (.cells #[.pointer (some t)] 92)).alloc (.cells #[.pointer (some ⟨1, 92, none⟩), .pointer (some ⟨w.heap.size, 0, none⟩), .int .u64 150] 136)).alloc (.cells #[.pointer (some ⟨1, 92, none⟩), .pointer (some ⟨w.heap.size, 0, none⟩), .int .u64 150] 136)).alloc (.cells #[.pointer (some e)] 153)).alloc (.cells #[.pointer (some e)] 90)).setCell t (.pointer (some e)) := by
 have h6 := @run_callFunc_extern Tryz.prog 69 _ (fun args => ReflectliteValue.unpack (args.getD 0 (.tuple #[]))) Tryz.func69 (by kernel_rfl) (by kernel_rfl) (by kernel_rfl) (by kernel_rfl)
 have h7 := @run_callFunc_extern Tryz.prog 70 _ (ReflectliteValue.methodAny (ReflectliteValue.valueError "reflectlite.Value.Type" 0) (fun t _ _ _ => ReflectliteType.toType t)) Tryz.func70 (by kernel_rfl) (by kernel_rfl) (by kernel_rfl) (by kernel_rfl)
 have h8 := @run_callFunc_extern Tryz.prog 71 _ (ReflectliteValue.method (ReflectliteValue.valueError "reflectlite.Value.IsNil" 0) ReflectliteValue.isNil) Tryz.func71 (by kernel_rfl) (by kernel_rfl) (by kernel_rfl) (by kernel_rfl)
 have h27 := @run_callFunc_extern Tryz.prog 267 _ (ReflectliteType.abiMethod fun t => do pure (.int .u8 (<- Rtype.kind t))) Tryz.func267 (by kernel_rfl) (by kernel_rfl) (by kernel_rfl) (by kernel_rfl)
 have h37 := @run_callFunc_extern Tryz.prog 283 _ (ReflectliteType.method ReflectliteType.elem) Tryz.func283 (by kernel_rfl) (by kernel_rfl) (by kernel_rfl) (by kernel_rfl)
 have h38 := @run_callFunc_extern Tryz.prog 284 _ (ReflectliteType.relation "Implements" ReflectliteType.implements_) Tryz.func284 (by kernel_rfl) (by kernel_rfl) (by kernel_rfl) (by kernel_rfl)
 have h10 := @run_callFunc_extern Tryz.prog 122 _ ReflectliteType.typeOf Tryz.func122 (by kernel_rfl) (by kernel_rfl) (by kernel_rfl) (by kernel_rfl)
 have h35 := @run_callFunc_extern Tryz.prog 281 _ (ReflectliteType.relation "AssignableTo" ReflectliteType.assignableTo) Tryz.func281 (by kernel_rfl) (by kernel_rfl) (by kernel_rfl) (by kernel_rfl)
 have h11 := @run_callFunc_extern Tryz.prog 123 _ (ReflectliteValue.method (ReflectliteValue.valueError "reflectlite.Value.Elem" 0) ReflectliteValue.elem) Tryz.func123 (by kernel_rfl) (by kernel_rfl) (by kernel_rfl) (by kernel_rfl)
 have h12 := @run_callFunc_extern Tryz.prog 124 _ ReflectliteValue.set Tryz.func124 (by kernel_rfl) (by kernel_rfl) (by kernel_rfl) (by kernel_rfl)
 have tO := as_typeOf25
 have tT := as_typeOf153
 have aT := as_assignable153
 have nT := as_noAs153
 have uT := as_isUnwrap153
 have mU := as_unwrap153
 have mA := as_methodAssignableTo
 have a25 := as_assignable25
 have v25 := as_valueOf25
 have f6 := as_valueOf27
 have f7 := as_type27
 have mK := as_methodKind
 have mE := as_methodElem
 have mI := as_methodImplements
 have k27 := as_kind27
 have k25 := as_kind25
 have e27 := as_elem27
 have i25 := as_implements25
 have n8 := as_isNil27 ⟨w.heap.size, 0, none⟩ t ((w.alloc (.cells #[.pointer (some t)] 92)).alloc (.cells #[.pointer (some ⟨1, 92, none⟩), .pointer (some ⟨w.heap.size, 0, none⟩), .int .u64 150] 136)) (by simp)
 have hlt : 0 < w.heap.size := by
  rcases Nat.eq_zero_or_pos w.heap.size with h0 | h
  ·simp [World.cell?, h0] at hg
  ·exact h
 have hg2 : ((w.alloc (.cells #[.pointer (some t)] 92)).alloc (.cells #[.pointer (some ⟨1, 92, none⟩), .pointer (some ⟨w.heap.size, 0, none⟩), .int .u64 150] 136)).cell? ⟨0, 0, none⟩ = some (.iface 210 (.agg #[.pointer (some ⟨1, 42, none⟩)])) := by
  rw [World.cell?_alloc_lt _ _ ⟨0, 0, none⟩ (by simp), World.cell?_alloc_lt _ _ ⟨0, 0, none⟩ hlt]; exact hg
 have htl : t.block < w.heap.size := by
  rcases Nat.lt_or_ge t.block w.heap.size with h | h
  ·exact h
  ·simp [World.cell?, Array.getElem?_eq_none h] at ht0
 have el := as_elemV27 ⟨w.heap.size, 0, none⟩ t ((((w.alloc (.cells #[.pointer (some t)] 92)).alloc (.cells #[.pointer (some ⟨1, 92, none⟩), .pointer (some ⟨w.heap.size, 0, none⟩), .int .u64 150] 136)).alloc (.cells #[.pointer (some ⟨1, 92, none⟩), .pointer (some ⟨w.heap.size, 0, none⟩), .int .u64 150] 136)).alloc (.cells #[.pointer (some e)] 153)) (by rw [World.cell?_alloc_lt _ _ ⟨w.heap.size, 0, none⟩ (by simp; omega), World.cell?_alloc_lt _ _ ⟨w.heap.size, 0, none⟩ (by simp; omega)]; simp)
 have st := as_set25 t ⟨w.heap.size + 1 + 1 + 1 + 1, 0, none⟩ e old (((((w.alloc (.cells #[.pointer (some t)] 92)).alloc (.cells #[.pointer (some ⟨1, 92, none⟩), .pointer (some ⟨w.heap.size, 0, none⟩), .int .u64 150] 136)).alloc (.cells #[.pointer (some ⟨1, 92, none⟩), .pointer (some ⟨w.heap.size, 0, none⟩), .int .u64 150] 136)).alloc (.cells #[.pointer (some e)] 153)).alloc (.cells #[.pointer (some e)] 90))
  (by rw [World.cell?_alloc_at _ _ _ _ (by simp)]; rfl)
  (by rw [World.cell?_alloc_lt _ _ t (by simp; omega), World.cell?_alloc_lt _ _ t (by simp; omega), World.cell?_alloc_lt _ _ t (by simp; omega), World.cell?_alloc_lt _ _ t (by simp; omega), World.cell?_alloc_lt _ _ t htl]; exact ht0)
  (by rw [World.frozen?_alloc_old _ _ t (by simp; omega), World.frozen?_alloc_old _ _ t (by simp; omega), World.frozen?_alloc_old _ _ t (by simp; omega), World.frozen?_alloc_old _ _ t (by simp; omega), World.frozen?_alloc_old _ _ t (Nat.ne_of_lt htl)]; exact hf0)
 go_enter Tryz.func35, Tryz.ntmps35
 go_wp2
 refine wp_loop_rounds 2 ?_
 rw [rounds_succ]
 go_wp2
 rw [rounds_succ]
 go_wp2
 go_ret
 exact ⟨rfl, rfl⟩

end Go.Proofs.YtmdldoolnhpaeaaGreatDoor

set_option maxRecDepth 100000
namespace Go.Proofs.YtmdldoolnhpaeaaGreatDoor
open Go Go.Mh
set_option maxHeartbeats 0

def shX_values_place_L1 (P : Program) (t6 t5 yield0 : Value) (K : KT) (Kp : PanK) (m : List Nat) (t7 : Value) (h_1 : Heap) (Z : List Nat -> KT) : Prop :=
 pBin .lss t7 t6 fun t8 =>
 ifV t8
 (pIdx 6 t5 t7 fun t9 =>
 pLoadN 6 h_1 t9 fun t10 =>
 pBox T_graph_place (.agg #[(.int .i64 0), (.int .i64 0), (.int .i64 0), (.int .i64 0), (.int .i64 0), (.int .i64 0)]) h_1 fun v4 h_2 =>
 pStore 6 v4 t10 h_2 fun _ h_3 =>
 pLoadN 6 h_3 v4 fun t12 =>
 callX P yield0 [t12].toArray h_3 (fun t13 h_4 =>
  pUn .not t13 fun t14 =>
  ifV t14
  (takeM m h_4 fun h_5 => K (.tuple #[]) h_5)
  (pBin .add t7 (.int .i64 1) fun t15 => Z m t15 h_4)) (fun c h_6 => takeM m h_6 (Kp c)))
 (takeM m h_1 fun h_7 => K (.tuple #[]) h_7)

def shX_values_place (P : Program) (yield0 t1 : Value) (h : Heap) (K : KT) (Kp : PanK) : Prop :=
 pLoad h t1 fun t5 =>
 pLen t5 fun t6 =>
 LoopH (σ := List Nat × Vals [7]) (fun x hh ZZ => shX_values_place_L1 P t6 t5 yield0 K Kp x.1 x.2.1 hh (fun mz a0 hz => ZZ (mz, (a0, ())) hz)) ([], ((.int .i64 0), ())) h

theorem lkX_values_place (yield0 t1 : Value) {h : Heap} {K : KT} {Kp : PanK} (H : shX_values_place Tryz.prog yield0 t1 h K Kp) : CallsX Tryz.prog F_slices_Values_sl_graph_place_graph_place_1 [yield0, t1].toArray h K Kp :=
 callsX_of (ann := .two (.pl .leaf) (.one (.loop [7] (.two (.pl .leaf) (.two (.pl (.two .leaf .leaf)) (.two (.one (.two (.pl .leaf) (.two .pan (.pl (.two .leaf .leaf))))) (.pl .leaf)))))))
  (c := Tryz.f186.body.getD .skip) Tryz.func186 (by kernel_rfl) (by kernel_rfl) (by kernel_rfl) (of_decide_eq_true (by kernel_rfl))
  (Eq.mpr (by kernel_rfl) H)

def shX_look_k3 (P : Program) (p4 phase2 : Value) (h_11 : Heap) (R : Exit -> Heap -> Prop) : Prop :=
 pField 2 p4 fun t32 =>
 pLoad h_11 t32 fun t33 =>
 pLoad h_11 phase2 fun t34 =>
 pField 0 p4 fun t35 =>
 pLoad h_11 t35 fun t36 =>
 pField 1 p4 fun t37 =>
 pLoad h_11 t37 fun t38 =>
 pBuild [(.int .i64 0), (.int .i64 0), (.int .i64 0), (.int .i64 0)] [(0, 1, t33), (1, 1, t34), (2, 1, t36), (3, 1, t38)] fun t39 =>
 pBox T_api_Fault t39 h_11 fun t40 h_12 =>
 pBuild [(.pointer none)] [(0, 1, t40)] fun t41 =>
 R (.panic [{ v := .iface T_graph_trouble t41, recovered := false }]) h_12

def shX_look_B2 (P : Program) (h_6 : Heap) (phase2 : Value) (L : Loop) (t19 : Value) (h_7 : Heap) (R : Exit -> Heap -> Prop) : Prop :=
 pBox T_graph_place (.agg #[(.int .i64 0), (.int .i64 0), (.int .i64 0), (.int .i64 0), (.int .i64 0), (.int .i64 0)]) h_7 fun p4 h_8 =>
 pStore 6 p4 t19 h_8 fun _ h_9 =>
 beginR (h_6.size + 1) L h_9 fun h_10 =>
 pField 3 p4 fun t20 =>
 pLoad h_10 t20 fun t21 =>
 pField 4 p4 fun t22 =>
 pLoad h_10 t22 fun t23 =>
 pBin .lss t21 t23 fun t24 =>
 ifV t24
 (shX_look_k3 P p4 phase2 h_10 R)
 (pField 3 p4 fun t26 =>
 pLoad h_10 t26 fun t27 =>
 pField 5 p4 fun t28 =>
 pLoad h_10 t28 fun t29 =>
 pBin .geq t27 t29 fun t30 =>
 ifV t30
 (shX_look_k3 P p4 phase2 h_10 R)
 (R .normal h_10))

def shX_look_L1 (P : Program) (t11 t10 : Value) (K : KT) (Kp : PanK) (m : List Nat) (t12 : Value) (h_3 : Heap) (Z : List Nat -> KT) : Prop :=
 pBin .lss t12 t11 fun t13 =>
 ifV t13
 (pIdx 1 t10 t12 fun t15 =>
 pLoad h_3 t15 fun t16 =>
 pBox T_int (.int .i64 0) h_3 fun phase2 h_4 =>
 pStore 1 phase2 t12 h_4 fun _ h_5 =>
 callV P t16 [].toArray h_5 fun t18 h_6 =>
 rangeX P t18 [19] (h_6.size + 1) (h_6.push (.deferred (some []))) (fun L x hh R => shX_look_B2 P h_6 phase2 L x.1 hh R)
 (fun h_13 => pBin .add t12 (.int .i64 1) fun t43 =>
 Z (h_6.size :: m) t43 h_13)
 (fun h_14 => takeM (h_6.size :: m) h_14 fun h_15 =>
 K (.tuple #[]) h_15)
 [] (fun c h_17 => takeM (h_6.size :: m) h_17 (Kp c)))
 (takeM m h_3 fun h_16 =>
 K (.tuple #[]) h_16)

def shX_look (P : Program) (r0 : Value) (h : Heap) (K : KT) (Kp : PanK) : Prop :=
 pBox T_api_Raw r0 h fun r1 h_1 =>
 pBuildSlice T_func_iter_Seq_graph_place (zerosL [.nilFunc] 5) [(0, 1, (.func (.func F_graph_look_1) #[] #[r1])), (1, 1, (.func (.func F_graph_look_2) #[] #[r1])), (2, 1, (.func (.func F_graph_look_3) #[] #[r1])), (3, 1, (.func (.func F_graph_look_4) #[] #[r1])), (4, 1, (.func (.func F_graph_look_5) #[] #[r1]))] 5 h_1 fun t10 h_2 =>
 pLen t10 fun t11 =>
 LoopH (σ := List Nat × Vals [12]) (fun x hh ZZ => shX_look_L1 P t11 t10 K Kp x.1 x.2.1 hh (fun mz a0 hz => ZZ (mz, (a0, ())) hz)) ([], ((.int .i64 0), ())) h_2

theorem lkX_look (r0 : Value) {h : Heap} {K : KT} {Kp : PanK} (H : shX_look Tryz.prog r0 h K Kp) : CallsX Tryz.prog F_graph_look [r0].toArray h K Kp :=
 callsX_of (ann := .two (.pl .leaf) (.two (.pl .leaf) (.one (.loop [12] (.two (.pl .leaf) (.two (.pl (.two .leaf .leaf)) (.two (.one (.two (.pl .leaf) (.two (.pl .leaf) (.one (.rng .leaf (.one (.two (.pl .leaf) (.two .pan (.pl .leaf))))))))) (.pl .leaf))))))))
  (c := Tryz.f37.body.getD .skip) Tryz.func37 (by kernel_rfl) (by kernel_rfl) (by kernel_rfl) (of_decide_eq_true (by kernel_rfl))
  (Eq.mpr (by kernel_rfl) H)

def shX_Check (P : Program) (raw0 : Value) (h : Heap) (K : KT) : Prop :=
 pBox T_api_Raw raw0 h fun r1 h_1 =>
 pBox T_error .nilIface h_1 fun e2 h_2 =>
 pLoadN 4 h_2 r1 fun t4 =>
 callX P (.func (.func F_graph_look) #[] #[]) [t4].toArray h_2 (fun _ h_3 =>
  pStore 1 e2 .nilIface h_3 fun _ h_4 =>
  DeferS P F_graph_Check_1 #[e2] h_4 fun h_5 =>
  pLoad h_5 e2 fun res => K res h_5) (fun c h_6 =>
  DeferX P F_graph_Check_1 #[e2] c h_6 fun h_7 =>
  pLoad h_7 e2 fun res => K res h_7)

theorem lkX_Check (raw0 : Value) {h : Heap} {K : KT} (H : shX_Check Tryz.prog raw0 h K) : CallsH Tryz.prog F_graph_Check [raw0].toArray h K :=
 callsH_deferX (g := F_graph_Check_1) (A := cL (Tryz.f12.body.getD .skip)) (B := cR (cR (Tryz.f12.body.getD .skip))) (annA := .leaf) (annB := .two .pan (.pl (.two .leaf .leaf)))
  (id := cId (cL (cR (Tryz.f12.body.getD .skip)))) (o1 := cO 0 (cL (cR (Tryz.f12.body.getD .skip)))) (o2 := cO 1 (cL (cR (Tryz.f12.body.getD .skip)))) (s := 3) (caps := #[.tmp 2]) (c := { callee := .value (.tmp 3), args := #[], argTypes := #[] })
  Tryz.func12 (by kernel_rfl) (by kernel_rfl) (by kernel_rfl) (of_decide_eq_true (by kernel_rfl)) (by kernel_rfl) (by kernel_rfl) (by kernel_rfl) (by kernel_rfl) rfl rfl (by kernel_rfl) (by kernel_rfl)
  (Eq.mpr (by kernel_rfl) H)

open Go Go.Mh

section
variable {h0 h : Heap} {L : List Res} {K : KT}

theorem callX_of {P : Program} {f : Nat} {first captured : Array Value} {args l : List Value} {h : Heap} {K : KT} {Kp : PanK} (e : first.toList ++ args ++ captured.toList = l) (hc : CallsX P f l.toArray h K Kp) :
  callX P (.func (.func f) first captured) args.toArray h K Kp := by
 show CallsX P f (first ++ args.toArray ++ captured) h K Kp
 have : first ++ args.toArray ++ captured = l.toArray := by
  apply Array.ext'
  rw [<- e]; simp
 rw [this]; exact hc

end
end Go.Proofs.YtmdldoolnhpaeaaGreatDoor

set_option maxRecDepth 100000
namespace Go.Proofs.YtmdldoolnhpaeaaGreatDoor
open Go Go.Mh

section
variable {h0 h : Heap} {L : List Res} {K : KT} {e : Nat} {tv : Value}

theorem ck_head {K : Exit -> VEnv -> List Nat -> Heap -> Prop} (hk : K .normal [(6, .bool true), (5, .iface T_graph_trouble tv), (1, .iface T_graph_trouble tv), (0, ptr e)] [] h) :
  compile Tryz.prog 17 false (cL (cR (Tryz.f36.body.getD .skip))) .leaf [(1, .iface T_graph_trouble tv), (0, ptr e)] [] h K :=
 Eq.mpr (α := compile Tryz.prog 17 false (cL (cR (Tryz.f36.body.getD .skip))) .leaf [(1, .iface T_graph_trouble tv), (0, ptr e)] [] h K) (β := K .normal [(6, .bool true), (5, .iface T_graph_trouble tv), (1, .iface T_graph_trouble tv), (0, ptr e)] [] h) (by kernel_rfl) hk

def ckE (e own : Value) (tv : Value) : VEnv := [(3, .bool true), (2, own), (11, .bool true), (10, tv), (7, .tuple #[tv, .bool true]), (9, .tuple #[tv, .bool true]), (8, .iface T_graph_trouble tv), (6, .bool true), (5, .iface T_graph_trouble tv), (1, .iface T_graph_trouble tv), (0, e)]

theorem ck_mid {K : VEnv -> Heap -> Prop} (hk : pBox T_graph_trouble (.agg #[.pointer none]) h fun own h1 => pStore 1 own tv h1 fun _ h2 => K (ckE (ptr e) own tv) h2) :
  cSeqX Tryz.prog 17 (cOps (cL (cT (cR (cR (Tryz.f36.body.getD .skip)))))) (fun _ _ => False) (cOps (cL (cT (cR (cR (Tryz.f36.body.getD .skip)))))).toList [(6, .bool true), (5, .iface T_graph_trouble tv), (1, .iface T_graph_trouble tv), (0, ptr e)] h K :=
 Eq.mpr (α := cSeqX Tryz.prog 17 (cOps (cL (cT (cR (cR (Tryz.f36.body.getD .skip)))))) (fun _ _ => False) (cOps (cL (cT (cR (cR (Tryz.f36.body.getD .skip)))))).toList [(6, .bool true), (5, .iface T_graph_trouble tv), (1, .iface T_graph_trouble tv), (0, ptr e)] h K)
  (β := pBox T_graph_trouble (.agg #[.pointer none]) h fun own h1 => pStore 1 own tv h1 fun _ h2 => K (ckE (ptr e) own tv) h2) (by kernel_rfl) hk

theorem ck_tail {own : Value} {K : Heap -> Prop} (hk : pLoadN 1 h own fun t15 => pStore 1 (ptr e) (.iface T_graph_trouble t15) h fun _ h3 => K h3) :
  compile Tryz.prog 17 false (cR (cT (cR (cR (Tryz.f36.body.getD .skip))))) (.two (.two .leaf (.two .leaf .leaf)) .leaf) (ckE (ptr e) own tv) [] h (fun ex _ m h' => ex = .normal /\ m = [] /\ K h') :=
 Eq.mpr (α := compile Tryz.prog 17 false (cR (cT (cR (cR (Tryz.f36.body.getD .skip))))) (.two (.two .leaf (.two .leaf .leaf)) .leaf) (ckE (ptr e) own tv) [] h (fun ex _ m h' => ex = .normal /\ m = [] /\ K h'))
  (β := pLoadN 1 h own fun t15 => pStore 1 (ptr e) (.iface T_graph_trouble t15) h fun _ h3 => Exit.normal = .normal /\ ([] : List Nat) = [] /\ K h3) (by kernel_rfl) (by
   simpa using hk)

theorem check1_hit {old : Value} {i f : Nat} (o : Own h0 h L) (hi : L[i]? = some (cellR e [old] T_error)) {KP : Heap -> Prop} (hK : ∀ h', Own h0 h' (L.set i (cellR e [.iface T_graph_trouble (.agg #[ptr f])] T_error)) -> KP h') :
  DeferX Tryz.prog F_graph_Check_1 #[ptr e] [{ v := .iface T_graph_trouble (.agg #[ptr f]), recovered := false }] h KP := by
 refine ⟨by kernel_rfl, fun w hw => ?_⟩
 subst hw
 refine callsDIn_of_wpSIn Tryz.func36 rfl trivial fun c₀ cs hu => ?_
 apply wpSIn_seq
 generalize hQ : bodyPostS Tryz.prog _ c₀ cs _ = Q
 apply wpSIn_region
 simp [wpOpsSIn, go_sem, recoverD, hu, Tryz.ntmps36, Exit.thenS]
 have hr : ∀ (tm : Array Value), tm[0]? = some (ptr e) -> tm[1]? = some (.iface T_graph_trouble (.agg #[ptr f])) -> tm.size = 17 ->
   Code.wpSIn Fence.wide 0 Tryz.prog (cR (Tryz.f36.body.getD .skip)) Q { tmps := tm, defers := [] } ({ c₀ with mode := .panicking [{ v := .iface T_graph_trouble (.agg #[ptr f]), recovered := true }] } :: cs) w := by
  intro tm h1 h2 hs
  subst hQ
  refine wpSIn_of_wpIn rfl ?_
  have hm : Tryz.prog.follows .mixedOrders = true := by kernel_rfl
  have hcode : cR (Tryz.f36.body.getD .skip) = .seq (cL (cR (Tryz.f36.body.getD .skip))) (.cond (.tmp 6) (.seq (.region (cId (cL (cT (cR (cR (Tryz.f36.body.getD .skip)))))) (cOps (cL (cT (cR (cR (Tryz.f36.body.getD .skip)))))) false) (cR (cT (cR (cR (Tryz.f36.body.getD .skip)))))) .skip) := by kernel_rfl
  rw [hcode]
  refine wpIn_seq ?_
  have hrel : Rel [(1, .iface T_graph_trouble (.agg #[ptr f])), (0, ptr e)] tm := by
   intro s v hv
   unfold Mh.look at hv
   split at hv
   ·rename_i hb
    have := Nat.eq_of_beq_eq_true hb
    subst this
    rw [h2]; exact hv
   ·unfold Mh.look at hv
    split at hv
    ·rename_i hb
     have := Nat.eq_of_beq_eq_true hb
     subst this
     rw [h1]; exact hv
    ·cases hv
  refine compile_sound (cL (cR (Tryz.f36.body.getD .skip))) .leaf none _ [] w.heap (fun ex e' m h' => ex = .normal /\ m = [] /\ h' = w.heap /\ e' = [(6, .bool true), (5, .iface T_graph_trouble (.agg #[ptr f])), (1, .iface T_graph_trouble (.agg #[ptr f])), (0, ptr e)])
   (ck_head ⟨rfl, rfl, rfl, rfl⟩) hm [] _ w _ hrel hs rfl rfl ?_
  rintro ex e1 m1 a1 w1 hr1 hn1 hd1 hs1 _ _ ⟨rfl, rfl, hh1, rfl⟩
  refine wpIn_cond_true (c := .tmp 6) (by rw [eval_evA, <- hr1.ev (x := .tmp 6) (by rfl)]; rfl) (wpIn_seq ?_)
  refine wpIn_pan (n := 17) (by kernel_rfl) hr1 hn1 hh1 (K := fun e2 h2 => ∃ own, e2 = ckE (ptr e) own (.agg #[ptr f]) /\ ∃ b, own = ptr b /\ Own h0 h2 (cellR b [ptr f] T_graph_trouble :: L)) ?_ ?_
  ·refine ck_mid (e := e) (tv := .agg #[ptr f]) ?_
   refine o.box fun own h2 o2 => o2.st (l := [ptr f]) (cs' := [ptr f]) 0 rfl rfl rfl rfl rfl (by intro u hu; simp at hu; subst hu; rfl) fun h3 o3 => ?_
   exact ⟨ptr own, rfl, own, rfl, o3⟩
  rintro e2 a2 w2 hr2 hn2 hd2 hs2 ⟨_, rfl, b, rfl, o2⟩
  refine compile_sound (cR (cT (cR (cR (Tryz.f36.body.getD .skip))))) (.two (.two .leaf (.two .leaf .leaf)) .leaf) none _ [] w2.heap (fun ex _ m h' => ex = .normal /\ m = [] /\ KP h')
   (ck_tail (own := ptr b) ?_) hm [] _ w2 _ hr2 hn2 (hd2.trans hd1) rfl ?_
  ·refine o2.ldN 0 rfl rfl rfl ?_
   exact o2.st1 (i + 1) (cs' := [.iface T_graph_trouble (.agg #[ptr f])]) (by simpa using hi) rfl rfl rfl rfl fun h3 o3 => hK h3 (by simpa using o3.tail)
  ·rintro ex e' m' a' w' hrl _ hd hsm _ _ ⟨rfl, rfl, hh⟩
   have hd0 : a'.defers = [] := hd
   refine ⟨hd0, _, rfl, .tuple #[], ?_, _, rfl, rfl, (hs1.trans hs2).trans hsm, hh⟩
   ·have hq : resQ Tryz.prog e' w'.heap Tryz.f36.results.toList (fun l => l = []) := by
     rw [Tryz.results36]; rfl
    obtain ⟨l, hl, rfl⟩ := results_sound hrl hq
    exact rdS_run hl w' rfl
 refine hr _ ?_ ?_ ?_
 ·simp
 ·simp
 ·simp

end
open Go Go.Mh

section
variable {h0 h : Heap} {L : List Res} {K : KT} {e t : Nat} {old : Value} {p : Pl31} {dv : Value} {c : Int}

def TrT (T : Nat) : Prop := T = T_graph_trouble \/ T = T_net_trouble

theorem asTrouble_ok {T : Nat} (hT : TrT T) (o : Own h0 h L) (i : Nat) (hi : L[i]? = some (cellR t [old] T_p_api_Fault)) (hg : Glob h) (hK : ∀ h', Own h0 h' (L.set i (cellR t [ptr e] T_p_api_Fault)) -> K (.bool true) h') :
  callS Tryz.prog F_errors_As [.iface T (.agg #[ptr e]), .iface T_p_p_api_Fault (ptr t)] h K := by
 refine callS_of ⟨by kernel_rfl, fun w hw => ?_⟩
 subst hw
 have hb := o.get i hi
 have hb : w.heap[t]? = some (.cells #[old] T_p_api_Fault (0, 0)) := hb
 have ht0 : w.cell? ⟨t, 0, none⟩ = some old := (show hcell w.heap ⟨t, 0, none⟩ = some old from hcell_of hb rfl)
 have hf0 : w.frozen? ⟨t, 0, none⟩ = false := (show hfrozen w.heap ⟨t, 0, none⟩ = false by unfold hfrozen; simp only [hb]; rfl)
 have hit : Calls Tryz.prog 35 #[.iface T (.agg #[.pointer (some ⟨e, 0, none⟩)]), .iface 92 (.pointer (some ⟨t, 0, none⟩))] w fun ev w' => ev = .returned (.bool true) /\ w' = (((((w.alloc (.cells #[.pointer (some ⟨t, 0, none⟩)] 92)).alloc (.cells #[.pointer (some ⟨1, 92, none⟩), .pointer (some ⟨w.heap.size, 0, none⟩), .int .u64 150] 136)).alloc (.cells #[.pointer (some ⟨1, 92, none⟩), .pointer (some ⟨w.heap.size, 0, none⟩), .int .u64 150] 136)).alloc (.cells #[.pointer (some ⟨e, 0, none⟩)] T)).alloc (.cells #[.pointer (some ⟨e, 0, none⟩)] 90)).setCell ⟨t, 0, none⟩ (.pointer (some ⟨e, 0, none⟩)) := by
  rcases hT with rfl | rfl
  ·exact as_hit95 ⟨e, 0, none⟩ ⟨t, 0, none⟩ old w hg ht0 hf0
  ·exact as_hit153 ⟨e, 0, none⟩ ⟨t, 0, none⟩ old w hg ht0 hf0
 refine (callsIn_wide.2 hit).mono fun ev w' ⟨he, hw'⟩ => ?_
 subst hw'
 refine ⟨_, he, ⟨rfl, rfl, rfl, Nat.le_refl _⟩, ?_⟩
 rw [setCell_heap]
 have x : ∀ (H : Heap) (o : Obj), Ext H (H.push o) := fun H o => Upd.push _ _ _
 have o4 := ((((o.more (x _ (.cells #[.pointer (some ⟨t, 0, none⟩)] 92))).more (x _ (.cells #[.pointer (some ⟨1, 92, none⟩), .pointer (some ⟨w.heap.size, 0, none⟩), .int .u64 150] 136))).more (x _ (.cells #[.pointer (some ⟨1, 92, none⟩), .pointer (some ⟨w.heap.size, 0, none⟩), .int .u64 150] 136))).more (x _ (.cells #[.pointer (some ⟨e, 0, none⟩)] T))).more (x _ (.cells #[.pointer (some ⟨e, 0, none⟩)] 90))
 have hb4 := o4.get i hi
 have hlt := get_lt hb4
 have e4 := hset_of (v := ptr e) (i := 0) hb4
 show K (.bool true) (hset (((((w.heap.push _).push _).push _).push _).push _) _ _)
 rw [e4]
 refine hK _ (o4.set i hi (r' := cellR t [ptr e] T_p_api_Fault) (Upd.upd (S := (cellR t [old] T_p_api_Fault).F) _ _ rfl) (upd_self hlt) fun d hd => ⟨.inl hd, ?_⟩)
 rw [upd_size]; exact (show d = t from hd) ▸ hlt

end
end Go.Proofs.YtmdldoolnhpaeaaGreatDoor
