/- Texts of the proofs of seat YtmdldoolnhpaeaaGreatDoor, joined: AvD, AvE, AvF, AvG, FaA, FaB, FaC, FaD, AvH, AvI, BdB, R7C, F31A, SkA, RvA, SkB, SkC, F31B. They have no conditions of their own. -/
import Derived.Test.YtmdldoolnhpaeaaGreatDoorTc
import Derived.Test.YtmdldoolnhpaeaaGreatDoorMc
import Derived.Test.YtmdldoolnhpaeaaGreatDoorTb
import Derived.Test.YtmdldoolnhpaeaaGreatDoorTa
import Derived.Test.YtmdldoolnhpaeaaGreatDoorMd
set_option linter.unusedVariables false
set_option linter.unusedSimpArgs false
set_option linter.unusedSectionVars false

namespace Go.Proofs.YtmdldoolnhpaeaaGreatDoor
open Go Go.Mh

section
variable {h0 h hD : Heap} {L Pr : List Res} {K : Value -> Heap -> Prop} {g : G} {rn r pt tr m pm b5 b4 b3 : Nat} {vs vm sd sa so vl : Value} {f : Int -> Option Value} {S : GS} {kv : Nat -> Value} {R : Exit -> Heap -> Prop} {v : Nat} {M : Loop} {ms : List MV}

theorem growB_ok (hR : g.Right) (hN : NetR h0 rn g) (hn : g.n <= 16) (hr : r < g.n) (hv : v < g.n) (HM : ∀ m ∈ ms, MkV g h0 m) (Hl : Vw encM 7 h0 vl ms) (hl : ms.length < 2 ^ 40) (hvo : v ∈ (g.from r).order)
  (hkl : ∀ x, (S.kd x).length <= 2 ^ 20) (hf : ∀ u : Nat, (f u).getD sl0 = kv u) (hsl : S.sz.length = g.n) (hml : S.mc.length = g.n) (hk : ∀ k ∈ S.kd v, k < g.n /\ k ≠ v) (hm : ∀ u, 0 <= S.mc.getD u 0 /\ S.mc.getD u 0 <= 2 ^ 32)
  (o : Own h0 h (loopR (hD.size + 1) (lo M .ready none) :: markR hD.size :: growL g (g.from r) rn r pt tr m pm b5 b4 b3 vs vm sd sa so vl f S (famR encN 1 T_int kv S.kd g.n ++ Pr)))
  (hK : ∀ f' kv' h', (∀ u : Nat, (f' u).getD sl0 = kv' u) -> Own h0 h' (loopR (hD.size + 1) (lo M .busy none) :: markR hD.size :: growL g (g.from r) rn r pt tr m pm b5 b4 b3 vs vm sd sa so vl f' (S.step (parA g r) (wtA g (ms.map MV.node) r) v) (famR encN 1 T_int kv' (S.step (parA g r) (wtA g (ms.map MV.node) r) v).kd g.n ++ Pr)) -> R .normal h') :
  sh_avoid_grow_B3 Tryz.prog hD (ptr b5) (ptr pt) (ptr b4) (ptr pm) (ptr b3) M (I v) h R := by
 have T := from_tree hR hr
 have hmn : ∀ x ∈ ms.map MV.node, x < g.n := fun x hx => by
  obtain ⟨y, hy, rfl⟩ := List.mem_map.1 hx
  exact (HM y hy).1
 have hwr := wtA_rng hR hr hmn v hvo
 have hpr : ∀ p, parT g.arcs (g.from r) v = some p -> p < g.n := fun p hp => T.range p (par_some T hp).2.2.1
 unfold sh_avoid_grow_B3
 refine o.begin 0 rfl fun h1 o1 => ?_
 have o1 : Own h0 h1 (loopR (hD.size + 1) (lo M .busy none) :: markR hD.size :: growL g (g.from r) rn r pt tr m pm b5 b4 b3 vs vm sd sa so vl f S (famR encN 1 T_int kv S.kd g.n ++ Pr)) := o1
 clear o
 refine o1.load 11 rfl rfl ?_
 rw [pBin_neq, ifV_bne]
 refine ⟨fun hne => ?_, fun he => ?_⟩
 ·have hne : v ≠ r := fun e => hne (by rw [e])
  refine o1.load 2 rfl rfl ?_
  simp only [pNil_ptr, pField_ptr]
  have hdl : v < (g.from r).dist.length := by rw [T.ls.len]; exact hv
  refine o1.load 3 rfl rfl ((o1.vw 8 rfl).idxI hdl fun b1 f1 c1 => pLoad_of rfl c1 ?_)
  rw [dAt_get hdl] at c1 ⊢
  refine o1.load 12 rfl rfl (o1.load 11 rfl rfl ?_)
  refine bound_ok hR (fun m hm => (HM m hm).more o1.ext) (Hl.more o1.ext) hl hr hv fun h2 x2 => ?_
  have o2 := o1.more x2
  refine ⟨o2.load 2 rfl rfl rfl, o2.load 3 rfl rfl rfl, pLoad_of rfl (hcell_more x2 c1) rfl, ?_⟩
  have hw : wtA g (ms.map MV.node) r v = dAt (g.from r).dist v - bnd g (ms.map MV.node) r v := if_pos hne
  have hfar : far = 72057594037927936 := rfl
  rw [pBin_sub, w64 (by omega) (by omega), <- hw]
  exact grow4_ok hN T.al hv hn hpr hkl hf hsl hml hk hm hwr o2 hK
 ·have he : v = r := by omega
  have hw : wtA g (ms.map MV.node) r v = 0 := if_neg (by simpa using he)
  have := grow4_ok (wt := wtA g (ms.map MV.node) r) hN T.al hv hn hpr hkl hf hsl hml hk hm hwr o1 hK
  rw [hw] at this
  exact this

theorem growC_ok (hR : g.Right) (hN : NetR h0 rn g) (hn : g.n <= 16) (hr : r < g.n) (HM : ∀ m ∈ ms, MkV g h0 m) (Hl : Vw encM 7 h0 vl ms) (hl : ms.length <= 2 ^ 20)
  (o : Own h0 h [cellR pt [ptr tr] T_p_avoid_tree, cellR tr [sd, sa, so, .map (some m), vs] T_avoid_tree, mapR m (fun _ => none), xR vs (List.replicate g.n 0), xR sd (g.from r).dist, slR encI 1 T_int sa (g.from r).arc, slR encN 1 T_int so (g.from r).order, cellR b5 [I r] T_int, cellR b4 [vl] T_sl_avoid_mark, cellR b3 [ptr rn] T_p_net_Net])
  (hK : ∀ vm pm f kv h' ord, (∀ u : Nat, (f u).getD sl0 = kv u) -> Own h0 h' (growL g (g.from r) rn r pt tr m pm b5 b4 b3 vs vm sd sa so vl f (growA g (ms.map MV.node) r) (famR encN 1 T_int kv (growA g (ms.map MV.node) r).kd g.n ++ [cellR ord [so] T_sl_int])) -> K (ptr tr) h') :
  sh_avoid_grow_C1 Tryz.prog (ptr b3) (ptr b4) (ptr b5) K (ptr pt) h := by
 have T := from_tree hR hr
 have hmn : ∀ x ∈ ms.map MV.node, x < g.n := fun x hx => by
  obtain ⟨y, hy, rfl⟩ := List.mem_map.1 hx
  exact (HM y hy).1
 have hmlN : (ms.map MV.node).length <= 2 ^ 20 := by rw [List.length_map]; exact hl
 unfold sh_avoid_grow_C1
 refine o.load 9 rfl rfl (nodes_ok (hN.more o.ext) ?_)
 refine o.make (enc := encI) (n := 1) (a := 0) (m := g.n) rfl (by omega) (by omega) fun vm h1 o1 => ?_
 refine o1.box fun pm h2 o2 => ?_
 have hv := o2.vw 1 rfl
 refine o2.st1 0 (cs' := [vm]) rfl rfl rfl hv.one hv.plain fun h3 o3 => ?_
 clear o o1 o2 hv
 have o3 : Own h0 h3 (cellR pm [vm] T_sl_int :: slR encI 1 T_int vm (List.replicate g.n 0) :: [cellR pt [ptr tr] T_p_avoid_tree, cellR tr [sd, sa, so, .map (some m), vs] T_avoid_tree, mapR m (fun _ => none), xR vs (List.replicate g.n 0), xR sd (g.from r).dist, slR encI 1 T_int sa (g.from r).arc, slR encN 1 T_int so (g.from r).order, cellR b5 [I r] T_int, cellR b4 [vl] T_sl_avoid_mark, cellR b3 [ptr rn] T_p_net_Net]) := o3
 have o4 : Own h0 h3 (growL g (g.from r) rn r pt tr m pm b5 b4 b3 vs vm sd sa so vl (fun _ => none) ⟨List.replicate g.n 0, List.replicate g.n 0, fun _ => []⟩ []) := o3.sel [2, 3, 4, 0, 1, 5, 6, 7, 8, 9, 10, 11] (by decide)
 clear o3
 refine o4.load 10 rfl rfl ((Hl.more o4.ext).len ?_)
 have e0 : (List.range g.n).map (cntA ([] : List Nat)) = List.replicate g.n 0 := by
  apply List.ext_getElem?
  intro i
  by_cases hi : i < g.n
  ·simp [hi, cntA]
  ·rw [List.getElem?_eq_none (by simp; omega), List.getElem?_eq_none (by simp; omega)]
 refine LoopH_count ms.length (fun i x h' => x.1 = I i /\ Own h0 h' (growL g (g.from r) rn r pt tr m pm b5 b4 b3 vs vm sd sa so vl (fun _ => none) ⟨List.replicate g.n 0, (List.range g.n).map (cntA ((ms.take i).map MV.node)), fun _ => []⟩ [])) ⟨rfl, by rw [List.take_zero, List.map_nil, e0]; exact o4⟩ ?_
 clear o4
 rintro i ⟨x, ⟨⟩⟩ h4 Z hi ⟨hx, o⟩ hZ
 dsimp only at hx hZ ⊢
 subst hx
 unfold sh_avoid_grow_L2
 rw [pBin_lss, ifV_dec]
 refine ⟨fun hlt => ?_, fun hge => ?_⟩
 ·have hlt : i < ms.length := by omega
  refine (Hl.more o.ext).atN encM_len hlt ?_
  have tk : (ms.take (i + 1)).map MV.node = (ms.take i).map MV.node ++ [ms[i].node] := by rw [List.take_succ_eq_append_getElem hlt, List.map_append]; rfl
  have hmm := HM _ (List.getElem_mem hlt)
  rw [tk] at hZ
  generalize ms[i] = mv at hmm hZ
  have hmn := hmm.1
  refine o.box fun m8 h5 o5 => o5.st (l := encM mv) (cs' := encM mv) 0 rfl rfl rfl rfl rfl (encM_plain mv) fun h6 o6 => ?_
  clear o o5
  simp only [pField_ptr]
  refine o6.load 4 rfl rfl (o6.load 0 rfl rfl ?_)
  have hll : mv.node < ((List.range g.n).map (cntA ((ms.take i).map MV.node))).length := by simpa using hmn
  refine (o6.vw 5 rfl).atI hll ?_
  have hcl : cntA ((ms.take i).map MV.node) mv.node <= 2 ^ 20 /\ 0 <= cntA ((ms.take i).map MV.node) mv.node := by
   unfold cntA
   have := List.count_le_length (a := mv.node) (l := (ms.take i).map MV.node)
   rw [List.length_map, List.length_take] at this
   omega
  rw [show ((List.range g.n).map (cntA ((ms.take i).map MV.node)))[mv.node]'hll = cntA ((ms.take i).map MV.node) mv.node by simp, pBin_add, w64 (by omega) (by omega)]
  refine o6.setI 5 rfl hll fun h7 o7 => ?_
  rw [pBin_add, wI i (by omega)]
  refine hZ (_, ()) h7 hlt ⟨rfl, ?_⟩
  rw [<- cnt_set hmn]
  exact o7.tail
 ·have : i = ms.length := by omega
  subst this
  rw [List.take_length] at o
  clear hZ
  refine o.load 0 rfl rfl ?_
  simp only [pNil_ptr, pField_ptr]
  refine o.load 1 rfl rfl ?_
  refine callS_of (lk_avoid_behind _ ?_)
  unfold sh_avoid_behind
  have hso := (o.vw 8 rfl).one
  refine o.box fun ord h5 o5 => ?_
  rw [show (Value.cells so).toList = [so] by rw [hso]] at o5
  have o6 := o5.fam0 (enc := encN) (n := 1) (T := T_int) (m := g.n)
  have o7 : Own h0 h5 (growL g (g.from r) rn r pt tr m pm b5 b4 b3 vs vm sd sa so vl (fun _ => none) (growQ g (ms.map MV.node) r 0) (famR encN 1 T_int (fun _ => sl0) (growQ g (ms.map MV.node) r 0).kd g.n ++ [cellR ord [so] T_sl_int])) := by
   have := Own.comm o6
   have h2 : Own h0 h5 (cellR ord [so] T_sl_int :: (growL g (g.from r) rn r pt tr m pm b5 b4 b3 vs vm sd sa so vl (fun _ => none) (growQ g (ms.map MV.node) r 0) (famR encN 1 T_int (fun _ => sl0) (growQ g (ms.map MV.node) r 0).kd g.n))) := this
   exact Own.comm (L := [_]) h2
  clear o5 o6 o
  have hol : (g.from r).order.length <= g.n := nodup_le T.nodup T.range
  refine o7.range (behind_iter (O := (g.from r).order) (vo := so) (b := ord) (T := T_sl_int) (by omega)) (by rintro i x i' ⟨_, _, rfl⟩; rfl)
   (fun i Rs => i <= (g.from r).order.length /\ ∃ f kv, (∀ u : Nat, (f u).getD sl0 = kv u) /\ Rs = growL g (g.from r) rn r pt tr m pm b5 b4 b3 vs vm sd sa so vl f (growQ g (ms.map MV.node) r i) (famR encN 1 T_int kv (growQ g (ms.map MV.node) r i).kd g.n ++ [cellR ord [so] T_sl_int]))
   (fun _ => False) (fun _ _ => False) ⟨Nat.zero_le _, fun _ => none, fun _ => sl0, fun u => rfl, rfl⟩ ?_ ?_ ?_ (fun _ _ h => h.elim) (fun _ _ _ h => h.elim)
  ·rintro i Rs h' ⟨_, f, kv, _, rfl⟩ o'
   have := Own.comm (L := growL g (g.from r) rn r pt tr m pm b5 b4 b3 vs vm sd sa so vl f (growQ g (ms.map MV.node) r i) (famR encN 1 T_int kv (growQ g (ms.map MV.node) r i).kd g.n)) (L' := [cellR ord [so] T_sl_int]) o'
   exact ⟨this.get 0 rfl, o'.vw 8 rfl⟩
  ·rintro M i x i' Rs Pr h' R ⟨h1, rfl, rfl⟩ ⟨_, f, kv, hf, rfl⟩ o' hNx _ _
   dsimp only [valsOf]
   obtain ⟨f1, f2, f3, f4, f5⟩ := growQ_facts hR hn hr hmn hmlN i
   have hst := growQ_step (g := g) (ms := ms.map MV.node) (r := r) h1
   have hvo : (g.from r).order.reverse.getD i 0 ∈ (g.from r).order := by rw [rev_at h1]; exact List.getElem_mem _
   generalize (g.from r).order.reverse.getD i 0 = v at hst hvo
   have o8 : Own h0 h' (loopR (h5.size + 1) (lo M .ready none) :: markR h5.size :: growL g (g.from r) rn r pt tr m pm b5 b4 b3 vs vm sd sa so vl f (growQ g (ms.map MV.node) r i) (famR encN 1 T_int kv (growQ g (ms.map MV.node) r i).kd g.n ++ ([cellR ord [so] T_sl_int] ++ Pr))) := by
    rw [<- List.append_assoc]; exact o'
   refine growB_ok hR hN hn hr (T.range v hvo) HM Hl (by omega) hvo (fun x => by have := f1 x; omega) hf f2 f3 (f4 v) f5 o8 fun f' kv' h'' hf' o9 => ?_
   rw [<- hst] at o9
   refine hNx _ h'' ⟨h1, f', kv', hf', rfl⟩ ?_
   rw [<- List.append_assoc] at o9
   exact o9
  ·rintro i h' Rs rfl ⟨_, f, kv, hf, rfl⟩ o'
   rw [growQ_end] at o'
   refine o'.load 1 rfl rfl (o'.take1 0 rfl fun h10 o10 => ?_)
   exact hK vm pm f kv h10 ord hf o10.tail

end
open Go Go.Mh
set_option maxRecDepth 20000
set_option maxHeartbeats 0

section
variable {h0 h : Heap} {L : List Res} {K : Value -> Heap -> Prop} {g : G} {rn r : Nat} {vl : Value} {ms : List MV}

theorem build5 {sd sa so vs : Value} {m : Nat} {K : Value -> Prop} (hvs : vs.cells = #[vs]) (hk : K (.agg #[sd, sa, so, .map (some m), vs])) :
  pBuild [(.slice none 0 0), (.slice none 0 0), (.slice none 0 0), (.map none), (.slice none 0 0)] [(0, 3, .agg #[sd, sa, so]), (3, 1, .map (some m)), (4, 1, vs)] K := by
 refine ⟨⟨rfl, by decide, rfl, by decide, by rw [hvs]; rfl, by decide, trivial⟩, ?_⟩
 have e : spliceAll [(.slice none 0 0), (.slice none 0 0), (.slice none 0 0), (.map none), (.slice none 0 0)] [(0, 3, .agg #[sd, sa, so]), (3, 1, .map (some m)), (4, 1, vs)] = [sd, sa, so, .map (some m), vs] := by
  show [sd, sa, so, .map (some m)] ++ vs.cells.toList ++ List.drop (4 + vs.cells.size) [sd, sa, so, .map (some m), .slice none 0 0] = _
  rw [hvs]; rfl
 rw [e]; exact hk

theorem grow_ok (hR : g.Right) (hN : NetR h rn g) (hn : g.n <= 16) (hr : r < g.n) (HM : ∀ m ∈ ms, MkV g h m) (Hl : Vw encM 7 h vl ms) (hl : ms.length <= 2 ^ 20)
  (hK : ∀ pt tr m pm b5 b4 b3 ord vs vm sd sa so f kv h', (∀ u : Nat, (f u).getD sl0 = kv u) -> Own h h' (growL g (g.from r) rn r pt tr m pm b5 b4 b3 vs vm sd sa so vl f (growA g (ms.map MV.node) r) (famR encN 1 T_int kv (growA g (ms.map MV.node) r).kd g.n ++ [cellR ord [so] T_sl_int])) -> K (ptr tr) h') :
  callS Tryz.prog F_avoid_grow [ptr rn, vl, I r] h K := by
 refine callS_of (lk_avoid_grow _ _ _ ?_)
 unfold sh_avoid_grow
 refine (Own.start h).box fun b3 h1 o1 => o1.box fun b4 h2 o2 => o2.box fun b5 h3 o => ?_
 rw [show (Value.cells vl).toList = [vl] by rw [Hl.one]] at o
 have o : Own h h3 [cellR b5 [I r] T_int, cellR b4 [vl] T_sl_avoid_mark, cellR b3 [ptr rn] T_p_net_Net] := o
 clear o1 o2
 have hfr : g.fromI r = g.from r := by simp [G.fromI, hr]
 refine cutP_of (fun y h' => ∃ pt tr m vs sd sa so, y.1 = ptr pt /\ Own h h' [cellR pt [ptr tr] T_p_avoid_tree, cellR tr [sd, sa, so, .map (some m), vs] T_avoid_tree, mapR m (fun _ => none), xR vs (List.replicate g.n 0), xR sd (g.fromI r).dist, slR encI 1 T_int sa (g.fromI r).arc, slR encN 1 T_int so (g.fromI r).order, cellR b5 [I r] T_int, cellR b4 [vl] T_sl_avoid_mark, cellR b3 [ptr rn] T_p_net_Net]) (fun J hJ => ?_) ?_
 ·refine o.load 2 rfl rfl (o.load 0 rfl rfl (o.load 2 rfl rfl ?_))
  repeat' (first
   | with_reducible apply And.intro
   | ((with_reducible show pLoad _ _ _); first | exact o.load 2 rfl rfl rfl | exact o.load 3 rfl rfl rfl | exact o.load 4 rfl rfl rfl | exact o.load 5 rfl rfl rfl | exact o.load 6 rfl rfl rfl | exact o.load 7 rfl rfl rfl)
   | ((with_reducible show pBuild _ _ _); first | refine build5 (o.vw 0 rfl).one ?_ | refine build5 (o.vw 1 rfl).one ?_ | refine build5 (o.vw 2 rfl).one ?_ | refine build5 (o.vw 3 rfl).one ?_ | refine build5 (o.vw 4 rfl).one ?_ | refine build5 (o.vw 5 rfl).one ?_)
   | ((with_reducible show pMakeMap _ _); refine o.mkMap fun m hh o => ?_)
   | ((with_reducible show pMakeSlice _ _ _ _ _ _ _); refine o.make (enc := encI) (n := 1) (a := 0) (m := g.n) rfl (by omega) (by omega) fun vs hh o => ?_)
   | ((with_reducible show pBox _ _ _ _); refine o.box fun p hh o => ?_)
   | ((with_reducible show pStore _ _ _ _ _); first | refine o.st1 0 rfl rfl rfl rfl rfl fun hh o => ?_ | refine o.st1 1 rfl rfl rfl rfl rfl fun hh o => ?_ | refine o.st1 2 rfl rfl rfl rfl rfl fun hh o => ?_ | refine o.st1 3 rfl rfl rfl rfl rfl fun hh o => ?_ | refine o.st1 4 rfl rfl rfl rfl rfl fun hh o => ?_ | refine o.st1 5 rfl rfl rfl rfl rfl fun hh o => ?_ | refine o.st1 6 rfl rfl rfl rfl rfl fun hh o => ?_)
   | ((with_reducible show callS Tryz.prog F_net_Net_Nodes _ _ _); refine nodes_ok (hN.more o.ext) ?_)
   | ((with_reducible show callS Tryz.prog F_flood_From _ _ _); refine from_ok hR (hN.more o.ext) fun sd sa so hh o' => ?_; replace o := o.frame o'; clear o')
   | exact hJ _ _ ⟨_, _, _, _, _, _, _, rfl, o.sel [6, 0, 2, 1, 3, 4, 5, 7, 8, 9] (by decide)⟩
   | exact hJ _ _ ⟨_, _, _, _, _, _, _, rfl, o.sel [3, 0, 2, 1, 4, 5, 6, 7, 8, 9] (by decide)⟩
   | exact hJ _ _ ⟨_, _, _, _, _, _, _, rfl, o.sel [2, 0, 3, 1, 4, 5, 6, 7, 8, 9] (by decide)⟩
   | exact hJ _ _ ⟨_, _, _, _, _, _, _, rfl, o.sel [1, 0, 3, 2, 4, 5, 6, 7, 8, 9] (by decide)⟩
   | exact hJ _ _ ⟨_, _, _, _, _, _, _, rfl, o.sel [0, 1, 3, 2, 4, 5, 6, 7, 8, 9] (by decide)⟩
   | exact hJ _ _ ⟨_, _, _, _, _, _, _, rfl, o.sel [6, 0, 1, 2, 3, 4, 5, 7, 8, 9] (by decide)⟩
   | exact hJ _ _ ⟨_, _, _, _, _, _, _, rfl, o.sel [3, 0, 1, 2, 4, 5, 6, 7, 8, 9] (by decide)⟩
   | exact hJ _ _ ⟨_, _, _, _, _, _, _, rfl, o.sel [2, 0, 1, 3, 4, 5, 6, 7, 8, 9] (by decide)⟩
   | exact hJ _ _ ⟨_, _, _, _, _, _, _, rfl, o.sel [1, 0, 2, 3, 4, 5, 6, 7, 8, 9] (by decide)⟩
   | exact hJ _ _ ⟨_, _, _, _, _, _, _, rfl, o.sel [0, 1, 2, 3, 4, 5, 6, 7, 8, 9] (by decide)⟩
   | exact hJ _ _ ⟨_, _, _, _, _, _, _, rfl, o.sel [6, 0, 5, 1, 2, 3, 4, 7, 8, 9] (by decide)⟩
   | exact hJ _ _ ⟨_, _, _, _, _, _, _, rfl, o.sel [5, 0, 6, 1, 2, 3, 4, 7, 8, 9] (by decide)⟩
   | exact hJ _ _ ⟨_, _, _, _, _, _, _, rfl, o.sel [2, 0, 6, 1, 3, 4, 5, 7, 8, 9] (by decide)⟩
   | exact hJ _ _ ⟨_, _, _, _, _, _, _, rfl, o.sel [1, 0, 6, 2, 3, 4, 5, 7, 8, 9] (by decide)⟩
   | exact hJ _ _ ⟨_, _, _, _, _, _, _, rfl, o.sel [0, 1, 6, 2, 3, 4, 5, 7, 8, 9] (by decide)⟩
   | exact hJ _ _ ⟨_, _, _, _, _, _, _, rfl, o.sel [6, 0, 5, 4, 1, 2, 3, 7, 8, 9] (by decide)⟩
   | exact hJ _ _ ⟨_, _, _, _, _, _, _, rfl, o.sel [5, 0, 6, 4, 1, 2, 3, 7, 8, 9] (by decide)⟩
   | exact hJ _ _ ⟨_, _, _, _, _, _, _, rfl, o.sel [4, 0, 6, 5, 1, 2, 3, 7, 8, 9] (by decide)⟩
   | exact hJ _ _ ⟨_, _, _, _, _, _, _, rfl, o.sel [1, 0, 6, 5, 2, 3, 4, 7, 8, 9] (by decide)⟩
   | exact hJ _ _ ⟨_, _, _, _, _, _, _, rfl, o.sel [0, 1, 6, 5, 2, 3, 4, 7, 8, 9] (by decide)⟩
   | exact hJ _ _ ⟨_, _, _, _, _, _, _, rfl, o.sel [6, 0, 1, 5, 2, 3, 4, 7, 8, 9] (by decide)⟩
   | exact hJ _ _ ⟨_, _, _, _, _, _, _, rfl, o.sel [5, 0, 1, 6, 2, 3, 4, 7, 8, 9] (by decide)⟩
   | exact hJ _ _ ⟨_, _, _, _, _, _, _, rfl, o.sel [2, 0, 1, 6, 3, 4, 5, 7, 8, 9] (by decide)⟩
   | exact hJ _ _ ⟨_, _, _, _, _, _, _, rfl, o.sel [1, 0, 2, 6, 3, 4, 5, 7, 8, 9] (by decide)⟩
   | exact hJ _ _ ⟨_, _, _, _, _, _, _, rfl, o.sel [0, 1, 2, 6, 3, 4, 5, 7, 8, 9] (by decide)⟩
   | exact hJ _ _ ⟨_, _, _, _, _, _, _, rfl, o.sel [6, 0, 4, 5, 1, 2, 3, 7, 8, 9] (by decide)⟩
   | exact hJ _ _ ⟨_, _, _, _, _, _, _, rfl, o.sel [5, 0, 4, 6, 1, 2, 3, 7, 8, 9] (by decide)⟩
   | exact hJ _ _ ⟨_, _, _, _, _, _, _, rfl, o.sel [4, 0, 5, 6, 1, 2, 3, 7, 8, 9] (by decide)⟩
   | exact hJ _ _ ⟨_, _, _, _, _, _, _, rfl, o.sel [1, 0, 5, 6, 2, 3, 4, 7, 8, 9] (by decide)⟩
   | exact hJ _ _ ⟨_, _, _, _, _, _, _, rfl, o.sel [0, 1, 5, 6, 2, 3, 4, 7, 8, 9] (by decide)⟩)
 ·rintro ⟨y, ⟨⟩⟩ h' ⟨pt, tr, m, vs, sd, sa, so, hy, o1⟩
  dsimp only at hy ⊢
  subst hy
  rw [hfr] at o1
  exact growC_ok hR hN hn hr HM Hl hl o1 fun vm pm f kv h' ord hf o' => hK pt tr m pm b5 b4 b3 ord vs vm sd sa so f kv h' hf o'

end
open Go Go.Mh

section
variable {h0 h : Heap} {L : List Res} {K : Value -> Heap -> Prop}

theorem size_ok {tr v i j : Nat} {sd sa so mm vs : Value} {T : TypeId} {sz : List Int} (o : Own h0 h L) (hi : L[i]? = some (cellR tr [sd, sa, so, mm, vs] T)) (hj : L[j]? = some (xR vs sz)) (hv : v < sz.length) (hK : K (I (sz.getD v 0)) h) :
  callV Tryz.prog (.func (.func F_avoid_tree_size) #[ptr tr] #[]) [I v].toArray h K := by
 refine callV_of (l := [ptr tr, I v]) rfl (lk_avoid_tree_size _ _ ?_)
 unfold sh_avoid_tree_size
 simp only [pNil_ptr, pField_ptr]
 refine o.load i hi rfl ((o.vw j hj).atI hv ?_)
 rw [getD_at16 hv]
 exact hK

theorem next1_ok {b : Nat} {m : MV} {x : Nat} (hone : ∀ u ∈ encM m, u.cells = #[u]) (o : Own h0 h L) (i : Nat) (hi : L[i]? = some (cellR b [I x] T_int)) (hK : ∀ h', Ext h h' -> K (.bool (decide (m.node = x))) h') :
  callV Tryz.prog (.func (.func F_avoid_next_1) #[] #[ptr b]) [.agg (encM m).toArray].toArray h K := by
 refine callV_of (l := [.agg (encM m).toArray, ptr b]) rfl (lk_avoid_next_1 _ _ ?_)
 unfold sh_avoid_next_1
 refine (Own.start h).box fun m1 h1 o1 => ?_
 have o1 : Own h h1 [cellR m1 (encM m) T_avoid_mark] := o1
 have o2 := o.more o1.ext
 simp only [pField_ptr]
 refine o1.load 0 rfl rfl (o2.load i hi rfl ?_)
 rw [pBin_eql, show ((m.node : Int) == (x : Int)) = decide (m.node = x) by rw [Bool.eq_iff_iff, beq_iff_eq, decide_eq_true_eq]; omega]
 exact hK _ o1.ext

end
open Go Go.Mh

section
variable {h0 h : Heap} {L : List Res} {K : Value -> Heap -> Prop} {g : G} {r : Nat} {vc vm : Value} {c : List Int} {ms : List Int}

theorem pPart1_0 {a b c : Value} {K : Value -> Prop} (hk : K a) : pPart1 0 (.agg #[a, b, c]) K := hk
theorem takeNe {l : List Nat} {i : Nat} (h0 : i ≠ 0) (hi : i < l.length) : l.take i ≠ [] := by
 intro e
 rw [List.take_eq_nil_iff] at e
 rcases e with e | e
 ·exact h0 e
 ·subst e; cases hi

theorem minE {a b : Int} : (if b < a then b else a) = min a b := by split <;> omega

theorem closer_ok {m : Int} (o : Own h0 h L) (p : Nat) (hp : L[p]? = some (xR vc c)) (hc : c.length = g.n) (hR : g.Right) (H : NetR h r g) (hK : ∀ h', Own h0 h' (L.set p (xR vc (cl c (g.fromI m).dist))) -> K (.tuple #[]) h') :
  callS Tryz.prog F_far_closer [ptr r, vc, I m] h K := by
 refine callS_of (lk_far_closer _ _ _ ?_)
 unfold sh_far_closer
 have hmost := hR.most
 refine from_ok hR H fun sd sa so h1 o1 => ?_
 replace o1 := o.frame o1
 have hd : (g.fromI m).dist.length <= g.n := by
  have := tr_len hR (s := m)
  omega
 refine pPart1_0 ?_
 refine (o1.vw 0 rfl).len ?_
 refine LoopH_count (g.fromI m).dist.length (fun i x h' => x.1 = I i /\ Own h0 h' ([xR sd (g.fromI m).dist, slR encI 1 T_int sa (g.fromI m).arc, slR encN 1 T_int so (g.fromI m).order] ++ L.set p (xR vc (clp c (g.fromI m).dist i)))) ⟨rfl, by rw [clp_zero, set_same hp]; exact o1⟩ ?_
 clear o1
 rintro i ⟨x, ⟨⟩⟩ h' Z hi ⟨hx, o1⟩ hZ
 dsimp only at hx hZ ⊢
 subst hx
 unfold sh_far_closer_L1
 simp only [pBin_lss, ifV_dec]
 refine ⟨fun hlt => ?_, fun hge => ?_⟩
 ·have hlt : i < (g.fromI m).dist.length := by omega
  have hic : i < c.length := by omega
  have hq : ([xR sd (g.fromI m).dist, slR encI 1 T_int sa (g.fromI m).arc, slR encN 1 T_int so (g.fromI m).order] ++ L.set p (xR vc (clp c (g.fromI m).dist i)))[p + 3]? = some (xR vc (clp c (g.fromI m).dist i)) := by
   rw [List.getElem?_append_right (by simp)]
   exact set_get hp
  have hi2 : i < (clp c (g.fromI m).dist i).length := by rw [clp_len]; exact hic
  refine (o1.vw 0 rfl).atI hlt ?_
  rw [dAt_get hlt]
  refine (o1.vw (p + 3) hq).atI hi2 ?_
  rw [clp_at hic, pMin_int, minE]
  refine o1.setI (p + 3) hq hi2 fun h2 o2 => ?_
  rw [clp_step hic] at o2
  rw [pBin_add, wI i (by omega)]
  refine hZ (I (i + 1 : Nat), ()) h2 hlt ⟨rfl, ?_⟩
  rw [List.set_append_right _ _ (by simp)] at o2
  simp only [List.length_cons, List.length_nil, Nat.add_sub_cancel, List.set_set] at o2
  exact o2
 ·have : i = (g.fromI m).dist.length := by omega
  subst this
  exact hK h' o1.tail.tail.tail

theorem cover_ok (o : Own h0 h L) (hR : g.Right) (H : NetR h r g) (hm : Vw encI 1 h vm ms) (hml : ms.length < 2 ^ 40) (hK : ∀ w h', Own h0 h' (xR w (cov g ms) :: L) -> K w h') : callS Tryz.prog F_far_Cover [ptr r, vm] h K := by
 refine callS_of (lk_far_Cover _ _ ?_)
 unfold sh_far_Cover
 have hmost := hR.most
 refine (Own.start h).build (enc := encI) (n := 1) [far] rfl (sizesOk_of rfl) rfl fun w1 h1 o1 => ?_
 refine nodes_ok (H.more o1.ext) (repeat_int64 o1 (o1.vw 0 rfl) (by omega) fun w h2 o2 => ?_)
 refine hm.len ?_
 refine LoopH_count ms.length (fun i x h' => x.1 = I i /\ Own h h' [xR w (cov g (ms.take i))]) ⟨rfl, o2.sel [0] (by decide)⟩ ?_
 clear o2 o1
 rintro i ⟨x, ⟨⟩⟩ h' Z hi ⟨hx, o1⟩ hZ
 dsimp only at hx hZ ⊢
 subst hx
 unfold sh_far_Cover_L1
 simp only [pBin_lss, ifV_dec]
 refine ⟨fun hlt => ?_, fun hge => ?_⟩
 ·have hlt : i < ms.length := by omega
  have htk : ms.take (i + 1) = ms.take i ++ [ms[i]] := List.take_succ_eq_append_getElem hlt
  refine (hm.more o1.ext).atI hlt ?_
  generalize ms[i] = m at htk
  refine closer_ok o1 0 rfl cov_len hR (H.more o1.ext) fun h2 o2 => ?_
  rw [pBin_add, wI i (by omega)]
  refine hZ (I (i + 1 : Nat), ()) h2 hlt ⟨rfl, ?_⟩
  rw [htk, cov_snoc]
  exact o2
 ·have : i = ms.length := by omega
  subst this
  rw [List.take_length] at o1
  exact hK w h' (o.frame o1)

theorem best_ok {left : List Nat} {vl : Value} {c6 : Nat} {T1 : TypeId} (Hl : Vw encI 1 h vl (nI left)) (hc6 : h[c6]? = some (.cells #[vc] T1 (0, 0))) (Hc : Vw encI 1 h vc c) (hr : ∀ v ∈ left, v < c.length) (hll : left.length < 2 ^ 40)
  (hK : K (I (bst c left)) h) : callS Tryz.prog F_far_best_int [vl, .func (.func F_far_marks_1_1) #[] #[ptr c6]] h K := by
 refine callS_of (lk_far_best_int _ _ ?_)
 unfold sh_far_best_int
 refine Hl.len ?_
 rw [nI_len]
 refine LoopH_count left.length (fun i x h' => x.2.1 = I i /\ x.1 = I (bst c (left.take i)) /\ h' = h) ⟨rfl, rfl, rfl⟩ ?_
 rintro i ⟨x, y, ⟨⟩⟩ h' Z hi ⟨hy, hx, rfl⟩ hZ
 dsimp only at hx hy hZ ⊢
 subst hx hy
 unfold sh_far_best_int_L1
 simp only [pBin_lss, ifV_dec]
 refine ⟨fun hlt => ?_, fun hge => ?_⟩
 ·have hlt : i < left.length := by omega
  have hq : (nI left)[i]? = some ((left[i] : Nat) : Int) := by simp [nI, hlt]
  have htk : left.take (i + 1) = left.take i ++ [left[i]] := List.take_succ_eq_append_getElem hlt
  have hvr := hr _ (List.getElem_mem hlt)
  have hbm : i ≠ 0 -> bst c (left.take i) < c.length := fun h0 => hr _ (List.mem_of_mem_take (bst_mem (c := c) (takeNe h0 hlt)))
  refine Hl.atQ hq ?_
  generalize left[i] = v at hvr htk
  have k3 : ∀ b : Nat, b = bst c (left.take (i + 1)) -> sh_far_best_int_k3 Tryz.prog (I i) (fun a0 a1 hz => Z (a0, (a1, ())) hz) (I b) h' := by
   intro b e
   unfold sh_far_best_int_k3
   rw [pBin_add, wI i (by omega)]
   exact hZ (_, I (i + 1 : Nat), ()) h' hlt ⟨rfl, by rw [e], rfl⟩
  unfold sh_far_best_int_k2
  rw [pBin_eql]
  by_cases h0 : i = 0
  ·subst h0
   show ifV (.bool true) _ _
   rw [ifV_true]
   exact k3 v (by rw [htk]; rfl)
  ·rw [show ((i : Int) == 0) = false by simpa using h0, ifV_false]
   have hb := hbm h0
   have ne : left.take i ≠ [] := takeNe h0 hlt
   have bs := bst_snoc (c := c) (y := v) ne
   rw [<- htk] at bs
   generalize bst c (left.take i) = b at hb bs
   refine callV_of (l := [I v, I b, ptr c6]) rfl (lk_far_marks_1_1 _ _ _ ?_)
   unfold sh_far_marks_1_1
   have cc : hcell h' ⟨c6, 0, none⟩ = some vc := hcell_of hc6 rfl
   refine pLoad_of rfl cc (Hc.atI hvr (pLoad_of rfl cc (Hc.atI hb ?_)))
   have g1 : c[v] = c.getD v 0 := by simp [List.getD_eq_getElem?_getD, hvr]
   have g2 : c[b] = c.getD b 0 := by simp [List.getD_eq_getElem?_getD, hb]
   rw [g1, g2, pBin_gtr]
   show ifV (.bool (decide (c.getD b 0 < c.getD v 0))) _ _
   rw [ifV_dec]
   exact ⟨fun h => k3 v (by rw [bs, if_pos h]), fun h => k3 b (by rw [bs, if_neg h])⟩
 ·have : i = left.length := by omega
  subst this
  rw [List.take_length]
  exact hK

end
open Go Go.Mh

section
variable {h0 h : Heap} {L : List Res} {K : Value -> Heap -> Prop} {g : G} {r : Nat} {vl : Value} {left : List Nat} {m m8 : Nat} {T1 : TypeId}

theorem isM_ok {v : Nat} (hm : h[m8]? = some (.cells #[I m] T1 (0, 0))) (hK : K (.bool (decide (v = m))) h) : callV Tryz.prog (.func (.func F_far_marks_1_2) #[] #[ptr m8]) [I v].toArray h K := by
 refine callV_of (l := [I v, ptr m8]) rfl (lk_far_marks_1_2 _ _ ?_)
 unfold sh_far_marks_1_2
 have cm : hcell h ⟨m8, 0, none⟩ = some (I m) := hcell_of hm rfl
 refine pLoad_of rfl cm ?_
 rw [pBin_eql]
 have : ((v : Int) == (m : Int)) = decide (v = m) := Bool.eq_iff_iff.2 (by simp; omega)
 rw [this]; exact hK

theorem idx_ok (Hl : Vw encI 1 h vl (nI left)) (hm : h[m8]? = some (.cells #[I m] T1 (0, 0))) (hll : left.length < 2 ^ 40) (hin : m ∈ left)
  (hK : ∀ i (hi : i < left.length), left[i] = m -> m ∉ left.take i -> K (I i) h) : callS Tryz.prog F_slices_IndexFunc_sl_int_int [vl, .func (.func F_far_marks_1_2) #[] #[ptr m8]] h K := by
 refine callS_of (lk_slices_IndexFunc_sl_int_int _ _ ?_)
 unfold sh_slices_IndexFunc_sl_int_int
 refine Hl.len ?_
 rw [nI_len]
 refine LoopH_count left.length (fun i x h' => x.1 = I i /\ m ∉ left.take i /\ h' = h) ⟨rfl, by simp, rfl⟩ ?_
 rintro i ⟨x, ⟨⟩⟩ h' Z hi ⟨hx, hn, rfl⟩ hZ
 dsimp only at hx hZ ⊢
 subst hx
 unfold sh_slices_IndexFunc_sl_int_int_L1
 simp only [pBin_lss, ifV_dec]
 refine ⟨fun hlt => ?_, fun hge => ?_⟩
 ·have hlt : i < left.length := by omega
  have hq : (nI left)[i]? = some ((left[i] : Nat) : Int) := by simp [nI, hlt]
  refine Hl.atQ hq (isM_ok hm ?_)
  show ifV (.bool (decide (left[i] = m))) _ _
  rw [ifV_dec]
  refine ⟨fun e => hK i hlt e hn, fun e => ?_⟩
  rw [pBin_add, wI i (by omega)]
  refine hZ (I (i + 1 : Nat), ()) _ hlt ⟨rfl, ?_, rfl⟩
  rw [List.take_succ_eq_append_getElem hlt, List.mem_append, not_or]
  exact ⟨hn, by simpa using fun h => e h.symm⟩
 ·have : i = left.length := by omega
  subst this
  rw [List.take_length] at hn
  exact absurd hin hn

theorem filter_no {l : List Nat} (h : m ∉ l) : l.filter (· != m) = l := by
 rw [List.filter_eq_self]
 intro a ha
 simp only [bne_iff_ne]
 intro e; subst e; exact h ha

theorem delete_ok {p q : Nat} (o : Own h0 h L) (hp : L[p]? = some (slR encI 1 T_int vl (nI left))) (hq : L[q]? = some (cellR m8 [I m] T1)) (hpq : p ≠ q) (hll : left.length < 2 ^ 40) (hin : m ∈ left)
  (hK : ∀ v' h', Own h0 h' (L.set p (slR encI 1 T_int v' (nI (left.filter (· != m))))) -> K v' h') : callS Tryz.prog F_slices_DeleteFunc_sl_int_int [vl, .func (.func F_far_marks_1_2) #[] #[ptr m8]] h K := by
 refine callS_of (lk_slices_DeleteFunc_sl_int_int _ _ ?_)
 unfold sh_slices_DeleteFunc_sl_int_int
 refine idx_ok (o.vw p hp) (o.get q hq) hll hin fun i0 hi0 e0 n0 => ?_
 rw [pBin_eql, show ((i0 : Int) == -1) = false by simp, ifV_false, pBin_add, wI i0 (by omega)]
 have hset : ∀ {ys : List Int}, (L.set p (slR encI 1 T_int vl ys))[p]? = some (slR encI 1 T_int vl ys) := set_get hp
 have hqs : ∀ {r : Res}, (L.set p r)[q]? = some (cellR m8 [I m] T1) := fun {r} => by rw [List.getElem?_set_ne hpq]; exact hq
 have f0 : (left.take (i0 + 1)).filter (· != m) = left.take i0 := by
  rw [List.take_succ_eq_append_getElem hi0, List.filter_append, filter_no n0, e0]
  simp
 refine LoopH_count (left.length - (i0 + 1)) (fun k x h' => ∃ (ys : List Int) (a : Nat), x.1 = I a /\ x.2.1 = I ((i0 + 1 + k : Nat) : Int) /\ a < i0 + 1 + k /\ ys.length = left.length /\ ys.take a = nI ((left.take (i0 + 1 + k)).filter (· != m)) /\ ys.drop (i0 + 1 + k) = (nI left).drop (i0 + 1 + k) /\ Own h0 h' (L.set p (slR encI 1 T_int vl ys)))
  ⟨nI left, i0, rfl, rfl, by omega, nI_len, by rw [Nat.add_zero, f0]; simp [nI, List.map_take], rfl, by rw [set_same hp]; exact o⟩ ?_
 clear o
 rintro k ⟨x, y, ⟨⟩⟩ h' Z hk ⟨ys, a, hx, hy, haj, hyl, hta, hdr, o⟩ hZ
 dsimp only at hx hy hZ ⊢
 subst hx hy
 generalize hj : i0 + 1 + k = j at haj hta hdr hZ
 unfold sh_slices_DeleteFunc_sl_int_int_L1
 refine (o.vw p hset).len ?_
 rw [hyl]
 simp only [pBin_lss, ifV_dec]
 refine ⟨fun hlt => ?_, fun hge => ?_⟩
 ·have hlt : j < left.length := by omega
  have hyq : ys[j]? = some ((left[j] : Nat) : Int) := by
   have := congrArg (fun l : List Int => l[0]?) hdr
   simp only [List.getElem?_drop, Nat.add_zero] at this
   rw [this]; simp [nI, hlt]
  have htk : left.take (j + 1) = left.take j ++ [left[j]] := List.take_succ_eq_append_getElem hlt
  refine (o.vw p hset).atQ hyq (isM_ok (o.get q hqs) ?_)
  generalize left[j] = v at hyq htk
  have next : ∀ (zs : List Int) (b : Nat) h2, b < j + 1 -> zs.length = left.length -> zs.take b = nI ((left.take (j + 1)).filter (· != m)) -> zs.drop (j + 1) = (nI left).drop (j + 1) -> Own h0 h2 (L.set p (slR encI 1 T_int vl zs)) -> sh_slices_DeleteFunc_sl_int_int_k2 Tryz.prog (I j) (fun a0 a1 hz => Z (a0, (a1, ())) hz) (I b) h2 := by
   intro zs b h2 hb hzl hzt hzd oz
   unfold sh_slices_DeleteFunc_sl_int_int_k2
   rw [pBin_add, wI j (by omega)]
   have ej : i0 + 1 + (k + 1) = j + 1 := by omega
   exact hZ (I b, I (j + 1 : Nat), ()) h2 (by omega) ⟨zs, b, rfl, by rw [ej], by omega, hzl, by rw [ej]; exact hzt, by rw [ej]; exact hzd, oz⟩
  have dropS : ys.drop (j + 1) = (nI left).drop (j + 1) := by
   have := congrArg (List.drop 1) hdr
   simpa [List.drop_drop, Nat.add_comm] using this
  rw [pUn_not]
  by_cases hv : v = m
  ·rw [decide_eq_true hv, Bool.not_true, ifV_false]
   refine next ys a h' (by omega) hyl ?_ dropS o
   rw [htk, List.filter_append, hv, hta]; simp
  ·rw [decide_eq_false hv, Bool.not_false, ifV_true]
   refine o.setI p hset (by omega) fun h2 o2 => ?_
   rw [List.set_set] at o2
   rw [pBin_add, wI a (by omega)]
   refine next (ys.set a v) (a + 1) h2 (by omega) (by rw [List.length_set]; exact hyl) ?_ ?_ o2
   ·rw [htk, List.filter_append]
    have : [v].filter (· != m) = [v] := by simp [hv]
    rw [this]
    have e1 : (ys.set a (v : Int)).take (a + 1) = ys.take a ++ [(v : Int)] := by
     rw [List.take_succ_eq_append_getElem (by rw [List.length_set]; omega), List.getElem_set_self, List.take_set_of_le (Nat.le_refl _)]
    rw [e1, hta]; simp [nI]
   ·rw [List.drop_set_of_lt (by omega)]; exact dropS
 ·have hjl : j = left.length := by omega
  subst hjl
  have hal : a <= ys.length := by omega
  refine o.clearTail p hset hal fun h2 o2 => ?_
  rw [List.set_set] at o2
  refine o2.pre encI_len p (set_get hp) (by simp; omega) fun v' o3 => ?_
  rw [List.set_set] at o3
  rw [List.take_length] at hta
  have e : (ys.take a ++ List.replicate (ys.length - a) (0 : Int)).take a = nI (left.filter (· != m)) := by
   rw [List.take_append_of_le_length (by simp; omega), List.take_take, Nat.min_self]
   exact hta
  rw [e] at o3
  exact hK v' h2 o3

end
open Go Go.Mh

section
variable {h0 h : Heap} {L : List Res} {K : Value -> Heap -> Prop} {g : G} {r : Nat}

def upto (n i : Nat) : List Int := nI (List.range i) ++ List.replicate (n - i) 0
theorem upto_step {n i : Nat} (h : i < n) : (upto n i).set i (i : Int) = upto n (i + 1) := by
 unfold upto
 have hl : (nI (List.range i)).length = i := by rw [nI_len, List.length_range]
 rw [List.set_append_right _ _ (by omega), hl, Nat.sub_self, show n - i = (n - (i + 1)) + 1 by omega, List.replicate_succ, List.set_cons_zero, List.range_succ]
 simp [nI]

theorem fmarks_iter {n2 f3 : Nat} {first : Int} {T1 T2 : TypeId} (hR : g.Right) :
  IterG Tryz.prog (.func (.func F_far_marks_1) #[] #[ptr n2, ptr f3]) (fun h => h[n2]? = some (.cells #[ptr r] T1 (0, 0)) /\ h[f3]? = some (.cells #[I first] T2 (0, 0)) /\ NetR h r g) (σ := Nat × List Nat × List Int)
   (0, List.range g.n, cov g [first]) (mNext g) (fun p => p.2.1 = []) := by
 rintro yv h0 h Rs K J E ⟨l, rfl⟩ o j0 hQ hY hK
 refine callF_of (l := [yieldV l, ptr n2, ptr f3]) rfl (lk_far_marks_1 _ _ _ ?_)
 unfold sh_far_marks_1
 have hmost := hR.most
 obtain ⟨hn, hf, hN⟩ := hQ _ _ _ j0 o
 have cn : hcell h ⟨n2, 0, none⟩ = some (ptr r) := hcell_of hn rfl
 have cf : hcell h ⟨f3, 0, none⟩ = some (I first) := hcell_of hf rfl
 refine pLoad_of rfl cn (nodes_ok hN ?_)
 refine (Own.start h).make (enc := encI) (n := 1) (a := 0) rfl (by omega) (by omega) fun vl h1 o1 => ?_
 refine (o1.vw 0 rfl).len ?_
 rw [List.length_replicate]
 refine LoopH_count g.n (fun i x h' => x.1 = I i /\ Own h h' [slR encI 1 T_int vl (upto g.n i)]) ⟨rfl, by simpa [upto, nI] using o1⟩ ?_
 clear o1
 rintro i ⟨x, ⟨⟩⟩ h1 Z hi ⟨hx, o1⟩ hZ
 dsimp only at hx hZ ⊢
 subst hx
 unfold sh_far_marks_1_L1
 have hul : (upto g.n i).length = g.n := by unfold upto; rw [List.length_append, nI_len, List.length_range, List.length_replicate]; omega
 simp only [pBin_lss, ifV_dec]
 refine ⟨fun hlt => ?_, fun hge => ?_⟩
 ·have hlt : i < g.n := by omega
  refine o1.setI 0 rfl (by omega) fun h2 o2 => ?_
  rw [upto_step hlt] at o2
  rw [pBin_add, wI i (by omega)]
  exact hZ (I (i + 1 : Nat), ()) h2 hlt ⟨rfl, o2⟩
 ·have : i = g.n := by omega
  subst this
  have eu : upto g.n g.n = nI (List.range g.n) := by unfold upto; rw [Nat.sub_self, List.replicate_zero, List.append_nil]
  rw [eu] at o1
  refine pLoad_of rfl (hcell_more o1.ext cn) (pLoad_of rfl (hcell_more o1.ext cf) ?_)
  refine o1.build (enc := encI) (n := 1) [first] rfl (sizesOk_of rfl) rfl fun wf h2 o2 => ?_
  refine cover_ok o2 hR (hN.more o2.ext) (o2.vw 0 rfl) (by simp) fun vc h3 o3 => ?_
  have hvc := o3.vw 0 rfl
  refine o3.box fun c6 h4 o4 => o4.st1 0 (cs' := [vc]) rfl rfl rfl hvc.one hvc.plain fun h5 o5 => ?_
  have o6 : Own h0 h5 ([slR encI 1 T_int vl (nI (List.range g.n)), cellR c6 [vc] T_sl_int64, xR vc (cov g [first])] ++ Rs) := o.frame (o5.sel [3, 0, 1] (by decide))
  clear o5 o4 o3 o2 o1 hZ eu hul
  refine LoopH_down (fun k x h' => ∃ (left : List Nat) (i : Nat) (c : List Int) (vc : Value) (Rs' : List Res), k = left.length /\ x.2.1 = I i /\ i + left.length <= g.n /\ c.length = g.n /\ (∀ v ∈ left, v < g.n) /\ left.Nodup /\ J (i, left, c) Rs' /\
   Own h0 h' ([slR encI 1 T_int x.1 (nI left), cellR c6 [vc] T_sl_int64, xR vc c] ++ Rs')) (k0 := g.n) ⟨List.range g.n, 0, cov g [first], vc, Rs, by simp, rfl, by simp, cov_len, by simp, List.nodup_range, j0, o6⟩ ?_
  clear o6 hvc hn hf hN cn cf o j0
  rintro k ⟨vl, y, ⟨⟩⟩ h6 Z2 ⟨left, i, c, vc, Rs', rfl, hy, hil, hcl, hlr, hnd, hj, o⟩ hZ2
  dsimp only at hy o hZ2 ⊢
  subst hy
  unfold sh_far_marks_1_L2
  refine (o.vw 0 rfl).len ?_
  rw [nI_len]
  simp only [pBin_gtr, ifV_dec]
  refine ⟨fun hpos => ?_, fun hz => ?_⟩
  ·have hne : left ≠ [] := fun e => by subst e; simp at hpos
   obtain ⟨hn, hf, hN⟩ := hQ _ _ _ hj o.tail.tail.tail
   have hm := bst_mem (c := c) hne
   have hmn := hlr _ hm
   refine best_ok (o.vw 0 rfl) (o.get 1 rfl) (o.vw 2 rfl) (fun v hv => by rw [hcl]; exact hlr v hv) (by omega) ?_
   have nx : mNext g (i, left, c) [I (bst c left)] (i + 1, left.filter (· != bst c left), cl (if i = 0 then List.replicate g.n far else c) (g.fromI (bst c left)).dist) := ⟨hne, rfl, rfl⟩
   have hfl : (left.filter (· != bst c left)).length < left.length := by
    have := List.length_filter_lt_length_iff_exists (l := left) (p := (· != bst c left))
    exact this.2 ⟨_, hm, by simp⟩
   generalize bst c left = m at hm hmn nx hfl
   refine o.box fun m8 h7 o7 => o7.st1 0 (cs' := [I m]) rfl rfl rfl rfl rfl fun h8 o8 => o8.load 0 rfl rfl ?_
   have o9 : Own h0 h8 (Rs' ++ [cellR m8 [I m] T_int, slR encI 1 T_int vl (nI left), cellR c6 [vc] T_sl_int64, xR vc c]) := Own.comm (L := [cellR m8 [I m] T_int, slR encI 1 T_int vl (nI left), cellR c6 [vc] T_sl_int64, xR vc c]) o8
   refine hY _ _ _ Rs' _ h8 _ nx hj o9 (fun Rs'' h9 hj' o' => ?_) fun Rs'' h9 he o' => ?_
   ·rw [pUn_not, Bool.not_true, ifV_false]
    have o10 : Own h0 h9 ([cellR m8 [I m] T_int, slR encI 1 T_int vl (nI left), cellR c6 [vc] T_sl_int64, xR vc c] ++ Rs'') := Own.comm o'
    refine delete_ok o10 (p := 1) (q := 0) rfl rfl (by decide) (by omega) hm fun vl' h10 o11 => ?_
    obtain ⟨hn', hf', hN'⟩ := hQ _ _ _ hj' o11.tail.tail.tail.tail
    have cn' : hcell h10 ⟨n2, 0, none⟩ = some (ptr r) := hcell_of hn' rfl
    have k3 : ∀ (vc' : Value) (c' : List Int) h11, c'.length = g.n -> c' = (if i = 0 then List.replicate g.n far else c) -> Own h0 h11 ([cellR m8 [I m] T_int, slR encI 1 T_int vl' (nI (left.filter (· != m))), cellR c6 [vc'] T_sl_int64, xR vc' c'] ++ Rs'') ->
      sh_far_marks_1_k3 Tryz.prog (ptr n2) (ptr c6) (ptr m8) (I i) (fun a0 a1 hz => Z2 (a0, (a1, ())) hz) vl' h11 := by
     intro vc' c' h11 hcl' hc' o12
     unfold sh_far_marks_1_k3
     obtain ⟨hn', hf', hN'⟩ := hQ _ _ _ hj' o12.tail.tail.tail.tail
     have cn' : hcell h11 ⟨n2, 0, none⟩ = some (ptr r) := hcell_of hn' rfl
     refine pLoad_of rfl cn' (o12.load 2 rfl rfl (o12.load 0 rfl rfl ?_))
     refine closer_ok o12 3 rfl hcl' hR hN' fun h12 o13 => ?_
     rw [pBin_add, wI i (by omega)]
     refine hZ2 (vl', I (i + 1 : Nat), ()) h12 (left.filter (· != m)).length hfl ⟨left.filter (· != m), i + 1, cl c' (g.fromI m).dist, vc', Rs'', rfl, rfl, by omega, by rw [cl_len]; exact hcl', fun v hv => hlr v (List.mem_filter.1 hv).1, hnd.filter _, by rw [hc']; exact hj', o13.tail⟩
    rw [pBin_eql]
    by_cases h0 : i = 0
    ·subst h0
     show ifV (.bool true) _ _
     rw [ifV_true]
     refine pLoad_of rfl cn' (cover_ok o11 hR hN' .nil (by decide) fun vc' h11 o12 => ?_)
     have hvc' := o12.vw 0 rfl
     refine o12.st1 3 (cs' := [vc']) rfl rfl rfl hvc'.one hvc'.plain fun h12 o13 => ?_
     refine k3 vc' (cov g []) h12 cov_len rfl ?_
     exact o13.front 5 [1, 2, 3, 0] (by decide) (by decide)
    ·rw [show ((i : Int) == 0) = false by simpa using h0, ifV_false]
     exact k3 vc c h10 hcl (by rw [if_neg h0]) o11
   ·rw [pUn_not, Bool.not_false, ifV_true]
    exact hK _ _ (.inr he) o'.left
  ·have hle : left = [] := List.eq_nil_of_length_eq_zero (by omega)
   exact hK _ _ (.inl ⟨_, hle, hj⟩) o.tail.tail.tail

end
open Go Go.Mh

section
variable {h0 h : Heap} {L : List Res} {K : Value -> Heap -> Prop} {g : G} {r : Nat}

abbrev encU (x : Int) : List Value := encK .u32 x
theorem encU_plain (x : Int) : ∀ u ∈ encU x, Mh.plainCell u = true := by intro u hu; simp [encK] at hu; subst hu; rfl

def drawP : List Int -> Nat -> Int × List Int
 | [], _ => (0, [])
 | x :: r, n => (x.tmod n, r)

theorem dnew_ok {vl : Value} {xs : List Int} (o : Own h0 h L) (Hl : Vw encU 1 h vl xs) (hb : (xs.length : Int) * 4 <= 2 ^ 48) (hK : ∀ pd w h', Own h0 h' (cellR pd [w] T_draw_Draws :: quR encU 1 T_uint32 w xs :: L) -> K (ptr pd) h') : callS Tryz.prog F_draw_New [vl] h K := by
 refine callS_of (lk_draw_New _ ?_)
 unfold sh_draw_New
 refine Hl.len ?_
 refine (Own.start h).make (enc := encU) (n := 1) (a := 0) (m := xs.length) rfl (by omega) (by omega) fun w h1 o1 => ?_
 refine o1.copyAll (ys := xs) 0 rfl (fun _ => rfl) encU_plain (Hl.more o1.ext) (by simp) fun h2 o2 => ?_
 have hw := o2.vw 0 rfl
 refine pBuild_ones (cs' := [w]) (fun p hp => by simp at hp; subst hp; exact hw.one) rfl rfl ?_
 refine o2.box fun pd h3 o3 => ?_
 have o4 := o3.que 1 rfl
 exact hK pd w h3 (o.frame o4)

theorem dleft_ok {pd : Nat} {vl : Value} {xs : List Int} (o : Own h0 h L) (p q : Nat) (hp : L[p]? = some (cellR pd [vl] T_draw_Draws)) (hq : L[q]? = some (quR encU 1 T_uint32 vl xs)) (hK : K (I xs.length) h) : callS Tryz.prog F_draw_Draws_Left [ptr pd] h K := by
 refine callS_of (lk_draw_Draws_Left _ ?_)
 unfold sh_draw_Draws_Left
 simp only [pEq_ptr_nil, Option.isNone_some, ifV_false]
 simp only [pNil_ptr, pField_ptr]
 exact o.load p hp rfl ((o.qvw q hq).len hK)

theorem dnext_ok {pd n : Nat} {vl : Value} {xs : List Int} (o : Own h0 h L) (p q : Nat) (hp : L[p]? = some (cellR pd [vl] T_draw_Draws)) (hq : L[q]? = some (quR encU 1 T_uint32 vl xs)) (hpq : p ≠ q) (hn : 1 <= n) (hn2 : n < 2 ^ 40) (hxl : xs.length < 2 ^ 62) (hr : ∀ x ∈ xs, 0 <= x /\ x <= 4294967295)
  (hK : ∀ vl' h', Own h0 h' ((L.set p (cellR pd [vl'] T_draw_Draws)).set q (quR encU 1 T_uint32 vl' (drawP xs n).2)) -> K (I (drawP xs n).1) h') : callS Tryz.prog F_draw_Draws_Next [ptr pd, I n] h K := by
 refine callS_of (lk_draw_Draws_Next _ _ ?_)
 unfold sh_draw_Draws_Next
 rw [pBin_lss, decide_eq_false (by omega), ifV_false]
 refine dleft_ok o p q hp hq ?_
 rw [pBin_eql]
 cases xs with
 | nil =>
  show ifV (.bool true) _ _
  rw [ifV_true]
  unfold sh_draw_Draws_Next_k1
  refine hK vl h ?_
  rw [set_same hp]
  have : L.set q (quR encU 1 T_uint32 vl (drawP [] n).2) = L := set_same hq
  rw [this]; exact o
 | cons x r =>
  rw [show (((x :: r).length : Int) == 0) = false by simp; omega, ifV_false]
  simp only [pNil_ptr, pField_ptr]
  refine o.load p hp rfl ?_
  refine callS_of (lk_draw_first_uint32 _ ?_)
  unfold sh_draw_first_uint32
  have hx := hr x (List.mem_cons_self ..)
  refine (o.qvw q hq).at1 (e := fun x : Int => .int .u32 x) (fun _ => rfl) (i := 0) (by simp) ?_
  refine (o.qvw q hq).len ((o.qvw q hq).len ?_)
  refine o.qtail3 (fun _ => rfl) q hq (by simp) fun v' o1 => ?_
  simp only [pExt0, pExt1]
  try simp only [pNil_ptr, pField_ptr]
  have hp1 : (L.set q (quR encU 1 T_uint32 v' r))[p]? = some (cellR pd [vl] T_draw_Draws) := by rw [List.getElem?_set_ne (Ne.symm hpq)]; exact hp
  have hv' := o1.qvw q (set_get hq)
  refine o1.st1 p hp1 (cs' := [v']) rfl rfl hv'.one hv'.plain fun h2 o2 => ?_
  simp only [pConv_int]
  rw [show ((x :: r)[0]'(by simp)) = x from rfl, w64 (by omega) (by omega), pBin_rem]
  refine ⟨by omega, hK v' h2 ?_⟩
  rw [List.set_comm _ _ (Ne.symm hpq)] at o2
  exact o2

theorem fmarks_ok {k : Nat} {PL : List Res -> Prop} {first : Int} {d : Value} (hR : g.Right) (H0 : ∀ {h' L'}, PL L' -> Own h0 h' L' -> NetR h' r g) (hk : 1 <= k) (hkl : k < 2 ^ 40)
  (hd : ∀ {K' : Value -> Heap -> Prop} {h1 : Heap} {A : List Res}, Own h h1 A -> (∀ h2 L', PL L' -> Own h0 h2 (A ++ L') -> K' (I first) h2) -> callS Tryz.prog F_draw_Draws_Next [d, I g.n] h1 K') (H1 : NetR h r g)
  (hK : ∀ w h' L', PL L' -> Own h0 h' (slR encI 1 T_int w (nI (mgo g k 0 (List.range g.n) (cov g [first]))) :: L') -> K w h') : callS Tryz.prog F_far_Marks [ptr r, I k, d] h K := by
 refine callS_of (lk_far_Marks _ _ _ ?_)
 unfold sh_far_Marks
 have hmost := hR.most
 refine (Own.start h).box fun k4 h1 o1 => o1.box fun l6 h2 o2 => ?_
 simp only [pEq_ptr_nil, Option.isNone_some, ifV_false]
 refine o2.load 1 rfl rfl ?_
 rw [pBin_lss, decide_eq_false (by omega), ifV_false]
 refine nodes_ok (H1.more o2.ext) (hd o2 fun h3 L' hPL o3 => ?_)
 have H : ∀ {h'}, Own h0 h' L' -> NetR h' r g := fun o => H0 hPL o
 refine callS_of (lk_far_marks _ _ ?_)
 unfold sh_far_marks
 refine o3.box fun n2 h4 o4 => o4.box fun f3 h5 o5 => ?_
 have o5 : Own h0 h5 ([cellR f3 [I first] T_int, cellR n2 [ptr r] T_p_net_Net, cellR l6 [.slice none 0 0] T_sl_int, cellR k4 [I k] T_int] ++ L') := o5
 have o6 : Own h0 h5 ([cellR f3 [I first] T_int, cellR n2 [ptr r] T_p_net_Net, slR encI 1 T_int (.slice none 0 0) (nI []), cellR l6 [.slice none 0 0] T_sl_int, cellR k4 [I k] T_int] ++ L') := (o5.nilS (enc := encI) (n := 1) (T := T_int)).front 5 [1, 2, 0, 3, 4] (by decide) (by decide)
 generalize hall : mgo g k 0 (List.range g.n) (cov g [first]) = all at hK
 refine o6.range (fmarks_iter (r := r) (T1 := T_p_net_Net) (T2 := T_int) hR) (by rintro p x p' ⟨_, rfl, _⟩; rfl)
  (fun p Rs => ∃ acc vl, acc.length = p.1 /\ p.1 < k /\ all = acc ++ mgo g (k - p.1) p.1 p.2.1 p.2.2 /\ Rs = [cellR f3 [I first] T_int, cellR n2 [ptr r] T_p_net_Net, slR encI 1 T_int vl (nI acc), cellR l6 [vl] T_sl_int, cellR k4 [I k] T_int] ++ L')
  (fun _ => False)
  (fun id Rs => id = 0 /\ ∃ vl, Rs = [cellR f3 [I first] T_int, cellR n2 [ptr r] T_p_net_Net, slR encI 1 T_int vl (nI all), cellR l6 [vl] T_sl_int, cellR k4 [I k] T_int] ++ L')
  ⟨[], .slice none 0 0, rfl, by omega, hall.symm, rfl⟩ ?_ ?_ ?_ (fun _ _ h => h.elim) ?_
 ·rintro p Rs' h' ⟨acc, vl, _, _, _, rfl⟩ o'
  exact ⟨o'.get 1 rfl, o'.get 0 rfl, H o'.tail.tail.tail.tail.tail⟩
 ·rintro M ⟨i, left, c⟩ x p' Rs' Pr h' R ⟨hne, rfl, rfl⟩ ⟨acc, vl, hacc, hik, hch, rfl⟩ o' hN _ hX
  dsimp only [valsOf] at hne hacc hik hch ⊢
  rw [show k - i = (k - (i + 1)) + 1 by omega, mgo_next hne] at hch
  generalize bst c left = m at hch hN
  unfold sh_far_Marks_B2
  refine o'.begin 0 rfl fun h9 o9 => ?_
  have o9 : Own h0 h9 (loopR _ _ :: markR _ :: cellR f3 [I first] T_int :: cellR n2 [ptr r] T_p_net_Net :: slR encI 1 T_int vl (nI acc) :: cellR l6 [vl] T_sl_int :: cellR k4 [I k] T_int :: (L' ++ Pr)) := o9
  refine o9.load 5 rfl rfl ?_
  refine o9.app1 4 (m : Int) rfl rfl (sizesOk_of rfl) encI_len encI_plain rfl (by decide) (by rw [nI_len]; omega) fun vl' h10 o10 => ?_
  have e1 : nI acc ++ [(m : Int)] = nI (acc ++ [m]) := by simp [nI]
  rw [e1] at o10
  have hv' := o10.vw 4 rfl
  refine o10.st1 5 (cs' := [vl']) rfl rfl rfl hv'.one hv'.plain fun h11 o11 => o11.load 5 rfl rfl ?_
  refine (o11.vw 4 rfl).len (o11.load 6 rfl rfl ?_)
  rw [nI_len, List.length_append, List.length_singleton, pBin_eql]
  by_cases hik2 : i + 1 = k
  ·rw [show (((acc.length + 1 : Nat) : Int) == (k : Int)) = true by simp; omega, ifV_true]
   refine hX 0 ([cellR f3 [I first] T_int, cellR n2 [ptr r] T_p_net_Net, slR encI 1 T_int vl' (nI all), cellR l6 [vl'] T_sl_int, cellR k4 [I k] T_int] ++ L') h11 ⟨rfl, vl', rfl⟩ ?_
   have : all = acc ++ [m] := by rw [hch, show k - (i + 1) = 0 by omega]; rfl
   rw [this]
   exact o11
  ·rw [show (((acc.length + 1 : Nat) : Int) == (k : Int)) = false by simp; omega, ifV_false]
   refine hN ([cellR f3 [I first] T_int, cellR n2 [ptr r] T_p_net_Net, slR encI 1 T_int vl' (nI (acc ++ [m])), cellR l6 [vl'] T_sl_int, cellR k4 [I k] T_int] ++ L') h11 ⟨acc ++ [m], vl', by simp [hacc], by omega, by rw [hch]; simp, rfl⟩ ?_
   exact o11
 ·rintro ⟨i, left, c⟩ h' Rs' hst ⟨acc, vl, hacc, hik, hch, rfl⟩ o'
  dsimp only at hst hch
  subst hst
  have : all = acc := by
   rw [hch, show k - i = (k - (i + 1)) + 1 by dsimp only at hik; omega]; simp [mgo]
  subst this
  unfold sh_far_Marks_k3
  have o' : Own h0 h' (markR _ :: cellR f3 [I first] T_int :: cellR n2 [ptr r] T_p_net_Net :: slR encI 1 T_int vl (nI all) :: cellR l6 [vl] T_sl_int :: cellR k4 [I k] T_int :: L') := o'
  have hv := o'.vw 3 rfl
  refine o'.load 4 rfl rfl (o'.st1 4 (cs' := [vl]) rfl rfl rfl hv.one hv.plain fun h9 o9 => o9.take1 0 rfl fun h10 o10 => o10.load 4 rfl rfl (hK vl h10 L' hPL ?_))
  exact o10.front 6 [3] (by decide) (by decide)
 ·rintro id h' Rs' ⟨rfl, vl, rfl⟩ o'
  show sh_far_Marks_k3 Tryz.prog (ptr l6) h5 K h'
  unfold sh_far_Marks_k3
  have o' : Own h0 h' (markR _ :: cellR f3 [I first] T_int :: cellR n2 [ptr r] T_p_net_Net :: slR encI 1 T_int vl (nI all) :: cellR l6 [vl] T_sl_int :: cellR k4 [I k] T_int :: L') := o'
  have hv := o'.vw 3 rfl
  refine o'.load 4 rfl rfl (o'.st1 4 (cs' := [vl]) rfl rfl rfl hv.one hv.plain fun h9 o9 => o9.take1 0 rfl fun h10 o10 => o10.load 4 rfl rfl (hK vl h10 L' hPL ?_))
  exact o10.front 6 [3] (by decide) (by decide)

theorem fmarksD_ok {k pd : Nat} {vl : Value} {xs : List Int} {N : Res} (o : Own h0 h (cellR pd [vl] T_draw_Draws :: quR encU 1 T_uint32 vl xs :: L)) (p : Nat) (hp : L[p]? = some N) (hR : g.Right) (hN : netR N r g) (hk : 1 <= k) (hkl : k < 2 ^ 40) (hxl : xs.length < 2 ^ 62) (hr : ∀ x ∈ xs, 0 <= x /\ x <= 4294967295)
  (hK : ∀ w vl' h', Own h0 h' (slR encI 1 T_int w (nI (mgo g k 0 (List.range g.n) (cov g [(drawP xs g.n).1]))) :: cellR pd [vl'] T_draw_Draws :: quR encU 1 T_uint32 vl' (drawP xs g.n).2 :: L) -> K w h') : callS Tryz.prog F_far_Marks [ptr r, I k, ptr pd] h K := by
 have hpos := hR.pos
 have hmost := hR.most
 refine fmarks_ok (PL := fun L2 => ∃ vl', L2 = cellR pd [vl'] T_draw_Draws :: quR encU 1 T_uint32 vl' (drawP xs g.n).2 :: L) (first := (drawP xs g.n).1) hR ?_ hk hkl ?_ (hN _ (o.get (p + 2) hp)) fun w h' L' ⟨vl', e⟩ o' => hK w vl' h' (by subst e; exact o')
 ·rintro h' L' ⟨vl', rfl⟩ o'
  exact hN _ (o'.get (p + 2) hp)
 ·intro K' h1 A oA hk'
  have o1 := o.frame oA
  refine dnext_ok o1 A.length (A.length + 1) (by rw [List.getElem?_append_right (Nat.le_refl _), Nat.sub_self]; rfl) (by rw [List.getElem?_append_right (by omega), Nat.add_sub_cancel_left]; rfl) (by omega) hpos (by omega) hxl hr fun vl' h2 o2 => hk' h2 _ ⟨vl', rfl⟩ ?_
  rw [List.set_append_right _ _ (Nat.le_refl _), Nat.sub_self, List.set_cons_zero, List.set_append_right _ _ (by omega), Nat.add_sub_cancel_left] at o2
  exact o2

end
open Go Go.Mh

theorem plain_one {u : Value} (h : Mh.plainCell u = true) : u.cells = #[u] := by
 cases u <;> first | rfl | (exfalso; revert h; decide) | simp [Mh.plainCell] at h

section
variable {h0 h : Heap} {L : List Res} {K : Value -> Heap -> Prop} {g : G} {rn r : Nat} {vl : Value} {ms : List MV}

theorem has16_ok {b x : Nat} (o : Own h0 h L) (i : Nat) (hi : L[i]? = some (cellR b [I x] T_int)) (Hl : Vw encM 7 h vl ms) (hl : ms.length < 2 ^ 40) (hK : ∀ h', Own h0 h' L -> K (.bool (decide (x ∈ ms.map MV.node))) h') :
  callS Tryz.prog F_slices_ContainsFunc_sl_avoid_mark_avoid_mark [vl, .func (.func F_avoid_next_1) #[] #[ptr b]] h K := by
 refine callS_of (lk_slices_ContainsFunc_sl_avoid_mark_avoid_mark _ _ ?_)
 unfold sh_slices_ContainsFunc_sl_avoid_mark_avoid_mark
 refine callS_of (lk_slices_IndexFunc_sl_avoid_mark_avoid_mark _ _ ?_)
 unfold sh_slices_IndexFunc_sl_avoid_mark_avoid_mark
 refine Hl.len ?_
 refine LoopH_count ms.length (fun j y h' => y.1 = I j /\ Ext h h' /\ Own h0 h' L /\ x ∉ (ms.take j).map MV.node) ⟨rfl, (Own.start h).ext, o, by simp⟩ ?_
 rintro j ⟨y, ⟨⟩⟩ h1 Z hj ⟨hy, x1, o1, hno⟩ hZ
 dsimp only at hy hZ ⊢
 subst hy
 unfold sh_slices_IndexFunc_sl_avoid_mark_avoid_mark_L1
 rw [pBin_lss, ifV_dec]
 refine ⟨fun hlt => ?_, fun hge => ?_⟩
 ·have hlt : j < ms.length := by omega
  refine (Hl.more x1).atN encM_len hlt ?_
  refine next1_ok (fun u hu => plain_one (encM_plain _ u hu)) o1 i hi fun h2 x2 => ?_
  rw [ifV_dec]
  refine ⟨fun he => ?_, fun he => ?_⟩
  ·dsimp only
   rw [pBin_geq, decide_eq_true (by omega)]
   have : x ∈ ms.map MV.node := List.mem_map.2 ⟨_, List.getElem_mem hlt, he⟩
   rw [decide_eq_true this] at hK
   exact hK h2 (o1.more x2)
  ·rw [pBin_add, wI j (by omega)]
   refine hZ (_, ()) h2 hlt ⟨rfl, x1.trans x2 fun _ h _ => h, o1.more x2, ?_⟩
   rw [List.take_succ_eq_append_getElem hlt, List.map_append, List.mem_append]
   rintro (h | h)
   ·exact hno h
   ·simp at h; exact he h.symm
 ·have : j = ms.length := by omega
  subst this
  rw [List.take_length] at hno
  dsimp only
  rw [pBin_geq, decide_eq_false (by omega)]
  rw [decide_eq_false hno] at hK
  exact hK h1 o1

theorem freeM_in {M : List Nat} {k v : Nat} (h : v ∈ M) : freeM M (k + 1) v = freeM M k (v + 1) := by
 conv => lhs; unfold freeM
 rw [if_pos h]
theorem freeM_no {M : List Nat} {k v : Nat} (h : v ∉ M) : freeM M (k + 1) v = v := by
 unfold freeM
 rw [if_neg h]

theorem anext_ok (o : Own h0 h L) (hR : g.Right) (hN : NetR h rn g) (hn : g.n <= 16) (hr : r < g.n) (HM : ∀ m ∈ ms, MkV g h m) (Hl : Vw encM 7 h vl ms) (hl : ms.length < g.n) (hnd : (ms.map MV.node).Nodup)
  (hK : ∀ h', Own h0 h' L -> K (I (nextA g (ms.map MV.node) r)) h') : callS Tryz.prog F_avoid_next [ptr rn, vl, I r] h K := by
 refine callS_of (lk_avoid_next _ _ _ ?_)
 unfold sh_avoid_next
 have T := from_tree hR hr
 have hmn : ∀ x ∈ ms.map MV.node, x < g.n := fun x hx => by
  obtain ⟨y, hy, rfl⟩ := List.mem_map.1 hx
  exact (HM y hy).1
 have hol : (g.from r).order.length <= g.n := nodup_le T.nodup T.range
 refine grow_ok hR hN hn hr HM Hl (by omega) fun pt tr m pm b5 b4 b3 ord vs vm sd sa so f kv h1 hf o1 => ?_
 have x1 := o1.ext
 simp only [pNil_ptr, pField_ptr]
 refine o1.load 1 rfl rfl ?_
 refine valuesN_ok o1 (o1.vw 8 rfl) fun s1 h2 o2 => ?_
 have hszl : (growA g (ms.map MV.node) r).sz.length = g.n := (growA_gi hR hn hr hmn).sl
 refine best_ok16 (f := szA g (ms.map MV.node) r) (O := (g.from r).order) o2 rfl rfl (valsN_iter (b := s1) (T := T_sl_int) (by omega)) (fun h' o' => ⟨o'.get 0 rfl, o'.vw 9 rfl⟩)
  (fun h' v K' hv o' hk => size_ok (sz := (growA g (ms.map MV.node) r).sz) o' (i := 2) (j := 6) rfl rfl (by rw [hszl]; exact T.range v hv) hk) fun h3 o3 => ?_
 refine o3.tail.box fun v8 h4 o4 => ?_
 clear o1 o2 o3
 have hnx : nextA g (ms.map MV.node) r = match bestS (szA g (ms.map MV.node) r) (g.from r).order with
  | none => freeM (ms.map MV.node) (g.n + 1) 0
  | some v => down (szA g (ms.map MV.node) r) (growA g (ms.map MV.node) r).kd g.n v := rfl
 have hord : ∀ w, bestS (szA g (ms.map MV.node) r) (g.from r).order = some w -> w ∈ (g.from r).order := fun w hw => by
  rcases bestS_is (f := szA g (ms.map MV.node) r) (l := (g.from r).order) with ⟨e, _⟩ | ⟨w', e, h1, _⟩
  ·rw [e] at hw; cases hw
  ·rw [e] at hw; cases hw; exact h1
 generalize bestS (szA g (ms.map MV.node) r) (g.from r).order = bb at hnx hord
 refine o4.st1 0 (cs' := [bestV bb]) rfl rfl rfl (by cases bb <;> rfl) (by cases bb <;> rfl) fun h5 o5 => o5.load 0 rfl rfl ?_
 clear o4
 cases bb with
 | none =>
  show pBin .lss (I (-1)) _ _
  rw [pBin_lss, show decide ((-1 : Int) < 0) = true from rfl, ifV_true]
  refine o5.st1 0 (cs' := [I (0 : Nat)]) rfl rfl rfl rfl rfl fun h6 o6 => ?_
  clear o5
  have hml : (ms.map MV.node).length = ms.length := List.length_map _
  refine LoopH_count ms.length (fun i y h' => (∀ u, u < i -> u ∈ ms.map MV.node) /\ freeM (ms.map MV.node) (g.n + 1 - i) i = nextA g (ms.map MV.node) r /\ ∃ L', Own h h' (cellR v8 [I i] T_int :: L')) ⟨fun u hu => by omega, hnx.symm, _, o6⟩ ?_
  rintro i ⟨⟩ h7 Z hi ⟨hall, hfm, L', o7⟩ hZ
  unfold sh_avoid_next_L1
  refine has16_ok o7 0 rfl (Hl.more o7.ext) (by omega) fun h8 o8 => ?_
  rw [ifV_dec]
  refine ⟨fun hin => ?_, fun hno => ?_⟩
  ·have hall' : ∀ u, u < i + 1 -> u ∈ ms.map MV.node := fun u hu => by
    by_cases e : u = i
    ·rw [e]; exact hin
    ·exact hall u (by omega)
   have := range_len hall'
   rw [List.length_range, hml] at this
   refine o8.load 0 rfl rfl ?_
   rw [pBin_add, wI i (by omega)]
   refine o8.st1 0 (cs' := [I (i + 1 : Nat)]) rfl rfl rfl rfl rfl fun h9 o9 => hZ () h9 this ⟨hall', ?_, L', o9⟩
   rw [<- hfm, show g.n + 1 - i = (g.n + 1 - (i + 1)) + 1 by omega, freeM_in hin]
  ·refine o8.load 0 rfl rfl ?_
   have := range_len hall
   rw [List.length_range, hml] at this
   rw [show g.n + 1 - i = (g.n - i) + 1 by omega, freeM_no hno] at hfm
   rw [<- hfm] at hK
   exact hK h8 (o.more o8.ext)
 | some w0 =>
  show pBin .lss (I w0) _ _
  rw [pBin_lss, show decide ((w0 : Int) < 0) = false from decide_eq_false (by omega), ifV_false]
  refine o5.load 0 rfl rfl ?_
  have hkd : ∀ v, ∀ w ∈ (growA g (ms.map MV.node) r).kd v, w ∈ (g.from r).order /\ (g.from r).order.idxOf v < (g.from r).order.idxOf w := fun v w hw => by
   obtain ⟨q1, _, _, q4⟩ := par_some T ((kdA hR hn hr hmn).1 hw)
   exact ⟨q1, q4⟩
  have hwo := hord w0 rfl
  dsimp only at hnx
  refine LoopH_count g.n (fun i y h' => (∃ v' : Value, Own h h' (cellR v8 [v'] T_int :: growL g (g.from r) rn r pt tr m pm b5 b4 b3 vs vm sd sa so vl f (growA g (ms.map MV.node) r) (famR encN 1 T_int kv (growA g (ms.map MV.node) r).kd g.n ++ [cellR ord [so] T_sl_int])) /\
    ((∃ w : Nat, y.1 = I w /\ w ∈ (g.from r).order /\ i <= (g.from r).order.idxOf w /\ down (szA g (ms.map MV.node) r) (growA g (ms.map MV.node) r).kd (g.n - i) w = nextA g (ms.map MV.node) r) \/ (y.1 = I (-1) /\ v' = I (nextA g (ms.map MV.node) r))))) ⟨_, o5, .inl ⟨w0, rfl, hwo, Nat.zero_le _, hnx.symm⟩⟩ ?_
  clear o5
  rintro i ⟨y, ⟨⟩⟩ h6 Z hi ⟨v', o6, hs⟩ hZ
  dsimp only at hs hZ ⊢
  unfold sh_avoid_next_L2
  rcases hs with ⟨w, rfl, hw1, hw2, hw3⟩ | ⟨rfl, rfl⟩
  ·have hil : i < g.n := by have := List.idxOf_lt_length_of_mem hw1; omega
   have hwn := T.range w hw1
   rw [pBin_geq, decide_eq_true (by omega), ifV_true]
   refine o6.st1 0 (cs' := [I w]) rfl rfl rfl rfl rfl fun h7 o7 => ?_
   clear o6
   simp only [pNil_ptr, pField_ptr]
   refine o7.load 2 rfl rfl (o7.load 0 rfl rfl (o7.look 3 rfl ?_))
   have hfw := hf w
   show callS Tryz.prog F_slices_Values_sl_int_int [(f w).getD sl0] h7 _
   rw [hfw]
   have hfi : ∀ {v8' : Res} {X : List Res}, (v8' :: growL g (g.from r) rn r pt tr m pm b5 b4 b3 vs vm sd sa so vl f (growA g (ms.map MV.node) r) (famR encN 1 T_int kv (growA g (ms.map MV.node) r).kd g.n ++ X))[w + 13]? = some (slR encN 1 T_int (kv w) ((growA g (ms.map MV.node) r).kd w)) := by
    intro v8' X
    show (famR encN 1 T_int kv (growA g (ms.map MV.node) r).kd g.n ++ X)[w]? = _
    rw [List.getElem?_append_left (by simp [famR]; exact hwn), famR_get hwn]
   refine valuesN_ok o7 (o7.vw (w + 13) hfi) fun s2 h8 o8 => ?_
   have hkl : ((growA g (ms.map MV.node) r).kd w).length <= 16 := by
    have := (growQ_facts hR hn hr hmn (by rw [List.length_map]; omega) (g.from r).order.length).1 w
    rw [growQ_end] at this
    exact this
   refine best_ok16 (f := szA g (ms.map MV.node) r) (O := (growA g (ms.map MV.node) r).kd w) o8 rfl rfl (valsN_iter (b := s2) (T := T_sl_int) (by omega)) (fun h' o' => ⟨o'.get 0 rfl, o'.tail.vw (w + 13) hfi⟩)
    (fun h' v K' hv o' hk => size_ok (sz := (growA g (ms.map MV.node) r).sz) o' (i := 3) (j := 7) rfl rfl (by rw [hszl]; exact T.range v (hkd w v hv).1) hk) fun h9 o9 => ?_
   replace o9 := o9.tail
   refine hZ (_, ()) h9 hil ⟨_, o9, ?_⟩
   rw [show g.n - i = (g.n - (i + 1)) + 1 by omega] at hw3
   unfold down at hw3
   rcases bestS_is (f := szA g (ms.map MV.node) r) (l := (growA g (ms.map MV.node) r).kd w) with ⟨e, _⟩ | ⟨w', e, h1, _⟩
   ·rw [e] at hw3 ⊢
    dsimp only at hw3
    rw [hw3]
    exact .inr ⟨rfl, rfl⟩
   ·rw [e] at hw3 ⊢
    dsimp only at hw3
    obtain ⟨q1, q2⟩ := hkd w w' h1
    exact .inl ⟨w', rfl, q1, by omega, hw3⟩
  ·rw [pBin_geq, show decide ((0 : Int) <= -1) = false from rfl, ifV_false]
   exact o6.load 0 rfl rfl (hK h6 (o.more o6.ext))

end
open Go Go.Mh

section
variable {h0 h : Heap} {L : List Res} {K : Value -> Heap -> Prop} {g : G} {r : Nat} {d : Value} {xs : List Int} {DS : Nat -> List Res -> Prop}

theorem own_mid {A B C : List Res} (o : Own h0 h (A ++ (B ++ C))) : Own h0 h (A ++ C) := by
 have o1 : Own h0 h ((A ++ B) ++ C) := by rw [List.append_assoc]; exact o
 have o2 := Own.comm o1
 rw [<- List.append_assoc] at o2
 exact Own.comm o2.left

theorem rootA_draw {i n : Nat} (hn : 0 < n) (hx : ∀ x ∈ xs, 0 <= x) : (drawP (xs.drop i) n).1 = (rootA xs n i : Int) /\ (drawP (xs.drop i) n).2 = xs.drop (i + 1) := by
 by_cases h : i < xs.length
 ·rw [List.drop_eq_getElem_cons h]
  refine ⟨?_, rfl⟩
  show xs[i].tmod n = _
  unfold rootA
  rw [List.getElem?_eq_getElem h]
  show _ = (((xs[i].tmod n).toNat : Nat) : Int)
  have := Int.tmod_nonneg (n : Int) (hx _ (List.getElem_mem h))
  omega
 ·rw [List.drop_eq_nil_of_le (by omega), List.drop_eq_nil_of_le (by omega)]
  refine ⟨?_, rfl⟩
  unfold rootA
  rw [List.getElem?_eq_none (by omega)]
  rfl

theorem amarks_ok {k : Int} (o : Own h0 h L) (hR : g.Right) (hn : g.n <= 16) (hx : ∀ x ∈ xs, 0 <= x) (hk2 : k < 2 ^ 40) (H0 : ∀ {i h' L'}, DS i L' -> Own h0 h' L' -> NetR h' r g) (hL : DS 0 L)
  (hd : ∀ {i : Nat} {K' : Value -> Heap -> Prop} {h1 : Heap} {A L' : List Res}, DS i L' -> Own h0 h1 (A ++ L') -> (∀ h2 L'', DS (i + 1) L'' -> Own h0 h2 (A ++ L'') -> K' (I (rootA xs g.n i)) h2) -> callS Tryz.prog F_draw_Draws_Next [d, I g.n] h1 K')
  (hK : ∀ w h' L', DS (min k g.n).toNat L' -> Own h0 h' (slR encN 1 T_int w (mksA g xs (min k g.n).toNat) :: L') -> K w h') : callS Tryz.prog F_avoid_Marks [ptr r, I k, d] h K := by
 refine callS_of (lk_avoid_Marks _ _ _ ?_)
 unfold sh_avoid_Marks
 have hpos := hR.pos
 simp only [pEq_ptr_nil, Option.isNone_some, ifV_false]
 generalize hkk : (min k g.n).toNat = kk at hK
 have hkn : kk <= g.n := by omega
 refine LoopH_count kk (fun i x h' => ∃ (ms : List MV) (ML L' : List Res), ms.map MV.node = mksA g xs i /\ DS i L' /\ (∀ m ∈ ms, xR m.sd (g.to m.node).dist ∈ ML /\ xR m.fd (g.from m.node).dist ∈ ML) /\
  Own h0 h' (slR encN 1 T_int x.1 (mksA g xs i) :: slR encM 7 T_avoid_mark x.2.1 ms :: (ML ++ L'))) ⟨[], [], L, rfl, hL, fun m hm => by (cases hm), o.nilS.nilS⟩ ?_
 rintro i ⟨wo, wl, ⟨⟩⟩ h1 Z hi ⟨ms, ML, L', hms, hDS, hML, o1⟩ hZ
 dsimp only at o1 hZ ⊢
 unfold sh_avoid_Marks_L1
 refine (o1.vw 0 rfl).len ?_
 rw [mksA_len]
 have oL : Own h0 h1 L' := (Own.comm (L := slR encN 1 T_int wo (mksA g xs i) :: slR encM 7 T_avoid_mark wl ms :: ML) o1).left
 have hN := H0 hDS oL
 refine nodes_ok hN ?_
 rw [pMin_int, show (if (g.n : Int) < k then (g.n : Int) else k) = min k g.n by split <;> omega, pBin_lss, ifV_dec]
 refine ⟨fun hlt => ?_, fun hge => ?_⟩
 ·have hlt : i < kk := by omega
  obtain ⟨hnd, hmlt⟩ := mksA_ok hR hn hx (k := i) (xs := xs) (by omega)
  refine nodes_ok hN ?_
  refine hd (A := slR encN 1 T_int wo (mksA g xs i) :: slR encM 7 T_avoid_mark wl ms :: ML) hDS o1 fun h2 L2 hDS2 o2 => ?_
  clear o1 oL hN
  have o2 : Own h0 h2 (slR encN 1 T_int wo (mksA g xs i) :: slR encM 7 T_avoid_mark wl ms :: (ML ++ L2)) := o2
  have hrt : rootA xs g.n i < g.n := rootA_lt (by omega) hx
  have hlen : ms.length = i := by rw [<- List.length_map (f := MV.node), hms, mksA_len]
  have k2 : ∀ (v : Nat) (h3 : Heap), v < g.n -> mksA g xs (i + 1) = mksA g xs i ++ [v] -> Own h0 h3 (slR encN 1 T_int wo (mksA g xs i) :: slR encM 7 T_avoid_mark wl ms :: (ML ++ L2)) ->
    sh_avoid_Marks_k2 Tryz.prog wo (ptr r) wl (fun a0 a1 hz => Z (a0, (a1, ())) hz) (I v) h3 := by
   intro v h3 hv he o3
   unfold sh_avoid_Marks_k2
   refine o3.app1 0 v rfl rfl (sizesOk_of rfl) (fun _ => rfl) encN_plain rfl (by decide) (by rw [mksA_len]; omega) fun w' h4 o4 => ?_
   have o4 : Own h0 h4 (slR encN 1 T_int w' (mksA g xs i ++ [v]) :: slR encM 7 T_avoid_mark wl ms :: (ML ++ L2)) := o4
   rw [<- he] at o4
   refine o4.build (enc := encI) (n := 1) [(v : Int)] rfl (sizesOk_of rfl) rfl fun w5 h5 o5 => ?_
   have oL : Own h0 h5 L2 := (Own.comm (L := slR encI 1 T_int w5 [(v : Int)] :: slR encN 1 T_int w' (mksA g xs (i + 1)) :: slR encM 7 T_avoid_mark wl ms :: ML) o5).left
   refine marks_ok o5 hR (H0 hDS2 oL) (o5.vw 0 rfl) (show 1 < 2 ^ 32 by decide) fun w6 ms1 h6 hms1 o6 => ?_
   have e1 : mksZ g.n [(v : Int)] = [v] := by
    have := mksZ_nI (n := g.n) (l := [v]) (fun m hm => by rw [List.mem_singleton.1 hm]; exact hv)
    exact this
   rw [e1] at hms1
   obtain ⟨m, rfl⟩ : ∃ m, ms1 = [m] := by
    match ms1, hms1 with
    | [m], _ => exact ⟨m, rfl⟩
   have hmv : m.node = v := by simpa using hms1
   have o6 : Own h0 h6 (slR encM 7 T_avoid_mark w6 [m] :: xR m.sd (g.to m.node).dist :: xR m.fd (g.from m.node).dist :: slR encI 1 T_int w5 [(v : Int)] :: slR encN 1 T_int w' (mksA g xs (i + 1)) :: slR encM 7 T_avoid_mark wl ms :: (ML ++ L2)) := o6
   refine o6.app 5 rfl encM_len encM_plain rfl (o6.vw 0 rfl) (by decide) (by simp only [List.length_cons, List.length_nil]; omega) fun w7 h7 o7 => ?_
   refine hZ (w', (w7, ())) h7 hlt ⟨ms ++ [m], xR m.sd (g.to m.node).dist :: xR m.fd (g.from m.node).dist :: ML, L2, ?_, hDS2, fun m' hm' => ?_, ?_⟩
   ·rw [List.map_append, hms, he]
    simp [hmv]
   ·rcases List.mem_append.1 hm' with hm' | hm'
    ·obtain ⟨a, b⟩ := hML m' hm'
     exact ⟨List.mem_cons_of_mem _ (List.mem_cons_of_mem _ a), List.mem_cons_of_mem _ (List.mem_cons_of_mem _ b)⟩
    ·rw [List.mem_singleton.1 hm']
     exact ⟨List.mem_cons_self, List.mem_cons_of_mem _ List.mem_cons_self⟩
   ·exact o7.front 6 [4, 5, 1, 2] (by decide) (by decide)
  refine (o2.vw 0 rfl).len ?_
  rw [mksA_len, pBin_gtr, ifV_dec]
  refine ⟨fun hp => ?_, fun hz => ?_⟩
  ·have oL : Own h0 h2 L2 := (Own.comm (L := slR encN 1 T_int wo (mksA g xs i) :: slR encM 7 T_avoid_mark wl ms :: ML) o2).left
   refine anext_ok (ms := ms) o2 hR (H0 hDS2 oL) hn hrt (fun m hm => ?_) (o2.vw 1 rfl) (by omega) (by rw [hms]; exact hnd) fun h3 o3 => ?_
   ·obtain ⟨a, b⟩ := hML m hm
    refine ⟨hmlt _ (by rw [<- hms]; exact List.mem_map_of_mem hm), o2.vwm (T := T_int64) ?_, o2.vwm (T := T_int64) ?_⟩
    ·exact List.mem_cons_of_mem _ (List.mem_cons_of_mem _ (List.mem_append_left _ a))
    ·exact List.mem_cons_of_mem _ (List.mem_cons_of_mem _ (List.mem_append_left _ b))
   ·rw [hms]
    refine k2 _ h3 (nextA_spec hR hn hrt hmlt hnd (by rw [mksA_len]; omega)).1 ?_ o3
    show mksA g xs i ++ [if i = 0 then _ else _] = _
    rw [if_neg (by omega)]
  ·have hi0 : i = 0 := by omega
   subst hi0
   exact k2 _ h2 hrt rfl o2
 ·have : i = kk := by omega
  subst this
  refine hK wo h1 L' hDS ?_
  exact own_mid (A := [slR encN 1 T_int wo (mksA g xs i)]) (B := slR encM 7 T_avoid_mark wl ms :: ML) o1

theorem amarksD_ok {k : Int} {pd : Nat} {vl : Value} {N : Res} (o : Own h0 h (cellR pd [vl] T_draw_Draws :: quR encU 1 T_uint32 vl xs :: L)) (p : Nat) (hp : L[p]? = some N) (hR : g.Right) (hN : netR N r g) (hn : g.n <= 16) (hk : k < 2 ^ 40) (hxl : xs.length < 2 ^ 62) (hr : ∀ x ∈ xs, 0 <= x /\ x <= 4294967295)
  (hK : ∀ w vl' h', Own h0 h' (slR encN 1 T_int w (mksA g xs (min k g.n).toNat) :: cellR pd [vl'] T_draw_Draws :: quR encU 1 T_uint32 vl' (xs.drop (min k g.n).toNat) :: L) -> K w h') : callS Tryz.prog F_avoid_Marks [ptr r, I k, ptr pd] h K := by
 have hpos := hR.pos
 have hmost := hR.most
 refine amarks_ok (xs := xs) (DS := fun i L2 => ∃ vl', L2 = cellR pd [vl'] T_draw_Draws :: quR encU 1 T_uint32 vl' (xs.drop i) :: L) o hR hn (fun x hx => (hr x hx).1) hk ?_ ⟨vl, rfl⟩ ?_ fun w h' L' ⟨vl', e⟩ o' => hK w vl' h' (by subst e; exact o')
 ·rintro i h' L' ⟨vl', rfl⟩ o'
  exact hN _ (o'.get (p + 2) hp)
 ·rintro i K' h1 A L' ⟨vl', rfl⟩ o1 hk'
  have hlen : (xs.drop i).length < 2 ^ 62 := by rw [List.length_drop]; omega
  obtain ⟨e1, e2⟩ := rootA_draw (xs := xs) (i := i) (n := g.n) (by omega) fun x hx => (hr x hx).1
  refine dnext_ok o1 A.length (A.length + 1) (by rw [List.getElem?_append_right (Nat.le_refl _), Nat.sub_self]; rfl) (by rw [List.getElem?_append_right (by omega), Nat.add_sub_cancel_left]; rfl) (by omega) hpos (by omega) hlen (fun x hx => hr x (List.mem_of_mem_drop hx)) fun vl2 h2 o2 => ?_
  rw [e1]
  refine hk' h2 _ ⟨vl2, rfl⟩ ?_
  rw [e2, List.set_append_right _ _ (Nat.le_refl _), Nat.sub_self, List.set_cons_zero, List.set_append_right _ _ (by omega), Nat.add_sub_cancel_left] at o2
  exact o2

end
open Go Go.Mh

section
variable {h0 h : Heap} {L : List Res} {K : Value -> Heap -> Prop} {g : G} {p : Pl31} {dv : Value} {x r p3 : Nat} {N : Res}

def TabP (h : Heap) (g : G) (p : Pl31) (tv : Value) : Prop := (p.marks = 0 /\ tv = .pointer none) \/ (p.marks ≠ 0 /\ ∃ t, tv = ptr t /\ TableV h t g (marksOf g p))
def CelP (h : Heap) (g : G) (p : Pl31) (cv fv : Value) : Prop := (p.kind = 0 /\ cv = .pointer none /\ fv = .pointer none) \/
 (p.kind ≠ 0 /\ ∃ c b xs M, cv = ptr c /\ fv = ptr b /\ CellsOf g p xs /\ maxL xs + 1 = ((M : Nat) : Int) /\ CellV h c xs /\ BitV h b M g.arcs.length (flagsB g xs M))
theorem CelP.more {h' : Heap} {cv fv : Value} (H : CelP h g p cv fv) (e : Ext h h') : CelP h' g p cv fv := by
 rcases H with h | ⟨h1, c, b, xs, M, h2, h3, h4, h5, h6, h7⟩
 ·exact .inl h
 ·exact .inr ⟨h1, c, b, xs, M, h2, h3, h4, h5, h6.more e, h7.more e⟩

theorem own_at {i : Nat} {R : Res} {A : List Res} (hi : L[i]? = some R) : (A ++ L)[A.length + i]? = some R := by
 rw [List.getElem?_append_right (by omega), show A.length + i - A.length = i by omega]; exact hi

theorem build_k1 {tv : Value} {i j k : Nat} (o : Own h0 h L) (hF : Few g) (hN : netR N r g) (hw : p.wrong = 0) (hij : i ≠ j) (hik : i ≠ k) (hi : L[i]? = some (cellR x [ptr r, tv, .pointer none, .pointer none] T_image_Image)) (hj : L[j]? = some (cellR p3 (plC p dv) T_api_Plan)) (hk : L[k]? = some N)
  (hK : ∀ cv fv L' h', Own h0 h' (L.set i (cellR x [ptr r, tv, cv, fv] T_image_Image) ++ L') -> CelP h' g p cv fv -> K (.tuple #[ptr x, .nilIface]) h') : sh_build_Build_k1 Tryz.prog (ptr p3) (ptr r) (ptr x) K h := by
 have hR := hF.toRight
 have hmost := hR.most
 have hpos := hR.pos
 have hck := (@wrong_ck p).1.1 hw
 have hkind := of_decide_eq_true (hck 2 (by decide))
 have hcell := of_decide_eq_true (hck 3 (by decide))
 unfold sh_build_Build_k1
 simp only [pField_ptr, Nat.zero_add]
 refine o.load j hj rfl ?_
 rw [pBin_neq]
 by_cases h0' : p.kind = 0
 ·rw [show (p.kind != 0) = false by simp [h0'], ifV_false]
  unfold sh_build_Build_k2
  refine hK (.pointer none) (.pointer none) [] h ?_ (.inl ⟨h0', rfl, rfl⟩)
  rw [List.append_nil, set_same hi]; exact o
 rw [show (p.kind != 0) = true by simpa using h0', ifV_true]
 have hc := hcell.resolve_left h0'
 refine o.load j hj rfl (o.load j hj rfl (parts31_ok o fun m h1 o1 => ?_))
 have hj1 : (mapR m prF :: L)[j + 1]? = some (cellR p3 (plC p dv) T_api_Plan) := by simpa using hj
 refine ⟨o1.load (j + 1) hj1 rfl rfl, o1.load (j + 1) hj1 rfl rfl, o1.look 0 rfl ?_⟩
 simp only [Bool.false_eq_true, if_false]
 have o1 := o1.tail
 have rest : ∀ (ys : List Int) (w : Value) (h2 : Heap), CellsOf g p (norm ys) -> ys.length = g.n -> Own h0 h2 (slR encI 1 T_int w ys :: L) ->
   callS Tryz.prog F_cell_Norm [w] h2 fun t57 h_14 => callS Tryz.prog F_cell_New [t57] h_14 fun t58 h_15 => pNil (ptr x) fun t59 => pField 2 t59 fun t60 => pStore 1 t60 t58 h_15 fun u_1 h_16 => pNil (ptr x) fun t64 => pField 2 t64 fun t65 => pLoad h_16 t65 fun t66 =>
    callS Tryz.prog F_flag_Of [ptr r, t66] h_16 fun t67 h_17 => pNil (ptr x) fun t68 => pField 3 t68 fun t69 => pStore 1 t69 t67 h_17 fun u_2 h_18 => sh_build_Build_k2 Tryz.prog K (ptr x) h_18 := by
  intro ys w h2 hC hyl o2
  obtain ⟨f1, f2, f3, f4⟩ := hC.facts hR hc.1
  refine norm_ok o2 (o2.vw 0 rfl) (by omega) fun w2 h3 o3 => ?_
  refine cnew_ok o3 0 rfl (fun e => by rw [e] at f1; simp at f1; omega) f2 (by omega) (by omega) f3 fun c v' h4 o4 => ?_
  simp only [pNil_ptr, pField_ptr, Nat.zero_add]
  have o4 : Own h0 h4 ([cellR c (cellCs v' (norm ys)) T_cell_Cells, slR encI 1 T_int v' (norm ys), slR encI 1 T_int w2 (norm ys), slR encI 1 T_int w ys] ++ L) := o4
  refine o4.st1 (4 + i) (cs' := [ptr r, tv, ptr c, .pointer none]) (own_at (A := [_, _, _, _]) hi) rfl rfl rfl rfl fun h5 o5 => ?_
  rw [List.set_append_right _ _ (by simp)] at o5
  have e : 4 + i - [cellR c (cellCs v' (norm ys)) T_cell_Cells, slR encI 1 T_int v' (norm ys), slR encI 1 T_int w2 (norm ys), slR encI 1 T_int w ys].length = i := by simp
  rw [e] at o5
  have hi5 : (L.set i (cellR x [ptr r, tv, ptr c, .pointer none] T_image_Image))[i]? = some (cellR x [ptr r, tv, ptr c, .pointer none] T_image_Image) := set_get hi
  have hk5 : (L.set i (cellR x [ptr r, tv, ptr c, .pointer none] T_image_Image))[k]? = some N := by rw [List.getElem?_set_ne hik]; exact hk
  refine o5.load (4 + i) (own_at (A := [_, _, _, _]) hi5) rfl ?_
  have hC5 : CellV h5 c (norm ys) := ⟨v', o5.get 0 rfl, o5.vw 1 rfl⟩
  have hN5 : NetR h5 r g := hN _ (o5.get (4 + k) (own_at (A := [_, _, _, _]) hk5))
  obtain ⟨M, hM⟩ := Int.eq_ofNat_of_zero_le (show 0 <= maxL (norm ys) + 1 by omega)
  have hsmall : M * longB g.arcs.length <= 268435456 := by
   have h1 := hF.short
   have : longB g.arcs.length <= 12 := by unfold longB; omega
   have := Nat.mul_le_mul (show M <= 256 by omega) this
   omega
  refine flagOf_ok o5 hR f1 hN5 hC5 hM (by omega) hsmall fun b s h6 o6 => ?_
  have o6 : Own h0 h6 ([cellR b (bitCs M g.arcs.length s) T_bits_Rows, slR encB8 1 T_uint8 s (flagsB g (norm ys) M), cellR c (cellCs v' (norm ys)) T_cell_Cells, slR encI 1 T_int v' (norm ys), slR encI 1 T_int w2 (norm ys), slR encI 1 T_int w ys] ++ L.set i (cellR x [ptr r, tv, ptr c, .pointer none] T_image_Image)) := o6
  refine o6.st1 (6 + i) (cs' := [ptr r, tv, ptr c, ptr b]) (own_at (A := [_, _, _, _, _, _]) hi5) rfl rfl rfl rfl fun h7 o7 => ?_
  rw [List.set_append_right _ _ (by simp)] at o7
  have e : 6 + i - [cellR b (bitCs M g.arcs.length s) T_bits_Rows, slR encB8 1 T_uint8 s (flagsB g (norm ys) M), cellR c (cellCs v' (norm ys)) T_cell_Cells, slR encI 1 T_int v' (norm ys), slR encI 1 T_int w2 (norm ys), slR encI 1 T_int w ys].length = i := by simp
  rw [e, List.set_set] at o7
  unfold sh_build_Build_k2
  exact hK (ptr c) (ptr b) _ h7 o7.comm (.inr ⟨h0', c, b, norm ys, M, rfl, rfl, hC, hM, ⟨v', o7.get 2 rfl, o7.vw 3 rfl⟩, ⟨s, o7.get 0 rfl, o7.vw 1 rfl⟩⟩)
 obtain ⟨cn, hcn⟩ := Int.eq_ofNat_of_zero_le (show 0 <= p.cells by omega)
 rcases @prF_some p.kind with ⟨e, h⟩ | ⟨e, h⟩ | ⟨e, h⟩ | ⟨e1, e2, e3, h⟩
 ·exact absurd e h0'
 ·rw [h, Option.getD_some, hcn]
  refine gmap_ok o1 hR (hN _ (o1.get k hk)) (by omega) (by omega) fun rows w h2 hS o2 => ?_
  have htn : p.cells.toNat = cn := by omega
  exact rest _ w h2 ⟨_, rfl, .inl ⟨e, rows, by rw [htn]; exact hS, by rw [htn]⟩⟩ gridL_len o2
 ·rw [h, Option.getD_some]
  refine smap_ok o1 hk hN hR hF.few fun w h2 o2 => ?_
  unfold mapZ at o2
  rw [if_pos hc] at o2
  exact rest _ w h2 ⟨_, rfl, .inr ⟨e, rfl⟩⟩ mapG_len o2
 ·rcases hkind with h | h | h
  ·exact absurd h e1
  ·exact absurd h e2
  ·exact absurd h e3

theorem toNI {w : Value} {ms : List Nat} (o : Own h0 h (slR encN 1 T_int w ms :: L)) : Own h0 h (slR encI 1 T_int w (nI ms) :: L) := by
 refine o.weak (fun ⟨bl, H⟩ => ⟨bl, ?_⟩) fun b hb => hb
 rcases H with ⟨h1, h2⟩ | ⟨cap, rest, h1, h2, h3, h4⟩
 ·exact .inl ⟨h1, by rw [h2]; rfl⟩
 ·have e : Mh.row encI (nI ms) = Mh.row encN ms := by
   simp only [Mh.row, nI, encI, List.flatMap_map]
   rfl
  exact .inr ⟨cap, rest, by rw [nI_len]; exact h1, by rw [e]; exact h2, by rw [nI_len]; exact h3, by rw [nI_len]; exact h4⟩

theorem build_ok {raw : Value} (hF : Few g) (HR : RawV h raw g) (hw : p.wrong = 0) (Hd : Vw encU 1 h dv p.draws) (hd1 : p.draws.length <= 2 ^ 20) (hd2 : ∀ x ∈ p.draws, 0 <= x /\ x <= 4294967295)
  (hK : ∀ x r tv cv fv h', Ext h h' -> h'[x]? = some (.cells #[ptr r, tv, cv, fv] T_image_Image (0, 0)) -> NetR h' r g -> TabP h' g p tv -> CelP h' g p cv fv -> K (.tuple #[ptr x, .nilIface]) h') : callS Tryz.prog F_build_Build [raw, planV p dv] h K := by
 have hR := hF.toRight
 have hck := (@wrong_ck p).1.1 hw
 have hmk := of_decide_eq_true (hck 0 (by decide))
 have hrl := of_decide_eq_true (hck 1 (by decide))
 have hfew := hF.few
 refine callS_of (lk_build_Build _ _ ?_)
 unfold sh_build_Build
 have HR' := HR
 obtain ⟨vx, vy, va, rfl, HL⟩ := HR
 refine (Own.start h).box fun raw2 h1 o1 => o1.box fun p3 h2 o2 => ?_
 have o2 : Own h h2 [cellR p3 (plC p dv) T_api_Plan, cellR raw2 [I g.n, vx, vy, va] T_api_Raw] := o2
 refine o2.ldN 0 rfl rfl rfl ?_
 refine bcheck_ok (p := p) (dv := dv) (fun _ h3 x3 => ?_) fun hne => absurd hw hne
 have o3 := o2.more x3
 have eN : ∀ {K : Value -> Prop}, K (.bool false) -> pEq true .iface .nilIface .nilIface K := fun hk => hk
 refine eN ?_
 rw [ifV_false]
 refine o3.ldN 1 rfl rfl rfl ?_
 refine new_net_ok o3 hR (HR'.more o3.ext) fun r N h4 hN o4 => ?_
 simp only [pExt0, pExt1]
 refine eN ?_
 rw [ifV_false]
 refine pBuild_ones (cs' := [ptr r, .pointer none, .pointer none, .pointer none]) (by intro p hp; simp at hp; subst hp; rfl) rfl rfl ?_
 refine o4.box fun x h5 o5 => ?_
 have o5 : Own h h5 [cellR x [ptr r, .pointer none, .pointer none, .pointer none] T_image_Image, N, cellR p3 (plC p dv) T_api_Plan, cellR raw2 [I g.n, vx, vy, va] T_api_Raw] := o5
 simp only [pField_ptr, Nat.zero_add]
 refine o5.load 2 rfl rfl ?_
 rw [pBin_gtr, ifV_dec]
 refine ⟨fun hpos => ?_, fun hnp => ?_⟩
 ·obtain ⟨mk, hmk'⟩ := Int.eq_ofNat_of_zero_le hmk.1
  refine o5.load 2 rfl rfl (o5.load 2 rfl rfl (o5.load 2 rfl rfl (choices_ok o5 fun m h6 o6 => ⟨o6.load 3 rfl rfl rfl, o6.load 3 rfl rfl rfl, o6.load 3 rfl rfl rfl, ?_⟩)))
  refine o6.look 0 rfl ?_
  simp only [Bool.false_eq_true, if_false]
  refine dnew_ok o6 (Hd.more o6.ext) (by omega) fun pd w h7 o7 => ⟨o7.load 5 rfl rfl rfl, o7.load 5 rfl rfl rfl, ?_⟩
  have hlk : ∀ {K : Value -> Prop}, K ((chF p.rule).getD .nilFunc) -> pLook (.int .i64) .nilFunc false h7 (.map (some m)) (I p.rule) K := fun hk => o7.look 2 rfl (by simpa using hk)
  obtain ⟨f1, f2, f3⟩ := marksOf_facts hR (by omega) hmk.1 (fun x hx => (hd2 x hx).1) (p := p)
  have fin : ∀ (w' vl' : Value) (qs : List Int) (h8 : Heap), Own h h8 (slR encI 1 T_int w' (nI (marksOf g p)) :: cellR pd [vl'] T_draw_Draws :: quR encU 1 T_uint32 vl' qs :: mapR m chF :: [cellR x [ptr r, .pointer none, .pointer none, .pointer none] T_image_Image, N, cellR p3 (plC p dv) T_api_Plan, cellR raw2 [I g.n, vx, vy, va] T_api_Raw]) ->
    callS Tryz.prog F_table_Of [ptr r, w'] h8 fun t42 h_9 => pNil (ptr x) fun t43 => pField 1 t43 fun t44 => pStore 1 t44 t42 h_9 fun u h_10 => sh_build_Build_k1 Tryz.prog (ptr p3) (ptr r) (ptr x) K h_10 := fun w' vl' qs h8 o8 => by
   refine tableOf_ok o8 (o8.vw 0 rfl) hR (hN _ (o8.get 5 rfl)) (by omega) f1 f2 fun t mv tv fv ps qs' h9 e1 e2 o9 => ?_
   simp only [pNil_ptr, pField_ptr, Nat.zero_add]
   refine o9.st1 8 (cs' := [ptr r, ptr t, .pointer none, .pointer none]) rfl rfl rfl rfl rfl fun h10 o10 => ?_
   refine build_k1 (i := 8) (j := 10) (k := 9) o10 hF hN hw (by decide) (by decide) rfl rfl rfl fun cv fv' L' h11 o11 hCe => ?_
   refine hK x r (ptr t) cv fv' h11 o11.ext (o11.get 8 rfl) (hN _ (o11.get 9 rfl)) (.inr ⟨by omega, t, rfl, tableR_view (L := _) o11 e1 e2⟩) hCe
  rcases @chF_some p.rule with ⟨e, hh⟩ | ⟨e, hh⟩ | ⟨e1, e2, hh⟩
  ·rw [hh, Option.getD_some] at hlk ⊢
   refine ⟨hlk (K := fun t => t = fnV F_far_Marks) rfl, ?_⟩
   rw [hmk']
   refine fmarksD_ok (k := mk) o7 2 rfl hR hN (by omega) (by omega) (by omega) hd2 fun w' vl' h8 o8 => ?_
   have em : mgo g mk 0 (List.range g.n) (cov g [(drawP p.draws g.n).1]) = marksOf g p := by
    unfold marksOf marksFar
    rw [if_pos e, show p.marks.toNat = mk by omega]
    cases p.draws <;> rfl
   rw [em] at o8
   exact fin w' vl' _ h8 o8
  ·rw [hh, Option.getD_some] at hlk ⊢
   refine ⟨hlk (K := fun t => t = fnV F_avoid_Marks) rfl, ?_⟩
   refine amarksD_ok (k := p.marks) o7 2 rfl hR hN (by omega) (by omega) (by omega) hd2 fun w' vl' h8 o8 => ?_
   have em : mksA g p.draws (min p.marks g.n).toNat = marksOf g p := by
    unfold marksOf
    rw [if_neg (by omega)]
   rw [em] at o8
   exact fin w' vl' _ h8 (toNI o8)
  ·exact absurd hrl fun h => h.elim e1 e2
 ·refine build_k1 (i := 0) (j := 2) (k := 1) o5 hF hN hw (by decide) (by decide) rfl rfl rfl fun cv fv L' h6 o6 hCe => ?_
  exact hK x r (.pointer none) cv fv h6 o6.ext (o6.get 0 rfl) (hN _ (o6.get 1 rfl)) (.inl ⟨by omega, rfl⟩) hCe

end
open Go Go.Mh

section
variable {h0 h : Heap} {L : List Res} {K : Value -> Heap -> Prop} {g : G} {v : Value}

theorem rints_ok {α : Type} {enc : α -> List Value} {e : α -> Int} {xs : List α} {va vb : Value} (he : ∀ a, enc a = [I (e a)]) (Ha : Vw enc 1 h va xs) (Hb : Vw enc 1 h vb xs) (hl : xs.length < 2 ^ 40) (hK : K (.bool true) h) : callS Tryz.prog F_milestoneref07_Ints [va, vb] h K := by
 refine callS_of (lk_milestoneref07_Ints _ _ ?_)
 unfold sh_milestoneref07_Ints
 refine Ha.len (Hb.len ?_)
 rw [pBin_neq, bne_self_eq_false, ifV_false]
 refine LoopH_count xs.length (fun i x h' => x.1 = I i /\ h' = h) ⟨rfl, rfl⟩ ?_
 rintro i ⟨x, ⟨⟩⟩ h' Z hi ⟨hx, rfl⟩ hZ
 dsimp only at hx hZ ⊢
 subst hx
 unfold sh_milestoneref07_Ints_L1
 refine Ha.len ?_
 simp only [pBin_lss, ifV_dec]
 refine ⟨fun hlt => ?_, fun hge => hK⟩
 have hlt : i < xs.length := by omega
 refine Ha.at1 (e := fun a => I (e a)) he hlt (Hb.at1 (e := fun a => I (e a)) he hlt ?_)
 rw [pBin_neq, bne_self_eq_false, ifV_false, pBin_add, wI i (by omega)]
 exact hZ (I (i + 1 : Nat), ()) _ hlt ⟨rfl, rfl⟩

end
open Go Go.Mh

def g4 : G := ⟨4, [0, 1, 8, 9], [0, 0, 0, 0], [⟨0, 1, 1⟩, ⟨1, 0, 1⟩, ⟨1, 2, 1⟩, ⟨2, 1, 1⟩, ⟨2, 3, 1⟩, ⟨3, 2, 1⟩]⟩
theorem g4_few : Few g4 := { toRight := ⟨by decide, by decide, rfl, rfl, by decide, by decide, by decide, by decide⟩, few := by decide, short := by decide }
def p4 : Pl31 := ⟨2, 0, [0], 1, 2⟩
def p0 : Pl31 := ⟨0, 0, [], 0, 0⟩
theorem p4_marks : marksOf g4 p4 = [3, 0] := by decide +kernel
theorem p4_cells {xs : List Int} (H : CellsOf g4 p4 xs) : xs = [0, 0, 1, 1] := by
 obtain ⟨ys, rfl, ⟨_, rows, hS, rfl⟩ | ⟨e, _⟩⟩ := H
 ·have := hS.two
  subst this
  decide +kernel
 ·cases e

section
variable {h0 h : Heap} {L : List Res} {K : Value -> Heap -> Prop}

theorem four_ok (hK : ∀ v h', Ext h h' -> RawV h' v g4 -> K v h') : callS Tryz.prog F_milestonelaw31_four [] h K := by
 refine callS_of (lk_milestonelaw31_four ?_)
 unfold sh_milestonelaw31_four
 refine (Own.start h).box fun t0 h1 o1 => ?_
 refine o1.build (enc := encI) (n := 1) g4.X rfl (sizesOk_of rfl) rfl fun vx h2 o2 => ?_
 refine o2.make (enc := encI) (n := 1) (a := 0) (m := 4) rfl (by decide) (by decide) fun vy h3 o3 => ?_
 have hx := o3.vw 1 rfl
 have hy := o3.vw 0 rfl
 refine pBuild_ones (cs' := [I 4, vx, vy, sl0]) ?_ rfl rfl ?_
 ·intro p hp
  simp at hp
  rcases hp with rfl | rfl | rfl
  ·rfl
  ·exact hx.one
  ·exact hy.one
 refine o3.box fun g1 h4 o4 => ?_
 refine o4.st (l := [I 4, vx, vy, sl0]) (cs' := [I 4, vx, vy, sl0]) 0 rfl rfl rfl rfl rfl ?_ fun h5 o5 => ?_
 ·intro u hu
  simp at hu
  rcases hu with rfl | rfl | rfl | rfl
  ·rfl
  ·exact hx.plain
  ·exact hy.plain
  ·rfl
 have o6 : Own h h5 [slR encA 3 T_api_Arc sl0 (g4.arcs.take (2 * 0)), cellR g1 [I 4, vx, vy, sl0] T_api_Raw, xR vy g4.Y, xR vx g4.X, cellR t0 [I 0, sl0, sl0, sl0] T_api_Raw] := Own.nilS (enc := encA) (n := 3) (T := T_api_Arc) o5
 refine LoopH_count 3 (fun i x h' => x.1 = I i /\ ∃ va, Own h h' [slR encA 3 T_api_Arc va (g4.arcs.take (2 * i)), cellR g1 [I 4, vx, vy, va] T_api_Raw, xR vy g4.Y, xR vx g4.X, cellR t0 [I 0, sl0, sl0, sl0] T_api_Raw]) ⟨rfl, sl0, o6⟩ ?_
 clear o1 o2 o3 o4 o5 o6 hx hy
 rintro i ⟨x, ⟨⟩⟩ h' Z hi ⟨hx, va, o⟩ hZ
 dsimp only at hx hZ ⊢
 subst hx
 unfold sh_milestonelaw31_four_L1
 rw [pBin_lss, ifV_dec]
 refine ⟨fun hlt => ?_, fun hge => ?_⟩
 ·have hlt : i < 3 := by omega
  simp only [pField_ptr, Nat.zero_add]
  refine o.load 1 rfl rfl ?_
  rw [pBin_add, wI i (by omega)]
  refine pBuild_ones (cs' := encA ⟨i, i + 1, 1⟩) (by intro p hp; simp at hp; rcases hp with rfl | rfl | rfl <;> rfl) rfl rfl ?_
  rw [pBin_add, wI i (by omega)]
  refine pBuild_ones (cs' := encA ⟨i + 1, i, 1⟩) (by intro p hp; simp at hp; rcases hp with rfl | rfl | rfl <;> rfl) rfl rfl ?_
  refine o.build (enc := encA) (n := 3) [⟨i, i + 1, 1⟩, ⟨i + 1, i, 1⟩] rfl (sizesOk_of rfl) rfl fun w h2 o2 => ?_
  have h6 : g4.arcs.length = 6 := rfl
  have hb : ((g4.arcs.take (2 * i)).length + [(⟨i, i + 1, 1⟩ : A), ⟨i + 1, i, 1⟩].length) * 24 <= 2 ^ 47 := by
   rw [List.length_take, h6, List.length_cons, List.length_cons, List.length_nil]
   omega
  refine o2.app (ys := [⟨i, i + 1, 1⟩, ⟨i + 1, i, 1⟩]) 1 rfl encA_len encA_plain rfl (o2.vw 0 rfl) (by decide) hb fun va' h3 o3 => ?_
  have hv := o3.vw 1 rfl
  refine o3.st1 2 (cs' := [I 4, vx, vy, va']) rfl rfl rfl hv.one hv.plain fun h4 o4 => ?_
  rw [pBin_add, wI i (by omega)]
  refine hZ (I (i + 1 : Nat), ()) h4 hlt ⟨rfl, va', ?_⟩
  have e : g4.arcs.take (2 * (i + 1)) = g4.arcs.take (2 * i) ++ [⟨i, i + 1, 1⟩, ⟨i + 1, i, 1⟩] := by
   have : i = 0 \/ i = 1 \/ i = 2 := by omega
   rcases this with rfl | rfl | rfl <;> rfl
  rw [e]
  exact o4.sel [1, 2, 3, 4, 5] (by decide)
 ·have : i = 3 := by omega
  subst this
  have hx := o.vw 3 rfl
  have hy := o.vw 2 rfl
  have ha := o.vw 0 rfl
  refine o.ldN 1 rfl rfl rfl ?_
  refine o.st (l := [I 4, vx, vy, va]) (cs' := [I 4, vx, vy, va]) 4 rfl rfl rfl rfl rfl ?_ fun h2 o2 => o2.ldN 4 rfl rfl rfl ?_
  ·intro u hu
   simp at hu
   rcases hu with rfl | rfl | rfl | rfl
   ·rfl
   ·exact hx.plain
   ·exact hy.plain
   ·exact ha.plain
  ·exact hK _ h2 o2.ext ⟨vx, vy, va, rfl, o2.vw 3 rfl, o2.vw 2 rfl, o2.vw 0 rfl⟩

theorem works31_ok (hg : Glob h) (hK : ∀ h', Ext h h' -> K (.bool true) h') : callS Tryz.prog F_milestonelaw31_works [] h K := by
 refine callS_of (lk_milestonelaw31_works ?_)
 unfold sh_milestonelaw31_works
 refine four_ok fun v h1 x1 HV => ?_
 refine (Own.start h1).build (enc := encU) (n := 1) [0] rfl (sizesOk_of rfl) rfl fun dv h2 o2 => ?_
 have hd := o2.vw 0 rfl
 have x2 := ((Own.start h).more x1).ext2 o2.ext
 refine pBuild_ones (cs' := plC p4 dv) ?_ rfl rfl ?_
 ·intro p hp
  simp at hp
  rcases hp with rfl | rfl | rfl | rfl
  ·rfl
  ·exact hd.one
  ·rfl
  ·rfl
 refine build_ok (p := p4) (dv := dv) g4_few (HV.more o2.ext) (by decide) hd (by decide) (by decide) fun x r tv cv fv h3 x3 hx hN hT hC => ?_
 have y3 := ((Own.start h).more x2).ext2 x3
 simp only [pExt0, pExt1]
 refine four_ok fun v2 h4 x4 HV2 => ?_
 have y4 := ((Own.start h).more y3).ext2 x4
 refine pBuild_ones (cs' := plC p0 sl0) (by intro p hp; cases hp) rfl rfl ?_
 refine build_ok (p := p0) (dv := sl0) g4_few HV2 (by decide) Vw.nil (by decide) (by decide) fun x' r' tv' cv' fv' h5 x5 hx' hN' hT' hC' => ?_
 have y5 := ((Own.start h).more y4).ext2 x5
 have z5 := ((Own.start h3).more x4).ext2 x5
 simp only [pExt0, pExt1]
 have eN : ∀ {K : Value -> Prop}, K (.bool false) -> pEq true .iface .nilIface .nilIface K := fun hk => hk
 refine eN ?_
 rw [ifV_false]
 refine eN ?_
 rw [ifV_false]
 simp only [pEq_ptr_nil, Option.isNone_some, ifV_false]
 rcases hT with ⟨e, _⟩ | ⟨_, t, rfl, HT⟩
 ·exact absurd e (by decide)
 rcases hC with ⟨e, _⟩ | ⟨_, c, b, xs, M, rfl, rfl, hxs, hM, HC, HB⟩
 ·exact absurd e (by decide)
 obtain rfl := p4_cells hxs
 rcases hT' with ⟨_, rfl⟩ | ⟨e, _⟩
 rotate_left
 ·exact absurd (show p0.marks = 0 from rfl) e
 rcases hC' with ⟨_, rfl, rfl⟩ | ⟨e, _⟩
 rotate_left
 ·exact absurd (show p0.kind = 0 from rfl) e
 have hx5 := z5.get hx
 have c1 : hcell h5 ⟨x, 1, none⟩ = some (ptr t) := hcell_of hx5 rfl
 have c2 : hcell h5 ⟨x, 2, none⟩ = some (ptr c) := hcell_of hx5 rfl
 simp only [pNil_ptr, pField_ptr, Nat.zero_add]
 refine pLoad_of rfl c1 ?_
 simp only [pEq_ptr_nil, Option.isNone_some, ifV_false]
 refine pLoad_of rfl c2 ?_
 simp only [pEq_ptr_nil, Option.isNone_some, ifV_false]
 refine pLoad_of rfl c1 ?_
 refine tmarks_ok (Own.start h5) (HT.more z5) (by rw [p4_marks]; decide) fun w h6 o6 => ?_
 rw [p4_marks] at o6
 refine o6.build (enc := encI) (n := 1) [3, 0] rfl (sizesOk_of rfl) rfl fun w2 h7 o7 => ?_
 refine rints_ok (enc := encI) (e := fun x => x) (xs := [3, 0]) (fun _ => rfl) (o7.vw 1 rfl) (o7.vw 0 rfl) (by decide) ?_
 rw [ifV_true]
 refine pLoad_of rfl (hcell_more o7.ext c2) ?_
 refine cmap_ok o7 (HC.more (((Own.start h3).more z5).ext2 o7.ext)) (by decide) fun w3 h8 o8 => ?_
 refine o8.build (enc := encI) (n := 1) [0, 0, 1, 1] rfl (sizesOk_of rfl) rfl fun w4 h9 o9 => ?_
 refine rints_ok (enc := encI) (e := fun x => x) (xs := [0, 0, 1, 1]) (fun _ => rfl) (o9.vw 1 rfl) (o9.vw 0 rfl) (by decide) ?_
 rw [ifV_true]
 have d1 : hcell h9 ⟨x', 1, none⟩ = some (.pointer none) := hcell_more o9.ext (hcell_of hx' rfl)
 have d2 : hcell h9 ⟨x', 2, none⟩ = some (.pointer none) := hcell_more o9.ext (hcell_of hx' rfl)
 have d3 : hcell h9 ⟨x', 3, none⟩ = some (.pointer none) := hcell_more o9.ext (hcell_of hx' rfl)
 refine pLoad_of rfl d1 ?_
 simp only [pEq_ptr_nil, Option.isNone_none, ifV_true]
 refine pLoad_of rfl d2 ?_
 simp only [pEq_ptr_nil, Option.isNone_none, ifV_true]
 refine pLoad_of rfl d3 ?_
 simp only [pEq_ptr_nil, Option.isNone_none]
 unfold sh_milestonelaw31_works_k2
 rw [ifV_true]
 have y9 := ((Own.start h).more y5).ext2 o9.ext
 refine pBuild_ones (cs' := plC ⟨17, 9, [], 0, 0⟩ sl0) (by intro p hp; simp at hp; rcases hp with rfl | rfl <;> rfl) rfl rfl ?_
 refine fails_ok (p := ⟨17, 9, [], 0, 0⟩) (dv := sl0) (by decide) (by decide) (hg.more y9) fun h10 x10 => ?_
 rw [ifV_true]
 have y10 := ((Own.start h).more y9).ext2 x10
 refine pBuild_ones (cs' := plC ⟨0, 2, [], 9, 0⟩ sl0) (by intro p hp; simp at hp; rcases hp with rfl | rfl <;> rfl) rfl rfl ?_
 refine fails_ok (p := ⟨0, 2, [], 9, 0⟩) (dv := sl0) (by decide) (by decide) (hg.more y10) fun h11 x11 => ?_
 rw [ifV_true]
 have y11 := ((Own.start h).more y10).ext2 x11
 refine pBuild_ones (cs' := plC ⟨0, 0, [], 3, 0⟩ sl0) (by intro p hp; simp at hp; subst hp; rfl) rfl rfl ?_
 refine fails_ok (p := ⟨0, 0, [], 3, 0⟩) (dv := sl0) (by decide) (by decide) (hg.more y11) fun h12 x12 => ?_
 rw [ifV_true]
 have y12 := ((Own.start h).more y11).ext2 x12
 refine pBuild_ones (cs' := plC ⟨0, 0, [], 1, 257⟩ sl0) (by intro p hp; simp at hp; rcases hp with rfl | rfl <;> rfl) rfl rfl ?_
 refine fails_ok (p := ⟨0, 0, [], 1, 257⟩) (dv := sl0) (by decide) (by decide) (hg.more y12) fun h13 x13 => ?_
 exact hK h13 (((Own.start h).more y12).ext2 x13)

end
open Go Go.Mh

abbrev askC (fr to : Nat) (av pv : Value) : List Value := [I fr, I to, av, pv]
abbrev seaC (r hp a3 : Nat) (lv bv cv ev : Value) : List Value := [ptr r, ptr hp, lv, bv, cv, .func (.func F_seek_start_1) #[] #[ptr a3], .func (.func F_seek_start_2) #[] #[ptr a3], ev]
abbrev seekL (a3 s0 hp r n fr to : Nat) (av pv lv bv cv ev : Value) (F : Nat -> Prop) (st : SS) (T : List Res) : List Res :=
 cellR a3 (askC fr to av pv) T_api_Ask :: cellR s0 (seaC r hp a3 lv bv cv ev) T_seek_search :: hpR F hp st.hp n :: slR encI 1 T_int64 lv st.lab :: slR encI 1 T_int bv st.by_ :: slR encT 1 T_bool cv (closL n st.ord) :: slR encE 4 T_api_Event ev st.evs :: T

section
variable {h0 h : Heap} {L : List Res} {K : Value -> Heap -> Prop} {g : G} {r a3 s0 hp fr to : Nat} {av pv lv bv cv ev : Value} {al : List Bool} {pl : List Int} {F : Nat -> Prop} {st : SS} {T : List Res} {B : Int}

theorem spi_ok {v : Nat} {T1 : TypeId} (ha : h[a3]? = some (.cells (askC fr to av pv).toArray T1 (0, 0))) (HP : Vw encI 1 h pv pl) (hl : pl = [] \/ v < pl.length) (hK : K (I (piOf pl v)) h) : callV Tryz.prog (.func (.func F_seek_start_2) #[] #[ptr a3]) [I v].toArray h K := by
 refine callV_of (l := [I v, ptr a3]) rfl (lk_seek_start_2 _ _ ?_)
 unfold sh_seek_start_2
 have c3 : hcell h ⟨a3, 3, none⟩ = some pv := hcell_of ha rfl
 simp only [pField_ptr, Nat.zero_add, pLoad_ptr, c3]
 refine HP.len ?_
 rw [pBin_eql]
 unfold piOf at hK
 rcases hl with rfl | hl
 ·exact hK
 ·rw [show ((pl.length : Int) == 0) = false by simp; intro e; rw [e] at hl; simp at hl, ifV_false]
  refine HP.idxI hl fun b o hc => ?_
  simp only [pLoad_ptr, hc, pMax_int]
  rw [show pl.isEmpty = false by cases pl with
   | nil => simp at hl
   | cons _ _ => rfl] at hK
  simp only [Bool.false_eq_true, if_false] at hK
  rw [getD_at hl] at hK
  have e : (if pl[v] > -72057594037927936 then pl[v] else -72057594037927936) = max (-far) pl[v] := by
   rw [Int.max_def, show far = 72057594037927936 from rfl]; split <;> split <;> omega
  rw [e]; exact hK

theorem sallow_ok {i : Nat} {T1 : TypeId} (ha : h[a3]? = some (.cells (askC fr to av pv).toArray T1 (0, 0))) (HA : Vw encT 1 h av al) (hl : al = [] \/ i < al.length) (hK : K (.bool (mkOf al i)) h) : callV Tryz.prog (.func (.func F_seek_start_1) #[] #[ptr a3]) [I i].toArray h K := by
 refine callV_of (l := [I i, ptr a3]) rfl (lk_seek_start_1 _ _ ?_)
 unfold sh_seek_start_1
 have c3 : hcell h ⟨a3, 2, none⟩ = some av := hcell_of ha rfl
 simp only [pField_ptr, Nat.zero_add, pLoad_ptr, c3]
 refine HA.len ?_
 rw [pBin_eql]
 unfold mkOf at hK
 rcases hl with rfl | hl
 ·exact hK
 ·rw [show ((al.length : Int) == 0) = false by simp; intro e; rw [e] at hl; simp at hl, ifV_false]
  refine HA.at1 (e := fun x : Bool => .bool x) (fun _ => rfl) hl ?_
  rw [show al.isEmpty = false by cases al with
   | nil => simp at hl
   | cons _ _ => rfl, Bool.false_or, getD_at hl] at hK
  exact hK

theorem sreach_ok {v : Nat} {a d : Int} (o : Own h0 h (seekL a3 s0 hp r g.n fr to av pv lv bv cv ev F st T)) (HP : Vw encI 1 h pv pl) (hl : pl = [] \/ g.n = pl.length) (hmost : g.n <= 16777216) (inv : SInv g.arcs g.n (piOf pl) B st) (hB : B <= far) (hv : v < g.n) (hd0 : 0 <= d) (hd : d <= far)
  (hK : ∀ F' h', Own h0 h' (seekL a3 s0 hp r g.n fr to av pv lv bv cv ev F' (st.reach (piOf pl) v a d) T) -> K (.tuple #[]) h') : callS Tryz.prog F_seek_search_reach [ptr s0, I v, I d, I a] h K := by
 refine callS_of (lk_seek_search_reach _ _ _ _ ?_)
 unfold sh_seek_search_reach
 simp only [pNil_ptr, pField_ptr, Nat.zero_add]
 refine o.load 1 rfl rfl ?_
 refine spi_ok (o.get 0 rfl) HP (by rcases hl with h | h; exact .inl h; exact .inr (by omega)) ?_
 refine o.load 1 rfl rfl (ho_key o 2 rfl ?_)
 simp only [pExt0, pExt1]
 refine o.load 1 rfl rfl ?_
 have hcl : v < (closL g.n st.ord).length := by rw [closL_len]; exact hv
 refine (o.vw 5 rfl).at1 (e := fun x : Bool => .bool x) (fun _ => rfl) hcl ?_
 rw [closL_get hv, ifV_dec]
 have hf : far = 72057594037927936 := rfl
 refine ⟨fun hc => ?_, fun hc => ?_⟩
 ·have e : st.reach (piOf pl) v a d = st := by unfold SS.reach; rw [if_pos (.inl hc)]
  rw [e] at hK
  exact hK F h o
 rw [pBin_geq, ifV_dec]
 refine ⟨fun hp' => ?_, fun hp' => ?_⟩
 ·have e : st.reach (piOf pl) v a d = st := by unfold SS.reach; rw [if_pos (.inr (by omega))]
  rw [e] at hK
  exact hK F h o
 have hlo := piOf_lo (pl := pl) (v := v)
 have hno : ¬ (v ∈ st.ord \/ far <= piOf pl v) := by rintro (h | h); exact hc h; omega
 have hlab := inv.lo v hv
 have hlen := inv.hplen
 cases hk : lookH st.hp v with
 | some was =>
  simp only [Option.isSome_some, ifV_true]
  refine o.load 1 rfl rfl ((o.vw 3 rfl).atI (by rw [inv.ll]; exact hv) ?_)
  rw [dAt_get, pBin_geq, ifV_dec]
  refine ⟨fun hle => ?_, fun hgt => ?_⟩
  ·have e : st.reach (piOf pl) v a d = st := by unfold SS.reach; rw [if_neg hno, hk]; exact if_pos hle
   rw [e] at hK
   exact hK F h o
  ·have e : st.reach (piOf pl) v a d = { st with hp := ((v : Int), d + piOf pl v) :: st.hp.erase ((v : Int), was), lab := st.lab.set v d, by_ := st.by_.set v a } := by
    unfold SS.reach; rw [if_neg hno, hk]; exact if_neg hgt
   rw [e] at hK
   unfold sh_seek_search_reach_k1
   rw [ifV_true]
   simp only [pNil_ptr, pField_ptr, Nat.zero_add]
   refine o.load 1 rfl rfl ?_
   rw [pBin_add, w64 (by omega) (by omega)]
   obtain ⟨u, e1, _, _, e4, _⟩ := inv.ent _ (lookH_some hk)
   have e1 : v = u := by simp at e1; omega
   subst e1
   dsimp only at e4
   refine ho_lower o 2 rfl (lookH_some hk) (by omega) fun F' h5 o5 => ?_
   unfold sh_seek_search_reach_k2
   simp only [pNil_ptr, pField_ptr, Nat.zero_add]
   refine o5.load 1 rfl rfl (o5.load 1 rfl rfl ?_)
   refine o5.setI (z := d) 3 rfl (by rw [inv.ll]; exact hv) fun h6 o6 => ?_
   refine o6.setI (z := a) 4 rfl (by rw [inv.bl]; exact hv) fun h7 o7 => ?_
   exact hK F' h7 o7
 | none =>
  have e : st.reach (piOf pl) v a d = { st with hp := ((v : Int), d + piOf pl v) :: st.hp, lab := st.lab.set v d, by_ := st.by_.set v a } := by
   unfold SS.reach; rw [if_neg hno, hk]
  rw [e] at hK
  simp only [Option.isSome_none, ifV_false]
  unfold sh_seek_search_reach_k1
  rw [ifV_false]
  simp only [pNil_ptr, pField_ptr, Nat.zero_add]
  refine o.load 1 rfl rfl ?_
  rw [pBin_add, w64 (by omega) (by omega)]
  refine ho_push o 2 rfl (by omega) (lookH_none.1 hk) hv fun F' h5 o5 => ?_
  unfold sh_seek_search_reach_k2
  simp only [pNil_ptr, pField_ptr, Nat.zero_add]
  refine o5.load 1 rfl rfl (o5.load 1 rfl rfl ?_)
  refine o5.setI (z := d) 3 rfl (by rw [inv.ll]; exact hv) fun h6 o6 => ?_
  refine o6.setI (z := a) 4 rfl (by rw [inv.bl]; exact hv) fun h7 o7 => ?_
  exact hK F' h7 o7

theorem sscan_take {l : List A} {p : Nat -> Int} {mk : Nat -> Bool} {v : Nat} {s : SS} {ids : List Nat} {i : Nat} (hi : i < ids.length) : s.scan l p mk v (ids.take (i + 1)) = SS.look l p mk v (s.scan l p mk v (ids.take i)) ids[i] := by
 unfold SS.scan
 rw [List.take_succ_eq_append_getElem hi, List.foldl_append]; rfl

theorem sscan_ok {v : Nat} (hR : g.Right) (o : Own h0 h (seekL a3 s0 hp r g.n fr to av pv lv bv cv ev F st T)) (hN : ∀ h', Ext h0 h' -> NetR h' r g) (HP : ∀ h', Ext h0 h' -> Vw encI 1 h' pv pl) (HA : ∀ h', Ext h0 h' -> Vw encT 1 h' av al) (hl : pl = [] \/ g.n = pl.length) (hla : al = [] \/ g.arcs.length = al.length)
  (inv : SInv g.arcs g.n (piOf pl) B st) (hB : B <= far) (hv : v < g.n) (hvo : v ∈ st.ord) (hvB : dAt st.lab v + W <= B) (hev : st.evs.length + g.arcs.length < 2 ^ 40)
  (hK : ∀ F' ev' h', Own h0 h' (seekL a3 s0 hp r g.n fr to av pv lv bv cv ev' F' (st.scan g.arcs (piOf pl) (mkOf al) v (g.out v)) T) -> K (.tuple #[]) h') : callS Tryz.prog F_seek_search_scan [ptr s0, I v] h K := by
 refine callS_of (lk_seek_search_scan _ _ ?_)
 unfold sh_seek_search_scan
 have hmost := hR.most
 have hmany := hR.many
 simp only [pNil_ptr, pField_ptr, Nat.zero_add]
 refine o.load 1 rfl rfl ?_
 refine outI_ok o hR (hN _ o.ext) fun vl h1 o1 => ?_
 rw [if_pos (by omega), Int.toNat_natCast] at o1
 refine (o1.vw 0 rfl).len ?_
 have hids : ∀ i ∈ g.out v, i < g.arcs.length /\ (arcAt g.arcs i).f = v := (out_spec hR).1 v hv
 have hol : (g.out v).length <= g.arcs.length := outsP_short
 have hh : ∀ a ∈ g.arcs, a.t < g.n /\ (a.w : Int) <= W := arcs_ends hR
 have facts : ∀ i, SInv g.arcs g.n (piOf pl) B (st.scan g.arcs (piOf pl) (mkOf al) v ((g.out v).take i)) /\ (st.scan g.arcs (piOf pl) (mkOf al) v ((g.out v).take i)).ord = st.ord /\ ∀ u ∈ st.ord, dAt (st.scan g.arcs (piOf pl) (mkOf al) v ((g.out v).take i)).lab u = dAt st.lab u := fun i =>
  SS.scan_facts hh inv (fun j hj => hids j (List.mem_of_mem_take hj)) hvo hvB
 have o1 : Own h0 h1 (slR encN 1 T_int vl (g.out v) :: seekL a3 s0 hp r g.n fr to av pv lv bv cv ev F (st.scan g.arcs (piOf pl) (mkOf al) v ((g.out v).take 0)) T) := o1
 refine LoopH_count (g.out v).length (fun i x h' => x.1 = I i /\ ∃ F' ev', (st.scan g.arcs (piOf pl) (mkOf al) v ((g.out v).take i)).evs.length <= st.evs.length + i /\ Own h0 h' (slR encN 1 T_int vl (g.out v) :: seekL a3 s0 hp r g.n fr to av pv lv bv cv ev' F' (st.scan g.arcs (piOf pl) (mkOf al) v ((g.out v).take i)) T)) ⟨rfl, F, ev, Nat.le_refl _, o1⟩ ?_
 clear o1 o
 rintro i ⟨x, ⟨⟩⟩ h' Z hi ⟨hx, F', ev', hevl, o'⟩ hZ
 dsimp only at hx hZ ⊢
 subst hx
 unfold sh_seek_search_scan_L1
 simp only [pBin_lss, ifV_dec]
 refine ⟨fun hlt => ?_, fun hge => ?_⟩
 ·have hlt : i < (g.out v).length := by omega
  obtain ⟨inv', hord', hlab'⟩ := facts i
  have hsc := sscan_take (l := g.arcs) (p := piOf pl) (mk := mkOf al) (v := v) (s := st) hlt
  generalize hst' : st.scan g.arcs (piOf pl) (mkOf al) v ((g.out v).take i) = st' at o' inv' hord' hlab' hevl hsc
  obtain ⟨hil, hif⟩ := hids _ (List.getElem_mem hlt)
  refine (o'.vw 0 rfl).at1 (e := fun x : Nat => I x) (fun _ => rfl) hlt ?_
  simp only [pNil_ptr, pField_ptr, Nat.zero_add]
  refine o'.load 2 rfl rfl ?_
  refine sallow_ok (o'.get 1 rfl) (HA _ o'.ext) (by rcases hla with h | h; exact .inl h; exact .inr (by omega)) ?_
  unfold SS.look at hsc
  cases hm : mkOf al (g.out v)[i] with
  | false =>
   rw [hm] at hsc
   rw [pUn_not, Bool.not_false, ifV_true]
   unfold sh_seek_search_scan_k2
   rw [pBin_add, wI i (by omega)]
   refine hZ (I (i + 1 : Nat), ()) h' hlt ⟨rfl, F', ev', ?_, ?_⟩
   ·rw [hsc]; simp only [Bool.false_eq_true, if_false]; omega
   ·rw [hsc]; exact o'
  | true =>
   rw [hm] at hsc
   simp only [if_true] at hsc
   generalize (g.out v)[i] = j at hil hif hsc
   rw [pUn_not, Bool.not_true, ifV_false]
   refine o'.load 2 rfl rfl ?_
   refine pBuild_ones (cs' := encE ⟨1, 0, j, 0⟩) (by intro p hp; simp at hp; rcases hp with rfl | rfl <;> rfl) rfl rfl ?_
   refine o'.app1 7 (⟨1, 0, j, 0⟩ : Ev) rfl rfl (sizesOk_of rfl) encE_len encE_plain rfl (by decide) (by omega) fun ev2 h2 o2 => ?_
   have hv2 := o2.vw 7 rfl
   refine o2.st1 2 (cs' := seaC r hp a3 lv bv cv ev2) rfl rfl rfl hv2.one hv2.plain fun h3 o3 => ?_
   refine o3.load 2 rfl rfl (arc_ok (hN _ o3.ext) hil fun h4 x4 => ?_)
   simp only [pExt0, pExt1]
   have o4 := o3.more x4
   have ea : arcAt g.arcs j = g.arcs[j] := by simp [arcAt, hil]
   have he := hh _ (List.getElem_mem hil)
   rw [ea] at hsc hif
   generalize g.arcs[j] = a at hsc he hif
   refine o4.box fun x6 h5 o5 => o5.st 0 rfl rfl rfl rfl rfl (encA_plain _) fun h6 o6 => ?_
   refine o6.load 0 rfl rfl (o6.load 3 rfl rfl ((o6.vw 5 rfl).atI (by rw [inv'.ll]; exact hv) (o6.load 0 rfl rfl ?_)))
   have hl2 := hlab' v hvo
   have hb := inv'.lo v hv
   have hw0 : W = 2147483647 := rfl
   have hf : far = 72057594037927936 := rfl
   rw [dAt_get, pBin_add, w64 (by omega) (by omega)]
   have o7 : Own h0 h6 (seekL a3 s0 hp r g.n fr to av pv lv bv cv ev2 F' (st'.ev ⟨1, 0, j, 0⟩) (cellR x6 (encA a) T_api_Arc :: slR encN 1 T_int vl (g.out v) :: T)) := by
    have := o6.front 9 [2, 3, 4, 5, 6, 7, 8, 0, 1] (by decide) (by decide)
    exact this
   refine sreach_ok o7 (HP _ o7.ext) hl hmost (inv'.ev _) hB he.1 (by omega) (by omega) fun F2 h8 o8 => ?_
   unfold sh_seek_search_scan_k2
   rw [pBin_add, wI i (by omega)]
   refine hZ (I (i + 1 : Nat), ()) h8 hlt ⟨rfl, F2, ev2, ?_, ?_⟩
   ·rw [hsc, SS.reach_ord.2]
    show (st'.evs ++ [_]).length <= _
    rw [List.length_append, List.length_singleton]; omega
   ·rw [hsc]
    exact o8.front 9 [8, 0, 1, 2, 3, 4, 5, 6] (by decide) (by decide)
 ·have : (g.out v).take i = g.out v := List.take_of_length_le (by omega)
  rw [this] at o'
  exact hK F' ev' h' o'.tail

end
open Go Go.Mh

section
variable {h0 h : Heap} {L : List Res} {K : Value -> Heap -> Prop}

theorem reverse_ok {v : Value} {xs : List Int} (o : Own h0 h L) (i : Nat) (hi : L[i]? = some (slR encI 1 T_int v xs)) (hl : xs.length < 2 ^ 40)
  (hK : ∀ h', Own h0 h' (L.set i (slR encI 1 T_int v xs.reverse)) -> K (.tuple #[]) h') : callS Tryz.prog F_slices_Reverse_sl_int_int [v] h K := by
 refine callS_of (lk_slices_Reverse_sl_int_int _ ?_)
 unfold sh_slices_Reverse_sl_int_int
 refine (o.vw i hi).len ?_
 rw [pBin_sub, w64 (by omega) (by omega)]
 have es : L.set i (slR encI 1 T_int v xs) = L := set_same hi
 refine LoopH_count xs.length (fun k x h' => x.1 = I k /\ x.2.1 = I ((xs.length : Int) - 1 - k) /\ Own h0 h' (L.set i (slR encI 1 T_int v (rv xs k)))) ⟨rfl, by simp, by rw [rv_zero, es]; exact o⟩ ?_
 rintro k ⟨x, y, ⟨⟩⟩ h Z hk ⟨hx, hy, o⟩ hZ
 dsimp only at hx hy hZ ⊢
 subst hx hy
 unfold sh_slices_Reverse_sl_int_int_L1
 have hi' : (L.set i (slR encI 1 T_int v (rv xs k)))[i]? = some (slR encI 1 T_int v (rv xs k)) := set_get hi
 simp only [pBin_lss, ifV_dec]
 refine ⟨fun hlt => ?_, fun hge => ?_⟩
 ·have e : ((xs.length : Int) - 1 - k) = ((xs.length - 1 - k : Nat) : Int) := by omega
  rw [e]
  have hj : xs.length - 1 - k < (rv xs k).length := by rw [rv_len]; omega
  have hk' : k < (rv xs k).length := by rw [rv_len]; omega
  refine (o.vw i hi').atI hj ((o.vw i hi').atI hk' ?_)
  refine o.setI i hi' hk' fun h1 o1 => ?_
  rw [List.set_set] at o1
  refine o1.setI i (set_get hi) (by rw [List.length_set]; exact hj) fun h2 o2 => ?_
  rw [List.set_set, rv_step (by omega)] at o2
  rw [pBin_add, wI k (by omega), pBin_sub, w64 (by omega) (by omega)]
  exact hZ (I (k + 1 : Nat), I _, ()) h2 (by omega) ⟨rfl, congrArg (fun z : Int => I z) (by omega), o2⟩
 ·rw [rv_done (by omega)] at o
  exact hK h o

end
open Go Go.Mh

section
variable {h0 h : Heap} {L : List Res} {K : Value -> Heap -> Prop} {g : G} {r a3 s0 hp fr to : Nat} {av pv lv bv cv ev : Value} {al : List Bool} {pl : List Int} {F : Nat -> Prop} {st : SS} {T : List Res} {B : Int}

theorem collectP_int {fv : Value} {Pr0 : List Res} {σ : Type} {Q : σ -> Heap -> Prop} {s0 : σ} {next : σ -> List Value -> σ -> Prop} {stop : σ -> Prop} (o : Own h0 h (L ++ Pr0)) (hI : IterP Tryz.prog fv Q Pr0 s0 next stop) (g : σ -> List Int) (g0 : g s0 = [])
  (hf : ∀ s x s', next s x s' -> ∃ a, x = [I a] /\ g s' = g s ++ [a] /\ (g s').length < 2 ^ 40) (hQ : ∀ s (Rs : List Res) h', Own h0 h' (Rs ++ L) -> Q s h')
  (hK : ∀ w h' s, stop s -> Own h0 h' (slR encI 1 T_int w (g s) :: L) -> K w h') : callS Tryz.prog F_slices_Collect_int [fv] h K := by
 refine callS_of (lk_slices_Collect_int _ ?_)
 unfold sh_slices_Collect_int
 refine callS_of (lk_slices_AppendSeq_sl_int_int _ _ ?_)
 unfold sh_slices_AppendSeq_sl_int_int
 refine o.box fun s2 h1 o1 => ?_
 have o2 : Own h0 h1 ((slR encI 1 T_int (.slice none 0 0) (g s0) :: cellR s2 [.slice none 0 0] T_sl_int :: L) ++ Pr0) := by
  rw [g0]; exact Own.nilS (enc := encI) (n := 1) (T := T_int) o1
 refine o2.rangeP hI (fun s x s' hn => by obtain ⟨a, rfl, _⟩ := hf s x s' hn; rfl)
  (fun s Rs => ∃ w, Rs = slR encI 1 T_int w (g s) :: cellR s2 [w] T_sl_int :: L) (fun _ => False) (fun _ _ => False) ⟨_, rfl⟩ ?_ ?_ ?_ (fun _ _ h => h.elim) (fun _ _ _ h => h.elim)
 ·rintro s Rs h' ⟨w, rfl⟩ o'
  exact hQ s [_, _] h' o'
 ·rintro M s x s' Rs Pr h' R hn ⟨w, rfl⟩ o' hN _ _
  obtain ⟨a, rfl, hg, hgl⟩ := hf s x s' hn
  dsimp only [valsOf]
  unfold sh_slices_AppendSeq_sl_int_int_B1
  refine o'.begin 0 rfl fun h4 o4 => ?_
  have o4 : Own h0 h4 (loopR _ _ :: markR _ :: slR encI 1 T_int w (g s) :: cellR s2 [w] T_sl_int :: (L ++ Pr)) := o4
  refine o4.load 3 rfl rfl ?_
  rw [hg, List.length_append] at hgl
  refine o4.app1 2 a rfl rfl (sizesOk_of rfl) (fun _ => rfl) encI_plain rfl (by decide) (by simp at hgl; omega) fun w' h5 o5 => ?_
  have hw' := o5.vw 2 rfl
  refine o5.st1 3 (cs' := [w']) rfl rfl rfl hw'.one hw'.plain fun h6 o6 => ?_
  refine hN _ h6 ⟨w', rfl⟩ ?_
  rw [hg]
  exact o6
 ·rintro s h' Rs hst ⟨w, rfl⟩ o'
  refine o'.load 2 rfl rfl (o'.take1 0 rfl fun h6 o6 => ?_)
  exact hK w h6 s hst (o6.tail.erase 1)

theorem sback_iter {s2 v3 v : Nat} {cs : List Nat} {T1 : TypeId} (hR : g.Right) (hc : Chain g.arcs st.by_ v cs) :
  IterP Tryz.prog (.func (.func F_seek_search_back_1) #[] #[ptr s2, ptr v3]) (σ := Nat)
   (fun _ h => h[s2]? = some (.cells #[ptr s0] T1 (0, 0)) /\ h[s0]? = some (.cells (seaC r hp a3 lv bv cv ev).toArray T_seek_search (0, 0)) /\ Vw encI 1 h bv st.by_ /\ NetR h r g) [cellR v3 [I v] T_int] 0
   (fun i x i' => (∃ hi : i < cs.length, x = [I cs[i]]) /\ i' = i + 1) (fun i => i = cs.length) := by
 rintro yv h0 h Rs K J E ⟨l, rfl⟩ o j0 hQ hY hK
 refine callF_of (l := [yieldV l, ptr s2, ptr v3]) rfl (lk_seek_search_back_1 _ _ _ ?_)
 unfold sh_seek_search_back_1
 have vx : ∀ {Rs : List Res} {h' : Heap} {u : Int} {K : Value -> Prop}, Own h0 h' (Rs ++ [cellR v3 [I u] T_int]) -> K (I u) -> pLoad h' (ptr v3) K := fun {Rs h' u K} o hk => o.load Rs.length (by rw [List.getElem?_append_right (Nat.le_refl _), Nat.sub_self]; rfl) rfl hk
 obtain ⟨q1, q2, q3, _⟩ := hQ _ _ _ j0 o.left
 have c1 : hcell h ⟨s2, 0, none⟩ = some (ptr s0) := hcell_of q1 rfl
 have c2 : hcell h ⟨s0, 3, none⟩ = some bv := hcell_of q2 rfl
 refine pLoad_of rfl c1 ?_
 simp only [pNil_ptr, pField_ptr, Nat.zero_add]
 refine pLoad_of rfl c2 (vx o ?_)
 obtain ⟨z, hz⟩ : ∃ z, st.by_[v]? = some z := by
  cases cs with
  | nil => exact ⟨_, hc⟩
  | cons a r => exact ⟨_, hc.1⟩
 refine q3.atQ hz ?_
 refine LoopH_count cs.length (fun j x h' => ∃ (u : Nat) (z : Int) (Rs' : List Res), Chain g.arcs st.by_ u (cs.drop j) /\ st.by_[u]? = some z /\ x.1 = I z /\ J j Rs' /\ Own h0 h' (Rs' ++ [cellR v3 [I u] T_int])) ⟨v, z, Rs, hc, hz, rfl, j0, o⟩ ?_
 clear q1 q2 q3 c1 c2 hz o j0 hc z
 rintro j ⟨x, ⟨⟩⟩ h' Z hj ⟨u, z, Rs', hch, hz, hx, hjj, o'⟩ hZ
 dsimp only at hx hZ ⊢
 subst hx
 unfold sh_seek_search_back_1_L1
 rcases Nat.lt_or_ge j cs.length with hlt | hge
 ·rw [List.drop_eq_getElem_cons hlt] at hch
  obtain ⟨hc1, hc2, hc3⟩ := hch
  have ez : z = (cs[j] : Int) := by rw [hz] at hc1; injection hc1
  subst ez
  rw [pBin_geq, decide_eq_true (by omega), ifV_true]
  refine hY j _ (j + 1) Rs' [cellR v3 [I u] T_int] h' _ ⟨⟨hlt, rfl⟩, rfl⟩ hjj o' (fun Rs'' h2 hj' o2 => ?_) fun Rs'' h2 he o2 => ?_
  ·rw [ifV_true]
   obtain ⟨q1, q2, q3, q4⟩ := hQ _ _ _ hj' o2.left
   have c1 : hcell h2 ⟨s2, 0, none⟩ = some (ptr s0) := hcell_of q1 rfl
   have c2 : hcell h2 ⟨s0, 0, none⟩ = some (ptr r) := hcell_of q2 rfl
   refine pLoad_of rfl c1 ?_
   simp only [pNil_ptr, pField_ptr, Nat.zero_add]
   refine pLoad_of rfl c2 (arc_ok q4 hc2 fun h3 x3 => ?_)
   simp only [pExt0, pExt1]
   have o3 := o2.more x3
   have ea : arcAt g.arcs cs[j] = g.arcs[cs[j]] := by simp [arcAt, hc2]
   rw [ea] at hc3
   generalize g.arcs[cs[j]] = a at hc3
   refine o3.box fun x5 h4 o4 => o4.st 0 rfl rfl rfl rfl rfl (encA_plain _) fun h5 o5 => o5.load 0 rfl rfl ?_
   have o5 : Own h0 h5 ((cellR x5 (encA a) T_api_Arc :: Rs'') ++ [cellR v3 [I u] T_int]) := o5
   refine o5.st1 (Rs''.length + 1) (cs' := [I a.f]) (by rw [List.getElem?_append_right (by simp), List.length_cons, Nat.sub_self]; rfl) rfl rfl rfl rfl fun h6 o6 => ?_
   have o6 : Own h0 h6 (Rs'' ++ [cellR v3 [I a.f] T_int]) := by
    rw [List.set_append_right _ _ (by simp), List.length_cons, Nat.sub_self] at o6
    exact o6.tail
   obtain ⟨q1, q2, q3, q4⟩ := hQ _ _ _ hj' o6.left
   have c1 : hcell h6 ⟨s2, 0, none⟩ = some (ptr s0) := hcell_of q1 rfl
   have c2 : hcell h6 ⟨s0, 3, none⟩ = some bv := hcell_of q2 rfl
   refine pLoad_of rfl c1 (pLoad_of rfl c2 (vx o6 ?_))
   obtain ⟨z, hz⟩ : ∃ z, st.by_[a.f]? = some z := by
    cases hd : cs.drop (j + 1) with
    | nil => rw [hd] at hc3; exact ⟨_, hc3⟩
    | cons b r => rw [hd] at hc3; exact ⟨_, hc3.1⟩
   refine q3.atQ hz ?_
   exact hZ (I z, ()) h6 hlt ⟨a.f, z, Rs'', hc3, hz, rfl, hj', o6⟩
  ·rw [ifV_false]
   exact hK _ _ (.inr he) o2.left
 ·have hj' : j = cs.length := by omega
  subst hj'
  rw [List.drop_length] at hch
  have ez : z = -1 := by
   have : st.by_[u]? = some (-1) := hch
   rw [hz] at this; injection this
  subst ez
  rw [pBin_geq, decide_eq_false (by omega), ifV_false]
  exact hK _ _ (.inl ⟨_, rfl, hjj⟩) o'.left

def foundD (f : SS × Bool) (to : Nat) : Int := if f.2 then dAt f.1.lab to else far

def FoundK (h : Heap) (g : G) (f : SS × Bool) (to : Nat) (K : Value -> Heap -> Prop) : Prop :=
 ∀ av ev cs h', (f.2 = true -> Chain g.arcs f.1.by_ to cs) -> (f.2 = false -> cs = []) -> Own h h' [slR encI 1 T_int av (nI cs).reverse, slR encE 4 T_api_Event ev f.1.evs] -> K (.agg #[I (foundD f to), av, ev]) h'

theorem srun_ok {fin : SS × Bool} (hR : g.Right) (o : Own h0 h (seekL a3 s0 hp r g.n fr to av pv lv bv cv sl0 F (SS.zero g.n) [])) (hN : ∀ h', Ext h0 h' -> NetR h' r g) (HP : ∀ h', Ext h0 h' -> Vw encI 1 h' pv pl) (HA : ∀ h', Ext h0 h' -> Vw encT 1 h' av al) (hl : pl = [] \/ g.n = pl.length) (hla : al = [] \/ g.arcs.length = al.length)
  (hsm : (g.n + 1) * (g.arcs.length + 1) < 2 ^ 39) (hfr : fr < g.n) (hto : to < g.n) (hfin : SS.run g.arcs (piOf pl) (mkOf al) g.out to (g.n + 1) (SS.start (piOf pl) g.n fr) = fin) (hK : FoundK h0 g fin to K) : callS Tryz.prog F_seek_search_run [ptr s0, I fr, I to] h K := by
 refine callS_of (lk_seek_search_run _ _ _ ?_)
 unfold sh_seek_search_run
 have hmost := hR.most
 have hmany := hR.many
 have hw0 : W = 2147483647 := rfl
 have hf : far = 72057594037927936 := rfl
 refine o.box fun t6 h1 o1 => ?_
 have o1 : Own h0 h1 (seekL a3 s0 hp r g.n fr to av pv lv bv cv sl0 F (SS.zero g.n) [cellR t6 [I 0, sl0, sl0] T_api_Found]) := o1.rot
 refine sreach_ok (B := 0) o1 (HP _ o1.ext) hl hmost SInv.zero (by omega) hfr (by omega) (by omega) fun F1 h2 o2 => ?_
 have o2 : Own h0 h2 (seekL a3 s0 hp r g.n fr to av pv lv bv cv sl0 F1 (SS.start (piOf pl) g.n fr) [cellR t6 [I 0, sl0, sl0] T_api_Found]) := o2
 have hs0 : (SS.start (piOf pl) g.n fr).ord = [] := SS.reach_ord.1
 have he0 : (SS.start (piOf pl) g.n fr).evs = [] := SS.reach_ord.2
 have inv0 : SInv g.arcs g.n (piOf pl) 0 (SS.start (piOf pl) g.n fr) := SInv.zero.reach hfr (by omega) (by omega) (.inl rfl)
 refine LoopH_down (k0 := g.n + 1 - (SS.start (piOf pl) g.n fr).ord.length) (fun k _ h' => ∃ (st : SS) (F : Nat -> Prop) (ev : Value), k = g.n + 1 - st.ord.length /\ SS.run g.arcs (piOf pl) (mkOf al) g.out to (g.n + 1 - st.ord.length) st = fin /\ SInv g.arcs g.n (piOf pl) (st.ord.length * W) st /\ st.evs.length <= st.ord.length * (g.arcs.length + 1) /\
  Own h0 h' (seekL a3 s0 hp r g.n fr to av pv lv bv cv ev F st [cellR t6 [I 0, sl0, sl0] T_api_Found])) ⟨_, F1, sl0, rfl, by rw [hs0]; exact hfin, by rw [hs0]; simpa using inv0, by rw [he0]; simp, o2⟩ ?_
 clear o o2 hfin inv0 hs0 he0
 rintro k ⟨⟩ h' Z ⟨st, F, ev, hk, hrun, inv, hevl, o⟩ hZ
 unfold sh_seek_search_run_L1
 simp only [pNil_ptr, pField_ptr, Nat.zero_add]
 have hol := inv.len
 have hevb : st.evs.length + g.arcs.length + 1 < 2 ^ 40 := by
  have := Nat.mul_le_mul_right (g.arcs.length + 1) (show st.ord.length <= g.n + 1 by omega)
  have h2 := Nat.mul_le_mul_right (g.arcs.length + 1) (show 1 <= g.n + 1 by omega)
  omega
 refine o.load 1 rfl rfl (ho_pop o 2 rfl (fun hlz h3 o3 => ?_) fun p hlp F2 h3 o3 => ?_)
 ·simp only [pExt0, pExt1, pExt2]
  rw [pUn_not, Bool.not_false, ifV_true]
  have hf2 : fin = (st, false) := by
   rw [<- hrun]
   cases g.n + 1 - st.ord.length with
   | zero => rfl
   | succ k => simp only [SS.run, hlz]
  subst hf2
  have hv := o3.vw 6 rfl
  refine o3.load 1 rfl rfl ?_
  refine pBuild_ones (cs' := [I far, sl0, ev]) ?_ rfl rfl ?_
  ·intro p hp
   simp at hp
   rcases hp with rfl | rfl
   ·rfl
   ·exact hv.one
  refine o3.st (l := [I far, sl0, ev]) (cs' := [I far, sl0, ev]) 7 rfl rfl rfl rfl rfl ?_ fun h4 o4 => ?_
  ·intro u hu
   simp at hu
   rcases hu with rfl | rfl | rfl
   ·rfl
   ·rfl
   ·exact hv.plain
  ·refine o4.ldN 7 rfl rfl rfl ?_
   refine hK sl0 ev [] h4 (fun h => by cases h) (fun _ => rfl) ?_
   exact Own.nilS (enc := encI) (n := 1) (T := T_int) (o4.sel [6] (by decide))
 ·simp only [pExt0, pExt1, pExt2]
  rw [pUn_not, Bool.not_true, ifV_false]
  have hm := (least_spec hlp).1
  obtain ⟨u, hu, hun, hno, hkey, hpf, hby⟩ := inv.ent p hm
  obtain ⟨pv', key⟩ := p
  dsimp only at hu hkey o3 ⊢
  subst hu
  have hroom := inv.room (by intro e; rw [e] at hm; cases hm)
  have hlab := inv.lo u hun
  refine o3.load 1 rfl rfl ?_
  refine o3.setAt (a := true) 5 rfl encT_len (encT_plain _) (by rw [closL_len]; exact hun) rfl fun h4 o4 => ?_
  refine o4.load 1 rfl rfl (o4.load 1 rfl rfl ((o4.vw 3 rfl).atI (by rw [inv.ll]; exact hun) ?_))
  rw [dAt_get]
  refine pBuild_ones (cs' := encE ⟨0, 0, u, dAt st.lab u⟩) (by intro p hp; simp at hp; rcases hp with rfl | rfl | rfl <;> rfl) rfl rfl ?_
  refine o4.app1 6 (⟨0, 0, u, dAt st.lab u⟩ : Ev) rfl rfl (sizesOk_of rfl) encE_len encE_plain rfl (by decide) (by omega) fun ev2 h5 o5 => ?_
  have hv2 := o5.vw 6 rfl
  refine o5.st1 1 (cs' := seaC r hp a3 lv bv cv ev2) rfl rfl rfl hv2.one hv2.plain fun h6 o6 => ?_
  obtain ⟨st1, hst1⟩ : ∃ st1, st1 = st.pop u key := ⟨_, rfl⟩
  have o6 : Own h0 h6 (seekL a3 s0 hp r g.n fr to av pv lv bv cv ev2 F2 st1 [cellR t6 [I 0, sl0, sl0] T_api_Found]) := by
   subst hst1
   show Own h0 h6 (_ :: _ :: _ :: _ :: _ :: slR encT 1 T_bool cv (closL g.n (st.ord ++ [u])) :: _)
   rw [<- closL_set]
   exact o6
  have inv1 : SInv g.arcs g.n (piOf pl) (st.ord.length * W) st1 := by subst hst1; exact inv.popped hm
  have ho1 : st1.ord = st.ord ++ [u] := by subst hst1; rfl
  have hl1 : st1.lab = st.lab := by subst hst1; rfl
  have he1 : st1.evs.length = st.evs.length + 1 := by subst hst1; simp [SS.pop]
  rw [show g.n + 1 - st.ord.length = (g.n - st.ord.length) + 1 by omega] at hrun
  simp only [SS.run, hlp, Int.toNat_natCast] at hrun
  rw [<- hst1] at hrun
  rw [pBin_eql]
  by_cases hut : u = to
  ·subst hut
   rw [beq_self_eq_true, ifV_true]
   rw [if_pos rfl] at hrun
   subst hrun
   obtain ⟨cs, hch, hcl⟩ := inv1.chain st.ord.length st.ord [] u (Nat.le_refl _) ho1
   refine callS_of (lk_seek_search_back _ _ ?_)
   unfold sh_seek_search_back
   refine o6.box fun s2 h7 o7 => o7.box fun v3 h8 o8 => ?_
   have o9 : Own h0 h8 ((cellR s2 [ptr s0] T_p_seek_search :: seekL a3 s0 hp r g.n fr u av pv lv bv cv ev2 F2 st1 [cellR t6 [I 0, sl0, sl0] T_api_Found]) ++ [cellR v3 [I u] T_int]) := o8.rot
   refine collectP_int o9 (sback_iter (r := r) (hp := hp) (a3 := a3) (s0 := s0) (s2 := s2) (v3 := v3) (lv := lv) (bv := bv) (cv := cv) (ev := ev2) (st := st1) (T1 := T_p_seek_search) hR hch) (fun s => (nI cs).take s) rfl (fun s x s' => ?_) (fun s Rs h' o' => ?_) fun w h9 s hs o10 => ?_
   ·rintro ⟨⟨hi, rfl⟩, rfl⟩
    refine ⟨(cs[s] : Int), rfl, ?_, ?_⟩
    ·rw [List.take_succ_eq_append_getElem (by rw [nI_len]; exact hi)]
     simp [nI]
    ·rw [List.length_take, nI_len]; omega
   ·have q : ∀ (i : Nat) (R : Res), (cellR s2 [ptr s0] T_p_seek_search :: seekL a3 s0 hp r g.n fr u av pv lv bv cv ev2 F2 st1 [cellR t6 [I 0, sl0, sl0] T_api_Found])[i]? = some R -> (Rs ++ (cellR s2 [ptr s0] T_p_seek_search :: seekL a3 s0 hp r g.n fr u av pv lv bv cv ev2 F2 st1 [cellR t6 [I 0, sl0, sl0] T_api_Found]))[Rs.length + i]? = some R := fun i R hi => by
     rw [List.getElem?_append_right (by omega), show Rs.length + i - Rs.length = i by omega]; exact hi
    exact ⟨o'.get _ (q 0 _ rfl), o'.get _ (q 2 _ rfl), o'.vw _ (q 5 _ rfl), hN _ o'.ext⟩
   ·subst hs
    rw [List.take_of_length_le (by rw [nI_len]; exact Nat.le_refl _)] at o10
    refine reverse_ok o10 0 rfl (by rw [nI_len]; omega) fun h11 o11 => ?_
    have hv2 := o11.vw 8 rfl
    have hvw := o11.vw 0 rfl
    refine o11.load 3 rfl rfl ((o11.vw 5 rfl).atI (by rw [hl1, inv.ll]; exact hun) (o11.load 3 rfl rfl ?_))
    rw [dAt_get]
    refine pBuild_ones (cs' := [I (dAt st1.lab u), w, ev2]) ?_ rfl rfl ?_
    ·intro p hp
     simp at hp
     rcases hp with rfl | rfl | rfl
     ·rfl
     ·exact hvw.one
     ·exact hv2.one
    refine o11.st (l := [I (dAt st1.lab u), w, ev2]) (cs' := [I (dAt st1.lab u), w, ev2]) 9 rfl rfl rfl rfl rfl ?_ fun h12 o12 => ?_
    ·intro u hu
     simp at hu
     rcases hu with rfl | rfl | rfl
     ·rfl
     ·exact hvw.plain
     ·exact hv2.plain
    ·refine o12.ldN 9 rfl rfl rfl ?_
     exact hK w ev2 cs h12 (fun _ => hch) (fun h => by cases h) (o12.sel [0, 8] (by decide))
  ·rw [show ((u : Int) == (to : Int)) = false by simp; omega, ifV_false]
   rw [if_neg hut] at hrun
   have hB : (st.ord.length : Int) * W + W <= far := by
    have h1 : (st.ord.length : Int) + 1 <= 16777216 := by omega
    have := Int.mul_le_mul_of_nonneg_right h1 (show (0 : Int) <= W by decide)
    rw [Int.add_mul, Int.one_mul] at this
    omega
   have inv1' := inv1.mono (B' := st.ord.length * W + W) (by omega)
   have huo : u ∈ st1.ord := by rw [ho1]; simp
   have hids : ∀ i ∈ g.out u, i < g.arcs.length /\ (arcAt g.arcs i).f = u := (out_spec hR).1 u hun
   have hvB : dAt st1.lab u + W <= st.ord.length * W + W := by rw [hl1]; omega
   obtain ⟨f1, f2, f3⟩ := SS.scan_facts (mk := mkOf al) (arcs_ends hR) inv1' hids huo hvB
   refine sscan_ok hR o6 hN HP HA hl hla inv1' hB hun huo hvB (by omega) fun F3 ev3 h7 o7 => ?_
   have hel : (st1.scan g.arcs (piOf pl) (mkOf al) u (g.out u)).evs.length <= st1.evs.length + (g.out u).length := by
    have : ∀ (ids : List Nat) (s : SS), (s.scan g.arcs (piOf pl) (mkOf al) u ids).evs.length <= s.evs.length + ids.length := by
     intro ids
     induction ids with
     | nil => intro s; exact Nat.le_refl _
     | cons i ids ih =>
      intro s
      have h1 := ih (SS.look g.arcs (piOf pl) (mkOf al) u s i)
      have h2 : (SS.look g.arcs (piOf pl) (mkOf al) u s i).evs.length <= s.evs.length + 1 := by
       unfold SS.look
       split
       ·rw [SS.reach_ord.2]
        show (s.evs ++ [_]).length <= _
        simp
       ·omega
      show ((SS.look g.arcs (piOf pl) (mkOf al) u s i).scan g.arcs (piOf pl) (mkOf al) u ids).evs.length <= _
      rw [List.length_cons]; omega
    exact this _ _
   have houl : (g.out u).length <= g.arcs.length := outsP_short
   have hord2 : (st1.scan g.arcs (piOf pl) (mkOf al) u (g.out u)).ord.length = st.ord.length + 1 := by rw [f2, ho1]; simp
   refine hZ _ h7 _ (by rw [hk]; omega) ⟨st1.scan g.arcs (piOf pl) (mkOf al) u (g.out u), F3, ev3, rfl, ?_, ?_, ?_, o7⟩
   ·rw [hord2, show g.n + 1 - (st.ord.length + 1) = g.n - st.ord.length by omega]; exact hrun
   ·refine f1.mono ?_
    rw [hord2, Int.natCast_add, Int.add_mul]; show _ <= _ + 1 * W; omega
   ·rw [hord2, Nat.add_mul]; omega

end
open Go Go.Mh

section
variable {h0 h : Heap} {L : List Res} {K : Value -> Heap -> Prop} {g : G} {r fr to : Nat} {av pv : Value} {al : List Bool} {pl : List Int}

theorem sstart_ok (hR : g.Right) (hN : NetR h r g)
  (hap : Mh.plainCell av = true) (hpp : Mh.plainCell pv = true)
  (hK : ∀ a3 s0 hp lv bv cv F h', Own h h' (seekL a3 s0 hp r g.n fr to av pv lv bv cv sl0 F (SS.zero g.n) []) -> K (ptr s0) h') : callS Tryz.prog F_seek_start [ptr r, .agg (askC fr to av pv).toArray] h K := by
 refine callS_of (lk_seek_start _ _ ?_)
 unfold sh_seek_start
 have hmost := hR.most
 refine (Own.start h).box fun a3 h1 o => ?_
 have o : Own h h1 [cellR a3 (askC fr to av pv) T_api_Ask] := o
 refine cutP_of (fun y h' => ∃ s0 hp lv cv F, y = (ptr s0, ()) /\ Own h h' [cellR s0 [ptr r, ptr hp, lv, sl0, cv, .nilFunc, .nilFunc, sl0] T_seek_search, slR encI 1 T_int64 lv (List.replicate g.n 0), slR encT 1 T_bool cv (List.replicate g.n false), hpR F hp [] g.n, cellR a3 (askC fr to av pv) T_api_Ask]) (fun J hJ => ?_) ?_
 ·refine nodes_ok (hN.more o.ext) (ho_new o fun F hp h2 o => nodes_ok (hN.more o.ext) ?_)
  have fin : ∀ (lv cv : Value) (h' : Heap), lv.cells = #[lv] -> cv.cells = #[cv] -> Own h h' [slR encI 1 T_int64 lv (List.replicate g.n 0), slR encT 1 T_bool cv (List.replicate g.n false), hpR F hp [] g.n, cellR a3 (askC fr to av pv) T_api_Ask] ->
    pBuild [(.pointer none), (.pointer none), (.slice none 0 0), (.slice none 0 0), (.slice none 0 0), .nilFunc, .nilFunc, (.slice none 0 0)] [(0, 1, ptr r), (1, 1, ptr hp), (2, 1, lv), (4, 1, cv)] fun t16 => pBox T_seek_search t16 h' fun t17 h_8 => J (t17, ()) h_8 := fun lv cv h' h1 h2 o => by
   refine pBuild_ones (cs' := [ptr r, ptr hp, lv, sl0, cv, .nilFunc, .nilFunc, sl0]) ?_ rfl rfl ?_
   ·intro p hp
    simp at hp
    rcases hp with rfl | rfl | rfl | rfl
    ·rfl
    ·rfl
    ·exact h1
    ·exact h2
   exact o.box fun s0 h8 o => hJ _ _ ⟨s0, hp, lv, cv, F, rfl, o⟩
  refine ⟨?_, ?_⟩
  ·refine o.make (enc := encI) (n := 1) (a := 0) rfl (by omega) (by omega) fun lv h3 o => nodes_ok (hN.more o.ext) ?_
   refine o.make (enc := encT) (n := 1) (a := false) rfl (by omega) (by omega) fun cv h4 o => ?_
   exact fin lv cv h4 (o.vw 1 rfl).one (o.vw 0 rfl).one o.swap
  ·refine nodes_ok (hN.more o.ext) ⟨?_, ?_⟩
   ·refine o.make (enc := encI) (n := 1) (a := 0) rfl (by omega) (by omega) fun lv h3 o => ?_
    refine o.make (enc := encT) (n := 1) (a := false) rfl (by omega) (by omega) fun cv h4 o => ?_
    exact fin lv cv h4 (o.vw 1 rfl).one (o.vw 0 rfl).one o.swap
   ·refine o.make (enc := encT) (n := 1) (a := false) rfl (by omega) (by omega) fun cv h3 o => ?_
    refine o.make (enc := encI) (n := 1) (a := 0) rfl (by omega) (by omega) fun lv h4 o => ?_
    exact fin lv cv h4 (o.vw 0 rfl).one (o.vw 1 rfl).one o
 ·rintro ⟨y, ⟨⟩⟩ h16 ⟨s0, hp, lv, cv, F, e, o⟩
  injection e with e _
  dsimp only
  subst e
  unfold sh_seek_start_C1
  refine o.build (enc := encI) (n := 1) [-1] rfl (sizesOk_of rfl) rfl fun w h17 o => ?_
  refine nodes_ok (hN.more o.ext) ?_
  refine repeat_int o (o.vw 0 rfl) hmost fun bv h18 o => ?_
  have hbv := o.vw 0 rfl
  simp only [pNil_ptr, pField_ptr, Nat.zero_add]
  refine o.st1 2 (cs' := [ptr r, ptr hp, lv, bv, cv, .nilFunc, .nilFunc, sl0]) rfl rfl rfl hbv.one hbv.plain fun h20 o => ?_
  refine o.st1 2 (cs' := [ptr r, ptr hp, lv, bv, cv, .func (.func F_seek_start_1) #[] #[ptr a3], .nilFunc, sl0]) rfl rfl rfl rfl rfl fun h21 o => ?_
  refine o.st1 2 (cs' := seaC r hp a3 lv bv cv sl0) rfl rfl rfl rfl rfl fun h22 o => ?_
  refine hK a3 s0 hp lv bv cv F h22 ?_
  have e := o.sel [6, 2, 5, 3, 0, 4] (by decide)
  have o' : Own h h22 [cellR a3 (askC fr to av pv) T_api_Ask, cellR s0 (seaC r hp a3 lv bv cv sl0) T_seek_search, hpR F hp [] g.n, slR encI 1 T_int64 lv (List.replicate g.n 0), slR encI 1 T_int bv (List.replicate g.n (-1)), slR encT 1 T_bool cv (closL g.n [])] := by
   rw [<- closL_nil]; exact e
  exact (Own.nilS (enc := encE) (n := 4) (T := T_api_Event) o').sel [1, 2, 3, 4, 5, 6, 0] (by decide)

def seekF (g : G) (pl : List Int) (al : List Bool) (fr to : Nat) : SS × Bool := SS.run g.arcs (piOf pl) (mkOf al) g.out to (g.n + 1) (SS.start (piOf pl) g.n fr)

theorem snode_ok {n2 v : Nat} {T1 : TypeId} (hn : h[n2]? = some (.cells #[ptr r] T1 (0, 0))) (hN : NetR h r g) (hv : v < g.n) (hK : K (.bool true) h) : callV Tryz.prog (.func (.func F_seek_Run_1) #[] #[ptr n2]) [I v].toArray h K := by
 refine callV_of (l := [I v, ptr n2]) rfl (lk_seek_Run_1 _ _ ?_)
 unfold sh_seek_Run_1
 rw [pBin_geq, decide_eq_true (by omega), ifV_true]
 have c : hcell h ⟨n2, 0, none⟩ = some (ptr r) := hcell_of hn rfl
 refine pLoad_of rfl c (nodes_ok hN ?_)
 rw [pBin_lss, decide_eq_true (by omega)]
 exact hK

theorem fitsB_ok {n : Nat} (H : Vw encT 1 h av al) (hl : al = [] \/ n = al.length) (hK : K (.bool true) h) : callS Tryz.prog F_seek_fits_bool [av, I n] h K := by
 refine callS_of (lk_seek_fits_bool _ _ ?_)
 unfold sh_seek_fits_bool
 refine H.len ?_
 rw [pBin_eql, ifV_beq]
 refine ⟨fun _ => hK, fun hne => H.len ?_⟩
 rw [pBin_eql]
 rcases hl with rfl | rfl
 ·exact absurd rfl hne
 ·rw [beq_self_eq_true]; exact hK
theorem fitsI_ok {n : Nat} (H : Vw encI 1 h pv pl) (hl : pl = [] \/ n = pl.length) (hK : K (.bool true) h) : callS Tryz.prog F_seek_fits_int64 [pv, I n] h K := by
 refine callS_of (lk_seek_fits_int64 _ _ ?_)
 unfold sh_seek_fits_int64
 refine H.len ?_
 rw [pBin_eql, ifV_beq]
 refine ⟨fun _ => hK, fun hne => H.len ?_⟩
 rw [pBin_eql]
 rcases hl with rfl | rfl
 ·exact absurd rfl hne
 ·rw [beq_self_eq_true]; exact hK

theorem seekRun_ok (hR : g.Right) (hN : NetR h r g) (HP : Vw encI 1 h pv pl) (HA : Vw encT 1 h av al) (hl : pl = [] \/ g.n = pl.length) (hla : al = [] \/ g.arcs.length = al.length)
  (hsm : (g.n + 1) * (g.arcs.length + 1) < 2 ^ 39) (hfr : fr < g.n) (hto : to < g.n)
  (h1 : fr = to -> ∀ h', Ext h h' -> K (.tuple #[.agg #[I 0, sl0, sl0], I 0]) h')
  (h2 : fr ≠ to -> FoundK h g (seekF g pl al fr to) to fun v h' => K (.tuple #[v, I 0]) h') : callS Tryz.prog F_seek_Run [ptr r, .agg (askC fr to av pv).toArray] h K := by
 refine callS_of (lk_seek_Run _ _ ?_)
 unfold sh_seek_Run
 refine (Own.start h).box fun n2 h1' o1 => o1.box fun a3 h2' o2 => o2.box fun t4 h3 o3 => ?_
 have o3 : Own h h3 [cellR t4 [I 0, sl0, sl0] T_api_Found, cellR a3 (askC fr to av pv) T_api_Ask, cellR n2 [ptr r] T_p_net_Net] := o3
 refine o3.load 2 rfl rfl ?_
 simp only [pEq_ptr_nil, Option.isNone_some, ifV_false]
 have hN3 := hN.more o3.ext
 refine cutP_of (fun y h' => y.1 = .bool false /\ h' = h3) (fun J hJ => ?_) ?_
 ·simp only [pField_ptr, Nat.zero_add]
  refine o3.load 1 rfl rfl (snode_ok (o3.get 2 rfl) hN3 hfr ?_)
  rw [pUn_not, Bool.not_true, ifV_false]
  refine o3.load 1 rfl rfl (snode_ok (o3.get 2 rfl) hN3 hto ?_)
  rw [pUn_not, Bool.not_true, ifV_false]
  refine o3.load 1 rfl rfl (o3.load 2 rfl rfl (arcs_ok hN3 ⟨o3.load 1 rfl rfl rfl, ?_⟩))
  refine fitsB_ok (HA.more o3.ext) hla ?_
  rw [pUn_not, Bool.not_true, ifV_false]
  refine o3.load 1 rfl rfl (o3.load 2 rfl rfl (nodes_ok hN3 ⟨o3.load 1 rfl rfl rfl, ?_⟩))
  refine fitsI_ok (HP.more o3.ext) hl ?_
  rw [pUn_not, Bool.not_true]
  exact hJ _ _ ⟨rfl, rfl⟩
 ·rintro ⟨y, ⟨⟩⟩ h' ⟨hy, rfl⟩
  dsimp only at hy ⊢
  subst hy
  unfold sh_seek_Run_C1
  rw [ifV_false]
  simp only [pField_ptr, Nat.zero_add]
  refine o3.load 1 rfl rfl (o3.load 1 rfl rfl ?_)
  rw [pBin_eql]
  by_cases e : fr = to
  ·rw [show ((fr : Int) == (to : Int)) = true by simp [e], ifV_true]
   refine pBuild_ones (cs' := [I 0, sl0, sl0]) (by intro p hp; cases hp) rfl rfl ?_
   refine o3.st (l := [I 0, sl0, sl0]) (cs' := [I 0, sl0, sl0]) 0 rfl rfl rfl rfl rfl ?_ fun h4 o4 => o4.ldN 0 rfl rfl rfl (h1 e h4 o4.ext)
   intro u hu
   simp at hu
   rcases hu with rfl | rfl <;> rfl
  ·rw [show ((fr : Int) == (to : Int)) = false by simp; omega, ifV_false]
   refine o3.load 2 rfl rfl (o3.ldN 1 rfl rfl rfl (o3.load 1 rfl rfl (o3.load 1 rfl rfl ?_)))
   refine sstart_ok hR hN3 HA.plain HP.plain fun b3 s0 hp lv bv cv F h5 o5 => ?_
   have o6 := o3.frame o5
   refine ⟨o6.load 8 rfl rfl rfl, o6.load 8 rfl rfl rfl, ?_⟩
   refine srun_ok hR o5 (fun h' x => hN3.more x) (fun h' x => (HP.more o3.ext).more x) (fun h' x => (HA.more o3.ext).more x) hl hla hsm hfr hto rfl fun wv ev cs h7 c1 c2 o7 => ?_
   have o8 := o3.frame o7
   have hv1 := o8.vw 0 rfl
   have hv2 := o8.vw 1 rfl
   refine o8.st (l := [I (foundD (seekF g pl al fr to) to), wv, ev]) (cs' := [I (foundD (seekF g pl al fr to) to), wv, ev]) 2 rfl rfl rfl rfl rfl ?_ fun h9 o9 => o9.ldN 2 rfl rfl rfl ?_
   ·intro u hu
    simp at hu
    rcases hu with rfl | rfl | rfl
    ·rfl
    ·exact hv1.plain
    ·exact hv2.plain
   ·exact h2 e wv ev cs h9 c1 c2 (o9.sel [0, 1] (by decide))

end
open Go Go.Mh

section
variable {h0 h : Heap} {L : List Res} {K : Value -> Heap -> Prop} {g : G} {r : Nat} {av pv : Value} {al : List Bool}

def rawR (vx vy va : Value) (g : G) : Res := sepR [xR vx g.X, xR vy g.Y, aR va g.arcs]
theorem rawR_view {vx vy va : Value} {i : Nat} (o : Own h0 h L) (hi : L[i]? = some (rawR vx vy va g)) : RawL h vx vy va g := by
 have o1 := o.out i hi
 exact ⟨o1.vw 0 rfl, o1.vw 1 rfl, o1.vw 2 rfl⟩

def draftV (vb vd : Value) (mk kd cl : Int) (rl : Bool) : Value := .agg #[vb, .int .u8 mk, .bool rl, vd, .int .u8 kd, .int .u8 cl]
abbrev draftC (vb vd : Value) (mk kd cl : Int) (rl : Bool) : List Value := [vb, .int .u8 mk, .bool rl, vd, .int .u8 kd, .int .u8 cl]

theorem raw31_ok {vb vd : Value} {bs : List Int} {mk kd cl : Int} {rl : Bool} (o : Own h0 h L) (H : Vw encU8 1 h vb bs)
  (hK : ∀ (g : G) vx vy va h', Few g -> (∀ u ∈ [I g.n, vx, vy, va], Mh.plainCell u = true) -> Own h0 h' (rawR vx vy va g :: L) -> K (.agg #[I g.n, vx, vy, va]) h') : callS Tryz.prog F_milestoneref31_Draft_Raw [draftV vb vd mk kd cl rl] h K := by
 refine callS_of (lk_milestoneref31_Draft_Raw _ ?_)
 unfold sh_milestoneref31_Draft_Raw
 refine (Own.start h).box fun d1 h1 o1 => ?_
 have o1 : Own h h1 [cellR d1 (draftC vb vd mk kd cl rl) T_milestoneref31_Draft] := o1
 refine o1.box fun t2 h2 o2 => ?_
 simp only [pField_ptr, Nat.zero_add]
 refine o2.load 1 rfl rfl (o2.load 1 rfl rfl ((H.more o2.ext).len ?_))
 have e : (if (60 : Int) < bs.length then 60 else (bs.length : Int)) = ((min bs.length 60 : Nat) : Int) := by split <;> omega
 rw [pMin_int, e]
 refine H.sub (a := 0) (j := min bs.length 60) encU8_len rfl rfl (by omega) (by omega) fun vb' hb => ⟨sizesOk_of (by obtain ⟨b, c, e⟩ := hb.isSl; subst e; rfl), ?_⟩
 refine o2.box fun d h3 o3 => ?_
 have o4 : Own h h3 (dR d vb' 0 :: [cellR t2 [I 0, sl0, sl0, sl0] T_api_Raw, cellR d1 (draftC vb vd mk kd cl rl) T_milestoneref31_Draft]) := by obtain ⟨b, c, e⟩ := hb.isSl; subst e; exact o3
 refine raw_ok o4 hb fun g vx vy va a' h4 hg o5 => ?_
 have hp : ∀ u ∈ [I g.n, vx, vy, va], Mh.plainCell u = true := by
  intro u hu
  simp at hu
  rcases hu with rfl | rfl | rfl | rfl
  ·rfl
  ·exact (o5.vw 0 rfl).plain
  ·exact (o5.vw 1 rfl).plain
  ·exact (o5.vw 2 rfl).plain
 refine o5.st (l := [I g.n, vx, vy, va]) (cs' := [I g.n, vx, vy, va]) 4 rfl rfl rfl rfl rfl hp fun h5 o6 => o6.ldN 4 rfl rfl rfl ?_
 have o7 := o6.front 6 [0, 1, 2] (by decide) (by decide)
 exact hK g vx vy va h5 hg hp (o.frame (Own.sep (l := [_, _, _]) (L := []) o7))

structure PlanOk (p : Pl31) : Prop where
 w : p.wrong = 0
 d1 : p.draws.length <= 12
 d2 : ∀ x ∈ p.draws, 0 <= x /\ x <= 4294967295

theorem plan31_ok {vb vd : Value} {ds : List Int} {mk kd cl : Int} {rl : Bool} (o : Own h0 h L) (H : Vw encU 1 h vd ds) (hr : ∀ x ∈ ds, 0 <= x /\ x <= 4294967295) (r1 : 0 <= mk /\ mk <= 255) (r2 : 0 <= kd /\ kd <= 255) (r3 : 0 <= cl /\ cl <= 255)
  (hK : ∀ p dv h', PlanOk p -> (∀ u ∈ plC p dv, Mh.plainCell u = true) -> Own h0 h' (slR encU 1 T_uint32 dv p.draws :: L) -> K (planV p dv) h') : callS Tryz.prog F_milestoneref31_Draft_Plan [draftV vb vd mk kd cl rl] h K := by
 refine callS_of (lk_milestoneref31_Draft_Plan _ ?_)
 unfold sh_milestoneref31_Draft_Plan
 refine (Own.start h).box fun d1 h1 o1 => ?_
 have o1 : Own h h1 [cellR d1 (draftC vb vd mk kd cl rl) T_milestoneref31_Draft] := o1
 refine o1.box fun t2 h2 o2 => ?_
 have o2 : Own h h2 [cellR t2 [I 0, I 0, sl0, I 0, I 0] T_api_Plan, cellR d1 (draftC vb vd mk kd cl rl) T_milestoneref31_Draft] := o2
 have e1 : mk.tmod 6 = mk % 6 := Int.tmod_eq_emod_of_nonneg r1.1
 have e2 : kd.tmod 3 = kd % 3 := Int.tmod_eq_emod_of_nonneg r2.1
 have e3 : cl.tmod 8 = cl % 8 := Int.tmod_eq_emod_of_nonneg r3.1
 have b1 : 0 <= mk.tmod 6 /\ mk.tmod 6 <= 5 := by omega
 have b2 : 0 <= kd.tmod 3 /\ kd.tmod 3 <= 2 := by omega
 have b3 : 0 <= cl.tmod 8 /\ cl.tmod 8 <= 7 := by omega
 clear e1 e2 e3
 have hds : ∀ x ∈ ds.take (min ds.length 12), 0 <= x /\ x <= 4294967295 := fun x hx => hr x (List.mem_of_mem_take hx)
 have hdl : (ds.take (min ds.length 12)).length <= 12 := by rw [List.length_take]; omega
 have H2 := H.more o2.ext
 refine cutP_of (fun y h' => ∃ p3 dv, y = (ptr p3, ()) /\ Own h h' [cellR p3 [I (mk.tmod 6), I 0, dv, I (kd.tmod 3), I (1 + cl.tmod 8)] T_api_Plan, slR encU 1 T_uint32 dv (ds.take (min ds.length 12)), cellR t2 [I 0, I 0, sl0, I 0, I 0] T_api_Plan, cellR d1 (draftC vb vd mk kd cl rl) T_milestoneref31_Draft]) (fun J hJ => ?_) ?_
 ·simp only [pField_ptr, Nat.zero_add]
  refine o2.load 1 rfl rfl ?_
  rw [pBin_rem]
  refine ⟨by decide, ?_⟩
  rw [pConv_int, w64 (by omega) (by omega)]
  refine o2.load 1 rfl rfl (o2.load 1 rfl rfl (H2.len ?_))
  have e : (if (12 : Int) < ds.length then 12 else (ds.length : Int)) = ((min ds.length 12 : Nat) : Int) := by split <;> omega
  rw [pMin_int, e]
  refine H2.sub (a := 0) (j := min ds.length 12) (fun _ => rfl) rfl rfl (by omega) (by omega) fun vd' hd => ?_
  rw [List.drop_zero, Nat.sub_zero] at hd
  refine o2.load 1 rfl rfl ?_
  rw [pBin_rem]
  refine ⟨by decide, ?_⟩
  rw [pConv_int, w64 (by omega) (by omega)]
  refine o2.load 1 rfl rfl ?_
  rw [pBin_rem]
  refine ⟨by decide, ?_⟩
  rw [pConv_int, w64 (by omega) (by omega), pBin_add, w64 (by omega) (by omega)]
  generalize ds.take (min ds.length 12) = es at hd hds hdl hJ
  have bld : ∀ {dv : Value} {K' : Value -> Prop}, dv.cells = #[dv] -> K' (.agg #[I (mk.tmod 6), I 0, dv, I (kd.tmod 3), I (1 + cl.tmod 8)]) -> pBuild [(.int .i64 0), (.int .i64 0), (.slice none 0 0), (.int .i64 0), (.int .i64 0)] [(0, 1, I (mk.tmod 6)), (2, 1, dv), (3, 1, I (kd.tmod 3)), (4, 1, I (1 + cl.tmod 8))] K' := fun {dv K'} h1 hk => by
   refine pBuild_ones (cs' := [I (mk.tmod 6), I 0, dv, I (kd.tmod 3), I (1 + cl.tmod 8)]) ?_ rfl rfl hk
   intro p hp
   simp at hp
   rcases hp with rfl | rfl | rfl | rfl
   ·rfl
   ·exact h1
   ·rfl
   ·rfl
  have pl : ∀ {dv : Value}, Mh.plainCell dv = true -> ∀ u ∈ [I (mk.tmod 6), I 0, dv, I (kd.tmod 3), I (1 + cl.tmod 8)], Mh.plainCell u = true := fun {dv} h1 u hu => by
   simp at hu
   rcases hu with rfl | rfl | rfl | rfl | rfl
   ·rfl
   ·rfl
   ·exact h1
   ·rfl
   ·rfl
  have ld : ∀ {h' : Heap} {k : Nat} {v : Value} {K' : Value -> Prop}, Ext h2 h' -> (draftC vb vd mk kd cl rl)[k]? = some v -> K' v -> pLoad h' (.pointer (some ⟨d1, k, none⟩)) K' := fun x hk hK' => (o2.more x).load 1 rfl hk hK'
  refine ⟨?_, ?_⟩
  ·refine (Own.start h2).build (enc := encU) (n := 1) (T := T_uint32) [] rfl (sizesOk_of rfl) rfl fun w h3 o3 => ⟨?_, ?_⟩
   ·refine o3.app (ys := es) 0 rfl (fun _ => rfl) encU_plain rfl (hd.more o3.ext) (by decide) (by simp; omega) fun dv h4 o4 => ⟨ld o4.ext rfl rfl, ld o4.ext rfl rfl, ld o4.ext rfl rfl, ?_⟩
    have hv := o4.vw 0 rfl
    refine bld hv.one (o4.box fun p3 h5 o5 => o5.st (l := [I (mk.tmod 6), I 0, dv, I (kd.tmod 3), I (1 + cl.tmod 8)]) (cs' := [I (mk.tmod 6), I 0, dv, I (kd.tmod 3), I (1 + cl.tmod 8)]) 0 rfl rfl rfl rfl rfl (pl hv.plain) fun h6 o6 => hJ _ _ ⟨p3, dv, rfl, o2.frame o6⟩)
   ·refine o3.box fun p3 h4 o4 => ?_
    refine o4.app (ys := es) 1 rfl (fun _ => rfl) encU_plain rfl (hd.more o4.ext) (by decide) (by simp; omega) fun dv h5 o5 => ⟨ld o5.ext rfl rfl, ld o5.ext rfl rfl, ld o5.ext rfl rfl, ?_⟩
    have hv := o5.vw 1 rfl
    refine bld hv.one (o5.st (l := [I (mk.tmod 6), I 0, dv, I (kd.tmod 3), I (1 + cl.tmod 8)]) (cs' := [I (mk.tmod 6), I 0, dv, I (kd.tmod 3), I (1 + cl.tmod 8)]) 0 rfl rfl rfl rfl rfl (pl hv.plain) fun h6 o6 => hJ _ _ ⟨p3, dv, rfl, o2.frame o6⟩)
  ·refine (Own.start h2).box fun p3 h3 o3 => ?_
   refine o3.build (enc := encU) (n := 1) (T := T_uint32) [] rfl (sizesOk_of rfl) rfl fun w h4 o4 => ?_
   refine o4.app (ys := es) 0 rfl (fun _ => rfl) encU_plain rfl (hd.more o4.ext) (by decide) (by simp; omega) fun dv h5 o5 => ⟨ld o5.ext rfl rfl, ld o5.ext rfl rfl, ld o5.ext rfl rfl, ?_⟩
   have hv := o5.vw 0 rfl
   refine bld hv.one (o5.st (l := [I (mk.tmod 6), I 0, dv, I (kd.tmod 3), I (1 + cl.tmod 8)]) (cs' := [I (mk.tmod 6), I 0, dv, I (kd.tmod 3), I (1 + cl.tmod 8)]) 1 rfl rfl rfl rfl rfl (pl hv.plain) fun h6 o6 => hJ _ _ ⟨p3, dv, rfl, o2.frame (o6.sel [1, 0] (by decide))⟩)
 ·rintro ⟨y, ⟨⟩⟩ h' ⟨p3, dv, e, o3⟩
  injection e with e _
  dsimp only
  subst e
  unfold sh_milestoneref31_Draft_Plan_C1 sh_milestoneref31_Draft_Plan_k2
  simp only [pField_ptr, Nat.zero_add]
  have hv := o3.vw 1 rfl
  have fin : ∀ (p : Pl31) (h2 : Heap), p.marks = mk.tmod 6 -> (p.rule = 0 \/ p.rule = 1) -> p.draws = ds.take (min ds.length 12) -> p.kind = kd.tmod 3 -> p.cells = 1 + cl.tmod 8 ->
    Own h h2 [cellR p3 (plC p dv) T_api_Plan, slR encU 1 T_uint32 dv (ds.take (min ds.length 12)), cellR t2 [I 0, I 0, sl0, I 0, I 0] T_api_Plan, cellR d1 (draftC vb vd mk kd cl rl) T_milestoneref31_Draft] ->
    pLoadN 5 h2 (ptr p3) fun t30 => pStore 5 (ptr t2) t30 h2 fun u_4 h_17 => pLoadN 5 h_17 (ptr t2) fun res => K res h_17 := by
   intro p h2 e1 e2 e3 e4 e5 o4
   have hpl : ∀ u ∈ plC p dv, Mh.plainCell u = true := fun u hu => by
    simp at hu
    rcases hu with rfl | rfl | rfl | rfl | rfl
    ·rfl
    ·rfl
    ·exact hv.plain
    ·rfl
    ·rfl
   refine o4.ldN 0 rfl rfl rfl (o4.st (l := plC p dv) (cs' := plC p dv) 2 rfl rfl rfl rfl rfl hpl fun h5 o5 => o5.ldN 2 rfl rfl rfl ?_)
   have o6 : Own h h5 [slR encU 1 T_uint32 dv p.draws] := by rw [e3]; exact o5.sel [1] (by decide)
   refine hK p dv h5 ⟨?_, by rw [e3]; exact hdl, by rw [e3]; exact hds⟩ hpl (o.frame o6)
   unfold Pl31.wrong
   rw [if_neg (by omega), if_neg (by omega), if_neg (by omega), if_neg (by omega)]
  refine o3.load 3 rfl rfl ?_
  cases rl with
  | true =>
   rw [ifV_true]
   refine o3.st1 0 (cs' := plC ⟨mk.tmod 6, 1, ds.take (min ds.length 12), kd.tmod 3, 1 + cl.tmod 8⟩ dv) rfl rfl rfl rfl rfl fun h4 o4 => ?_
   exact fin ⟨mk.tmod 6, 1, ds.take (min ds.length 12), kd.tmod 3, 1 + cl.tmod 8⟩ h4 rfl (.inr rfl) rfl rfl rfl o4
  | false =>
   rw [ifV_false]
   exact fin ⟨mk.tmod 6, 0, ds.take (min ds.length 12), kd.tmod 3, 1 + cl.tmod 8⟩ h' rfl (.inl rfl) rfl rfl rfl o3

theorem seekD_ok {fr to : Nat} (hF : Few g) (hN : NetR h r g) (HA : Vw encT 1 h av al) (hla : al = [] \/ g.arcs.length = al.length) (hfr : fr < g.n) (hto : to < g.n)
  (hK : ∀ wv ev h', Ext h h' -> (∀ u ∈ [I (if fr = to then 0 else seekD g (mkOf al) fr to), wv, ev], Mh.plainCell u = true) -> K (.tuple #[.agg #[I (if fr = to then 0 else seekD g (mkOf al) fr to), wv, ev], I 0]) h') : callS Tryz.prog F_seek_Run [ptr r, .agg (askC fr to av sl0).toArray] h K := by
 have hR := hF.toRight
 have hsm : (g.n + 1) * (g.arcs.length + 1) < 2 ^ 39 := Nat.lt_of_le_of_lt (Nat.mul_le_mul (show g.n + 1 <= 13 by have := hF.few; omega) (show g.arcs.length + 1 <= 85 by have := hF.short; omega)) (by decide)
 refine seekRun_ok (pl := []) hR hN Vw.nil HA (.inl rfl) hla hsm hfr hto (fun e h' x => ?_) fun e wv ev cs h' c1 c2 o => ?_
 ·rw [if_pos e] at hK
  exact hK sl0 sl0 h' x (by intro u hu; simp at hu; rcases hu with rfl | rfl <;> rfl)
 ·rw [if_neg e] at hK
  have hs := seek_plain hR (mk := mkOf al) hfr hto
  have e2 : foundD (seekF g [] al fr to) to = seekD g (mkOf al) fr to := hs
  rw [e2]
  refine hK wv ev h' o.ext ?_
  intro u hu
  simp at hu
  rcases hu with rfl | rfl | rfl
  ·rfl
  ·exact (o.vw 0 rfl).plain
  ·exact (o.vw 1 rfl).plain

end
end Go.Proofs.YtmdldoolnhpaeaaGreatDoor
