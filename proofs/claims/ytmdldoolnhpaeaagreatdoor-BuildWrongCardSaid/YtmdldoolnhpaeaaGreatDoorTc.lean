/- Texts of the proofs of seat YtmdldoolnhpaeaaGreatDoor, joined: TaA, TaB, CeA, DkA, DkB, BiA, BiB, DsA, Md31, Lw31, GtA, TiA, CeB, FgA, FgB, GrA, GrB, AvA, AvB, WkA, AvC. They have no conditions of their own. -/
import Derived.Test.YtmdldoolnhpaeaaGreatDoorMd
import Derived.Test.YtmdldoolnhpaeaaGreatDoorMc
import Derived.Test.YtmdldoolnhpaeaaGreatDoorTb
import Derived.Test.YtmdldoolnhpaeaaGreatDoorTa
set_option linter.unusedVariables false
set_option linter.unusedSimpArgs false
set_option linter.unusedSectionVars false

namespace Go.Proofs.YtmdldoolnhpaeaaGreatDoor
open Go Go.Mh

structure Row where
 b : Option Addr
 len : Nat
 cap : Nat
 l : List Int
def Row.v (r : Row) : Value := .slice r.b r.len r.cap
def encRow (r : Row) : List Value := [r.v]
theorem encRow_plain (r : Row) : ∀ u ∈ encRow r, Mh.plainCell u = true := by intro u hu; simp [encRow] at hu; subst hu; rfl

section
variable {h0 h : Heap} {L : List Res} {K : KT} {g : G} {r n2 s5 : Nat} {v : Value} {ms : List Nat} {D : Int -> List Int}

theorem part0 {a : Value} {l : List Value} {K : Value -> Prop} (hk : K a) : pPart1 0 (.agg (a :: l).toArray) K := by simpa [pPart1] using hk

def TabV (h : Heap) (v : Value) (ds : List (List Int)) : Prop := ∃ ps : List Row, ps.map (·.l) = ds /\ Vw encRow 1 h v ps /\ ∀ p ∈ ps, Vw encJ 1 h p.v p.l
theorem TabV.more {h' : Heap} {ds : List (List Int)} (H : TabV h v ds) (x : Ext h h') : TabV h' v ds := by
 obtain ⟨ps, a, b, c⟩ := H
 exact ⟨ps, a, b.more x, fun p hp => (c p hp).more x⟩

def RunF (fv : Value) (r : Nat) (g : G) (D : Int -> List Int) : Prop := ∀ (h : Heap) (K : KT) (z : Int), NetR h r g -> (∀ sd sa so h', Own h h' [xR sd (D z)] -> K (.agg #[sd, sa, so]) h') -> callV Tryz.prog fv [ptr r, I z].toArray h K

theorem toRun (hR : g.Right) : RunF (.func (.func F_flood_To) #[] #[]) r g fun z => (g.toI z).dist := fun h K z hN hK =>
 to_ok hR hN fun sd sa so h' o => hK sd sa so h' (o.sel [0] (by decide))
theorem fromRun (hR : g.Right) : RunF (.func (.func F_flood_From) #[] #[]) r g fun z => (g.fromI z).dist := fun h K z hN hK =>
 from_ok hR hN fun sd sa so h' o => hK sd sa so h' (o.sel [0] (by decide))

theorem trows_iter {m4 r5 n3 : Nat} {fv : Value} {T1 T2 T3 : TypeId} (hF : RunF fv r g D) (hl : ms.length < 2 ^ 40) : IterO Tryz.prog (.func (.func F_table_rows_1) #[] #[ptr m4, ptr r5, ptr n3])
  (fun h => h[m4]? = some (.cells #[v] T1 (0, 0)) /\ h[r5]? = some (.cells #[fv] T2 (0, 0)) /\ h[n3]? = some (.cells #[ptr r] T3 (0, 0)) /\ Vw encJ 1 h v (nI ms) /\ NetR h r g) (σ := Nat) 0
  (fun i x X i' => ∃ hi : i < ms.length, ∃ sd, x = [sd] /\ X = xR sd (D (ms.getD i 0 : Nat)) /\ i' = i + 1) (fun i => i = ms.length) := by
 rintro yv h0 h Rs K J E ⟨l, rfl⟩ o j0 hQ hY hK
 refine callF_of (l := [yieldV l, ptr m4, ptr r5, ptr n3]) rfl (lk_table_rows_1 _ _ _ _ ?_)
 unfold sh_table_rows_1
 obtain ⟨q1, _, _, q4, _⟩ := hQ _ _ _ j0 o
 have d1 : hcell h ⟨m4, 0, none⟩ = some v := hcell_of q1 rfl
 refine pLoad_of rfl d1 (q4.len ?_)
 rw [nI_len]
 refine LoopH_count ms.length (fun i x h' => x.1 = I i /\ ∃ Rs', J i Rs' /\ Own h0 h' Rs') ⟨rfl, Rs, j0, o⟩ ?_
 rintro i ⟨x, ⟨⟩⟩ h Z hi ⟨hx, Rs', hj, o⟩ hZ
 dsimp only at hx hZ ⊢
 subst hx
 unfold sh_table_rows_1_L1
 simp only [pBin_lss, ifV_dec]
 refine ⟨fun hlt => ?_, fun hge => ?_⟩
 ·have hlt : i < ms.length := by omega
  obtain ⟨_, q2, q3, q4', q5⟩ := hQ _ _ _ hj o
  have d2 : hcell h ⟨r5, 0, none⟩ = some fv := hcell_of q2 rfl
  have d3 : hcell h ⟨n3, 0, none⟩ = some (ptr r) := hcell_of q3 rfl
  refine q4'.atI (by rw [nI_len]; exact hlt) (pLoad_of rfl d2 (pLoad_of rfl d3 ?_))
  have e : (nI ms)[i]'(by rw [nI_len]; exact hlt) = ((ms.getD i 0 : Nat) : Int) := by simp [nI, List.getD_eq_getElem?_getD, hlt]
  rw [e]
  refine hF h _ _ q5 fun sd sa so h1 o1 => ?_
  refine part0 ?_
  have o2 := o.frame o1
  refine hY i [sd] _ (i + 1) Rs' [] h1 _ ⟨hlt, sd, rfl, rfl, rfl⟩ hj ?_ (fun Rs'' h'' hj' o' => ?_) fun Rs'' h'' he o' => ?_
  ·rw [List.append_nil]; exact o2
  ·rw [pUn_not, Bool.not_true, ifV_false, pBin_add, wI i (by omega)]
   exact hZ (I (i + 1 : Nat), ()) h'' hlt ⟨rfl, Rs'', hj', o'.toNil⟩
  ·rw [pUn_not, Bool.not_false, ifV_true]
   exact hK _ _ (.inr he) o'.toNil
 ·have : i = ms.length := by omega
  exact hK _ _ (.inl ⟨i, this, hj⟩) o

def tabR (v : Value) (ps : List Row) : Res := sepR [slR encRow 1 T_sl_int64 v ps, sepR (ps.map fun (p : Row) => xR p.v p.l)]

theorem tabR_view {i : Nat} {ps : List Row} {ds : List (List Int)} (o : Own h0 h L) (hi : L[i]? = some (tabR v ps)) (hd : ps.map (·.l) = ds) : TabV h v ds := by
 have o1 := o.out i hi
 have o2 := o1.out 1 rfl
 refine ⟨ps, hd, o1.vw 0 rfl, fun p hp => ?_⟩
 exact o2.vwm (List.mem_append_left _ (List.mem_map.2 ⟨p, hp, rfl⟩))

theorem collectR_ok {fv : Value} {Q : Heap -> Prop} {N : Nat} {f : Nat -> List Int} {hN : N < 2 ^ 40} (o : Own h0 h L)
  (hI : IterO Tryz.prog fv Q (σ := Nat) 0 (fun i x X i' => ∃ hi : i < N, ∃ sd, x = [sd] /\ X = xR sd (f i) /\ i' = i + 1) (fun i => i = N)) (hQ : ∀ (Rs : List Res) h', Own h0 h' (Rs ++ L) -> Q h')
  (hK : ∀ w ps h', ps.map (·.l) = (List.range N).map f -> Own h0 h' (tabR w ps :: L) -> K w h') : callS Tryz.prog F_slices_Collect_sl_int64 [fv] h K := by
 refine callS_of (lk_slices_Collect_sl_int64 _ ?_)
 unfold sh_slices_Collect_sl_int64
 refine callS_of (lk_slices_AppendSeq_sl_sl_int64_sl_int64 _ _ ?_)
 unfold sh_slices_AppendSeq_sl_sl_int64_sl_int64
 refine o.box fun s2 h1 o1 => ?_
 have o2 : Own h0 h1 (slR encRow 1 T_sl_int64 (.slice none 0 0) ([] : List Row) :: sepR (([] : List Row).map fun (p : Row) => xR p.v p.l) :: cellR s2 [.slice none 0 0] T_sl_sl_int64 :: L) := Own.nilS (enc := encRow) (n := 1) (T := T_sl_int64) (Own.sep (l := []) o1)
 refine o2.rangeO hI (by rintro s x X s' ⟨_, _, rfl, _⟩; rfl)
  (fun s Rs => s <= N /\ ∃ w ps, ps.map (·.l) = (List.range s).map f /\ Rs = slR encRow 1 T_sl_int64 w ps :: sepR (ps.map fun (p : Row) => xR p.v p.l) :: cellR s2 [w] T_sl_sl_int64 :: L) (fun _ => False) (fun _ _ => False) ⟨Nat.zero_le _, _, [], rfl, rfl⟩ ?_ ?_ ?_ (fun _ _ h => h.elim) (fun _ _ _ h => h.elim)
 ·rintro s Rs h' ⟨_, w, ps, _, rfl⟩ o'
  exact hQ [_, _, _] h' o'
 ·rintro M s x X s' Rs Pr h' R ⟨hlt, sd, rfl, rfl, rfl⟩ ⟨_, w, ps, hps, rfl⟩ o' hN' _ _
  dsimp only [valsOf]
  unfold sh_slices_AppendSeq_sl_sl_int64_sl_int64_B1
  refine o'.begin 0 rfl fun h4 o4 => ?_
  have o4 : Own h0 h4 (loopR _ _ :: xR sd (f s) :: markR _ :: slR encRow 1 T_sl_int64 w ps :: sepR (ps.map fun (p : Row) => xR p.v p.l) :: cellR s2 [w] T_sl_sl_int64 :: (L ++ Pr)) := o4
  obtain ⟨sb, sc, rfl⟩ := (o4.vw 1 rfl).isSl
  have hlen : ps.length = s := by
   have := congrArg List.length hps
   simpa using this
  refine o4.load 5 rfl rfl ?_
  refine o4.app1 3 (⟨sb, (f s).length, sc, f s⟩ : Row) rfl rfl (sizesOk_of rfl) (fun _ => rfl) encRow_plain rfl (by decide) (by omega) fun w' h5 o5 => ?_
  have hw' := o5.vw 3 rfl
  refine o5.st1 5 (cs' := [w']) rfl rfl rfl hw'.one hw'.plain fun h6 o6 => ?_
  have o6 : Own h0 h6 (loopR _ _ :: xR (.slice sb (f s).length sc) (f s) :: markR _ :: slR encRow 1 T_sl_int64 w' (ps ++ [(⟨sb, (f s).length, sc, f s⟩ : Row)]) :: sepR (ps.map fun (p : Row) => xR p.v p.l) :: cellR s2 [w'] T_sl_sl_int64 :: (L ++ Pr)) := o6
  have o7 := Own.sepAdd (Own.swap o6) (j := 3) rfl
  refine hN' (slR encRow 1 T_sl_int64 w' (ps ++ [(⟨sb, (f s).length, sc, f s⟩ : Row)]) :: sepR ((ps ++ [(⟨sb, (f s).length, sc, f s⟩ : Row)]).map fun (p : Row) => xR p.v p.l) :: cellR s2 [w'] T_sl_sl_int64 :: L) h6 ⟨by omega, w', _, ?_, rfl⟩ ?_
  ·rw [List.map_append, hps, List.range_succ, List.map_append]; rfl
  ·rw [List.map_append]
   exact o7
 ·rintro s h' Rs rfl ⟨_, w, ps, hps, rfl⟩ o'
  refine o'.load 3 rfl rfl (o'.take1 0 rfl fun h6 o6 => ?_)
  have o7 : Own h0 h6 ([slR encRow 1 T_sl_int64 w ps, sepR (ps.map fun (p : Row) => xR p.v p.l)] ++ (cellR s2 [w] T_sl_sl_int64 :: L)) := o6.tail
  exact hK w ps h6 hps ((Own.sep o7).erase 1)

end
open Go Go.Mh

section
variable {h0 h : Heap} {L : List Res} {K : KT} {g : G} {r t : Nat} {v : Value} {ms : List Nat}

def seenN (l : List Nat) : Int -> Option Value := fun z => if ∃ m ∈ l, (m : Int) = z then some (I 1) else none
theorem seenN_in {l : List Nat} {m : Nat} (h : m ∈ l) : seenN l m = some (I 1) := if_pos ⟨m, h, rfl⟩
theorem seenN_out {l : List Nat} {m : Nat} (h : m ∉ l) : seenN l m = none := if_neg fun ⟨x, hx, e⟩ => h (by rw [<- show x = m by omega]; exact hx)
theorem seenN_add {l : List Nat} {m : Nat} (x : Int) : seenN (l ++ [m]) x = fset (seenN l) m (I 1) x := by
 show (if ∃ y ∈ l ++ [m], (y : Int) = x then some (I 1) else none) = if x = (m : Int) then some (I 1) else if ∃ y ∈ l, (y : Int) = x then some (I 1) else none
 by_cases e : x = (m : Int)
 ·rw [if_pos e, if_pos ⟨m, by simp, e.symm⟩]
 ·rw [if_neg e]
  by_cases hx : ∃ y ∈ l, (y : Int) = x
  ·obtain ⟨y, hy, hyx⟩ := hx
   rw [if_pos ⟨y, List.mem_append_left _ hy, hyx⟩, if_pos ⟨y, hy, hyx⟩]
  ·rw [if_neg hx, if_neg]
   rintro ⟨y, hy, hyx⟩
   rcases List.mem_append.1 hy with hy | hy
   ·exact hx ⟨y, hy, hyx⟩
   ·simp at hy; exact e (by rw [<- hyx, hy])

theorem may_ok17 {n : Nat} (H : Vw encJ 1 h v (nI ms)) (hl : ms.length <= 16) (hn : ms.Nodup) (hm : ∀ m ∈ ms, m < n) (hK : ∀ h', Ext h h' -> K (.bool true) h') : callS Tryz.prog F_table_may [I n, v] h K := by
 refine callS_of (lk_table_may _ _ ?_)
 unfold sh_table_may
 refine (Own.start h).box fun n2 h1 o1 => o1.mkMap fun m h2 o2 => o2.box fun s5 h3 o3 => o3.st1 0 (cs' := [.map (some m)]) rfl rfl rfl rfl rfl fun h4 o4 => ?_
 have o4 : Own h h4 (cellR s5 [.map (some m)] T_map_int_int :: mapR m (seenN (ms.take 0)) :: cellR n2 [I n] T_int :: []) := o4
 refine H.len ?_
 rw [nI_len, pBin_leq, decide_eq_true (by omega), ifV_true]
 refine callS_of (lk_slices_ContainsFunc_sl_int_int _ _ ?_)
 unfold sh_slices_ContainsFunc_sl_int_int
 refine callS_of (lk_slices_IndexFunc_sl_int_int _ _ ?_)
 unfold sh_slices_IndexFunc_sl_int_int
 refine H.len ?_
 rw [nI_len]
 refine LoopH_count ms.length (fun i x h' => x.1 = I i /\ Own h h' (cellR s5 [.map (some m)] T_map_int_int :: mapR m (seenN (ms.take i)) :: cellR n2 [I n] T_int :: [])) ⟨rfl, o4⟩ ?_
 clear o1 o2 o3 o4
 rintro i ⟨x, ⟨⟩⟩ h' Z hi ⟨hx, o'⟩ hZ
 dsimp only at hx hZ ⊢
 subst hx
 unfold sh_slices_IndexFunc_sl_int_int_L1
 simp only [pBin_lss, ifV_dec]
 refine ⟨fun hlt => ?_, fun hge => ?_⟩
 ·have hlt : i < ms.length := by omega
  refine (H.more o'.ext).atI (by rw [nI_len]; exact hlt) ?_
  have e : (nI ms)[i]'(by rw [nI_len]; exact hlt) = (ms[i] : Int) := by simp [nI]
  rw [e]
  refine callV_of (l := [I ms[i], ptr s5, ptr n2]) rfl (lk_table_may_1 _ _ _ ?_)
  unfold sh_table_may_1
  have hout : ms[i] ∉ ms.take i := fun hmem => by
   have h1 := hn
   rw [<- List.take_append_drop i ms, List.nodup_append, List.drop_eq_getElem_cons hlt] at h1
   exact h1.2.2 _ hmem _ List.mem_cons_self rfl
  refine o'.load 0 rfl rfl (o'.look 1 rfl ?_)
  rw [seenN_out hout]
  simp only [Bool.false_eq_true, if_false, Option.getD_none]
  rw [pBin_add, w64 (by omega) (by omega)]
  refine o'.mapPut 1 rfl (f' := seenN (ms.take (i + 1))) (fun x => ?_) fun h2 o2 => ?_
  ·rw [List.take_succ_eq_append_getElem hlt, seenN_add]; rfl
  ·have hmi := hm _ (List.getElem_mem hlt)
   rw [pBin_lss, decide_eq_false (by omega), ifV_false]
   refine o2.load 2 rfl rfl ?_
   rw [pBin_geq, decide_eq_false (by omega), ifV_false]
   refine o2.load 0 rfl rfl (o2.look 1 rfl ?_)
   rw [seenN_in (show ms[i] ∈ ms.take (i + 1) by rw [List.take_succ_eq_append_getElem hlt]; exact List.mem_append_right _ List.mem_cons_self)]
   simp only [Bool.false_eq_true, if_false, Option.getD_some]
   rw [pBin_gtr, decide_eq_false (by omega), ifV_false, pBin_add, wI i (by omega)]
   exact hZ (I (i + 1 : Nat), ()) h2 hlt ⟨rfl, o2⟩
 ·rw [pBin_geq, decide_eq_false (by omega), pUn_not, Bool.not_false]
  exact hK h' o'.ext

def tabCs (n : Nat) (mv tv fv : Value) : List Value := [I n, mv, tv, fv]
structure TableV (h : Heap) (t : Nat) (g : G) (ms : List Nat) : Prop where
 ex : ∃ mv tv fv, h[t]? = some (.cells (tabCs g.n mv tv fv).toArray T_table_Table (0, 0)) /\ Vw encJ 1 h mv (nI ms) /\ TabV h tv (ms.map fun (m : Nat) => (g.toI m).dist) /\ TabV h fv (ms.map fun (m : Nat) => (g.fromI m).dist)
theorem TableV.more {h' : Heap} (H : TableV h t g ms) (x : Ext h h') : TableV h' t g ms := by
 obtain ⟨mv, tv, fv, a, b, c, d⟩ := H.ex
 exact ⟨mv, tv, fv, x.get a, b.more x, c.more x, d.more x⟩

def tableR (t : Nat) (n : Nat) (mv tv fv : Value) (ms : List Nat) (ps qs : List Row) : List Res := [cellR t (tabCs n mv tv fv) T_table_Table, slR encJ 1 T_int mv (nI ms), tabR tv ps, tabR fv qs]

theorem range_map {α β : Type} (l : List α) (f : α -> β) (d : α) : (List.range l.length).map (fun i => f (l.getD i d)) = l.map f := by
 apply List.ext_getElem (by simp)
 intro i h1 h2
 have hi : i < l.length := by simpa using h1
 simp [List.getD_eq_getElem?_getD, hi]

theorem tableOf_ok (o : Own h0 h L) (hp : Vw encJ 1 h v (nI ms)) (hR : g.Right) (hN : NetR h r g) (hl : ms.length <= 16) (hn : ms.Nodup) (hm : ∀ m ∈ ms, m < g.n)
  (hK : ∀ t mv tv fv ps qs h', ps.map (·.l) = ms.map (fun (m : Nat) => (g.toI m).dist) -> qs.map (·.l) = ms.map (fun (m : Nat) => (g.fromI m).dist) -> Own h0 h' (tableR t g.n mv tv fv ms ps qs ++ L) -> K (ptr t) h') : callS Tryz.prog F_table_Of [ptr r, v] h K := by
 refine callS_of (lk_table_Of _ _ ?_)
 unfold sh_table_Of
 simp only [pEq_ptr_nil, Option.isNone_some, ifV_false]
 refine nodes_ok hN (may_ok17 hp hl hn hm fun h1 x1 => ?_)
 rw [pUn_not, Bool.not_true, ifV_false]
 refine nodes_ok (hN.more x1) ?_
 refine clone_intZ ((Own.start h).more x1) (hp.more x1) (by rw [nI_len]; omega) fun mv h2 o2 => ?_
 refine callS_of (lk_table_rows _ _ _ ?_)
 unfold sh_table_rows
 refine o2.box fun n3 h3 o3 => o3.box fun m4 h4 o4 => o4.box fun r5 h5 o5 => ?_
 have hv1 : v.cells.toList = [v] := by rw [hp.one]
 rw [hv1] at o5
 have hQ : ∀ (fv : Value) (n3 m4 r5 : Nat) (Rs L' : List Res) (h' : Heap), Own h h' (Rs ++ (cellR r5 [fv] T_funcnet_Net_int_flood_Tree :: cellR m4 [v] T_sl_int :: cellR n3 [ptr r] T_p_net_Net :: L')) ->
   h'[m4]? = some (.cells #[v] T_sl_int (0, 0)) /\ h'[r5]? = some (.cells #[fv] T_funcnet_Net_int_flood_Tree (0, 0)) /\ h'[n3]? = some (.cells #[ptr r] T_p_net_Net (0, 0)) /\ Vw encJ 1 h' v (nI ms) /\ NetR h' r g := fun fv n3 m4 r5 Rs L' h' o' => by
  have q : ∀ (i : Nat) (R : Res), (cellR r5 [fv] T_funcnet_Net_int_flood_Tree :: cellR m4 [v] T_sl_int :: cellR n3 [ptr r] T_p_net_Net :: L')[i]? = some R -> R.Q h' := fun i R hi => o'.get (Rs.length + i) (by rw [List.getElem?_append_right (by omega), show Rs.length + i - Rs.length = i by omega]; exact hi)
  exact ⟨q 1 _ rfl, q 0 _ rfl, q 2 _ rfl, hp.more o'.ext, hN.more o'.ext⟩
 refine collectR_ok (hN := (by omega : ms.length < 2 ^ 40)) (f := fun i => (g.toI (ms.getD i 0 : Nat)).dist) o5 (trows_iter (v := v) (r := r) (m4 := m4) (r5 := r5) (n3 := n3) (T1 := T_sl_int) (T2 := T_funcnet_Net_int_flood_Tree) (T3 := T_p_net_Net) (toRun hR) (by omega)) (fun Rs h' o' => hQ _ _ _ _ Rs _ h' o') fun tv ps h6 hps o6 => ?_
 have o6 := o6.sel [0, 4] (by decide)
 clear o5 o4 o3 o2
 refine callS_of (lk_table_rows _ _ _ ?_)
 unfold sh_table_rows
 refine o6.box fun n3' h7 o7 => o7.box fun m4' h8 o8 => o8.box fun r5' h9 o9 => ?_
 rw [hv1] at o9
 refine collectR_ok (hN := (by omega : ms.length < 2 ^ 40)) (f := fun i => (g.fromI (ms.getD i 0 : Nat)).dist) o9 (trows_iter (v := v) (r := r) (m4 := m4') (r5 := r5') (n3 := n3') (T1 := T_sl_int) (T2 := T_funcnet_Net_int_flood_Tree) (T3 := T_p_net_Net) (fromRun hR) (by omega)) (fun Rs h' o' => hQ _ _ _ _ Rs _ h' o') fun fv qs h10 hqs o10 => ?_
 have o11 : Own h h10 [tabR fv qs, tabR tv ps, slR encJ 1 T_int mv (nI ms)] := o10.sel [0, 4, 5] (by decide)
 have p1 := (tabR_view o11 (i := 0) rfl rfl)
 have p2 := (tabR_view o11 (i := 1) rfl rfl)
 obtain ⟨_, _, p1, _⟩ := p1
 obtain ⟨_, _, p2, _⟩ := p2
 have p3 := o11.vw 2 rfl
 refine pBuild_ones (cs' := tabCs g.n mv tv fv) ?_ rfl rfl ?_
 ·intro p hp
  simp at hp
  rcases hp with rfl | rfl | rfl | rfl
  ·rfl
  ·exact p3.one
  ·exact p2.one
  ·exact p1.one
 refine o11.box fun t h11 o12 => ?_
 refine hK t mv tv fv ps qs h11 (hps.trans (range_map ms (fun m => (g.toI (m : Nat)).dist) 0)) (hqs.trans (range_map ms (fun m => (g.fromI (m : Nat)).dist) 0)) (o.frame (o12.sel [0, 3, 2, 1] (by decide)))

theorem tableR_view {mv tv fv : Value} {ps qs : List Row} (o : Own h0 h (tableR t g.n mv tv fv ms ps qs ++ L)) (h1 : ps.map (·.l) = ms.map (fun (m : Nat) => (g.toI m).dist)) (h2 : qs.map (·.l) = ms.map (fun (m : Nat) => (g.fromI m).dist)) : TableV h t g ms :=
 ⟨mv, tv, fv, o.get 0 rfl, o.vw 1 rfl, tabR_view o (i := 2) rfl h1, tabR_view o (i := 3) rfl h2⟩

theorem tmarks_ok (o : Own h0 h L) (H : TableV h t g ms) (hl : ms.length <= 16) (hK : ∀ w h', Own h0 h' (slR encJ 1 T_int w (nI ms) :: L) -> K w h') : callS Tryz.prog F_table_Table_Marks [ptr t] h K := by
 obtain ⟨mv, tv, fv, a, b, c, d⟩ := H.ex
 refine callS_of (lk_table_Table_Marks _ ?_)
 unfold sh_table_Table_Marks
 have c0 : hcell h ⟨t, 1, none⟩ = some mv := hcell_of a rfl
 simp only [pEq_ptr_nil, Option.isNone_some, ifV_false, pNil_ptr, pField_ptr, pLoad_ptr, Nat.zero_add, c0]
 exact clone_intZ o b (by rw [nI_len]; omega) hK

end
open Go Go.Mh

section
variable {h0 h : Heap} {L : List Res} {K : KT} {g : G} {r c : Nat} {v : Value} {xs ys : List Int}

theorem equalI_ok {va vb : Value} (Ha : Vw encJ 1 h va xs) (Hb : Vw encJ 1 h vb ys) (hl : xs.length < 2 ^ 40) (hK : K (.bool (decide (xs = ys))) h) : callS Tryz.prog F_slices_Equal_sl_int_int [va, vb] h K := by
 refine callS_of (lk_slices_Equal_sl_int_int _ _ ?_)
 unfold sh_slices_Equal_sl_int_int
 refine Ha.len (Hb.len ?_)
 by_cases hxy : xs.length = ys.length
 ·rw [pBin_neq, show ((xs.length : Int) != (ys.length : Int)) = false by simp [hxy], ifV_false]
  refine Ha.len ?_
  refine LoopH_count xs.length (fun i x h' => x.1 = I i /\ h' = h /\ xs.take i = ys.take i) ⟨rfl, rfl, rfl⟩ ?_
  rintro i ⟨x, ⟨⟩⟩ h' Z hi ⟨hx, rfl, hp⟩ hZ
  dsimp only at hx hZ ⊢
  subst hx
  unfold sh_slices_Equal_sl_int_int_L1
  simp only [pBin_lss, ifV_dec]
  refine ⟨fun hlt => ?_, fun hge => ?_⟩
  ·have hlt : i < xs.length := by omega
   refine Ha.atI hlt (Hb.atI (by omega) ?_)
   rw [pBin_neq]
   by_cases e : xs[i] = ys[i]'(by omega)
   ·rw [e, bne_self_eq_false, ifV_false, pBin_add, wI i (by omega)]
    refine hZ (I (i + 1 : Nat), ()) _ hlt ⟨rfl, rfl, ?_⟩
    rw [List.take_succ_eq_append_getElem hlt, List.take_succ_eq_append_getElem (show i < ys.length by omega), hp, e]
   ·rw [show (xs[i] != ys[i]'(by omega)) = true by simpa using e, ifV_true]
    have : xs ≠ ys := fun h => e (by subst h; rfl)
    rw [decide_eq_false this] at hK
    exact hK
  ·have : xs = ys := by
    rw [List.take_of_length_le (by omega), List.take_of_length_le (by omega)] at hp; exact hp
   rw [decide_eq_true this] at hK
   exact hK
 ·rw [pBin_neq, show ((xs.length : Int) != (ys.length : Int)) = true by simp; omega, ifV_true]
  have : xs ≠ ys := fun h => hxy (by rw [h])
  rw [decide_eq_false this] at hK
  exact hK

theorem maxI_ok (H : Vw encJ 1 h v xs) (hne : xs ≠ []) (hl : xs.length < 2 ^ 40) (hK : K (I (maxL xs)) h) : callS Tryz.prog F_slices_Max_sl_int_int [v] h K := by
 refine callS_of (lk_slices_Max_sl_int_int _ ?_)
 unfold sh_slices_Max_sl_int_int
 cases xs with
 | nil => exact absurd rfl hne
 | cons z rs =>
 refine H.len ?_
 rw [pBin_lss, decide_eq_false (by rw [List.length_cons]; omega), ifV_false]
 refine H.atI (i := 0) (by simp) ?_
 refine LoopH_count rs.length (fun i x h' => x.1 = I ((rs.take i).foldl max z) /\ x.2.1 = I (i + 1 : Nat) /\ h' = h) ⟨rfl, rfl, rfl⟩ ?_
 rintro i ⟨y, x, ⟨⟩⟩ h' Z hi ⟨hy, hx, rfl⟩ hZ
 dsimp only at hy hx hZ ⊢
 subst hy hx
 unfold sh_slices_Max_sl_int_int_L1
 refine H.len ?_
 rw [List.length_cons] at hl ⊢
 simp only [pBin_lss, ifV_dec]
 refine ⟨fun hlt => ?_, fun hge => ?_⟩
 ·have hlt : i < rs.length := by omega
  refine H.atI (i := i + 1) (by simp; omega) ?_
  rw [List.getElem_cons_succ, pMax_int, pBin_add, wI (i + 1) (by omega)]
  refine hZ (_, (I (i + 1 + 1 : Nat), ())) _ hlt ⟨?_, rfl, rfl⟩
  rw [List.take_succ_eq_append_getElem hlt, List.foldl_append, List.foldl_cons, List.foldl_nil]
  have hm : ∀ a b : Int, (if b > a then b else a) = max a b := fun a b => by
   rw [Int.max_def]; split <;> split <;> omega
  rw [hm]
 ·have : rs.take i = rs := List.take_of_length_le (by omega)
  rw [this]
  exact hK

theorem norm_ok (o : Own h0 h L) (H : Vw encJ 1 h v xs) (hl : xs.length < 2 ^ 40) (hK : ∀ w h', Own h0 h' (slR encJ 1 T_int w (norm xs) :: L) -> K w h') : callS Tryz.prog F_cell_Norm [v] h K := by
 refine callS_of (lk_cell_Norm _ ?_)
 unfold sh_cell_Norm
 refine callS_of (lk_cell_namer ?_)
 unfold sh_cell_namer
 refine (Own.start h).mkMap fun m h1 o1 => o1.box fun n h2 o2 => o2.st1 0 (cs' := [.map (some m)]) rfl rfl rfl rfl rfl fun h3 o3 => ?_
 refine callS_of (lk_cell_each_int_int _ _ ?_)
 unfold sh_cell_each_int_int
 have o4 : Own h h3 (slR encJ 1 T_int (.slice none 0 0) ([] : List Int) :: cellR n [.map (some m)] T_map_int_int :: mapR m (nameF []) :: []) := Own.nilS (enc := encJ) (n := 1) (T := T_int) o3
 refine H.len ?_
 refine LoopH_count xs.length (fun i x h' => x.2.1 = I i /\ Own h h' (slR encJ 1 T_int x.1 (normGo [] (xs.take i)) :: cellR n [.map (some m)] T_map_int_int :: mapR m (nameF (nms [] (xs.take i))) :: [])) ⟨rfl, o4⟩ ?_
 clear o1 o2 o3 o4
 rintro i ⟨w, x, ⟨⟩⟩ h' Z hi ⟨hx, o'⟩ hZ
 dsimp only at hx hZ ⊢ o'
 subst hx
 unfold sh_cell_each_int_int_L1
 simp only [pBin_lss, ifV_dec]
 refine ⟨fun hlt => ?_, fun hge => ?_⟩
 ·have hlt : i < xs.length := by omega
  refine (H.more o'.ext).atI hlt ?_
  refine callV_of (l := [I xs[i], ptr n]) rfl (lk_cell_namer_1 _ _ ?_)
  unfold sh_cell_namer_1
  have hlen : (nms [] (xs.take i)).length <= i := by
   have := nms_len (l := xs.take i) (ns := []); rw [List.length_take, List.length_nil] at this; omega
  have hnl : (normGo [] (xs.take i)).length <= i := by rw [normGo_len, List.length_take]; omega
  have e1 : normGo [] (xs.take (i + 1)) = normGo [] (xs.take i) ++ [((nms [] (xs.take i)).idxOf xs[i] : Int)] := by
   rw [List.take_succ_eq_append_getElem hlt, normGo_append]; rfl
  have e2 : nms [] (xs.take (i + 1)) = addN (nms [] (xs.take i)) xs[i] := by
   rw [List.take_succ_eq_append_getElem hlt, nms_append]; rfl
  have fin : ∀ h'', Own h h'' (slR encJ 1 T_int w (normGo [] (xs.take i)) :: cellR n [.map (some m)] T_map_int_int :: mapR m (nameF (nms [] (xs.take (i + 1)))) :: []) -> pBuildSlice T_int (zerosL [(.int .i64 0)] 1) [(0, 1, I ((nms [] (xs.take i)).idxOf xs[i] : Nat))] 1 h'' fun t17 h_3 =>
    pAppend T_int 1 8 [(.int .i64 0)] w t17 h_3 fun t18 h_4 => pBin .add (I i) (.int .i64 1) fun t19 => (fun a0 a1 hz => Z (a0, (a1, ())) hz) t18 t19 h_4 := fun h'' o2 => by
   refine o2.app1 0 ((nms [] (xs.take i)).idxOf xs[i] : Int) rfl rfl (sizesOk_of rfl) (fun _ => rfl) encI_plain rfl (by decide) (by omega) fun w' h5 o5 => ?_
   rw [pBin_add, wI i (by omega)]
   refine hZ (w', (I (i + 1 : Nat), ())) h5 hlt ⟨rfl, ?_⟩
   rw [e1]; exact o5
  refine o'.load 1 rfl rfl (o'.look 2 rfl ?_)
  simp only [if_true, pExt0, pExt1]
  by_cases hz : xs[i] ∈ nms [] (xs.take i)
  ·have e3 : nameF (nms [] (xs.take i)) xs[i] = some (I ((nms [] (xs.take i)).idxOf xs[i] : Nat)) := if_pos hz
   rw [e3, Option.isSome_some, pUn_not, Bool.not_true, ifV_false]
   unfold sh_cell_namer_1_k1
   refine fin h' ?_
   rw [e2, show addN (nms [] (xs.take i)) xs[i] = nms [] (xs.take i) from if_pos hz]
   exact o'
  ·have e3 : nameF (nms [] (xs.take i)) xs[i] = none := if_neg hz
   rw [e3, Option.isSome_none, pUn_not, Bool.not_false, ifV_true]
   refine o'.load 1 rfl rfl ?_
   obtain ⟨es, cl, hm1, hm2⟩ := o'.get 2 rfl
   have hsz := nameF_len hm2 (nms_nodup .nil)
   simp only [pLenM, hm1]
   refine o'.load 1 rfl rfl (o'.mapPut 2 rfl (f' := nameF (nms [] (xs.take (i + 1)))) (fun x => ?_) fun h2 o2 => ?_)
   ·rw [e2, show addN (nms [] (xs.take i)) xs[i] = nms [] (xs.take i) ++ [xs[i]] from if_neg hz, nameF_add hz, hsz]
   ·unfold sh_cell_namer_1_k1
    have := fin h2 o2
    rw [List.idxOf_eq_length hz, <- hsz] at this
    exact this
 ·have : xs.take i = xs := List.take_of_length_le (by omega)
  rw [this] at o'
  exact hK w h' (o.frame (o'.sel [0] (by decide)))

def cellCs (v : Value) (l : List Int) : List Value := [v, I (maxL l + 1)]
def CellV (h : Heap) (c : Nat) (l : List Int) : Prop := ∃ v, h[c]? = some (.cells (cellCs v l).toArray T_cell_Cells (0, 0)) /\ Vw encJ 1 h v l
theorem CellV.more {h' : Heap} (H : CellV h c xs) (x : Ext h h') : CellV h' c xs := by
 obtain ⟨s, h1, h2⟩ := H
 exact ⟨s, x.get h1, h2.more x⟩

theorem cnew_ok (o : Own h0 h L) (p : Nat) (hp : L[p]? = some (slR encJ 1 T_int v xs)) (hne : xs ≠ []) (hn : norm xs = xs) (hl : xs.length < 2 ^ 40) (hm : maxL xs < 256) (hm0 : 0 <= maxL xs)
  (hK : ∀ c v' h', Own h0 h' (cellR c (cellCs v' xs) T_cell_Cells :: slR encJ 1 T_int v' xs :: L) -> K (ptr c) h') : callS Tryz.prog F_cell_New [v] h K := by
 refine callS_of (lk_cell_New _ ?_)
 unfold sh_cell_New
 refine (o.vw p hp).len ?_
 have hpos : 0 < xs.length := List.length_pos_iff.2 hne
 rw [pBin_eql, show ((xs.length : Int) == 0) = false by simp; omega, ifV_false]
 refine norm_ok o (o.vw p hp) hl fun w h1 o1 => ?_
 refine equalI_ok (o1.vw 0 rfl) (o1.vw (p + 1) (by simpa using hp)) (by rw [hn]; exact hl) ?_
 rw [decide_eq_true hn, pUn_not, Bool.not_true, ifV_false]
 refine clone_intZ o1 (o1.vw (p + 1) (by simpa using hp)) (by omega) fun v' h2 o2 => ?_
 refine maxI_ok (o2.vw (p + 2) (by simpa using hp)) hne hl ?_
 rw [pBin_add, w64 (by omega) (by omega)]
 have hv := o2.vw 0 rfl
 refine pBuild_ones (cs' := cellCs v' xs) ?_ rfl rfl ?_
 ·intro p hp
  simp at hp
  rcases hp with rfl | rfl
  ·exact hv.one
  ·rfl
 refine o2.box fun c h3 o3 => ?_
 have o3 : Own h0 h3 (cellR c (cellCs v' xs) T_cell_Cells :: slR encJ 1 T_int v' xs :: slR encJ 1 T_int w (norm xs) :: L) := o3
 simp only [pNil_ptr, pField_ptr]
 refine o3.load 0 rfl rfl ?_
 rw [pBin_gtr, decide_eq_false (by omega), ifV_false]
 exact hK c v' h3 (o3.erase 2)

theorem cof_ok {i : Nat} (H : CellV h c xs) (hi : i < xs.length) (hK : K (I (dAt xs i)) h) : callS Tryz.prog F_cell_Cells_Of [ptr c, I i] h K := by
 obtain ⟨s, hb, hv⟩ := H
 refine callS_of (lk_cell_Cells_Of _ _ ?_)
 unfold sh_cell_Cells_Of
 have c0 : hcell h ⟨c, 0, none⟩ = some s := hcell_of hb rfl
 simp only [pEq_ptr_nil, Option.isNone_some, ifV_false]
 rw [pBin_lss, decide_eq_false (by omega), ifV_false]
 simp only [pNil_ptr, pField_ptr, pLoad_ptr, Nat.zero_add, c0]
 refine hv.len ?_
 rw [pBin_geq, decide_eq_false (by omega), ifV_false]
 refine hv.idxI hi fun b o hc => ?_
 simp only [pLoad_ptr, hc]
 rw [dAt_get hi]
 exact hK

theorem cmany_ok (H : CellV h c xs) (hK : K (I (maxL xs + 1)) h) : callS Tryz.prog F_cell_Cells_Many [ptr c] h K := by
 obtain ⟨s, hb, hv⟩ := H
 refine callS_of (lk_cell_Cells_Many _ ?_)
 unfold sh_cell_Cells_Many
 have c0 : hcell h ⟨c, 1, none⟩ = some (I (maxL xs + 1)) := hcell_of hb rfl
 simp only [pEq_ptr_nil, Option.isNone_some, ifV_false, pNil_ptr, pField_ptr, pLoad_ptr, Nat.zero_add, c0]
 exact hK

theorem cmap_ok (o : Own h0 h L) (H : CellV h c xs) (hl : xs.length <= 2 ^ 40) (hK : ∀ w h', Own h0 h' (slR encJ 1 T_int w xs :: L) -> K w h') : callS Tryz.prog F_cell_Cells_Map [ptr c] h K := by
 obtain ⟨s, hb, hv⟩ := H
 refine callS_of (lk_cell_Cells_Map _ ?_)
 unfold sh_cell_Cells_Map
 have c0 : hcell h ⟨c, 0, none⟩ = some s := hcell_of hb rfl
 simp only [pEq_ptr_nil, Option.isNone_some, ifV_false, pNil_ptr, pField_ptr, pLoad_ptr, Nat.zero_add, c0]
 exact clone_intZ o hv hl hK

end
open Go Go.Mh

section
variable {h0 h : Heap} {L : List Res} {K : KT} {vd : Value}

theorem collectB_int {fv : Value} {Q : Heap -> Prop} {σ : Type} {s0 : σ} {next : σ -> List Value -> σ -> Prop} {stop : σ -> Prop} (o : Own h0 h L) (hI : IterG Tryz.prog fv Q s0 next stop) (g : σ -> List Int) (g0 : g s0 = [])
  (hf : ∀ s x s', next s x s' -> ∃ a, x = [I a] /\ g s' = g s ++ [a] /\ (g s').length < 2 ^ 40) (hQ : ∀ (Rs : List Res) h', Own h0 h' (Rs ++ L) -> Q h')
  (hK : ∀ w h' s, stop s -> Own h0 h' (slR encJ 1 T_int w (g s) :: L) -> K w h') : callS Tryz.prog F_slices_Collect_int [fv] h K := by
 refine callS_of (lk_slices_Collect_int _ ?_)
 unfold sh_slices_Collect_int
 refine callS_of (lk_slices_AppendSeq_sl_int_int _ _ ?_)
 unfold sh_slices_AppendSeq_sl_int_int
 refine o.box fun s2 h1 o1 => ?_
 have o2 : Own h0 h1 (slR encJ 1 T_int (.slice none 0 0) (g s0) :: cellR s2 [.slice none 0 0] T_sl_int :: L) := by
  rw [g0]; exact Own.nilS (enc := encJ) (n := 1) (T := T_int) o1
 refine o2.range hI (fun s x s' hn => by obtain ⟨a, rfl, _⟩ := hf s x s' hn; rfl)
  (fun s Rs => ∃ w, Rs = slR encJ 1 T_int w (g s) :: cellR s2 [w] T_sl_int :: L) (fun _ => False) (fun _ _ => False) ⟨_, rfl⟩ ?_ ?_ ?_ (fun _ _ h => h.elim) (fun _ _ _ h => h.elim)
 ·rintro s Rs h' ⟨w, rfl⟩ o'
  exact hQ [_, _] h' o'
 ·rintro M s x s' Rs Pr h' R hn ⟨w, rfl⟩ o' hN _ _
  obtain ⟨a, rfl, hg, hgl⟩ := hf s x s' hn
  dsimp only [valsOf]
  unfold sh_slices_AppendSeq_sl_int_int_B1
  refine o'.begin 0 rfl fun h4 o4 => ?_
  have o4 : Own h0 h4 (loopR _ _ :: markR _ :: slR encJ 1 T_int w (g s) :: cellR s2 [w] T_sl_int :: (L ++ Pr)) := o4
  refine o4.load 3 rfl rfl ?_
  rw [hg, List.length_append] at hgl
  refine o4.app1 2 a rfl rfl (sizesOk_of rfl) (fun _ => rfl) encI_plain rfl (by decide) (by simp at hgl; omega) fun w' h5 o5 => ?_
  have hw' := o5.vw 2 rfl
  refine o5.st1 3 (cs' := [w']) rfl rfl rfl hw'.one hw'.plain fun h6 o6 => ?_
  refine hN _ h6 ⟨w', rfl⟩ ?_
  rw [hg]
  exact o6
 ·rintro s h' Rs hs ⟨w, rfl⟩ o'
  refine o'.load 2 rfl rfl (o'.take1 0 rfl fun h10 o10 => hK w h10 s hs ?_)
  exact o10.tail.front 2 [0] (by decide) (by decide)

end
open Go Go.Mh

section
variable {h0 h : Heap} {L : List Res} {K : KT} {b rows wide long row i : Nat} {s : Value} {bs : List UInt8}

theorem pIdx_mono {n : Nat} {x i : Value} {K K' : Value -> Prop} (h : pIdx n x i K) (hk : ∀ v, K v -> K' v) : pIdx n x i K' := by
 unfold pIdx at *
 split
 ·exact ⟨h.1, h.2.1, hk _ h.2.2⟩
 ·rename_i hno
  split at h
  ·exact (hno _ _ _ _ _ _ rfl rfl).elim
  ·exact h

def bitCs (rows wide : Nat) (s : Value) : List Value := [I rows, I wide, I (longB wide : Nat), s]
def BitV (h : Heap) (b rows wide : Nat) (bs : List UInt8) : Prop := ∃ s, h[b]? = some (.cells (bitCs rows wide s).toArray T_bits_Rows (0, 0)) /\ Vw encB8 1 h s bs
theorem brows_ok (hb : h[b]? = some (.cells (bitCs rows wide s).toArray T_bits_Rows (0, 0))) (hK : K (I rows) h) : callS Tryz.prog F_bits_Rows_Rows [ptr b] h K := by
 refine callS_of (lk_bits_Rows_Rows _ ?_)
 unfold sh_bits_Rows_Rows
 have c0 : hcell h ⟨b, 0, none⟩ = some (I rows) := hcell_of hb rfl
 simp only [pEq_ptr_nil, Option.isNone_some, ifV_false, pNil_ptr, pField_ptr, pLoad_ptr, Nat.zero_add, c0]
 exact hK
theorem bwide_ok (hb : h[b]? = some (.cells (bitCs rows wide s).toArray T_bits_Rows (0, 0))) (hK : K (I wide) h) : callS Tryz.prog F_bits_Rows_Wide [ptr b] h K := by
 refine callS_of (lk_bits_Rows_Wide _ ?_)
 unfold sh_bits_Rows_Wide
 have c0 : hcell h ⟨b, 1, none⟩ = some (I wide) := hcell_of hb rfl
 simp only [pEq_ptr_nil, Option.isNone_some, ifV_false, pNil_ptr, pField_ptr, pLoad_ptr, Nat.zero_add, c0]
 exact hK

theorem maskV {k : Nat} {K : Value -> Prop} (hk : k < 8) (hK : K (.int .u8 (mkB k).toNat)) : pBin .shl (.int .u8 1) (I k) K := by
 show 0 <= (k : Int) /\ K (.int .u8 (IntKind.u8.wrap (1 * 2 ^ (min (k : Int).toNat IntKind.u8.bits))))
 rw [mask_val ⟨k, hk⟩]
 exact ⟨by omega, hK⟩

theorem bplace_ok {dov : Value} (hb : h[b]? = some (.cells (bitCs rows wide s).toArray T_bits_Rows (0, 0))) (h1 : row < rows) (h2 : i < wide) (hm : rows * longB wide < 2 ^ 40)
  (hK : pIdx 1 s (I (row * longB wide + i / 8 : Nat)) fun t => callV Tryz.prog dov [t, .int .u8 (mkB (i % 8)).toNat].toArray h K) : callS Tryz.prog F_bits_Rows_place [ptr b, I row, I i, dov] h K := by
 refine callS_of (lk_bits_Rows_place _ _ _ _ ?_)
 unfold sh_bits_Rows_place
 rw [pBin_lss, decide_eq_false (by omega), ifV_false]
 refine brows_ok hb ?_
 rw [pBin_geq, decide_eq_false (by omega), ifV_false, pBin_lss, decide_eq_false (by omega), ifV_false]
 refine bwide_ok hb ?_
 rw [pBin_geq, decide_eq_false (by omega), ifV_false]
 have c2 : hcell h ⟨b, 2, none⟩ = some (I (longB wide : Nat)) := hcell_of hb rfl
 have c3 : hcell h ⟨b, 3, none⟩ = some s := hcell_of hb rfl
 simp only [pNil_ptr, pField_ptr, pLoad_ptr, Nat.zero_add, c2, c3]
 have hq := longB_lt h2
 have hlt := row_lt h1 hq
 have e1 : (row : Int) * (longB wide : Nat) = ((row * longB wide : Nat) : Int) := by rw [Int.natCast_mul]
 rw [pBin_mul, e1, w64 (by omega) (by omega), pBin_quo]
 refine ⟨by decide, ?_⟩
 have e2 : (i : Int).tdiv 8 = ((i / 8 : Nat) : Int) := by rw [Int.tdiv_eq_ediv_of_nonneg (by omega)]; omega
 rw [e2, w64 (by omega) (by omega), pBin_add, w64 (by omega) (by omega)]
 have e3 : ((row * longB wide : Nat) : Int) + ((i / 8 : Nat) : Int) = ((row * longB wide + i / 8 : Nat) : Int) := by omega
 rw [e3]
 have fin : ∀ t, callV Tryz.prog dov [t, .int .u8 (mkB (i % 8)).toNat].toArray h K -> pBin .rem (I i) (.int .i64 8) fun t43 => pBin .shl (.int .u8 1) t43 fun t44 => callV Tryz.prog dov [t, t44].toArray h fun t45 h_4 => K t45 h_4 := fun t ht => by
  rw [pBin_rem]
  refine ⟨by decide, ?_⟩
  have e4 : (i : Int).tmod 8 = ((i % 8 : Nat) : Int) := by rw [Int.tmod_eq_emod_of_nonneg (by omega)]; omega
  rw [e4]
  exact maskV (by omega) ht
 exact pIdx_mono hK fin

theorem bget_ok (H : BitV h b rows wide bs) (h1 : row < rows) (h2 : i < wide) (hm : rows * longB wide < 2 ^ 40) (hl : bs.length = rows * longB wide) (hK : K (.bool (getB bs (longB wide) row i)) h) : callS Tryz.prog F_bits_Rows_Get [ptr b, I row, I i] h K := by
 obtain ⟨s, hb, hv⟩ := H
 refine callS_of (lk_bits_Rows_Get _ _ _ ?_)
 unfold sh_bits_Rows_Get
 have hlt := row_lt h1 (longB_lt h2)
 refine bplace_ok hb h1 h2 hm ?_
 refine hv.idx (fun _ => rfl) (by omega) fun bl o hc => ?_
 have hc : hcell h ⟨bl, o, none⟩ = some (.int .u8 (bs[row * longB wide + i / 8]'(by omega)).toNat) := by simpa [encB8] using hc 0 (by omega)
 refine callV_of (l := [.pointer (some ⟨bl, o, none⟩), .int .u8 (mkB (i % 8)).toNat]) rfl (lk_bits_Rows_Get_1 _ _ ?_)
 unfold sh_bits_Rows_Get_1
 simp only [pNil_ptr, pLoad_ptr, hc]
 refine ⟨rfl, ?_⟩
 dsimp only
 rw [pBin_neq, and_val _ ⟨i % 8, by omega⟩]
 unfold getB at hK
 rw [List.getD_eq_getElem?_getD, List.getElem?_eq_getElem (by omega), Option.getD_some] at hK
 exact hK

theorem bset_ok (o : Own h0 h L) (p q : Nat) (hpq : p ≠ q) (hp : L[p]? = some (cellR b (bitCs rows wide s) T_bits_Rows)) (hq : L[q]? = some (slR encB8 1 T_uint8 s bs)) (h1 : row < rows) (h2 : i < wide) (hm : rows * longB wide < 2 ^ 40) (hl : bs.length = rows * longB wide)
  (hK : ∀ h', Own h0 h' (L.set q (slR encB8 1 T_uint8 s (setB bs (longB wide) row i))) -> K (.bool true) h') : callS Tryz.prog F_bits_Rows_Set [ptr b, I row, I i, .bool true] h K := by
 refine callS_of (lk_bits_Rows_Set _ _ _ _ ?_)
 unfold sh_bits_Rows_Set
 have hlt := row_lt h1 (longB_lt h2)
 refine o.box fun t h1' o1 => ?_
 have hp1 : (cellR t [Value.bool true] T_bool :: L)[p + 1]? = some (cellR b (bitCs rows wide s) T_bits_Rows) := by simpa using hp
 have hq1 : (cellR t [Value.bool true] T_bool :: L)[q + 1]? = some (slR encB8 1 T_uint8 s bs) := by simpa using hq
 have o1 : Own h0 h1' (cellR t [Value.bool true] T_bool :: L) := o1
 refine bplace_ok (o1.get (p + 1) hp1) h1 h2 hm ?_
 refine o1.idxAt (q + 1) hq1 (by omega) fun bl H hbl => ?_
 have hc : hcell h1' ⟨bl, (row * longB wide + i / 8) * 1, none⟩ = some (.int .u8 (bs[row * longB wide + i / 8]'(by omega)).toNat) := H.slot (m := 1) (fun _ => rfl) (by omega) (j := 0) (by decide)
 refine callV_of (l := [.pointer (some ⟨bl, (row * longB wide + i / 8) * 1, none⟩), .int .u8 (mkB (i % 8)).toNat, ptr t]) rfl (lk_bits_Rows_Set_1 _ _ _ ?_)
 unfold sh_bits_Rows_Set_1
 simp only [pNil_ptr, pLoad_ptr, hc]
 refine ⟨rfl, ?_⟩
 dsimp only
 rw [andNot_val _ ⟨i % 8, by omega⟩]
 have hgd : bs.getD (row * longB wide + i / 8) 0 = bs[row * longB wide + i / 8]'(by omega) := by rw [List.getD_eq_getElem?_getD, List.getElem?_eq_getElem (by omega), Option.getD_some]
 have hset : ∀ (bs' : List UInt8) (y : UInt8), bs'.length = bs.length -> bs'.take (row * longB wide + i / 8) ++ [y] ++ bs'.drop (row * longB wide + i / 8 + [y].length) = bs'.set (row * longB wide + i / 8) y := fun bs' y hy => by
  rw [List.set_eq_take_append_cons_drop, if_pos (by omega)]; simp
 refine ⟨rfl, ?_⟩
 refine o1.storeRow (ys := [bs[row * longB wide + i / 8]'(by omega) &&& ~~~mkB (i % 8)]) (q + 1) hq1 (fun _ => rfl) encB8_plain H hbl (by simp; omega) fun h2' o2 => ?_
 rw [hset bs _ rfl] at o2
 refine o2.load 0 rfl rfl ?_
 rw [ifV_true]
 have hq2 : ((cellR t [Value.bool true] T_bool :: L).set (q + 1) (slR encB8 1 T_uint8 s (bs.set (row * longB wide + i / 8) (bs[row * longB wide + i / 8]'(by omega) &&& ~~~mkB (i % 8)))))[q + 1]? = some (slR encB8 1 T_uint8 s (bs.set (row * longB wide + i / 8) (bs[row * longB wide + i / 8]'(by omega) &&& ~~~mkB (i % 8)))) := set_get hq1
 obtain ⟨bl2, H2⟩ := o2.get (q + 1) hq2
 have e2 := H2.blk hbl
 subst e2
 have hc2 : hcell h2' ⟨bl, (row * longB wide + i / 8) * 1, none⟩ = some (.int .u8 (bs[row * longB wide + i / 8]'(by omega) &&& ~~~mkB (i % 8)).toNat) := by
  have := H2.slot (m := 1) (fun _ => rfl) (i := row * longB wide + i / 8) (by rw [List.length_set]; omega) (j := 0) (by decide)
  rw [List.getElem_set_self] at this
  exact this
 simp only [pNil_ptr, pLoad_ptr, hc2]
 refine ⟨rfl, ?_⟩
 dsimp only
 rw [or_val _ ⟨i % 8, by omega⟩]
 refine ⟨rfl, ?_⟩
 refine o2.storeRow (ys := [setx (bs[row * longB wide + i / 8]'(by omega)) (i % 8)]) (q + 1) hq2 (fun _ => rfl) encB8_plain H2 hbl (by simp; omega) fun h3 o3 => ?_
 rw [hset _ _ (by simp), List.set_set, List.set_set] at o3
 unfold sh_bits_Rows_Set_1_k1
 refine hK h3 ?_
 unfold setB
 rw [hgd]
 exact o3.tail

end
open Go Go.Mh

section
variable {h0 h : Heap} {L : List Res} {K : KT} {b rows wide row : Nat} {s : Value} {bs : List UInt8}

theorem bnew_ok (o : Own h0 h L) (hw : wide <= 67108864) (hr : rows * longB wide <= 268435456) (hr1 : rows < 2 ^ 40)
  (hK : ∀ b s h', Own h0 h' (cellR b (bitCs rows wide s) T_bits_Rows :: slR encB8 1 T_uint8 s (List.replicate (rows * longB wide) 0) :: L) -> K (ptr b) h') : callS Tryz.prog F_bits_New [I rows, I wide] h K := by
 refine callS_of (lk_bits_New _ _ ?_)
 unfold sh_bits_New
 have fin : sh_bits_New_k2 Tryz.prog (I rows) (I (longB wide : Nat)) (I wide) K h := by
  unfold sh_bits_New_k2
  have e1 : (rows : Int) * (longB wide : Nat) = ((rows * longB wide : Nat) : Int) := by rw [Int.natCast_mul]
  rw [pBin_mul, e1, w64 (by omega) (by omega)]
  refine o.make (enc := encB8) (n := 1) (a := 0) rfl (by omega) (by omega) fun w h1 o1 => ?_
  have hv := o1.vw 0 rfl
  refine pBuild_ones (cs' := [I rows, I wide, I (longB wide : Nat), w]) ?_ rfl rfl ?_
  ·intro p hp
   simp at hp
   rcases hp with rfl | rfl | rfl | rfl
   ·rfl
   ·rfl
   ·rfl
   ·exact hv.one
  refine o1.box fun b h2 o2 => hK b w h2 o2
 rw [pBin_lss, decide_eq_false (by omega), ifV_false, pBin_lss, decide_eq_false (by omega), ifV_false, pBin_gtr, decide_eq_false (by omega), ifV_false, pBin_add, w64 (by omega) (by omega), pBin_sub, w64 (by omega) (by omega), pBin_quo]
 refine ⟨by decide, ?_⟩
 have e2 : ((wide : Int) + 8 - 1).tdiv 8 = ((longB wide : Nat) : Int) := by rw [Int.tdiv_eq_ediv_of_nonneg (by omega)]; unfold longB; omega
 have hlb : longB wide <= 67108864 := by unfold longB; omega
 rw [e2, w64 (by omega) (by omega), pBin_gtr, ifV_dec]
 refine ⟨fun hp => ?_, fun _ => fin⟩
 rw [pBin_quo]
 refine ⟨by omega, ?_⟩
 have e3 : (268435456 : Int).tdiv ((longB wide : Nat) : Int) = ((268435456 / longB wide : Nat) : Int) := by rw [Int.tdiv_eq_ediv_of_nonneg (by omega)]; exact (Int.natCast_ediv 268435456 (longB wide)).symm
 have h3 : rows <= 268435456 / longB wide := (Nat.le_div_iff_mul_le (by omega)).2 hr
 have h4 : 268435456 / longB wide <= 268435456 := Nat.div_le_self _ _
 rw [e3, w64 (by omega) (by omega), pBin_gtr, decide_eq_false (by omega), ifV_false]
 exact fin

def onL (n : Nat) (f : Nat -> Bool) (s : Nat) : List Nat := (List.range s).filter f
theorem onL_next {n : Nat} {f : Nat -> Bool} {s j : Nat} (hs : s <= j) (hf : f j = true) (hno : ∀ k, s <= k -> k < j -> f k = false) : onL n f (j + 1) = onL n f s ++ [j] := by
 unfold onL
 rw [List.range_succ, List.filter_append]
 have e : (List.range j).filter f = (List.range s).filter f := by
  obtain ⟨d, rfl⟩ := Nat.le.dest hs
  rw [List.range_add, List.filter_append]
  have : ((List.range d).map (s + ·)).filter f = [] := by
   rw [List.filter_eq_nil_iff]
   intro x hx
   obtain ⟨k, hk, rfl⟩ := List.mem_map.1 hx
   have := List.mem_range.1 hk
   rw [hno _ (by omega) (by omega)]; decide
  rw [this, List.append_nil]
 rw [e]
 simp [hf]
theorem onL_stop {n : Nat} {f : Nat -> Bool} {s : Nat} (hs : s <= n) (h : mkStop n f s) : onL n f s = (List.range n).filter f := by
 unfold onL
 obtain ⟨d, rfl⟩ := Nat.le.dest hs
 rw [List.range_add, List.filter_append]
 have : ((List.range d).map (s + ·)).filter f = [] := by
  rw [List.filter_eq_nil_iff]
  intro x hx
  obtain ⟨k, hk, rfl⟩ := List.mem_map.1 hx
  have := List.mem_range.1 hk
  rw [h _ (by omega) (by omega)]; decide
 rw [this, List.append_nil]

end
open Go Go.Mh

section
variable {h0 h : Heap} {L : List Res} {K : KT} {a b : Int}

def kept (a : Int) : Int := min (max a 0) far
theorem kept_in {a : Int} (h0 : 0 <= a) (h1 : a <= far) : kept a = a := by unfold kept; omega

theorem between1_ok {l g : Nat} {T1 T2 : TypeId} (h1 : h[l]? = some (.cells #[I 0] T1 (0, 0))) (h2 : h[g]? = some (.cells #[I far] T2 (0, 0))) (hK : K (I (kept a)) h) :
  callV Tryz.prog (.func (.func F_dist_between_int64_1) #[] #[ptr l, ptr g]) [I a].toArray h K := by
 refine callV_of (l := [I a, ptr l, ptr g]) rfl (lk_dist_between_int64_1 _ _ _ ?_)
 unfold sh_dist_between_int64_1
 have c0 : hcell h ⟨l, 0, none⟩ = some (I 0) := hcell_of h1 rfl
 have c1 : hcell h ⟨g, 0, none⟩ = some (I far) := hcell_of h2 rfl
 simp only [pLoad_ptr, c0, c1, pMax_int, pMin_int]
 have e : (if far < (if (0 : Int) > a then 0 else a) then far else (if (0 : Int) > a then 0 else a)) = kept a := by
  unfold kept; split <;> split <;> omega
 rw [e]; exact hK

theorem way_ok {P : KT} (hK : ∀ h', Ext h h' -> P (I (kept a)) h') : sh_dist_way Tryz.prog (I a) h P := by
 unfold sh_dist_way
 refine callS_of (lk_dist_between_int64 _ _ ?_)
 unfold sh_dist_between_int64
 refine (Own.start h).box fun l h1 o1 => o1.box fun g h2 o2 => ?_
 exact between1_ok (o2.get 1 rfl) (o2.get 0 rfl) (hK _ o2.ext)

theorem wayS_ok (hK : ∀ h', Ext h h' -> K (I (kept a)) h') : callS Tryz.prog F_dist_way [I a] h K := callS_of (lk_dist_way _ (way_ok hK))
theorem wayV_ok (hK : ∀ h', Ext h h' -> K (I (kept a)) h') : callV Tryz.prog (.func (.func F_dist_way) #[] #[]) [I a].toArray h K := callV_of (l := [I a]) rfl (lk_dist_way _ (way_ok hK))

theorem dfin_ok (h0 : 0 <= a) (h1 : a <= far) (hK : ∀ h', Ext h h' -> K (.bool (decide (a < far))) h') : callS Tryz.prog F_dist_Finite [I a] h K := by
 refine callS_of (lk_dist_Finite _ ?_)
 unfold sh_dist_Finite
 refine wayS_ok fun h' x => ?_
 rw [kept_in h0 h1, pBin_lss]
 exact hK _ x

theorem dadd_ok (h0 : 0 <= a) (h1 : a <= far) (h2 : 0 <= b) (h3 : b <= far) (hK : ∀ h', Ext h h' -> K (I (min (a + b) far)) h') : callS Tryz.prog F_dist_Add [I a, I b] h K := by
 have hf : far = 72057594037927936 := rfl
 refine callS_of (lk_dist_Add _ _ ?_)
 unfold sh_dist_Add
 refine (Own.start h).build (enc := encJ) (n := 1) [a, b] rfl (sizesOk_of rfl) rfl fun w h4 o4 => ?_
 refine callS_of (lk_dist_folded _ _ ?_)
 unfold sh_dist_folded
 refine (o4.vw 0 rfl).len ?_
 refine LoopH_count 2 (fun i x h' => x.2.1 = I i /\ x.1 = I (if i = 0 then 0 else if i = 1 then a else min (a + b) far) /\ Own h h' [slR encJ 1 T_int64 w [a, b]]) ⟨rfl, rfl, o4⟩ ?_
 rintro i ⟨sm, x, ⟨⟩⟩ h' Z hi ⟨hx, hsm, o⟩ hZ
 dsimp only at hx hsm hZ ⊢
 subst hx hsm
 unfold sh_dist_folded_L1
 simp only [pBin_lss, ifV_dec]
 refine ⟨fun hlt => ?_, fun hge => ?_⟩
 ·have hlt : i < 2 := by simp at hlt; omega
  refine (o.vw 0 rfl).atI (by simpa using hlt) ?_
  rcases (show i = 0 \/ i = 1 by omega) with rfl | rfl
  ·refine wayV_ok fun h5 x5 => ?_
   rw [show ([a, b] : List Int)[0] = a from rfl, kept_in h0 h1, pBin_add, w64 (by simp; omega) (by simp; omega)]
   refine wayV_ok fun h6 x6 => ?_
   rw [show (if 0 = 0 then (0 : Int) else if 0 = 1 then a else min (a + b) far) + a = a by simp, kept_in h0 h1, pBin_add, wI 0 (by omega)]
   exact hZ (I a, (I 1, ())) h6 (by omega) ⟨rfl, rfl, (o.more x5).more x6⟩
  ·refine wayV_ok fun h5 x5 => ?_
   rw [show ([a, b] : List Int)[1] = b from rfl, kept_in h2 h3, pBin_add, w64 (by simp; omega) (by simp; omega)]
   refine wayV_ok fun h6 x6 => ?_
   rw [show (if 1 = 0 then (0 : Int) else if 1 = 1 then a else min (a + b) far) + b = a + b by simp, show kept (a + b) = min (a + b) far by unfold kept; omega, pBin_add, wI 1 (by omega)]
   exact hZ (I (min (a + b) far), (I 2, ())) h6 (by omega) ⟨rfl, rfl, (o.more x5).more x6⟩
 ·have : i = 2 := by
   have : ([a, b] : List Int).length = 2 := rfl
   omega
  subst this
  exact hK _ o.ext

end
open Go Go.Mh

def encT (x : Bool) : List Value := [.bool x]
theorem encT_len (x : Bool) : (encT x).length = 1 := rfl
theorem encT_plain (x : Bool) : ∀ u ∈ encT x, Mh.plainCell u = true := by intro u hu; simp [encT] at hu; subst hu; rfl

section
variable {h0 h : Heap} {L : List Res} {K : KT} {g : G} {r : Nat} {d : List Int} {v : Value} {n : Nat} {f : Nat -> Bool}

theorem tells1_ok {n2 x5 i : Nat} {sd sa so : Value} {T1 T2 : TypeId} (hR : g.Right) (hd : d.length = g.n) (hrg : ∀ u, u < g.n -> 0 <= dAt d u /\ dAt d u <= far) (hi : i < g.arcs.length)
  (h1 : h[n2]? = some (.cells #[ptr r] T1 (0, 0))) (h2 : h[x5]? = some (.cells #[sd, sa, so] T2 (0, 0))) (hN : NetR h r g) (hv : Vw encJ 1 h sd d)
  (hK : ∀ h', Ext h h' -> K (.bool (tgt d g.arcs[i])) h') : callV Tryz.prog (.func (.func F_tight_tells_1) #[] #[ptr n2, ptr x5]) [I i].toArray h K := by
 refine callV_of (l := [I i, ptr n2, ptr x5]) rfl (lk_tight_tells_1 _ _ _ ?_)
 unfold sh_tight_tells_1
 have c0 : hcell h ⟨n2, 0, none⟩ = some (ptr r) := hcell_of h1 rfl
 have c1 : hcell h ⟨x5, 0, none⟩ = some sd := hcell_of h2 rfl
 refine pLoad_of rfl c0 (arc_ok hN hi fun h3 x3 => ?_)
 simp only [pExt0, pExt1]
 have he := hR.ends _ (List.getElem_mem hi)
 generalize g.arcs[i] = a at he hK
 have hW : (a.w : Int) <= 2147483647 := by omega
 have hf : far = 72057594037927936 := rfl
 have q1 := hrg _ he.1
 have q2 := hrg _ he.2.1
 have o3 := (Own.start h).more x3
 refine o3.box fun b h4 o4 => o4.st 0 rfl rfl rfl rfl rfl (encA_plain _) fun h5 o5 => ?_
 simp only [pField_ptr]
 refine pLoad_of rfl (hcell_more o5.ext c1) (o5.load 0 rfl rfl ((hv.more o5.ext).atI (by omega) (o5.load 0 rfl rfl ?_)))
 rw [dAt_get]
 refine dadd_ok q2.1 q2.2 (by omega) (by omega) fun h6 x6 => ?_
 have o6 := o5.more x6
 refine dfin_ok (by omega) (by omega) fun h7 x7 => ?_
 have o7 := o6.more x7
 unfold tgt at hK
 simp only [ifV_dec]
 refine ⟨fun hlt => ?_, fun hge => ?_⟩
 ·refine pLoad_of rfl (hcell_more o7.ext c1) (o7.load 0 rfl rfl ((hv.more o7.ext).atI (by omega) ?_))
  rw [dAt_get, pBin_eql]
  have := hK h7 o7.ext
  rw [decide_eq_true hlt, Bool.true_and] at this
  exact this
 ·have := hK h7 o7.ext
  rw [decide_eq_false hge, Bool.false_and] at this
  exact this

def HoldF (hv : Value) (n : Nat) (f : Nat -> Bool) (Q : Heap -> Prop) : Prop :=
 ∀ (h : Heap) (K : KT) (i : Nat), i < n -> Q h -> (∀ h', Ext h h' -> K (.bool (f i)) h') -> callV Tryz.prog hv [I i].toArray h K

theorem marked_iter {m2 h3 : Nat} {hv : Value} {Q : Heap -> Prop} {T1 T2 : TypeId} (hn : n < 2 ^ 40) (hF : HoldF hv n f Q) :
  IterG Tryz.prog (.func (.func F_tight_marked_1) #[] #[ptr m2, ptr h3]) (fun h => h[m2]? = some (.cells #[I n] T1 (0, 0)) /\ h[h3]? = some (.cells #[hv] T2 (0, 0)) /\ Q h) (σ := Nat) 0 (mkNext n f) (mkStop n f) := by
 rintro yv h0 h Rs K J E ⟨l, rfl⟩ o j0 hQ hY hK
 refine callF_of (l := [yieldV l, ptr m2, ptr h3]) rfl (lk_tight_marked_1 _ _ _ ?_)
 unfold sh_tight_marked_1
 obtain ⟨hm, _, _⟩ := hQ _ _ _ j0 o
 have cm : hcell h ⟨m2, 0, none⟩ = some (I n) := hcell_of hm rfl
 refine pLoad_of rfl cm ?_
 refine LoopH_count n (fun i x h' => x.1 = I i /\ ∃ s Rs', s <= i /\ (∀ k, s <= k -> k < i -> f k = false) /\ J s Rs' /\ Own h0 h' Rs') ⟨rfl, 0, Rs, Nat.le_refl _, fun k _ h => absurd h (by omega), j0, o⟩ ?_
 rintro i ⟨x, ⟨⟩⟩ h Z hi ⟨hx, s, Rs', hs, hno, hj, o⟩ hZ
 dsimp only at hx hZ ⊢
 subst hx
 unfold sh_tight_marked_1_L1
 simp only [pBin_lss, ifV_dec]
 refine ⟨fun hlt => ?_, fun hge => ?_⟩
 ·have hlt : i < n := by omega
  obtain ⟨_, hh, hq⟩ := hQ _ _ _ hj o
  have ch : hcell h ⟨h3, 0, none⟩ = some hv := hcell_of hh rfl
  refine pLoad_of rfl ch (hF _ _ i hlt hq fun h1 x1 => ?_)
  have o1 := o.more x1
  by_cases hf : f i = true
  ·rw [hf, ifV_true]
   refine hY s _ (i + 1) Rs' [] h1 _ ⟨i, hs, hlt, hf, hno, rfl, rfl⟩ hj o1.nilTail (fun Rs'' h'' hj' o' => ?_) fun Rs'' h'' he o' => ?_
   ·unfold sh_tight_marked_1_k2
    rw [pUn_not, Bool.not_true, ifV_false, pBin_add, wI i (by omega)]
    exact hZ (I (i + 1 : Nat), ()) h'' hlt ⟨rfl, i + 1, Rs'', Nat.le_refl _, fun k _ h => absurd h (by omega), hj', o'.toNil⟩
   ·rw [pUn_not, Bool.not_false, ifV_true]
    exact hK _ _ (.inr he) o'.toNil
  ·have hf : f i = false := by simpa using hf
   unfold sh_tight_marked_1_k2
   rw [hf, ifV_false, pBin_add, wI i (by omega)]
   refine hZ (I (i + 1 : Nat), ()) h1 hlt ⟨rfl, s, Rs', by omega, fun k h1 h2 => ?_, hj, o1⟩
   by_cases e : k = i
   ·subst e; exact hf
   ·exact hno k h1 (by omega)
 ·have : i = n := by omega
  subst this
  exact hK _ _ (.inl ⟨s, fun k h1 h2 => hno k h1 h2, hj⟩) o

theorem put_ok {fv : Value} {Q : Heap -> Prop} {l : List Bool} (o : Own h0 h (slR encT 1 T_bool v l :: L)) (hl : l.length = n) (hI : IterG Tryz.prog fv Q (σ := Nat) 0 (mkNext n f) (mkStop n f))
  (hQ : ∀ h' l', Own h0 h' (slR encT 1 T_bool v l' :: L) -> Q h') (hK : ∀ h', Own h0 h' (slR encT 1 T_bool v (setT l f n) :: L) -> K v h') : callS Tryz.prog F_tight_put_bool [v, fv, .bool true] h K := by
 refine callS_of (lk_tight_put_bool _ _ _ ?_)
 unfold sh_tight_put_bool
 have hv1 := (o.vw 0 rfl).one
 refine o.box fun l3 h1 o1 => o1.box fun x5 h2 o2 => ?_
 have o3 : Own h0 h2 (cellR x5 [.bool true] T_bool :: cellR l3 [v] T_sl_bool :: slR encT 1 T_bool v (setT l f 0) :: L) := by
  rw [setT_zero]
  rw [show v.cells.toList = [v] by rw [hv1]] at o2
  exact o2
 refine o3.range hI (by rintro s x s' ⟨j, _, _, _, _, rfl, _⟩; rfl) (fun s Rs => s <= n /\ Rs = cellR x5 [.bool true] T_bool :: cellR l3 [v] T_sl_bool :: slR encT 1 T_bool v (setT l f s) :: L) (fun _ => False) (fun _ _ => False) ⟨Nat.zero_le _, rfl⟩ ?_ ?_ ?_ (fun _ _ h => h.elim) (fun _ _ _ h => h.elim)
 ·rintro s Rs' h' ⟨_, rfl⟩ o'
  exact hQ _ _ o'.tail.tail
 ·rintro M s x s' Rs' Pr h' R ⟨j, hij, hj, hf, hno, rfl, rfl⟩ ⟨hs, rfl⟩ o' hN _ _
  dsimp only [valsOf]
  unfold sh_tight_put_bool_B1
  refine o'.begin 0 rfl fun h4 o4 => o4.load 3 rfl rfl (o4.load 2 rfl rfl ?_)
  refine o4.setAt (a := true) 4 rfl encT_len (encT_plain _) (by rw [setT_len, hl]; exact hj) rfl fun h5 o5 => ?_
  rw [setT_next hij (by omega) hf hno] at o5
  exact hN _ _ ⟨by omega, rfl⟩ o5
 ·rintro s h' Rs' hst ⟨hs, rfl⟩ o'
  refine o'.load 2 rfl rfl (o'.take1 0 rfl fun h3 o4 => ?_)
  refine hK h3 ?_
  have e := setT_stop (l := l) (f := f) (i := s) (by rw [hl]; exact hst) (by omega)
  rw [hl] at e
  rw [<- e]
  exact o4.tail.tail.tail

theorem tthere_ok {z : Int} (H : NetR h r g) (hK : K (.bool (decide (0 <= z) && decide (z < g.n))) h) : callS Tryz.prog F_tight_there [ptr r, I z] h K := by
 refine callS_of (lk_tight_there _ _ ?_)
 unfold sh_tight_there
 have pe : ∀ {K : Value -> Prop}, K (.bool true) -> pEq true .ptr (ptr r) (.pointer none) K := fun hk => by simpa [pEq] using hk
 refine pe ?_
 rw [ifV_true]
 simp only [pBin_geq, ifV_dec]
 refine ⟨fun h1 => nodes_ok H ?_, fun h1 => ?_⟩
 ·rw [pBin_lss]
  rw [decide_eq_true h1, Bool.true_and] at hK
  exact hK
 ·rw [decide_eq_false h1, Bool.false_and] at hK
  exact hK

end
open Go Go.Mh

section
variable {h0 h : Heap} {L : List Res} {K : KT} {g : G} {r c n3 c3 k5 b7 n : Nat} {v : Value} {xs : List Int} {f : Nat -> Bool} {k : Int}

theorem containsN_ok {fv : Value} {ys : List Nat} (H : Vw encN 1 h v ys) (hl : ys.length < 2 ^ 40)
  (hF : ∀ (h' : Heap) (K : KT) (x : Nat), x ∈ ys -> Ext h h' -> (∀ h'', Ext h' h'' -> K (.bool (f x)) h'') -> callV Tryz.prog fv [I x].toArray h' K)
  (hK : ∀ h', Ext h h' -> K (.bool (ys.any f)) h') : callS Tryz.prog F_slices_ContainsFunc_sl_int_int [v, fv] h K := by
 refine callS_of (lk_slices_ContainsFunc_sl_int_int _ _ ?_)
 unfold sh_slices_ContainsFunc_sl_int_int
 refine callS_of (lk_slices_IndexFunc_sl_int_int _ _ ?_)
 unfold sh_slices_IndexFunc_sl_int_int
 refine H.len ?_
 refine LoopH_count ys.length (fun i x h' => x.1 = I i /\ Ext h h' /\ (ys.take i).any f = false) ⟨rfl, .refl _ _, rfl⟩ ?_
 rintro i ⟨x, ⟨⟩⟩ h' Z hi ⟨hx, x1, hp⟩ hZ
 dsimp only at hx hZ ⊢
 subst hx
 unfold sh_slices_IndexFunc_sl_int_int_L1
 simp only [pBin_lss, ifV_dec]
 refine ⟨fun hlt => ?_, fun hge => ?_⟩
 ·have hlt : i < ys.length := by omega
  refine (H.more x1).at1 (e := fun x : Nat => I x) (fun _ => rfl) hlt ?_
  refine hF h' _ ys[i] (List.getElem_mem hlt) x1 fun h2 x2 => ?_
  have x3 := ((Own.start h).more x1).ext2 x2
  cases hf : f ys[i] with
  | true =>
   rw [ifV_true, pBin_geq, decide_eq_true (by omega)]
   have := hK h2 x3
   rw [show ys.any f = true from List.any_eq_true.2 ⟨_, List.getElem_mem hlt, hf⟩] at this
   exact this
  | false =>
   rw [ifV_false, pBin_add, wI i (by omega)]
   refine hZ (I (i + 1 : Nat), ()) h2 hlt ⟨rfl, x3, ?_⟩
   rw [List.take_succ_eq_append_getElem hlt, List.any_append, hp]
   simp [hf]
 ·have : ys.take i = ys := List.take_of_length_le (by omega)
  rw [this] at hp
  rw [pBin_geq, decide_eq_false (by omega)]
  have := hK h' x1
  rw [hp] at this
  exact this

theorem cnodes_iter {hv : Value} {Q : Heap -> Prop} {T1 T2 : TypeId} (hl : xs.length < 2 ^ 40) (hF : HoldF hv xs.length f Q) :
  IterG Tryz.prog (.func (.func F_cell_Cells_nodes_1) #[] #[ptr n3, ptr k5]) (fun h => h[n3]? = some (.cells #[ptr c] T1 (0, 0)) /\ h[k5]? = some (.cells #[hv] T2 (0, 0)) /\ CellV h c xs /\ Q h) (σ := Nat) 0 (mkNext xs.length f) (mkStop xs.length f) := by
 rintro yv h0 h Rs K J E ⟨l, rfl⟩ o j0 hQ hY hK
 refine callF_of (l := [yieldV l, ptr n3, ptr k5]) rfl (lk_cell_Cells_nodes_1 _ _ _ ?_)
 unfold sh_cell_Cells_nodes_1
 obtain ⟨hm, _, ⟨s, hb, hv'⟩, _⟩ := hQ _ _ _ j0 o
 have cm : hcell h ⟨n3, 0, none⟩ = some (ptr c) := hcell_of hm rfl
 have c0 : hcell h ⟨c, 0, none⟩ = some s := hcell_of hb rfl
 simp only [pLoad_ptr, cm, pEq_ptr_nil, Option.isNone_some, ifV_false, pNil_ptr, pField_ptr, Nat.zero_add, c0]
 refine hv'.len ?_
 refine LoopH_count xs.length (fun i x h' => x.1 = I i /\ ∃ s Rs', s <= i /\ (∀ k, s <= k -> k < i -> f k = false) /\ J s Rs' /\ Own h0 h' Rs') ⟨rfl, 0, Rs, Nat.le_refl _, fun k _ h => absurd h (by omega), j0, o⟩ ?_
 rintro i ⟨x, ⟨⟩⟩ h Z hi ⟨hx, s, Rs', hs, hno, hj, o⟩ hZ
 dsimp only at hx hZ ⊢
 subst hx
 unfold sh_cell_Cells_nodes_1_L1
 simp only [pBin_lss, ifV_dec]
 refine ⟨fun hlt => ?_, fun hge => ?_⟩
 ·have hlt : i < xs.length := by omega
  obtain ⟨_, hh, _, hq⟩ := hQ _ _ _ hj o
  have ch : hcell h ⟨k5, 0, none⟩ = some hv := hcell_of hh rfl
  refine pLoad_of rfl ch (hF _ _ i hlt hq fun h1 x1 => ?_)
  have o1 := o.more x1
  by_cases hf : f i = true
  ·rw [hf, ifV_true]
   refine hY s _ (i + 1) Rs' [] h1 _ ⟨i, hs, hlt, hf, hno, rfl, rfl⟩ hj o1.nilTail (fun Rs'' h'' hj' o' => ?_) fun Rs'' h'' he o' => ?_
   ·unfold sh_cell_Cells_nodes_1_k2
    rw [pUn_not, Bool.not_true, ifV_false, pBin_add, wI i (by omega)]
    exact hZ (I (i + 1 : Nat), ()) h'' hlt ⟨rfl, i + 1, Rs'', Nat.le_refl _, fun k _ h => absurd h (by omega), hj', o'.toNil⟩
   ·rw [pUn_not, Bool.not_false, ifV_true]
    exact hK _ _ (.inr he) o'.toNil
  ·have hf : f i = false := by simpa using hf
   unfold sh_cell_Cells_nodes_1_k2
   rw [hf, ifV_false, pBin_add, wI i (by omega)]
   refine hZ (I (i + 1 : Nat), ()) h1 hlt ⟨rfl, s, Rs', by omega, fun k h1 h2 => ?_, hj, o1⟩
   by_cases e : k = i
   ·subst e; exact hf
   ·exact hno k h1 (by omega)
 ·have : i = xs.length := by omega
  subst this
  exact hK _ _ (.inl ⟨s, fun k h1 h2 => hno k h1 h2, hj⟩) o

theorem beyondB_ok {i : Nat} {T1 T2 T3 : TypeId} (hR : g.Right) (hx : xs.length = g.n) (hi : i < g.arcs.length) (h1 : h[n3]? = some (.cells #[ptr r] T1 (0, 0))) (h2 : h[c3]? = some (.cells #[ptr c] T2 (0, 0))) (h3 : h[k5]? = some (.cells #[I k] T3 (0, 0)))
  (hN : NetR h r g) (hC : CellV h c xs) (hK : ∀ h', Ext h h' -> K (.bool (!decide (dAt xs (arcAt g.arcs i).f = k))) h') : callV Tryz.prog (.func (.func F_cell_Cells_Border_1) #[] #[ptr n3, ptr c3, ptr k5]) [I i].toArray h K := by
 refine callV_of (l := [I i, ptr n3, ptr c3, ptr k5]) rfl (lk_cell_Cells_Border_1 _ _ _ _ ?_)
 unfold sh_cell_Cells_Border_1
 have d1 : hcell h ⟨n3, 0, none⟩ = some (ptr r) := hcell_of h1 rfl
 have d2 : hcell h ⟨c3, 0, none⟩ = some (ptr c) := hcell_of h2 rfl
 have d3 : hcell h ⟨k5, 0, none⟩ = some (I k) := hcell_of h3 rfl
 refine pLoad_of rfl d1 (arc_ok hN hi fun h3' x3 => ?_)
 simp only [pExt0, pExt1]
 have he := hR.ends _ (List.getElem_mem hi)
 have ea : arcAt g.arcs i = g.arcs[i] := by simp [arcAt, hi]
 rw [ea] at hK
 generalize g.arcs[i] = a at he hK
 have o3 := (Own.start h).more x3
 refine o3.box fun b h4 o4 => o4.st 0 rfl rfl rfl rfl rfl (encA_plain _) fun h5 o5 => ?_
 obtain ⟨s, hb, hv⟩ := hC.more o5.ext
 have c0 : hcell h5 ⟨c, 0, none⟩ = some s := hcell_of hb rfl
 refine pLoad_of rfl (hcell_more o5.ext d2) ?_
 simp only [pNil_ptr, pField_ptr, Nat.zero_add]
 refine pLoad_of rfl c0 ?_
 refine o5.load 0 rfl rfl (hv.atI (by omega) ?_)
 refine pLoad_of rfl (hcell_more o5.ext d3) ?_
 rw [dAt_get, pBin_neq]
 have := hK h5 o5.ext
 rw [show (dAt xs a.f != k) = !decide (dAt xs a.f = k) by simp [bne, BEq.beq]]
 exact this

theorem border_hold {T1 T2 T3 T4 : TypeId} (hR : g.Right) (hx : xs.length = g.n) : HoldF (.func (.func F_cell_Cells_Border_2) #[] #[ptr c3, ptr k5, ptr n3, ptr b7]) xs.length (bord g (dAt xs) k)
  (fun h => h[c3]? = some (.cells #[ptr c] T1 (0, 0)) /\ h[k5]? = some (.cells #[I k] T2 (0, 0)) /\ h[n3]? = some (.cells #[ptr r] T3 (0, 0)) /\ h[b7]? = some (.cells #[.func (.func F_cell_Cells_Border_1) #[] #[ptr n3, ptr c3, ptr k5]] T4 (0, 0)) /\ CellV h c xs /\ NetR h r g) := by
 rintro h K i hi ⟨h1, h2, h3, h4, hC, hN⟩ hK
 refine callV_of (l := [I i, ptr c3, ptr k5, ptr n3, ptr b7]) rfl (lk_cell_Cells_Border_2 _ _ _ _ _ ?_)
 unfold sh_cell_Cells_Border_2
 have d1 : hcell h ⟨c3, 0, none⟩ = some (ptr c) := hcell_of h1 rfl
 have d2 : hcell h ⟨k5, 0, none⟩ = some (I k) := hcell_of h2 rfl
 have d3 : hcell h ⟨n3, 0, none⟩ = some (ptr r) := hcell_of h3 rfl
 have d4 : hcell h ⟨b7, 0, none⟩ = some (.func (.func F_cell_Cells_Border_1) #[] #[ptr n3, ptr c3, ptr k5]) := hcell_of h4 rfl
 obtain ⟨s, hb, hv⟩ := id hC
 have c0 : hcell h ⟨c, 0, none⟩ = some s := hcell_of hb rfl
 refine cutP_of (fun y h' => y.1 = .bool (bord g (dAt xs) k i) /\ Ext h h') (fun J hJ => ?_) ?_
 ·refine pLoad_of rfl d1 ?_
  simp only [pNil_ptr, pField_ptr, Nat.zero_add]
  refine pLoad_of rfl c0 (hv.atI hi (pLoad_of rfl d2 ?_))
  rw [dAt_get, pBin_eql]
  by_cases e : dAt xs i = k
  ·rw [show (dAt xs i == k) = true by simpa using e, ifV_true]
   refine pLoad_of rfl d3 (pLoad_of rfl d4 ?_)
   refine inI_ok (Own.start h) hR hN fun w h5 o5 => ⟨pLoad_of rfl (hcell_more o5.ext d4) rfl, ?_⟩
   have hin : (if 0 <= (i : Int) /\ (i : Int) < g.n then g.in (i : Int).toNat else []) = g.in i := by rw [if_pos (by omega)]; rfl
   rw [hin] at o5
   refine containsN_ok (f := fun i => !decide (dAt xs (arcAt g.arcs i).f = k)) (o5.vw 0 rfl) (Nat.lt_of_le_of_lt outsP_short (by have := hR.many; omega)) (fun h' K' x hx' x5 hk => ?_) fun h' x5 => ?_
   ·have x6 := o5.ext2 x5
    exact beyondB_ok hR hx (in_lt hx') (x6.get h3) (x6.get h1) (x6.get h2) (hN.more x6) (hC.more x6) hk
   ·refine hJ _ h' ⟨?_, o5.ext2 x5⟩
    unfold bord
    rw [decide_eq_true e, Bool.true_and]
  ·rw [show (dAt xs i == k) = false by simpa using e, ifV_false]
   refine hJ _ h ⟨?_, .refl _ _⟩
   unfold bord
   rw [decide_eq_false e, Bool.false_and]
 ·rintro ⟨y, ⟨⟩⟩ h' ⟨hy, x⟩
  dsimp only at hy ⊢
  subst hy
  unfold sh_cell_Cells_Border_2_C1
  exact hK _ x

def bordL (g : G) (xs : List Int) (k : Int) : List Int := ((List.range g.n).filter (bord g (dAt xs) k)).map fun (i : Nat) => (i : Int)

theorem border_ok {h0 : Heap} {L : List Res} (o : Own h0 h L) (hR : g.Right) (hx : xs.length = g.n) (hN : NetR h r g) (hC : CellV h c xs) (hK : ∀ w h', Own h0 h' (slR encJ 1 T_int w (bordL g xs k) :: L) -> K w h') : callS Tryz.prog F_cell_Cells_Border [ptr c, ptr r, I k] h K := by
 refine callS_of (lk_cell_Cells_Border _ _ _ ?_)
 unfold sh_cell_Cells_Border
 have hmost := hR.most
 refine (Own.start h).box fun c3 h1 o1 => o1.box fun n4 h2 o2 => o2.box fun k5 h3 o3 => ?_
 have o3 : Own h h3 [cellR k5 [I k] T_int, cellR n4 [ptr r] T_p_net_Net, cellR c3 [ptr c] T_p_cell_Cells] := o3
 refine cutP_of (fun y h' => y.1 = .bool false /\ h' = h3) (fun J hJ => ?_) ?_
 ·refine o3.load 2 rfl rfl ?_
  simp only [pEq_ptr_nil, Option.isNone_some, ifV_false]
  refine o3.load 1 rfl rfl ?_
  simp only [pEq_ptr_nil, Option.isNone_some, ifV_false]
  refine o3.load 1 rfl rfl (o3.load 2 rfl rfl ?_)
  obtain ⟨s, hb, hv⟩ := hC.more o3.ext
  have c0 : hcell h3 ⟨c, 0, none⟩ = some s := hcell_of hb rfl
  simp only [pNil_ptr, pField_ptr, Nat.zero_add]
  refine pLoad_of rfl c0 (hv.len ?_)
  refine nodes_ok (hN.more o3.ext) ⟨o3.load 2 rfl rfl rfl, pLoad_of rfl c0 rfl, ?_⟩
  rw [pBin_neq, hx, bne_self_eq_false]
  exact hJ _ _ ⟨rfl, rfl⟩
 ·rintro ⟨y, ⟨⟩⟩ h' ⟨hy, rfl⟩
  dsimp only at hy ⊢
  subst hy
  unfold sh_cell_Cells_Border_C1
  rw [ifV_false]
  refine o3.box fun b7 h6 o6 => o6.st1 0 (cs' := [.func (.func F_cell_Cells_Border_1) #[] #[ptr n4, ptr c3, ptr k5]]) rfl rfl rfl rfl rfl fun h7 o7 => o7.load 3 rfl rfl ?_
  refine callS_of (lk_cell_Cells_nodes _ _ ?_)
  unfold sh_cell_Cells_nodes
  refine o7.box fun c2 h8 o8 => o8.box fun q3 h9 o9 => ?_
  have hF := border_hold (c := c) (r := r) (c3 := c3) (k5 := k5) (n3 := n4) (b7 := b7) (k := k) (T1 := T_p_cell_Cells) (T2 := T_int) (T3 := T_p_net_Net) (T4 := T_func_int_bool) hR hx
  refine collectB_int o9 (cnodes_iter (n3 := c2) (k5 := q3) (c := c) (T1 := T_p_cell_Cells) (T2 := T_func_int_bool) (by omega) hF) (fun s => (onL xs.length (bord g (dAt xs) k) (min s xs.length)).map fun (i : Nat) => (i : Int)) rfl (fun s x s' => ?_) (fun Rs h' o' => ?_) fun w h' s hst o' => ?_
  ·rintro ⟨j, hs, hj, hf, hno, rfl, rfl⟩
   refine ⟨(j : Int), rfl, ?_, ?_⟩
   ·rw [Nat.min_eq_left (show j + 1 <= xs.length by omega), Nat.min_eq_left (show s <= xs.length by omega), onL_next hs hf hno, List.map_append]; rfl
   ·have := List.length_filter_le (bord g (dAt xs) k) (List.range (j + 1))
    rw [List.length_range] at this
    rw [Nat.min_eq_left (show j + 1 <= xs.length by omega), List.length_map]
    unfold onL
    omega
  ·have q : ∀ (i : Nat) (R : Res), (cellR q3 [.func (.func F_cell_Cells_Border_2) #[] #[ptr c3, ptr k5, ptr n4, ptr b7]] T_func_int_bool :: cellR c2 [ptr c] T_p_cell_Cells :: cellR b7 [.func (.func F_cell_Cells_Border_1) #[] #[ptr n4, ptr c3, ptr k5]] T_func_int_bool :: cellR k5 [I k] T_int :: cellR n4 [ptr r] T_p_net_Net :: cellR c3 [ptr c] T_p_cell_Cells :: [])[i]? = some R -> R.Q h' := fun i R hi => o'.get (Rs.length + i) (by rw [List.getElem?_append_right (by omega)]; rw [show Rs.length + i - Rs.length = i by omega]; exact hi)
   exact ⟨q 1 _ rfl, q 0 _ rfl, hC.more o'.ext, q 5 _ rfl, q 3 _ rfl, q 4 _ rfl, q 2 _ rfl, hC.more o'.ext, hN.more o'.ext⟩
  ·have hs : onL xs.length (bord g (dAt xs) k) (min s xs.length) = (List.range g.n).filter (bord g (dAt xs) k) := by
    rw [<- hx]
    refine onL_stop (Nat.min_le_right _ _) fun k' h1 h2 => hst k' (by omega) h2
   rw [hs] at o'
   exact hK w h' (o.frame (o'.sel [0] (by decide)))

end
open Go Go.Mh

section
variable {h0 h : Heap} {L : List Res} {K : KT} {g : G} {r : Nat} {d : List Int} {v : Value} {n : Nat} {f : Nat -> Bool}

theorem tanyH_ok {vn : Value} {bs : List Int} (o : Own h0 h L) (hR : g.Right) (H : NetR h r g) (hb : Vw encJ 1 h vn bs) (hbl : bs.length < 2 ^ 40)
  (hK : ∀ w h', Own h0 h' (slR encT 1 T_bool w (g.arcs.map (tgtAny g bs)) :: L) -> K w h') : callS Tryz.prog F_tight_Any [ptr r, vn] h K := by
 refine callS_of (lk_tight_Any _ _ ?_)
 unfold sh_tight_Any
 have hmany := hR.many
 have hmost := hR.most
 simp only [pEq_ptr_nil, Option.isNone_some, ifV_false]
 refine arcs_ok (H) ?_
 refine (Own.start h).make (enc := encT) (n := 1) (a := false) rfl (by omega) (by omega) fun w h1 o1 => hb.len ?_
 have e0 : List.replicate g.arcs.length false = g.arcs.map (tgtAny g (bs.take 0)) := by
  apply List.ext_getElem (by simp) fun i h1 h2 => by simp [tgtAny]
 rw [e0] at o1
 refine LoopH_count bs.length (fun i x h' => x.1 = w /\ x.2.1 = I i /\ Own h h' [slR encT 1 T_bool w (g.arcs.map (tgtAny g (bs.take i)))]) ⟨rfl, rfl, o1⟩ ?_
 clear o1 e0
 rintro i ⟨w', x, ⟨⟩⟩ h' Z hi ⟨hw, hx, o'⟩ hZ
 dsimp only at hw hx hZ ⊢
 subst hw hx
 unfold sh_tight_Any_L1
 simp only [pBin_lss, ifV_dec]
 refine ⟨fun hlt => ?_, fun hge => ?_⟩
 ·have hlt : i < bs.length := by omega
  have hm : ∀ a, tgtAny g (bs.take (i + 1)) a = (tgtAny g (bs.take i) a || tgtI g bs[i] a) := fun a => by
   rw [List.take_succ_eq_append_getElem hlt, tgtAny_append, tgtAny_one]
  refine (hb.more o'.ext).atI hlt ?_
  generalize bs[i] = b at hm
  refine tthere_ok (H.more o'.ext) ?_
  by_cases hc : 0 <= b /\ b < g.n
  ·rw [decide_eq_true hc.1, decide_eq_true hc.2, Bool.true_and, ifV_true]
   obtain ⟨b, rfl⟩ := Int.eq_ofNat_of_zero_le hc.1
   have hbn : b < g.n := by omega
   have T := to_tree hR hbn
   refine (o'.vw 0 rfl).len ?_
   refine callS_of (lk_tight_tells _ _ ?_)
   unfold sh_tight_tells
   refine o'.box fun n2 h2 o2 => o2.load 0 rfl rfl (to_ok hR (H.more o2.ext) fun sd sa so h3 o3 => ?_)
   have et : g.toI (b : Int) = g.to b := by rw [G.toI, if_pos (by omega)]; rfl
   rw [et] at o3
   replace o3 := o2.frame o3
   refine o3.box fun x5 h4 o4 => o4.st (cs' := [sd, sa, so]) 0 rfl rfl rfl rfl rfl ?_ fun h5 o5 => ?_
   ·intro u hu
    simp at hu
    rcases hu with rfl | rfl | rfl
    ·exact (o3.vw 0 rfl).plain
    ·exact (o3.vw 1 rfl).plain
    ·exact (o3.vw 2 rfl).plain
   refine callS_of (lk_tight_marked _ _ ?_)
   unfold sh_tight_marked
   refine o5.box fun m2 h6 o6 => o6.box fun q3 h7 o7 => ?_
   have hlen : (g.arcs.map (tgtAny g (bs.take i))).length = g.arcs.length := by simp
   have hF : HoldF (.func (.func F_tight_tells_1) #[] #[ptr n2, ptr x5]) (g.arcs.map (tgtAny g (bs.take i))).length (fun k => tgt (g.to b).dist (arcAt g.arcs k)) (fun h' => h'[n2]? = some (.cells #[ptr r] T_p_net_Net (0, 0)) /\ h'[x5]? = some (.cells #[sd, sa, so] T_flood_Tree (0, 0)) /\ NetR h' r g /\ Vw encJ 1 h' sd (g.to b).dist) := by
    rintro h'' K'' k hk ⟨q1, q2, q3, q4⟩ hK''
    have hk : k < g.arcs.length := by omega
    dsimp only at hK''
    rw [show arcAt g.arcs k = g.arcs[k] by simp [arcAt, hk]] at hK''
    exact tells1_ok hR T.ls.len (fun u hu => ⟨T.ls.nonneg hu, T.ls.far_le hu⟩) hk q1 q2 q3 q4 hK''
   have o8 := o7.sel [7, 0, 1, 2, 3, 4, 5, 6] (by decide)
   refine put_ok o8 rfl (marked_iter (T1 := T_int) (T2 := T_func_int_bool) (by rw [hlen]; omega) hF) (fun h'' l' o'' => ⟨o''.get 2 rfl, o''.get 1 rfl, o''.get 7 rfl, o''.get 3 rfl, H.more o''.ext, o''.vw 4 rfl⟩) fun h8 o9 => ?_
   unfold sh_tight_Any_k2
   rw [pBin_add, wI i (by omega)]
   refine hZ (w', (I (i + 1 : Nat), ())) h8 hlt ⟨rfl, rfl, ?_⟩
   have e1 := setT_map (l := g.arcs) (p := tgtAny g (bs.take i)) (q := fun a => tgtI g b a) (f := fun k => tgt (g.to b).dist (arcAt g.arcs k)) fun k hk => by
    simp [arcAt, hk, tgtI, et, hbn]
   rw [hlen, e1] at o9
   have e2 : (g.arcs.map fun a => tgtAny g (bs.take i) a || tgtI g b a) = g.arcs.map (tgtAny g (bs.take (i + 1))) := List.map_congr_left fun a _ => (hm a).symm
   rw [e2] at o9
   exact o9.sel [0] (by decide)
  ·have hcf : (decide (0 <= b) && decide (b < (g.n : Int))) = false := by
    rw [Bool.and_eq_false_imp]; intro h1; exact decide_eq_false fun h2 => hc ⟨of_decide_eq_true h1, h2⟩
   rw [hcf, ifV_false]
   unfold sh_tight_Any_k2
   rw [pBin_add, wI i (by omega)]
   refine hZ (w', (I (i + 1 : Nat), ())) h' hlt ⟨rfl, rfl, ?_⟩
   have e2 : g.arcs.map (tgtAny g (bs.take i)) = g.arcs.map (tgtAny g (bs.take (i + 1))) := List.map_congr_left fun a _ => by
    rw [hm a]
    have : tgtI g b a = false := by unfold tgtI; rw [<- Bool.and_assoc, hcf, Bool.false_and]
    rw [this, Bool.or_false]
   rw [<- e2]
   exact o'
 ·have : i = bs.length := by omega
  subst this
  rw [List.take_length] at o'
  exact hK w' h' (o.frame o')

theorem tarcsH_ok {b : Int} (o : Own h0 h L) (hR : g.Right) (H : NetR h r g)
  (hK : ∀ w h', Own h0 h' (slR encT 1 T_bool w (g.arcs.map (tgtI g b)) :: L) -> K w h') : callS Tryz.prog F_tight_Arcs [ptr r, I b] h K := by
 refine callS_of (lk_tight_Arcs _ _ ?_)
 unfold sh_tight_Arcs
 refine (Own.start h).build (enc := encJ) (n := 1) [b] rfl (sizesOk_of rfl) rfl fun w h1 o1 => ?_
 refine tanyH_ok o1 hR (H.more o1.ext) (o1.vw 0 rfl) (by simp) fun w2 h2 o3 => hK w2 h2 ?_
 have e : g.arcs.map (tgtAny g [b]) = g.arcs.map (tgtI g b) := List.map_congr_left fun a _ => tgtAny_one
 rw [e] at o3
 exact o.frame (o3.sel [0] (by decide))

end

section
variable {h0 h : Heap} {L : List Res} {K : KT} {g : G} {r c n3 c4 k5 y4 : Nat} {xs : List Int} {f : Nat -> Bool} {k : Int}

theorem inside_ok {i : Nat} (hR : g.Right) (hx : xs.length = g.n) (hN : NetR h r g) (hC : CellV h c xs) (hi : i < g.arcs.length) (hK : ∀ h', Ext h h' -> K (.bool (insd g (dAt xs) k i)) h') : callS Tryz.prog F_flag_inside [ptr r, ptr c, I k, I i] h K := by
 refine callS_of (lk_flag_inside _ _ _ _ ?_)
 unfold sh_flag_inside
 refine arc_ok hN hi fun h3 x3 => ?_
 simp only [pExt0, pExt1]
 have he := hR.ends _ (List.getElem_mem hi)
 have ea : arcAt g.arcs i = g.arcs[i] := by simp [arcAt, hi]
 unfold insd at hK
 rw [ea] at hK
 generalize g.arcs[i] = a at he hK
 have o3 := (Own.start h).more x3
 refine o3.box fun b h4 o4 => o4.st 0 rfl rfl rfl rfl rfl (encA_plain _) fun h5 o5 => ?_
 rw [ifV_true]
 simp only [pField_ptr, Nat.zero_add]
 refine o5.load 0 rfl rfl (cof_ok (hC.more o5.ext) (by omega) ?_)
 rw [pBin_eql]
 by_cases e : dAt xs a.f = k
 ·rw [show (dAt xs a.f == k) = true by simpa using e, ifV_true]
  refine o5.load 0 rfl rfl (cof_ok (hC.more o5.ext) (by omega) ?_)
  rw [pBin_eql]
  have := hK h5 o5.ext
  rw [decide_eq_true e, Bool.true_and] at this
  rw [show (dAt xs a.t == k) = decide (dAt xs a.t = k) by simp [BEq.beq]]
  exact this
 ·rw [show (dAt xs a.f == k) = false by simpa using e, ifV_false]
  have := hK h5 o5.ext
  rw [decide_eq_false e, Bool.false_and] at this
  exact this

theorem filt_split {m i : Nat} (hi : i < m) (hf : f i = true) : ∃ post, (List.range m).filter f = (List.range i).filter f ++ i :: post := by
 obtain ⟨d, rfl⟩ := Nat.le.dest (show i + 1 <= m by omega)
 refine ⟨((List.range d).map (i + 1 + ·)).filter f, ?_⟩
 rw [List.range_add, List.filter_append, List.range_succ, List.filter_append]
 simp [hf]

theorem on_ok {yv isv : Value} {pre post wl : List Nat} {J : Nat -> List Res -> Prop} {E : List Res -> Prop} {Rs Pr : List Res} {py : Nat} {T T1 : TypeId} {Ky : KT}
  (hR : g.Right) (hw : wl = pre ++ (List.range g.arcs.length).filter f ++ post)
  (hY : ∀ s x s' Rs' Pr h' (R : KT), ((∃ hi : s < wl.length, x = [I wl[s]]) /\ s' = s + 1) -> J s Rs' -> Own h0 h' (Rs' ++ Pr) -> (∀ Rs'' h'', J s' Rs'' -> Own h0 h'' (Rs'' ++ Pr) -> R (.bool true) h'') ->
   (∀ Rs'' h'', E Rs'' -> Own h0 h'' (Rs'' ++ Pr) -> R (.bool false) h'') -> callV Tryz.prog yv x.toArray h' R)
  (hQ : ∀ s Rs' h', J s Rs' -> Own h0 h' Rs' -> h'[n3]? = some (.cells #[ptr r] T1 (0, 0)) /\ NetR h' r g)
  (hI : ∀ s Rs' h' i (K : KT), i < g.arcs.length -> J s Rs' -> Own h0 h' (Rs' ++ Pr) -> (∀ h'', Ext h' h'' -> K (.bool (f i)) h'') -> callV Tryz.prog isv [I i].toArray h' K)
  (hp : Pr[py]? = some (cellR y4 [yv] T)) (o : Own h0 h (Rs ++ Pr)) (j0 : J pre.length Rs)
  (hKt : ∀ Rs' h', J (pre.length + ((List.range g.arcs.length).filter f).length) Rs' -> Own h0 h' (Rs' ++ Pr) -> Ky (.bool true) h')
  (hKf : ∀ Rs' h', E Rs' -> Own h0 h' (Rs' ++ Pr) -> Ky (.bool false) h') : callV Tryz.prog (.func (.func F_flag_worth_1_1) #[] #[ptr n3, ptr y4]) [isv].toArray h Ky := by
 refine callV_of (l := [isv, ptr n3, ptr y4]) rfl (lk_flag_worth_1_1 _ _ _ ?_)
 unfold sh_flag_worth_1_1
 have hmany := hR.many
 obtain ⟨hb, hN⟩ := hQ _ _ _ j0 o.left
 have hc : hcell h ⟨n3, 0, none⟩ = some (ptr r) := hcell_of hb rfl
 refine pLoad_of rfl hc (arcs_ok hN ?_)
 refine LoopH_count g.arcs.length (fun i x h' => x.1 = I i /\ ∃ Rs', J (pre.length + ((List.range i).filter f).length) Rs' /\ Own h0 h' (Rs' ++ Pr)) ⟨rfl, Rs, j0, o⟩ ?_
 rintro i ⟨x, ⟨⟩⟩ h' Z hi ⟨hx, Rs', hj, o'⟩ hZ
 dsimp only at hx hZ ⊢
 subst hx
 unfold sh_flag_worth_1_1_L1
 simp only [pBin_lss, ifV_dec]
 refine ⟨fun hlt => ?_, fun hge => ?_⟩
 ·have hlt : i < g.arcs.length := by omega
  refine hI _ Rs' h' i _ hlt hj o' fun h2 x2 => ?_
  have o2 := o'.more x2
  cases hf : f i with
  | true =>
   rw [ifV_true]
   obtain ⟨po, hs⟩ := filt_split hlt hf
   refine o2.load (Rs'.length + py) (by rw [List.getElem?_append_right (by omega), show Rs'.length + py - Rs'.length = py by omega]; exact hp) rfl ?_
   have hwi : wl[pre.length + ((List.range i).filter f).length]? = some i := by
    rw [hw, hs, List.append_assoc, List.getElem?_append_right (by omega), show pre.length + ((List.range i).filter f).length - pre.length = ((List.range i).filter f).length by omega, List.append_assoc, List.getElem?_append_right (by omega), Nat.sub_self]
    rfl
   obtain ⟨hwl, hwe⟩ := List.getElem?_eq_some_iff.1 hwi
   have hcnt : pre.length + ((List.range i).filter f).length + 1 = pre.length + ((List.range (i + 1)).filter f).length := by
    rw [List.range_succ, List.filter_append]; simp [hf]; omega
   refine hY (pre.length + ((List.range i).filter f).length) _ _ Rs' Pr h2 _ ⟨⟨hwl, by rw [hwe]⟩, rfl⟩ hj o2 (fun Rs'' h'' hj' o'' => ?_) fun Rs'' h'' he o'' => ?_
   ·unfold sh_flag_worth_1_1_k2
    rw [pUn_not, Bool.not_true, ifV_false, pBin_add, wI i (by omega)]
    exact hZ (I (i + 1 : Nat), ()) h'' hlt ⟨rfl, Rs'', by rw [<- hcnt]; exact hj', o''⟩
   ·rw [pUn_not, Bool.not_false, ifV_true]
    exact hKf _ _ he o''
  | false =>
   rw [ifV_false]
   unfold sh_flag_worth_1_1_k2
   rw [pBin_add, wI i (by omega)]
   refine hZ (I (i + 1 : Nat), ()) h2 hlt ⟨rfl, Rs', ?_, o2⟩
   rw [List.range_succ, List.filter_append]
   simpa [hf] using hj
 ·have : i = g.arcs.length := by omega
  subst this
  exact hKt _ _ hj o'

def tgtL (g : G) (b : Int) : List Nat := (List.range g.arcs.length).filter fun i => tgtI g b (arcAt g.arcs i)
def wl (g : G) (xs : List Int) (k : Int) : List Nat := (List.range g.arcs.length).filter (insd g (dAt xs) k) ++ (bordL g xs k).flatMap (tgtL g)

theorem worth_iter {T1 T2 T3 : TypeId} (hR : g.Right) (hx : xs.length = g.n) : Iter Tryz.prog (.func (.func F_flag_worth_1) #[] #[ptr n3, ptr c4, ptr k5])
  (fun h => h[n3]? = some (.cells #[ptr r] T1 (0, 0)) /\ h[c4]? = some (.cells #[ptr c] T2 (0, 0)) /\ h[k5]? = some (.cells #[I k] T3 (0, 0)) /\ CellV h c xs /\ NetR h r g) (wl g xs k).length (fun i hi => [I (wl g xs k)[i]]) := by
 rintro yv h0 h Rs K J E ⟨l, rfl⟩ o j0 hQ hY hK
 refine callF_of (l := [yieldV l, ptr n3, ptr c4, ptr k5]) rfl (lk_flag_worth_1 _ _ _ _ ?_)
 unfold sh_flag_worth_1
 refine o.box fun y4 h1 o1 => ?_
 have o1 : Own h0 h1 (Rs ++ [cellR y4 [yieldV l] T_func_int_bool]) := Own.rot o1
 have hQ2 : ∀ s Rs' h', J s Rs' -> Own h0 h' Rs' -> h'[n3]? = some (.cells #[ptr r] T1 (0, 0)) /\ NetR h' r g := fun s Rs' h' hj o' => ⟨(hQ _ _ _ hj o').1, (hQ _ _ _ hj o').2.2.2.2⟩
 refine on_ok (pre := []) (f := insd g (dAt xs) k) (post := (bordL g xs k).flatMap (tgtL g)) (wl := wl g xs k) (Pr := [cellR y4 [yieldV l] T_func_int_bool]) (py := 0) (T1 := T1) hR rfl hY hQ2 (fun s Rs' h' i K' hi hj o' hk => ?_) rfl o1 j0 (fun Rs' h' hj o' => ?_) fun Rs' h' he o' => ?_
 ·obtain ⟨q1, q2, q3, q4, q5⟩ := hQ _ _ _ hj o'.left
  have d1 : hcell h' ⟨n3, 0, none⟩ = some (ptr r) := hcell_of q1 rfl
  have d2 : hcell h' ⟨c4, 0, none⟩ = some (ptr c) := hcell_of q2 rfl
  have d3 : hcell h' ⟨k5, 0, none⟩ = some (I k) := hcell_of q3 rfl
  refine callV_of (l := [I i, ptr n3, ptr c4, ptr k5]) rfl (lk_flag_worth_1_2 _ _ _ _ ?_)
  unfold sh_flag_worth_1_2
  exact pLoad_of rfl d1 (pLoad_of rfl d2 (pLoad_of rfl d3 (inside_ok hR hx q5 q4 hi hk)))
 ·rw [pUn_not, Bool.not_true, ifV_false]
  obtain ⟨q1, q2, q3, q4, q5⟩ := hQ _ _ _ hj o'.left
  have d1 : hcell h' ⟨n3, 0, none⟩ = some (ptr r) := hcell_of q1 rfl
  have d2 : hcell h' ⟨c4, 0, none⟩ = some (ptr c) := hcell_of q2 rfl
  have d3 : hcell h' ⟨k5, 0, none⟩ = some (I k) := hcell_of q3 rfl
  refine pLoad_of rfl d2 (pLoad_of rfl d1 (pLoad_of rfl d3 ?_))
  refine border_ok o' hR hx q5 q4 fun w h2 o2 => ?_
  refine (o2.vw 0 rfl).len ?_
  have o2 : Own h0 h2 (Rs' ++ [cellR y4 [yieldV l] T_func_int_bool, slR encJ 1 T_int w (bordL g xs k)]) := by
   have := Own.rot o2
   rwa [List.append_assoc] at this
  have hbl : (bordL g xs k).length < 2 ^ 40 := by
   unfold bordL
   rw [List.length_map]
   have := List.length_filter_le (bord g (dAt xs) k) (List.range g.n)
   have := hR.most
   rw [List.length_range] at *
   omega
  refine LoopH_count (bordL g xs k).length (fun i x h' => x.1 = I i /\ ∃ Rs', J (((List.range g.arcs.length).filter (insd g (dAt xs) k)).length + (((bordL g xs k).take i).flatMap (tgtL g)).length) Rs' /\ Own h0 h' (Rs' ++ [cellR y4 [yieldV l] T_func_int_bool, slR encJ 1 T_int w (bordL g xs k)])) ⟨rfl, Rs', by simpa using hj, o2⟩ ?_
  clear o2 hj o' q1 q2 q3 q4 q5 d1 d2 d3
  rintro i ⟨x, ⟨⟩⟩ h3 Z hi ⟨hx', Rs'', hj, o3⟩ hZ
  dsimp only at hx' hZ ⊢
  subst hx'
  unfold sh_flag_worth_1_L1
  simp only [pBin_lss, ifV_dec]
  refine ⟨fun hlt => ?_, fun hge => ?_⟩
  ·have hlt : i < (bordL g xs k).length := by omega
   obtain ⟨q1, q2, q3, q4, q5⟩ := hQ _ _ _ hj o3.left
   have d1 : hcell h3 ⟨n3, 0, none⟩ = some (ptr r) := hcell_of q1 rfl
   have hv : Vw encJ 1 h3 w (bordL g xs k) := o3.vw (Rs''.length + 1) (by rw [List.getElem?_append_right (by omega), show Rs''.length + 1 - Rs''.length = 1 by omega]; rfl)
   refine hv.atI hlt (pLoad_of rfl d1 ?_)
   refine tarcsH_ok o3 hR q5 fun w2 h4 o4 => o4.box fun t8 h5 o5 => ?_
   have hw2 := o5.vw 1 rfl
   refine o5.st1 0 (cs' := [w2]) rfl rfl rfl hw2.one hw2.plain fun h6 o6 => ?_
   have o6 : Own h0 h6 (Rs'' ++ [cellR y4 [yieldV l] T_func_int_bool, slR encJ 1 T_int w (bordL g xs k), slR encT 1 T_bool w2 (g.arcs.map (tgtI g (bordL g xs k)[i])), cellR t8 [w2] T_sl_bool]) := by
    have e : Rs'' ++ [cellR y4 [yieldV l] T_func_int_bool, slR encJ 1 T_int w (bordL g xs k), slR encT 1 T_bool w2 (g.arcs.map (tgtI g (bordL g xs k)[i])), cellR t8 [w2] T_sl_bool] = ((Rs'' ++ [cellR y4 [yieldV l] T_func_int_bool, slR encJ 1 T_int w (bordL g xs k)]) ++ [slR encT 1 T_bool w2 (g.arcs.map (tgtI g (bordL g xs k)[i]))]) ++ [cellR t8 [w2] T_sl_bool] := by simp
    rw [e]
    exact Own.rot (Own.rot (Own.swap o6))
   have hsplit : wl g xs k = ((List.range g.arcs.length).filter (insd g (dAt xs) k) ++ ((bordL g xs k).take i).flatMap (tgtL g)) ++ (List.range g.arcs.length).filter (fun j => tgtI g (bordL g xs k)[i] (arcAt g.arcs j)) ++ ((bordL g xs k).drop (i + 1)).flatMap (tgtL g) := by
    unfold wl
    have e := List.take_append_drop i (bordL g xs k)
    rw [List.drop_eq_getElem_cons hlt] at e
    conv => lhs; rw [<- e]
    rw [List.flatMap_append, List.flatMap_cons]
    simp only [List.append_assoc]
    rfl
   refine on_ok (f := fun j => tgtI g (bordL g xs k)[i] (arcAt g.arcs j)) (wl := wl g xs k) (py := 0) (T1 := T1) hR hsplit hY hQ2 (fun s Rs3 h' j K' hj' _ o' hk => ?_) rfl o6 (by rw [List.length_append]; exact hj) (fun Rs3 h' hj' o' => ?_) fun Rs3 h' he o' => ?_
   ·refine callV_of (l := [I j, ptr t8]) rfl (lk_flag_worth_1_3 _ _ ?_)
    unfold sh_flag_worth_1_3
    have hv3 : Vw encT 1 h' w2 (g.arcs.map (tgtI g (bordL g xs k)[i])) := o'.vw (Rs3.length + 2) (by rw [List.getElem?_append_right (by omega), show Rs3.length + 2 - Rs3.length = 2 by omega]; rfl)
    have hl3 : ∀ {K : Value -> Prop}, K w2 -> pLoad h' (ptr t8) K := fun hk => o'.load (Rs3.length + 3) (by rw [List.getElem?_append_right (by omega), show Rs3.length + 3 - Rs3.length = 3 by omega]; rfl) rfl hk
    refine hl3 (hv3.len ?_)
    rw [pBin_lss, decide_eq_true (by rw [List.length_map]; omega), ifV_true]
    refine hl3 (hv3.at1 (e := fun x : Bool => .bool x) (fun _ => rfl) (by rw [List.length_map]; exact hj') ?_)
    have := hk h' (.refl _ _)
    rw [List.getElem_map]
    rw [show arcAt g.arcs j = g.arcs[j] by simp [arcAt, hj']] at this
    exact this
   ·rw [pUn_not, Bool.not_true, ifV_false, pBin_add, wI i (by omega)]
    refine hZ (I (i + 1 : Nat), ()) h' hlt ⟨rfl, Rs3, ?_, ?_⟩
    ·have e : (((bordL g xs k).take (i + 1)).flatMap (tgtL g)).length = (((bordL g xs k).take i).flatMap (tgtL g)).length + ((List.range g.arcs.length).filter (fun j => tgtI g (bordL g xs k)[i] (arcAt g.arcs j))).length := by
      rw [List.take_succ_eq_append_getElem hlt, List.flatMap_append, List.length_append]
      congr 1
      rw [List.flatMap_cons, List.flatMap_nil, List.append_nil]; rfl
     rw [e, <- Nat.add_assoc]
     rw [List.length_append] at hj'
     exact hj'
    ·have e : Rs3 ++ [cellR y4 [yieldV l] T_func_int_bool, slR encJ 1 T_int w (bordL g xs k), slR encT 1 T_bool w2 (g.arcs.map (tgtI g (bordL g xs k)[i])), cellR t8 [w2] T_sl_bool] = (Rs3 ++ [cellR y4 [yieldV l] T_func_int_bool, slR encJ 1 T_int w (bordL g xs k)]) ++ [slR encT 1 T_bool w2 (g.arcs.map (tgtI g (bordL g xs k)[i])), cellR t8 [w2] T_sl_bool] := by simp
     rw [e] at o'
     exact o'.left
   ·rw [pUn_not, Bool.not_false, ifV_true]
    exact hK _ _ (.inr he) o'.left
  ·have : i = (bordL g xs k).length := by omega
   subst this
   rw [List.take_length] at hj
   refine hK _ _ (.inl ⟨_, ?_, hj⟩) o3.left
   unfold wl
   rw [List.length_append]
 ·rw [pUn_not, Bool.not_false, ifV_true]
  exact hK _ _ (.inr he) o'.left

end
open Go Go.Mh

section
variable {h0 h : Heap} {L : List Res} {K : KT} {g : G} {r c b : Nat} {xs : List Int} {k : Int} {M : Nat} {bs : List UInt8}

def flagsK (g : G) (xs : List Int) (M k : Nat) : List UInt8 := (List.range k).foldl (fun bs (r : Nat) => setRow bs (longB g.arcs.length) r (wl g xs r)) (List.replicate (M * longB g.arcs.length) 0)
def flagsB (g : G) (xs : List Int) (M : Nat) : List UInt8 := flagsK g xs M M

theorem flagsK_len : ∀ {k : Nat}, (flagsK g xs M k).length = M * longB g.arcs.length
 | 0 => by simp [flagsK]
 | k + 1 => by
  have := flagsK_len (k := k)
  unfold flagsK at *
  rw [List.range_succ, List.foldl_append, List.foldl_cons, List.foldl_nil, setRow_len, this]
theorem flagsK_succ {k : Nat} : flagsK g xs M (k + 1) = setRow (flagsK g xs M k) (longB g.arcs.length) k (wl g xs k) := by
 unfold flagsK
 rw [List.range_succ, List.foldl_append]; rfl

theorem wl_lt {i : Nat} (h : i ∈ wl g xs k) : i < g.arcs.length := by
 rcases List.mem_append.1 h with h | h
 ·exact List.mem_range.1 (List.mem_filter.1 h).1
 ·obtain ⟨b, _, h⟩ := List.mem_flatMap.1 h
  exact List.mem_range.1 (List.mem_filter.1 h).1

theorem ffits_ok (hR : g.Right) (hx : xs.length = g.n) (hN : NetR h r g) (hC : CellV h c xs) (hK : ∀ h', Ext h h' -> K (.bool true) h') : callS Tryz.prog F_flag_fits [ptr r, ptr c] h K := by
 refine callS_of (lk_flag_fits _ _ ?_)
 unfold sh_flag_fits
 have hmost := hR.most
 have hpos := hR.pos
 refine nodes_ok hN ?_
 rw [pBin_gtr, decide_eq_true (by omega), ifV_true]
 refine cmap_ok (Own.start h) hC (by omega) fun w h1 o1 => (o1.vw 0 rfl).len ?_
 refine nodes_ok (hN.more o1.ext) ?_
 rw [pBin_eql, hx, beq_self_eq_true]
 exact hK h1 o1.ext

set_option maxHeartbeats 2000000 in
theorem flagOf_ok (o0 : Own h0 h L) (hR : g.Right) (hx : xs.length = g.n) (hN : NetR h r g) (hC : CellV h c xs) (hM : maxL xs + 1 = (M : Int)) (hM1 : M <= 256) (hsm : M * longB g.arcs.length <= 268435456)
  (hK : ∀ b s h', Own h0 h' (cellR b (bitCs M g.arcs.length s) T_bits_Rows :: slR encB8 1 T_uint8 s (flagsB g xs M) :: L) -> K (ptr b) h') : callS Tryz.prog F_flag_Of [ptr r, ptr c] h K := by
 refine callS_of (lk_flag_Of _ _ ?_)
 unfold sh_flag_Of
 have hmany := hR.many
 refine ffits_ok hR hx hN hC fun h1 x1 => ?_
 rw [pUn_not, Bool.not_true, ifV_false]
 have o1 := (Own.start h).more x1
 refine cmany_ok (hC.more x1) (arcs_ok (hN.more x1) ?_)
 rw [hM]
 refine bnew_ok o1 (by omega) hsm (by omega) fun b s h2 o2 => o2.box fun f5 h3 o3 => o3.st1 0 (cs' := [ptr b]) rfl rfl rfl rfl rfl fun h4 o4 => ?_
 refine cmany_ok (hC.more o4.ext) ?_
 rw [hM]
 have o5 : Own h h4 (marksR [] :: cellR f5 [ptr b] T_p_bits_Rows :: cellR b (bitCs M g.arcs.length s) T_bits_Rows :: slR encB8 1 T_uint8 s (flagsK g xs M 0) :: []) := Own.noMarks o4
 refine LoopH_count M (fun i x h' => x.2.1 = I i /\ Own h h' (marksR x.1 :: cellR f5 [ptr b] T_p_bits_Rows :: cellR b (bitCs M g.arcs.length s) T_bits_Rows :: slR encB8 1 T_uint8 s (flagsK g xs M i) :: [])) ⟨rfl, o5⟩ ?_
 clear o1 o2 o3 o4 o5
 rintro i ⟨m, x, ⟨⟩⟩ h5 Z hi ⟨hx', o5⟩ hZ
 dsimp only at hx' hZ o5 ⊢
 subst hx'
 unfold sh_flag_Of_L1
 simp only [pBin_lss, ifV_dec]
 refine ⟨fun hlt => ?_, fun hge => ?_⟩
 ·have hlt : i < M := by omega
  refine o5.box fun k6 h6 o6 => o6.st1 0 (cs' := [I i]) rfl rfl rfl rfl rfl fun h7 o7 => o7.load 0 rfl rfl ?_
  refine callS_of (lk_flag_worth _ _ _ ?_)
  unfold sh_flag_worth
  refine o7.box fun n3 h8 o8 => o8.box fun c4 h9 o9 => o9.box fun k5 h10 o10 => ?_
  have o10 : Own h h10 (cellR k5 [I i] T_int :: cellR c4 [ptr c] T_p_cell_Cells :: cellR n3 [ptr r] T_p_net_Net :: cellR k6 [I i] T_int :: marksR m :: cellR f5 [ptr b] T_p_bits_Rows :: cellR b (bitCs M g.arcs.length s) T_bits_Rows :: slR encB8 1 T_uint8 s (setRow (flagsK g xs M i) (longB g.arcs.length) i ((wl g xs i).take 0)) :: []) := o10
  refine o10.range (worth_iter (r := r) (c := c) (n3 := n3) (c4 := c4) (k5 := k5) (k := (i : Int)) (T1 := T_p_net_Net) (T2 := T_p_cell_Cells) (T3 := T_int) hR hx) (by rintro s x s' ⟨⟨_, rfl⟩, _⟩; rfl)
   (fun j Rs => j <= (wl g xs i).length /\ Rs = cellR k5 [I i] T_int :: cellR c4 [ptr c] T_p_cell_Cells :: cellR n3 [ptr r] T_p_net_Net :: cellR k6 [I i] T_int :: marksR m :: cellR f5 [ptr b] T_p_bits_Rows :: cellR b (bitCs M g.arcs.length s) T_bits_Rows :: slR encB8 1 T_uint8 s (setRow (flagsK g xs M i) (longB g.arcs.length) i ((wl g xs i).take j)) :: []) (fun _ => False) (fun _ _ => False) ⟨Nat.zero_le _, rfl⟩ ?_ ?_ ?_ (fun _ _ h => h.elim) (fun _ _ _ h => h.elim)
  ·rintro j Rs h' ⟨_, rfl⟩ o'
   exact ⟨o'.get 2 rfl, o'.get 1 rfl, o'.get 0 rfl, hC.more o'.ext, hN.more o'.ext⟩
  ·rintro M' j x j' Rs Pr h' R ⟨⟨hj, rfl⟩, rfl⟩ ⟨_, rfl⟩ o' hN' _ _
   dsimp only [valsOf]
   unfold sh_flag_Of_B2
   refine o'.begin 0 rfl fun h11 o11 => ?_
   have o11 : Own h h11 (loopR _ _ :: markR _ :: cellR k5 [I i] T_int :: cellR c4 [ptr c] T_p_cell_Cells :: cellR n3 [ptr r] T_p_net_Net :: cellR k6 [I i] T_int :: marksR m :: cellR f5 [ptr b] T_p_bits_Rows :: cellR b (bitCs M g.arcs.length s) T_bits_Rows :: slR encB8 1 T_uint8 s (setRow (flagsK g xs M i) (longB g.arcs.length) i ((wl g xs i).take j)) :: ([] ++ Pr)) := o11
   refine o11.load 7 rfl rfl (o11.load 5 rfl rfl ?_)
   refine bset_ok o11 8 9 (by decide) rfl rfl hlt (wl_lt (List.getElem_mem hj)) (by omega) (by rw [setRow_len, flagsK_len]) fun h12 o12 => ?_
   refine hN' _ h12 ⟨by omega, rfl⟩ ?_
   have e : setRow (flagsK g xs M i) (longB g.arcs.length) i ((wl g xs i).take (j + 1)) = setB (setRow (flagsK g xs M i) (longB g.arcs.length) i ((wl g xs i).take j)) (longB g.arcs.length) i (wl g xs i)[j] := by
    unfold setRow
    rw [List.take_succ_eq_append_getElem hj, List.foldl_append]; rfl
   rw [e]
   exact o12
  ·rintro j h' Rs hj ⟨_, rfl⟩ o'
   subst hj
   rw [List.take_length, <- flagsK_succ] at o'
   rw [pBin_add, wI i (by omega)]
   have o'' := o'.addMark 4 rfl
   refine hZ (_, (I (i + 1 : Nat), ())) h' hlt ⟨rfl, o''.sel [4, 5, 6, 7] (by decide)⟩
 ·have : i = M := by omega
  subst this
  refine o5.load 1 rfl rfl (o5.take 0 rfl fun h6 o6 => ?_)
  exact hK b s h6 (o0.frame (o6.sel [2, 3] (by decide)))

end
open Go Go.Mh

section
variable {h0 h : Heap} {L : List Res} {K : KT} {g : G} {r n1 : Nat} {xs : List Int}

theorem shape_ok {cells : Nat} (h1 : 1 <= cells) (h2 : cells <= 256) (hK : ∀ rows, Shp cells rows -> K (.tuple #[I rows, I (cells / rows : Nat)]) h) : callS Tryz.prog F_grid_Shape [I cells] h K := by
 refine callS_of (lk_grid_Shape _ ?_)
 unfold sh_grid_Shape
 rw [pBin_lss, decide_eq_false (by omega), ifV_false, pBin_gtr, decide_eq_false (by omega), ifV_false]
 refine LoopH_count 255 (fun i x h' => x.1 = I (i + 1 : Nat) /\ h' = h /\ (i + 1) * (i + 1) <= cells) ⟨rfl, rfl, h1⟩ ?_
 rintro i ⟨x, ⟨⟩⟩ h' Z hi ⟨hx, rfl, hle⟩ hZ
 dsimp only at hx hZ ⊢
 subst hx
 unfold sh_grid_Shape_L2
 have hi' : i + 1 <= 256 := by
  have := Nat.mul_le_mul_right (i + 1) (show 1 <= i + 1 by omega)
  omega
 have hsq : (i + 1 + 1) * (i + 1 + 1) <= 257 * 257 := Nat.mul_le_mul (by omega) (by omega)
 rw [pBin_add, wI (i + 1) (by omega), pBin_add, wI (i + 1) (by omega), pBin_mul]
 have em : ((i + 1 + 1 : Nat) : Int) * ((i + 1 + 1 : Nat) : Int) = (((i + 1 + 1) * (i + 1 + 1) : Nat) : Int) := by rw [Int.natCast_mul]
 rw [em, w64 (by omega) (by omega), pBin_leq, ifV_dec]
 refine ⟨fun hc => ?_, fun hc => ?_⟩
 ·rw [pBin_add, wI (i + 1) (by omega)]
  have hlt : i < 255 := by
   by_cases e : 255 <= i
   ·have := Nat.mul_le_mul (show 257 <= i + 1 + 1 by omega) (show 257 <= i + 1 + 1 by omega); omega
   ·omega
  exact hZ (I (i + 1 + 1 : Nat), ()) _ hlt ⟨rfl, rfl, by omega⟩
 ·rw [pBin_quo]
  refine ⟨by omega, ?_⟩
  have e3 : (cells : Int).tdiv ((i + 1 : Nat) : Int) = ((cells / (i + 1) : Nat) : Int) := by rw [Int.tdiv_eq_ediv_of_nonneg (by omega)]; exact (Int.natCast_ediv cells (i + 1)).symm
  have h4 : cells / (i + 1) <= cells := Nat.div_le_self _ _
  rw [e3]
  have h5 := hK (i + 1) ⟨by omega, hle, by omega⟩
  generalize cells / (i + 1) = q at h4 h5
  rw [w64 (by omega) (by omega)]
  exact h5

theorem places_iter {T : TypeId} (hR : g.Right) : Iter Tryz.prog (.func (.func F_grid_places_1) #[] #[ptr n1]) (fun h => h[n1]? = some (.cells #[ptr r] T (0, 0)) /\ NetR h r g) g.n (fun i _ => [I (g.X.getD i 0), I (g.Y.getD i 0)]) := by
 rintro yv h0 h Rs K J E ⟨l, rfl⟩ o j0 hQ hY hK
 refine callF_of (l := [yieldV l, ptr n1]) rfl (lk_grid_places_1 _ _ ?_)
 unfold sh_grid_places_1
 have hmost := hR.most
 obtain ⟨hb, hN⟩ := hQ _ _ _ j0 o
 have hc : hcell h ⟨n1, 0, none⟩ = some (ptr r) := hcell_of hb rfl
 refine pLoad_of rfl hc (nodes_ok hN ?_)
 refine LoopH_count g.n (fun i x h' => x.1 = I i /\ ∃ Rs', J i Rs' /\ Own h0 h' Rs') ⟨rfl, Rs, j0, o⟩ ?_
 rintro i ⟨x, ⟨⟩⟩ h Z hi ⟨hx, Rs', hj, o⟩ hZ
 dsimp only at hx hZ ⊢
 subst hx
 unfold sh_grid_places_1_L1
 simp only [pBin_lss, ifV_dec]
 refine ⟨fun hlt => ?_, fun hge => ?_⟩
 ·have hlt : i < g.n := by omega
  obtain ⟨hb', hN'⟩ := hQ _ _ _ hj o
  have hc : hcell h ⟨n1, 0, none⟩ = some (ptr r) := hcell_of hb' rfl
  refine pLoad_of rfl hc (place_ok hR hN' hlt ?_)
  simp only [pExt0, pExt1, pExt2]
  refine hY i _ (i + 1) Rs' [] h _ ⟨⟨hlt, rfl⟩, rfl⟩ hj o.nilTail (fun Rs'' h'' hj' o' => ?_) fun Rs'' h'' he o' => ?_
  ·rw [pUn_not, Bool.not_true, ifV_false, pBin_add, wI i (by omega)]
   exact hZ (I (i + 1 : Nat), ()) h'' hlt ⟨rfl, Rs'', hj', o'.toNil⟩
  ·rw [pUn_not, Bool.not_false, ifV_true]
   exact hK _ _ (.inr he) o'.toNil
 ·have : i = g.n := by omega
  exact hK _ _ (.inl ⟨i, this, hj⟩) o

def endsV (e : EndsE) : Value := .agg #[I e.lo, I e.hi, .bool e.any]
def endsC (e : EndsE) : List Value := [I e.lo, I e.hi, .bool e.any]

theorem with_ok {e : EndsE} {x : Int} (hK : ∀ h', Ext h h' -> K (endsV (withE e x)) h') : callS Tryz.prog F_grid_with_int64 [endsV e, I x] h K := by
 refine callS_of (lk_grid_with_int64 _ _ ?_)
 unfold sh_grid_with_int64
 refine (Own.start h).box fun e2 h1 o1 => o1.box fun t4 h2 o2 => ?_
 have o2 : Own h h2 [cellR t4 [I 0, I 0, .bool false] T_grid_ends_int64, cellR e2 (endsC e) T_grid_ends_int64] := o2
 simp only [pField_ptr, Nat.zero_add]
 refine o2.load 1 rfl rfl ?_
 rw [pUn_not]
 have fin : ∀ e' : EndsE, withE e x = e' -> pStore 3 (ptr t4) (endsV e') h2 fun u h_3 => pLoadN 3 h_3 (ptr t4) fun res => K res h_3 := fun e' he => by
  subst he
  refine o2.st (l := endsC (withE e x)) (cs' := endsC (withE e x)) 0 rfl rfl rfl rfl rfl ?_ fun h3 o3 => o3.ldN (cs' := endsC (withE e x)) 0 rfl rfl rfl (hK h3 o3.ext)
  intro u hu
  simp [endsC] at hu
  rcases hu with rfl | rfl | rfl <;> rfl
 cases ha : e.any with
 | false =>
  rw [Bool.not_false, ifV_true]
  refine pBuild_ones (cs' := endsC ⟨x, x, true⟩) (by intro p hp; simp at hp; rcases hp with rfl | rfl | rfl <;> rfl) rfl rfl (fin ⟨x, x, true⟩ ?_)
  unfold withE; rw [ha]; rfl
 | true =>
  rw [Bool.not_true, ifV_false]
  have o2' : Own h h2 [cellR t4 [I 0, I 0, .bool false] T_grid_ends_int64, cellR e2 (endsC e) T_grid_ends_int64] := o2
  refine o2'.load 1 rfl rfl ?_
  rw [pMin_int]
  refine o2'.load 1 rfl rfl ?_
  rw [pMax_int]
  refine pBuild_ones (cs' := endsC ⟨min e.lo x, max e.hi x, true⟩) (by intro p hp; simp at hp; rcases hp with rfl | rfl | rfl <;> rfl) rfl ?_ (fin ⟨min e.lo x, max e.hi x, true⟩ ?_)
  ·show [I (if x < e.lo then x else e.lo), I (if x > e.hi then x else e.hi), Value.bool true] = [I (min e.lo x), I (max e.hi x), Value.bool true]
   rw [show (if x < e.lo then x else e.lo) = min e.lo x by rw [Int.min_def]; split <;> split <;> omega, show (if x > e.hi then x else e.hi) = max e.hi x by rw [Int.max_def]; split <;> split <;> omega]
  ·unfold withE; rw [ha]; rfl

def partV (ea ma wa : Nat) : Value := .func (.func F_grid_parts_1) #[] #[ptr ea, ptr ma, ptr wa]
def partR (ea ma wa : Nat) (e : EndsE) (many : Nat) : Res := sepR [cellR wa [I (e.hi - e.lo + 1)] T_int64, cellR ma [I many] T_int, cellR ea (endsC e) T_grid_ends_int64]

theorem gparts_ok {e : EndsE} {many : Nat} (o : Own h0 h L) (h1 : -2147483648 <= e.lo) (h2 : e.hi <= 2147483647) (h3 : e.lo <= e.hi) (hK : ∀ ea ma wa h', Own h0 h' (partR ea ma wa e many :: L) -> K (partV ea ma wa) h') : callS Tryz.prog F_grid_parts [endsV e, I many] h K := by
 refine callS_of (lk_grid_parts _ _ ?_)
 unfold sh_grid_parts
 refine o.box fun ea h1' o1 => o1.box fun ma h2' o2 => ?_
 have o2 : Own h0 h2' (cellR ma [I many] T_int :: cellR ea (endsC e) T_grid_ends_int64 :: L) := o2
 simp only [pField_ptr, Nat.zero_add]
 refine o2.load 1 rfl rfl (o2.load 1 rfl rfl ?_)
 rw [pBin_sub, w64 (by omega) (by omega), pBin_add, w64 (by omega) (by omega)]
 refine o2.box fun wa h3' o3 => o3.st1 0 (cs' := [I (e.hi - e.lo + 1)]) rfl rfl rfl rfl rfl fun h4 o4 => hK ea ma wa h4 (Own.sep (l := [_, _, _]) o4)

theorem gpart_ok {ea ma wa many : Nat} {e : EndsE} {x : Int} (o : Own h0 h L) (p : Nat) (hp : L[p]? = some (partR ea ma wa e many)) (h1 : -2147483648 <= e.lo) (h2 : e.hi <= 2147483647) (h3 : e.lo <= x) (h4 : x <= e.hi) (hm : many <= 256) (hm1 : 1 <= many)
  (hK : K (I (partOf e many x)) h) : callV Tryz.prog (partV ea ma wa) [I x].toArray h K := by
 refine callV_of (l := [I x, ptr ea, ptr ma, ptr wa]) rfl (lk_grid_parts_1 _ _ _ _ ?_)
 unfold sh_grid_parts_1
 obtain ⟨q, _⟩ := o.get p hp
 have q1 := q _ (List.mem_cons_self)
 have q2 := q _ (List.mem_cons_of_mem _ List.mem_cons_self)
 have q3 := q _ (List.mem_cons_of_mem _ (List.mem_cons_of_mem _ List.mem_cons_self))
 have c1 : hcell h ⟨wa, 0, none⟩ = some (I (e.hi - e.lo + 1)) := hcell_of q1 rfl
 have c2 : hcell h ⟨ma, 0, none⟩ = some (I many) := hcell_of q2 rfl
 have c3 : hcell h ⟨ea, 0, none⟩ = some (I e.lo) := hcell_of q3 rfl
 simp only [pField_ptr, pLoad_ptr, Nat.zero_add, c1, c2, c3]
 have hb : 0 <= (x - e.lo) * (many : Int) := Int.mul_nonneg (by omega) (by omega)
 have hb2 : (x - e.lo) * (many : Int) <= 4294967296 * 256 := Int.mul_le_mul (by omega) (by omega) (by omega) (by omega)
 have hp := part_rng h3 h4 hm1
 rw [pBin_sub, w64 (by omega) (by omega), pBin_mul, w64 (by omega) (by omega), pBin_quo]
 refine ⟨by omega, ?_⟩
 rw [Int.tdiv_eq_ediv_of_nonneg hb]
 unfold partOf at hp hK
 rw [w64 (by omega) (by omega)]
 exact hK

end
open Go Go.Mh

section
variable {h0 h : Heap} {L : List Res} {K : KT} {g : G} {r : Nat}

theorem ends_take {l : List Int} {i : Nat} (hi : i < l.length) : endsOf (l.take (i + 1)) = withE (endsOf (l.take i)) l[i] := by
 unfold endsOf
 rw [List.take_succ_eq_append_getElem hi, List.foldl_append]; rfl
theorem endsC_plain (e : EndsE) : ∀ u ∈ endsC e, Mh.plainCell u = true := by
 intro u hu
 simp [endsC] at hu
 rcases hu with rfl | rfl | rfl <;> rfl

set_option maxHeartbeats 4000000 in
set_option maxRecDepth 100000 in
theorem gmap_ok {cells : Nat} (o0 : Own h0 h L) (hR : g.Right) (hN : NetR h r g) (hc1 : 1 <= cells) (hc2 : cells <= 256)
  (hK : ∀ rows w h', Shp cells rows -> Own h0 h' (slR encJ 1 T_int w (gridL g rows (cells / rows)) :: L) -> K w h') : callS Tryz.prog F_grid_Map [ptr r, I cells] h K := by
 refine callS_of (lk_grid_Map _ _ ?_)
 unfold sh_grid_Map
 have hmost := hR.most
 have hpos := hR.pos
 have hxl := hR.x
 have hyl := hR.y
 refine (Own.start h).box fun l4 h1 o1 => ?_
 refine shape_ok hc1 hc2 fun rows hS => ?_
 simp only [pExt0, pExt1]
 have hcol := hS.cols
 have hcl : cells / rows <= cells := Nat.div_le_self _ _
 have hrl : rows <= 256 := by
  have h1 := hS.1
  have h2 := hS.2.1
  have := Nat.mul_le_mul_right rows h1
  omega
 have hr1 := hS.1
 have hKr := fun w h' => hK rows w h' hS
 generalize cells / rows = cols at hcol hKr hcl
 refine o1.box fun c6 h2 o2 => o2.st1 0 (cs' := [I cols]) rfl rfl rfl rfl rfl fun h3 o3 => ?_
 rw [pBin_eql, show ((rows : Int) == 0) = false by simp; omega, ifV_false]
 refine o3.box fun ac h4 o4 => o4.box fun dn h5 o5 => ?_
 refine callS_of (lk_grid_places _ ?_)
 unfold sh_grid_places
 refine o5.box fun n1 h6 o6 => ?_
 have o6 : Own h h6 [cellR n1 [ptr r] T_p_net_Net, cellR dn (endsC (endsOf (g.Y.take 0))) T_grid_ends_int64, cellR ac (endsC (endsOf (g.X.take 0))) T_grid_ends_int64, cellR c6 [I cols] T_int, cellR l4 [.slice none 0 0] T_sl_int] := o6
 refine o6.range (places_iter (r := r) (n1 := n1) (T := T_p_net_Net) hR) (by rintro s x s' ⟨⟨_, rfl⟩, _⟩; rfl)
  (fun i Rs => i <= g.n /\ Rs = [cellR n1 [ptr r] T_p_net_Net, cellR dn (endsC (endsOf (g.Y.take i))) T_grid_ends_int64, cellR ac (endsC (endsOf (g.X.take i))) T_grid_ends_int64, cellR c6 [I cols] T_int, cellR l4 [.slice none 0 0] T_sl_int]) (fun _ => False) (fun _ _ => False) ⟨Nat.zero_le _, rfl⟩ ?_ ?_ ?_ (fun _ _ h => h.elim) (fun _ _ _ h => h.elim)
 ·rintro i Rs h' ⟨_, rfl⟩ o'
  exact ⟨o'.get 0 rfl, hN.more o'.ext⟩
 ·rintro M i x i' Rs Pr h' R ⟨⟨hlt, rfl⟩, rfl⟩ ⟨_, rfl⟩ o' hN' _ _
  dsimp only [valsOf]
  unfold sh_grid_Map_B1
  refine o'.begin 0 rfl fun h10 o10 => ?_
  have o10 : Own h h10 (loopR _ _ :: markR _ :: cellR n1 [ptr r] T_p_net_Net :: cellR dn (endsC (endsOf (g.Y.take i))) T_grid_ends_int64 :: cellR ac (endsC (endsOf (g.X.take i))) T_grid_ends_int64 :: cellR c6 [I cols] T_int :: cellR l4 [.slice none 0 0] T_sl_int :: Pr) := o10
  refine o10.ldN 4 rfl rfl rfl (o10.ldN 3 rfl rfl rfl ?_)
  refine with_ok (e := endsOf (g.X.take i)) fun h11 x11 => ⟨(o10.more x11).ldN 3 rfl rfl rfl rfl, ?_⟩
  refine with_ok (e := endsOf (g.Y.take i)) fun h12 x12 => ?_
  have o12 := (o10.more x11).more x12
  refine o12.st (l := endsC (withE (endsOf (g.X.take i)) (g.X.getD i 0))) (cs' := endsC (withE (endsOf (g.X.take i)) (g.X.getD i 0))) 4 rfl rfl rfl rfl rfl (endsC_plain _) fun h13 o13 => ?_
  refine o13.st (l := endsC (withE (endsOf (g.Y.take i)) (g.Y.getD i 0))) (cs' := endsC (withE (endsOf (g.Y.take i)) (g.Y.getD i 0))) 3 rfl rfl rfl rfl rfl (endsC_plain _) fun h14 o14 => ?_
  rw [getD_at (by omega), getD_at (by omega), <- ends_take (by omega), <- ends_take (by omega)] at o14
  exact hN' _ h14 ⟨by omega, rfl⟩ o14
 rintro i h15 Rs hi ⟨_, rfl⟩ o15
 subst hi
 rw [List.take_of_length_le (by omega), List.take_of_length_le (by omega)] at o15
 have hxne : g.X ≠ [] := fun e => by rw [e] at hxl; simp at hxl; omega
 have hyne : g.Y ≠ [] := fun e => by rw [e] at hyl; simp at hyl; omega
 obtain ⟨bx1, bx2, bx3, bx4⟩ := ends_of hR.xr hxne
 obtain ⟨by1, by2, by3, by4⟩ := ends_of hR.yr hyne
 have hX : ∀ i, i < g.n -> g.X.getD i 0 ∈ g.X := fun i hi => by rw [getD_at (by omega)]; exact List.getElem_mem _
 have hY : ∀ i, i < g.n -> g.Y.getD i 0 ∈ g.Y := fun i hi => by rw [getD_at (by omega)]; exact List.getElem_mem _
 have hg : ∀ rows cols, gridL g rows cols = (List.range g.n).map fun v => partOf (endsOf g.Y) rows (g.Y.getD v 0) * cols + partOf (endsOf g.X) cols (g.X.getD v 0) := fun _ _ => rfl
 rw [hg] at hKr
 generalize endsOf g.X = ex at o15 bx1 bx2 bx3 bx4 hKr
 generalize endsOf g.Y = ey at o15 by1 by2 by3 by4 hKr
 have lx : ∀ {h' : Heap} {K : Value -> Prop}, Ext h15 h' -> K (endsV ex) -> pLoadN 3 h' (ptr ac) K := fun x hk => (o15.more x).ldN 3 rfl rfl rfl hk
 have ly : ∀ {h' : Heap} {K : Value -> Prop}, Ext h15 h' -> K (endsV ey) -> pLoadN 3 h' (ptr dn) K := fun x hk => (o15.more x).ldN 2 rfl rfl rfl hk
 refine cutP_of (fun y h' => ∃ col row ea ma wa eb mb wb, y = (ptr col, (ptr row, ())) /\ Own h15 h' [cellR row [partV eb mb wb] T_func_int64_int, cellR col [partV ea ma wa] T_func_int64_int, partR eb mb wb ey rows, partR ea ma wa ex cols]) (fun J hJ => ?_) ?_
 ·have o := Own.start h15
  refine lx (.refl _ _) ((o15.load 4 rfl rfl) (ly (.refl _ _) ?_))
  repeat' (first
   | refine gparts_ok o bx1 bx2 bx3 fun ea ma wa hh o => ?_
   | refine gparts_ok o by1 by2 by3 fun eb mb wb hh o => ?_
   | refine o.box fun col hh o => ?_
   | refine o.st1 0 (cs' := [partV _ _ _]) rfl rfl rfl rfl rfl fun hh o => ?_
   | refine o.st1 1 (cs' := [partV _ _ _]) rfl rfl rfl rfl rfl fun hh o => ?_
   | refine o.st1 2 (cs' := [partV _ _ _]) rfl rfl rfl rfl rfl fun hh o => ?_
   | refine o.st1 3 (cs' := [partV _ _ _]) rfl rfl rfl rfl rfl fun hh o => ?_
   | exact ly o.ext rfl
   | exact hJ _ _ ⟨_, _, _, _, _, _, _, _, rfl, o.sel [0, 1, 2, 3] (by decide)⟩
   | exact hJ _ _ ⟨_, _, _, _, _, _, _, _, rfl, o.sel [1, 0, 2, 3] (by decide)⟩
   | exact hJ _ _ ⟨_, _, _, _, _, _, _, _, rfl, o.sel [0, 2, 1, 3] (by decide)⟩
   | exact hJ _ _ ⟨_, _, _, _, _, _, _, _, rfl, o.sel [2, 0, 1, 3] (by decide)⟩
   | exact hJ _ _ ⟨_, _, _, _, _, _, _, _, rfl, o.sel [1, 2, 0, 3] (by decide)⟩
   | exact hJ _ _ ⟨_, _, _, _, _, _, _, _, rfl, o.sel [2, 1, 0, 3] (by decide)⟩
   | exact hJ _ _ ⟨_, _, _, _, _, _, _, _, rfl, o.sel [0, 3, 1, 2] (by decide)⟩
   | exact hJ _ _ ⟨_, _, _, _, _, _, _, _, rfl, o.sel [3, 0, 1, 2] (by decide)⟩
   | exact hJ _ _ ⟨_, _, _, _, _, _, _, _, rfl, o.sel [1, 3, 0, 2] (by decide)⟩
   | exact hJ _ _ ⟨_, _, _, _, _, _, _, _, rfl, o.sel [3, 1, 0, 2] (by decide)⟩
   | exact hJ _ _ ⟨_, _, _, _, _, _, _, _, rfl, o.sel [2, 3, 0, 1] (by decide)⟩
   | exact hJ _ _ ⟨_, _, _, _, _, _, _, _, rfl, o.sel [3, 2, 0, 1] (by decide)⟩
   | with_reducible apply And.intro)
 rintro ⟨y, z, ⟨⟩⟩ h74 ⟨col, row, ea, ma, wa, eb, mb, wb, e, oc⟩
 injection e with e1 e2
 injection e2 with e2 _
 dsimp only
 subst e1 e2
 unfold sh_grid_Map_C2
 have oq := (o15.frame oc).noMarks
 have oq := Own.addMark (j := 0) (oq.sel [5, 0, 1, 2, 3, 4, 6, 7, 8, 9, 10] (by decide)) rfl
 refine callS_of (lk_grid_places _ ?_)
 unfold sh_grid_places
 refine oq.box fun n2 h75 o75 => ?_
 have o75 : Own h h75 (slR encJ 1 T_int (.slice none 0 0) (((List.range g.n).map fun v => partOf ey rows (g.Y.getD v 0) * cols + partOf ex cols (g.X.getD v 0)).take 0) :: cellR n2 [ptr r] T_p_net_Net :: marksR [h6.size] :: cellR row [partV eb mb wb] T_func_int64_int :: cellR col [partV ea ma wa] T_func_int64_int :: partR eb mb wb ey rows :: partR ea ma wa ex cols :: cellR n1 [ptr r] T_p_net_Net :: cellR dn (endsC ey) T_grid_ends_int64 :: cellR ac (endsC ex) T_grid_ends_int64 :: cellR c6 [I cols] T_int :: cellR l4 [.slice none 0 0] T_sl_int :: []) := Own.nilS (enc := encJ) (n := 1) (T := T_int) o75
 refine o75.range (places_iter (r := r) (n1 := n2) (T := T_p_net_Net) hR) (by rintro s x s' ⟨⟨_, rfl⟩, _⟩; rfl)
  (fun i Rs => i <= g.n /\ ∃ w, Rs = slR encJ 1 T_int w (((List.range g.n).map fun v => partOf ey rows (g.Y.getD v 0) * cols + partOf ex cols (g.X.getD v 0)).take i) :: cellR n2 [ptr r] T_p_net_Net :: marksR [h6.size] :: cellR row [partV eb mb wb] T_func_int64_int :: cellR col [partV ea ma wa] T_func_int64_int :: partR eb mb wb ey rows :: partR ea ma wa ex cols :: cellR n1 [ptr r] T_p_net_Net :: cellR dn (endsC ey) T_grid_ends_int64 :: cellR ac (endsC ex) T_grid_ends_int64 :: cellR c6 [I cols] T_int :: cellR l4 [w] T_sl_int :: []) (fun _ => False) (fun _ _ => False) ⟨Nat.zero_le _, _, rfl⟩ ?_ ?_ ?_ (fun _ _ h => h.elim) (fun _ _ _ h => h.elim)
 ·rintro i Rs h' ⟨_, w, rfl⟩ o'
  exact ⟨o'.get 1 rfl, hN.more o'.ext⟩
 ·rintro M i x i' Rs Pr h' R ⟨⟨hlt, rfl⟩, rfl⟩ ⟨_, w, rfl⟩ o' hN' _ _
  dsimp only [valsOf]
  unfold sh_grid_Map_B3
  refine o'.begin 0 rfl fun h10 o10 => ?_
  have o10 : Own h h10 (loopR _ _ :: markR _ :: slR encJ 1 T_int w (((List.range g.n).map fun v => partOf ey rows (g.Y.getD v 0) * cols + partOf ex cols (g.X.getD v 0)).take i) :: cellR n2 [ptr r] T_p_net_Net :: marksR [h6.size] :: cellR row [partV eb mb wb] T_func_int64_int :: cellR col [partV ea ma wa] T_func_int64_int :: partR eb mb wb ey rows :: partR ea ma wa ex cols :: cellR n1 [ptr r] T_p_net_Net :: cellR dn (endsC ey) T_grid_ends_int64 :: cellR ac (endsC ex) T_grid_ends_int64 :: cellR c6 [I cols] T_int :: cellR l4 [w] T_sl_int :: ([] ++ Pr)) := o10
  have ix := bx4 _ (hX i hlt)
  have iy := by4 _ (hY i hlt)
  refine o10.load 13 rfl rfl (o10.load 5 rfl rfl (o10.load 12 rfl rfl (o10.load 6 rfl rfl ?_)))
  refine gpart_ok o10 7 rfl by1 by2 iy.1 iy.2 hrl hr1 ⟨o10.load 13 rfl rfl rfl, o10.load 12 rfl rfl rfl, o10.load 6 rfl rfl rfl, ?_⟩
  have p1 := part_rng iy.1 iy.2 hr1
  have p2 := part_rng ix.1 ix.2 hcol.1
  have hm : partOf ey rows (g.Y.getD i 0) * (cols : Int) <= 256 * 256 := Int.mul_le_mul (by omega) (by omega) (by omega) (by omega)
  have hm0 : 0 <= partOf ey rows (g.Y.getD i 0) * (cols : Int) := Int.mul_nonneg p1.1 (by omega)
  rw [pBin_mul, w64 (by omega) (by omega)]
  refine gpart_ok o10 8 rfl bx1 bx2 ix.1 ix.2 (by omega) hcol.1 ⟨o10.load 13 rfl rfl rfl, o10.load 12 rfl rfl rfl, ?_⟩
  rw [pBin_add, w64 (by omega) (by omega)]
  refine o10.app1 2 (partOf ey rows (g.Y.getD i 0) * (cols : Int) + partOf ex cols (g.X.getD i 0)) rfl rfl (sizesOk_of rfl) (fun _ => rfl) encI_plain rfl (by decide) (by rw [List.length_take]; omega) fun w' h5 o5 => ?_
  have hw' := o5.vw 2 rfl
  refine o5.st1 13 (cs' := [w']) rfl rfl rfl hw'.one hw'.plain fun h6 o6 => ?_
  refine hN' _ h6 ⟨by omega, w', rfl⟩ ?_
  rw [List.take_succ_eq_append_getElem (by simpa using hlt)]
  simp only [List.getElem_map, List.getElem_range]
  exact o6
 ·rintro i h' Rs hi ⟨_, w, rfl⟩ o'
  subst hi
  rw [List.take_of_length_le (by simp)] at o'
  have hw' := o'.vw 1 rfl
  refine o'.load 12 rfl rfl (o'.st1 12 (cs' := [w]) rfl rfl rfl hw'.one hw'.plain fun h6 o6 => ?_)
  refine Own.takeC o6 2 rfl fun h7 o7 => o7.load 11 rfl rfl ?_
  exact hKr w h7 (o0.frame (o7.sel [0] (by decide)))

end
open Go Go.Mh

section
variable {h0 h : Heap} {L : List Res} {K : KT} {g : G} {r : Nat} {a b : Int}

theorem maxE16 {a b : Int} : (if b > a then b else a) = max a b := by split <;> omega

theorem dlow_ok (h0 : 0 <= a) (h1 : a <= far) (h2 : 0 <= b) (h3 : b <= far) (hK : ∀ h', Ext h h' -> K (I (lessI a b)) h') : callS Tryz.prog F_dist_Low [I a, I b] h K := by
 have hf : far = 72057594037927936 := rfl
 refine callS_of (lk_dist_Low _ _ ?_)
 unfold sh_dist_Low
 refine wayS_ok fun h1' x1 => wayS_ok fun h2' x2 => ?_
 rw [kept_in h0 h1, kept_in h2 h3]
 have x12 := x1.trans x2 fun _ h _ => h
 unfold lessI at hK
 refine dfin_ok h2 h3 fun h3' x3 => ?_
 have x13 := x12.trans x3 fun _ h _ => h
 rw [pUn_not]
 by_cases c1 : far <= b
 ·rw [show decide (b < far) = false from decide_eq_false (by omega), Bool.not_false, ifV_true]
  rw [if_pos c1] at hK
  exact hK _ x13
 ·rw [show decide (b < far) = true from decide_eq_true (by omega), Bool.not_true, ifV_false]
  rw [if_neg c1] at hK
  refine dfin_ok h0 h1 fun h4' x4 => ?_
  have x14 := x13.trans x4 fun _ h _ => h
  rw [pUn_not]
  by_cases c2 : far <= a
  ·rw [show decide (a < far) = false from decide_eq_false (by omega), Bool.not_false, ifV_true]
   rw [if_pos c2] at hK
   exact hK _ x14
  ·rw [show decide (a < far) = true from decide_eq_true (by omega), Bool.not_true, ifV_false]
   rw [if_neg c2] at hK
   rw [pBin_sub, w64 (by omega) (by omega)]
   refine wayS_ok fun h5' x5 => ?_
   have := hK _ (x14.trans x5 fun _ h _ => h)
   rw [show kept (a - b) = if 0 < a - b then a - b else 0 by unfold kept; split <;> omega]
   exact this

theorem dlift_ok (h0 : 0 <= a) (h1 : a <= far) (h2 : 0 <= b) (h3 : b <= far) (hK : ∀ h', Ext h h' -> K (I (lessI b a)) h') : callS Tryz.prog F_dist_Lift [I a, I b] h K := by
 refine callS_of (lk_dist_Lift _ _ ?_)
 unfold sh_dist_Lift
 exact dlow_ok h2 h3 h0 h1 hK

theorem betwS_ok {l g : Nat} {T1 T2 : TypeId} (h1 : h[l]? = some (.cells #[I 0] T1 (0, 0))) (h2 : h[g]? = some (.cells #[I 2305843009213693952] T2 (0, 0))) (hK : K (I (keepS a)) h) :
  callV Tryz.prog (.func (.func F_dist_between_int64_1) #[] #[ptr l, ptr g]) [I a].toArray h K := by
 refine callV_of (l := [I a, ptr l, ptr g]) rfl (lk_dist_between_int64_1 _ _ _ ?_)
 unfold sh_dist_between_int64_1
 have c0 : hcell h ⟨l, 0, none⟩ = some (I 0) := hcell_of h1 rfl
 have c1 : hcell h ⟨g, 0, none⟩ = some (I 2305843009213693952) := hcell_of h2 rfl
 simp only [pLoad_ptr, c0, c1, pMax_int, pMin_int]
 have e : (if 2305843009213693952 < (if (0 : Int) > a then 0 else a) then 2305843009213693952 else (if (0 : Int) > a then 0 else a)) = keepS a := by
  unfold keepS mostS; split <;> split <;> omega
 rw [e]; exact hK

theorem dsat_ok (ha : -4611686018427387904 <= a) (ha2 : a <= 4611686018427387904) (hK : ∀ h', Ext h h' -> K (I (satI a b)) h') : callS Tryz.prog F_dist_Sat [I a, I b] h K := by
 refine callS_of (lk_dist_Sat _ _ ?_)
 unfold sh_dist_Sat
 refine callS_of (lk_dist_between_int64 _ _ ?_)
 unfold sh_dist_between_int64
 refine (Own.start h).box fun l h1 o1 => o1.box fun g h2 o2 => ?_
 refine o2.build (enc := encJ) (n := 1) [a, b] rfl (sizesOk_of rfl) rfl fun w h4 o4 => ?_
 refine callS_of (lk_dist_folded _ _ ?_)
 unfold sh_dist_folded
 refine (o4.vw 0 rfl).len ?_
 have hkr : ∀ x, 0 <= keepS x /\ keepS x <= 2305843009213693952 := fun x => by unfold keepS mostS; omega
 refine LoopH_count 2 (fun i x h' => x.2.1 = I i /\ x.1 = I (if i = 0 then 0 else if i = 1 then keepS (0 + keepS a) else satI a b) /\ Own h h' [slR encJ 1 T_int64 w [a, b], cellR g [I 2305843009213693952] T_int64, cellR l [I 0] T_int64]) ⟨rfl, rfl, o4⟩ ?_
 rintro i ⟨sm, x, ⟨⟩⟩ h' Z hi ⟨hx, hsm, o⟩ hZ
 dsimp only at hx hsm hZ ⊢
 subst hx hsm
 unfold sh_dist_folded_L1
 simp only [pBin_lss, ifV_dec]
 refine ⟨fun hlt => ?_, fun hge => ?_⟩
 ·have hlt : i < 2 := by simp at hlt; omega
  refine (o.vw 0 rfl).atI (by simpa using hlt) ?_
  refine betwS_ok (o.get 2 rfl) (o.get 1 rfl) ?_
  rcases (show i = 0 \/ i = 1 by omega) with rfl | rfl
  ·have := hkr a
   rw [show ([a, b] : List Int)[0] = a from rfl, pBin_add, w64 (by simp; omega) (by simp; omega)]
   refine betwS_ok (o.get 2 rfl) (o.get 1 rfl) ?_
   rw [pBin_add, wI 0 (by omega)]
   exact hZ (_, (I 1, ())) h' (by omega) ⟨rfl, rfl, o⟩
  ·have h1 := hkr b
   have h2 := hkr (0 + keepS a)
   rw [show ([a, b] : List Int)[1] = b from rfl, show (if (1 : Nat) = 0 then (0 : Int) else if (1 : Nat) = 1 then keepS (0 + keepS a) else satI a b) = keepS (0 + keepS a) from rfl, pBin_add, w64 (by omega) (by omega)]
   refine betwS_ok (o.get 2 rfl) (o.get 1 rfl) ?_
   rw [pBin_add, wI 1 (by omega)]
   exact hZ (_, (I 2, ())) h' (by omega) ⟨rfl, rfl, o⟩
 ·have : i = 2 := by
   have : ([a, b] : List Int).length = 2 := rfl
   omega
  subst this
  exact hK _ o.ext

structure MV where
 node : Nat
 sd : Value
 sa : Value
 so : Value
 fd : Value
 fa : Value
 fo : Value
 pl : ∀ u ∈ [sd, sa, so, fd, fa, fo], Mh.plainCell u = true

def encM (m : MV) : List Value := [I m.node, m.sd, m.sa, m.so, m.fd, m.fa, m.fo]
theorem encM_len (m : MV) : (encM m).length = 7 := rfl
theorem encM_plain (m : MV) : ∀ u ∈ encM m, Mh.plainCell u = true := fun u hu => by
 rcases List.mem_cons.1 hu with rfl | hu
 ·rfl
 ·exact m.pl u hu

def markL (g : G) (ms : List MV) : List Res := ms.flatMap fun m => [xR m.sd (g.to m.node).dist, xR m.fd (g.from m.node).dist]
def MkV (g : G) (h : Heap) (m : MV) : Prop := m.node < g.n /\ Vw encJ 1 h m.sd (g.to m.node).dist /\ Vw encJ 1 h m.fd (g.from m.node).dist
theorem MkV.more {h' : Heap} {m : MV} (H : MkV g h m) (x : Ext h h') : MkV g h' m := ⟨H.1, H.2.1.more x, H.2.2.more x⟩
theorem there_ok {z : Int} (H : NetR h r g) (hK : K (.bool (decide (0 <= z /\ z < g.n))) h) : callS Tryz.prog F_avoid_there [ptr r, I z] h K := by
 refine callS_of (lk_avoid_there _ _ ?_)
 unfold sh_avoid_there
 rw [pNe_ptr_nil, Option.isSome_some, ifV_true, pBin_geq, ifV_dec]
 refine ⟨fun h1 => nodes_ok H ?_, fun h1 => ?_⟩
 ·rw [pBin_lss, show decide (z < g.n) = decide (0 <= z /\ z < g.n) by rw [decide_eq_decide]; exact ⟨fun h => ⟨h1, h⟩, fun h => h.2⟩]
  exact hK
 ·rw [show decide (0 <= z /\ z < g.n) = false from decide_eq_false fun h => h1 h.1] at hK
  exact hK

theorem bound_ok {ms : List MV} {vl : Value} {r v : Nat} (hR : g.Right) (HM : ∀ m ∈ ms, MkV g h m) (Hl : Vw encM 7 h vl ms) (hl : ms.length < 2 ^ 40) (hr : r < g.n) (hv : v < g.n) (hK : ∀ h', Ext h h' -> K (I (bnd g (ms.map MV.node) r v)) h') :
  callS Tryz.prog F_avoid_bound [vl, I r, I v] h K := by
 refine callS_of (lk_avoid_bound _ _ _ ?_)
 unfold sh_avoid_bound
 refine Hl.len ?_
 refine LoopH_count ms.length (fun i x h' => x.1 = I (bnd g ((ms.take i).map MV.node) r v) /\ x.2.1 = I i /\ Ext h h') ⟨rfl, rfl, (Own.start h).ext⟩ ?_
 rintro i ⟨x, y, ⟨⟩⟩ h1 Z hi ⟨hx, hy, x1⟩ hZ
 dsimp only at hx hy hZ ⊢
 subst hx hy
 unfold sh_avoid_bound_L1
 rw [pBin_lss, ifV_dec]
 refine ⟨fun hlt => ?_, fun hge => ?_⟩
 ·have hlt : i < ms.length := by omega
  refine (Hl.more x1).atN encM_len hlt ?_
  obtain ⟨hm, V1, V2⟩ := (HM _ (List.getElem_mem hlt)).more x1
  have tk : (ms.take (i + 1)).map MV.node = (ms.take i).map MV.node ++ [ms[i].node] := by rw [List.take_succ_eq_append_getElem hlt, List.map_append]; rfl
  rw [tk] at hZ
  generalize ms[i] = m at hm V1 V2 hZ
  have T1 := to_tree hR hm
  have T2 := from_tree hR hm
  have l1 := T1.ls.len
  have l2 := T2.ls.len
  have hr1 : r < (g.to m.node).dist.length := by rw [l1]; exact hr
  have hv1 : v < (g.to m.node).dist.length := by rw [l1]; exact hv
  have hr2 : r < (g.from m.node).dist.length := by rw [l2]; exact hr
  have hv2 : v < (g.from m.node).dist.length := by rw [l2]; exact hv
  refine (Own.start h1).box fun m8 h2 o2 => o2.st (l := encM m) (cs' := encM m) 0 rfl rfl rfl rfl rfl (encM_plain m) fun h3 o3 => ?_
  have o3 : Own h1 h3 [cellR m8 (encM m) T_avoid_mark] := o3
  replace V1 := V1.more o3.ext
  replace V2 := V2.more o3.ext
  simp only [pField_ptr]
  refine o3.load 0 rfl rfl (V1.atI hr1 (o3.load 0 rfl rfl (V1.atI hv1 ?_)))
  refine o3.load 0 rfl rfl (V2.idxI hr2 fun b1 f1 c1 => pLoad_of rfl c1 (o3.load 0 rfl rfl (V2.idxI hv2 fun b2 f2 c2 => pLoad_of rfl c2 ?_)))
  rw [dAt_get hr1, dAt_get hv1]
  rw [dAt_get hr2] at c1
  rw [dAt_get hv2] at c2
  rw [dAt_get hr2, dAt_get hv2]
  refine dlow_ok (T1.ls.nonneg hr) (T1.ls.far_le hr) (T1.ls.nonneg hv) (T1.ls.far_le hv) fun h4 x4 => ?_
  have o4 := o3.more x4
  refine ⟨o4.load 0 rfl rfl rfl, pLoad_of rfl (hcell_more x4 c1) rfl, o4.load 0 rfl rfl rfl, pLoad_of rfl (hcell_more x4 c2) rfl, ?_⟩
  refine dlift_ok (T2.ls.nonneg hr) (T2.ls.far_le hr) (T2.ls.nonneg hv) (T2.ls.far_le hv) fun h5 x5 => ?_
  rw [pMax_int, pMax_int, maxE16, maxE16, pBin_add, wI i (by omega)]
  refine hZ (_, _, ()) h5 hlt ⟨?_, rfl, x1.trans (o4.more x5).ext fun _ h _ => h⟩
  rw [bnd_snoc]
  rfl
 ·have : i = ms.length := by omega
  subst this
  rw [List.take_length]
  exact hK _ x1

theorem marks_ok {l : List Int} {vl : Value} (o : Own h0 h L) (hR : g.Right) (H : NetR h r g) (Hl : Vw encJ 1 h vl l) (hl : l.length < 2 ^ 32)
  (hK : ∀ w ms h', ms.map MV.node = mksZ g.n l -> Own h0 h' (slR encM 7 T_avoid_mark w ms :: (markL g ms ++ L)) -> K w h') : callS Tryz.prog F_avoid_marks [ptr r, vl] h K := by
 refine callS_of (lk_avoid_marks _ _ ?_)
 unfold sh_avoid_marks
 refine Hl.len ?_
 refine LoopH_count l.length (fun i x h' => x.2.1 = I i /\ ∃ ms, ms.map MV.node = mksZ g.n (l.take i) /\ Own h h' (slR encM 7 T_avoid_mark x.1 ms :: markL g ms)) ⟨rfl, [], rfl, (Own.start h).nilS⟩ ?_
 rintro i ⟨w, y, ⟨⟩⟩ h1 Z hi ⟨hy, ms, hms, o1⟩ hZ
 dsimp only at hy o1 hZ ⊢
 subst hy
 unfold sh_avoid_marks_L1
 rw [pBin_lss, ifV_dec]
 refine ⟨fun hlt => ?_, fun hge => ?_⟩
 ·have hlt : i < l.length := by omega
  have x1 := o1.ext
  refine (Hl.more x1).atI hlt ?_
  have tk : l.take (i + 1) = l.take i ++ [l[i]] := List.take_succ_eq_append_getElem hlt
  have hml : ms.length <= i := by
   rw [<- List.length_map (f := MV.node), hms]
   unfold mksZ
   rw [List.length_map]
   have := List.length_filter_le (fun (z : Int) => decide (0 <= z /\ z < g.n)) (l.take i)
   rw [List.length_take] at this
   omega
  generalize l[i] = z at tk
  have nxt : ∀ w' ms' h', ms'.map MV.node = mksZ g.n (l.take (i + 1)) -> Own h h' (slR encM 7 T_avoid_mark w' ms' :: markL g ms') -> sh_avoid_marks_k2 Tryz.prog (I i) (fun a0 a1 hz => Z (a0, (a1, ())) hz) w' h' := fun w' ms' h' hm o' => by
   unfold sh_avoid_marks_k2
   rw [pBin_add, wI i (by omega)]
   exact hZ (_, _, ()) h' hlt ⟨rfl, ms', hm, o'⟩
  refine there_ok (H.more x1) ?_
  rw [ifV_dec]
  refine ⟨fun hz => ?_, fun hz => nxt w ms h1 ?_ o1⟩
  ·obtain ⟨m, rfl⟩ : ∃ m : Nat, z = m := Int.eq_ofNat_of_zero_le hz.1
   have hm : m < g.n := by omega
   refine to_ok hR (H.more x1) fun sd sa so h2 o2' => ?_
   have o2 := o1.frame o2'
   clear o2'
   refine from_ok hR (H.more o2.ext) fun fd fa fo h3 o3' => ?_
   have o3 := o2.frame o3'
   clear o2 o3'
   rw [show g.toI m = g.to m by simp [G.toI, hm], show g.fromI m = g.from m by simp [G.fromI, hm]] at o3
   have q0 := (o3.vw 0 rfl).plain
   have q1 := (o3.vw 1 rfl).plain
   have q2 := (o3.vw 2 rfl).plain
   have q3 := (o3.vw 3 rfl).plain
   have q4 := (o3.vw 4 rfl).plain
   have q5 := (o3.vw 5 rfl).plain
   have hp : ∀ u ∈ [sd, sa, so, fd, fa, fo], Mh.plainCell u = true := by
    intro u hu
    simp at hu
    rcases hu with rfl | rfl | rfl | rfl | rfl | rfl <;> assumption
   refine ⟨sizesOk_of rfl, ?_⟩
   refine o3.app1 6 (⟨m, sd, sa, so, fd, fa, fo, hp⟩ : MV) rfl rfl (sizesOk_of rfl) encM_len encM_plain rfl (by decide) (by omega) fun w' h4 o4 => ?_
   refine nxt w' (ms ++ [⟨m, sd, sa, so, fd, fa, fo, hp⟩]) h4 ?_ ?_
   ·rw [List.map_append, hms, tk, mksZ_snoc, if_pos hz]; rfl
   ·have o5 : Own h h4 ([xR sd (g.to m).dist, xR fd (g.from m).dist] ++ (slR encM 7 T_avoid_mark w' (ms ++ [⟨m, sd, sa, so, fd, fa, fo, hp⟩]) :: markL g ms)) := o4.front 6 [3, 0] (by decide) (by decide)
    have o6 := Own.comm o5
    unfold markL at o6 ⊢
    rw [List.flatMap_append]
    exact o6
  ·rw [hms, tk, mksZ_snoc, if_neg hz, List.append_nil]
 ·have : i = l.length := by omega
  subst this
  rw [List.take_length] at hms
  exact hK w ms h1 hms (o.frame o1)

end
open Go Go.Mh

section
variable {h0 h : Heap} {L : List Res} {K : KT} {g : G} {r : Nat} {vo : Value} {O : List Nat}

def backN (O : List Nat) (i : Nat) (x : List Value) (i' : Nat) : Prop := i < O.length /\ i' = i + 1 /\ ∃ k : Int, x = [I k, I (O.reverse.getD i 0 : Nat)]
def revN (O : List Nat) (i : Nat) (x : List Value) (i' : Nat) : Prop := i < O.length /\ i' = i + 1 /\ x = [I (O.reverse.getD i 0 : Nat)]

theorem rev_at {i : Nat} (h : i < O.length) : O.reverse.getD i 0 = O[O.length - 1 - i]'(by omega) := by
 rw [List.getD_eq_getElem?_getD, List.getElem?_reverse h, List.getElem?_eq_getElem (by omega)]; rfl

theorem back_iter {b : Nat} {T : TypeId} (hl : O.length < 2 ^ 40) : IterG Tryz.prog (.func (.func F_slices_Backward_sl_int_int_1) #[] #[ptr b]) (fun h => h[b]? = some (.cells #[vo] T (0, 0)) /\ Vw encN 1 h vo O) (σ := Nat) 0 (backN O) (fun i => i = O.length) := by
 rintro yv h0 h Rs K J E ⟨l, rfl⟩ o j0 hQ hY hK
 refine callF_of (l := [yieldV l, ptr b]) rfl (lk_slices_Backward_sl_int_int_1 _ _ ?_)
 unfold sh_slices_Backward_sl_int_int_1
 obtain ⟨hb, hv⟩ := hQ _ _ _ j0 o
 have hc : hcell h ⟨b, 0, none⟩ = some vo := hcell_of hb rfl
 refine pLoad_of rfl hc (hv.len ?_)
 rw [pBin_sub, w64 (by omega) (by omega)]
 refine LoopH_count O.length (fun i x h' => x.1 = I ((O.length : Int) - 1 - i) /\ ∃ Rs', J i Rs' /\ Own h0 h' Rs') ⟨by show I _ = I _; congr 1; omega, Rs, j0, o⟩ ?_
 clear hb hv hc o j0
 rintro i ⟨x, ⟨⟩⟩ h Z hi ⟨hx, Rs', hj, o⟩ hZ
 dsimp only at hx hZ ⊢
 subst hx
 unfold sh_slices_Backward_sl_int_int_1_L1
 rw [pBin_geq, ifV_dec]
 refine ⟨fun hlt => ?_, fun hge => ?_⟩
 ·have hlt : i < O.length := by omega
  obtain ⟨hb, hv⟩ := hQ _ _ _ hj o
  have hc : hcell h ⟨b, 0, none⟩ = some vo := hcell_of hb rfl
  refine pLoad_of rfl hc ?_
  rw [show ((O.length : Int) - 1 - i) = ((O.length - 1 - i : Nat) : Int) by omega]
  refine hv.at1 (e := fun (x : Nat) => I x) (fun _ => rfl) (show O.length - 1 - i < O.length by omega) ?_
  rw [<- rev_at hlt]
  refine hY i _ (i + 1) Rs' [] h _ ⟨hlt, rfl, _, rfl⟩ hj o.nilTail (fun Rs'' h'' hj' o' => ?_) fun Rs'' h'' he o' => ?_
  ·rw [pUn_not, Bool.not_true, ifV_false, pBin_sub, w64 (by omega) (by omega)]
   exact hZ (_, ()) h'' hlt ⟨by show I _ = I _; congr 1; omega, Rs'', hj', o'.toNil⟩
  ·rw [pUn_not, Bool.not_false, ifV_true]
   exact hK _ _ (.inr he) o'.toNil
 ·have : i = O.length := by omega
  exact hK _ _ (.inl ⟨i, this, hj⟩) o

theorem behind_iter {b : Nat} {T : TypeId} (hl : O.length < 2 ^ 40) : IterG Tryz.prog (.func (.func F_avoid_behind_1) #[] #[ptr b]) (fun h => h[b]? = some (.cells #[vo] T (0, 0)) /\ Vw encN 1 h vo O) (σ := Nat) 0 (revN O) (fun i => i = O.length) := by
 rintro yv h0 h Rs K J E ⟨l, rfl⟩ o j0 hQ hY hK
 refine callF_of (l := [yieldV l, ptr b]) rfl (lk_avoid_behind_1 _ _ ?_)
 unfold sh_avoid_behind_1
 obtain ⟨hb, hv⟩ := hQ _ _ _ j0 o
 have hone := hv.one
 refine o.box fun y2 h1 o1 => ?_
 have o1 : Own h0 h1 (cellR y2 [yieldV l] T_func_int_bool :: Rs) := o1
 obtain ⟨hb1, hv1⟩ := hQ _ _ _ j0 o1.tail
 have hc : hcell h1 ⟨b, 0, none⟩ = some vo := hcell_of hb1 rfl
 refine pLoad_of rfl hc ?_
 refine callS_of (lk_slices_Backward_sl_int_int _ ?_)
 unfold sh_slices_Backward_sl_int_int
 refine o1.box fun s1 h2 o2 => ?_
 rw [show (Value.cells vo).toList = [vo] by rw [hone]] at o2
 refine o2.range (back_iter (O := O) (vo := vo) (T := T_sl_int) hl) (by rintro i x i' ⟨_, _, k, rfl⟩; rfl)
  (fun i Rs1 => ∃ Rs', Rs1 = cellR s1 [vo] T_sl_int :: cellR y2 [yieldV l] T_func_int_bool :: Rs' /\ J i Rs')
  (fun Rs1 => ∃ Rs', Rs1 = cellR s1 [vo] T_sl_int :: cellR y2 [yieldV l] T_func_int_bool :: Rs' /\ E Rs') (fun _ _ => False) ⟨Rs, rfl, j0⟩ ?_ ?_ ?_ ?_ (fun _ _ _ h => h.elim)
 ·rintro i Rs1 h' ⟨Rs', rfl, hj⟩ o'
  exact ⟨o'.get 0 rfl, (hQ _ _ _ hj o'.tail.tail).2⟩
 ·rintro M i x i' Rs1 Pr h' R ⟨h1, rfl, k, rfl⟩ ⟨Rs', rfl, hj⟩ o' hN hR _
  dsimp only [valsOf]
  unfold sh_avoid_behind_1_B1
  refine o'.begin 0 rfl fun h3 o3 => ?_
  refine o3.load 3 rfl rfl ?_
  have o4 : Own h0 h3 ([loopR (h2.size + 1) (lo M .busy none), markR h2.size, cellR s1 [vo] T_sl_int, cellR y2 [yieldV l] T_func_int_bool] ++ (Rs' ++ Pr)) := o3
  have o5 := Own.comm o4
  rw [List.append_assoc] at o5
  refine hY i _ (i + 1) Rs' _ h3 _ ⟨h1, rfl, rfl⟩ hj o5 (fun Rs'' h'' hj' o6 => ?_) fun Rs'' h'' he o6 => ?_
  ·rw [pUn_not, Bool.not_true, ifV_false]
   rw [<- List.append_assoc] at o6
   exact hN _ h'' ⟨Rs'', rfl, hj'⟩ (Own.comm o6)
  ·rw [pUn_not, Bool.not_false, ifV_true]
   rw [<- List.append_assoc] at o6
   exact hR _ h'' ⟨Rs'', rfl, he⟩ (Own.comm o6)
 ·rintro i h' Rs1 rfl ⟨Rs', rfl, hj⟩ o'
  exact o'.take1 0 rfl fun h10 o10 => hK _ _ (.inl ⟨_, rfl, hj⟩) o10.tail.tail.tail
 ·rintro h' Rs1 ⟨Rs', rfl, he⟩ o'
  exact o'.take1 0 rfl fun h10 o10 => hK _ _ (.inr he) o10.tail.tail.tail

def bestV : Option Nat -> Value
 | none => I (-1)
 | some w => I w

theorem best_ok16 {fv hv : Value} {f : Nat -> Int} {Q : Heap -> Prop} (o : Own h0 h L) (hone : hv.cells = #[hv]) (hpl : Mh.plainCell hv = true) (hI : IterG Tryz.prog fv Q (σ := Nat) 0 (fwdN O) (fun i => i = O.length)) (hQ : ∀ h', Own h0 h' L -> Q h')
  (hH : ∀ h' (v : Nat) (K : KT), v ∈ O -> Own h0 h' L -> K (I (f v)) h' -> callV Tryz.prog hv [I v].toArray h' K) (hK : ∀ h', Own h0 h' L -> K (bestV (bestS f O)) h') : callS Tryz.prog F_avoid_best_int64 [fv, hv] h K := by
 refine callS_of (lk_avoid_best_int64 _ _ ?_)
 unfold sh_avoid_best_int64
 refine o.box fun a3 h1 o1 => o1.box fun f5 h2 o2 => o2.st1 0 (cs' := [I (-1)]) rfl rfl rfl rfl rfl fun h3 o3 => ?_
 have o3 : Own h0 h3 (cellR f5 [bestV (bestS f (O.take 0))] T_int :: cellR a3 [hv] T_func_int_int64 :: L) := by
  have : (Value.cells hv).toList = [hv] := by rw [hone]
  rw [this] at o3
  exact o3
 clear o1 o2
 refine o3.range hI (by rintro i x i' ⟨_, _, rfl⟩; rfl) (fun i Rs => i <= O.length /\ Rs = cellR f5 [bestV (bestS f (O.take i))] T_int :: cellR a3 [hv] T_func_int_int64 :: L) (fun _ => False) (fun _ _ => False) ⟨Nat.zero_le _, rfl⟩ ?_ ?_ ?_ (fun _ _ h => h.elim) (fun _ _ _ h => h.elim)
 ·rintro i Rs h' ⟨_, rfl⟩ o'
  exact hQ _ o'.tail.tail
 ·rintro M i x i' Rs Pr h' R ⟨h1, rfl, rfl⟩ ⟨_, rfl⟩ o' hN _ _
  dsimp only [valsOf]
  unfold sh_avoid_best_int64_B1
  have e : O.getD i 0 = O[i] := by rw [List.getD_eq_getElem?_getD, List.getElem?_eq_getElem h1]; rfl
  rw [e]
  have hmem : O[i] ∈ O := List.getElem_mem h1
  have hsn : bestS f (O.take (i + 1)) = bst1 f (bestS f (O.take i)) O[i] := by rw [List.take_succ_eq_append_getElem h1, bestS_snoc]
  have hold : ∀ w, bestS f (O.take i) = some w -> w ∈ O := fun w hw => by
   rcases bestS_is (f := f) (l := O.take i) with ⟨e, _⟩ | ⟨w', e, h1, _⟩
   ·rw [e] at hw; cases hw
   ·rw [e] at hw; cases hw; exact List.mem_of_mem_take h1
  generalize O[i] = v at hmem hsn
  generalize bestS f (O.take i) = b at o' hsn hold
  refine o'.begin 0 rfl fun h4 o4 => ?_
  have o4 : Own h0 h4 (loopR (h3.size + 1) (lo M .busy none) :: markR h3.size :: cellR f5 [bestV b] T_int :: cellR a3 [hv] T_func_int_int64 :: (L ++ Pr)) := o4
  have oL : Own h0 h4 L := o4.tail.tail.tail.tail.left
  have k2 : bst1 f b v = some v -> sh_avoid_best_int64_k2 Tryz.prog (ptr f5) (I v) R h4 := fun hb => by
   unfold sh_avoid_best_int64_k2
   refine o4.st1 2 (cs' := [I v]) rfl rfl rfl rfl rfl fun h5 o5 => ?_
   refine hN _ h5 ⟨h1, rfl⟩ ?_
   rw [hsn, hb]
   exact o5
  have same : bst1 f b v = b -> R .normal h4 := fun hb => by
   refine hN _ h4 ⟨h1, rfl⟩ ?_
   rw [hsn, hb]
   exact o4
  refine o4.load 3 rfl rfl (hH _ _ _ hmem oL ?_)
  rw [pBin_gtr, ifV_dec]
  refine ⟨fun hp => o4.load 2 rfl rfl ?_, fun hn => same (if_neg fun h => hn h.1)⟩
  cases b with
  | none =>
   show pBin .lss (I (-1)) _ _
   rw [pBin_lss, show decide ((-1 : Int) < 0) = true from rfl, ifV_true]
   exact k2 (if_pos ⟨hp, rfl⟩)
  | some w =>
   show pBin .lss (I w) _ _
   rw [pBin_lss, show decide ((w : Int) < 0) = false from decide_eq_false (by omega), ifV_false]
   refine o4.load 3 rfl rfl (o4.load 2 rfl rfl (hH _ w _ (hold w rfl) oL ?_))
   rw [pBin_gtr, ifV_dec]
   refine ⟨fun hw => k2 (if_pos ⟨hp, decide_eq_true (.inl hw)⟩), fun hw => o4.load 3 rfl rfl (o4.load 2 rfl rfl (hH _ w _ (hold w rfl) oL ?_))⟩
   rw [pBin_eql, ifV_beq]
   refine ⟨fun he => o4.load 2 rfl rfl ?_, fun he => same (if_neg fun h => by have := of_decide_eq_true h.2; omega)⟩
   show pBin .lss _ (I w) _
   rw [pBin_lss, ifV_dec]
   exact ⟨fun hl => k2 (if_pos ⟨hp, decide_eq_true (.inr ⟨he, by omega⟩)⟩), fun hl => same (if_neg fun h => by have := of_decide_eq_true h.2; omega)⟩
 ·rintro i h' Rs rfl ⟨_, rfl⟩ o'
  rw [List.take_length] at o'
  refine o'.load 1 rfl rfl (o'.take1 0 rfl fun h10 o10 => ?_)
  exact hK _ o10.tail.tail.tail

end
open Go Go.Mh

section
variable {h0 h : Heap} {L : List Res} {K : KT} {g : G} {r : Nat}

theorem arcW_ok {z : Int} (H : NetR h r g) (hK : ∀ h', Ext h h' -> K (.tuple #[vA (wArc g.arcs z).1, .bool (wArc g.arcs z).2]) h') : callS Tryz.prog F_net_Net_Arc [ptr r, I z] h K := by
 refine arcI_ok H (fun i hi e h' x => ?_) fun hn h' x => ?_
 ·subst e
  have := hK h' x
  rw [show wArc g.arcs (i : Int) = (g.arcs[i], true) by simp [wArc, arcAt, hi]] at this
  exact this
 ·have := hK h' x
  rw [wArc, if_neg hn] at this
  exact this

end
open Go Go.Mh

abbrev growL (g : G) (t : Tr) (rn r pt tr m pm b5 b4 b3 : Nat) (vs vm sd sa so vl : Value) (f : Int -> Option Value) (S : GS) (rest : List Res) : List Res :=
  cellR pt [ptr tr] T_p_avoid_tree :: cellR tr [sd, sa, so, .map (some m), vs] T_avoid_tree :: mapR m f :: cellR pm [vm] T_sl_int :: slR encJ 1 T_int vm S.mc :: xR vs S.sz :: xR sd t.dist :: slR encJ 1 T_int sa t.arc :: slR encN 1 T_int so t.order ::
    cellR b5 [I r] T_int :: cellR b4 [vl] T_sl_avoid_mark :: cellR b3 [ptr rn] T_p_net_Net :: rest

section
variable {h0 h : Heap} {L Pr : List Res} {K : KT} {g : G} {t : Tr} {rn r pt tr m pm b5 b4 b3 : Nat} {vs vm sd sa so vl : Value} {f : Int -> Option Value} {S : GS} {a b : Res} {kv : Nat -> Value} {R : Exit -> Heap -> Prop} {v : Nat}

theorem wArc_par {l : List A} {z : Int} : ((wArc l z).2 = true ↔ 0 <= z /\ z < l.length) /\ ((wArc l z).2 = true -> (wArc l z).1 = arcAt l z.toNat) := by
  unfold wArc
  split
  · rename_i h
    exact ⟨⟨fun _ => h, fun _ => rfl⟩, fun _ => rfl⟩
  · rename_i h
    exact ⟨⟨fun e => (by cases e), fun e => absurd e h⟩, fun e => (by cases e)⟩

theorem grow6_ok (hN : NetR h0 rn g) (hal : t.arc.length = g.n) (hv : v < g.n) (hn : g.n <= 16777216) (hpr : ∀ p, parT g.arcs t v = some p -> p < g.n) (hkl : ∀ x, (S.kd x).length <= 2 ^ 32) (hf : ∀ u : Nat, (f u).getD sl0 = kv u)
    (o : Own h0 h (a :: b :: growL g t rn r pt tr m pm b5 b4 b3 vs vm sd sa so vl f S (famR encN 1 T_int kv S.kd g.n ++ Pr)))
    (hR : ∀ f' kv' h', (∀ u : Nat, (f' u).getD sl0 = kv' u) -> Own h0 h' (a :: b :: growL g t rn r pt tr m pm b5 b4 b3 vs vm sd sa so vl f' ⟨S.sz, S.mc, updK S.kd v (parT g.arcs t v)⟩ (famR encN 1 T_int kv' (updK S.kd v (parT g.arcs t v)) g.n ++ Pr)) -> R .normal h') :
    sh_avoid_grow_k6 Tryz.prog (ptr b3) (ptr pt) (I v) R h := by
  unfold sh_avoid_grow_k6
  obtain ⟨w1, w2⟩ := @wArc_par g.arcs (t.arc.getD v (-1))
  refine cutP_of (fun y h' => ∃ a15 : Nat, y.1 = ptr a15 /\ y.2.1 = .bool (wArc g.arcs (t.arc.getD v (-1))).2 /\ Own h0 h' (cellR a15 [I (wArc g.arcs (t.arc.getD v (-1))).1.f, I (wArc g.arcs (t.arc.getD v (-1))).1.t, I (wArc g.arcs (t.arc.getD v (-1))).1.w] T_api_Arc :: a :: b :: growL g t rn r pt tr m pm b5 b4 b3 vs vm sd sa so vl f S (famR encN 1 T_int kv S.kd g.n ++ Pr))) (fun J hJ => ?_) ?_
  · refine o.load 13 rfl rfl (o.load 2 rfl rfl ?_)
    simp only [pNil_ptr, pField_ptr]
    refine o.load 3 rfl rfl ((o.vw 9 rfl).atI (by rw [hal]; exact hv) ?_)
    rw [arc_get (by rw [hal]; exact hv)]
    generalize t.arc.getD v (-1) = z at hJ
    refine ⟨arcW_ok (hN.more o.ext) fun h1 x1 => ?_, o.box fun a15 h1 o1 => arcW_ok (hN.more o1.ext) fun h2 x2 => ?_⟩
    · have o1 := o.more x1
      simp only [pExt0, pExt1]
      refine o1.box fun a15 h2 o2 => o2.st (cs' := [I (wArc g.arcs z).1.f, I (wArc g.arcs z).1.t, I (wArc g.arcs z).1.w]) 0 rfl rfl rfl rfl rfl (by intro u hu; simp at hu; rcases hu with rfl | rfl | rfl <;> rfl) fun h3 o3 => hJ _ _ ⟨a15, rfl, rfl, o3⟩
    · have o2 := o1.more x2
      simp only [pExt0, pExt1]
      refine o2.st (cs' := [I (wArc g.arcs z).1.f, I (wArc g.arcs z).1.t, I (wArc g.arcs z).1.w]) 0 rfl rfl rfl rfl rfl (by intro u hu; simp at hu; rcases hu with rfl | rfl | rfl <;> rfl) fun h3 o3 => hJ _ _ ⟨a15, rfl, rfl, o3⟩
  · rintro ⟨y1, y2, ⟨⟩⟩ h' ⟨a15, hy1, hy2, o1⟩
    dsimp only at hy1 hy2 ⊢
    subst hy1 hy2
    unfold sh_avoid_grow_C7
    cases hw : (wArc g.arcs (t.arc.getD v (-1))).2 with
    | false =>
      rw [ifV_false]
      have hp : parT g.arcs t v = none := by
        unfold parT
        rw [if_neg fun h => by rw [w1.2 h] at hw; cases hw]
      rw [hp] at hR
      exact hR f kv h' hf o1.tail
    | true =>
      rw [ifV_true]
      have hz := w1.1 hw
      have ha := w2 hw
      have hp : parT g.arcs t v = some (arcAt g.arcs (t.arc.getD v (-1)).toNat).f := by unfold parT; rw [if_pos hz]
      rw [ha] at o1
      have hpn := hpr _ hp
      rw [hp] at hR
      generalize arcAt g.arcs (t.arc.getD v (-1)).toNat = q at o1 hR hpn
      refine o1.load 3 rfl rfl ?_
      simp only [pNil_ptr, pField_ptr]
      refine o1.load 4 rfl rfl (o1.load 0 rfl rfl (o1.load 3 rfl rfl ?_))
      simp only [pNil_ptr, pField_ptr]
      refine o1.load 4 rfl rfl (o1.load 0 rfl rfl (o1.look 5 rfl ?_))
      have hfq := hf q.f
      show pBuildSlice T_int _ _ 1 h' fun t137 h_145 => pAppend T_int 1 8 _ ((f q.f).getD sl0) t137 h_145 _
      rw [hfq]
      have hi : (cellR a15 [I q.f, I q.t, I q.w] T_api_Arc :: a :: b :: growL g t rn r pt tr m pm b5 b4 b3 vs vm sd sa so vl f S (famR encN 1 T_int kv S.kd g.n ++ Pr))[q.f + 15]? = some (slR encN 1 T_int (kv q.f) (S.kd q.f)) := by
        show (famR encN 1 T_int kv S.kd g.n ++ Pr)[q.f]? = _
        rw [List.getElem?_append_left (by simp [famR]; exact hpn), famR_get hpn]
      have := hkl q.f
      refine o1.app1 (q.f + 15) v hi rfl (sizesOk_of rfl) (fun _ => rfl) encN_plain rfl (by decide) (by omega) fun w h2 o2 => ?_
      have o2 : Own h0 h2 (cellR a15 [I q.f, I q.t, I q.w] T_api_Arc :: a :: b :: growL g t rn r pt tr m pm b5 b4 b3 vs vm sd sa so vl f S ((famR encN 1 T_int kv S.kd g.n ++ Pr).set q.f (slR encN 1 T_int w (S.kd q.f ++ [v])))) := o2
      rw [List.set_append_left _ _ (by simp [famR]; exact hpn), famR_set] at o2
      refine ⟨o2.load 3 rfl rfl rfl, o2.load 4 rfl rfl rfl, o2.load 0 rfl rfl rfl, ?_⟩
      refine o2.mapPut (f' := fset f q.f w) 5 rfl (fun x => rfl) fun h3 o3 => ?_
      refine hR (fset f q.f w) (upF kv q.f w) h3 (fun u => ?_) ?_
      · unfold fset upF
        by_cases e : u = q.f
        · subst e; simp
        · rw [if_neg (by omega), if_neg e]; exact hf u
      · have e : updK S.kd v (some q.f) = upF S.kd q.f (S.kd q.f ++ [v]) := by
          funext x
          unfold updK upF
          by_cases e : x = q.f
          · subst e; simp
          · simp [e]
        rw [e]
        exact o3.tail

def mcq (S : GS) (v q : Nat) : Int := ((S.kd v).take q).foldl (fun a k => a + S.mc.getD k 0) (S.mc.getD v 0)
def owq (S : GS) (v : Nat) (w0 : Int) (q : Nat) : Int := ((S.kd v).take q).foldl (fun a k => satI a (S.sz.getD k 0)) w0

theorem mcq_rng (hm : ∀ u, 0 <= S.mc.getD u 0 /\ S.mc.getD u 0 <= 2 ^ 32) : ∀ q, 0 <= mcq S v q /\ mcq S v q <= (q + 1) * 2 ^ 32
  | 0 => by have := hm v; show 0 <= S.mc.getD v 0 /\ S.mc.getD v 0 <= _; omega
  | q + 1 => by
    have ih := mcq_rng hm q
    by_cases hq : q < (S.kd v).length
    · have e : mcq S v (q + 1) = mcq S v q + S.mc.getD ((S.kd v)[q]) 0 := by
        unfold mcq
        rw [List.take_succ_eq_append_getElem hq, List.foldl_append]; rfl
      have := hm (S.kd v)[q]
      omega
    · have e : mcq S v (q + 1) = mcq S v q := by
        unfold mcq
        rw [List.take_of_length_le (by omega), List.take_of_length_le (by omega)]
      omega

theorem satI_rng {a b : Int} : 0 <= satI a b /\ satI a b <= 2305843009213693952 := by unfold satI keepS mostS; omega

theorem owq_rng {w0 : Int} (h0 : 0 <= w0 /\ w0 <= far) : ∀ q, 0 <= owq S v w0 q /\ owq S v w0 q <= 2305843009213693952
  | 0 => by have : far = 72057594037927936 := rfl
            show 0 <= w0 /\ w0 <= _; omega
  | q + 1 => by
    by_cases hq : q < (S.kd v).length
    · have e : owq S v w0 (q + 1) = satI (owq S v w0 q) (S.sz.getD ((S.kd v)[q]) 0) := by
        unfold owq
        rw [List.take_succ_eq_append_getElem hq, List.foldl_append]; rfl
      rw [e]; exact satI_rng
    · have e : owq S v w0 (q + 1) = owq S v w0 q := by
        unfold owq
        rw [List.take_of_length_le (by omega), List.take_of_length_le (by omega)]
      rw [e]; exact owq_rng h0 q

theorem getD_at16 {l : List Int} {i : Nat} (h : i < l.length) : l[i] = l.getD i 0 := by rw [List.getD_eq_getElem?_getD, List.getElem?_eq_getElem h]; rfl

theorem grow4_ok {wt : Nat -> Int} (hN : NetR h0 rn g) (hal : t.arc.length = g.n) (hv : v < g.n) (hn : g.n <= 16777216) (hpr : ∀ p, parT g.arcs t v = some p -> p < g.n) (hkl : ∀ x, (S.kd x).length <= 2 ^ 20) (hf : ∀ u : Nat, (f u).getD sl0 = kv u)
    (hsl : S.sz.length = g.n) (hml : S.mc.length = g.n) (hk : ∀ k ∈ S.kd v, k < g.n /\ k ≠ v) (hm : ∀ u, 0 <= S.mc.getD u 0 /\ S.mc.getD u 0 <= 2 ^ 32) (hw : 0 <= wt v /\ wt v <= far)
    (o : Own h0 h (a :: b :: growL g t rn r pt tr m pm b5 b4 b3 vs vm sd sa so vl f S (famR encN 1 T_int kv S.kd g.n ++ Pr)))
    (hR : ∀ f' kv' h', (∀ u : Nat, (f' u).getD sl0 = kv' u) -> Own h0 h' (a :: b :: growL g t rn r pt tr m pm b5 b4 b3 vs vm sd sa so vl f' (S.step (parT g.arcs t) wt v) (famR encN 1 T_int kv' (S.step (parT g.arcs t) wt v).kd g.n ++ Pr)) -> R .normal h') :
    sh_avoid_grow_k4 Tryz.prog (ptr pt) (I v) (ptr pm) (ptr b3) R (I (wt v)) h := by
  unfold sh_avoid_grow_k4
  refine o.load 2 rfl rfl ?_
  simp only [pNil_ptr, pField_ptr]
  refine o.load 3 rfl rfl (o.look 4 rfl ?_)
  have hfq := hf v
  show pLen ((f v).getD sl0) _
  rw [hfq]
  have hfam : ∀ (S' : GS), S'.kd = S.kd -> (a :: b :: growL g t rn r pt tr m pm b5 b4 b3 vs vm sd sa so vl f S' (famR encN 1 T_int kv S.kd g.n ++ Pr))[v + 14]? = some (slR encN 1 T_int (kv v) (S.kd v)) := fun S' _ => by
    show (famR encN 1 T_int kv S.kd g.n ++ Pr)[v]? = _
    rw [List.getElem?_append_left (by simp [famR]; exact hv), famR_get hv]
  refine (o.vw (v + 14) (hfam S rfl)).len ?_
  have e0 : S.mc.set v (mcq S v 0) = S.mc := by
    show S.mc.set v (S.mc.getD v 0) = S.mc
    rw [<- getD_at16 (by omega)]
    exact List.set_getElem_self (by omega)
  refine LoopH_count (S.kd v).length (fun q y h' => y.1 = I (owq S v (wt v) q) /\ y.2.1 = I q /\ Own h0 h' (a :: b :: growL g t rn r pt tr m pm b5 b4 b3 vs vm sd sa so vl f ⟨S.sz, S.mc.set v (mcq S v q), S.kd⟩ (famR encN 1 T_int kv S.kd g.n ++ Pr))) ⟨rfl, rfl, by rw [e0]; exact o⟩ ?_
  clear o
  rintro q ⟨y1, y2, ⟨⟩⟩ h1 Z hq ⟨hy1, hy2, o⟩ hZ
  dsimp only at hy1 hy2 hZ ⊢
  subst hy1 hy2
  have hkv := hkl v
  have hmr := mcq_rng (v := v) hm q
  have hor := owq_rng (S := S) (v := v) hw q
  have hset : (S.mc.set v (mcq S v q)).length = g.n := by rw [List.length_set]; exact hml
  unfold sh_avoid_grow_L5
  rw [pBin_lss, ifV_dec]
  refine ⟨fun hlt => ?_, fun hge => ?_⟩
  · have hlt : q < (S.kd v).length := by omega
    have ho1 : owq S v (wt v) (q + 1) = satI (owq S v (wt v) q) (S.sz.getD ((S.kd v)[q]) 0) := by
      unfold owq
      rw [List.take_succ_eq_append_getElem hlt, List.foldl_append]; rfl
    have hm1 : mcq S v (q + 1) = mcq S v q + S.mc.getD ((S.kd v)[q]) 0 := by
      unfold mcq
      rw [List.take_succ_eq_append_getElem hlt, List.foldl_append]; rfl
    refine (show Vw encN 1 h1 (kv v) (S.kd v) from o.vw (v + 14) (hfam ⟨S.sz, S.mc.set v (mcq S v q), S.kd⟩ rfl)).at1 (e := fun (x : Nat) => I x) (fun _ => rfl) hlt ?_
    obtain ⟨hkn, hkne⟩ := hk _ (List.getElem_mem hlt)
    generalize (S.kd v)[q] = k at ho1 hm1 hkn hkne
    have hmk := hm k
    refine o.load 2 rfl rfl ?_
    simp only [pNil_ptr, pField_ptr]
    refine o.load 3 rfl rfl ((o.vw 7 rfl).atI (by rw [hsl]; exact hkn) ?_)
    rw [getD_at16 (by rw [hsl]; exact hkn)]
    refine dsat_ok (by omega) (by omega) fun h2 x2 => ?_
    rw [<- ho1]
    have o2 := o.more x2
    clear o
    refine o2.load 5 rfl rfl ((o2.vw 6 rfl).atI (by rw [hset]; exact hv) (o2.load 5 rfl rfl ((o2.vw 6 rfl).atI (by rw [hset]; exact hkn) ?_)))
    rw [List.getElem_set_self, List.getElem_set_ne (fun e => hkne e.symm), getD_at16 (by omega), pBin_add, w64 (by omega) (by omega), <- hm1]
    refine o2.setI 6 rfl (by rw [hset]; exact hv) fun h3 o3 => ?_
    rw [pBin_add, wI q (by omega)]
    refine hZ (_, _, ()) h3 hlt ⟨rfl, rfl, ?_⟩
    rw [<- List.set_set (a := mcq S v q)]
    exact o3
  · have : q = (S.kd v).length := by omega
    subst this
    have em : mcq S v (S.kd v).length = S.mcs v := by unfold mcq GS.mcs; rw [List.take_length]
    have eo : owq S v (wt v) (S.kd v).length = S.own wt v := by unfold owq GS.own; rw [List.take_length]
    rw [em] at o hset
    rw [eo]
    refine o.load 5 rfl rfl ((o.vw 6 rfl).atI (by rw [hset]; exact hv) ?_)
    rw [List.getElem_set_self, pBin_eql, ifV_beq]
    refine ⟨fun h0 => o.load 2 rfl rfl ?_, fun h0 => ?_⟩
    · simp only [pNil_ptr, pField_ptr]
      refine o.load 3 rfl rfl (o.setI 7 rfl (by rw [hsl]; exact hv) fun h2 o2 => ?_)
      refine grow6_ok (S := ⟨S.sz.set v (S.own wt v), S.mc.set v (S.mcs v), S.kd⟩) hN hal hv hn hpr (fun x => by have := hkl x; show (S.kd x).length <= _; omega) hf o2 fun f' kv' h' hf' o' => hR f' kv' h' hf' ?_
      unfold GS.step
      rw [if_pos h0]
      exact o'
    · refine grow6_ok (S := ⟨S.sz, S.mc.set v (S.mcs v), S.kd⟩) hN hal hv hn hpr (fun x => by have := hkl x; show (S.kd x).length <= _; omega) hf o fun f' kv' h' hf' o' => hR f' kv' h' hf' ?_
      unfold GS.step
      rw [if_neg h0]
      exact o'

end
end Go.Proofs.YtmdldoolnhpaeaaGreatDoor
