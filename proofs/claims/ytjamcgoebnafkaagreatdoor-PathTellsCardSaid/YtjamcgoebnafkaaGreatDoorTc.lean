/- Texts of the proofs of seat YtjamcgoebnafkaaGreatDoor, joined: WkB, F11C, F11G, F11H. They have no conditions of their own. -/
import Derived.Test.YtjamcgoebnafkaaGreatDoorTa
import Derived.Test.YtjamcgoebnafkaaGreatDoorMc
import Derived.Test.YtjamcgoebnafkaaGreatDoorTb
set_option linter.unusedVariables false
set_option linter.unusedSimpArgs false

namespace Go.Proofs.YtjamcgoebnafkaaGreatDoor
open Go Go.Mh
set_option linter.unusedVariables false

section
variable {h0 h : Heap} {L : List Res} {K : Value → Heap → Prop} {g : G} {r : Nat}

theorem trail_at {l : List A} : ∀ {arcs : List Nat} {s t i : Nat} (hi : i < arcs.length), Trail l s arcs t → arcs[i] < l.length ∧ (nds l s arcs)[i]? = some (arcAt l arcs[i]).f
  | j :: r, s, t, 0, _, ⟨a, b, _⟩ => ⟨a, by simp [vis, b]⟩
  | j :: r, s, t, i + 1, hi, ⟨a, b, h⟩ => by
    have := trail_at (i := i) (by simpa using hi) h
    refine ⟨by simpa using this.1, ?_⟩
    have e : (nds l s (j :: r))[i + 1]? = (nds l (arcAt l j).t r)[i]? := by rw [nds, vis_cons, List.getElem?_cons_succ]
    rw [e, this.2]; rfl

/-- The nodes of a walk. -/
theorem wnodes_ok {s t : Nat} {va : Value} {arcs : List Nat} (hR : g.Right) (H : NetR h r g) (hv : Vw encI 1 h va (nI arcs)) (hl : arcs.length < 2147483648) (hs : s < g.n) (tr : Trail g.arcs s arcs t)
    (hK : ∀ w h', Own h h' [slR encI 1 T_int w (nI (nds g.arcs s arcs))] → K (.tuple #[w, .bool true]) h') : callS Tryz.prog F_walk_Nodes [ptr r, I s, va] h K := by
  refine callS_of (lk_walk_Nodes _ _ _ ?_)
  unfold sh_walk_Nodes
  refine (Own.start h).box fun t6 h1 o1 => o1.box fun t7 h2 o2 => wnode_ok (H.more o2.ext) ?_
  rw [decide_eq_true (show (0 : Int) ≤ s by omega), decide_eq_true (show (s : Int) < g.n by omega), Bool.true_and, pUn_not, Bool.not_true, ifV_false]
  refine o2.build (enc := encI) (n := 1) [(s : Int)] rfl (sizesOk_of rfl) rfl fun vl h3 o3 => ?_
  have hvl := o3.vw 0 rfl
  refine o3.box fun l8 h4 o4 => o4.st1 0 (cs' := [vl]) rfl rfl rfl hvl.one hvl.plain fun h5 o5 => ?_
  refine callS_of (lk_walk_steps _ _ _ ?_)
  unfold sh_walk_steps
  refine o5.box fun n3 h6 o6 => o6.box fun s4 h7 o7 => o7.box fun a5 h8 o8 => ?_
  have o9 : Own h h8 ([cellR a5 [va] T_sl_int, cellR n3 [ptr r] T_p_net_Net, cellR l8 [vl] T_sl_int, slR encI 1 T_int vl [(s : Int)], cellR t7 [.bool false] T_bool, cellR t6 [.slice none 0 0] T_sl_int] ++ [cellR s4 [I s] T_int]) := by
    rw [show va.cells.toList = [va] by rw [hv.one]] at o8
    exact o8.sel [0, 2, 3, 4, 5, 6, 1] (by decide)
  refine o9.rangeP (wsteps_iter (g := g) (r := r) (va := va) (arcs := nI arcs) (T1 := T_sl_int) (T2 := T_p_net_Net) (by rw [nI_len]; omega)) (by rintro p x p' ⟨_, rfl, _⟩; rfl)
    (fun p Rs => ∃ vl, p.1 ≤ arcs.length ∧ (nds g.arcs s arcs)[p.1]?.map (fun (n : Nat) => (n : Int)) = some p.2 ∧ Rs = [cellR a5 [va] T_sl_int, cellR n3 [ptr r] T_p_net_Net, cellR l8 [vl] T_sl_int, slR encI 1 T_int vl (nI ((nds g.arcs s arcs).take (p.1 + 1))), cellR t7 [.bool false] T_bool, cellR t6 [.slice none 0 0] T_sl_int])
    (fun _ => False) (fun _ _ => False) ⟨vl, Nat.zero_le _, rfl, rfl⟩ ?_ ?_ ?_ (fun _ _ h => h.elim) (fun _ _ _ h => h.elim)
  · rintro p Rs' h' ⟨vl, _, _, rfl⟩ o'
    exact ⟨o'.get 0 rfl, o'.get 1 rfl, H.more o'.ext, hv.more o'.ext⟩
  · rintro M ⟨i, e⟩ x p' Rs' Pr h' R ⟨hi, rfl, rfl⟩ ⟨vl, hil, he, rfl⟩ o' hN _ _
    dsimp only [valsOf] at hi hil he ⊢
    have hi' : i < arcs.length := by rw [nI_len] at hi; exact hi
    obtain ⟨ta, tf⟩ := trail_at hi' tr
    have ez : (nI arcs)[i] = ((arcs[i] : Nat) : Int) := by simp [nI]
    have hw : wArc g.arcs (nI arcs)[i] = (arcAt g.arcs arcs[i], true) := by rw [ez, wArc, if_pos ⟨by omega, by omega⟩, Int.toNat_natCast]
    have htk : (nds g.arcs s arcs).take (i + 1 + 1) = (nds g.arcs s arcs).take (i + 1) ++ [(arcAt g.arcs arcs[i]).t] := by
      have hl2 : i + 1 < (nds g.arcs s arcs).length := by simp [vis]; omega
      rw [List.take_succ_eq_append_getElem hl2]
      congr 1
      simp [vis]
    have hnx : (nds g.arcs s arcs)[i + 1]? = some (arcAt g.arcs arcs[i]).t := by simp [vis, hi']
    rw [hw] at hN ⊢
    rw [tf] at he
    have he : ((arcAt g.arcs arcs[i]).f : Int) = e := Option.some.inj he
    generalize arcAt g.arcs arcs[i] = a at hN htk hnx he
    unfold sh_walk_Nodes_B1
    refine o'.box fun a9 h10 o10 => o10.st 0 rfl rfl rfl rfl rfl (encA_plain _) fun h11 o11 => ?_
    refine o11.begin 1 rfl fun h12 o12 => ?_
    rw [he, Bool.true_and, decide_eq_true rfl, pUn_not, Bool.not_true, ifV_false]
    simp only [pField_ptr]
    refine o12.load 5 rfl rfl (o12.load 0 rfl rfl ?_)
    refine o12.app1 6 (a.t : Int) rfl rfl (sizesOk_of rfl) encI_len encI_plain rfl (by decide) (by simp [nI, vis]; omega) fun v' h13 o13 => ?_
    have hv' := o13.vw 6 rfl
    refine o13.st1 5 (cs' := [v']) rfl rfl rfl hv'.one hv'.plain fun h14 o14 => ?_
    refine hN _ h14 ⟨v', hi', by rw [hnx]; rfl, rfl⟩ ?_
    have e2 : nI ((nds g.arcs s arcs).take (i + 1)) ++ [(a.t : Int)] = nI ((nds g.arcs s arcs).take (i + 1 + 1)) := by rw [htk]; simp [nI]
    have o15 := o14.tail
    simp only [List.set_cons_succ, List.set_cons_zero, List.cons_append, List.nil_append, e2] at o15
    exact o15
  · rintro ⟨i, e⟩ h' Rs' hst ⟨vl, hil, he, rfl⟩ o'
    dsimp only at hst
    have : i = arcs.length := by rw [nI_len] at hst; exact hst
    subst this
    have hvl := o'.vw 4 rfl
    refine o'.load 3 rfl rfl (o'.st1 6 (cs' := [vl]) rfl rfl rfl hvl.one hvl.plain fun h9 o10 => o10.st1 5 (cs' := [.bool true]) rfl rfl rfl rfl rfl fun h10 o11 => ?_)
    refine o11.take1 0 rfl fun h11 o12 => o12.load 6 rfl rfl (o12.load 5 rfl rfl (hK vl h11 ?_))
    have e2 : (nds g.arcs s arcs).take (arcs.length + 1) = nds g.arcs s arcs := List.take_of_length_le (by simp [vis])
    have o13 := o12.sel [4] (by decide)
    have o14 : Own h h11 [slR encI 1 T_int vl (nI ((nds g.arcs s arcs).take (arcs.length + 1)))] := o13
    rw [e2] at o14
    exact o14

theorem mem_take {l : List Nat} {i : Nat} {v : Nat} (hn : l.Nodup) (hi : l[i]? = some v) : v ∉ l.take i := by
  intro hm
  obtain ⟨j, hj⟩ := List.getElem?_of_mem hm
  have hjl : j < (l.take i).length := (List.getElem?_eq_some_iff.1 hj).1
  rw [List.getElem?_take_of_lt (by simp at hjl; omega)] at hj
  obtain ⟨h1, e1⟩ := List.getElem?_eq_some_iff.1 hi
  obtain ⟨h2, e2⟩ := List.getElem?_eq_some_iff.1 hj
  have := (List.getElem_inj hn).1 (e1.trans e2.symm)
  simp at hjl
  omega

/-- A walk without rings is left as it is. -/
theorem wbare_ok {s t : Nat} {va : Value} {arcs : List Nat} (hR : g.Right) (H : NetR h r g) (hv : Vw encI 1 h va (nI arcs)) (hl : arcs.length < 2147483648) (hs : s < g.n) (tr : Trail g.arcs s arcs t) (hnd : (nds g.arcs s arcs).Nodup)
    (hK : ∀ w h', Own h h' [slR encI 1 T_int w (nI arcs)] → K (.tuple #[w, .bool true]) h') : callS Tryz.prog F_walk_Bare [ptr r, I s, va] h K := by
  refine callS_of (lk_walk_Bare _ _ _ ?_)
  unfold sh_walk_Bare
  refine wnodes_ok hR H hv hl hs tr fun w h1 o1 => ?_
  simp only [pExt0, pExt1]
  rw [pUn_not, Bool.not_true, ifV_false]
  refine o1.build (enc := encI) (n := 1) [(s : Int)] rfl (sizesOk_of rfl) rfl fun row h2 o2 => o2.mkMap fun m h3 o3 => ?_
  refine o3.mapPut (f' := fset (fun _ => none) s (I 0)) 0 rfl (fun z => rfl) fun h4 o4 => ?_
  have hw := o4.vw 2 rfl
  have hnl : (nI (nds g.arcs s arcs)).length = arcs.length + 1 := by simp [nI, vis]
  have hlen : (nds g.arcs s arcs).length = arcs.length + 1 := by simp [vis]
  refine Vw.subA (a := 1) (j := arcs.length + 1) encI_len hw rfl (by simp only [bndOf]; rw [hnl]) (by omega) (by omega) fun w2 hw2 => ?_
  have hw2l : (((nI (nds g.arcs s arcs)).drop 1).take (arcs.length + 1 - 1)).length = arcs.length := by rw [List.length_take, List.length_drop, hnl]; omega
  refine (hw2 _ hw).len ?_
  rw [hw2l]
  refine LoopH_count arcs.length (fun i x h' => x.2.2.1 = I i ∧ ∃ f, (∀ v : Nat, (f (v : Int)).isSome = true → v ∈ (nds g.arcs s arcs).take (i + 1)) ∧ Own h h' [slR encI 1 T_int x.1 (nI (arcs.take i)), slR encI 1 T_int x.2.1 (nI ((nds g.arcs s arcs).take (i + 1))), mapR m f, slR encI 1 T_int w (nI (nds g.arcs s arcs))])
    ⟨rfl, _, fun v hv => ?_, (o4.nilS (enc := encI) (n := 1) (T := T_int)).sel [0, 2, 1, 3] (by decide)⟩ ?_
  · unfold fset at hv
    by_cases e : (v : Int) = s
    · have : v = s := by omega
      subst this; simp [vis]
    · rw [if_neg e] at hv; cases hv
  rintro i ⟨out, row, x, ⟨⟩⟩ h' Z hi ⟨hx, f, hf, o⟩ hZ
  dsimp only at hx o hZ ⊢
  subst hx
  unfold sh_walk_Bare_L1
  simp only [pBin_lss, ifV_dec]
  refine ⟨fun hlt => ?_, fun hge => ?_⟩
  · have hlt : i < arcs.length := by omega
    have hnx : (nds g.arcs s arcs)[i + 1]? = some (arcAt g.arcs arcs[i]).t := by simp [vis, hlt]
    have hq : (((nI (nds g.arcs s arcs)).drop 1).take (arcs.length + 1 - 1))[i]? = some (((arcAt g.arcs arcs[i]).t : Nat) : Int) := by
      rw [List.getElem?_take_of_lt (by omega), List.getElem?_drop, Nat.add_comm 1 i]
      simp only [nI, List.getElem?_map, hnx, Option.map_some]
    have hno : (f ((arcAt g.arcs arcs[i]).t : Int)).isSome = false := by
      rw [← Bool.not_eq_true]
      exact fun h => mem_take hnd hnx (hf _ h)
    have hva : (nI arcs)[i]? = some ((arcs[i] : Nat) : Int) := by simp [nI, hlt]
    have htk : (nds g.arcs s arcs).take (i + 1 + 1) = (nds g.arcs s arcs).take (i + 1) ++ [(arcAt g.arcs arcs[i]).t] := by
      have hl2 : i + 1 < (nds g.arcs s arcs).length := by omega
      rw [List.take_succ_eq_append_getElem hl2]
      congr 1
      simp [vis]
    have htk2 : arcs.take (i + 1) = arcs.take i ++ [arcs[i]] := List.take_succ_eq_append_getElem hlt
    generalize (arcAt g.arcs arcs[i]).t = v at hq hno htk
    generalize arcs[i] = a at hva htk2
    refine (hw2 _ (o.vw 3 rfl)).atQ hq (o.look 2 rfl ?_)
    simp only [if_true, pExt0, pExt1]
    rw [hno, pUn_not, Bool.not_false, ifV_true]
    refine (o.vw 1 rfl).len ?_
    rw [show (nI ((nds g.arcs s arcs).take (i + 1))).length = i + 1 by rw [nI_len, List.length_take, hlen]; omega]
    refine o.mapPut (f' := fset f v (I ((i + 1 : Nat) : Int))) 2 rfl (fun z => rfl) fun h6 o6 => ?_
    have e1 : nI (arcs.take i) ++ [(a : Int)] = nI (arcs.take (i + 1)) := by rw [htk2]; simp [nI]
    have e2 : nI ((nds g.arcs s arcs).take (i + 1)) ++ [(v : Int)] = nI ((nds g.arcs s arcs).take (i + 1 + 1)) := by rw [htk]; simp [nI]
    have b1 : (nI (arcs.take i)).length ≤ arcs.length := by rw [nI_len, List.length_take]; omega
    have b2 : (nI ((nds g.arcs s arcs).take (i + 1))).length ≤ arcs.length + 1 := by rw [nI_len, List.length_take, hlen]; omega
    refine cutP_of (fun y h'' => Own h h'' [slR encI 1 T_int y.1 (nI (arcs.take (i + 1))), slR encI 1 T_int y.2.1 (nI ((nds g.arcs s arcs).take (i + 1 + 1))), mapR m (fset f v (I ((i + 1 : Nat) : Int))), slR encI 1 T_int w (nI (nds g.arcs s arcs))]) (fun J hJ => ?_) ?_
    · have ea : (nI arcs)[i]'(by rw [nI_len]; exact hlt) = (a : Int) := by
        have := List.getElem?_eq_getElem (l := nI arcs) (i := i) (by rw [nI_len]; exact hlt)
        rw [hva] at this
        exact (Option.some.inj this).symm
      refine hv.idxI (by rw [nI_len]; exact hlt) fun bb oo hc => ?_
      rw [ea] at hc
      refine pLoad_of rfl (hcell_more o6.ext hc) ⟨?_, ?_⟩
      · refine o6.build (enc := encI) (n := 1) [(v : Int)] rfl (sizesOk_of rfl) rfl fun wv h7 o7 => ⟨?_, ?_⟩
        · refine o7.app 2 rfl encI_len encI_plain rfl (o7.vw 0 rfl) (by decide) (by rw [List.length_singleton]; omega) fun row' h8 o8 => ⟨pLoad_of rfl (hcell_more o8.ext hc) rfl, ?_⟩
          refine o8.app1 1 (a : Int) rfl rfl (sizesOk_of rfl) encI_len encI_plain rfl (by decide) (by omega) fun out' h9 o9 => hJ (out', (row', ())) _ ?_
          rw [e1, e2] at o9
          exact o9.sel [1, 2, 3, 4] (by decide)
        · refine o7.build (enc := encI) (n := 1) [(a : Int)] rfl (sizesOk_of rfl) rfl fun wa h8 o8 => ?_
          refine o8.app 3 rfl encI_len encI_plain rfl (o8.vw 1 rfl) (by decide) (by rw [List.length_singleton]; omega) fun row' h9 o9 => ?_
          refine o9.app 2 rfl encI_len encI_plain rfl (o9.vw 0 rfl) (by decide) (by rw [List.length_singleton]; omega) fun out' h10 o10 => hJ (out', (row', ())) _ ?_
          rw [e1, e2] at o10
          exact o10.sel [2, 3, 4, 5] (by decide)
      · refine o6.build (enc := encI) (n := 1) [(a : Int)] rfl (sizesOk_of rfl) rfl fun wa h7 o7 => ?_
        refine o7.build (enc := encI) (n := 1) [(v : Int)] rfl (sizesOk_of rfl) rfl fun wv h8 o8 => ?_
        refine o8.app 3 rfl encI_len encI_plain rfl (o8.vw 0 rfl) (by decide) (by rw [List.length_singleton]; omega) fun row' h9 o9 => ?_
        refine o9.app 2 rfl encI_len encI_plain rfl (o9.vw 1 rfl) (by decide) (by rw [List.length_singleton]; omega) fun out' h10 o10 => hJ (out', (row', ())) _ ?_
        rw [e1, e2] at o10
        exact o10.sel [2, 3, 4, 5] (by decide)
    · rintro ⟨out', row', ⟨⟩⟩ h7 o7
      dsimp only at o7 ⊢
      unfold sh_walk_Bare_C2 sh_walk_Bare_k3
      rw [pBin_add, wI i (by omega)]
      refine hZ (out', row', I (i + 1 : Nat), ()) h7 hlt ⟨rfl, _, fun u hu => ?_, o7⟩
      unfold fset at hu
      rw [htk]
      by_cases e : (u : Int) = v
      · have : u = v := by omega
        subst this; simp
      · rw [if_neg e] at hu
        exact List.mem_append_left _ (hf u hu)
  · have : i = arcs.length := by omega
    subst this
    rw [List.take_length] at o
    exact hK out h' (o.sel [0] (by decide))

end
end Go.Proofs.YtjamcgoebnafkaaGreatDoor

namespace Go.Proofs.YtjamcgoebnafkaaGreatDoor
open Go Go.Mh
set_option linter.unusedVariables false

section
variable {h0 h : Heap} {L : List Res} {K : Value → Heap → Prop} {vb : Value} {bs : List Int}

theorem pe11 {c d : Bool} {K : Value → Prop} (e : c = d) (hk : K (.bool false)) : pEq true .bool (.bool c) (.bool d) K := by subst e; simpa [pEq] using hk

theorem pExt4_2 {a b c d : Value} {K : Value → Prop} (hk : K c) : pExt (.tuple #[a, b, c, d]) 2 K := hk
theorem pExt4_3 {a b c d : Value} {K : Value → Prop} (hk : K d) : pExt (.tuple #[a, b, c, d]) 3 K := hk
theorem tsum_rev {l : List A} {r : List Nat} : tsum l r.reverse = tsum l r := by
  induction r with
  | nil => rfl
  | cons i r ih => rw [List.reverse_cons, tsum_append, tsum_cons, tsum_cons, ih, tsum_nil]; omega

theorem bareSame {l : List A} {v : Nat} : (nds l v []).Nodup := by simp [vis]

theorem fwdNodup {l : List A} {n t v : Nat} {T : Tr} {r : List Nat} (F : FolTree l A.t A.f n t T v r) : (nds l v r).Nodup := F.nodup
theorem bwdNodup {l : List A} {n s v : Nat} {T : Tr} {r : List Nat} (F : FolTree l A.f A.t n s T v r) : (nds l s r.reverse).Nodup := by
  rw [F.rt.nds]; exact List.pairwise_reverse.2 (List.Pairwise.imp (fun h e => h e.symm) F.nodup)

theorem pathLeast_ok {e0 e1 : Int} (H : Vw encU8 1 h vb bs) (r0 : 0 ≤ e0 ∧ e0 ≤ 255) (r1 : 0 ≤ e1 ∧ e1 ≤ 255) (hK : ∀ h', Ext h h' → K (.bool true) h') :
    CallsH Tryz.prog F_milestonelaw11_PathLeast [.agg #[vb, .int .u8 e0, .int .u8 e1]].toArray h K := by
  refine lk_milestonelaw11_PathLeast _ ?_
  unfold sh_milestonelaw11_PathLeast
  have hvb := H.one
  refine (Own.start h).box fun d1 h1 o1 => ?_
  have ec : (Value.cells (.agg #[vb, .int .u8 e0, .int .u8 e1])).toList = [vb, .int .u8 e0, .int .u8 e1] := rfl
  rw [ec] at o1
  refine works11_ok fun h2 x2 => ?_
  rw [pUn_not, Bool.not_true, ifV_false]
  have o2 := o1.more x2
  refine o2.ldN (cs' := [vb, .int .u8 e0, .int .u8 e1]) 0 rfl rfl rfl (graph11_ok (H.more o2.ext) r0 r1 fun g vx vy va r N s t h3 hg hN hs ht o3 => ?_)
  simp only [pExt0, pExt1]
  refine pExt4_2 (pExt4_3 ?_)
  have hR := hg.toRight
  have hmost := hR.most
  have hpos := hR.pos
  have hmany := hR.many
  replace o3 := o2.frame o3
  refine o3.box fun g3 h4 o4 => o4.st (cs' := [I g.n, vx, vy, va]) 0 rfl rfl rfl rfl rfl ?_ fun h5 o5 => ?_
  · intro u hu
    simp at hu
    rcases hu with rfl | rfl | rfl | rfl
    · rfl
    · exact (o3.vw 1 rfl).plain
    · exact (o3.vw 2 rfl).plain
    · exact (o3.vw 3 rfl).plain
  simp only [pEq_ptr_nil, Option.isNone_some, ifV_false]
  have ef : g.fromI (s : Int) = g.from s := by rw [G.fromI, if_pos (by omega)]; rfl
  have et : g.toI (t : Int) = g.to t := by rw [G.toI, if_pos (by omega)]; rfl
  have TF := from_tree hR hs
  have TT := to_tree hR ht
  refine from_ok hR (hN _ (o5.get 1 rfl)) fun sd sa so h6 o6 => ?_
  rw [ef] at o6
  replace o6 := o5.frame o6
  refine to_ok hR (hN _ (o6.get 4 rfl)) fun td ta to h7 o7 => ?_
  rw [et] at o7
  replace o7 := o6.frame o7
  have pso : Mh.plainCell so = true := (o7.vw 5 rfl).plain
  have pto : Mh.plainCell to = true := (o7.vw 2 rfl).plain
  refine o7.box fun from7 h8 o8 => o8.box fun to8 h9 o9 => o9.st (cs' := [sd, sa, so]) 1 rfl rfl rfl rfl rfl ?_ fun h10 o10 => o10.st (cs' := [td, ta, to]) 0 rfl rfl rfl rfl rfl ?_ fun h11 o11 => ?_
  · intro u hu
    simp at hu
    rcases hu with rfl | rfl | rfl
    · exact (o7.vw 3 rfl).plain
    · exact (o7.vw 4 rfl).plain
    · exact pso
  · intro u hu
    simp at hu
    rcases hu with rfl | rfl | rfl
    · exact (o7.vw 0 rfl).plain
    · exact (o7.vw 1 rfl).plain
    · exact pto
  have o12 : Own h h11 [cellR to8 [td, ta, to] T_flood_Tree, cellR from7 [sd, sa, so] T_flood_Tree, xR td (g.to t).dist, slR encI 1 T_int ta (g.to t).arc, xR sd (g.from s).dist, slR encI 1 T_int sa (g.from s).arc, cellR g3 [I g.n, vx, vy, va] T_api_Raw, N, xR vx g.X, xR vy g.Y, aR va g.arcs] := o11.sel [0, 1, 2, 3, 5, 6, 8, 9, 10, 11, 12] (by decide)
  clear o11 o10 o9 o8 o7 o6 o5 o4 o3
  refine o12.ldN (cs' := [I g.n, vx, vy, va]) 6 rfl rfl rfl (o12.ldN (cs' := [I g.n, vx, vy, va]) 6 rfl rfl rfl ?_)
  refine bell_ok o12 hR (rawOf11 o12 8 9 10 rfl rfl rfl) hs fun d1' vd1 h12 hl1 o13 => ⟨o13.ldN (cs' := [I g.n, vx, vy, va]) 7 rfl rfl rfl rfl, ?_⟩
  have e1 : d1' = (g.from s).dist := hl1.uniq TF.ls
  subst e1
  refine rturned_ok o13 hR (rawOf11 o13 9 10 11 rfl rfl rfl) fun vx' vy' va' h13 o14 => ?_
  refine bell_ok (g := g.turned) o14 hR.turned ⟨vx', vy', va', rfl, o14.vw 0 rfl, o14.vw 1 rfl, o14.vw 2 rfl⟩ ht fun d2' vd2 h14 hl2 o15 => ?_
  have e2 : d2' = (g.to t).dist := hl2.swap.uniq TT.ls
  subst e2
  have o16 : Own h h14 [xR vd2 (g.to t).dist, xR vd1 (g.from s).dist, cellR to8 [td, ta, to] T_flood_Tree, cellR from7 [sd, sa, so] T_flood_Tree, xR td (g.to t).dist, slR encI 1 T_int ta (g.to t).arc, xR sd (g.from s).dist, slR encI 1 T_int sa (g.from s).arc, cellR g3 [I g.n, vx, vy, va] T_api_Raw, N] := o15.sel [0, 4, 5, 6, 7, 8, 9, 10, 11, 12] (by decide)
  clear o15 o14 o13 o12
  have la1 : (g.from s).arc.length < 2 ^ 62 := by rw [TF.al]; omega
  have la2 : (g.to t).arc.length < 2 ^ 62 := by rw [TT.al]; omega
  have ld1 := TF.ls.len
  have ld2 := TT.ls.len
  refine LoopH_count g.n (fun i x h' => x.1 = I i ∧ ∃ h9, Own h h' [xR vd2 (g.to t).dist, xR vd1 (g.from s).dist, cellR to8 [td, ta, to] T_flood_Tree, cellR from7 [sd, sa, so] T_flood_Tree, xR td (g.to t).dist, slR encI 1 T_int ta (g.to t).arc, xR sd (g.from s).dist, slR encI 1 T_int sa (g.from s).arc, cellR g3 [I g.n, vx, vy, va] T_api_Raw, N] ∧ h9 = h') ⟨rfl, _, o16, rfl⟩ ?_
  clear o16
  rintro v ⟨x, ⟨⟩⟩ h2 Z hi ⟨hx, _, o, _⟩ hZ
  dsimp only at hx hZ ⊢
  subst hx
  unfold sh_milestonelaw11_PathLeast_L1
  simp only [pField_ptr]
  refine o.load 8 rfl rfl ?_
  simp only [pBin_lss (b := (g.n : Int)), ifV_dec]
  refine ⟨fun hlt => ?_, fun hge => hK _ o.ext⟩
  have hlt : v < g.n := by omega
  obtain ⟨f1, f2⟩ := folI_tree TF hlt
  obtain ⟨b1, b2⟩ := folI_tree TT hlt
  -- what is known of both
  have goal : ∀ (ca cb : Bool) (la lb : List Nat) (wa wb : Value) (h3 : Heap), Own h2 h3 [quR encI 1 T_int wb (nI lb), quR encI 1 T_int wa (nI la)] → ca = decide (dAt (g.from s).dist v < far) → cb = decide (dAt (g.to t).dist v < far) →
      (Trail g.arcs s la (if ca then v else s) ∧ (ca = true → dAt (g.from s).dist v = tsum g.arcs la) ∧ (nds g.arcs s la).Nodup ∧ la.length < 16777216) → (Trail g.arcs v lb (if cb then t else v) ∧ (cb = true → dAt (g.to t).dist v = tsum g.arcs lb) ∧ (nds g.arcs v lb).Nodup ∧ lb.length < 16777216) →
      callS Tryz.prog F_walk_Check [ptr r, I s, I v, wa] h3 fun t73 h_18 => pExt t73 0 fun t74 => pExt t73 1 fun t75 => callS Tryz.prog F_walk_Check [ptr r, I v, I t, wb] h_18 fun t81 h_19 => pExt t81 0 fun t82 => pExt t81 1 fun t83 =>
        pIdx 1 vd1 (I v) fun t87 => pLoad h_19 t87 fun t88 => pBin .lss t88 (.int .i64 72057594037927936) fun t89 => pEq true .bool (.bool ca) t89 fun t90 => ifV t90 (sh_milestonelaw11_PathLeast_k2 Tryz.prog K h_19)
        (pIdx 1 vd2 (I v) fun t95 => pLoad h_19 t95 fun t96 => pBin .lss t96 (.int .i64 72057594037927936) fun t97 => pEq true .bool (.bool cb) t97 fun t98 => ifV t98 (sh_milestonelaw11_PathLeast_k2 Tryz.prog K h_19)
        (ifV (.bool ca) (pUn .not t75 fun t104 => ifV t104 (sh_milestonelaw11_PathLeast_k2 Tryz.prog K h_19) (pIdx 1 vd1 (I v) fun t109 => pLoad h_19 t109 fun t110 => pBin .neq t74 t110 fun t111 => ifV t111 (sh_milestonelaw11_PathLeast_k2 Tryz.prog K h_19)
          (ifV (.bool cb) (pUn .not t83 fun t119 => ifV t119 (sh_milestonelaw11_PathLeast_k2 Tryz.prog K h_19) (pIdx 1 vd2 (I v) fun t124 => pLoad h_19 t124 fun t125 => pBin .neq t82 t125 fun t126 =>
            sh_milestonelaw11_PathLeast_k3 Tryz.prog K (ptr r) (I s) wa (I v) wb (.bool ca) (.bool cb) (fun a0 hz => Z (a0, ()) hz) t126 h_19))
            (sh_milestonelaw11_PathLeast_k4 Tryz.prog (ptr r) (I s) wa (I v) wb (.bool ca) K (.bool cb) (fun a0 hz => Z (a0, ()) hz) h_19))))
          (ifV (.bool cb) (pUn .not t83 fun t119_1 => ifV t119_1 (sh_milestonelaw11_PathLeast_k2 Tryz.prog K h_19) (pIdx 1 vd2 (I v) fun t124_1 => pLoad h_19 t124_1 fun t125_1 => pBin .neq t82 t125_1 fun t126_1 =>
            sh_milestonelaw11_PathLeast_k3 Tryz.prog K (ptr r) (I s) wa (I v) wb (.bool ca) (.bool cb) (fun a0 hz => Z (a0, ()) hz) t126_1 h_19))
            (sh_milestonelaw11_PathLeast_k4 Tryz.prog (ptr r) (I s) wa (I v) wb (.bool ca) K (.bool cb) (fun a0 hz => Z (a0, ()) hz) h_19)))) := by
    intro ca cb la lb wa wb h3 ow hca hcb ⟨tra, sua, nda, lla⟩ ⟨trb, sub', ndb, llb⟩
    have oo := o.more ow.ext
    replace ow := (o.frame ow).sel [0, 1] (by decide)
    -- what is left at the end
    have k4 : ∀ h4, Ext h3 h4 → sh_milestonelaw11_PathLeast_k4 Tryz.prog (ptr r) (I s) wa (I v) wb (.bool ca) K (.bool cb) (fun a0 hz => Z (a0, ()) hz) h4 := by
      intro h4 x4
      unfold sh_milestonelaw11_PathLeast_k4
      have o4 := oo.more x4
      have w4 := ow.more x4
      refine wbare_ok hR (hN _ (o4.get 9 rfl)) (w4.qvw 1 rfl) (by omega) hs tra nda fun w1 h5 o5 => ?_
      simp only [pExt0, pExt1]
      have o5' := o4.more o5.ext
      have w5 := w4.more o5.ext
      refine wbare_ok hR (hN _ (o5'.get 9 rfl)) (w5.qvw 0 rfl) (by omega) hlt trb ndb fun w2 h6 o6 => ?_
      simp only [pExt0, pExt1]
      have w6 := w5.more o6.ext
      have v1 := (o5.vw 0 rfl).more o6.ext
      have next : sh_milestonelaw11_PathLeast_k7 Tryz.prog (I v) (fun a0 hz => Z (a0, ()) hz) h6 := by
        unfold sh_milestonelaw11_PathLeast_k7
        rw [pBin_add, wI v (by omega)]
        exact hZ (I (v + 1 : Nat), ()) _ hlt ⟨rfl, _, o5'.more o6.ext, rfl⟩
      have bsame : ifV (.bool cb) (callS Tryz.prog F_milestoneref07_Ints [w2, wb] h6 fun t156 h_27 => pUn .not t156 fun t157 => sh_milestonelaw11_PathLeast_k6 Tryz.prog K (I v) (fun a0 hz => Z (a0, ()) hz) t157 h_27) (sh_milestonelaw11_PathLeast_k7 Tryz.prog (I v) (fun a0 hz => Z (a0, ()) hz) h6) := by
        cases cb with
        | false => rw [ifV_false]; exact next
        | true =>
          rw [ifV_true]
          refine rints_ok (e := fun x => x) (fun _ => rfl) (o6.vw 0 rfl) (w6.qvw 0 rfl) (by rw [nI_len]; omega) ?_
          rw [pUn_not, Bool.not_true]
          unfold sh_milestonelaw11_PathLeast_k6
          rw [ifV_false]
          exact next
      cases ca with
      | false => rw [ifV_false]; exact bsame
      | true =>
        rw [ifV_true]
        refine rints_ok (e := fun x => x) (fun _ => rfl) v1 (w6.qvw 1 rfl) (by rw [nI_len]; omega) ?_
        rw [pUn_not, Bool.not_true, ifV_false]
        exact bsame
    have ck1 : ∀ {K' : Value → Heap → Prop} {h3' : Heap}, Ext h3 h3' → (∀ (c : Bool) (w : Int) h4, Ext h3' h4 → (ca = true → c = true ∧ w = dAt (g.from s).dist v) → K' (.tuple #[I w, .bool c]) h4) → callS Tryz.prog F_walk_Check [ptr r, I s, I v, wa] h3' K' := by
      intro K' h3' x3 hk
      have key : ca = true → wchk g.arcs s 0 (nI la) = some ((v : Int), dAt (g.from s).dist v) := fun h => by
        rw [h, if_pos rfl] at tra
        have := wchk_trail (w := 0) tra
        rw [Int.zero_add, ← sua h] at this
        exact this
      refine wcheck_ok hR (hN _ ((oo.more x3).get 9 rfl)) ((ow.more x3).qvw 1 rfl) (by rw [nI_len]; omega) (fun w h4 _ _ hw x4 => hk true w h4 x4 fun h => ⟨rfl, ?_⟩) fun h4 hno x4 => hk false 0 h4 x4 fun h => absurd ⟨by omega, by omega, _, key h⟩ hno
      rw [key h] at hw
      exact (congrArg Prod.snd (Option.some.inj hw)).symm
    have ck2 : ∀ {K' : Value → Heap → Prop} {h3' : Heap}, Ext h3 h3' → (∀ (c : Bool) (w : Int) h4, Ext h3' h4 → (cb = true → c = true ∧ w = dAt (g.to t).dist v) → K' (.tuple #[I w, .bool c]) h4) → callS Tryz.prog F_walk_Check [ptr r, I v, I t, wb] h3' K' := by
      intro K' h3' x3 hk
      have key : cb = true → wchk g.arcs v 0 (nI lb) = some ((t : Int), dAt (g.to t).dist v) := fun h => by
        rw [h, if_pos rfl] at trb
        have := wchk_trail (w := 0) trb
        rw [Int.zero_add, ← sub' h] at this
        exact this
      refine wcheck_ok hR (hN _ ((oo.more x3).get 9 rfl)) ((ow.more x3).qvw 0 rfl) (by rw [nI_len]; omega) (fun w h4 _ _ hw x4 => hk true w h4 x4 fun h => ⟨rfl, ?_⟩) fun h4 hno x4 => hk false 0 h4 x4 fun h => absurd ⟨by omega, by omega, _, key h⟩ hno
      rw [key h] at hw
      exact (congrArg Prod.snd (Option.some.inj hw)).symm
    refine ck1 (.refl _ _) fun c1 w1 h4 x4 q1 => ?_
    simp only [pExt0, pExt1]
    refine ck2 x4 fun c2 w2 h5 x5 q2 => ?_
    simp only [pExt0, pExt1]
    have x35 := x4.trans x5 fun _ hf _ => hf
    have o5 := oo.more x35
    have rd1 : ∀ {K' : Value → Prop}, K' (I (dAt (g.from s).dist v)) → pIdx 1 vd1 (I v) fun t87 => pLoad h5 t87 K' := fun hk => (o5.vw 1 rfl).atI (by omega) (by rw [dAt_get (by omega)]; exact hk)
    have rd2 : ∀ {K' : Value → Prop}, K' (I (dAt (g.to t).dist v)) → pIdx 1 vd2 (I v) fun t87 => pLoad h5 t87 K' := fun hk => (o5.vw 0 rfl).atI (by omega) (by rw [dAt_get (by omega)]; exact hk)
    refine rd1 ?_
    rw [pBin_lss]
    refine pe11 hca ?_
    rw [ifV_false]
    refine rd2 ?_
    rw [pBin_lss]
    refine pe11 hcb ?_
    rw [ifV_false]
    have second : ifV (.bool cb) (pUn .not (.bool c2) fun t119 => ifV t119 (sh_milestonelaw11_PathLeast_k2 Tryz.prog K h5) (pIdx 1 vd2 (I v) fun t124 => pLoad h5 t124 fun t125 => pBin .neq (I w2) t125 fun t126 =>
            sh_milestonelaw11_PathLeast_k3 Tryz.prog K (ptr r) (I s) wa (I v) wb (.bool ca) (.bool cb) (fun a0 hz => Z (a0, ()) hz) t126 h5))
            (sh_milestonelaw11_PathLeast_k4 Tryz.prog (ptr r) (I s) wa (I v) wb (.bool ca) K (.bool cb) (fun a0 hz => Z (a0, ()) hz) h5) := by
      cases hcbv : cb with
      | false => rw [ifV_false]; rw [← hcbv]; exact k4 h5 x35
      | true =>
        obtain ⟨rfl, rfl⟩ := q2 hcbv
        rw [ifV_true, pUn_not, Bool.not_true, ifV_false]
        refine rd2 ?_
        rw [pBin_neq, bne_self_eq_false]
        unfold sh_milestonelaw11_PathLeast_k3
        rw [ifV_false, ← hcbv]
        exact k4 h5 x35
    cases hcav : ca with
    | false => rw [ifV_false]; rw [← hcav]; exact second
    | true =>
      obtain ⟨rfl, rfl⟩ := q1 hcav
      rw [ifV_true, pUn_not, Bool.not_true, ifV_false]
      refine rd1 ?_
      rw [pBin_neq, bne_self_eq_false, ifV_false, ← hcav]
      exact second
  have A1 : ∀ {r}, FolTree g.arcs A.f A.t g.n s (g.from s) v r → r.length < 16777216 → Trail g.arcs s r.reverse (if true then v else s) ∧ (true = true → dAt (g.from s).dist v = tsum g.arcs r.reverse) ∧ (nds g.arcs s r.reverse).Nodup ∧ r.reverse.length < 16777216 := fun F hl =>
    ⟨F.rt.bwd, fun _ => by rw [F.sum, tsum_rev], bwdNodup F, by rw [List.length_reverse]; exact hl⟩
  have A0 : Trail g.arcs s [] (if false then v else s) ∧ (false = true → dAt (g.from s).dist v = tsum g.arcs []) ∧ (nds g.arcs s []).Nodup ∧ ([] : List Nat).length < 16777216 := ⟨rfl, fun h => by (cases h), bareSame, by decide⟩
  have B1 : ∀ {r}, FolTree g.arcs A.t A.f g.n t (g.to t) v r → r.length < 16777216 → Trail g.arcs v r (if true then t else v) ∧ (true = true → dAt (g.to t).dist v = tsum g.arcs r) ∧ (nds g.arcs v r).Nodup ∧ r.length < 16777216 := fun F hl =>
    ⟨F.rt.fwd, fun _ => F.sum, fwdNodup F, hl⟩
  have B0 : Trail g.arcs v [] (if false then t else v) ∧ (false = true → dAt (g.to t).dist v = tsum g.arcs []) ∧ (nds g.arcs v []).Nodup ∧ ([] : List Nat).length < 16777216 := ⟨rfl, fun h => by (cases h), bareSame, by decide⟩
  have dc : ∀ {d : Int} {l : Option (List Nat)} {P : List Nat → Prop}, (d < far → ∃ r, l = some r ∧ P r) → (¬ d < far → l = none) → (∀ x, l = some x → decide (d < far) = true ∧ P x) ∧ (l = none → decide (d < far) = false) := by
    intro d l P h1 h2
    refine ⟨fun x hx => ?_, fun hn => ?_⟩
    · by_cases h : d < far
      · obtain ⟨r, hr, hp⟩ := h1 h
        rw [hr] at hx
        obtain rfl := Option.some.inj hx
        exact ⟨decide_eq_true h, hp⟩
      · rw [h2 h] at hx; cases hx
    · refine decide_eq_false fun h => ?_
      obtain ⟨r, hr, _⟩ := h1 h
      rw [hr] at hn; cases hn
  have D1 := dc f1 f2
  have D2 := dc b1 b2
  refine o.ldN (cs' := [sd, sa, so]) 3 rfl rfl rfl (pahead_ok hR (hN _ (o.get 9 rfl)) (o.vw 6 rfl) (o.vw 7 rfl) pso la1 (fun la wa h3 hla hlen oa => ?_) fun h3 hno xa => ?_)
  · obtain ⟨ca, FA⟩ := D1.1 la hla
    simp only [pExt0, pExt1]
    have oo := o.more oa.ext
    refine oo.ldN (cs' := [td, ta, to]) 2 rfl rfl rfl (pbehind_ok hR (hN _ (oo.get 9 rfl)) (oo.vw 4 rfl) (oo.vw 5 rfl) pto la2 (fun lb wb h4 hlb hlenb ob => ?_) fun h4 hno xb => ?_)
    · obtain ⟨cb, FB⟩ := D2.1 lb hlb
      simp only [pExt0, pExt1]
      exact goal true true _ _ _ _ _ (oa.frame ob) ca.symm cb.symm (A1 FA hlen) (B1 FB hlenb)
    · simp only [pExt0, pExt1]
      exact goal true false _ [] _ _ _ (((oa.more xb).nilS (enc := encI) (n := 1) (T := T_int)).que 0 rfl) ca.symm (D2.2 hno).symm (A1 FA hlen) B0
  · simp only [pExt0, pExt1]
    have oo := o.more xa
    have oa := (((Own.start h2).more xa).nilS (enc := encI) (n := 1) (T := T_int)).que 0 rfl
    refine oo.ldN (cs' := [td, ta, to]) 2 rfl rfl rfl (pbehind_ok hR (hN _ (oo.get 9 rfl)) (oo.vw 4 rfl) (oo.vw 5 rfl) pto la2 (fun lb wb h4 hlb hlenb ob => ?_) fun h4 hno' xb => ?_)
    · obtain ⟨cb, FB⟩ := D2.1 lb hlb
      simp only [pExt0, pExt1]
      exact goal false true [] _ _ _ _ (oa.frame ob) (D1.2 hno).symm cb.symm A0 (B1 FB hlenb)
    · simp only [pExt0, pExt1]
      exact goal false false [] [] _ _ _ (((oa.more xb).nilS (enc := encI) (n := 1) (T := T_int)).que 0 rfl) (D1.2 hno).symm (D2.2 hno').symm A0 B0

end
end Go.Proofs.YtjamcgoebnafkaaGreatDoor

namespace Go.Proofs.YtjamcgoebnafkaaGreatDoor
open Go Go.Mh
set_option linter.unusedVariables false

section
variable {h0 h : Heap} {L : List Res} {K : Value → Heap → Prop} {g : G} {r : Nat} {N : Res} {v sd sa so sd' sa' so' : Value} {d ar d' ar' : List Int}

theorem tree2b {w w2 : Value} {K : Value → Prop} {l l2 : List Int} (Hw : Vw encI 1 h w l) (Hw2 : Vw encI 1 h w2 l2) (hK : K (.agg #[w, w2, .slice none 0 0])) : pBuild [(.slice none 0 0), (.slice none 0 0), (.slice none 0 0)] [(0, 1, w), (1, 1, w2)] K :=
  pBuild_ones (cs' := [w, w2, .slice none 0 0]) (fun p hp => by
    simp at hp
    rcases hp with rfl | rfl
    · exact Hw.one
    · exact Hw2.one) rfl rfl hK

theorem u16_wrap (x : Int) : 0 ≤ IntKind.u16.wrap x ∧ IntKind.u16.wrap x < 65536 := by
  simp only [IntKind.wrap, IntKind.signed, IntKind.bits]
  simp
  omega

theorem tailRev {xa xb xc xd : Int} {t4 x3 out : Nat} {w w2 : Value} {dl al : List Int} {T1 : TypeId} (ra : -32768 ≤ xa ∧ xa ≤ 32767) (rb : -32768 ≤ xb ∧ xb ≤ 32767) (rc : -32768 ≤ xc ∧ xc ≤ 32767) (rd : -32768 ≤ xd ∧ xd ≤ 32767)
    (hdl : dl.length < 16777217) (hal : al.length < 16777217) (o : Own h0 h [cellR out [w, w2, .slice none 0 0] T_flood_Tree, slR encI 1 T_int64 w dl, slR encI 1 T_int w2 al, cellR t4 [.slice none 0 0, .slice none 0 0, .slice none 0 0] T_flood_Tree, cellR x3 [.int .i16 xa, .int .i16 xb, .int .i16 xc, .int .i16 xd] T1])
    (hK : ∀ w w2 (dl al : List Int) h', dl.length < 16777217 → al.length < 16777217 → Own h0 h' [slR encI 1 T_int64 w dl, slR encI 1 T_int w2 al] → K (.agg #[w, w2, .slice none 0 0]) h') :
    sh_milestonelaw11_turned_C1 Tryz.prog (ptr x3) (ptr t4) K (ptr out) h := by
  have cells : ∀ {h : Heap} {w w2 : Value} {dl al : List Int}, Own h0 h [cellR out [w, w2, .slice none 0 0] T_flood_Tree, slR encI 1 T_int64 w dl, slR encI 1 T_int w2 al, cellR t4 [.slice none 0 0, .slice none 0 0, .slice none 0 0] T_flood_Tree, cellR x3 [.int .i16 xa, .int .i16 xb, .int .i16 xc, .int .i16 xd] T1] →
      ∀ u ∈ [w, w2, .slice none 0 0], Mh.plainCell u = true := by
    intro h w w2 dl al o u hu
    simp at hu
    rcases hu with rfl | rfl | rfl
    · exact (o.vw 1 rfl).plain
    · exact (o.vw 2 rfl).plain
    · rfl
  have k5 : ∀ {h : Heap} {w w2 : Value} {dl al : List Int}, dl.length < 16777217 → al.length < 16777217 → Own h0 h [cellR out [w, w2, .slice none 0 0] T_flood_Tree, slR encI 1 T_int64 w dl, slR encI 1 T_int w2 al, cellR t4 [.slice none 0 0, .slice none 0 0, .slice none 0 0] T_flood_Tree, cellR x3 [.int .i16 xa, .int .i16 xb, .int .i16 xc, .int .i16 xd] T1] →
      sh_milestonelaw11_turned_k5 Tryz.prog (ptr out) (ptr t4) K h := by
    intro h w w2 dl al h1 h2 o
    unfold sh_milestonelaw11_turned_k5
    refine o.ldN (cs' := [w, w2, .slice none 0 0]) 0 rfl rfl rfl (o.st (cs' := [w, w2, .slice none 0 0]) 3 rfl rfl rfl rfl rfl (cells o) fun h3 o3 => ?_)
    exact o3.ldN (cs' := [w, w2, .slice none 0 0]) 3 rfl rfl rfl (hK w w2 dl al h3 h1 h2 (o3.sel [1, 2] (by decide)))
  have half : ∀ {n : Nat}, (n : Int).tdiv 2 = ((n / 2 : Nat) : Int) := fun {n} => rfl
  have k4 : ∀ {h : Heap} {w w2 : Value} {dl al : List Int}, dl.length < 16777217 → al.length < 16777217 → Own h0 h [cellR out [w, w2, .slice none 0 0] T_flood_Tree, slR encI 1 T_int64 w dl, slR encI 1 T_int w2 al, cellR t4 [.slice none 0 0, .slice none 0 0, .slice none 0 0] T_flood_Tree, cellR x3 [.int .i16 xa, .int .i16 xb, .int .i16 xc, .int .i16 xd] T1] →
      sh_milestonelaw11_turned_k4 Tryz.prog (ptr x3) (ptr out) (ptr t4) K h := by
    intro h w w2 dl al h1 h2 o
    unfold sh_milestonelaw11_turned_k4
    refine ⟨by decide, by decide, o.load 4 rfl rfl ?_⟩
    rw [pBin_rem]
    refine ⟨by decide, ?_⟩
    rw [pBin_eql]
    cases hc : (xc.tmod 7 == 0) with
    | false => rw [ifV_false]; exact k5 h1 h2 o
    | true =>
      rw [ifV_true]
      simp only [pField_ptr]
      refine o.load 0 rfl rfl (o.load 0 rfl rfl ((o.vw 1 rfl).len ?_))
      rw [pBin_quo]
      refine ⟨by decide, ?_⟩
      rw [half, w64 (by omega) (by omega)]
      refine o.pre encI_len 1 rfl (Nat.div_le_self _ _) fun v' o2 => ?_
      refine o2.st1 0 (cs' := [v', w2, .slice none 0 0]) rfl rfl rfl (o2.vw 1 rfl).one (o2.vw 1 rfl).plain fun h3 o3 => ?_
      exact k5 (by rw [List.length_take]; omega) h2 o3
  have k3 : ∀ {h : Heap} {w w2 : Value} {dl al : List Int}, dl.length < 16777217 → al.length < 16777217 → Own h0 h [cellR out [w, w2, .slice none 0 0] T_flood_Tree, slR encI 1 T_int64 w dl, slR encI 1 T_int w2 al, cellR t4 [.slice none 0 0, .slice none 0 0, .slice none 0 0] T_flood_Tree, cellR x3 [.int .i16 xa, .int .i16 xb, .int .i16 xc, .int .i16 xd] T1] →
      sh_milestonelaw11_turned_k3 Tryz.prog (ptr x3) (ptr out) (ptr t4) K h := by
    intro h w w2 dl al h1 h2 o
    unfold sh_milestonelaw11_turned_k3
    refine ⟨by decide, by decide, o.load 4 rfl rfl ?_⟩
    rw [pBin_rem]
    refine ⟨by decide, ?_⟩
    rw [pBin_eql]
    cases hc : (xc.tmod 5 == 0) with
    | false => rw [ifV_false]; exact k4 h1 h2 o
    | true =>
      rw [ifV_true]
      simp only [pField_ptr]
      refine o.load 0 rfl rfl (o.load 0 rfl rfl ((o.vw 2 rfl).len ?_))
      rw [pBin_quo]
      refine ⟨by decide, ?_⟩
      rw [half, w64 (by omega) (by omega)]
      refine o.pre encI_len 2 rfl (Nat.div_le_self _ _) fun v' o2 => ?_
      refine o2.st1 0 (cs' := [w, v', .slice none 0 0]) rfl rfl rfl (o2.vw 2 rfl).one (o2.vw 2 rfl).plain fun h3 o3 => ?_
      exact k4 h1 (by rw [List.length_take]; omega) o3
  have k2 : ∀ {h : Heap} {w w2 : Value} {dl al : List Int}, dl.length < 16777217 → al.length < 16777217 → Own h0 h [cellR out [w, w2, .slice none 0 0] T_flood_Tree, slR encI 1 T_int64 w dl, slR encI 1 T_int w2 al, cellR t4 [.slice none 0 0, .slice none 0 0, .slice none 0 0] T_flood_Tree, cellR x3 [.int .i16 xa, .int .i16 xb, .int .i16 xc, .int .i16 xd] T1] →
      sh_milestonelaw11_turned_k2 Tryz.prog (ptr out) (ptr x3) (ptr t4) K h := by
    intro h w w2 dl al h1 h2 o
    unfold sh_milestonelaw11_turned_k2
    simp only [pField_ptr]
    refine o.load 0 rfl rfl ((o.vw 1 rfl).len ?_)
    simp only [pBin_gtr, ifV_dec]
    refine ⟨fun hpos => ?_, fun _ => k3 h1 h2 o⟩
    refine ⟨by decide, by decide, o.load 4 rfl rfl ?_⟩
    rw [pBin_rem]
    refine ⟨by decide, ?_⟩
    rw [pBin_eql]
    cases hc : (xc.tmod 3 == 0) with
    | false => rw [ifV_false]; exact k3 h1 h2 o
    | true =>
      rw [ifV_true]
      refine o.load 0 rfl rfl ⟨by decide, by decide, o.load 4 rfl rfl ?_⟩
      simp only [pConv_int]
      have hu := u16_wrap xa
      rw [w64 (by omega) (by omega)]
      obtain ⟨q, hq⟩ := Int.eq_ofNat_of_zero_le hu.1
      refine o.load 0 rfl rfl ((o.vw 1 rfl).len ?_)
      rw [pBin_rem, hq]
      refine ⟨by omega, ⟨by decide, by decide, o.load 4 rfl rfl ?_⟩⟩
      simp only [pConv_int]
      rw [w64 (by omega) (by omega), show (q : Int).tmod dl.length = ((q % dl.length : Nat) : Int) from rfl]
      refine o.setI 1 rfl (Nat.mod_lt _ (by omega)) fun h3 o3 => ?_
      exact k3 (by rw [List.length_set]; exact h1) h2 o3
  unfold sh_milestonelaw11_turned_C1
  simp only [pField_ptr]
  refine o.load 0 rfl rfl ((o.vw 2 rfl).len ?_)
  simp only [pBin_gtr, ifV_dec]
  refine ⟨fun hpos => ?_, fun _ => k2 hdl hal o⟩
  refine o.load 0 rfl rfl ⟨by decide, by decide, o.load 4 rfl rfl ?_⟩
  simp only [pConv_int]
  have hu := u16_wrap xa
  rw [w64 (by omega) (by omega)]
  obtain ⟨q, hq⟩ := Int.eq_ofNat_of_zero_le hu.1
  refine o.load 0 rfl rfl ((o.vw 2 rfl).len ?_)
  rw [pBin_rem, hq]
  refine ⟨by omega, ⟨by decide, by decide, o.load 4 rfl rfl ?_⟩⟩
  rw [pBin_rem]
  refine ⟨by decide, ?_⟩
  simp only [pConv_int]
  have hm : -40 < xb.tmod 40 ∧ xb.tmod 40 < 40 := by
    have := Int.tmod_lt_of_pos xb (show (0 : Int) < 40 by decide)
    have := Int.lt_tmod_of_pos xb (show (0 : Int) < 40 by decide)
    omega
  rw [w64 (by omega) (by omega), show (q : Int).tmod al.length = ((q % al.length : Nat) : Int) from rfl]
  refine o.setI 2 rfl (Nat.mod_lt _ (by omega)) fun h3 o3 => ?_
  exact k2 hdl (by rw [List.length_set]; exact hal) o3

set_option maxHeartbeats 2000000 in
/-- A tree in which some things are others. -/
theorem turned11_ok {xa xb xc xd : Int} (ra : -32768 ≤ xa ∧ xa ≤ 32767) (rb : -32768 ≤ xb ∧ xb ≤ 32767) (rc : -32768 ≤ xc ∧ xc ≤ 32767) (rd : -32768 ≤ xd ∧ xd ≤ 32767)
    (Hd : Vw encI 1 h sd d) (Ha : Vw encI 1 h sa ar) (hdl : d.length < 16777217) (hal : ar.length < 16777217)
    (hK : ∀ w w2 (dl al : List Int) h', dl.length < 16777217 → al.length < 16777217 → Own h h' [slR encI 1 T_int64 w dl, slR encI 1 T_int w2 al] → K (.agg #[w, w2, .slice none 0 0]) h') :
    callS Tryz.prog F_milestonelaw11_turned [.agg #[sd, sa, so], .agg #[.int .i16 xa, .int .i16 xb, .int .i16 xc, .int .i16 xd]] h K := by
  refine callS_of (lk_milestonelaw11_turned _ _ ?_)
  unfold sh_milestonelaw11_turned
  refine (Own.start h).box fun t2 h1 o1 => o1.box fun x3 h2 o2 => o2.box fun t4 h3 o3 => ?_
  have o : Own h h3 [cellR t4 [.slice none 0 0, .slice none 0 0, .slice none 0 0] T_flood_Tree, cellR x3 [.int .i16 xa, .int .i16 xb, .int .i16 xc, .int .i16 xd] T_4_int16, cellR t2 [sd, sa, so] T_flood_Tree] := o3
  clear o3 o2 o1
  refine cutP_of (fun y h' => ∃ out w w2, y.1 = ptr out ∧ Own h h' [cellR out [w, w2, .slice none 0 0] T_flood_Tree, slR encI 1 T_int64 w d, slR encI 1 T_int w2 ar, cellR t4 [.slice none 0 0, .slice none 0 0, .slice none 0 0] T_flood_Tree, cellR x3 [.int .i16 xa, .int .i16 xb, .int .i16 xc, .int .i16 xd] T_4_int16]) (fun J hJ => ?_) ?_
  · simp only [pField_ptr]
    refine o.load 2 rfl rfl (o.load 2 rfl rfl ?_)
    have fin : ∀ {hh : Heap} {out : Nat} {w w2 : Value} {cs : List Value}, Own h hh [cellR out [.slice none 0 0, .slice none 0 0, .slice none 0 0] T_flood_Tree, slR encI 1 T_int64 w d, slR encI 1 T_int w2 ar, cellR t4 [.slice none 0 0, .slice none 0 0, .slice none 0 0] T_flood_Tree, cellR x3 [.int .i16 xa, .int .i16 xb, .int .i16 xc, .int .i16 xd] T_4_int16, cellR t2 [sd, sa, so] T_flood_Tree] →
        pStore 3 (ptr out) (.agg #[w, w2, .slice none 0 0]) hh fun u h' => J (ptr out, ()) h' := by
      intro hh out w w2 cs o
      refine o.st (cs' := [w, w2, .slice none 0 0]) 0 rfl rfl rfl rfl rfl ?_ fun h9 o9 => hJ _ _ ⟨out, w, w2, rfl, o9.sel [0, 1, 2, 3, 4] (by decide)⟩
      intro u hu
      simp at hu
      rcases hu with rfl | rfl | rfl
      · exact (o.vw 1 rfl).plain
      · exact (o.vw 2 rfl).plain
      · rfl
    have ld : ∀ {hh : Heap} {L' : List Res}, Own h hh (L' ++ [cellR t4 [.slice none 0 0, .slice none 0 0, .slice none 0 0] T_flood_Tree, cellR x3 [.int .i16 xa, .int .i16 xb, .int .i16 xc, .int .i16 xd] T_4_int16, cellR t2 [sd, sa, so] T_flood_Tree]) → pLoad hh (.pointer (some ⟨t2, 0 + 1, none⟩)) fun t12_1 => t12_1 = sa := fun {hh L'} o =>
      o.load (L'.length + 2) (b := t2) (cs := [sd, sa, so]) (T := T_flood_Tree) (off := 0 + 1) (by rw [List.getElem?_append_right (by omega)]; simp) rfl rfl
    repeat' (first
      | with_reducible apply And.intro
      | exact o.load 3 rfl rfl rfl
      | exact o.load 4 rfl rfl rfl
      | exact o.load 5 rfl rfl rfl
      | refine o.box fun out hh o => ?_
      | refine o.build (enc := encI) (n := 1) ([] : List Int) rfl (sizesOk_of rfl) rfl fun w hh o => ?_
      | refine o.app 0 rfl encI_len encI_plain rfl (Hd.more o.ext) (by decide) (by simp; omega) fun w hh o => ?_
      | refine o.app 1 rfl encI_len encI_plain rfl (Hd.more o.ext) (by decide) (by simp; omega) fun w hh o => ?_
      | refine o.app 2 rfl encI_len encI_plain rfl (Hd.more o.ext) (by decide) (by simp; omega) fun w hh o => ?_
      | refine o.app 0 rfl encI_len encI_plain rfl (Ha.more o.ext) (by decide) (by simp; omega) fun w hh o => ?_
      | refine o.app 1 rfl encI_len encI_plain rfl (Ha.more o.ext) (by decide) (by simp; omega) fun w hh o => ?_
      | refine o.app 2 rfl encI_len encI_plain rfl (Ha.more o.ext) (by decide) (by simp; omega) fun w hh o => ?_
      | refine tree2b (o.vw 0 rfl) (o.vw 1 rfl) ?_
      | refine tree2b (o.vw 0 rfl) (o.vw 2 rfl) ?_
      | refine tree2b (o.vw 1 rfl) (o.vw 0 rfl) ?_
      | refine tree2b (o.vw 1 rfl) (o.vw 2 rfl) ?_
      | refine tree2b (o.vw 2 rfl) (o.vw 0 rfl) ?_
      | refine tree2b (o.vw 2 rfl) (o.vw 1 rfl) ?_
      | exact fin (cs := []) (o.sel [0, 1, 2, 3, 4, 5] (by decide))
      | exact fin (cs := []) (o.sel [0, 2, 1, 3, 4, 5] (by decide))
      | exact fin (cs := []) (o.sel [1, 0, 2, 3, 4, 5] (by decide))
      | exact fin (cs := []) (o.sel [1, 2, 0, 3, 4, 5] (by decide))
      | exact fin (cs := []) (o.sel [2, 0, 1, 3, 4, 5] (by decide))
      | exact fin (cs := []) (o.sel [2, 1, 0, 3, 4, 5] (by decide)))
  · rintro ⟨y, ⟨⟩⟩ h' ⟨out, w, w2, hy, o'⟩
    dsimp only at hy ⊢
    subst hy
    exact tailRev ra rb rc rd hdl hal o' hK

end
end Go.Proofs.YtjamcgoebnafkaaGreatDoor

namespace Go.Proofs.YtjamcgoebnafkaaGreatDoor
open Go Go.Mh
set_option linter.unusedVariables false

section
variable {h0 h : Heap} {L : List Res} {K : Value → Heap → Prop} {g : G} {r : Nat} {N : Res} {v sd sa so sd' sa' so' : Value} {d ar d' ar' : List Int} {z : Int}

abbrev fA (g : G) (d ar : List Int) (z : Int) : Option (List Nat) := folI g.n g.arcs d ar A.t A.f z
abbrev fB (g : G) (d ar : List Int) (z : Int) : Option (List Nat) := folI g.n g.arcs d ar A.f A.t z

theorem paheadU (hR : g.Right) (H : NetR h r g) (Hd : Vw encI 1 h sd d) (Ha : Vw encI 1 h sa ar) (Ho : Mh.plainCell so = true) (hal : ar.length < 2 ^ 62)
    (hK : ∀ w h', Ext h h' → Vw encI 1 h' w (nI ((fA g d ar z).getD []).reverse) → ((fA g d ar z).getD []).length < 16777216 → K (.tuple #[w, .bool (fA g d ar z).isSome]) h') : callS Tryz.prog F_path_Ahead [ptr r, .agg #[sd, sa, so], I z] h K := by
  refine pahead_ok hR H Hd Ha Ho hal (fun l w h' hl hlen o => ?_) fun h' hno x => ?_
  · unfold fA at hK; rw [hl] at hK; exact hK w h' o.ext (o.qvw 0 rfl) hlen
  · unfold fA at hK; rw [hno] at hK; exact hK _ h' x .nil (by decide)

theorem pbehindU (hR : g.Right) (H : NetR h r g) (Hd : Vw encI 1 h sd d) (Ha : Vw encI 1 h sa ar) (Ho : Mh.plainCell so = true) (hal : ar.length < 2 ^ 62)
    (hK : ∀ w h', Ext h h' → Vw encI 1 h' w (nI ((fB g d ar z).getD [])) → ((fB g d ar z).getD []).length < 16777216 → K (.tuple #[w, .bool (fB g d ar z).isSome]) h') : callS Tryz.prog F_path_Behind [ptr r, .agg #[sd, sa, so], I z] h K := by
  refine pbehind_ok hR H Hd Ha Ho hal (fun l w h' hl hlen o => ?_) fun h' hno x => ?_
  · unfold fB at hK; rw [hl] at hK; exact hK w h' o.ext (o.qvw 0 rfl) hlen
  · unfold fB at hK; rw [hno] at hK; exact hK _ h' x .nil (by decide)

theorem raheadU (hR : g.Right) (H : RawV h v g) (Hd : Vw encI 1 h sd d) (Ha : Vw encI 1 h sa ar)
    (hK : ∀ w h', Ext h h' → Vw encI 1 h' w (nI ((fA g d ar z).getD []).reverse) → K (.tuple #[w, .bool (fA g d ar z).isSome]) h') : callS Tryz.prog F_milestoneref11_Ahead [v, sd, sa, I z] h K := by
  refine rahead_ok hR H Hd Ha (fun l w h' hl hlen o => ?_) fun h' hno x => ?_
  · unfold fA at hK; rw [hl] at hK; exact hK w h' o.ext (o.vw 0 rfl)
  · unfold fA at hK; rw [hno] at hK; exact hK _ h' x .nil

theorem rfollowU (hR : g.Right) (H : RawV h v g) (Hd : Vw encI 1 h sd d) (Ha : Vw encI 1 h sa ar)
    (hK : ∀ w h', Ext h h' → Vw encI 1 h' w (nI ((fB g d ar z).getD [])) → K (.tuple #[w, .bool (fB g d ar z).isSome]) h') : callS Tryz.prog F_milestoneref11_Follow [v, sd, sa, I z, .bool true] h K := by
  refine rfollow_ok (hd := A.f) (tl := A.t) rfl hR H Hd Ha (fun l w h' hl hlen o => ?_) fun h' hno x => ?_
  · unfold fB at hK; rw [hl] at hK; exact hK w h' o.ext (o.vw 0 rfl)
  · unfold fB at hK; rw [hno] at hK; exact hK _ h' x .nil

theorem pjoinedU (hR : g.Right) (H : NetR h r g) (Hd : Vw encI 1 h sd d) (Ha : Vw encI 1 h sa ar) (Ho : Mh.plainCell so = true) (hal : ar.length < 2 ^ 62) (Hd' : Vw encI 1 h sd' d') (Ha' : Vw encI 1 h sa' ar') (Ho' : Mh.plainCell so' = true) (hal' : ar'.length < 2 ^ 62)
    (hK : ∀ w h', Ext h h' → Vw encI 1 h' w (if (fA g d ar z).isSome && (fB g d' ar' z).isSome then nI (((fA g d ar z).getD []).reverse ++ (fB g d' ar' z).getD []) else []) → K (.tuple #[w, .bool ((fA g d ar z).isSome && (fB g d' ar' z).isSome)]) h') :
    callS Tryz.prog F_path_Joined [ptr r, .agg #[sd, sa, so], .agg #[sd', sa', so'], I z] h K := by
  refine pjoined_ok hR H Hd Ha Ho hal Hd' Ha' Ho' hal' (fun l l' w h' hl hl' _ _ o => ?_) fun h' hno x => ?_
  · unfold fA fB at hK; rw [hl, hl'] at hK; exact hK w h' o.ext (o.vw 0 rfl)
  · have hn : ((fA g d ar z).isSome && (fB g d' ar' z).isSome) = false := by
      unfold fA fB
      rcases hno with h | h
      · rw [h]; rfl
      · rw [h, Option.isSome_none, Bool.and_false]
    rw [hn] at hK
    exact hK _ h' x .nil

theorem pair11_ok {t68 : List Value} {i g7 : Nat} {vx vy va : Value} {Z : Value → Heap → Prop} (ht : (t68.drop (i * 6)).take 6 = [sd, sa, so, sd', sa', so']) (hi : i < 3) (hR : g.Right) (H : NetR h r g)
    (hg7 : h[g7]? = some (.cells #[I g.n, vx, vy, va] T_api_Raw (0, 0))) (Hr : RawV h (.agg #[I g.n, vx, vy, va]) g)
    (Hd : Vw encI 1 h sd d) (Ha : Vw encI 1 h sa ar) (Ho : Mh.plainCell so = true) (hdl : d.length < 16777217) (hal : ar.length < 16777217) (Hd' : Vw encI 1 h sd' d') (Ha' : Vw encI 1 h sa' ar') (Ho' : Mh.plainCell so' = true) (hal' : ar'.length < 16777217)
    (hZ : ∀ h', Ext h h' → Z (I ((i + 1 : Nat) : Int)) h') : sh_milestonelaw11_PathTells_L2 Tryz.prog (.agg t68.toArray) K (ptr g7) (ptr r) (I i) h Z := by
  have hmost := hR.most
  unfold sh_milestonelaw11_PathTells_L2
  rw [pBin_lss, decide_eq_true (by omega), ifV_true]
  refine ⟨by omega, by omega, ?_⟩
  have ex : (t68.toArray.extract ((i : Int).toNat * 6) ((i : Int).toNat * 6 + 6)) = [sd, sa, so, sd', sa', so'].toArray := by
    rw [Int.toNat_natCast, List.extract_toArray, ← ht]
    congr 1
    simp
  rw [ex]
  refine (Own.start h).box fun p14 h1 o1 => o1.st (cs' := [sd, sa, so, sd', sa', so']) 0 rfl rfl rfl rfl rfl ?_ fun h2 o2 => ?_
  · intro u hu
    simp at hu
    rcases hu with rfl | rfl | rfl | rfl | rfl | rfl
    · exact Hd.plain
    · exact Ha.plain
    · exact Ho
    · exact Hd'.plain
    · exact Ha'.plain
    · exact Ho'
  clear o1
  refine ⟨by decide, by decide, o2.ldN (cs' := [sd, sa, so]) 0 rfl rfl rfl ⟨by decide, by decide, o2.ldN (cs' := [sd', sa', so']) 0 rfl rfl rfl ?_⟩⟩
  refine pmeet_ok (Hd.more o2.ext) (Hd'.more o2.ext) (by omega) fun h3 x3 => ?_
  have o3 := o2.more x3
  simp only [pExt0, pExt1]
  refine pExt2 ⟨by decide, by decide, ?_⟩
  try simp only [pField_ptr]
  refine o3.load 0 rfl rfl ⟨by decide, by decide, ?_⟩
  try simp only [pField_ptr]
  refine o3.load 0 rfl rfl ?_
  refine rmeet_ok (Hd.more o3.ext) (Hd'.more o3.ext) ?_ (by omega)
  show pExt (.tuple #[I (meet d d').1, I (meet d d').2, .bool (decide (0 ≤ (meet d d').1))]) 0 _
  simp only [pExt0, pExt1]
  refine pExt2 ?_
  rw [pBin_neq, bne_self_eq_false, ifV_false, pBin_neq, bne_self_eq_false, ifV_false]
  refine pe11 rfl ?_
  rw [ifV_false]
  clear o2 x3 h2
  refine LoopH_count (g.n + 2) (fun k x h' => x.1 = I ((k : Int) - 1) ∧ ∃ h9, Own h h' [cellR p14 [sd, sa, so, sd', sa', so'] T_2_flood_Tree] ∧ h9 = h') ⟨rfl, _, o3, rfl⟩ ?_
  clear o3
  rintro k ⟨x, ⟨⟩⟩ h3 Z2 hk ⟨hx, _, o3, _⟩ hZ2
  dsimp only at hx hZ2 ⊢
  subst hx
  unfold sh_milestonelaw11_PathTells_L4
  try simp only [pField_ptr]
  have cg : hcell h ⟨g7, 0, none⟩ = some (I g.n) := hcell_of hg7 rfl
  refine pLoad_of rfl (hcell_more o3.ext cg) ?_
  simp only [pBin_leq (b := (g.n : Int)), ifV_dec]
  refine ⟨fun hle => ?_, fun hgt => ?_⟩
  · have hZ3 : ∀ h', Own h h' [cellR p14 [sd, sa, so, sd', sa', so'] T_2_flood_Tree] → sh_milestonelaw11_PathTells_k8 Tryz.prog (I ((k : Int) - 1)) (fun a0 hz => Z2 (a0, ()) hz) h' := fun h' o => by
      unfold sh_milestonelaw11_PathTells_k8
      rw [pBin_add, w64 (by omega) (by omega)]
      exact hZ2 (_, ()) h' (by omega) ⟨congrArg (fun z : Int => I z) (by omega), _, o, rfl⟩
    clear hZ2
    generalize (k : Int) - 1 = z at hle hZ3
    have ldT : ∀ {h' : Heap} {K : Value → Prop}, Own h h' [cellR p14 [sd, sa, so, sd', sa', so'] T_2_flood_Tree] → K (.agg #[I g.n, vx, vy, va]) → pLoadN 4 h' (ptr g7) K := fun {h' K} o hk => by
      have o' : Own h' h' [] := Own.start h'
      have hc : cellsAt h' g7 0 4 = some [I g.n, vx, vy, va] := cellsAt_of (i := 0) (cs := [I g.n, vx, vy, va]) (o.ext.get hg7) 4 0 (by simp)
      simp only [pLoadN_ptr, hc]
      exact hk
    refine ⟨by decide, by decide, o3.ldN (cs' := [sd, sa, so]) 0 rfl rfl rfl ?_⟩
    refine paheadU hR (H.more o3.ext) (Hd.more o3.ext) (Ha.more o3.ext) Ho (by omega) fun wa h4 x4 va4 la4 => ?_
    have o4 := o3.more x4
    simp only [pExt0, pExt1]
    refine ⟨by decide, by decide, o4.ldN (cs' := [sd', sa', so']) 0 rfl rfl rfl ?_⟩
    refine pbehindU hR (H.more o4.ext) (Hd'.more o4.ext) (Ha'.more o4.ext) Ho' (by omega) fun wb h5 x5 vb5 lb5 => ?_
    have o5 := o4.more x5
    simp only [pExt0, pExt1]
    refine ldT o5 ⟨by decide, by decide, ?_⟩
    try simp only [pField_ptr]
    refine o5.load 0 rfl rfl ⟨by decide, by decide, ?_⟩
    try simp only [pField_ptr]
    refine o5.load 0 rfl rfl (raheadU hR (Hr.more o5.ext) (Hd.more o5.ext) (Ha.more o5.ext) fun wc h6 x6 vc6 => ?_)
    have o6 := o5.more x6
    simp only [pExt0, pExt1]
    refine ldT o6 ⟨by decide, by decide, ?_⟩
    try simp only [pField_ptr]
    refine o6.load 0 rfl rfl ⟨by decide, by decide, ?_⟩
    try simp only [pField_ptr]
    refine o6.load 0 rfl rfl (rfollowU hR (Hr.more o6.ext) (Hd'.more o6.ext) (Ha'.more o6.ext) fun wd h7 x7 vd7 => ?_)
    have o7 := o6.more x7
    simp only [pExt0, pExt1]
    refine pe11 rfl ?_
    rw [ifV_false]
    refine pe11 rfl ?_
    rw [ifV_false]
    have va7 := ((va4.more x5).more x6).more x7
    have vb7 := (vb5.more x6).more x7
    refine rints_ok (e := fun x => x) (fun _ => rfl) va7 (vc6.more x7) (by rw [nI_len, List.length_reverse]; omega) ?_
    rw [pUn_not, Bool.not_true, ifV_false]
    refine rints_ok (e := fun x => x) (fun _ => rfl) vb7 vd7 (by rw [nI_len]; omega) ?_
    rw [pUn_not, Bool.not_true, ifV_false]
    refine ⟨by decide, by decide, o7.ldN (cs' := [sd, sa, so]) 0 rfl rfl rfl ⟨by decide, by decide, o7.ldN (cs' := [sd', sa', so']) 0 rfl rfl rfl ?_⟩⟩
    refine pjoinedU hR (H.more o7.ext) (Hd.more o7.ext) (Ha.more o7.ext) Ho (by omega) (Hd'.more o7.ext) (Ha'.more o7.ext) Ho' (by omega) fun wj h8 x8 vj => ?_
    have o8 := o7.more x8
    simp only [pExt0, pExt1]
    have va8 := va7.more x8
    have vb8 := vb7.more x8
    generalize fA g d ar z = oa at va8 vj la4
    generalize fB g d' ar' z = ob at vb8 vj lb5
    have none : vj = vj → ∀ {h' : Heap}, Own h h' [cellR p14 [sd, sa, so, sd', sa', so'] T_2_flood_Tree] → Vw encI 1 h' wj [] → pUn .not (.bool false) fun t202 => ifV t202 (pLen wj fun t205 => pBin .gtr t205 (.int .i64 0) fun t206 => sh_milestonelaw11_PathTells_k7 Tryz.prog K (I z) (fun a0 hz => Z2 (a0, ()) hz) t206 h') (sh_milestonelaw11_PathTells_k8 Tryz.prog (I z) (fun a0 hz => Z2 (a0, ()) hz) h') := by
      intro _ h' o vj
      rw [pUn_not, Bool.not_false, ifV_true]
      refine vj.len ?_
      rw [pBin_gtr, decide_eq_false (by simp)]
      unfold sh_milestonelaw11_PathTells_k7
      rw [ifV_false]
      exact hZ3 h' o
    cases oa with
    | none =>
      simp only [Option.isSome_none, Bool.false_and, Bool.false_eq_true, if_false] at vj
      rw [Option.isSome_none, Bool.false_and, ifV_false]
      refine pe11 rfl ?_
      rw [ifV_false, ifV_false]
      exact none rfl o8 vj
    | some la =>
      rw [Option.isSome_some, ifV_true]
      cases ob with
      | none =>
        simp only [Option.isSome_none, Option.isSome_some, Bool.and_false, Bool.false_eq_true, if_false] at vj
        rw [Option.isSome_none, Bool.and_false]
        refine pe11 rfl ?_
        rw [ifV_false, ifV_false]
        exact none rfl o8 vj
      | some lb =>
        simp only [Option.isSome_some, Bool.and_self, if_true, Option.getD_some] at vj va8 vb8 la4 lb5
        rw [Option.isSome_some, Bool.and_self]
        refine pe11 rfl ?_
        rw [ifV_false, ifV_true]
        refine (Own.start h8).build (enc := encI) (n := 1) ([] : List Int) rfl (sizesOk_of rfl) rfl fun w0 h9 o9 => ?_
        refine o9.app 0 rfl encI_len encI_plain rfl (va8.more o9.ext) (by decide) (by rw [nI_len, List.length_reverse]; simp; omega) fun w1 h10 o10 => ?_
        refine o10.app 0 rfl encI_len encI_plain rfl (vb8.more o10.ext) (by decide) (by rw [nI_len, List.length_append, nI_len, List.length_reverse]; simp; omega) fun w2 h11 o11 => ?_
        have e : [] ++ nI la.reverse ++ nI lb = nI (la.reverse ++ lb) := by simp [nI]
        have v2 := o11.vw 0 rfl
        rw [e] at v2
        refine rints_ok (e := fun x => x) (fun _ => rfl) (vj.more o11.ext) v2 (by rw [nI_len, List.length_append, List.length_reverse]; omega) ?_
        rw [pUn_not, Bool.not_true, ifV_false, pUn_not, Bool.not_true, ifV_false]
        exact hZ3 h11 (o8.more o11.ext)
  · rw [pBin_add, wI i (by omega)]
    exact hZ h3 o3.ext

theorem pathTells_ok {vb : Value} {bs : List Int} {e0 e1 xa xb xc xd ya yb yc yd : Int} (H : Vw encU8 1 h vb bs) (r0 : 0 ≤ e0 ∧ e0 ≤ 255) (r1 : 0 ≤ e1 ∧ e1 ≤ 255)
    (ra : -32768 ≤ xa ∧ xa ≤ 32767) (rb : -32768 ≤ xb ∧ xb ≤ 32767) (rc : -32768 ≤ xc ∧ xc ≤ 32767) (rd : -32768 ≤ xd ∧ xd ≤ 32767)
    (qa : -32768 ≤ ya ∧ ya ≤ 32767) (qb : -32768 ≤ yb ∧ yb ≤ 32767) (qc : -32768 ≤ yc ∧ yc ≤ 32767) (qd : -32768 ≤ yd ∧ yd ≤ 32767) (hK : ∀ h', Ext h h' → K (.bool true) h') :
    CallsH Tryz.prog F_milestonelaw11_PathTells [.agg #[vb, .int .u8 e0, .int .u8 e1], .agg #[.int .i16 xa, .int .i16 xb, .int .i16 xc, .int .i16 xd], .agg #[.int .i16 ya, .int .i16 yb, .int .i16 yc, .int .i16 yd]].toArray h K := by
  refine lk_milestonelaw11_PathTells _ _ _ ?_
  unfold sh_milestonelaw11_PathTells
  have hvb := H.one
  refine (Own.start h).box fun d3 h1 o1 => o1.box fun x4 h2 o2 => o2.box fun y5 h3 o3 => ?_
  have o4 : Own h h3 [cellR y5 [.int .i16 ya, .int .i16 yb, .int .i16 yc, .int .i16 yd] T_4_int16, cellR x4 [.int .i16 xa, .int .i16 xb, .int .i16 xc, .int .i16 xd] T_4_int16, cellR d3 [vb, .int .u8 e0, .int .u8 e1] T_milestonelaw11_Drawn] := o3
  clear o3 o2 o1
  refine o4.ldN (cs' := [vb, .int .u8 e0, .int .u8 e1]) 2 rfl rfl rfl (graph11_ok (H.more o4.ext) r0 r1 fun g vx vy va r N s t h4 hg hN hs ht o5 => ?_)
  simp only [pExt0, pExt1]
  refine pExt4_2 (pExt4_3 ?_)
  have hR := hg.toRight
  have hmost := hR.most
  have hpos := hR.pos
  have hmany := hR.many
  replace o5 := o4.frame o5
  refine o5.box fun g7 h5 o6 => o6.st (cs' := [I g.n, vx, vy, va]) 0 rfl rfl rfl rfl rfl ?_ fun h6 o7 => ?_
  · intro u hu
    simp at hu
    rcases hu with rfl | rfl | rfl | rfl
    · rfl
    · exact (o5.vw 1 rfl).plain
    · exact (o5.vw 2 rfl).plain
    · exact (o5.vw 3 rfl).plain
  simp only [pEq_ptr_nil, Option.isNone_some, ifV_false]
  refine works11_ok fun h7 x7 => ?_
  rw [pUn_not, Bool.not_true, ifV_false]
  have o8 := o7.more x7
  have ef : g.fromI (s : Int) = g.from s := by rw [G.fromI, if_pos (by omega)]; rfl
  have et : g.toI (t : Int) = g.to t := by rw [G.toI, if_pos (by omega)]; rfl
  have TF := from_tree hR hs
  have TT := to_tree hR ht
  refine from_ok hR (hN _ (o8.get 1 rfl)) fun sd sa so h8 o9 => ?_
  rw [ef] at o9
  replace o9 := o8.frame o9
  refine to_ok hR (hN _ (o9.get 4 rfl)) fun td ta to h9 o10 => ?_
  rw [et] at o10
  replace o10 := o9.frame o10
  have pso : Mh.plainCell so = true := (o10.vw 5 rfl).plain
  have pto : Mh.plainCell to = true := (o10.vw 2 rfl).plain
  refine o10.box fun one11 h10 o11 => o11.box fun two12 h11 o12 => o12.st (cs' := [sd, sa, so]) 1 rfl rfl rfl rfl rfl ?_ fun h12 o13 => o13.st (cs' := [td, ta, to]) 0 rfl rfl rfl rfl rfl ?_ fun h13 o14 => ?_
  · intro u hu
    simp at hu
    rcases hu with rfl | rfl | rfl
    · exact (o10.vw 3 rfl).plain
    · exact (o10.vw 4 rfl).plain
    · exact pso
  · intro u hu
    simp at hu
    rcases hu with rfl | rfl | rfl
    · exact (o10.vw 0 rfl).plain
    · exact (o10.vw 1 rfl).plain
    · exact pto
  have o : Own h h13 [cellR two12 [td, ta, to] T_flood_Tree, cellR one11 [sd, sa, so] T_flood_Tree, xR td (g.to t).dist, slR encI 1 T_int ta (g.to t).arc, xR sd (g.from s).dist, slR encI 1 T_int sa (g.from s).arc, cellR g7 [I g.n, vx, vy, va] T_api_Raw, N, xR vx g.X, xR vy g.Y, aR va g.arcs,
      cellR y5 [.int .i16 ya, .int .i16 yb, .int .i16 yc, .int .i16 yd] T_4_int16, cellR x4 [.int .i16 xa, .int .i16 xb, .int .i16 xc, .int .i16 xd] T_4_int16] := o14.sel [0, 1, 2, 3, 5, 6, 8, 9, 10, 11, 12, 13, 14] (by decide)
  clear o14 o13 o12 o11 o10 o9 o8 o7 o6 o5 o4
  have ld1 : (g.from s).dist.length < 16777217 := by rw [TF.ls.len]; omega
  have ld2 : (g.to t).dist.length < 16777217 := by rw [TT.ls.len]; omega
  have la1 : (g.from s).arc.length < 16777217 := by rw [TF.al]; omega
  have la2 : (g.to t).arc.length < 16777217 := by rw [TT.al]; omega
  have l1 : ∀ {h' : Heap} {L' : List Res} {K : Value → Prop}, Own h h' ([cellR two12 [td, ta, to] T_flood_Tree, cellR one11 [sd, sa, so] T_flood_Tree] ++ L') → K (.agg #[sd, sa, so]) → pLoadN 3 h' (ptr one11) K := fun o hk => o.ldN (cs' := [sd, sa, so]) 1 rfl rfl rfl hk
  refine o.ldN (cs' := [sd, sa, so]) 1 rfl rfl rfl (o.ldN (cs' := [td, ta, to]) 0 rfl rfl rfl ⟨sizesOk_of rfl, ?_⟩)
  refine o.ldN (cs' := [sd, sa, so]) 1 rfl rfl rfl (o.ldN (cs' := [.int .i16 xa, .int .i16 xb, .int .i16 xc, .int .i16 xd]) 12 rfl rfl rfl ?_)
  refine o.ldN (cs' := [td, ta, to]) 0 rfl rfl rfl (o.ldN (cs' := [.int .i16 ya, .int .i16 yb, .int .i16 yc, .int .i16 yd]) 11 rfl rfl rfl ?_)
  refine o.ldN (cs' := [td, ta, to]) 0 rfl rfl rfl (o.ldN (cs' := [.int .i16 xa, .int .i16 xb, .int .i16 xc, .int .i16 xd]) 12 rfl rfl rfl ?_)
  refine o.ldN (cs' := [sd, sa, so]) 1 rfl rfl rfl (o.ldN (cs' := [.int .i16 ya, .int .i16 yb, .int .i16 yc, .int .i16 yd]) 11 rfl rfl rfl ?_)
  refine turned11_ok ra rb rc rd (o.vw 4 rfl) (o.vw 5 rfl) ld1 la1 fun p1 p2 D1 A1 h14 n1 m1 oa => ?_
  have q1 := o.more oa.ext
  replace oa := o.frame oa
  have s1 : ∀ {h' : Heap}, Own h h' [cellR two12 [td, ta, to] T_flood_Tree, cellR one11 [sd, sa, so] T_flood_Tree, xR td (g.to t).dist, slR encI 1 T_int ta (g.to t).arc, xR sd (g.from s).dist, slR encI 1 T_int sa (g.from s).arc, cellR g7 [I g.n, vx, vy, va] T_api_Raw, N, xR vx g.X, xR vy g.Y, aR va g.arcs,
      cellR y5 [.int .i16 ya, .int .i16 yb, .int .i16 yc, .int .i16 yd] T_4_int16, cellR x4 [.int .i16 xa, .int .i16 xb, .int .i16 xc, .int .i16 xd] T_4_int16] →
      (pLoadN 3 h' (ptr one11) fun t => t = .agg [sd, sa, so].toArray) ∧ (pLoadN 3 h' (ptr two12) fun t => t = .agg [td, ta, to].toArray) ∧ (pLoadN 4 h' (ptr y5) fun t => t = .agg [.int .i16 ya, .int .i16 yb, .int .i16 yc, .int .i16 yd].toArray) ∧ (pLoadN 4 h' (ptr x4) fun t => t = .agg [.int .i16 xa, .int .i16 xb, .int .i16 xc, .int .i16 xd].toArray) := fun o =>
    ⟨o.ldN (cs' := [sd, sa, so]) 1 rfl rfl rfl rfl, o.ldN (cs' := [td, ta, to]) 0 rfl rfl rfl rfl, o.ldN (cs' := [.int .i16 ya, .int .i16 yb, .int .i16 yc, .int .i16 yd]) 11 rfl rfl rfl rfl, o.ldN (cs' := [.int .i16 xa, .int .i16 xb, .int .i16 xc, .int .i16 xd]) 12 rfl rfl rfl rfl⟩
  have S := s1 q1
  refine ⟨S.1, S.2.1, S.2.1, S.2.2.1, S.2.1, S.2.2.2, S.1, S.2.2.1, ?_⟩
  refine turned11_ok qa qb qc qd (q1.vw 2 rfl) (q1.vw 3 rfl) ld2 la2 fun p3 p4 D2 A2 h15 n2 m2 ob => ?_
  have q2 := q1.more ob.ext
  replace ob := oa.frame ob
  have S := s1 q2
  refine ⟨S.1, S.2.1, S.2.1, S.2.2.2, S.1, S.2.2.1, sizesOk_of rfl, ?_⟩
  refine turned11_ok ra rb rc rd (q2.vw 2 rfl) (q2.vw 3 rfl) ld2 la2 fun p5 p6 D3 A3 h16 n3 m3 oc => ?_
  have q3 := q2.more oc.ext
  replace oc := ob.frame oc
  have S := s1 q3
  refine ⟨S.1, S.2.1, S.1, S.2.2.1, ?_⟩
  refine turned11_ok qa qb qc qd (q3.vw 4 rfl) (q3.vw 5 rfl) ld1 la1 fun p7 p8 D4 A4 h17 n4 m4 od => ?_
  have q4 := q3.more od.ext
  replace od := oc.frame od
  have S := s1 q4
  refine ⟨S.1, S.2.1, sizesOk_of rfl, sizesOk_of rfl, ?_⟩
  have hn := hN _ (q4.get 7 rfl)
  have hgc := q4.get 6 rfl
  have hraw : RawV h17 (.agg #[I g.n, vx, vy, va]) g := rawOf11 q4 8 9 10 rfl rfl rfl
  have v1 := q4.vw 4 rfl
  have v2 := q4.vw 5 rfl
  have v3 := q4.vw 2 rfl
  have v4 := q4.vw 3 rfl
  have u1 := od.vw 6 rfl
  have u2 := od.vw 7 rfl
  have u3 := od.vw 4 rfl
  have u4 := od.vw 5 rfl
  have u5 := od.vw 2 rfl
  have u6 := od.vw 3 rfl
  have u7 := od.vw 0 rfl
  have u8 := od.vw 1 rfl
  have x17 := q4.ext
  clear S od oc ob oa q3 q2 q1 s1 l1 o
  refine LoopH_count 3 (fun i x h' => x.1 = I i ∧ Ext h17 h') ⟨rfl, .refl _ _⟩ ?_
  rintro i ⟨x, ⟨⟩⟩ h' Z hi ⟨hx, x'⟩ hZ
  dsimp only at hx hZ ⊢
  subst hx
  have hz : ∀ h'', Ext h' h'' → i < 3 → Z (I ((i + 1 : Nat) : Int), ()) h'' := fun h'' xx hlt => hZ (I (i + 1 : Nat), ()) h'' hlt ⟨rfl, x'.trans xx fun _ hf _ => hf⟩
  match i, hi, hz with
  | 0, _, hz => exact pair11_ok (t68 := [sd, sa, so, td, ta, to, p1, p2, .slice none 0 0, p3, p4, .slice none 0 0, p5, p6, .slice none 0 0, p7, p8, .slice none 0 0]) (i := 0) rfl (by decide) hR (hn.more x') (x'.get hgc) (hraw.more x') (v1.more x') (v2.more x') pso ld1 la1 (v3.more x') (v4.more x') pto la2 fun h'' xx => hz h'' xx (by decide)
  | 1, _, hz => exact pair11_ok (t68 := [sd, sa, so, td, ta, to, p1, p2, .slice none 0 0, p3, p4, .slice none 0 0, p5, p6, .slice none 0 0, p7, p8, .slice none 0 0]) (i := 1) rfl (by decide) hR (hn.more x') (x'.get hgc) (hraw.more x') (u1.more x') (u2.more x') rfl n1 m1 (u3.more x') (u4.more x') rfl m2 fun h'' xx => hz h'' xx (by decide)
  | 2, _, hz => exact pair11_ok (t68 := [sd, sa, so, td, ta, to, p1, p2, .slice none 0 0, p3, p4, .slice none 0 0, p5, p6, .slice none 0 0, p7, p8, .slice none 0 0]) (i := 2) rfl (by decide) hR (hn.more x') (x'.get hgc) (hraw.more x') (u5.more x') (u6.more x') rfl n3 m3 (u7.more x') (u8.more x') rfl m4 fun h'' xx => hz h'' xx (by decide)
  | 3, _, hz =>
    unfold sh_milestonelaw11_PathTells_L2
    rw [pBin_lss, show decide (((3 : Nat) : Int) < 3) = false from rfl, ifV_false]
    exact hK _ (x17.trans x' fun _ hf _ => hf)

end
end Go.Proofs.YtjamcgoebnafkaaGreatDoor
