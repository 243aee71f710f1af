/- Texts of the proofs of seat YtkeoponidgpfpaaGreatDoor, joined: WkA, F14B. They have no conditions of their own. -/
import Derived.Test.YtkeoponidgpfpaaGreatDoorTa
import Derived.Test.YtkeoponidgpfpaaGreatDoorMd
import Derived.Test.YtkeoponidgpfpaaGreatDoorMc
import Derived.Test.YtkeoponidgpfpaaGreatDoorTc
set_option linter.unusedVariables false
set_option linter.unusedSimpArgs false

namespace Go.Proofs.YtkeoponidgpfpaaGreatDoor
open Go Go.Mh
set_option linter.unusedVariables false

section
variable {h0 h : Heap} {L : List Res} {K : Value → Heap → Prop} {g : G} {r : Nat}

theorem wnode_ok {z : Int} (H : NetR h r g) (hK : K (.bool (decide (0 ≤ z) && decide (z < g.n))) h) : callS Tryz.prog F_walk_node [ptr r, I z] h K := by
  refine callS_of (lk_walk_node _ _ ?_)
  unfold sh_walk_node
  simp only [pBin_geq, ifV_dec]
  refine ⟨fun h1 => nodes_ok H ?_, fun h1 => ?_⟩
  · rw [pBin_lss]
    rw [decide_eq_true h1, Bool.true_and] at hK
    exact hK
  · rw [decide_eq_false h1, Bool.false_and] at hK
    exact hK

/-- An arc of any number. -/
theorem arcW_ok {z : Int} (H : NetR h r g) (hK : ∀ h', Ext h h' → K (.tuple #[vA (wArc g.arcs z).1, .bool (wArc g.arcs z).2]) h') : callS Tryz.prog F_net_Net_Arc [ptr r, I z] h K := by
  refine arcI_ok H (fun i hi e h' x => ?_) fun hn h' x => ?_
  · subst e
    have := hK h' x
    rw [show wArc g.arcs (i : Int) = (g.arcs[i], true) by simp [wArc, arcAt, hi]] at this
    exact this
  · have := hK h' x
    rw [wArc, if_neg hn] at this
    exact this

theorem wArc_w (hR : g.Right) {z : Int} : ((wArc g.arcs z).1.w : Int) ≤ 2147483647 := by
  unfold wArc
  split
  · rename_i h1
    have := (hR.ends _ (arcAt_mem (l := g.arcs) (i := z.toNat) (by omega))).2.2
    show ((arcAt g.arcs z.toNat).w : Int) ≤ _
    omega
  · decide

theorem wsteps_iter {a5 n3 s4 : Nat} {s : Int} {va : Value} {arcs : List Int} {T1 T2 : TypeId} (hl : arcs.length < 2 ^ 40) :
    IterP Tryz.prog (.func (.func F_walk_steps_1) #[] #[ptr a5, ptr n3, ptr s4]) (fun _ h => h[a5]? = some (.cells #[va] T1 (0, 0)) ∧ h[n3]? = some (.cells #[ptr r] T2 (0, 0)) ∧ NetR h r g ∧ Vw encI 1 h va arcs)
      [cellR s4 [I s] T_int] (σ := Nat × Int) (0, s) (wNext g.arcs arcs) (fun p => p.1 = arcs.length) := by
  rintro yv h0 h Rs K J E ⟨l, rfl⟩ o j0 hQ hY hK
  refine callF_of (l := [yieldV l, ptr a5, ptr n3, ptr s4]) rfl (lk_walk_steps_1 _ _ _ _ ?_)
  unfold sh_walk_steps_1
  obtain ⟨ha, _, _, hv⟩ := hQ _ _ _ j0 o.left
  refine pLoad_of rfl (hcell_of ha rfl) (hv.len ?_)
  refine LoopH_count arcs.length (fun i x h' => x.1 = I i ∧ ∃ s' Rs', J (i, s') Rs' ∧ Own h0 h' (Rs' ++ [cellR s4 [I s'] T_int])) ⟨rfl, s, Rs, j0, o⟩ ?_
  clear ha hv
  rintro i ⟨x, ⟨⟩⟩ h Z hi ⟨hx, s, Rs', hj, o⟩ hZ
  dsimp only at hx hZ ⊢
  subst hx
  unfold sh_walk_steps_1_L1
  simp only [pBin_lss, ifV_dec]
  refine ⟨fun hlt => ?_, fun hge => ?_⟩
  · have hlt : i < arcs.length := by omega
    obtain ⟨ha, hn, hN, hv⟩ := hQ _ _ _ hj o.left
    refine hv.atI hlt (pLoad_of rfl (hcell_of hn rfl) (arcW_ok hN fun h1 x1 => ?_))
    have nx : wNext g.arcs arcs (i, s) [vA (wArc g.arcs arcs[i]).1, .bool ((wArc g.arcs arcs[i]).2 && decide (((wArc g.arcs arcs[i]).1.f : Int) = s))] (i + 1, ((wArc g.arcs arcs[i]).1.t : Int)) := ⟨hlt, rfl, rfl⟩
    generalize wArc g.arcs arcs[i] = w at nx
    simp only [pExt0, pExt1]
    have o1 := o.more x1
    refine o1.box fun b h2 o2 => o2.st 0 rfl rfl rfl rfl rfl (encA_plain _) fun h3 o3 => ?_
    simp only [pField_ptr]
    refine o3.ldN 0 rfl rfl rfl ?_
    have o4 : Own h0 h3 (Rs' ++ [cellR s4 [I s] T_int, cellR b (encA w.1) T_api_Arc]) := by
      have := o3.rot
      rw [List.append_assoc] at this
      exact this
    have after : ∀ (Rs'' : List Res) (h'' : Heap), J (i + 1, (w.1.t : Int)) Rs'' → Own h0 h'' (Rs'' ++ [cellR s4 [I s] T_int, cellR b (encA w.1) T_api_Arc]) → sh_walk_steps_1_k2 Tryz.prog K (ptr b) (ptr s4) (I i) (fun a0 hz => Z (a0, ()) hz) (.bool false) h'' := by
      intro Rs'' h'' hj' o'
      unfold sh_walk_steps_1_k2
      simp only [pField_ptr, ifV_false]
      refine o'.load (Rs''.length + 1) (b := b) (cs := encA w.1) (T := T_api_Arc) (off := 0 + 1) (by rw [List.getElem?_append_right (by omega)]; simp) rfl ?_
      refine o'.st1 Rs''.length (b := s4) (T := T_int) (cs := [I s]) (cs' := [I w.1.t]) (by rw [List.getElem?_append_right (by omega)]; simp) rfl rfl rfl rfl fun h4 o5 => ?_
      rw [pBin_add, wI i (by omega)]
      refine hZ (I (i + 1 : Nat), ()) h4 hlt ⟨rfl, (w.1.t : Int), Rs'', hj', ?_⟩
      rw [List.set_append_right _ _ (by omega), Nat.sub_self] at o5
      have : Own h0 h4 ((Rs'' ++ [cellR s4 [I w.1.t] T_int]) ++ [cellR b (encA w.1) T_api_Arc]) := by rw [List.append_assoc]; exact o5
      exact this.left
    have y : ∀ c : Bool, c = (w.2 && decide ((w.1.f : Int) = s)) → callV Tryz.prog (yieldV l) [vA w.1, .bool c].toArray h3 fun t30 h_5 => pUn .not t30 fun t31 => sh_walk_steps_1_k2 Tryz.prog K (ptr b) (ptr s4) (I i) (fun a0 hz => Z (a0, ()) hz) t31 h_5 := by
      intro c hc
      subst hc
      refine hY _ _ _ Rs' _ h3 _ nx hj o4 (fun Rs'' h'' hj' o' => ?_) fun Rs'' h'' he o' => ?_
      · rw [pUn_not, Bool.not_true]
        exact after Rs'' h'' hj' o'
      · rw [pUn_not, Bool.not_false]
        unfold sh_walk_steps_1_k2
        rw [ifV_true]
        exact hK _ _ (.inr he) o'.left
    cases hw : w.2 with
    | true =>
      rw [ifV_true]
      refine o3.load 0 rfl rfl (o4.load Rs'.length (b := s4) (cs := [I s]) (T := T_int) (by rw [List.getElem?_append_right (by omega)]; simp) rfl ?_)
      rw [pBin_eql]
      exact y _ (by rw [hw, Bool.true_and]; rfl)
    | false =>
      rw [ifV_false]
      exact y _ (by rw [hw, Bool.false_and])
  · have : i = arcs.length := by omega
    exact hK _ _ (.inl ⟨(i, s), this, hj⟩) o.left

/-- Is a row of arcs a walk? -/
theorem wcheck_ok {s t : Int} {va : Value} {arcs : List Int} (hR : g.Right) (H : NetR h r g) (hv : Vw encI 1 h va arcs) (hl : arcs.length < 2147483648)
    (hK1 : ∀ w h', 0 ≤ s → s < g.n → wchk g.arcs s 0 arcs = some (t, w) → Ext h h' → K (.tuple #[I w, .bool true]) h')
    (hK2 : ∀ h', ¬ (0 ≤ s ∧ s < g.n ∧ ∃ w, wchk g.arcs s 0 arcs = some (t, w)) → Ext h h' → K (.tuple #[I 0, .bool false]) h') : callS Tryz.prog F_walk_Check [ptr r, I s, I t, va] h K := by
  refine callS_of (lk_walk_Check _ _ _ _ ?_)
  unfold sh_walk_Check
  refine (Own.start h).box fun w8 h1 o1 => wnode_ok (H.more o1.ext) ?_
  by_cases hs : 0 ≤ s ∧ s < g.n
  · rw [decide_eq_true hs.1, decide_eq_true hs.2, Bool.true_and, pUn_not, Bool.not_true, ifV_false]
    refine o1.box fun e10 h2 o2 => o2.st1 0 (cs' := [I s]) rfl rfl rfl rfl rfl fun h3 o3 => ?_
    refine callS_of (lk_walk_steps _ _ _ ?_)
    unfold sh_walk_steps
    refine o3.box fun n3 h4 o4 => o4.box fun s4 h5 o5 => o5.box fun a5 h6 o6 => ?_
    have hv1 := hv.one
    have o7 : Own h h6 ([cellR a5 [va] T_sl_int, cellR n3 [ptr r] T_p_net_Net, cellR e10 [I s] T_int, cellR w8 [I 0] T_int64] ++ [cellR s4 [I s] T_int]) := by
      rw [show va.cells.toList = [va] by rw [hv1]] at o6
      exact o6.sel [0, 2, 3, 4, 1] (by decide)
    refine o7.rangeP (wsteps_iter (g := g) (r := r) (va := va) (arcs := arcs) (T1 := T_sl_int) (T2 := T_p_net_Net) (by omega)) (by rintro p x p' ⟨_, rfl, _⟩; rfl)
      (fun p Rs => ∃ w : Int, 0 ≤ p.2 ∧ 0 ≤ w ∧ w ≤ p.1 * 2147483647 ∧ p.1 ≤ arcs.length ∧ wchk g.arcs s 0 arcs = wchk g.arcs p.2 w (arcs.drop p.1) ∧ Rs = [cellR a5 [va] T_sl_int, cellR n3 [ptr r] T_p_net_Net, cellR e10 [I p.2] T_int, cellR w8 [I w] T_int64])
      (fun _ => False)
      (fun id Rs => id = 0 ∧ wchk g.arcs s 0 arcs = none ∧ ∃ w, Rs = [cellR a5 [va] T_sl_int, cellR n3 [ptr r] T_p_net_Net, cellR e10 [I (-1)] T_int, cellR w8 [I w] T_int64])
      ⟨0, hs.1, by omega, by omega, Nat.zero_le _, rfl, rfl⟩ ?_ ?_ ?_ (fun _ _ h => h.elim) ?_
    · rintro p Rs' h' ⟨w, _, _, _, _, _, rfl⟩ o'
      exact ⟨o'.get 0 rfl, o'.get 1 rfl, H.more o'.ext, hv.more o'.ext⟩
    · rintro M ⟨i, e⟩ x p' Rs' Pr h' R ⟨hi, rfl, rfl⟩ ⟨w, he, hw0, hw1, hil, hch, rfl⟩ o' hN _ hX
      dsimp only [valsOf] at hi hch hw1 ⊢
      rw [wchk_step hi] at hch
      have hww := wArc_w hR (z := arcs[i])
      generalize wArc g.arcs arcs[i] = q at hch hN hww
      unfold sh_walk_Check_B1
      refine o'.box fun a11 h8 o8 => o8.st 0 rfl rfl rfl rfl rfl (encA_plain _) fun h9 o9 => ?_
      refine o9.begin 1 rfl fun h10 o10 => ?_
      rw [pUn_not]
      by_cases hc : (q.2 && decide ((q.1.f : Int) = e)) = true
      · rw [if_pos hc] at hch
        rw [hc, Bool.not_true, ifV_false]
        simp only [pField_ptr]
        refine o10.load 6 rfl rfl (o10.load 0 rfl rfl ?_)
        rw [pBin_add, w64 (by omega) (by omega)]
        refine o10.st1 6 (cs' := [I (w + q.1.w)]) rfl rfl rfl rfl rfl fun h11 o11 => ?_
        refine o11.load 0 rfl rfl (o11.st1 5 (cs' := [I q.1.t]) rfl rfl rfl rfl rfl fun h12 o12 => ?_)
        refine hN _ _ ⟨w + q.1.w, by omega, by omega, by (show _ ≤ ((i + 1 : Nat) : Int) * _; omega), hi, hch, rfl⟩ ?_
        exact o12.tail
      · rw [if_neg hc] at hch
        have hc : (q.2 && decide ((q.1.f : Int) = e)) = false := by simpa using hc
        rw [hc, Bool.not_false, ifV_true]
        refine o10.st1 5 (cs' := [I (-1)]) rfl rfl rfl rfl rfl fun h11 o11 => ?_
        exact hX 0 _ _ ⟨rfl, hch, w, rfl⟩ o11.tail
    · rintro ⟨i, e⟩ h' Rs' hst ⟨w, he, hw0, hw1, hil, hch, rfl⟩ o'
      dsimp only at hst hch he
      subst hst
      rw [List.drop_length] at hch
      simp only [wchk] at hch
      unfold sh_walk_Check_k2
      refine o'.load 3 rfl rfl ?_
      rw [pBin_lss, decide_eq_false (by omega), ifV_false]
      refine o'.load 3 rfl rfl ?_
      rw [pBin_neq]
      by_cases ht : e = t
      · subst ht
        rw [bne_self_eq_false, ifV_false]
        refine o'.load 4 rfl rfl (o'.st1 4 (cs' := [I w]) rfl rfl rfl rfl rfl fun h11 o11 => ?_)
        refine o11.take1 0 rfl fun h12 o12 => o12.load 4 rfl rfl (hK1 w _ hs.1 hs.2 hch o12.ext)
      · rw [show (e != t) = true by simpa using ht, ifV_true]
        unfold sh_walk_Check_k3
        refine o'.st1 4 (cs' := [I 0]) rfl rfl rfl rfl rfl fun h11 o11 => ?_
        refine o11.take1 0 rfl fun h12 o12 => o12.load 4 rfl rfl (hK2 _ ?_ o12.ext)
        rintro ⟨_, _, w', hw'⟩
        rw [hch] at hw'
        exact ht (congrArg Prod.fst (Option.some.inj hw'))
    · rintro id h' Rs' ⟨rfl, hch, w, rfl⟩ o'
      show sh_walk_Check_k2 _ _ _ _ _ _ _
      unfold sh_walk_Check_k2
      refine o'.load 3 rfl rfl ?_
      rw [pBin_lss, decide_eq_true (by omega), ifV_true]
      unfold sh_walk_Check_k3
      refine o'.st1 4 (cs' := [I 0]) rfl rfl rfl rfl rfl fun h11 o11 => ?_
      refine o11.take1 0 rfl fun h12 o12 => o12.load 4 rfl rfl (hK2 _ ?_ o12.ext)
      rintro ⟨_, _, w', hw'⟩
      rw [hch] at hw'; cases hw'
  · have hcf : (decide (0 ≤ s) && decide (s < (g.n : Int))) = false := by
      rw [Bool.and_eq_false_imp]; intro h1; exact decide_eq_false fun h2 => hs ⟨of_decide_eq_true h1, h2⟩
    rw [hcf, pUn_not, Bool.not_false, ifV_true]
    refine o1.st1 0 (cs' := [I 0]) rfl rfl rfl rfl rfl fun h2 o2 => o2.load 0 rfl rfl (hK2 _ (fun e => hs ⟨e.1, e.2.1⟩) o2.ext)

end
end Go.Proofs.YtkeoponidgpfpaaGreatDoor

namespace Go.Proofs.YtkeoponidgpfpaaGreatDoor
open Go Go.Mh
set_option linter.unusedVariables false

section
variable {h0 h : Heap} {L M : List Res} {K : Value → Heap → Prop} {Q : Qs} {r : Nat} {v w vl : Value}

theorem exact3_ok {d : Int} {arcs : List Nat} {evl : List Ev} {a4 g3 f6 : Nat} {vx vy vr va vp wa we : Value} {N : Res} (hQ : Q.Ok) (hne : Q.s ≠ Q.t) (hd : d = Q.fin.dist)
    (o : Own h0 h (cellR f6 [I d, wa, we] T_api_Found :: slR encI 1 T_int wa (nI arcs) :: slR encE 4 T_api_Event we evl :: bse14 Q a4 g3 vx vy vr va vp N))
    (hK : ∀ h', Ext h0 h' → K (.bool true) h') : sh_milestonelaw14_BothExact_k3 Tryz.prog (ptr g3) (ptr a4) K (ptr f6) h := by
  have hfar : far = 72057594037927936 := rfl
  unfold sh_milestonelaw14_BothExact_k3
  refine o.ldN (cs' := [I Q.g.n, vx, vy, vr]) 5 rfl rfl rfl (o.ldN (cs' := [I Q.s, I Q.t, va, vp]) 4 rfl rfl rfl ?_)
  refine rfeas_ok hQ (raw14 (L := [_, _, _]) o) (asv14 (L := [_, _, _]) o) fun h4 x4 => ?_
  have o4 := o.more x4
  clear o
  rw [pUn_not]
  cases hfe : feasB Q with
  | false => rw [Bool.not_false, ifV_true]; exact works14_ok fun h6 x6 => hK _ (o4.more x6).ext
  | true =>
    rw [Bool.not_true, ifV_false]
    refine o4.ldN (cs' := [I Q.g.n, vx, vy, vr]) 5 rfl rfl rfl (o4.ldN (cs' := [I Q.s, I Q.t, va, vp]) 4 rfl rfl rfl ?_)
    simp only [pField_ptr]
    refine o4.load 4 rfl rfl ?_
    refine rreach_ok14 (x := false) hQ (raw14 (L := [_, _, _]) o4) (asv14 (L := [_, _, _]) o4) fun dl vl h6 hRL o6' => ?_
    have o6 := o4.frame o6'
    clear o4 o6'
    have hdl := hRL.len
    refine ⟨o6.load 5 rfl rfl rfl, ?_⟩
    refine (o6.vw 0 rfl).atI (by rw [hdl]; exact hQ.t) ?_
    rw [dAt_get (by rw [hdl]; exact hQ.t)]
    refine o6.ldN (cs' := [I Q.s, I Q.t, va, vp]) 5 rfl rfl rfl (o6.load 5 rfl rfl ?_)
    refine ropen_ok hQ (asv14 (L := [_, _, _, _]) o6) hQ.t fun h7 x7 => ?_
    have o7 := o6.more x7
    clear o6
    have e := fin_exact hQ hne (feasB_iff.1 hfe) hRL
    rw [pUn_not]
    cases hop : Q.opn Q.t with
    | false =>
      rw [Bool.not_false, ifV_true]
      unfold sh_milestonelaw14_BothExact_k4
      simp only [pField_ptr]
      refine o7.load 1 rfl rfl ?_
      rw [hd, e, hop, if_neg (by decide), hfar, pBin_eql, beq_self_eq_true, ifV_true]
      exact works14_ok fun h8 x8 => hK _ (o7.more x8).ext
    | true =>
      rw [Bool.not_true, ifV_false]
      unfold sh_milestonelaw14_BothExact_k4
      simp only [pField_ptr]
      refine o7.load 1 rfl rfl ?_
      rw [hd, e, hop, if_pos rfl, pBin_eql, beq_self_eq_true, ifV_true]
      exact works14_ok fun h8 x8 => hK _ (o7.more x8).ext

theorem bothExact_ok {bs pis : List Int} {vb vpi : Value} {zf zt zo zl : Int} {sm mark : Bool} (Hb : Vw encU8 1 h vb bs) (Hpi : Vw encI 1 h vpi pis) (hf : 0 ≤ zf ∧ zf ≤ 255) (ht : 0 ≤ zt ∧ zt ≤ 255) (hl : 0 ≤ zl ∧ zl ≤ 255)
    (hK : ∀ h', Ext h h' → K (.bool true) h') : CallsH Tryz.prog F_milestonelaw14_BothExact [dr14 vb vpi zf zt zo zl sm mark].toArray h K := by
  have hfar : far = 72057594037927936 := rfl
  refine lk_milestonelaw14_BothExact _ ?_
  unfold sh_milestonelaw14_BothExact
  refine (Own.start h).box fun d1 h1 o1 => ?_
  have o1 : Own h h1 [cellR d1 [vb, .int .u8 zf, .int .u8 zt, .bool sm, .bool mark, .int .u64 zo, vpi, .int .u8 zl] T_milestonelaw14_Draft] := o1
  refine o1.ldN (cs' := [vb, .int .u8 zf, .int .u8 zt, .bool sm, .bool mark, .int .u64 zo, vpi, .int .u8 zl]) 0 rfl rfl rfl ?_
  have x1 := o1.ext
  refine begin14 (Hb.more x1) (Hpi.more x1) hf ht hl fun Q a4 g3 vx vy vr va vp N r h2 hg hQ hFe hN o2 => ?_
  clear o1
  simp only [pEq_ptr_nil, Option.isNone_some, ifV_false]
  refine run14 hQ hN o2 fun d arcs evl f6 wa we h3 hr o3 => ?_
  rw [pBin_neq, show ((0 : Int) != 0) = false from rfl, ifV_false]
  clear o2
  simp only [pField_ptr]
  have hd : 0 ≤ d ∧ d ≤ far := by
    rcases hr with ⟨_, h, _⟩ | ⟨_, h, _⟩
    · rw [h]; exact ⟨by omega, by omega⟩
    · obtain ⟨st, R, _⟩ := Q.fin_run hQ
      rw [h]; exact R.nonneg
  refine o3.load 0 rfl rfl ?_
  rw [pBin_lss, show decide (d < 0) = false from decide_eq_false (by omega), ifV_false]
  refine o3.load 0 rfl rfl ?_
  rw [pBin_gtr, show decide ((72057594037927936 : Int) < d) = false from decide_eq_false (by omega), ifV_false]
  refine o3.load 4 rfl rfl (o3.load 4 rfl rfl ?_)
  rw [pBin_eql]
  have hK' : ∀ h', Ext h1 h' → K (.bool true) h' := fun h' x => hK _ (x1.trans x fun _ h _ => h)
  rcases hr with ⟨q1, q2, q3, q4⟩ | ⟨q1, q2, q3, q4⟩
  · subst q2 q3 q4
    rw [q1, beq_self_eq_true, ifV_true]
    refine o3.load 0 rfl rfl ?_
    rw [pBin_eql, beq_self_eq_true, ifV_true]
    refine o3.load 0 rfl rfl ((o3.vw 1 rfl).len ?_)
    rw [show ((nI []).length : Int) = 0 from rfl, pBin_eql, beq_self_eq_true, ifV_true]
    refine o3.load 0 rfl rfl ((o3.vw 2 rfl).len ?_)
    rw [show (([] : List Ev).length : Int) = 0 from rfl, pBin_eql, beq_self_eq_true, ifV_true]
    exact works14_ok fun h6 x6 => hK' _ (o3.more x6).ext
  · rw [show ((Q.s : Int) == (Q.t : Int)) = false from by simp; omega, ifV_false]
    refine o3.load 0 rfl rfl ?_
    rw [pBin_lss, ifV_dec]
    have q2' := q2
    refine ⟨fun hlt => ?_, fun hge => ?_⟩
    · obtain ⟨w1, w2, w3, w4, w5⟩ := q3.resolve_left (fun h => by have := h.1; omega)
      refine o3.load 4 rfl rfl (o3.load 4 rfl rfl (o3.load 0 rfl rfl ?_))
      have hmost := hQ.r.most
      have chk := wchk_trail (w := 0) w2
      refine wcheck_ok hQ.r (net14 (L := [_, _, _]) hN o3) (o3.vw 1 rfl) (by rw [nI_len]; omega) (fun w h4 s1 s2 hc x4 => ?_) (fun h4 hn _ => absurd ⟨by omega, by exact_mod_cast hQ.s, _, chk⟩ hn)
      have hw : w = d := by
        have : some ((Q.t : Int), w) = some ((Q.t : Int), (0 : Int) + tsum Q.g.arcs arcs) := hc.symm.trans chk
        simp only [Option.some.injEq, Prod.mk.injEq] at this
        omega
      have o4 := o3.more x4
      clear o3
      simp only [pExt0, pExt1]
      rw [pUn_not, Bool.not_true, ifV_false]
      refine o4.load 0 rfl rfl ?_
      rw [hw, pBin_neq, bne_self_eq_false, ifV_false]
      refine o4.ldN (cs' := [I Q.g.n, vx, vy, vr]) 5 rfl rfl rfl (o4.ldN (cs' := [I Q.s, I Q.t, va, vp]) 4 rfl rfl rfl (o4.load 0 rfl rfl ?_))
      refine within_ok hQ (raw14 (L := [_, _, _]) o4) (asv14 (L := [_, _, _]) o4) (o4.vw 1 rfl) (by omega) w5 fun h5 x5 => ?_
      rw [pUn_not, Bool.not_true, ifV_false]
      exact exact3_ok hQ q1 q2 (o4.more x5) hK'
    · have e : arcs = [] := by
        rcases q3 with h | h
        · exact h.2
        · exact absurd (by rw [← q2]; omega) h.1
      subst e
      refine o3.load 0 rfl rfl ((o3.vw 1 rfl).len ?_)
      rw [show ((nI []).length : Int) = 0 from rfl, pBin_gtr, show decide ((0 : Int) < 0) = false from rfl, ifV_false]
      exact exact3_ok hQ q1 q2 o3 hK'

end
end Go.Proofs.YtkeoponidgpfpaaGreatDoor
