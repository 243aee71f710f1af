/- Texts of the proofs of seat YtkeoponidgpfpaaGreatDoor, joined: F14F. They have no conditions of their own. -/
import Derived.Test.YtkeoponidgpfpaaGreatDoorTc
import Derived.Test.YtkeoponidgpfpaaGreatDoorTa
import Derived.Test.YtkeoponidgpfpaaGreatDoorMd
set_option linter.unusedVariables false
set_option linter.unusedSimpArgs false

namespace Go.Proofs.YtkeoponidgpfpaaGreatDoor
open Go Go.Mh
set_option linter.unusedVariables false

section
variable {h0 h : Heap} {L M : List Res} {K : Value → Heap → Prop} {Q : Qs} {r : Nat} {v w vl : Value}

theorem eqS_scan {x : Bool} {a : Nat} {K : Value → Prop} (hk : K (.bool false)) : pEqS .neq 4 (.agg (encE (scanE x a)).toArray) (.agg #[I 1, I (sI x), I a, I 0]) K := by
  have e : decide (([1, sI x, (a : Int), 0] : List Int) = [1, sI x, (a : Int), 0]) = true := decide_eq_true rfl
  show 4 = 4 ∧ 4 = 4 ∧ K (.bool (!decide (([1, sI x, (a : Int), 0] : List Int) = [1, sI x, (a : Int), 0])))
  rw [e]; exact ⟨rfl, rfl, hk⟩

/-- What stays, with what was found and the ends. -/
abbrev bseO (Q : Qs) (d : Int) (arcs : List Nat) (evl : List Ev) (e8 f6 a4 g3 : Nat) (wa we vx vy vr va vp : Value) (N : Res) : List Res :=
  cellR e8 [I Q.s, I Q.t] T_2_int :: cellR f6 [I d, wa, we] T_api_Found :: slR encI 1 T_int wa (nI arcs) :: slR encE 4 T_api_Event we evl :: bse14 Q a4 g3 vx vy vr va vp N

variable {d : Int} {arcs : List Nat} {evl : List Ev} {e8 f6 a4 g3 : Nat} {wa we vx vy vr va vp : Value} {N : Res}

theorem once6_ok {Z : Value → Heap → Prop} {i : Nat} (hQ : Q.Ok) (hN : netR N r Q.g) (hel : evl.length ≤ 2 ^ 32) (hF : OnceF Q evl) (hi : i ≤ evl.length) (o : Own h0 h (bseO Q d arcs evl e8 f6 a4 g3 wa we vx vy vr va vp N))
    (hK : ∀ h', Ext h0 h' → K (.bool true) h') (hZ : ∀ h', i < evl.length → Own h0 h' (bseO Q d arcs evl e8 f6 a4 g3 wa we vx vy vr va vp N) → Z (I (i + 1 : Nat)) h') :
    sh_milestonelaw14_BothOnce_L6 Tryz.prog (ptr f6) (ptr r) (ptr a4) K (I i) h Z := by
  have hmany := hQ.r.many
  unfold sh_milestonelaw14_BothOnce_L6
  simp only [pField_ptr]
  refine o.load 1 rfl rfl ((o.vw 3 rfl).len ?_)
  rw [pBin_lss, ifV_dec]
  refine ⟨fun hlt => ?_, fun hge => hK _ o.ext⟩
  have hlt : i < evl.length := by omega
  refine o.load 1 rfl rfl ((o.vw 3 rfl).atN encE_len hlt ?_)
  have hblk := hF.blk i _ (List.getElem?_eq_getElem hlt)
  generalize evl[i] = e at hblk
  refine o.box fun x14 h1 o1 => o1.st (cs' := encE e) 0 rfl rfl rfl rfl rfl (by intro u hu; simp at hu; rcases hu with rfl | rfl | rfl | rfl <;> rfl) fun h2 o2 => ?_
  clear o1
  have o2 : Own h0 h2 (cellR x14 (encE e) T_api_Event :: bseO Q d arcs evl e8 f6 a4 g3 wa we vx vy vr va vp N) := o2
  have nxt : ∀ h', Own h0 h' (bseO Q d arcs evl e8 f6 a4 g3 wa we vx vy vr va vp N) → sh_milestonelaw14_BothOnce_k7 Tryz.prog (I i) Z h' := fun h' o => by
    unfold sh_milestonelaw14_BothOnce_k7
    rw [pBin_add, wI i (by omega)]
    exact hZ h' hlt o
  simp only [pField_ptr]
  refine o2.load 0 rfl rfl ?_
  rw [pBin_neq]
  by_cases hk : ¬ e.kind = 0
  · rw [show (e.kind != 0) = true from bne_iff_ne.2 hk, ifV_true]
    exact nxt _ o2.tail
  have hk : e.kind = 0 := Classical.not_not.1 hk
  rw [show (e.kind != 0) = false by simpa using hk, ifV_false]
  obtain ⟨x, u, rest, q1, q2, hu, hdr, hrest⟩ := hblk hk
  have hdl : evl.length = (i + 1) + (((outG Q.g x u).filter Q.alw).length + rest.length) := by
    have := congrArg List.length hdr
    rw [List.length_drop, List.length_append, List.length_map] at this
    have h2 : (Q.outs x u).length = ((outG Q.g x u).filter Q.alw).length := rfl
    omega
  have hget : ∀ q, evl[i + 1 + q]? = ((Q.outs x u).map (scanE x) ++ rest)[q]? := fun q => by rw [← hdr, List.getElem?_drop]
  refine o2.load 0 rfl rfl ?_
  have k8 : ∀ (vo : Value) h', Own h0 h' (slR encN 1 T_int vo (outG Q.g x u) :: cellR x14 (encE e) T_api_Event :: bseO Q d arcs evl e8 f6 a4 g3 wa we vx vy vr va vp N) → sh_milestonelaw14_BothOnce_k8 Tryz.prog (I i) (ptr a4) (ptr f6) (ptr x14) K Z vo h' := fun vo h' o => by
    unfold sh_milestonelaw14_BothOnce_k8
    rw [pBin_add, wI i (by omega)]
    have hol : (outG Q.g x u).length ≤ Q.g.arcs.length := by
      cases x
      · show (outsP _ _ _).length ≤ _
        rw [outsP_length]; exact List.countP_le_length
      · show (outsP _ _ _).length ≤ _
        rw [outsP_length]; exact List.countP_le_length
    generalize hO : outG Q.g x u = O at *
    have hon : ∀ a ∈ O, a < Q.g.arcs.length := fun a ha => (outG_ok.mem x u a (by rw [hO]; exact ha)).1
    have hget : ∀ q, evl[i + 1 + q]? = ((O.filter Q.alw).map (scanE x) ++ rest)[q]? := fun q => by rw [hget]; unfold Qs.outs; rw [hO]
    refine LoopH_count O.length (fun j y h' => y.1 = I (i + 1 + ((O.take j).filter Q.alw).length : Nat) ∧ y.2.1 = I j ∧ Own h0 h' (slR encN 1 T_int vo O :: cellR x14 (encE e) T_api_Event :: bseO Q d arcs evl e8 f6 a4 g3 wa we vx vy vr va vp N)) ⟨rfl, rfl, o⟩ ?_
    clear o
    rintro j ⟨y1, y2, ⟨⟩⟩ h3 Z2 hj ⟨hy1, hy2, o⟩ hZ2
    dsimp only at hy1 hy2 hZ2 ⊢
    subst hy1 hy2
    have hfl : ((O.take j).filter Q.alw).length ≤ (O.filter Q.alw).length := by
      conv => rhs; rw [← List.take_append_drop j O, List.filter_append, List.length_append]
      omega
    unfold sh_milestonelaw14_BothOnce_L9
    refine (o.vw 0 rfl).len ?_
    rw [pBin_lss, ifV_dec]
    refine ⟨fun hltj => ?_, fun hge => ?_⟩
    · have hltj : j < O.length := by omega
      have k11 : ∀ h', Own h0 h' (slR encN 1 T_int vo O :: cellR x14 (encE e) T_api_Event :: bseO Q d arcs evl e8 f6 a4 g3 wa we vx vy vr va vp N) →
          sh_milestonelaw14_BothOnce_k11 Tryz.prog (I j) (fun a0 a1 hz => Z2 (a0, (a1, ())) hz) (I (i + 1 + ((O.take (j + 1)).filter Q.alw).length : Nat)) h' := fun h' o => by
        unfold sh_milestonelaw14_BothOnce_k11
        rw [pBin_add, wI j (by omega)]
        exact hZ2 (_, _, ()) h' hltj ⟨rfl, rfl, o⟩
      refine cutP_of (fun y h'' => y.1 = .bool (!Q.alw O[j]) ∧ h'' = h3) (fun J hJ => ?_) ?_
      · simp only [pField_ptr]
        refine o.load 7 rfl rfl ((o.vw 12 rfl).len ?_)
        rw [pBin_gtr, ifV_dec]
        refine ⟨fun hal => ?_, fun hal => ?_⟩
        · have hlen : Q.allow.length = Q.g.arcs.length := by
            rcases hQ.allow with h | h
            · rw [h] at hal; simp at hal
            · exact h
          have hlt2 : O[j] < Q.allow.length := by rw [hlen]; exact hon _ (List.getElem_mem hltj)
          refine o.load 7 rfl rfl ((show Vw encN 1 _ vo O from o.vw 0 rfl).at1 (e := fun (x : Nat) => I x) (fun _ => rfl) hltj ((o.vw 12 rfl).at1 (e := fun x => .bool x) (fun _ => rfl) hlt2 ?_))
          rw [pUn_not]
          refine hJ _ _ ⟨?_, rfl⟩
          have e1 : Q.alw O[j] = Q.allow[O[j]] := by
            unfold Qs.alw
            rw [show Q.allow.isEmpty = false by cases hq : Q.allow with | nil => rw [hq] at hal; simp at hal | cons => rfl, Bool.false_or, List.getD_eq_getElem?_getD, List.getElem?_eq_getElem hlt2]
            rfl
          rw [e1]
        · refine hJ _ _ ⟨?_, rfl⟩
          have : Q.allow = [] := List.eq_nil_of_length_eq_zero (by omega)
          unfold Qs.alw
          rw [this]; rfl
      · rintro ⟨y, ⟨⟩⟩ h'' ⟨hy, rfl⟩
        dsimp only at hy ⊢
        subst hy
        unfold sh_milestonelaw14_BothOnce_C10
        cases ha : Q.alw O[j] with
        | false =>
          rw [Bool.not_false, ifV_true]
          have := k11 _ o
          rw [List.take_succ_eq_append_getElem hltj, List.filter_append, List.filter_cons_of_neg (by rw [ha]; decide)] at this
          simpa using this
        | true =>
          rw [Bool.not_true, ifV_false]
          have hfa := filter_at (p := Q.alw) hltj ha
          have hql : ((O.take j).filter Q.alw).length < (O.filter Q.alw).length := (List.getElem?_eq_some_iff.1 hfa).1
          have hev : evl[i + 1 + ((O.take j).filter Q.alw).length]? = some (scanE x O[j]) := by
            rw [hget, List.getElem?_append_left (by rw [List.length_map]; exact hql), List.getElem?_map, hfa]; rfl
          obtain ⟨hkl, hke⟩ := List.getElem?_eq_some_iff.1 hev
          refine cutP_of (fun y h' => y.1 = .bool false ∧ h' = h'') (fun J hJ => ?_) ?_
          · simp only [pField_ptr]
            refine o.load 3 rfl rfl ((o.vw 5 rfl).len ?_)
            rw [pBin_geq, show decide ((evl.length : Int) ≤ ((i + 1 + ((O.take j).filter Q.alw).length : Nat) : Int)) = false from decide_eq_false (by omega), ifV_false]
            refine o.load 3 rfl rfl ((o.vw 5 rfl).atN encE_len hkl ?_)
            rw [hke]
            refine o.load 1 rfl rfl ((show Vw encN 1 _ vo O from o.vw 0 rfl).at1 (e := fun (x : Nat) => I x) (fun _ => rfl) hltj ?_)
            refine pBuild_ones (cs' := [I 1, I e.side, I O[j], I 0]) (fun p hp => by simp at hp; rcases hp with rfl | rfl | rfl <;> rfl) rfl rfl ?_
            rw [q1]
            exact eqS_scan (hJ _ _ ⟨rfl, rfl⟩)
          · rintro ⟨y, ⟨⟩⟩ h' ⟨hy, rfl⟩
            dsimp only at hy ⊢
            subst hy
            unfold sh_milestonelaw14_BothOnce_C12
            rw [ifV_false, pBin_add, wI (i + 1 + ((O.take j).filter Q.alw).length) (by omega)]
            have := k11 _ o
            rw [List.take_succ_eq_append_getElem hltj, List.filter_append, List.filter_cons_of_pos ha, List.length_append] at this
            exact this
    · have : j = O.length := by omega
      subst this
      rw [List.take_length]
      simp only [pField_ptr]
      refine o.load 3 rfl rfl ((o.vw 5 rfl).len ?_)
      rw [pBin_lss, ifV_dec]
      refine ⟨fun hlk => ?_, fun _ => nxt _ o.tail.tail⟩
      have hlk : i + 1 + (O.filter Q.alw).length < evl.length := by omega
      have hr0 : evl[i + 1 + (O.filter Q.alw).length]? = rest[0]? := by
        rw [hget, List.getElem?_append_right (by rw [List.length_map]; omega), List.length_map, Nat.sub_self]
      have hkd : evl[i + 1 + (O.filter Q.alw).length].kind = 0 := hrest _ (by rw [← hr0]; exact List.getElem?_eq_getElem hlk)
      refine o.load 3 rfl rfl ((o.vw 5 rfl).atF (j := 0) (u := I evl[i + 1 + (O.filter Q.alw).length].kind) encE_len hlk (by decide) rfl ?_)
      rw [hkd, pBin_neq, bne_self_eq_false, ifV_false]
      exact nxt _ o.tail.tail
  rw [q2]
  refine outI_ok o2 hQ.r (net14 (L := [_, _, _, _, _]) hN o2) fun vo h3 o3 => ?_
  rw [if_pos ⟨by omega, by omega⟩, Int.toNat_natCast] at o3
  refine o3.load 1 rfl rfl ?_
  rw [q1, pBin_eql]
  cases x with
  | false =>
    rw [show (sI false == 1) = false from rfl, ifV_false]
    exact k8 vo h3 o3
  | true =>
    rw [show (sI true == 1) = true from rfl, ifV_true]
    refine o3.load 1 rfl rfl ?_
    rw [q2]
    refine inI_ok o3.tail hQ.r (net14 (L := [_, _, _, _, _]) hN o3.tail) fun vo2 h4 o4 => ?_
    rw [if_pos ⟨by omega, by omega⟩, Int.toNat_natCast] at o4
    exact k8 vo2 h4 o4

theorem bothOnce_ok {bs pis : List Int} {vb vpi : Value} {zf zt zo zl : Int} {sm mark : Bool} (Hb : Vw encU8 1 h vb bs) (Hpi : Vw encI 1 h vpi pis) (hf : 0 ≤ zf ∧ zf ≤ 255) (ht : 0 ≤ zt ∧ zt ≤ 255) (hl : 0 ≤ zl ∧ zl ≤ 255)
    (hK : ∀ h', Ext h h' → K (.bool true) h') : CallsH Tryz.prog F_milestonelaw14_BothOnce [dr14 vb vpi zf zt zo zl sm mark].toArray h K := by
  refine lk_milestonelaw14_BothOnce _ ?_
  unfold sh_milestonelaw14_BothOnce
  refine (Own.start h).box fun d1 h1 o1 => ?_
  have o1 : Own h h1 [cellR d1 [vb, .int .u8 zf, .int .u8 zt, .bool sm, .bool mark, .int .u64 zo, vpi, .int .u8 zl] T_milestonelaw14_Draft] := o1
  refine works14_ok fun h2 x2 => ?_
  have o2 := o1.more x2
  clear o1
  rw [pUn_not, Bool.not_true, ifV_false]
  refine o2.ldN (cs' := [vb, .int .u8 zf, .int .u8 zt, .bool sm, .bool mark, .int .u64 zo, vpi, .int .u8 zl]) 0 rfl rfl rfl ?_
  have x1 := o2.ext
  refine begin14 (Hb.more x1) (Hpi.more x1) hf ht hl fun Q a4 g3 vx vy vr va vp N r h3 hg hQ hFe hN o3 => ?_
  clear o2
  simp only [pEq_ptr_nil, Option.isNone_some, ifV_false]
  refine run14 hQ hN o3 fun d arcs evl f6 wa we h4 hr o4 => ?_
  rw [pBin_neq, show ((0 : Int) != 0) = false from rfl, ifV_false]
  clear o3
  have hel := res_len hQ hr
  have hmost := hQ.r.most
  have hmany := hQ.r.many
  have hF : OnceF Q evl := by
    rcases res_events hQ hr with h | ⟨st, S, R, _, h, _⟩
    · rw [h]; exact .nil
    · rw [h]; exact R.onceF
  have hO : OnceE Q.g.n Q.g.arcs.length evl := by
    rcases res_events hQ hr with h | ⟨st, S, R, _, h, _⟩
    · rw [h]; exact onceB_iff.1 rfl
    · rw [h]; exact R.once
  have hH : HeadsE Q.g evl := by
    rcases res_events hQ hr with h | ⟨st, S, R, _, h, _⟩
    · rw [h]; exact headsB_iff.1 rfl
    · rw [h]; exact R.heads
  simp only [pField_ptr]
  refine o4.load 0 rfl rfl (onceB_ok (net14 (L := [_, _, _]) hN o4) (o4.vw 2 rfl) (by omega) (onceB_iff.2 hO) fun h5 x5 => ?_)
  have o5 := o4.more x5
  clear o4
  rw [pUn_not, Bool.not_true, ifV_false]
  refine o5.load 0 rfl rfl (headsB_ok (net14 (L := [_, _, _]) hN o5) (o5.vw 2 rfl) (by omega) (headsB_iff.2 hH) fun h6 x6 => ?_)
  have o6 := o5.more x6
  clear o5
  rw [pUn_not, Bool.not_true, ifV_false]
  refine o6.load 4 rfl rfl (o6.load 4 rfl rfl ?_)
  refine pBuild_ones (cs' := [I Q.s, I Q.t]) (fun p hp => by simp at hp; rcases hp with rfl | rfl <;> rfl) rfl rfl ?_
  refine o6.box fun e8 h7 o7 => o7.st (cs' := [I Q.s, I Q.t]) 0 rfl rfl rfl rfl rfl (by intro u hu; simp at hu; rcases hu with rfl | rfl <;> rfl) fun h8 o8 => ?_
  have o8 : Own h2 h8 (bseO Q d arcs evl e8 f6 a4 g3 wa we vx vy vr va vp N) := o8
  clear o6 o7
  refine LoopH_count 2 (fun i y h' => y.1 = I i ∧ Own h2 h' (bseO Q d arcs evl e8 f6 a4 g3 wa we vx vy vr va vp N)) ⟨rfl, o8⟩ ?_
  clear o8
  rintro i ⟨y, ⟨⟩⟩ h9 Z hi ⟨hy, o⟩ hZ
  dsimp only at hy hZ ⊢
  subst hy
  unfold sh_milestonelaw14_BothOnce_L2
  rw [pBin_lss, ifV_dec]
  refine ⟨fun hlt => ?_, fun hge => ?_⟩
  · have hlt : i < 2 := by omega
    obtain ⟨x, hx⟩ : ∃ x : Bool, (i : Int) = sI x := by
      match i, hlt with
      | 0, _ => exact ⟨false, rfl⟩
      | 1, _ => exact ⟨true, rfl⟩
    have hx2 : 0 ≤ sI x ∧ sI x < 2 := by omega
    have k5 : ∀ h', Own h2 h' (bseO Q d arcs evl e8 f6 a4 g3 wa we vx vy vr va vp N) → sh_milestonelaw14_BothOnce_k5 Tryz.prog (I (sI x)) (fun a0 hz => Z (a0, ()) hz) h' := fun h' o' => by
      unfold sh_milestonelaw14_BothOnce_k5
      rw [pBin_add, ← hx, wI i (by omega)]
      exact hZ (_, ()) h' hlt ⟨rfl, o'⟩
    have ld : ∀ {L : List Res} {hh : Heap} {K2 : Value → Prop}, Own h2 hh (L ++ bseO Q d arcs evl e8 f6 a4 g3 wa we vx vy vr va vp N) → K2 (I (Q.src x)) → pLoad hh (.pointer (.some ⟨e8, 0 + (sI x).toNat * 1, none⟩)) K2 := fun o hk2 => by
      have o := Own.comm o
      cases x
      · exact o.load 0 rfl rfl hk2
      · exact o.load 0 rfl rfl hk2
    rw [hx]
    simp only [pField_ptr]
    refine o.load 1 rfl rfl (pops_ok o (o.vw 3 rfl) (by omega) fun w h10 o10 => ?_)
    clear o
    have hlen := hF.len x
    have hsrc := hF.src x
    generalize hP : ofE 0 (sI x) evl = P at o10 hlen hsrc
    refine cutP_of (fun y h'' => y.1 = .bool false ∧ Own h2 h'' (slR encI 1 T_int w P :: bseO Q d arcs evl e8 f6 a4 g3 wa we vx vy vr va vp N)) (fun J hJ => ?_) ?_
    · refine (o10.vw 0 rfl).len (o10.load 7 rfl rfl ?_)
      rw [pBin_gtr, show decide ((Q.g.n : Int) < (P.length : Int)) = false from decide_eq_false (by omega), ifV_false]
      refine o10.load 2 rfl rfl (o10.load 7 rfl rfl ((o10.vw 10 rfl).len ?_))
      refine scans_ok o10 (o10.vw 4 rfl) (by omega) fun w2 h11 o11 => ⟨o11.load 8 rfl rfl rfl, (o11.vw 0 rfl).len ?_⟩
      have := ofE_few hO (s := sI x)
      rw [pBin_gtr, show decide ((Q.g.arcs.length : Int) < ((ofE 1 (sI x) evl).length : Int)) = false from decide_eq_false (by omega)]
      exact hJ _ _ ⟨rfl, o11.tail⟩
    · rintro ⟨y, ⟨⟩⟩ h'' ⟨hy, o⟩
      dsimp only at hy ⊢
      subst hy
      clear o10
      unfold sh_milestonelaw14_BothOnce_C3
      rw [ifV_false]
      refine (o.vw 0 rfl).len ?_
      rw [pBin_gtr, ifV_dec]
      refine ⟨fun hp => ?_, fun _ => k5 _ o.tail⟩
      obtain ⟨rr, hPr, hlab⟩ := hsrc.resolve_left (fun h => by rw [h] at hp; simp at hp)
      simp only [pField_ptr]
      refine o.load 2 rfl rfl ?_
      rw [pIdxA_ptr]
      refine ⟨hx2, ld (L := [_]) o ?_⟩
      refine labelI_ok (o.vw 4 rfl) (by omega) hlab fun h12 x12 => ?_
      have o12 := o.more x12
      simp only [labV, pExt0, pExt1]
      refine cutP_of (fun y h' => y.1 = .bool false ∧ h' = h12) (fun J hJ => ?_) ?_
      · have hp0 : P[0]? = .some (Q.src x : Int) := by rw [hPr]; rfl
        refine (o12.vw 0 rfl).atQ (i := 0) hp0 ?_
        rw [pIdxA_ptr]
        refine ⟨hx2, ld (L := [_]) o12 ?_⟩
        rw [pBin_neq, bne_self_eq_false, ifV_false, pBin_neq, bne_self_eq_false]
        exact hJ _ _ ⟨rfl, rfl⟩
      · rintro ⟨y, ⟨⟩⟩ h' ⟨hy, rfl⟩
        dsimp only at hy ⊢
        subst hy
        unfold sh_milestonelaw14_BothOnce_C4
        rw [ifV_false]
        exact k5 _ o12.tail
  · refine LoopH_count evl.length (fun i y h' => y.1 = I i ∧ Own h2 h' (bseO Q d arcs evl e8 f6 a4 g3 wa we vx vy vr va vp N)) ⟨rfl, o⟩ ?_
    clear o hZ
    rintro j ⟨y, ⟨⟩⟩ h10 Z2 hj ⟨hy, o⟩ hZ2
    dsimp only at hy hZ2 ⊢
    subst hy
    exact once6_ok hQ hN hel hF hj o (fun h' x => hK _ (x1.trans x fun _ h _ => h)) fun h' hl o' => hZ2 (_, ()) h' hl ⟨rfl, o'⟩

end
end Go.Proofs.YtkeoponidgpfpaaGreatDoor
