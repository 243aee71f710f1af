/- Texts of the proofs of seat YtkeoponidgpfpaaGreatDoor, joined: F14E. They have no conditions of their own. -/
import Derived.Test.YtkeoponidgpfpaaGreatDoorTc
import Derived.Test.YtkeoponidgpfpaaGreatDoorMd
set_option linter.unusedVariables false
set_option linter.unusedSimpArgs false

namespace Go.Proofs.YtkeoponidgpfpaaGreatDoor
open Go Go.Mh
set_option linter.unusedVariables false

section
variable {h0 h : Heap} {L M : List Res} {K : Value → Heap → Prop} {Q : Qs} {r : Nat} {v w vl : Value}

/-- One asking, and what is looked at. -/
theorem berr1_ok {g : G} {f t : Int} {va vp v : Value} {al : List Bool} {pi : List Int} {a5 : Nat} {i : Nat} {t55 : Value} {Z : Value → Heap → Prop} (hR : g.Right) (hi : i < 4) (H : NetR h r g)
    (hx : ∀ {K : Value → Prop}, K (.agg #[I f, I t, va, vp]) → pIdxVN 4 4 t55 (I i) K) (Ha : Vw encBo 1 h va al) (Hp : Vw encI 1 h vp pi) (hv : ∀ h', Ext h h' → ∀ {K : Value → Prop}, (RawV h' v g → K v) → pLoadN 4 h' (ptr a5) K) (HV : RawV h v g)
    (hZ : ∀ h', Ext h h' → Z (I (i + 1 : Nat)) h') : sh_milestonelaw14_BothErrors_L1 Tryz.prog t55 (ptr r) (ptr a5) K (I i) h Z := by
  unfold sh_milestonelaw14_BothErrors_L1
  rw [pBin_lss, show decide ((i : Int) < 4) = true from decide_eq_true (by omega), ifV_true]
  refine hx ?_
  have p1 := Ha.one
  have p2 := Hp.one
  have p3 := Ha.plain
  have p4 := Hp.plain
  refine (Own.start h).box fun x11 h1 o1 => o1.st (cs' := [I f, I t, va, vp]) 0 rfl rfl rfl rfl rfl (by intro u hu; simp at hu; rcases hu with rfl | rfl | rfl | rfl <;> first | rfl | assumption) fun h2 o2 => ?_
  clear o1
  have o2 : Own h h2 [cellR x11 [I f, I t, va, vp] T_api_Ask] := o2
  refine o2.ldN (cs' := [I f, I t, va, vp]) 0 rfl rfl rfl ?_
  have k3 : ∀ h', Ext h h' → sh_milestonelaw14_BothErrors_k3 Tryz.prog (I i) Z h' := fun h' x => by
    unfold sh_milestonelaw14_BothErrors_k3
    rw [pBin_add, wI i (by omega)]
    exact hZ h' x
  have tl : ∀ (d : Int) (wa we : Value) (e : Int) (n m : Nat) h3 (M : List Res), wa.cells = #[wa] → we.cells = #[we] → Mh.plainCell wa = true → Mh.plainCell we = true → Own h h3 (M ++ [cellR x11 [I f, I t, va, vp] T_api_Ask]) → e = (if rightP g f t al.length pi.length then 0 else 2) → (e ≠ 0 → d = 0 ∧ wa = sl0 ∧ we = sl0) →
      (pBox T_api_Found (.agg #[(.int .i64 0), (.slice none 0 0), (.slice none 0 0)]) h3 fun f12 h_25 => pStore 3 f12 (.agg #[I d, wa, we]) h_25 fun u_9 h_26 => pLoadN 4 h_26 (ptr a5) fun t66 => pLoadN 4 h_26 (ptr x11) fun t67 =>
        callS Tryz.prog F_milestoneref14_Error [t66, t67] h_26 fun t68 h_27 => pBin .neq (I e) t68 fun t69 => ifV t69 (sh_milestonelaw14_BothErrors_k2 Tryz.prog K h_27) (pBin .neq (I e) (.int .i64 0) fun t72 => ifV t72 (pField 0 f12 fun t74 => pLoad h_27 t74 fun t75 => pBin .neq t75 (.int .i64 0) fun t76 =>
          ifV t76 (sh_milestonelaw14_BothErrors_k2 Tryz.prog K h_27) (pField 1 f12 fun t78 => pLoad h_27 t78 fun t79 => pLen t79 fun t80 => pBin .gtr t80 (.int .i64 0) fun t81 => ifV t81 (sh_milestonelaw14_BothErrors_k2 Tryz.prog K h_27)
            (pField 2 f12 fun t84 => pLoad h_27 t84 fun t85 => pLen t85 fun t86 => pBin .gtr t86 (.int .i64 0) fun t87 => ifV t87 (sh_milestonelaw14_BothErrors_k2 Tryz.prog K h_27) (sh_milestonelaw14_BothErrors_k3 Tryz.prog (I i) Z h_27))))
          (sh_milestonelaw14_BothErrors_k3 Tryz.prog (I i) Z h_27))) := fun d wa we e n m h3 M c1 c2 c3 c4 o3 he hz => by
    refine o3.box fun f12 h4 o4 => ?_
    have e0 : (Value.agg #[I 0, sl0, sl0]).cells.toList = [I 0, sl0, sl0] := rfl
    rw [e0] at o4
    refine o4.st (cs' := [I d, wa, we]) 0 rfl rfl rfl rfl rfl (by intro u hu; simp at hu; rcases hu with rfl | rfl | rfl <;> first | rfl | assumption) fun h5 o5 => ?_
    have o5 : Own h h5 (cellR f12 [I d, wa, we] T_api_Found :: (M ++ [cellR x11 [I f, I t, va, vp] T_api_Ask])) := o5
    refine hv h5 o5.ext fun hr => ?_
    have o6 := Own.comm (L := cellR f12 [I d, wa, we] T_api_Found :: M) (L' := [cellR x11 [I f, I t, va, vp] T_api_Ask]) o5
    refine o6.ldN (cs' := [I f, I t, va, vp]) 0 rfl rfl rfl ?_
    refine rerror_ok hr (Ha.more o6.ext) (Hp.more o6.ext) fun h7 x7 => ?_
    have o7 := o6.more x7
    rw [← he, pBin_neq, bne_self_eq_false, ifV_false, pBin_neq, ifV_bne]
    refine ⟨fun hne => ?_, fun _ => k3 _ o7.ext⟩
    obtain ⟨rfl, rfl, rfl⟩ := hz hne
    simp only [pField_ptr]
    refine o7.load 1 rfl rfl ?_
    rw [pBin_neq, bne_self_eq_false, ifV_false]
    refine o7.load 1 rfl rfl ?_
    rw [pLen_sl, pBin_gtr, show decide ((0 : Int) < ((0 : Nat) : Int)) = false from rfl, ifV_false]
    refine o7.load 1 rfl rfl ?_
    rw [pLen_sl, pBin_gtr, show decide ((0 : Int) < ((0 : Nat) : Int)) = false from rfl, ifV_false]
    exact k3 _ o7.ext
  refine brun_ok hR (H.more o2.ext) (Ha.more o2.ext) (Hp.more o2.ext) (fun hb h3 x3 => ?_) (fun hb _ h3 x3 => ?_) fun s t' es et hQ' hne wa we arcs h3 _ o3 => ?_
  · simp only [pExt0, pExt1]
    exact tl 0 sl0 sl0 2 0 0 h3 [] rfl rfl rfl rfl (o2.more x3) (by rw [if_neg hb]) fun _ => ⟨rfl, rfl, rfl⟩
  · simp only [pExt0, pExt1]
    exact tl 0 sl0 sl0 0 0 0 h3 [] rfl rfl rfl rfl (o2.more x3) (by rw [if_pos hb]) fun h => absurd rfl h
  · simp only [pExt0, pExt1]
    have hb : rightP g f t al.length pi.length := by rw [es, et]; exact right_of hQ'
    exact tl _ wa we 0 0 0 h3 [_, _] (o3.vw 0 rfl).one (o3.vw 1 rfl).one (o3.vw 0 rfl).plain (o3.vw 1 rfl).plain (o2.frame o3) (by rw [if_pos hb]) fun h => absurd rfl h

theorem bothErrors_ok {bs pis pis1 : List Int} {al1 : List Bool} {f t : Int} {va1 vp1 vb vpi : Value} {zf zt zo zl : Int} {sm mark : Bool} (Hb : Vw encU8 1 h vb bs) (Hpi : Vw encI 1 h vpi pis) (hf : 0 ≤ zf ∧ zf ≤ 255) (ht : 0 ≤ zt ∧ zt ≤ 255) (hl : 0 ≤ zl ∧ zl ≤ 255)
    (Ha : Vw encBo 1 h va1 al1) (Hp : Vw encI 1 h vp1 pis1) (hK : ∀ h', Ext h h' → K (.bool true) h') : CallsH Tryz.prog F_milestonelaw14_BothErrors [dr14 vb vpi zf zt zo zl sm mark, .agg #[I f, I t, va1, vp1]].toArray h K := by
  refine lk_milestonelaw14_BothErrors _ _ ?_
  unfold sh_milestonelaw14_BothErrors
  refine (Own.start h).box fun d1 h1 o1 => o1.box fun a3 h2 o2 => ?_
  have o2 : Own h h2 [cellR a3 [I f, I t, va1, vp1] T_api_Ask, cellR d1 [vb, .int .u8 zf, .int .u8 zt, .bool sm, .bool mark, .int .u64 zo, vpi, .int .u8 zl] T_milestonelaw14_Draft] := o2
  clear o1
  refine o2.ldN (cs' := [vb, .int .u8 zf, .int .u8 zt, .bool sm, .bool mark, .int .u64 zo, vpi, .int .u8 zl]) 1 rfl rfl rfl ?_
  refine begin14 (Hb.more o2.ext) (Hpi.more o2.ext) hf ht hl fun Q a4 g3 vx vy vr va vp N r h3 hg hQ hFe hN o3' => ?_
  have o3 : Own h h3 (bse14 Q a4 g3 vx vy vr va vp N ++ [cellR a3 [I f, I t, va1, vp1] T_api_Ask, cellR d1 [vb, .int .u8 zf, .int .u8 zt, .bool sm, .bool mark, .int .u64 zo, vpi, .int .u8 zl] T_milestonelaw14_Draft]) := o2.frame o3'
  clear o2 o3'
  simp only [pEq_ptr_nil, Option.isNone_some, ifV_false, pField_ptr]
  have cut : ∀ n : Nat, (if (30 : Int) < n then 30 else (n : Int)) = ((min n 30 : Nat) : Int) := fun n => by split <;> omega
  refine o3.load 8 rfl rfl (o3.load 8 rfl rfl ((Ha.more o3.ext).len ?_))
  rw [pMin_int, cut]
  refine (Ha.more o3.ext).subA (a := 0) (j := min al1.length 30) (fun _ => rfl) rfl rfl (by omega) (by omega) fun va2 hva => ?_
  have V2 := hva _ (Ha.more o3.ext)
  refine o3.st1 8 (cs' := [I f, I t, va2, vp1]) rfl rfl rfl V2.one V2.plain fun h4 o4 => ?_
  refine o4.load 8 rfl rfl (o4.load 8 rfl rfl ((Hp.more o4.ext).len ?_))
  rw [pMin_int, cut]
  refine (Hp.more o4.ext).subA (a := 0) (j := min pis1.length 30) encI_len rfl rfl (by omega) (by omega) fun vp2 hvp => ?_
  have V3 := hvp _ (Hp.more o4.ext)
  refine o4.st1 8 (cs' := [I f, I t, va2, vp2]) rfl rfl rfl V3.one V3.plain fun h5 o5 => ?_
  clear o3 o4
  have o5 : Own h h5 [N, cellR a4 [I Q.s, I Q.t, va, vp] T_api_Ask, cellR g3 [I Q.g.n, vx, vy, vr] T_api_Raw, xR vx Q.g.X, xR vy Q.g.Y, aR vr Q.g.arcs, slR encBo 1 T_bool va Q.allow, xR vp Q.pi, cellR a3 [I f, I t, va2, vp2] T_api_Ask, cellR d1 [vb, .int .u8 zf, .int .u8 zt, .bool sm, .bool mark, .int .u64 zo, vpi, .int .u8 zl] T_milestonelaw14_Draft] := o5
  have pl1 := (o5.vw 6 rfl).plain
  have pl2 := (o5.vw 7 rfl).plain
  refine o5.ldN (cs' := [I Q.s, I Q.t, va, vp]) 1 rfl rfl rfl ?_
  refine o5.box fun n8 h6 o6 => o6.st (cs' := [I Q.s, I Q.t, va, vp]) 0 rfl rfl rfl rfl rfl (by intro u hu; simp at hu; rcases hu with rfl | rfl | rfl | rfl <;> first | rfl | assumption) fun h7 o7 => ?_
  simp only [pField_ptr]
  refine o7.load 9 rfl rfl (o7.st1 0 (cs' := [I f, I Q.t, va, vp]) rfl rfl rfl rfl rfl fun h8 o8 => ?_)
  clear o5 o6 o7
  refine o8.ldN (cs' := [I Q.s, I Q.t, va, vp]) 2 rfl rfl rfl ?_
  refine o8.box fun w9 h9 o9 => o9.st (cs' := [I Q.s, I Q.t, va, vp]) 0 rfl rfl rfl rfl rfl (by intro u hu; simp at hu; rcases hu with rfl | rfl | rfl | rfl <;> first | rfl | assumption) fun h10 o10 => ?_
  clear o8 o9
  have hpl : Q.pi.length ≤ 2 ^ 32 := by
    have := hQ.r.most
    rcases hQ.pi with h | h
    · rw [h]; exact Nat.zero_le _
    · omega
  refine o10.build (enc := encI) (n := 1) (T := T_int64) ([] : List Int) rfl (sizesOk_of rfl) rfl fun w0 h11 o11 => ?_
  refine o11.load 4 rfl rfl ?_
  refine o11.app 0 rfl encI_len encI_plain rfl (o11.vw 10 rfl) (by decide) (by rw [List.length_nil]; omega) fun w1 h12 o12 => ?_
  refine o12.app1 0 (0 : Int) rfl rfl (sizesOk_of rfl) encI_len encI_plain rfl (by decide) (by rw [List.length_append, List.length_nil]; omega) fun w2 h13 o13 => ?_
  simp only [pField_ptr]
  refine o13.st1 1 (cs' := [I Q.s, I Q.t, va, w2]) rfl rfl rfl (o13.vw 0 rfl).one (o13.vw 0 rfl).plain fun h14 o14 => ?_
  clear o10 o11 o12 o13
  refine o14.ldN (cs' := [I f, I t, va2, vp2]) 11 rfl rfl rfl (o14.ldN (cs' := [I Q.s, I Q.t, va, vp]) 4 rfl rfl rfl (o14.ldN (cs' := [I f, I Q.t, va, vp]) 2 rfl rfl rfl (o14.ldN (cs' := [I Q.s, I Q.t, va, w2]) 1 rfl rfl rfl ?_)))
  refine ⟨sizesOk_of rfl, ?_⟩
  have o14 : Own h h14 (xR w2 ([] ++ Q.pi ++ [0]) :: bse14 Q a4 g3 vx vy vr va vp N) := o14.sel [0, 3, 4, 5, 6, 7, 8, 9, 10] (by decide)
  generalize ht55 : Value.agg (List.toArray (spliceAll _ _)) = t55
  have hxs : ∀ i : Nat, i < 4 → ∃ (f t : Int) (va' vp' : Value) (al : List Bool) (pi : List Int), (∀ {K : Value → Prop}, K (.agg #[I f, I t, va', vp']) → pIdxVN 4 4 t55 (I i) K) ∧ ∀ h', Own h h' (xR w2 ([] ++ Q.pi ++ [0]) :: bse14 Q a4 g3 vx vy vr va vp N) → Vw encBo 1 h' va' al ∧ Vw encI 1 h' vp' pi := by
    intro i hi
    subst ht55
    match i, hi with
    | 0, _ => exact ⟨f, t, va2, vp2, _, _, fun hk => ⟨by decide, by decide, by rw [List.extract_toArray]; exact hk⟩, fun h' o => ⟨hva _ (Ha.more o.ext), hvp _ (Hp.more o.ext)⟩⟩
    | 1, _ => exact ⟨Q.s, Q.t, va, vp, _, _, fun hk => ⟨by decide, by decide, by rw [List.extract_toArray]; exact hk⟩, fun h' o => ⟨o.vw 7 rfl, o.vw 8 rfl⟩⟩
    | 2, _ => exact ⟨f, Q.t, va, vp, _, _, fun hk => ⟨by decide, by decide, by rw [List.extract_toArray]; exact hk⟩, fun h' o => ⟨o.vw 7 rfl, o.vw 8 rfl⟩⟩
    | 3, _ => exact ⟨Q.s, Q.t, va, w2, _, _, fun hk => ⟨by decide, by decide, by rw [List.extract_toArray]; exact hk⟩, fun h' o => ⟨o.vw 7 rfl, o.vw 0 rfl⟩⟩
  clear ht55
  refine LoopH_count 4 (fun i y h' => y.1 = I i ∧ Own h h' (xR w2 ([] ++ Q.pi ++ [0]) :: bse14 Q a4 g3 vx vy vr va vp N)) ⟨rfl, o14⟩ ?_
  clear o14
  rintro i ⟨y, ⟨⟩⟩ h15 Z hi ⟨hy, o⟩ hZ
  dsimp only at hy hZ ⊢
  subst hy
  by_cases hlt : i < 4
  · obtain ⟨f', t', va', vp', al, pi, hx, hv⟩ := hxs i hlt
    obtain ⟨v1, v2⟩ := hv _ o
    exact berr1_ok hQ.r hlt (net14 (L := [_]) hN o) hx v1 v2 (fun h' x K hk => (o.more x).ldN (cs' := [I Q.g.n, vx, vy, vr]) 3 rfl rfl rfl (hk (raw14 (L := [_]) (o.more x)))) (raw14 (L := [_]) o) fun h' x => hZ (_, ()) h' hlt ⟨rfl, o.more x⟩
  · unfold sh_milestonelaw14_BothErrors_L1
    rw [pBin_lss, show decide ((i : Int) < 4) = false from decide_eq_false (by omega), ifV_false]
    exact works14_ok fun h6 x6 => hK _ (o.more x6).ext

end
end Go.Proofs.YtkeoponidgpfpaaGreatDoor
