/- Texts of the proofs of seat YtlkcpceobicoiaaGreatDoor, joined: L24D. They have no conditions of their own. -/
import Derived.Test.YtlkcpceobicoiaaGreatDoorTb
import Derived.Test.YtlkcpceobicoiaaGreatDoorMc
set_option linter.unusedVariables false
set_option linter.unusedSimpArgs false

namespace Go.Proofs.YtlkcpceobicoiaaGreatDoor
open Go Go.Mh
set_option linter.unusedVariables false

section
variable {h0 h : Heap} {L : List Res} {K : Value → Heap → Prop} {g : G} {vb vn vm : Value} {bs ns : List Int} {ms : List Bool}

def nl16 (ns : List Int) (i : Nat) : List Int := (ns.take i).map fun z => z.tmod 16

theorem tightTells_ok (H : Vw encU8 1 h vb bs) (Hn : Vw (encK .i8) 1 h vn ns) (hr : ∀ a ∈ ns, -128 ≤ a ∧ a ≤ 127) (Hm : Vw encB 1 h vm ms) (hK : ∀ h', Ext h h' → K (.bool true) h') :
    CallsH Tryz.prog F_milestonelaw24_TightTells [vb, vn, vm].toArray h K := by
  refine lk_milestonelaw24_TightTells _ _ _ ?_
  unfold sh_milestonelaw24_TightTells
  refine drawn24_ok H fun g vx vy va h2 hg o2 => ?_
  have hR := hg.toRight
  have hmost := hR.most
  have hpos := hR.pos
  have hmany := hR.many
  refine o2.box fun b h3 o3 => o3.st (cs' := [I g.n, vx, vy, va]) 0 rfl rfl rfl rfl rfl ?_ fun h4 o4 => ?_
  · intro u hu
    simp at hu
    rcases hu with rfl | rfl | rfl | rfl
    · rfl
    · exact (o2.vw 0 rfl).plain
    · exact (o2.vw 1 rfl).plain
    · exact (o2.vw 2 rfl).plain
  refine o4.ldN 0 rfl rfl rfl (made24_ok o4 hR (rawOf o4 1 2 3 rfl rfl rfl) fun r N h5 hN o5 => ?_)
  simp only [pEq_ptr_nil, Option.isNone_some, ifV_false]
  have o6 : Own h h5 [N, cellR b [I g.n, vx, vy, va] T_api_Raw, xR vx g.X, xR vy g.Y, aR va g.arcs] := o5.sel [0, 1, 2, 3, 4] (by decide)
  refine LoopH_count ns.length (fun i x h' => x.2.1 = I i ∧ i ≤ 6 ∧ Own h h' [slR encI 1 T_int x.1 (nl16 ns i), N, cellR b [I g.n, vx, vy, va] T_api_Raw, xR vx g.X, xR vy g.Y, aR va g.arcs]) ⟨rfl, by omega, o6.nilS⟩ ?_
  clear o6 o5 o4 o3 o2
  rintro i ⟨vl, x, ⟨⟩⟩ h' Z hi ⟨hx, hi6, o⟩ hZ
  dsimp only at hx o hZ ⊢
  subst hx
  unfold sh_milestonelaw24_TightTells_L1
  have hlen : (nl16 ns i).length = i := by simp [nl16]; omega
  have pe : ∀ {c d : Bool} {K : Value → Prop}, c = d → K (.bool false) → pEq true .bool (.bool c) (.bool d) K := fun e hk => by subst e; simpa [pEq] using hk
  have k2 : sh_milestonelaw24_TightTells_k2 Tryz.prog (ptr b) (ptr r) vl K vm h' := by
    unfold sh_milestonelaw24_TightTells_k2
    refine o.ldN 2 rfl rfl rfl ?_
    refine tany_ok o 1 rfl hR hN (o.vw 0 rfl) (by rw [hlen]; omega) fun w2 h6 o6 => ?_
    refine ⟨o6.ldN 3 rfl rfl rfl rfl, ?_⟩
    refine rany24_ok (N := N) o6 hR (rawOf o6 4 5 6 rfl rfl rfl) (o6.vw 1 rfl) (by rw [hlen]; omega) fun w3 h7 o7 => ?_
    refine truths_ok (o7.vw 1 rfl) (o7.vw 0 rfl) (by simp; omega) ?_
    rw [pUn_not, Bool.not_true, ifV_false]
    have o8 : Own h h7 [N, cellR b [I g.n, vx, vy, va] T_api_Raw, xR vx g.X, xR vy g.Y, aR va g.arcs] := o7.sel [3, 4, 5, 6, 7] (by decide)
    clear o7 o6 o
    refine (Hm.more o8.ext).len (o8.load 1 rfl rfl ((o8.vw 4 rfl).len ?_))
    rw [pMin_int]
    refine Hm.sub (a := 0) (j := min ms.length g.arcs.length) (fun _ => rfl) rfl (by simp only [bndOf]; congr 1; split <;> omega) (by omega) (by omega) fun vm' hm' => ?_
    rw [List.drop_zero, Nat.sub_zero] at hm'
    have htl : (ms.take (min ms.length g.arcs.length)).length = min ms.length g.arcs.length := by rw [List.length_take]; omega
    have hta : (ms.take (min ms.length g.arcs.length)).length ≤ g.arcs.length := by omega
    generalize ms.take (min ms.length g.arcs.length) = ts at hm' htl hta
    clear hZ
    have hm2 : Vw encT 1 h vm' ts := hm'
    refine LoopH_count (g.n + 2) (fun i x h' => x.1 = I ((i : Int) - 1) ∧ ∃ h9, Own h h' [N, cellR b [I g.n, vx, vy, va] T_api_Raw, xR vx g.X, xR vy g.Y, aR va g.arcs] ∧ h9 = h') ⟨rfl, _, o8, rfl⟩ ?_
    clear o8
    rintro i ⟨x, ⟨⟩⟩ h8 Z hi ⟨hx, _, o, _⟩ hZ
    dsimp only at hx hZ ⊢
    subst hx
    unfold sh_milestonelaw24_TightTells_L3
    simp only [pField_ptr]
    refine o.load 1 rfl rfl ?_
    simp only [pBin_leq, ifV_dec]
    refine ⟨fun hle => ?_, fun hgt => works24_ok fun h9 x9 => hK _ (o.more x9).ext⟩
    refine o.ldN 1 rfl rfl rfl ?_
    refine tarcs_ok o 0 rfl hR hN fun w4 h9 o9 => ?_
    refine ⟨o9.ldN 2 rfl rfl rfl rfl, ?_⟩
    refine rarcs24_ok o9 hR (rawOf o9 3 4 5 rfl rfl rfl) fun w5 h10 o10 => ?_
    refine truths_ok (o10.vw 1 rfl) (o10.vw 0 rfl) (by simp; omega) ?_
    rw [pUn_not, Bool.not_true, ifV_false]
    have o11 : Own h h10 [N, cellR b [I g.n, vx, vy, va] T_api_Raw, xR vx g.X, xR vy g.Y, aR va g.arcs] := o10.sel [2, 3, 4, 5, 6] (by decide)
    clear o10 o9 o
    have hZ' : ∀ h', Own h h' [N, cellR b [I g.n, vx, vy, va] T_api_Raw, xR vx g.X, xR vy g.Y, aR va g.arcs] → Z (I ((i : Int) - 1 + 1), ()) h' := fun h' o => hZ (_, ()) h' (by omega) ⟨congrArg (fun z : Int => I z) (by omega), _, o, rfl⟩
    clear hZ
    have hv0 : -1 ≤ (i : Int) - 1 := by omega
    generalize (i : Int) - 1 = v at hle hZ' hv0
    refine LoopH_count (g.n + 2) (fun k x h' => x.1 = I ((k : Int) - 1) ∧ ∃ h9, Own h h' [N, cellR b [I g.n, vx, vy, va] T_api_Raw, xR vx g.X, xR vy g.Y, aR va g.arcs] ∧ h9 = h') ⟨rfl, _, o11, rfl⟩ ?_
    clear o11
    rintro k ⟨x, ⟨⟩⟩ h8 Z2 hk ⟨hx, _, o, _⟩ hZ2
    dsimp only at hx hZ2 ⊢
    subst hx
    unfold sh_milestonelaw24_TightTells_L4
    simp only [pField_ptr]
    refine o.load 1 rfl rfl ?_
    simp only [pBin_leq (b := (g.n : Int)), ifV_dec]
    refine ⟨fun hle2 => ?_, fun hgt => ?_⟩
    · refine twalk_ok hR (hN _ (o.get 0 rfl)) (hm2.more o.ext) (by omega) fun c arcs w h9 W o9 => ?_
      have oo := o.more o9.ext
      replace o9 := o.frame o9
      simp only [pExt0, pExt1]
      refine oo.ldN 1 rfl rfl rfl ?_
      refine rreach_ok hR (rawOf oo 2 3 4 rfl rfl rfl) (hm2.more oo.ext) (by omega) fun c' h10 hc' x10 => ?_
      have hcc : c = c' := Bool.eq_iff_iff.2 (W.is.trans hc'.symm)
      refine pe hcc ?_
      rw [ifV_false, pUn_not]
      have next : ∀ h', Ext h10 h' → sh_milestonelaw24_TightTells_k5 Tryz.prog (I ((k : Int) - 1)) (fun a0 hz => Z2 (a0, ()) hz) h' := by
        intro h' x'
        unfold sh_milestonelaw24_TightTells_k5
        rw [pBin_add, w64 (by omega) (by omega)]
        exact hZ2 (_, ()) h' (by omega) ⟨congrArg (fun z : Int => I z) (by omega), _, (oo.more x10).more x', rfl⟩
      have ow := o9.more x10
      have hal := W.len
      cases c with
      | false =>
        rw [Bool.not_false, ifV_true]
        rw [W.no rfl] at ow
        refine (ow.vw 0 rfl).len ?_
        rw [pBin_gtr, decide_eq_false (by simp [nI]), ifV_false]
        exact next h10 (.refl _ _)
      | true =>
        rw [Bool.not_true, ifV_false]
        have tr := W.tr rfl
        obtain ⟨⟨s0, s1⟩, ⟨b0, b1⟩, _⟩ := W.is.1 rfl
        have own := W.own
        generalize hs : (k : Int) - 1 = s at tr s0 s1 next own
        have e := wchk_trail (w := 0) tr
        rw [Int.toNat_of_nonneg b0, Int.toNat_of_nonneg s0] at e
        refine wcheck_ok hR (hN _ (ow.get 1 rfl)) (ow.vw 0 rfl) (by simp [nI]; omega) (fun w2 h11 _ _ _ x11 => ?_) fun h11 hno x11 => absurd ⟨s0, s1, _, e⟩ hno
        simp only [pExt0, pExt1]
        rw [pUn_not, Bool.not_true, ifV_false]
        have ox := ow.more x11
        have k7 : sh_milestonelaw24_TightTells_k7 Tryz.prog w vm' K (I s) (fun a0 hz => Z2 (a0, ()) hz) h11 := by
          unfold sh_milestonelaw24_TightTells_k7
          refine LoopH_count arcs.length (fun j x h' => x.1 = I j ∧ h' = h11) ⟨rfl, rfl⟩ ?_
          rintro j ⟨x, ⟨⟩⟩ h' Z3 hj ⟨hx, rfl⟩ hZ3
          dsimp only at hx hZ3 ⊢
          subst hx
          unfold sh_milestonelaw24_TightTells_L8
          refine (ox.vw 0 rfl).len ?_
          rw [show (nI arcs).length = arcs.length by simp [nI]]
          simp only [pBin_lss, ifV_dec]
          refine ⟨fun hlt => ?_, fun hge => next h' x11⟩
          have hlt : j < arcs.length := by omega
          have hq : (nI arcs)[j]? = some ((arcs[j] : Nat) : Int) := by simp [nI, hlt]
          have hmk := W.marked _ (List.getElem_mem hlt)
          generalize arcs[j] = a at hq hmk
          have hat : a < ts.length := by
            by_cases h : a < ts.length
            · exact h
            · rw [List.getD_eq_getElem?_getD, List.getElem?_eq_none (by omega)] at hmk; cases hmk
          rw [List.getD_eq_getElem?_getD, List.getElem?_eq_getElem hat, Option.getD_some] at hmk
          refine (ox.vw 0 rfl).atQ hq ((hm2.more ox.ext).len ?_)
          rw [pBin_geq, decide_eq_false (by omega), ifV_false]
          refine (ox.vw 0 rfl).atQ hq ((hm2.more ox.ext).at1 (e := fun x : Bool => .bool x) (fun _ => rfl) hat ?_)
          rw [hmk, pUn_not, Bool.not_true, ifV_false, pBin_add, wI j (by omega)]
          exact hZ3 (I (j + 1 : Nat), ()) _ hlt ⟨rfl, rfl⟩
        rw [pBin_eql]
        by_cases hsv : s = v
        · rw [show (s == v) = true by simpa using hsv, ifV_true]
          refine (ox.vw 0 rfl).len ?_
          rw [own hsv, pBin_gtr, decide_eq_false (by simp [nI]), ifV_false]
          exact k7
        · rw [show (s == v) = false by simpa using hsv, ifV_false]
          exact k7
    · rw [pBin_add, w64 (by omega) (by omega)]
      exact hZ' h8 o
  refine (Hn.more o.ext).len ?_
  simp only [pBin_lss, ifV_dec]
  refine ⟨fun hlt => ⟨fun h6 => ?_, fun _ => k2⟩, fun _ => k2⟩
  have hlt : i < ns.length := by omega
  have hz := hr _ (List.getElem_mem hlt)
  have hnl : nl16 ns (i + 1) = (nl16 ns i) ++ [(ns[i]).tmod 16] := by unfold nl16; rw [List.take_succ_eq_append_getElem hlt, List.map_append]; rfl
  refine (Hn.more o.ext).at1 (e := fun x : Int => .int .i8 x) (fun _ => rfl) hlt ?_
  generalize ns[i] = zi at hz hnl
  simp only [pConv_int]
  rw [w64 (by omega) (by omega), pBin_rem]
  refine ⟨by decide, ?_⟩
  refine o.app1 0 (zi.tmod 16) rfl rfl (sizesOk_of rfl) encI_len encI_plain rfl (by decide) (by rw [hlen]; omega) fun v' h2 o2 => ?_
  rw [← hnl] at o2
  rw [pBin_add, wI i (by omega)]
  exact hZ (v', I (i + 1 : Nat), ()) h2 hlt ⟨rfl, by omega, o2⟩

end
end Go.Proofs.YtlkcpceobicoiaaGreatDoor
