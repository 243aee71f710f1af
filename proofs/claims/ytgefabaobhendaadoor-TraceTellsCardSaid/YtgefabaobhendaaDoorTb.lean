/- Texts of the proofs of seat YtgefabaobhendaaDoor, joined: R12B, R7C, F12B. They have no conditions of their own. -/
import Derived.Test.YtgefabaobhendaaDoorTa
import Derived.Test.YtgefabaobhendaaDoorMc
set_option linter.unusedVariables false
set_option linter.unusedSimpArgs false

namespace Go.Proofs.YtgefabaobhendaaDoor
open Go Go.Mh
set_option linter.unusedVariables false

section
variable {h0 h : Heap} {L : List Res} {K : Value → Heap → Prop} {g : G} {r : Nat} {e : Ev} {l : List Ev} {v vl : Value} {k s : Int}

theorem rof_ok (o : Own h0 h L) (Hl : Vw encE 4 h vl l) (hll : l.length < 2 ^ 40) (hK : ∀ w h', Own h0 h' (slR encI 1 T_int w (ofE k s l) :: L) → K w h') : callS Tryd.prog F_milestoneref12_Of [vl, I k, I s] h K := by
  refine callS_of (lk_milestoneref12_Of _ _ _ ?_)
  unfold sh_milestoneref12_Of
  refine LoopH_count l.length (fun i x h' => x.2.1 = I i ∧ Own h h' [slR encI 1 T_int x.1 (ofE k s (l.take i))]) ⟨rfl, (Own.start h).nilS⟩ ?_
  rintro i ⟨w, x, ⟨⟩⟩ h1 Z hi ⟨hx, o1⟩ hZ
  dsimp only at hx o1 hZ ⊢
  subst hx
  unfold sh_milestoneref12_Of_L1
  have HL := Hl.more o1.ext
  refine HL.len ?_
  simp only [pBin_lss, ifV_dec]
  refine ⟨fun hlt => ?_, fun hge => ?_⟩
  · have hlt : i < l.length := by omega
    have htk : ofE k s (l.take (i + 1)) = ofE k s (l.take i) ++ (if isE k s l[i] then [l[i].id] else []) := by rw [List.take_succ_eq_append_getElem hlt, ofE_snoc]
    have hle : (ofE k s (l.take i)).length ≤ i := by
      unfold ofE
      rw [List.length_map]
      have h1 := List.length_filter_le (isE k s) (l.take i)
      rw [List.length_take] at h1
      omega
    have skip : isE k s l[i] = false → sh_milestoneref12_Of_k2 Tryd.prog (I i) (fun a0 a1 hz => Z (a0, (a1, ())) hz) w h1 := fun hn => by
      unfold sh_milestoneref12_Of_k2
      rw [pBin_add, wI i (by omega)]
      rw [hn, if_neg (by decide), List.append_nil] at htk
      exact hZ (w, (I (i + 1 : Nat), ())) h1 hlt ⟨rfl, by rw [htk]; exact o1⟩
    refine HL.atF (u := I l[i].kind) encE_len hlt (by decide) rfl ?_
    rw [pBin_eql]
    by_cases e1 : l[i].kind = k
    · rw [show (l[i].kind == k) = true by simpa using e1, ifV_true]
      refine HL.atF (u := I l[i].side) encE_len hlt (by decide) rfl ?_
      rw [pBin_eql]
      by_cases e2 : l[i].side = s
      · rw [show (l[i].side == s) = true by simpa using e2, ifV_true]
        refine HL.atF (u := I l[i].id) encE_len hlt (by decide) rfl ?_
        refine o1.app1 0 l[i].id rfl rfl (sizesOk_of rfl) encI_len encI_plain rfl (by decide) (by omega) fun w' h2 o2 => ?_
        unfold sh_milestoneref12_Of_k2
        rw [pBin_add, wI i (by omega)]
        rw [show isE k s l[i] = true from decide_eq_true ⟨e1, e2⟩, if_pos rfl] at htk
        exact hZ (w', (I (i + 1 : Nat), ())) h2 hlt ⟨rfl, by rw [htk]; exact o2⟩
      · rw [show (l[i].side == s) = false by simpa using e2, ifV_false]
        exact skip (decide_eq_false fun h => e2 h.2)
    · rw [show (l[i].kind == k) = false by simpa using e1, ifV_false]
      exact skip (decide_eq_false fun h => e1 h.1)
  · have : i = l.length := by omega
    subst this
    rw [List.take_length] at o1
    exact hK w h1 (o.frame o1)

theorem labE_next {i : Nat} {v : Int} (hi : i < l.length) : labE (l.drop i) s v = if l[i].kind = 0 ∧ l[i].side = s ∧ l[i].id = v then some l[i].label else labE (l.drop (i + 1)) s v := by
  rw [List.drop_eq_getElem_cons hi]
  unfold labE
  by_cases h1 : l[i].kind = 0 ∧ l[i].side = s
  · rw [List.filter_cons_of_pos (by exact decide_eq_true h1)]
    by_cases h2 : l[i].id = v
    · rw [List.find?_cons_of_pos (by simpa using h2), if_pos ⟨h1.1, h1.2, h2⟩]; rfl
    · rw [List.find?_cons_of_neg (by simpa using h2), if_neg fun h => h2 h.2.2]
  · rw [List.filter_cons_of_neg (by simpa [isE] using h1), if_neg fun h => h1 ⟨h.1, h.2.1⟩]

theorem rlabel_ok {z : Int} (Hl : Vw encE 4 h vl l) (hll : l.length < 2 ^ 40) (hK : K (labV (labE l s z)) h) : callS Tryd.prog F_milestoneref12_Label [vl, I s, I z] h K := by
  refine callS_of (lk_milestoneref12_Label _ _ _ ?_)
  unfold sh_milestoneref12_Label
  refine LoopH_count l.length (fun i x h' => x.1 = I i ∧ h' = h ∧ labE l s z = labE (l.drop i) s z) ⟨rfl, rfl, rfl⟩ ?_
  rintro i ⟨x, ⟨⟩⟩ h1 Z hi ⟨hx, rfl, hlb⟩ hZ
  dsimp only at hx hZ ⊢
  subst hx
  unfold sh_milestoneref12_Label_L1
  refine Hl.len ?_
  simp only [pBin_lss, ifV_dec]
  refine ⟨fun hlt => ?_, fun hge => ?_⟩
  · have hlt : i < l.length := by omega
    rw [labE_next hlt] at hlb
    have skip : ¬ (l[i].kind = 0 ∧ l[i].side = s ∧ l[i].id = z) → sh_milestoneref12_Label_k2 Tryd.prog (I i) (fun a0 hz => Z (a0, ()) hz) h1 := fun hn => by
      unfold sh_milestoneref12_Label_k2
      rw [pBin_add, wI i (by omega)]
      rw [if_neg hn] at hlb
      exact hZ (I (i + 1 : Nat), ()) h1 hlt ⟨rfl, rfl, hlb⟩
    refine Hl.atF (u := I l[i].kind) encE_len hlt (by decide) rfl ?_
    rw [pBin_eql]
    by_cases e1 : l[i].kind = 0
    · rw [show (l[i].kind == 0) = true by simpa using e1, ifV_true]
      refine Hl.atF (u := I l[i].side) encE_len hlt (by decide) rfl ?_
      rw [pBin_eql]
      by_cases e2 : l[i].side = s
      · rw [show (l[i].side == s) = true by simpa using e2, ifV_true]
        refine Hl.atF (u := I l[i].id) encE_len hlt (by decide) rfl ?_
        rw [pBin_eql]
        by_cases e3 : l[i].id = z
        · rw [show (l[i].id == z) = true by simpa using e3, ifV_true]
          refine Hl.atF (u := I l[i].label) encE_len hlt (by decide) rfl ?_
          rw [if_pos ⟨e1, e2, e3⟩] at hlb
          rw [hlb] at hK
          exact hK
        · rw [show (l[i].id == z) = false by simpa using e3, ifV_false]
          exact skip fun h => e3 h.2.2
      · rw [show (l[i].side == s) = false by simpa using e2, ifV_false]
        exact skip fun h => e2 h.2.1
    · rw [show (l[i].kind == 0) = false by simpa using e1, ifV_false]
      exact skip fun h => e1 h.1
  · have : i = l.length := by omega
    subst this
    rw [List.drop_length] at hlb
    rw [hlb] at hK
    exact hK

theorem rbeyond_ok {fs : List Int} {vf : Value} {most : Int} (Hl : Vw encE 4 h vl l) (hll : l.length < 2 ^ 40) (Hf : Vw encI 1 h vf fs) (hK : K (I (fstI (beyF l fs most) l.length)) h) :
    callS Tryd.prog F_milestoneref12_Beyond [vl, vf, I most] h K := by
  refine callS_of (lk_milestoneref12_Beyond _ _ _ ?_)
  unfold sh_milestoneref12_Beyond
  refine LoopH_count l.length (fun i x h' => x.1 = I i ∧ h' = h ∧ ∀ q, q < i → beyF l fs most q = false) ⟨rfl, rfl, fun q hq => by omega⟩ ?_
  rintro i ⟨x, ⟨⟩⟩ h1 Z hi ⟨hx, rfl, hb⟩ hZ
  dsimp only at hx hZ ⊢
  subst hx
  unfold sh_milestoneref12_Beyond_L1
  refine Hl.len ?_
  simp only [pBin_lss, ifV_dec]
  refine ⟨fun hlt => ?_, fun hge => ?_⟩
  · have hlt : i < l.length := by omega
    have hbi : beyF l fs most i = beyP fs most l[i] := by simp only [beyF, List.getElem?_eq_getElem hlt]
    have no : ¬ (l[i].kind = 0 ∧ (l[i].id < 0 ∨ (fs.length : Int) ≤ l[i].id ∨ most < dAt fs l[i].id.toNat)) → sh_milestoneref12_Beyond_k3 Tryd.prog (I i) (fun a0 hz => Z (a0, ()) hz) h1 := fun hn => by
      unfold sh_milestoneref12_Beyond_k3
      rw [pBin_add, wI i (by omega)]
      refine hZ (I (i + 1 : Nat), ()) h1 hlt ⟨rfl, rfl, fun q hq => ?_⟩
      rcases Nat.lt_succ_iff_lt_or_eq.1 hq with h | rfl
      · exact hb q h
      · rw [hbi]; exact decide_eq_false hn
    have yes : l[i].kind = 0 ∧ (l[i].id < 0 ∨ (fs.length : Int) ≤ l[i].id ∨ most < dAt fs l[i].id.toNat) → sh_milestoneref12_Beyond_k2 Tryd.prog K (I i) h1 := fun hy => by
      unfold sh_milestoneref12_Beyond_k2
      have : fstI (beyF l fs most) l.length = (i : Nat) := fstI_fst.uniq (.inr ⟨i, rfl, hlt, by rw [hbi]; exact decide_eq_true hy, hb⟩)
      rw [this] at hK
      exact hK
    refine Hl.atF (j := 2) (u := I l[i].id) encE_len hlt (by decide) rfl (Hl.atF (u := I l[i].kind) encE_len hlt (by decide) rfl ?_)
    rw [pBin_eql]
    by_cases e1 : l[i].kind = 0
    · rw [show (l[i].kind == 0) = true by simpa using e1, ifV_true, pBin_lss, ifV_dec]
      refine ⟨fun hneg => yes ⟨e1, .inl hneg⟩, fun hpos => Hf.len ?_⟩
      rw [pBin_geq, ifV_dec]
      refine ⟨fun hge => yes ⟨e1, .inr (.inl hge)⟩, fun hl => ?_⟩
      obtain ⟨q, hq⟩ := Int.eq_ofNat_of_zero_le (show 0 ≤ l[i].id by omega)
      rw [hq] at yes no hl ⊢
      have hql : q < fs.length := by omega
      refine Hf.atI hql ?_
      rw [pBin_gtr, ifV_dec, dAt_get hql]
      exact ⟨fun h => yes ⟨e1, .inr (.inr (by rw [Int.toNat_natCast]; exact h))⟩, fun h => no fun ⟨_, hn⟩ => by
        rw [Int.toNat_natCast] at hn
        rcases hn with h1 | h1 | h1
        · omega
        · omega
        · exact h h1⟩
    · rw [show (l[i].kind == 0) = false by simpa using e1, ifV_false]
      exact no fun h => e1 h.1
  · have : i = l.length := by omega
    subst this
    have : fstI (beyF l fs most) l.length = -1 := fstI_fst.uniq (.inl ⟨rfl, hb⟩)
    rw [this] at hK
    exact hK

theorem few_ok (oL : Own h0 h L) (H : RawV h v g) (Hl : Vw encE 4 h vl l) (hK : ∀ w l' h', l'.length ≤ 100 → Own h0 h' (slR encE 4 T_api_Event w l' :: L) → K w h') : callS Tryd.prog F_milestonelaw12_few [v, vl] h K := by
  obtain ⟨vx, vy, va, rfl, H⟩ := H
  refine callS_of (lk_milestonelaw12_few _ _ ?_)
  unfold sh_milestonelaw12_few
  refine (Own.start h).box fun g2 h1 o1 => ?_
  refine LoopH_count 100 (fun i x h' => x.2.1 = I i ∧ ∃ acc : List Ev, acc.length = i ∧ Own h h' [slR encE 4 T_api_Event x.1 acc, cellR g2 [I g.n, vx, vy, va] T_api_Raw]) ⟨rfl, [], rfl, o1.nilS⟩ ?_
  clear o1
  rintro i ⟨w, x, ⟨⟩⟩ h1 Z hi ⟨hx, acc, hacc, o⟩ hZ
  dsimp only at hx o hZ ⊢
  subst hx
  unfold sh_milestonelaw12_few_L1 sh_milestonelaw12_few_k4
  have HL := Hl.more o.ext
  refine HL.len ?_
  simp only [pBin_lss, ifV_dec]
  refine ⟨fun hlt => ⟨fun hl2 => ?_, fun _ => ?_⟩, fun _ => ?_⟩
  · have hlt : i < l.length := by omega
    refine HL.atN encE_len hlt (o.box fun e7 h2 o2 => o2.st (cs' := encE l[i]) 0 rfl rfl rfl rfl rfl (encE_plain _) fun h3 o3 => ?_)
    simp only [pField_ptr]
    refine o3.load 0 rfl rfl ?_
    rw [pConv_int, pBin_rem]
    refine ⟨by decide, ?_⟩
    rw [pConv_int, pBin_rem]
    refine ⟨by decide, ?_⟩
    generalize (IntKind.i64.wrap _).tmod 2 = a
    refine o3.st1 0 (cs' := [I a, I l[i].side, I l[i].id, I l[i].label]) rfl rfl rfl rfl rfl fun h4 o4 => ?_
    refine o4.load 0 rfl rfl ?_
    rw [pConv_int, pBin_rem]
    refine ⟨by decide, ?_⟩
    rw [pConv_int, pBin_rem]
    refine ⟨by decide, ?_⟩
    generalize (IntKind.i64.wrap _).tmod 2 = b
    refine o4.st1 0 (cs' := [I a, I b, I l[i].id, I l[i].label]) rfl rfl rfl rfl rfl fun h5 o5 => ?_
    have k3 : ∀ (hh : Heap) (c d : Int), Own h hh [cellR e7 (encE ⟨a, b, c, d⟩) T_api_Event, slR encE 4 T_api_Event w acc, cellR g2 [I g.n, vx, vy, va] T_api_Raw] → sh_milestonelaw12_few_k3 Tryd.prog (ptr e7) w (I i) (fun a0 a1 hz => Z (a0, (a1, ())) hz) hh := fun hh c d o => by
      unfold sh_milestonelaw12_few_k3
      refine o.ldN (cs' := encE ⟨a, b, c, d⟩) 0 rfl rfl rfl ?_
      refine o.app1 1 ⟨a, b, c, d⟩ rfl rfl (sizesOk_of rfl) encE_len encE_plain rfl (by decide) (by omega) fun w' h2 o2 => ?_
      rw [pBin_add, wI i (by omega)]
      exact hZ (w', (I (i + 1 : Nat), ())) h2 (by omega) ⟨rfl, acc ++ [(⟨a, b, c, d⟩ : Ev)], by simp [hacc], o2.tail⟩
    have k2 : ∀ (hh : Heap) (d m : Int), Own h hh [cellR e7 (encE ⟨a, b, l[i].id, d⟩) T_api_Event, slR encE 4 T_api_Event w acc, cellR g2 [I g.n, vx, vy, va] T_api_Raw] → sh_milestonelaw12_few_k2 Tryd.prog (ptr e7) w (I i) (fun a0 a1 hz => Z (a0, (a1, ())) hz) (I m) hh := fun hh d m o => by
      unfold sh_milestonelaw12_few_k2
      simp only [pField_ptr]
      refine o.load 0 rfl rfl ?_
      rw [pBin_geq, ifV_dec]
      refine ⟨fun h1 => ?_, fun _ => k3 _ _ _ o⟩
      rw [pBin_gtr, ifV_dec]
      refine ⟨fun h2 => ?_, fun _ => k3 _ _ _ o⟩
      refine o.load 0 rfl rfl ?_
      rw [pBin_rem]
      refine ⟨by decide, ?_⟩
      rw [pBin_neq, ifV_bne]
      refine ⟨fun h3 => ?_, fun _ => k3 _ _ _ o⟩
      refine o.load 0 rfl rfl ?_
      rw [pBin_rem]
      refine ⟨by omega, ?_⟩
      exact o.st1 0 (cs' := [I a, I b, I (l[i].id.tmod m), I d]) rfl rfl rfl rfl rfl fun h6 o6 => k3 _ _ _ o6
    refine o5.load 2 rfl rfl (o5.load 0 rfl rfl ?_)
    rw [pBin_eql, ifV_beq]
    refine ⟨fun h1 => o5.load 2 rfl rfl ((H.more o5.ext).2.2.len (o5.load 0 rfl rfl ?_)), fun _ => k2 _ _ _ o5⟩
    rw [pBin_rem]
    refine ⟨by decide, ?_⟩
    rw [pBin_neq, ifV_bne]
    exact ⟨fun _ => o5.st1 0 (cs' := [I a, I b, I l[i].id, I 0]) rfl rfl rfl rfl rfl fun h6 o6 => k2 _ _ _ o6, fun _ => k2 _ _ _ o5⟩
  · exact hK w acc h1 (by omega) (oL.frame (o.sel [0] (by decide)))
  · exact hK w acc h1 (by omega) (oL.frame (o.sel [0] (by decide)))

end
end Go.Proofs.YtgefabaobhendaaDoor

namespace Go.Proofs.YtgefabaobhendaaDoor
open Go Go.Mh
set_option linter.unusedVariables false

section
variable {h0 h : Heap} {L : List Res} {K : Value → Heap → Prop} {g : G} {v : Value}

theorem outsP_take {q : A → Bool} {l : List A} {i : Nat} (hi : i < l.length) : outsP q (l.take (i + 1)) 0 = outsP q (l.take i) 0 ++ (if q l[i] then [i] else []) := by
  rw [List.take_succ_eq_append_getElem hi, outsP_append]
  simp only [outsP, List.length_take, Nat.zero_add, Nat.min_eq_left (Nat.le_of_lt hi)]

/-- Are both rows alike? -/
theorem rints_ok {α : Type} {enc : α → List Value} {e : α → Int} {xs : List α} {va vb : Value} (he : ∀ a, enc a = [I (e a)]) (Ha : Vw enc 1 h va xs) (Hb : Vw enc 1 h vb xs) (hl : xs.length < 2 ^ 40) (hK : K (.bool true) h) : callS Tryd.prog F_milestoneref07_Ints [va, vb] h K := by
  refine callS_of (lk_milestoneref07_Ints _ _ ?_)
  unfold sh_milestoneref07_Ints
  refine Ha.len (Hb.len ?_)
  rw [pBin_neq, bne_self_eq_false, ifV_false]
  refine LoopH_count xs.length (fun i x h' => x.1 = I i ∧ h' = h) ⟨rfl, rfl⟩ ?_
  rintro i ⟨x, ⟨⟩⟩ h' Z hi ⟨hx, rfl⟩ hZ
  dsimp only at hx hZ ⊢
  subst hx
  unfold sh_milestoneref07_Ints_L1
  refine Ha.len ?_
  simp only [pBin_lss, ifV_dec]
  refine ⟨fun hlt => ?_, fun hge => hK⟩
  have hlt : i < xs.length := by omega
  refine Ha.at1 (e := fun a => I (e a)) he hlt (Hb.at1 (e := fun a => I (e a)) he hlt ?_)
  rw [pBin_neq, bne_self_eq_false, ifV_false, pBin_add, wI i (by omega)]
  exact hZ (I (i + 1 : Nat), ()) _ hlt ⟨rfl, rfl⟩

end
end Go.Proofs.YtgefabaobhendaaDoor

namespace Go.Proofs.YtgefabaobhendaaDoor
open Go Go.Mh
set_option linter.unusedVariables false

theorem pIdxV1_of {len : Nat} {cs : Array Value} {i : Int} {k : IntKind} {v : Value} {K : Value → Prop} (h0 : 0 ≤ i) (h1 : i < len) (hv : cs[i.toNat]? = some v) (hk : K v) : pIdxV1 len (.agg cs) (.int k i) K := by
  refine ⟨h0, h1, ?_⟩
  rw [hv]; exact hk

section
variable {h0 h : Heap} {L : List Res} {K : Value → Heap → Prop} {g : G} {r : Nat} {e : Ev} {l : List Ev} {v vl : Value} {k s : Int}

theorem ofE_le {k s : Int} {l : List Ev} : (ofE k s l).length ≤ l.length := by
  unfold ofE
  rw [List.length_map]
  exact List.length_filter_le (isE k s) l

theorem labV_eq {x : Option Int} : labV x = .tuple #[I (x.getD 0), .bool x.isSome] := by cases x <;> rfl

/-- What is told of one row. -/
theorem told12_ok {fs : List Int} {vf : Value} {i : Nat} {x : List Ev} {N : Res} {g7 : Nat} {vx vy va : Value} {Z : Value → Heap → Prop} (hR : g.Right) (hgn : g.n ≤ 12) (hN : netR N r g) (hi : i < 3)
    (o : Own h0 h L) (i1 i2 i3 i4 i5 : Nat) (e1 : L[i1]? = some N) (e2 : L[i2]? = some (cellR g7 [I g.n, vx, vy, va] T_api_Raw)) (e3 : L[i3]? = some (xR vx g.X)) (e4 : L[i4]? = some (xR vy g.Y)) (e5 : L[i5]? = some (aR va g.arcs))
    (HVw : ∀ h', Own h0 h' L → Vw encE 4 h' vl x) (hl : x.length ≤ 100) (HF : ∀ h', Own h0 h' L → Vw encI 1 h' vf fs) (hK : ∀ h', Own h0 h' L → Z (I (i + 1 : Nat)) h') :
    (cutP (σ := Vals [51]) (fun J =>
      pLoadN 4 h (ptr g7) fun t39 =>
      callS Tryd.prog F_trace_Once [ptr r, vl] h fun t38 h_7 =>
      (pLoadN 4 h_7 (ptr g7) fun t39_1 => t39_1 = t39) ∧
      (callS Tryd.prog F_milestoneref12_Once [t39, vl] h_7 fun t41 h_8 =>
      pEq true .bool t38 t41 fun t42 =>
      ifV t42 (J ((.bool true), ()) h_8)
      (pLoadN 4 h_8 (ptr g7) fun t47 =>
      callS Tryd.prog F_trace_Heads [ptr r, vl] h_8 fun t46 h_9 =>
      (pLoadN 4 h_9 (ptr g7) fun t47_1 => t47_1 = t47) ∧
      (callS Tryd.prog F_milestoneref12_Heads [t47, vl] h_9 fun t49 h_10 =>
      pEq true .bool t46 t49 fun t50 =>
      J (t50, ()) h_10))))
      (fun x hh => sh_milestonelaw12_TraceTells_C2 Tryd.prog K vl (ptr g7) vf (I i) Z x.1 hh)) := by
  refine cutP_of (fun y h'' => y.1 = .bool false ∧ Own h0 h'' L) (fun J hJ => ?_) ?_
  · refine o.ldN (cs' := [I g.n, vx, vy, va]) i2 e2 rfl rfl ?_
    refine onceB_ok (b := onceB g.n g.arcs.length x) (hN _ (o.get i1 e1)) (HVw _ o) (by omega) rfl fun h1 x1 => ?_
    have o1 := o.more x1
    refine ⟨o1.ldN (cs' := [I g.n, vx, vy, va]) i2 e2 rfl rfl rfl, ?_⟩
    refine ronce_ok ⟨vx, vy, va, rfl, o1.vw i3 e3, o1.vw i4 e4, o1.vw i5 e5⟩ (HVw _ o1) (by omega) fun h2 x2 => ?_
    have o2 := o1.more x2
    rw [pNe_bool, bne_self_eq_false, ifV_false]
    refine o2.ldN (cs' := [I g.n, vx, vy, va]) i2 e2 rfl rfl ?_
    refine headsB_ok (b := headsB g x) (hN _ (o2.get i1 e1)) (HVw _ o2) (by omega) rfl fun h3 x3 => ?_
    have o3 := o2.more x3
    refine ⟨o3.ldN (cs' := [I g.n, vx, vy, va]) i2 e2 rfl rfl rfl, ?_⟩
    refine rheads_ok hR ⟨vx, vy, va, rfl, o3.vw i3 e3, o3.vw i4 e4, o3.vw i5 e5⟩ (HVw _ o3) (by omega) fun h4 x4 => ?_
    rw [pNe_bool, bne_self_eq_false]
    exact hJ (.bool false, ()) h4 ⟨rfl, o3.more x4⟩
  · rintro ⟨y, ⟨⟩⟩ h1 ⟨hy, o1⟩
    dsimp only at hy ⊢
    subst hy
    unfold sh_milestonelaw12_TraceTells_C2
    rw [ifV_false]
    clear o
    refine LoopH_count 4 (fun m y h' => y.1 = I ((m : Int) - 1) ∧ Own h0 h' L) ⟨rfl, o1⟩ ?_
    clear o1
    rintro m ⟨y, ⟨⟩⟩ h2 Z2 hm ⟨hy, o⟩ hZ2
    dsimp only at hy hZ2 ⊢
    subst hy
    unfold sh_milestonelaw12_TraceTells_L3 sh_milestonelaw12_TraceTells_k4
    rw [pBin_leq, ifV_dec]
    refine ⟨fun hlt => ?_, fun hge => ?_⟩
    · refine pops_ok o (HVw _ o) (by omega) fun w1 h3 o3 => rof_ok o3 (HVw _ o3.tail) (by omega) fun w2 h4 o4 => ?_
      have l1 := @ofE_le 0 ((m : Int) - 1) x
      have l2 := @ofE_le 1 ((m : Int) - 1) x
      refine rints_ok (enc := encI) (e := fun x => x) (fun _ => rfl) (o4.vw 1 rfl) (o4.vw 0 rfl) (by omega) ?_
      rw [pUn_not, Bool.not_true, ifV_false]
      have o5 := o4.tail.tail
      refine scans_ok o5 (HVw _ o5) (by omega) fun w1 h6 o6 => rof_ok o6 (HVw _ o6.tail) (by omega) fun w2 h7 o7 => ?_
      refine rints_ok (enc := encI) (e := fun x => x) (fun _ => rfl) (o7.vw 1 rfl) (o7.vw 0 rfl) (by omega) ?_
      rw [pUn_not, Bool.not_true, ifV_false]
      have o8 := o7.tail.tail
      refine LoopH_count (g.n + 2) (fun q y h' => y.1 = I ((q : Int) - 1) ∧ Own h0 h' L) ⟨rfl, o8⟩ ?_
      clear o3 o4 o5 o6 o7 o8 o
      rintro q ⟨y, ⟨⟩⟩ h3 Z3 hq ⟨hy, o⟩ hZ3
      dsimp only at hy hZ3 ⊢
      subst hy
      unfold sh_milestonelaw12_TraceTells_L5 sh_milestonelaw12_TraceTells_k6
      simp only [pField_ptr]
      refine o.load i2 e2 rfl ?_
      rw [pBin_leq, ifV_dec]
      refine ⟨fun hlq => ?_, fun hgq => ?_⟩
      · refine labelI_ok (x := labE x ((m : Int) - 1) ((q : Int) - 1)) (HVw _ o) (by omega) rfl fun h4 x4 => ?_
        replace o := o.more x4
        rw [labV_eq, pExt0, pExt1]
        refine rlabel_ok (HVw _ o) (by omega) ?_
        rw [labV_eq, pExt0, pExt1, pBin_neq, bne_self_eq_false, ifV_false, pNe_bool, bne_self_eq_false, ifV_false, pBin_add, w64 (by omega) (by omega)]
        exact hZ3 (_, ()) h4 (by omega) ⟨by show I _ = I _; congr 1; omega, o⟩
      · rw [pBin_add, w64 (by omega) (by omega)]
        exact hZ2 (_, ()) h3 (by omega) ⟨by show I _ = I _; congr 1; omega, o⟩
    · have k7 : ∀ most : Int, sh_milestonelaw12_TraceTells_k7 Tryd.prog vl vf K (I i) Z (I most) h2 := fun most => by
        unfold sh_milestonelaw12_TraceTells_k7
        refine beyondI_ok (HVw _ o) (by omega) (HF _ o) rfl fun h3 x3 => ?_
        have o3 := o.more x3
        refine rbeyond_ok (HVw _ o3) (by omega) (HF _ o3) ?_
        rw [pBin_neq, bne_self_eq_false, ifV_false, pBin_add, wI i (by omega)]
        exact hK h3 o3
      refine (HF _ o).len ?_
      rw [pBin_gtr, ifV_dec]
      refine ⟨fun hpos => (HF _ o).atI (i := 0) (by omega) (k7 _), fun _ => k7 0⟩

theorem traceTells_ok {bs : List Int} {vb vf : Value} {fs : List Int} (Hb : Vw encU8 1 h vb bs) (Hl : Vw encE 4 h vl l) (Hf : Vw encI 1 h vf fs) (hK : ∀ h', Ext h h' → K (.bool true) h') :
    CallsH Tryd.prog F_milestonelaw12_TraceTells [vb, vl, vf].toArray h K := by
  refine lk_milestonelaw12_TraceTells _ _ _ ?_
  unfold sh_milestonelaw12_TraceTells
  refine drawn12_ok Hb fun g vx vy va h1 hg o1 => ?_
  have hR := hg.toRight
  have hx := (o1.vw 0 rfl).plain
  have hy := (o1.vw 1 rfl).plain
  have ha := (o1.vw 2 rfl).plain
  refine o1.box fun g7 h2 o2 => o2.st (cs' := [I g.n, vx, vy, va]) 0 rfl rfl rfl rfl rfl (by intro u hu; simp at hu; rcases hu with rfl | rfl | rfl | rfl <;> first | rfl | assumption) fun h3 o3 => ?_
  refine o3.ldN (cs' := [I g.n, vx, vy, va]) 0 rfl rfl rfl ?_
  refine made12_ok o3 hR ⟨vx, vy, va, rfl, o3.vw 1 rfl, o3.vw 2 rfl, o3.vw 3 rfl⟩ fun r N h4 hN o4 => ?_
  simp only [pEq_ptr_nil, Option.isNone_some, ifV_false]
  refine o4.ldN (cs' := [I g.n, vx, vy, va]) 1 rfl rfl rfl ((Hl.more o4.ext).len ?_)
  have e100 : (if (100 : Int) < l.length then 100 else (l.length : Int)) = ((min l.length 100 : Nat) : Int) := by split <;> omega
  rw [pMin_int, e100]
  refine Hl.sub (a := 0) (j := min l.length 100) encE_len rfl rfl (by omega) (by omega) fun v1 hv1 => ?_
  refine few_ok o4 ⟨vx, vy, va, rfl, o4.vw 2 rfl, o4.vw 3 rfl, o4.vw 4 rfl⟩ (Hl.more o4.ext) fun v0 l0 h5 hl0 o5 => ?_
  clear o1 o2 o3 o4
  have w0 := (o5.vw 0 rfl).one
  have w1 := hv1.one
  refine pBuild_ones (cs' := [v0, v1, .slice none 0 0]) (fun p hp => by simp at hp; rcases hp with rfl | rfl | rfl <;> first | rfl | exact w0 | exact w1) rfl rfl ?_
  refine LoopH_count 3 (fun i y h' => y.1 = I i ∧ Own h h' [slR encE 4 T_api_Event v0 l0, N, cellR g7 [I g.n, vx, vy, va] T_api_Raw, xR vx g.X, xR vy g.Y, aR va g.arcs]) ⟨rfl, o5⟩ ?_
  clear o5
  rintro i ⟨y, ⟨⟩⟩ h6 Z hi ⟨hy', o⟩ hZ
  dsimp only at hy' hZ ⊢
  subst hy'
  unfold sh_milestonelaw12_TraceTells_L1
  rw [pBin_lss, ifV_dec]
  refine ⟨fun hlt => ?_, fun hge => works12_ok fun h7 x7 => hK _ (o.more x7).ext⟩
  have hlt : i < 3 := by omega
  have hnx : ∀ h', Own h h' [slR encE 4 T_api_Event v0 l0, N, cellR g7 [I g.n, vx, vy, va] T_api_Raw, xR vx g.X, xR vy g.Y, aR va g.arcs] → Z (I (i + 1 : Nat), ()) h' := fun h' o' => hZ (_, ()) h' hlt ⟨rfl, o'⟩
  match i, hlt, hnx with
  | 0, _, hnx => exact pIdxV1_of (v := v0) (by decide) (by decide) rfl (told12_ok hR hg.few hN (by decide) o 1 2 3 4 5 rfl rfl rfl rfl rfl (fun h' o' => o'.vw 0 rfl) hl0 (fun h' o' => Hf.more o'.ext) hnx)
  | 1, _, hnx => exact pIdxV1_of (v := v1) (by decide) (by decide) rfl (told12_ok hR hg.few hN (by decide) o 1 2 3 4 5 rfl rfl rfl rfl rfl (fun h' o' => hv1.more o'.ext) (by simp; omega) (fun h' o' => Hf.more o'.ext) hnx)
  | 2, _, hnx => exact pIdxV1_of (v := .slice none 0 0) (by decide) (by decide) rfl (told12_ok hR hg.few hN (by decide) o 1 2 3 4 5 rfl rfl rfl rfl rfl (fun h' o' => Vw.nil) (by decide : ([] : List Ev).length ≤ 100) (fun h' o' => Hf.more o'.ext) hnx)

end
end Go.Proofs.YtgefabaobhendaaDoor
