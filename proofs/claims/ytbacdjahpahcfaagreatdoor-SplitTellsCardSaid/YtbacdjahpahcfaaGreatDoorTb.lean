/- Texts of the proofs of seat YtbacdjahpahcfaaGreatDoor, joined: R22B, R22C, R7C, F22B. They have no conditions of their own. -/
import Derived.Test.YtbacdjahpahcfaaGreatDoorTa
import Derived.Test.YtbacdjahpahcfaaGreatDoorMc
set_option linter.unusedVariables false
set_option linter.unusedSimpArgs false

namespace Go.Proofs.YtbacdjahpahcfaaGreatDoor
open Go Go.Mh
set_option linter.unusedVariables false

section
variable {h0 h : Heap} {L : List Res} {K : Value → Heap → Prop} {g : G} {vx vy va vl : Value}

theorem rway22_ok {xs : List Int} (hR : g.Right) (H : RawL h vx vy va g) (Hl : Vw encI 1 h vl xs) (hl : xs.length ≤ 2 ^ 20) (hK : ∀ h', Ext h h' → K (.tuple #[I (wayG g (mksZ g.n xs)).1, I (wayG g (mksZ g.n xs)).2]) h') :
    callS Tryz.prog F_milestoneref22_Way [.agg #[I g.n, vx, vy, va], vl] h K := by
  refine callS_of (lk_milestoneref22_Way _ _ ?_)
  unfold sh_milestoneref22_Way
  refine (Own.start h).box fun g2 h1 o1 => ?_
  have o1 : Own h h1 [cellR g2 [I g.n, vx, vy, va] T_api_Raw] := o1
  refine LoopH_count xs.length (fun i x h' => x.2.1 = I i ∧ Own h h' [slR encN 1 T_int x.1 (mksZ g.n (xs.take i)), cellR g2 [I g.n, vx, vy, va] T_api_Raw]) ⟨rfl, o1.nilS⟩ ?_
  clear o1
  rintro i ⟨wl, y, ⟨⟩⟩ h2 Z hi ⟨hy, o⟩ hZ
  dsimp only at hy o hZ ⊢
  subst hy
  unfold sh_milestoneref22_Way_L1
  have hml : ∀ i, (mksZ g.n (xs.take i)).length ≤ i := fun i => by
    unfold mksZ
    rw [List.length_map]
    have := List.length_filter_le (fun (z : Int) => decide (0 ≤ z ∧ z < g.n)) (xs.take i)
    rw [List.length_take] at this
    omega
  refine (Hl.more o.ext).len ?_
  rw [pBin_lss, ifV_dec]
  refine ⟨fun hlt => ?_, fun hge => ?_⟩
  · have hlt : i < xs.length := by omega
    have hat : ∀ {h' : Heap} {K' : Value → Prop}, Ext h h' → K' (I xs[i]) → pIdx 1 vl (I i) fun t => pLoad h' t K' := fun x hk => (Hl.more x).atI hlt hk
    have tk : mksZ g.n (xs.take (i + 1)) = mksZ g.n (xs.take i) ++ (if 0 ≤ xs[i] ∧ xs[i] < g.n then [xs[i].toNat] else []) := by rw [List.take_succ_eq_append_getElem hlt, mksZ_snoc]
    have hl2 := hml i
    rw [tk] at hZ
    generalize xs[i] = z at hat hZ
    generalize mksZ g.n (xs.take i) = M at o hZ hl2
    refine cutP_of (fun y h' => y.1 = .bool (decide (0 ≤ z ∧ z < g.n)) ∧ h' = h2) (fun J hJ => ?_) ?_
    · refine hat o.ext ?_
      rw [pBin_geq, ifV_dec]
      refine ⟨fun c => hat o.ext ?_, fun c => hJ _ _ ⟨by rw [decide_eq_false fun h => c h.1], rfl⟩⟩
      simp only [pField_ptr]
      refine o.load 1 rfl rfl ?_
      rw [pBin_lss]
      refine hJ _ _ ⟨?_, rfl⟩
      refine congrArg Value.bool ?_
      rw [decide_eq_decide]
      exact ⟨fun h => ⟨c, h⟩, fun h => h.2⟩
    · rintro ⟨y, ⟨⟩⟩ h3 ⟨hy, rfl⟩
      dsimp only at hy ⊢
      subst hy
      unfold sh_milestoneref22_Way_C2 sh_milestoneref22_Way_k3
      rw [ifV_dec]
      refine ⟨fun c => hat o.ext ?_, fun c => ?_⟩
      · obtain ⟨m, rfl⟩ := Int.eq_ofNat_of_zero_le c.1
        refine o.app1 0 m rfl rfl (sizesOk_of rfl) (fun _ => rfl) encN_plain rfl (by decide) (by omega) fun w h4 o4 => ?_
        rw [pBin_add, wI i (by omega)]
        refine hZ (_, _, ()) h4 hlt ⟨rfl, ?_⟩
        rw [if_pos c]
        exact o4
      · rw [pBin_add, wI i (by omega)]
        refine hZ (_, _, ()) _ hlt ⟨rfl, ?_⟩
        rw [if_neg c, List.append_nil]
        exact o
  · have : i = xs.length := by omega
    subst this
    rw [List.take_length] at o
    have hl2 := hml xs.length
    rw [List.take_length] at hl2
    have hlt : ∀ x ∈ mksZ g.n xs, x < g.n := mksZ_lt
    clear hZ hml
    generalize mksZ g.n xs = M at o hl2 hlt hK
    have hf : ∀ d, 0 ≤ (fun d => sprd (valG g d) M) d := fun d => sprd_nonneg
    refine LoopH_count 3 (fun i x h' => x.1 = I (wayR (fun d => sprd (valG g d) M) i) ∧ x.2.1 = I (i + 1 : Nat) ∧ Own h h' [slR encN 1 T_int wl M, cellR g2 [I g.n, vx, vy, va] T_api_Raw]) ⟨rfl, rfl, o⟩ ?_
    clear o
    rintro i ⟨x, y, ⟨⟩⟩ h3 Z hi ⟨hx, hy, o⟩ hZ
    dsimp only at hx hy hZ ⊢
    subst hx hy
    unfold sh_milestoneref22_Way_L4
    have hwl := @wayR_lt (fun d => sprd (valG g d) M) i
    rw [pBin_lss, ifV_dec]
    refine ⟨fun c => ?_, fun c => ?_⟩
    · refine o.ldN (cs' := [I g.n, vx, vy, va]) 1 rfl rfl rfl (o.ldN (cs' := [I g.n, vx, vy, va]) 1 rfl rfl rfl ?_)
      refine rspread22_ok (d := i + 1) hR (H.more o.ext) (by omega) (o.vw 0 rfl) (by omega) hlt fun h4 x4 => ?_
      have o4 := o.more x4
      refine ⟨o4.ldN (cs' := [I g.n, vx, vy, va]) 1 rfl rfl rfl rfl, ?_⟩
      refine rspread22_ok (d := wayR (fun d => sprd (valG g d) M) i) hR (H.more o4.ext) (by omega) (o4.vw 0 rfl) (by omega) hlt fun h5 x5 => ?_
      have o5 := o4.more x5
      have st : wayR (fun d => sprd (valG g d) M) (i + 1) = if sprd (valG g (wayR (fun d => sprd (valG g d) M) i)) M < sprd (valG g (i + 1)) M then i + 1 else wayR (fun d => sprd (valG g d) M) i := rfl
      unfold sh_milestoneref22_Way_k5
      rw [pBin_gtr, ifV_dec]
      refine ⟨fun c2 => ?_, fun c2 => ?_⟩
      · rw [pBin_add, wI (i + 1) (by omega)]
        exact hZ (_, _, ()) _ (by omega) ⟨by rw [st, if_pos c2], rfl, o5⟩
      · rw [pBin_add, wI (i + 1) (by omega)]
        exact hZ (_, _, ()) _ (by omega) ⟨by rw [st, if_neg c2], rfl, o5⟩
    · have : i = 3 := by omega
      subst this
      obtain ⟨w1, w2⟩ := @wayR_eq (fun d => sprd (valG g d) M) hf 3
      refine o.ldN (cs' := [I g.n, vx, vy, va]) 1 rfl rfl rfl ?_
      refine rspread22_ok (d := wayR (fun d => sprd (valG g d) M) 3) hR (H.more o.ext) (by omega) (o.vw 0 rfl) (by omega) hlt fun h4 x4 => ?_
      have := hK h4 (o.more x4).ext
      rw [show (wayG g M).1 = wayR (fun d => sprd (valG g d) M) 3 from w1, show (wayG g M).2 = sprd (valG g (wayR (fun d => sprd (valG g d) M) 3)) M from w2] at this
      exact this

theorem rord22_ok {l : List Nat} {d : Nat} (hR : g.Right) (H : RawL h vx vy va g) (hd : d < 4) (Hl : Vw encN 1 h vl l) (hl : l.length ≤ 2 ^ 20) (hln : ∀ x ∈ l, x < g.n) (hK : ∀ w h', Own h h' [slR encN 1 T_int w (ordV (valG g d) l)] → K w h') :
    callS Tryz.prog F_milestoneref22_ordered [.agg #[I g.n, vx, vy, va], vl, I d] h K := by
  refine callS_of (lk_milestoneref22_ordered _ _ _ ?_)
  unfold sh_milestoneref22_ordered
  refine (Own.start h).box fun g3 h1 o1 => ?_
  have o1 : Own h h1 [cellR g3 [I g.n, vx, vy, va] T_api_Raw] := o1
  refine LoopH_count l.length (fun i x h' => x.2.1 = I i ∧ Own h h' [slR encN 1 T_int x.1 (ordV (valG g d) (l.take i)), cellR g3 [I g.n, vx, vy, va] T_api_Raw]) ⟨rfl, o1.nilS⟩ ?_
  clear o1
  rintro i ⟨wo, y, ⟨⟩⟩ h2 Z hi ⟨hy, o⟩ hZ
  dsimp only at hy o hZ ⊢
  subst hy
  unfold sh_milestoneref22_ordered_L1
  refine (Hl.more o.ext).len ?_
  rw [pBin_lss, ifV_dec]
  refine ⟨fun hlt => ?_, fun hge => ?_⟩
  case refine_2 =>
    have : i = l.length := by omega
    subst this
    rw [List.take_length] at o
    exact hK wo h2 (o.sel [0] (by decide))
  have hlt : i < l.length := by omega
  have hSl : (ordV (valG g d) (l.take i)).length = i := by rw [ordV_len, List.length_take]; omega
  have hSn : ∀ x ∈ ordV (valG g d) (l.take i), x < g.n := fun x hx => hln x (List.mem_of_mem_take (ordV_perm.mem_iff.1 hx))
  have hvn := hln _ (List.getElem_mem hlt)
  have tk : ordV (valG g d) (l.take (i + 1)) = insV (valG g d) (ordV (valG g d) (l.take i)) l[i] := by rw [List.take_succ_eq_append_getElem hlt, ordV_snoc]
  have hat : ∀ {h' : Heap} {K' : Value → Prop}, Ext h h' → K' (I l[i]) → pIdx 1 vl (I i) fun t => pLoad h' t K' := fun x hk => (Hl.more x).at1 (e := fun (x : Nat) => I x) (fun _ => rfl) hlt hk
  rw [tk] at hZ
  generalize l[i] = v at hvn hat hZ
  generalize ordV (valG g d) (l.take i) = S at o hSl hSn hZ
  refine cutP_of (fun y h' => Own h h' [slR encN 1 T_int y.1 (insV (valG g d) S v), cellR g3 [I g.n, vx, vy, va] T_api_Raw]) (fun J hJ => ?_) ?_
  case refine_2 =>
    rintro ⟨y, ⟨⟩⟩ h3 o3
    dsimp only at o3 ⊢
    unfold sh_milestoneref22_ordered_C2
    rw [pBin_add, wI i (by omega)]
    exact hZ (_, _, ()) h3 hlt ⟨rfl, o3⟩
  refine hat o.ext ((o.vw 0 rfl).len ?_)
  refine LoopH_down (fun k x h' => x.1 = I k ∧ k ≤ S.length ∧ posB (valG g d) v S k = posB (valG g d) v S S.length ∧ Own h h' [slR encN 1 T_int wo S, cellR g3 [I g.n, vx, vy, va] T_api_Raw]) (k0 := S.length) ⟨rfl, Nat.le_refl _, rfl, o⟩ ?_
  clear o
  rintro k ⟨x, ⟨⟩⟩ h3 Z1 ⟨hx, hk, hp, o⟩ hZ1
  dsimp only at hx hZ1 ⊢
  subst hx
  unfold sh_milestoneref22_ordered_L3
  refine cutP_of (fun y h' => y.1 = .bool (decide (0 < k ∧ gtV (valG g d) (S.getD (k - 1) 0) v = true)) ∧ Own h h' [slR encN 1 T_int wo S, cellR g3 [I g.n, vx, vy, va] T_api_Raw]) (fun J1 hJ1 => ?_) ?_
  · rw [pBin_gtr, ifV_dec]
    refine ⟨fun c => ?_, fun c => hJ1 _ _ ⟨by rw [decide_eq_false fun h => c (by omega)], o⟩⟩
    obtain ⟨q, rfl⟩ : ∃ q, k = q + 1 := ⟨k - 1, by omega⟩
    have hq : q < S.length := by omega
    have hun : S.getD q 0 < g.n := by rw [getD_at hq]; exact hSn _ (List.getElem_mem hq)
    have hgt : gtV (valG g d) (S.getD (q + 1 - 1) 0) v = decide (valG g d v < valG g d (S.getD q 0) ∨ (valG g d (S.getD q 0) = valG g d v ∧ v < S.getD q 0)) := rfl
    rw [hgt] at hJ1
    have hatS : ∀ {h' : Heap} {K' : Value → Prop}, Own h h' [slR encN 1 T_int wo S, cellR g3 [I g.n, vx, vy, va] T_api_Raw] → K' (I (S.getD q 0)) → pIdx 1 wo (I q) fun t => pLoad h' t K' := fun o' hk' => by
      refine (o'.vw 0 rfl).at1 (e := fun (x : Nat) => I x) (fun _ => rfl) hq ?_
      rw [getD_at hq] at hk'
      exact hk'
    generalize S.getD q 0 = u at hun hJ1 hatS
    have es : ((q + 1 : Nat) : Int) - 1 = (q : Int) := by omega
    refine o.ldN (cs' := [I g.n, vx, vy, va]) 1 rfl rfl rfl ?_
    rw [pBin_sub, w64 (by omega) (by omega), es]
    refine hatS o (o.ldN (cs' := [I g.n, vx, vy, va]) 1 rfl rfl rfl ?_)
    refine rval22_ok hR (H.more o.ext) hd hun fun h4 x4 => ?_
    have o4 := o.more x4
    refine ⟨o4.ldN (cs' := [I g.n, vx, vy, va]) 1 rfl rfl rfl rfl, ?_⟩
    refine rval22_ok hR (H.more o4.ext) hd hvn fun h5 x5 => ?_
    have o5 := o4.more x5
    rw [pBin_gtr, ifV_dec]
    refine ⟨fun c1 => hJ1 _ _ ⟨by rw [decide_eq_true]; exact ⟨by omega, decide_eq_true (.inl c1)⟩, o5⟩, fun c1 => ?_⟩
    refine o5.ldN (cs' := [I g.n, vx, vy, va]) 1 rfl rfl rfl ?_
    rw [pBin_sub, w64 (by omega) (by omega), es]
    refine hatS o5 (o5.ldN (cs' := [I g.n, vx, vy, va]) 1 rfl rfl rfl ?_)
    refine rval22_ok hR (H.more o5.ext) hd hun fun h6 x6 => ?_
    have o6 := o5.more x6
    refine ⟨o6.ldN (cs' := [I g.n, vx, vy, va]) 1 rfl rfl rfl rfl, ?_⟩
    refine rval22_ok hR (H.more o6.ext) hd hvn fun h7 x7 => ?_
    have o7 := o6.more x7
    rw [pBin_eql, ifV_beq]
    refine ⟨fun c2 => ?_, fun c2 => hJ1 _ _ ⟨by rw [decide_eq_false]; intro h; have := of_decide_eq_true h.2; omega, o7⟩⟩
    rw [pBin_sub, w64 (by omega) (by omega), es]
    refine hatS o7 ?_
    rw [pBin_gtr]
    refine hJ1 _ _ ⟨?_, o7⟩
    refine congrArg Value.bool ?_
    rw [decide_eq_decide, decide_eq_true_eq]
    omega
  · rintro ⟨y, ⟨⟩⟩ h4 ⟨hy, o4⟩
    dsimp only at hy ⊢
    subst hy
    clear o
    unfold sh_milestoneref22_ordered_C4
    rw [ifV_dec]
    refine ⟨fun c => ?_, fun c => ?_⟩
    · obtain ⟨q, rfl⟩ : ∃ q, k = q + 1 := ⟨k - 1, by omega⟩
      rw [pBin_sub, w64 (by omega) (by omega), show ((q + 1 : Nat) : Int) - 1 = (q : Int) by omega]
      have hgt : gtV (valG g d) (S.getD q 0) v = true := c.2
      refine hZ1 (_, ()) h4 q (by omega) ⟨rfl, by omega, ?_, o4⟩
      rw [← hp]
      conv => rhs; unfold posB
      rw [if_pos hgt]
    · have hpk : posB (valG g d) v S S.length = k := by
        rw [← hp]
        cases k with
        | zero => rfl
        | succ q =>
          unfold posB
          have hc' : ¬ gtV (valG g d) (S.getD q 0) v = true := fun h => c ⟨by omega, h⟩
          rw [if_neg hc']
      have ein : insV (valG g d) S v = S.take k ++ [v] ++ S.drop k := by
        unfold insV insAt
        rw [hpk]; simp
      rw [ein] at hJ
      refine (o4.vw 0 rfl).subA (a := 0) (j := k) encN_len rfl rfl (by omega) hk fun w69 hw69 => ?_
      refine (o4.vw 0 rfl).subA (a := k) (j := S.length) encN_len rfl rfl hk (Nat.le_refl _) fun w76 hw76 => ?_
      have e1 : (S.drop 0).take (k - 0) = S.take k := by rw [List.drop_zero, Nat.sub_zero]
      have e2 : (S.drop k).take (S.length - k) = S.drop k := List.take_of_length_le (by rw [List.length_drop]; exact Nat.le_refl _)
      rw [e1] at hw69
      rw [e2] at hw76
      have l1 : (S.take k).length = k := by rw [List.length_take]; omega
      have l2 : (S.drop k).length = S.length - k := List.length_drop
      have b1 : (([] : List Nat).length + (S.take k).length) * 8 ≤ 2 ^ 47 := by simp; omega
      have b2 : (([] ++ S.take k).length + [v].length) * 8 ≤ 2 ^ 47 := by simp; omega
      have b3 : (([] ++ S.take k ++ [v]).length + (S.drop k).length) * 8 ≤ 2 ^ 47 := by simp; omega
      refine ⟨o4.build (enc := encN) (n := 1) [] rfl (sizesOk_of rfl) rfl fun w66 h5 o5 => ⟨?_, ?_⟩, ?_⟩
      · refine o5.app 0 rfl encN_len encN_plain rfl (hw69 _ (o5.vw 1 rfl)) (by decide) b1 fun w70 h6 o6 => ?_
        refine o6.build (enc := encN) (n := 1) [v] rfl (sizesOk_of rfl) rfl fun w72 h7 o7 => ?_
        refine o7.app 1 rfl encN_len encN_plain rfl (o7.vw 0 rfl) (by decide) b2 fun w73 h8 o8 => ?_
        refine o8.app 1 rfl encN_len encN_plain rfl (hw76 _ (o8.vw 2 rfl)) (by decide) b3 fun w77 h9 o9 => ?_
        exact hJ _ _ (o9.sel [1, 3] (by decide))
      · refine o5.build (enc := encN) (n := 1) [v] rfl (sizesOk_of rfl) rfl fun w72 h6 o6 => ?_
        refine o6.app 1 rfl encN_len encN_plain rfl (hw69 _ (o6.vw 2 rfl)) (by decide) b1 fun w70 h7 o7 => ?_
        refine o7.app 1 rfl encN_len encN_plain rfl (o7.vw 0 rfl) (by decide) b2 fun w73 h8 o8 => ?_
        refine o8.app 1 rfl encN_len encN_plain rfl (hw76 _ (o8.vw 2 rfl)) (by decide) b3 fun w77 h9 o9 => ?_
        exact hJ _ _ (o9.sel [1, 3] (by decide))
      · refine o4.build (enc := encN) (n := 1) [v] rfl (sizesOk_of rfl) rfl fun w72 h5 o5 => ?_
        refine o5.build (enc := encN) (n := 1) [] rfl (sizesOk_of rfl) rfl fun w66 h6 o6 => ?_
        refine o6.app 0 rfl encN_len encN_plain rfl (hw69 _ (o6.vw 2 rfl)) (by decide) b1 fun w70 h7 o7 => ?_
        refine o7.app 0 rfl encN_len encN_plain rfl (o7.vw 1 rfl) (by decide) b2 fun w73 h8 o8 => ?_
        refine o8.app 0 rfl encN_len encN_plain rfl (hw76 _ (o8.vw 2 rfl)) (by decide) b3 fun w77 h9 o9 => ?_
        exact hJ _ _ (o9.sel [0, 3] (by decide))

end
end Go.Proofs.YtbacdjahpahcfaaGreatDoor

namespace Go.Proofs.YtbacdjahpahcfaaGreatDoor
open Go Go.Mh
set_option linter.unusedVariables false

section
variable {g : G} {vx vy va : Value}

theorem rpart22_ok {h0 : Heap} (hR : g.Right) (H : RawL h0 vx vy va g) : ∀ {k c nx q : Nat} {h : Heap} {L : List Res} {K : Value → Heap → Prop} {vl vc vp : Value} {l ys : List Nat} {out : List Int},
    Own h0 h (slR encI 1 T_int vc out :: L) → L[q]? = some (slR encN 1 T_int vp ys) → (∀ h', Vw encN 1 h' vp ys → Vw encN 1 h' vl l) →
    (∀ x ∈ l, x < g.n) → l.length ≤ 12 → out.length = g.n → 1 ≤ c → c ≤ k → c ≤ 256 → nx + c ≤ 2 ^ 40 →
    (∀ h', Own h0 h' (slR encI 1 T_int vc (asgF (partF g k c l) nx out) :: L) → K (.tuple #[]) h') → callS Tryz.prog F_milestoneref22_part [.agg #[I g.n, vx, vy, va], vl, I c, I nx, vc] h K
  | 0, c, nx, q, h, L, K, vl, vc, vp, l, ys, out, o, hq, hsub, hln, hl, hol, hc1, hck, hc, hnx, hK => by omega
  | k + 1, c, nx, q, h, L, K, vl, vc, vp, l, ys, out, o, hq, hsub, hln, hl, hol, hc1, hck, hc, hnx, hK => by
    refine callS_of (lk_milestoneref22_part _ _ _ _ _ ?_)
    unfold sh_milestoneref22_part
    refine o.box fun g5 h1 o1 => ?_
    have o1 : Own h0 h1 (cellR g5 [I g.n, vx, vy, va] T_api_Raw :: slR encI 1 T_int vc out :: L) := o1
    rw [pBin_eql, ifV_beq]
    refine ⟨fun e => ?_, fun e => ?_⟩
    · have e1 : c = 1 := by omega
      subst e1
      have ep : asgF (partF g (k + 1) 1 l) nx out = setL nx l out := by unfold partF; rw [if_pos rfl]; rfl
      rw [ep] at hK
      refine LoopH_count l.length (fun i x h' => x.1 = I i ∧ Own h0 h' (slR encI 1 T_int vc (setL nx (l.take i) out) :: L)) ⟨rfl, o1.tail⟩ ?_
      clear o1 o
      rintro i ⟨x, ⟨⟩⟩ h2 Z hi ⟨hx, o⟩ hZ
      dsimp only at hx hZ ⊢
      subst hx
      unfold sh_milestoneref22_part_L1
      refine (hsub _ (o.vw (q + 1) hq)).len ?_
      rw [pBin_lss, ifV_dec]
      refine ⟨fun hlt => ?_, fun hge => ?_⟩
      · have hlt : i < l.length := by omega
        refine (hsub _ (o.vw (q + 1) hq)).at1 (e := fun (x : Nat) => I x) (fun _ => rfl) hlt ?_
        refine o.setI 0 rfl (by rw [setL_len, hol]; exact hln _ (List.getElem_mem hlt)) fun h3 o3 => ?_
        rw [pBin_add, wI i (by omega)]
        refine hZ (_, ()) h3 hlt ⟨rfl, ?_⟩
        rw [List.take_succ_eq_append_getElem hlt, setL_snoc]
        exact o3
      · have : i = l.length := by omega
        subst this
        rw [List.take_length] at o
        exact hK h2 o
    · have hc2 : 2 ≤ c := by omega
      obtain ⟨hd, _, _⟩ := @wayG_spec g l
      have ep : partF g (k + 1) c l = partF g k (c / 2) ((ordV (valG g (wayG g l).1) l).take (l.length * (c / 2) / c)) ++ partF g k (c - c / 2) ((ordV (valG g (wayG g l).1) l).drop (l.length * (c / 2) / c)) := by
        conv => lhs; unfold partF
        rw [if_neg (by omega)]
      have eml : mksZ g.n (nI l) = l := mksZ_nI hln
      refine o1.ldN (cs' := [I g.n, vx, vy, va]) 0 rfl rfl rfl ?_
      refine rway22_ok (xs := nI l) hR (H.more o1.ext) (vw_nI (hsub _ (o1.vw (q + 2) hq))) (by rw [nI_len]; omega) fun h2 x2 => ?_
      rw [eml]
      have o2 := o1.more x2
      clear o1 o
      simp only [pExt0, pExt1]
      refine o2.ldN (cs' := [I g.n, vx, vy, va]) 0 rfl rfl rfl ?_
      refine rord22_ok hR (H.more o2.ext) hd (hsub _ (o2.vw (q + 2) hq)) (by omega) hln fun w h3 o3' => ?_
      have o3 := o2.frame o3'
      have ol : (ordV (valG g (wayG g l).1) l).length = l.length := ordV_len
      have oln : ∀ x ∈ ordV (valG g (wayG g l).1) l, x < g.n := fun x hx => hln x (ordV_perm.mem_iff.1 hx)
      have hh := half_le (m := l.length) hc2
      generalize ordV (valG g (wayG g l).1) l = O at o3 ol oln ep
      have o8 : Own h0 h3 (slR encI 1 T_int vc out :: slR encN 1 T_int w O :: cellR g5 [I g.n, vx, vy, va] T_api_Raw :: L) := o3.front 3 [2, 0, 1] (by decide) (by decide)
      clear o3 o3' o2
      refine (o8.vw 1 rfl).len ?_
      rw [ol]
      have q2 : ((c : Int)).tdiv 2 = ((c / 2 : Nat) : Int) := tdivN (b := 2)
      have hmul : l.length * (c / 2) ≤ 12 * 128 := Nat.mul_le_mul hl (by omega)
      rw [pBin_quo]
      refine ⟨by decide, ?_⟩
      rw [q2, w64 (by omega) (by omega), pBin_mul, show ((l.length : Int) * ((c / 2 : Nat) : Int)) = ((l.length * (c / 2) : Nat) : Int) by simp, w64 (by omega) (by omega), pBin_quo]
      refine ⟨by omega, ?_⟩
      rw [tdivN]
      generalize l.length * (c / 2) / c = H' at hh ep ⊢
      rw [w64 (by omega) (by omega)]
      refine o8.ldN (cs' := [I g.n, vx, vy, va]) 2 rfl rfl rfl ?_
      refine (o8.vw 1 rfl).subA (a := 0) (j := H') encN_len rfl rfl (by omega) (by omega) fun w1 hw1 => ?_
      rw [pBin_quo]
      refine ⟨by decide, ?_⟩
      rw [q2, w64 (by omega) (by omega)]
      rw [ep, asgF_append, partF_len (by omega) (by omega)] at hK
      refine rpart22_ok hR H (k := k) (c := c / 2) (q := 0) (L := slR encN 1 T_int w O :: cellR g5 [I g.n, vx, vy, va] T_api_Raw :: L) (l := O.take H') o8 rfl (fun h' H1 => by have := hw1 h' H1; rwa [List.drop_zero, Nat.sub_zero] at this) (fun x hx => oln x (List.mem_of_mem_take hx)) (by rw [List.length_take]; omega) hol (by omega) (by omega) (by omega) (by omega) fun h8 o9 => ?_
      clear o8
      refine o9.ldN (cs' := [I g.n, vx, vy, va]) 2 rfl rfl rfl ?_
      refine (o9.vw 1 rfl).subA (a := H') (j := O.length) encN_len rfl rfl (by omega) (Nat.le_refl _) fun w2 hw2 => ?_
      rw [pBin_quo]
      refine ⟨by decide, ?_⟩
      rw [q2, w64 (by omega) (by omega), pBin_sub, show (c : Int) - ((c / 2 : Nat) : Int) = ((c - c / 2 : Nat) : Int) by omega, w64 (by omega) (by omega), pBin_quo]
      refine ⟨by decide, ?_⟩
      rw [q2, w64 (by omega) (by omega), pBin_add, show (nx : Int) + ((c / 2 : Nat) : Int) = ((nx + c / 2 : Nat) : Int) by omega, w64 (by omega) (by omega)]
      refine rpart22_ok hR H (k := k) (c := c - c / 2) (q := 0) (L := slR encN 1 T_int w O :: cellR g5 [I g.n, vx, vy, va] T_api_Raw :: L) (l := O.drop H') o9 rfl (fun h' H1 => by have := hw2 h' H1; rwa [List.take_of_length_le (by rw [List.length_drop]; exact Nat.le_refl _)] at this) (fun x hx => oln x (List.mem_of_mem_drop hx)) (by rw [List.length_drop]; omega) (by rw [asgF_len]; exact hol) (by omega) (by omega) (by omega) (by omega) fun h9 o10 => ?_
      exact hK h9 (o10.front 3 [0] (by decide) (by decide))

theorem rmap22_ok {h : Heap} {K : Value → Heap → Prop} {z : Int} (hR : g.Right) (hn : g.n ≤ 12) (H : RawL h vx vy va g) (hK : ∀ w h', Own h h' [slR encI 1 T_int w (mapZ g z)] → K w h') : callS Tryz.prog F_milestoneref22_Map [.agg #[I g.n, vx, vy, va], I z] h K := by
  refine callS_of (lk_milestoneref22_Map _ _ ?_)
  unfold sh_milestoneref22_Map sh_milestoneref22_Map_k1
  refine (Own.start h).box fun g2 h1 o1 => ?_
  have o1 : Own h h1 [cellR g2 [I g.n, vx, vy, va] T_api_Raw] := o1
  unfold mapZ at hK
  rw [pBin_lss, ifV_dec]
  refine ⟨fun c => ?_, fun c1 => ?_⟩
  · rw [if_neg (by omega)] at hK
    exact hK _ h1 (o1.nilS.sel [0] (by decide))
  rw [pBin_gtr, ifV_dec]
  refine ⟨fun c => ?_, fun c2 => ?_⟩
  · rw [if_neg (by omega)] at hK
    exact hK _ h1 (o1.nilS.sel [0] (by decide))
  rw [if_pos (by omega)] at hK
  obtain ⟨c, rfl⟩ : ∃ c : Nat, z = c := Int.eq_ofNat_of_zero_le (by omega)
  rw [Int.toNat_natCast] at hK
  refine LoopH_count g.n (fun i x h' => x.2.2.1 = I i ∧ Own h h' [slR encI 1 T_int x.2.1 (List.replicate i 0), slR encN 1 T_int x.1 (List.range i), cellR g2 [I g.n, vx, vy, va] T_api_Raw]) ⟨rfl, o1.nilS.nilS⟩ ?_
  clear o1
  rintro i ⟨wa, wo, y, ⟨⟩⟩ h2 Z hi ⟨hy, o⟩ hZ
  dsimp only at hy o hZ ⊢
  subst hy
  unfold sh_milestoneref22_Map_L2
  simp only [pField_ptr]
  refine o.load 2 rfl rfl ?_
  rw [pBin_lss, ifV_dec]
  refine ⟨fun hlt => ?_, fun hge => ?_⟩
  · have hlt : i < g.n := by omega
    refine o.app1 1 i rfl rfl (sizesOk_of rfl) (fun _ => rfl) encN_plain rfl (by decide) (by rw [List.length_range]; omega) fun wa' h3 o3 => ?_
    refine o3.app1 0 (0 : Int) rfl rfl (sizesOk_of rfl) encI_len encI_plain rfl (by decide) (by rw [List.length_replicate]; omega) fun wo' h4 o4 => ?_
    rw [pBin_add, wI i (by omega)]
    refine hZ (_, _, _, ()) h4 hlt ⟨rfl, ?_⟩
    rw [List.range_succ, List.replicate_succ']
    exact o4
  · have : i = g.n := by omega
    subst this
    refine o.ldN (cs' := [I g.n, vx, vy, va]) 2 rfl rfl rfl ?_
    refine rpart22_ok hR H (k := c) (c := c) (nx := 0) (q := 0) (L := [slR encN 1 T_int wa (List.range g.n), cellR g2 [I g.n, vx, vy, va] T_api_Raw]) o rfl (fun h' H' => H') (fun x hx => List.mem_range.1 hx) (by rw [List.length_range]; exact hn) (by rw [List.length_replicate]) (by omega) (Nat.le_refl _) (by omega) (by omega) fun h5 o5 => ?_
    exact hK wo h5 (o5.sel [0] (by decide))

end
end Go.Proofs.YtbacdjahpahcfaaGreatDoor

namespace Go.Proofs.YtbacdjahpahcfaaGreatDoor
open Go Go.Mh
set_option linter.unusedVariables false

section
variable {h0 h : Heap} {L : List Res} {K : Value → Heap → Prop} {g : G} {v : Value}

theorem outsP_take {q : A → Bool} {l : List A} {i : Nat} (hi : i < l.length) : outsP q (l.take (i + 1)) 0 = outsP q (l.take i) 0 ++ (if q l[i] then [i] else []) := by
  rw [List.take_succ_eq_append_getElem hi, outsP_append]
  simp only [outsP, List.length_take, Nat.zero_add, Nat.min_eq_left (Nat.le_of_lt hi)]

/-- Are both rows alike? -/
theorem rints_ok {α : Type} {enc : α → List Value} {e : α → Int} {xs : List α} {va vb : Value} (he : ∀ a, enc a = [I (e a)]) (Ha : Vw enc 1 h va xs) (Hb : Vw enc 1 h vb xs) (hl : xs.length < 2 ^ 40) (hK : K (.bool true) h) : callS Tryz.prog F_milestoneref07_Ints [va, vb] h K := by
  refine callS_of (lk_milestoneref07_Ints _ _ ?_)
  unfold sh_milestoneref07_Ints
  refine Ha.len (Hb.len ?_)
  rw [pBin_neq, bne_self_eq_false, ifV_false]
  refine LoopH_count xs.length (fun i x h' => x.1 = I i ∧ h' = h) ⟨rfl, rfl⟩ ?_
  rintro i ⟨x, ⟨⟩⟩ h' Z hi ⟨hx, rfl⟩ hZ
  dsimp only at hx hZ ⊢
  subst hx
  unfold sh_milestoneref07_Ints_L1
  refine Ha.len ?_
  simp only [pBin_lss, ifV_dec]
  refine ⟨fun hlt => ?_, fun hge => hK⟩
  have hlt : i < xs.length := by omega
  refine Ha.at1 (e := fun a => I (e a)) he hlt (Hb.at1 (e := fun a => I (e a)) he hlt ?_)
  rw [pBin_neq, bne_self_eq_false, ifV_false, pBin_add, wI i (by omega)]
  exact hZ (I (i + 1 : Nat), ()) _ hlt ⟨rfl, rfl⟩

end
end Go.Proofs.YtbacdjahpahcfaaGreatDoor

namespace Go.Proofs.YtbacdjahpahcfaaGreatDoor
open Go Go.Mh
set_option linter.unusedVariables false

section
variable {h0 h : Heap} {L : List Res} {K : Value → Heap → Prop} {vb vxy vc : Value} {bs xys cs : List Int}

theorem mapZ_len {g : G} {z : Int} : (mapZ g z).length ≤ g.n := by
  unfold mapZ
  split
  · rw [mapG_len]; exact Nat.le_refl _
  · exact Nat.zero_le _

theorem splitTells_ok (H : Vw encU8 1 h vb bs) (Hx : Vw (encK .i32) 1 h vxy xys) (hxr : ∀ x ∈ xys, -2147483648 ≤ x ∧ x ≤ 2147483647) (Hc : Vw (encK .i16) 1 h vc cs) (hcr : ∀ x ∈ cs, -32768 ≤ x ∧ x ≤ 32767) (hK : ∀ h', Ext h h' → K (.bool true) h') :
    CallsH Tryz.prog F_milestonelaw22_SplitTells [vb, vxy, vc].toArray h K := by
  refine lk_milestonelaw22_SplitTells _ _ _ ?_
  unfold sh_milestonelaw22_SplitTells
  refine drawn22_ok H Hx hxr fun g vx vy va h2 hg o2 => ?_
  have hR := hg.toRight
  have hmost := hg.few
  have hpos := hR.pos
  refine o2.box fun g7 h3 o3 => o3.st (cs' := [I g.n, vx, vy, va]) 0 rfl rfl rfl rfl rfl (agg4_plain22 o3 (i := 1) (j := 2) (k := 3) rfl rfl rfl) fun h4 o4 => o4.ldN (cs' := [I g.n, vx, vy, va]) 0 rfl rfl rfl ?_
  refine made22_ok o4 hR ⟨vx, vy, va, rfl, o4.vw 1 rfl, o4.vw 2 rfl, o4.vw 3 rfl⟩ fun r N h5 hN o5 => ?_
  simp only [pEq_ptr_nil, Option.isNone_some, ifV_false]
  have o : Own h h5 [N, cellR g7 [I g.n, vx, vy, va] T_api_Raw, xR vx g.X, xR vy g.Y, aR va g.arcs] := o5
  clear o5 o4 o3 o2
  have k3 : ∀ (h' : Heap) (X : List Res), Own h h' (X ++ [N, cellR g7 [I g.n, vx, vy, va] T_api_Raw, xR vx g.X, xR vy g.Y, aR va g.arcs]) → sh_milestonelaw22_SplitTells_k3 Tryz.prog (ptr g7) (ptr r) K h' := by
    intro h' X o'
    have o := (Own.comm o').left
    clear o'
    unfold sh_milestonelaw22_SplitTells_k3
    refine LoopH_count 15 (fun i x h' => x.1 = I i ∧ Own h h' [N, cellR g7 [I g.n, vx, vy, va] T_api_Raw, xR vx g.X, xR vy g.Y, aR va g.arcs]) ⟨rfl, o⟩ ?_
    clear o
    rintro i ⟨x, ⟨⟩⟩ h6 Z hi ⟨hx, o⟩ hZ
    dsimp only at hx hZ ⊢
    subst hx
    unfold sh_milestonelaw22_SplitTells_L4
    rw [pBin_leq, ifV_dec]
    refine ⟨fun c => ?_, fun c => works22_ok fun h7 x7 => hK _ (o.more x7).ext⟩
    refine o.ldN (cs' := [I g.n, vx, vy, va]) 1 rfl rfl rfl ?_
    refine smap_ok (z := (i : Int)) (nq := 0) o rfl hN hR hmost fun w h7 o7 => ⟨o7.ldN (cs' := [I g.n, vx, vy, va]) 2 rfl rfl rfl rfl, ?_⟩
    refine rmap22_ok (z := (i : Int)) hR hmost ⟨o7.vw 3 rfl, o7.vw 4 rfl, o7.vw 5 rfl⟩ fun w2 h8 o8' => ?_
    have o8 := o7.frame o8'
    refine rints_ok (e := fun x => x) (fun _ => rfl) (o8.vw 1 rfl) (o8.vw 0 rfl) (by have := @mapZ_len g i; omega) ?_
    rw [pUn_not, Bool.not_true, ifV_false, pBin_add, wI i (by omega)]
    exact hZ (_, ()) _ (by omega) ⟨rfl, o8.sel [2, 3, 4, 5, 6] (by decide)⟩
  refine LoopH_count (min cs.length 20) (fun i x h' => x.2.1 = I i ∧ Own h h' [slR encI 1 T_int x.1 ((cs.take i).map fun (x : Int) => x.tmod 16), N, cellR g7 [I g.n, vx, vy, va] T_api_Raw, xR vx g.X, xR vy g.Y, aR va g.arcs]) ⟨rfl, o.nilS⟩ ?_
  clear o
  rintro i ⟨wl, y, ⟨⟩⟩ h9 Z hi ⟨hy, o⟩ hZ
  dsimp only at hy o hZ ⊢
  subst hy
  have hln : ((cs.take i).map fun (x : Int) => x.tmod 16).length = i := by rw [List.length_map, List.length_take]; omega
  unfold sh_milestonelaw22_SplitTells_L1
  refine (Hc.more o.ext).len ?_
  rw [pBin_lss, ifV_dec]
  refine ⟨fun c1 => ?_, fun c1 => k3 h9 [_] o⟩
  rw [pBin_lss, ifV_dec]
  refine ⟨fun c2 => ?_, fun c2 => k3 h9 [_] o⟩
  have hil : i < cs.length := by omega
  have hrx := hcr _ (List.getElem_mem hil)
  have tk : (cs.take (i + 1)).map (fun (x : Int) => x.tmod 16) = (cs.take i).map (fun (x : Int) => x.tmod 16) ++ [cs[i].tmod 16] := by rw [List.take_succ_eq_append_getElem hil, List.map_append]; rfl
  have hat : ∀ {h' : Heap} {K' : Value → Prop}, Ext h h' → K' (.int .i16 cs[i]) → pIdx 1 vc (I i) fun t => pLoad h' t K' := fun x hk => (Hc.more x).at1 (e := fun x : Int => .int .i16 x) (fun _ => rfl) hil hk
  have hix : ∀ {K' : Value → Prop}, (∀ b o, (∀ h', Ext h h' → hcell h' ⟨b, o, none⟩ = some (.int .i16 cs[i])) → K' (.pointer (some ⟨b, o, none⟩))) → pIdx 1 vc (I i) K' := fun hk => Hc.idx (fun _ => rfl) hil fun b o hc => hk b o fun h' x => hcell_more x (by simpa [encK] using hc 0 (by omega))
  rw [tk] at hZ
  generalize cs[i] = m at hrx hat hix hZ
  generalize (cs.take i).map (fun (x : Int) => x.tmod 16) = lo at o hZ hln
  refine hat o.ext ?_
  rw [pConv_int, w64 (by omega) (by omega), pBin_rem]
  refine ⟨by decide, ?_⟩
  refine o.app1 0 (m.tmod 16) rfl rfl (sizesOk_of rfl) encI_len encI_plain rfl (by decide) (by omega) fun w' h10 o10 => ?_
  have o10 : Own h h10 [slR encI 1 T_int w' (lo ++ [m.tmod 16]), N, cellR g7 [I g.n, vx, vy, va] T_api_Raw, xR vx g.X, xR vy g.Y, aR va g.arcs] := o10
  clear o
  have hll : (lo ++ [m.tmod 16]).length ≤ 20 := by rw [List.length_append, List.length_singleton]; omega
  refine sway_ok (nq := 1) o10 rfl hN hR (o10.vw 0 rfl) (by omega) fun h11 o11 => ?_
  simp only [pExt0, pExt1]
  refine o11.ldN (cs' := [I g.n, vx, vy, va]) 2 rfl rfl rfl ?_
  refine rway22_ok hR ⟨o11.vw 3 rfl, o11.vw 4 rfl, o11.vw 5 rfl⟩ (o11.vw 0 rfl) (by omega) fun h12 x12 => ?_
  have o12 := o11.more x12
  simp only [pExt0, pExt1]
  refine cutP_of (fun y h' => y.1 = .bool false ∧ Own h h' [slR encI 1 T_int w' (lo ++ [m.tmod 16]), N, cellR g7 [I g.n, vx, vy, va] T_api_Raw, xR vx g.X, xR vy g.Y, aR va g.arcs]) (fun J hJ => ?_) ?_
  · rw [pBin_neq, bne_self_eq_false, ifV_false, pBin_neq, bne_self_eq_false, ifV_false]
    refine hat o12.ext ?_
    rw [pConv_int, w64 (by omega) (by omega)]
    refine o12.ldN (cs' := [I g.n, vx, vy, va]) 2 rfl rfl rfl ?_
    refine hix fun b1 f1 q1 => pLoad_of rfl (q1 _ o12.ext) ?_
    rw [pConv_int, w64 (by omega) (by omega)]
    refine smap_ok (z := m) (nq := 1) o12 rfl hN hR hmost fun w h13 o13 => ⟨o13.ldN (cs' := [I g.n, vx, vy, va]) 3 rfl rfl rfl rfl, pLoad_of rfl (q1 _ o13.ext) rfl, ?_⟩
    refine rmap22_ok (z := m) hR hmost ⟨o13.vw 4 rfl, o13.vw 5 rfl, o13.vw 6 rfl⟩ fun w2 h14 o14' => ?_
    have o14 := o13.frame o14'
    refine rints_ok (e := fun x => x) (fun _ => rfl) (o14.vw 1 rfl) (o14.vw 0 rfl) (by have := @mapZ_len g m; omega) ?_
    rw [pUn_not, Bool.not_true]
    exact hJ _ _ ⟨rfl, o14.sel [2, 3, 4, 5, 6, 7] (by decide)⟩
  · rintro ⟨y, ⟨⟩⟩ h13 ⟨hy, o13⟩
    dsimp only at hy ⊢
    subst hy
    unfold sh_milestonelaw22_SplitTells_C2
    rw [ifV_false, pBin_add, wI i (by omega)]
    exact hZ (_, _, ()) _ (by omega) ⟨rfl, o13⟩

end
end Go.Proofs.YtbacdjahpahcfaaGreatDoor
