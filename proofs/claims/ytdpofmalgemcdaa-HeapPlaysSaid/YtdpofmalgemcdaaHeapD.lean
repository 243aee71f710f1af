/- A text of the proofs of seat Ytdpofmalgemcdaa: 'HeapD'. It has no condition of its own. -/
import Derived.Test.YtdpofmalgemcdaaHeapC
import Derived.Test.YtdpofmalgemcdaaMhSlice
set_option linter.unusedVariables false
set_option linter.unusedSimpArgs false
namespace Go.Proofs.Ytdpofmalgemcdaa
open Go Go.Mh

theorem Rep.sl {h : Heap} {r m bl : Nat} {l : List HE} {n : Int} (H : Rep h r m bl l n) : ∃ base cap, h[r]? = some (.cells #[.slice base l.length cap, .map (some m), I n] tHeap (0, 0)) := by
  obtain ⟨sl, cap, rest, hr, hs⟩ := H.row
  rcases hs with ⟨rfl, rfl, _⟩ | ⟨rfl, _⟩
  · exact ⟨_, _, hr⟩
  · exact ⟨_, _, hr⟩

theorem below_range {h0 : Heap} {r m bl bi br : Nat} {l : List HE} {n : Int} {j : Nat} {B : Loop → Vals [13] → Heap → (Exit → Heap → Prop) → Prop} {Kn Kr : Heap → Prop} {T1 T2 : TypeId}
    (J : Nat → Heap → Prop) (hj : j < 2 ^ 40)
    (hJ : ∀ k h', J k h' → h'[bi]? = some (.cells #[I j] T1 (0, 0)) ∧ h'[br]? = some (.cells #[ptr r] T2 (0, 0)) ∧ Rep h' r m bl l n)
    (hinit : ∀ L, J (4 * j + 1) (h0.push (lo L .ready none)))
    (hstep : ∀ k h' L R, J k h' → h'[h0.size]? = some (lo L .ready none) → k < l.length → 4 * j + 1 ≤ k → k ≤ 4 * j + 4 → (∀ h'', J (k + 1) h'' → h''[h0.size]? = some (lo L .ready none) → R (.bool true) h'') →
      B L (I k, ()) h' (roundK h0.size L R))
    (hend : ∀ k h' L, J k h' → h'[h0.size]? = some (lo L .ready none) → (4 * j + 4 < k ∨ l.length ≤ k) → Kn (upd h' h0.size (lo L .exhausted none))) :
    rangeH Try.prog (.func (.func 34) #[] #[ptr bi, ptr br]) [13] h0.size h0 B Kn Kr [] := by
  intro L hy
  show CallsH Try.prog 34 [yieldV h0.size, ptr bi, ptr br].toArray _ _
  refine link34 _ _ _ ?_
  have hJ0 := hinit L
  unfold sh34
  have a0 := hcell0 (hJ _ _ hJ0).1
  have e1 : IntKind.i64.wrap (4 * (j : Int)) = 4 * (j : Int) := w64 (by omega) (by omega)
  have e2 : IntKind.i64.wrap (4 * (j : Int) + 1) = 4 * (j : Int) + 1 := w64 (by omega) (by omega)
  simp only [pLoad_ptr, a0, pBin_mul, pBin_add, e1, e2]
  refine LoopH_intro (fun x h' => ∃ k : Nat, x.1 = I k ∧ 4 * j + 1 ≤ k ∧ k ≤ 4 * j + 5 ∧ J k h' ∧ h'[h0.size]? = some (lo L .ready none))
    (fun x _ => match x.1 with | .int _ n => (4 * (j : Int) + 5 - n).toNat | _ => 0) ⟨4 * j + 1, by simp, Nat.le_refl _, by omega, hJ0, push_new⟩ ?_
  rintro ⟨x, ⟨⟩⟩ h' Z ⟨k, hx, hk1, hk2, hJk, hl⟩ hZ
  dsimp only at hx
  subst hx
  dsimp only at hZ ⊢
  obtain ⟨b1, b2, H⟩ := hJ _ _ hJk
  obtain ⟨base, cap, hr⟩ := H.sl
  have c1 := hcell0 b1
  have c2 := hcell0 b2
  have c3 := hcell0 hr
  have e3 : IntKind.i64.wrap (4 * (j : Int) + 4) = 4 * (j : Int) + 4 := w64 (by omega) (by omega)
  unfold sh34_L1
  simp only [pLoad_ptr, c1, c2, c3, pBin_mul, pBin_add, e1, e3, pBin_leq, pBin_lss, ifV_dec, pNil_ptr, pField_ptr, pLen_sl]
  refine ⟨fun hle => ⟨fun hlt => ?_, fun hge => ?_⟩, fun hgt => ?_⟩
  · refine hy (I k, ()) h' _ .ready none hl ?_
    refine hstep k h' L _ hJk hl (by omega) hk1 (by omega) fun h'' hJ'' hl'' => ?_
    simp only [pUn_not, Bool.not_true, ifV_false]
    have e4 : IntKind.i64.wrap ((k : Int) + 1) = ((k + 1 : Nat) : Int) := by rw [w64 (by omega) (by omega)]; rfl
    rw [e4]
    exact hZ _ _ ⟨k + 1, rfl, by omega, by omega, hJ'', hl''⟩ (by dsimp only; omega)
  · exact ⟨.ready, none, by decide, hl, hend k h' L hJk hl (by omega)⟩
  · exact ⟨.ready, none, by decide, hl, hend k h' L hJk hl (by omega)⟩

def DownInv (l : List HE) (i : Nat) : Prop :=
  (∀ j, 0 < j → j < l.length → (j - 1) / 4 ≠ i → ¬ hlt (gt l j) (gt l ((j - 1) / 4)) = true) ∧
  (0 < i → ∀ j, 0 < j → j < l.length → (j - 1) / 4 = i → ¬ hlt (gt l j) (gt l ((i - 1) / 4)) = true)

theorem DownInv.done {l : List HE} {i : Nat} (h : DownInv l i) (hi : ∀ j, 0 < j → j < l.length → (j - 1) / 4 = i → ¬ hlt (gt l j) (gt l i) = true) : HeapOrd l := by
  intro j h0 h1
  by_cases e : (j - 1) / 4 = i
  · rw [e]; exact hi j h0 h1 e
  · exact h.1 j h0 h1 e

theorem DownInv.step {l : List HE} {i b : Nat} (h : DownInv l i) (hi : i < l.length) (hb : b < l.length) (b0 : 0 < b) (bi : (b - 1) / 4 = i)
    (hlt' : hlt (gt l b) (gt l i) = true) (hmin : ∀ j, 0 < j → j < l.length → (j - 1) / 4 = i → ¬ hlt (gt l j) (gt l b) = true) : DownInv (swapL l i b hi hb) b := by
  have hib : i < b := by omega
  refine ⟨fun j j0 j1 jp => ?_, fun p0 j j0 j1 je => ?_⟩
  · rw [swapL_length] at j1
    rw [swapL_gt, swapL_gt]
    simp only [jp, if_false]
    by_cases e : (j - 1) / 4 = i
    · simp only [e, if_true]
      by_cases e1 : j = b
      · subst e1; simp only [if_true]; exact hlt_asymm hlt'
      · have e2 : ¬ j = i := by omega
        simp only [e1, e2, if_false]
        exact hmin j j0 j1 e
    · simp only [e, if_false]
      have e1 : ¬ j = b := fun e' => e (e' ▸ bi)
      simp only [e1, if_false]
      by_cases e2 : j = i
      · subst e2
        simp only [if_true]
        exact h.2 j0 b b0 hb bi
      · simp only [e2, if_false]
        exact h.1 j j0 j1 e
  · rw [swapL_length] at j1
    rw [swapL_gt, swapL_gt, bi]
    have e1 : ¬ j = b := by omega
    have e2 : ¬ j = i := by omega
    have e3 : ¬ i = b := by omega
    simp only [e1, e2, e3, if_false, if_true]
    have := h.1 j j0 j1 (by omega)
    rw [je] at this; exact this

theorem down_ok {h : Heap} {r m bl : Nat} {l : List HE} {n : Int} {i : Nat} {K : Value → Heap → Prop} (H : Rep h r m bl l n) (hi : i < 2 ^ 40) (hi' : i < l.length ∨ l = []) (hbl : bl < h.size) (hu : DownInv l i)
    (hK : ∀ h' l', Rep h' r m bl l' n → l'.Perm l → HeapOrd l' → Upd (fun b => b = m ∨ b = bl) h h' → K (.tuple #[]) h') : callS Try.prog 24 [ptr r, I i] h K := by
  refine callS_of (link24 _ _ ?_)
  obtain ⟨base0, cap0, hr0⟩ := H.sl
  obtain ⟨es0, c0, hm0, _⟩ := H.map
  have hrl := get_lt hr0
  have hml := get_lt hm0
  unfold sh24
  refine pBox_of ?_
  refine pStore_of rfl push_new rfl (by simp) (by simp) ?_
  -- the heap at the loop's beginning
  have u1 : Ext h (upd (h.push (.cells (Value.nilFunc).cells 69 (0, 0))) h.size (.cells (over [Value.nilFunc] 0 (Value.func (.func 29) #[ptr r] #[]).cells.toList).toArray 69 (0, 0))) :=
    ((Upd.push _ _ _).trans (Upd.upd (S := fun b => b = h.size) _ _ rfl) (fun b hb hlt => by omega))
  refine LoopH_intro (fun x h' => ∃ (j : Nat) (l' : List HE), x.2.1 = I j ∧ j < 2 ^ 40 ∧ (j < l'.length ∨ l' = []) ∧ Rep h' r m bl l' n ∧ l'.Perm l ∧ DownInv l' j ∧ Upd (fun b => b = m ∨ b = bl) h h' ∧
      h'[h.size]? = some (.cells #[.func (.func 29) #[ptr r] #[]] 69 (0, 0)) ∧ (∀ D ∈ x.1, h.size < D ∧ h'[D]? = some (.deferred (some []))) ∧ x.1.Nodup)
    (fun x _ => match x.2.1 with | .int _ n => (2 ^ 40 - n).toNat | _ => 0)
    ⟨i, l, rfl, hi, hi', H.upd u1 id id id, .refl _, hu, u1.upd, upd_self' push_new, by simp, by simp⟩ ?_
  rintro ⟨mk, x, ⟨⟩⟩ h' Z ⟨j, l', hx, hj, hjl, H', hp, hdi, hupd, hfirst, hmk, hmn⟩ hZ
  dsimp only at hx
  subst hx
  dsimp only at hZ hmk hmn ⊢
  unfold sh24_L1
  refine pBox_of ?_
  refine pStore_of rfl push_new rfl (by simp) (by simp) ?_
  have hbest : (upd (h'.push (.cells (I 0).cells 3 (0, 0))) h'.size (.cells (over [I 0] 0 (I j).cells.toList).toArray 3 (0, 0)))[h'.size]? = some (.cells #[I j] 3 (0, 0)) := upd_self' push_new
  have x2 : Ext h' (upd (h'.push (.cells (I 0).cells 3 (0, 0))) h'.size (.cells (over [I 0] 0 (I j).cells.toList).toArray 3 (0, 0))) :=
    ((Upd.push _ _ _).trans (Upd.upd (S := fun b => b = h'.size) _ _ rfl) (fun b hb hlt => by omega))
  generalize e2 : (upd (h'.push (.cells (I 0).cells 3 (0, 0))) h'.size (.cells (over [I 0] 0 (I j).cells.toList).toArray 3 (0, 0))) = h2 at hbest x2
  have hsz := x2.size
  have hsz2 := get_lt hbest
  clear e2
  -- below
  refine callS_of (link30 _ _ ?_)
  unfold sh30
  refine pBox_of (pBox_of ?_)
  simp only [push_size, cells_ptr, cells_int]
  have hbr : ((h2.push (.cells #[ptr r] 68 (0, 0))).push (.cells #[I j] 3 (0, 0)))[h2.size]? = some (.cells #[ptr r] 68 (0, 0)) :=
    (Upd.push (fun _ => False) (h2.push (.cells #[ptr r] 68 (0, 0))) (.cells #[I j] 3 (0, 0))).get push_new id
  have hbi : ((h2.push (.cells #[ptr r] 68 (0, 0))).push (.cells #[I j] 3 (0, 0)))[h2.size + 1]? = some (.cells #[I j] 3 (0, 0)) := by
    have := push_new (h := h2.push (.cells #[ptr r] 68 (0, 0))) (o := .cells #[I j] 3 (0, 0))
    rwa [push_size] at this
  have x3 : Ext h2 ((h2.push (.cells #[ptr r] 68 (0, 0))).push (.cells #[I j] 3 (0, 0))) := (Upd.push _ _ _).trans (Upd.push _ _ _) fun _ h _ => h
  have hs3 : ((h2.push (.cells #[ptr r] 68 (0, 0))).push (.cells #[I j] 3 (0, 0))).size = h2.size + 2 := by simp
  generalize ((h2.push (.cells #[ptr r] 68 (0, 0))).push (.cells #[I j] 3 (0, 0))) = h3 at hbr hbi x3 hs3
  have x4 : Ext h3 (h3.push (.deferred (some []))) := Upd.push _ _ _
  have hD4 : (h3.push (.deferred (some [])))[h3.size]? = some (.deferred (some [])) := push_new
  have hs4 : (h3.push (.deferred (some []))).size = h3.size + 1 := by simp
  rw [show h2.size + 1 + 1 = h3.size from hs3.symm, ← hs4]
  generalize h3.push (.deferred (some [])) = h4 at x4 hD4 hs4
  have x24 : Ext h' h4 := (x2.trans x3 fun _ h _ => h).trans x4 fun _ h _ => h
  have H4 := H'.upd x24 id id id
  have hbest4 := x4.get (x3.get hbest)
  have hbr4 := x4.get hbr
  have hbi4 := x4.get hbi
  have hfirst4 := x24.get hfirst
  have hsm := H'.small
  -- the invariant of the rounds
  refine below_range (r := r) (m := m) (bl := bl) (l := l') (n := n) (j := j) (T1 := 3) (T2 := 68)
    (fun k hh => ∃ b : Nat, (b = j ∨ (4 * j + 1 ≤ b ∧ b ≤ 4 * j + 4 ∧ b < l'.length ∧ hlt (gt l' b) (gt l' j) = true)) ∧ (∀ c, 4 * j + 1 ≤ c → c < k → c < l'.length → ¬ hlt (gt l' c) (gt l' b) = true) ∧
      hh[h'.size]? = some (.cells #[I b] 3 (0, 0)) ∧ Upd (fun c => c = h'.size) h4 hh)
    hj ?_ ?_ ?_ ?_
  · rintro k hh ⟨b, _, _, _, hup⟩
    refine ⟨hup.get hbi4 (by omega), hup.get hbr4 (by omega), H4.upd hup ?_ ?_ ?_⟩
    · have := hupd.size; omega
    · have := hupd.size; omega
    · have := hupd.size; omega
  · intro L
    refine ⟨j, .inl rfl, fun c h1 h2 => by omega, (Upd.push (fun _ => False) _ _).get hbest4 id, Upd.push _ _ _⟩
  · rintro k hh L R ⟨b, hb, hc, hbb, hup⟩ hl hk h1 h2 hR
    have Hh : Rep hh r m bl l' n := H4.upd hup (by have := hupd.size; omega) (by have := hupd.size; omega) (by have := hupd.size; omega)
    unfold sh24_B2
    rw [← hs4]
    refine beginR_of hl ?_
    have ux : Upd (fun c => c = h4.size) hh (upd hh h4.size (lo L .busy none)) := Upd.upd _ _ rfl
    have hbusy : (upd hh h4.size (lo L .busy none))[h4.size]? = some (lo L .busy none) := upd_self' hl
    have hszh := get_lt hl
    have f1 := ux.get (hup.get hfirst4 (by have := hupd.size; have := get_lt hfirst; omega)) (by have := get_lt hfirst4; omega)
    have f2 := ux.get hbb (by omega)
    have Hx : Rep (upd hh h4.size (lo L .busy none)) r m bl l' n := Hh.upd ux (by have := get_lt hbest4; have := hupd.size; omega) (by have := get_lt hbest4; have := hupd.size; omega) (by have := get_lt hbest4; have := hupd.size; omega)
    generalize upd hh h4.size (lo L .busy none) = h5 at ux hbusy f1 f2 Hx
    have f1' := hcell0 f1
    have f2' := hcell0 f2
    simp only [pLoad_ptr, f1', f2']
    have hbl' : b < l'.length := by
      rcases hb with rfl | ⟨_, _, hb, _⟩
      · rcases hjl with h | h
        · exact h
        · subst h; simp at hk
      · exact hb
    have := ahead_ok (K := fun t17 h_9 => ifV t17 (pStore 1 (ptr h'.size) (I k) h_9 fun u_2 h_10 => roundK h4.size L R .normal h_10) (roundK h4.size L R .normal h_9)) Hx hk hbl' (fun h6 x6 => by
      rw [ifV_bool]
      refine ⟨fun ht => ?_, fun hf => ?_⟩
      · refine pStore_of rfl (x6.get f2) rfl (by simp) (by simp) ?_
        rw [gt_eq hk, gt_eq hbl'] at ht
        have hne : h'.size ≠ h4.size := by omega
        refine roundK_normal ((upd_ne hne).trans (x6.get hbusy)) (hR _ ?_ ?_)
        · refine ⟨k, .inr ⟨h1, h2, hk, ?_⟩, ?_, ?_, ?_⟩
          · rcases hb with rfl | ⟨_, _, _, hb⟩
            · exact ht
            · exact Classical.byContradiction fun hcc => (hlt_lt (hlt_lt hcc hb) ht) (by rw [hlt_iff] at *; omega)
          · intro c hc1 hc2 hc3
            by_cases hck : c = k
            · subst hck; exact fun e => hlt_asymm e e
            · exact hlt_lt (hc c hc1 (by omega) hc3) ht
          · exact (upd_ne hne.symm).trans (upd_self' (x6.get f2))
          · refine Upd.trans (Upd.trans (Upd.trans (hup.trans ux (S := fun c => c = h'.size) ?_) x6 ?_) (Upd.upd (S := fun c => c = h'.size) _ _ rfl) ?_) (Upd.upd (S := fun c => c = h4.size) _ _ rfl) ?_
            · intro b hb hlt; omega
            · intro b hb hlt; exact hb.elim
            · intro b hb hlt; exact hb
            · intro b hb hlt; omega
        · exact upd_self' ((upd_ne hne).trans (x6.get hbusy))
      · rw [gt_eq hk, gt_eq hbl'] at hf
        have hne : h'.size ≠ h4.size := by omega
        refine roundK_normal (x6.get hbusy) (hR _ ?_ ?_)
        · refine ⟨b, hb, ?_, ?_, ?_⟩
          · intro c hc1 hc2 hc3
            by_cases hck : c = k
            · subst hck; rw [hf]; simp
            · exact hc c hc1 (by omega) hc3
          · exact (upd_ne hne.symm).trans (x6.get f2)
          · refine Upd.trans (Upd.trans (hup.trans ux (S := fun c => c = h'.size) ?_) x6 ?_) (Upd.upd (S := fun c => c = h4.size) _ _ rfl) ?_
            · intro b hb hlt; omega
            · intro b hb hlt; exact hb.elim
            · intro b hb hlt; omega
        · exact upd_self' (x6.get hbusy))
    exact this
  · rintro k hh L ⟨b, hb, hc, hbb, hup⟩ hl hend
    have Hh : Rep hh r m bl l' n := H4.upd hup (by have := hupd.size; omega) (by have := hupd.size; omega) (by have := hupd.size; omega)
    have ux : Upd (fun c => c = h4.size) hh (upd hh h4.size (lo L .exhausted none)) := Upd.upd _ _ rfl
    have f2 := ux.get hbb (by omega)
    have hsize : h4.size ≤ hh.size := hup.size
    have Hx : Rep (upd hh h4.size (lo L .exhausted none)) r m bl l' n := Hh.upd ux (by have := hupd.size; omega) (by have := hupd.size; omega) (by have := hupd.size; omega)
    have uall : Upd (fun c => c = h'.size ∨ c = h4.size) h4 (upd hh h4.size (lo L .exhausted none)) := (hup.mono fun _ h _ => .inl h).trans ux fun b h _ => .inr h
    generalize upd hh h4.size (lo L .exhausted none) = h5 at ux f2 Hx uall
    have x25 : Ext h' h5 := x24.trans uall fun b hb hlt => by omega
    have hmk5 : ∀ D ∈ h3.size :: mk, h.size < D ∧ h5[D]? = some (.deferred (some [])) := by
      intro D hD
      rcases List.mem_cons.1 hD with rfl | hD
      · exact ⟨by have := hupd.size; omega, uall.get hD4 (by omega)⟩
      · exact ⟨(hmk D hD).1, x25.get (hmk D hD).2⟩
    have hmn5 : (h3.size :: mk).Nodup := List.nodup_cons.2 ⟨fun hin => by have := get_lt (hmk _ hin).2; omega, hmn⟩
    have f2' := hcell0 f2
    simp only [pLoad_ptr, f2', pBin_eql, ifV_beq]
    have hupd5 : Upd (fun b => b = m ∨ b = bl) h h5 := hupd.trans x25 fun _ h _ => h.elim
    refine ⟨fun he => ?_, fun he => ?_⟩
    · have he : b = j := by omega
      subst he
      refine takeM_of _ _ (fun D hD => (hmk5 D hD).2) hmn5 fun h6 hu6 => ?_
      have hn : ∀ c, c < h.size → ¬ c ∈ h3.size :: mk := fun c hc hin => by have := (hmk5 c hin).1; omega
      refine hK h6 l' (Hx.upd hu6 (hn _ hrl) (hn _ hml) (hn _ hbl)) hp (hdi.done fun c c0 c1 c2 => hc c (by omega) (by omega) c1) (hupd5.trans hu6 fun c hc hlt => (hn c hlt hc).elim)
    · have he : ¬ b = j := fun e => he (by rw [e])
      rcases hb with hb | ⟨hb1, hb2, hb3, hb4⟩
      · exact (he hb).elim
      · have hjl' : j < l'.length := by omega
        refine swap_ok Hx hjl' hb3 fun h6 H6 hu6 => ?_
        have hn6 : ∀ c, h.size ≤ c → ¬ (c = m ∨ c = bl) := fun c hc => by omega
        have f3 := hcell0 (hu6.get f2 (hn6 _ (by have := hupd.size; omega)))
        simp only [pLoad_ptr, f3]
        refine hZ (h3.size :: mk, (I b, ())) h6 ⟨b, _, rfl, by omega, .inl (by rw [swapL_length]; exact hb3), H6, (swapL_perm hjl' hb3).trans hp, ?_, hupd5.trans hu6 fun _ h _ => h, ?_, ?_, hmn5⟩ ?_
        · exact hdi.step hjl' hb3 (by omega) (by omega) hb4 fun c c0 c1 c2 => hc c (by omega) (by omega) c1
        · exact hu6.get (x25.get hfirst) (hn6 _ (Nat.le_refl _))
        · intro D hD
          exact ⟨(hmk5 D hD).1, hu6.get (hmk5 D hD).2 (hn6 _ (by have := (hmk5 D hD).1; omega))⟩
        · dsimp only; omega

end Go.Proofs.Ytdpofmalgemcdaa
