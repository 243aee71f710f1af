/- Texts of the proofs of seat YtmdldoolnhpaeaaGreatDoor, joined: HpD, HpE, HpF, HpG, HpH, HpI, HoA, FlA, FlB, FlC, FlD, SpA, VaA, SpB, SoA, DfA, SpC, SpD. They have no conditions of their own. -/
import Derived.Test.YtmdldoolnhpaeaaGreatDoorTa
import Derived.Test.YtmdldoolnhpaeaaGreatDoorMc
import Derived.Test.YtmdldoolnhpaeaaGreatDoorGb
import Derived.Test.YtmdldoolnhpaeaaGreatDoorMd
import Derived.Test.YtmdldoolnhpaeaaGreatDoorGa
import Derived.Shelf.SlSortCmp.Whole1
import Derived.KernelRfl
set_option linter.unusedVariables false
set_option linter.unusedSimpArgs false
set_option linter.unusedSectionVars false

namespace Go.Proofs.YtmdldoolnhpaeaaGreatDoor
open Go Go.Mh

theorem Rep.sl {h : Heap} {r m bl : Nat} {l : List HE} {n : Int} (H : Rep h r m bl l n) : ∃ base cap, h[r]? = some (.cells #[.slice base l.length cap, .map (some m), I n] tHeap (0, 0)) := by
 obtain ⟨sl, cap, rest, hr, hs⟩ := H.row
 rcases hs with ⟨rfl, rfl, _⟩ | ⟨rfl, _⟩
 ·exact ⟨_, _, hr⟩
 ·exact ⟨_, _, hr⟩

theorem below_range {h0 : Heap} {r m bl bi br : Nat} {l : List HE} {n : Int} {j : Nat} {B : Loop -> Vals [13] -> Heap -> (Exit -> Heap -> Prop) -> Prop} {Kn Kr : Heap -> Prop} {T1 T2 : TypeId}
  (J : Nat -> Heap -> Prop) (hj : j < 2 ^ 40)
  (hJ : ∀ k h', J k h' -> h'[bi]? = some (.cells #[I j] T1 (0, 0)) /\ h'[br]? = some (.cells #[ptr r] T2 (0, 0)) /\ Rep h' r m bl l n)
  (hinit : ∀ L, J (4 * j + 1) (h0.push (lo L .ready none)))
  (hstep : ∀ k h' L R, J k h' -> h'[h0.size]? = some (lo L .ready none) -> k < l.length -> 4 * j + 1 <= k -> k <= 4 * j + 4 -> (∀ h'', J (k + 1) h'' -> h''[h0.size]? = some (lo L .ready none) -> R (.bool true) h'') ->
   B L (I k, ()) h' (roundK h0.size L R))
  (hend : ∀ k h' L, J k h' -> h'[h0.size]? = some (lo L .ready none) -> (4 * j + 4 < k \/ l.length <= k) -> Kn (upd h' h0.size (lo L .exhausted none))) :
  rangeH Tryz.prog (.func (.func F_heap_row_below_1) #[] #[ptr bi, ptr br]) [13] h0.size h0 B Kn Kr [] := by
 intro L hy
 show CallsH Tryz.prog F_heap_row_below_1 [yieldV h0.size, ptr bi, ptr br].toArray _ _
 refine lk_heap_row_below_1 _ _ _ ?_
 have hJ0 := hinit L
 unfold sh_heap_row_below_1
 have a0 := hcell0 (hJ _ _ hJ0).1
 have e1 : IntKind.i64.wrap (4 * (j : Int)) = 4 * (j : Int) := w64 (by omega) (by omega)
 have e2 : IntKind.i64.wrap (4 * (j : Int) + 1) = 4 * (j : Int) + 1 := w64 (by omega) (by omega)
 simp only [pLoad_ptr, a0, pBin_mul, pBin_add, e1, e2]
 refine LoopH_intro (fun x h' => ∃ k : Nat, x.1 = I k /\ 4 * j + 1 <= k /\ k <= 4 * j + 5 /\ J k h' /\ h'[h0.size]? = some (lo L .ready none))
  (fun x _ => match x.1 with | .int _ n => (4 * (j : Int) + 5 - n).toNat | _ => 0) ⟨4 * j + 1, by simp, Nat.le_refl _, by omega, hJ0, push_new⟩ ?_
 rintro ⟨x, ⟨⟩⟩ h' Z ⟨k, hx, hk1, hk2, hJk, hl⟩ hZ
 dsimp only at hx
 subst hx
 dsimp only at hZ ⊢
 obtain ⟨b1, b2, H⟩ := hJ _ _ hJk
 obtain ⟨base, cap, hr⟩ := H.sl
 have c1 := hcell0 b1
 have c2 := hcell0 b2
 have c3 := hcell0 hr
 have e3 : IntKind.i64.wrap (4 * (j : Int) + 4) = 4 * (j : Int) + 4 := w64 (by omega) (by omega)
 unfold sh_heap_row_below_1_L1
 simp only [pLoad_ptr, c1, c2, c3, pBin_mul, pBin_add, e1, e3, pBin_leq, pBin_lss, ifV_dec, pNil_ptr, pField_ptr, pLen_sl]
 refine ⟨fun hle => ⟨fun hlt => ?_, fun hge => ?_⟩, fun hgt => ?_⟩
 ·refine hy (I k, ()) h' _ .ready none hl ?_
  refine hstep k h' L _ hJk hl (by omega) hk1 (by omega) fun h'' hJ'' hl'' => ?_
  simp only [pUn_not, Bool.not_true, ifV_false]
  have e4 : IntKind.i64.wrap ((k : Int) + 1) = ((k + 1 : Nat) : Int) := by rw [w64 (by omega) (by omega)]; rfl
  rw [e4]
  exact hZ _ _ ⟨k + 1, rfl, by omega, by omega, hJ'', hl''⟩ (by dsimp only; omega)
 ·exact ⟨.ready, none, by decide, hl, hend k h' L hJk hl (by omega)⟩
 ·exact ⟨.ready, none, by decide, hl, hend k h' L hJk hl (by omega)⟩

def DownInv (l : List HE) (i : Nat) : Prop :=
 (∀ j, 0 < j -> j < l.length -> (j - 1) / 4 ≠ i -> ¬ hlt (gt l j) (gt l ((j - 1) / 4)) = true) /\
 (0 < i -> ∀ j, 0 < j -> j < l.length -> (j - 1) / 4 = i -> ¬ hlt (gt l j) (gt l ((i - 1) / 4)) = true)

theorem DownInv.done {l : List HE} {i : Nat} (h : DownInv l i) (hi : ∀ j, 0 < j -> j < l.length -> (j - 1) / 4 = i -> ¬ hlt (gt l j) (gt l i) = true) : HeapOrd l := by
 intro j h0 h1
 by_cases e : (j - 1) / 4 = i
 ·rw [e]; exact hi j h0 h1 e
 ·exact h.1 j h0 h1 e

theorem DownInv.step {l : List HE} {i b : Nat} (h : DownInv l i) (hi : i < l.length) (hb : b < l.length) (b0 : 0 < b) (bi : (b - 1) / 4 = i)
  (hlt' : hlt (gt l b) (gt l i) = true) (hmin : ∀ j, 0 < j -> j < l.length -> (j - 1) / 4 = i -> ¬ hlt (gt l j) (gt l b) = true) : DownInv (swapL l i b hi hb) b := by
 have hib : i < b := by omega
 refine ⟨fun j j0 j1 jp => ?_, fun p0 j j0 j1 je => ?_⟩
 ·rw [swapL_length] at j1
  rw [swapL_gt, swapL_gt]
  simp only [jp, if_false]
  by_cases e : (j - 1) / 4 = i
  ·simp only [e, if_true]
   by_cases e1 : j = b
   ·subst e1; simp only [if_true]; exact hlt_asymm hlt'
   ·have e2 : ¬ j = i := by omega
    simp only [e1, e2, if_false]
    exact hmin j j0 j1 e
  ·simp only [e, if_false]
   have e1 : ¬ j = b := fun e' => e (e' ▸ bi)
   simp only [e1, if_false]
   by_cases e2 : j = i
   ·subst e2
    simp only [if_true]
    exact h.2 j0 b b0 hb bi
   ·simp only [e2, if_false]
    exact h.1 j j0 j1 e
 ·rw [swapL_length] at j1
  rw [swapL_gt, swapL_gt, bi]
  have e1 : ¬ j = b := by omega
  have e2 : ¬ j = i := by omega
  have e3 : ¬ i = b := by omega
  simp only [e1, e2, e3, if_false, if_true]
  have := h.1 j j0 j1 (by omega)
  rw [je] at this; exact this

theorem down_ok {h : Heap} {r m bl : Nat} {l : List HE} {n : Int} {i : Nat} {K : KT} (H : Rep h r m bl l n) (hi : i < 2 ^ 40) (hi' : i < l.length \/ l = []) (hbl : bl < h.size) (hu : DownInv l i)
  (hK : ∀ h' l', Rep h' r m bl l' n -> l'.Perm l -> HeapOrd l' -> Upd (fun b => b = m \/ b = bl) h h' -> K (.tuple #[]) h') : callS Tryz.prog F_heap_row_down [ptr r, I i] h K := by
 refine callS_of (lk_heap_row_down _ _ ?_)
 obtain ⟨base0, cap0, hr0⟩ := H.sl
 obtain ⟨es0, c0, hm0, _⟩ := H.map
 have hrl := get_lt hr0
 have hml := get_lt hm0
 unfold sh_heap_row_down
 refine pBox_of ?_
 refine pStore_of rfl push_new rfl (by simp) (by simp) ?_
 -- the heap at the loop's beginning
 have u1 : Ext h (upd (h.push (.cells (Value.nilFunc).cells T_func_int_int_bool (0, 0))) h.size (.cells (over [Value.nilFunc] 0 (Value.func (.func F_heap_row_ahead) #[ptr r] #[]).cells.toList).toArray T_func_int_int_bool (0, 0))) :=
  ((Upd.push _ _ _).trans (Upd.upd (S := fun b => b = h.size) _ _ rfl) (fun b hb hlt => by omega))
 refine LoopH_intro (fun x h' => ∃ (j : Nat) (l' : List HE), x.2.1 = I j /\ j < 2 ^ 40 /\ (j < l'.length \/ l' = []) /\ Rep h' r m bl l' n /\ l'.Perm l /\ DownInv l' j /\ Upd (fun b => b = m \/ b = bl) h h' /\
   h'[h.size]? = some (.cells #[.func (.func F_heap_row_ahead) #[ptr r] #[]] T_func_int_int_bool (0, 0)) /\ (∀ D ∈ x.1, h.size < D /\ h'[D]? = some (.deferred (some []))) /\ x.1.Nodup)
  (fun x _ => match x.2.1 with | .int _ n => (2 ^ 40 - n).toNat | _ => 0)
  ⟨i, l, rfl, hi, hi', H.upd u1 id id id, .refl _, hu, u1.upd, upd_self' push_new, by simp, by simp⟩ ?_
 rintro ⟨mk, x, ⟨⟩⟩ h' Z ⟨j, l', hx, hj, hjl, H', hp, hdi, hupd, hfirst, hmk, hmn⟩ hZ
 dsimp only at hx
 subst hx
 dsimp only at hZ hmk hmn ⊢
 unfold sh_heap_row_down_L1
 refine pBox_of ?_
 refine pStore_of rfl push_new rfl (by simp) (by simp) ?_
 have hbest : (upd (h'.push (.cells (I 0).cells T_int (0, 0))) h'.size (.cells (over [I 0] 0 (I j).cells.toList).toArray T_int (0, 0)))[h'.size]? = some (.cells #[I j] T_int (0, 0)) := upd_self' push_new
 have x2 : Ext h' (upd (h'.push (.cells (I 0).cells T_int (0, 0))) h'.size (.cells (over [I 0] 0 (I j).cells.toList).toArray T_int (0, 0))) :=
  ((Upd.push _ _ _).trans (Upd.upd (S := fun b => b = h'.size) _ _ rfl) (fun b hb hlt => by omega))
 generalize e2 : (upd (h'.push (.cells (I 0).cells T_int (0, 0))) h'.size (.cells (over [I 0] 0 (I j).cells.toList).toArray T_int (0, 0))) = h2 at hbest x2
 have hsz := x2.size
 have hsz2 := get_lt hbest
 clear e2
 -- below
 refine callS_of (lk_heap_row_below _ _ ?_)
 unfold sh_heap_row_below
 refine pBox_of (pBox_of ?_)
 simp only [push_size, cells_ptr, cells_int]
 have hbr : ((h2.push (.cells #[ptr r] T_p_heap_row (0, 0))).push (.cells #[I j] T_int (0, 0)))[h2.size]? = some (.cells #[ptr r] T_p_heap_row (0, 0)) :=
  (Upd.push (fun _ => False) (h2.push (.cells #[ptr r] T_p_heap_row (0, 0))) (.cells #[I j] T_int (0, 0))).get push_new id
 have hbi : ((h2.push (.cells #[ptr r] T_p_heap_row (0, 0))).push (.cells #[I j] T_int (0, 0)))[h2.size + 1]? = some (.cells #[I j] T_int (0, 0)) := by
  have := push_new (h := h2.push (.cells #[ptr r] T_p_heap_row (0, 0))) (o := .cells #[I j] T_int (0, 0))
  rwa [push_size] at this
 have x3 : Ext h2 ((h2.push (.cells #[ptr r] T_p_heap_row (0, 0))).push (.cells #[I j] T_int (0, 0))) := (Upd.push _ _ _).trans (Upd.push _ _ _) fun _ h _ => h
 have hs3 : ((h2.push (.cells #[ptr r] T_p_heap_row (0, 0))).push (.cells #[I j] T_int (0, 0))).size = h2.size + 2 := by simp
 generalize ((h2.push (.cells #[ptr r] T_p_heap_row (0, 0))).push (.cells #[I j] T_int (0, 0))) = h3 at hbr hbi x3 hs3
 have x4 : Ext h3 (h3.push (.deferred (some []))) := Upd.push _ _ _
 have hD4 : (h3.push (.deferred (some [])))[h3.size]? = some (.deferred (some [])) := push_new
 have hs4 : (h3.push (.deferred (some []))).size = h3.size + 1 := by simp
 rw [show h2.size + 1 + 1 = h3.size from hs3.symm, <- hs4]
 generalize h3.push (.deferred (some [])) = h4 at x4 hD4 hs4
 have x24 : Ext h' h4 := (x2.trans x3 fun _ h _ => h).trans x4 fun _ h _ => h
 have H4 := H'.upd x24 id id id
 have hbest4 := x4.get (x3.get hbest)
 have hbr4 := x4.get hbr
 have hbi4 := x4.get hbi
 have hfirst4 := x24.get hfirst
 have hsm := H'.small
 -- the invariant of the rounds
 refine below_range (r := r) (m := m) (bl := bl) (l := l') (n := n) (j := j) (T1 := T_int) (T2 := T_p_heap_row)
  (fun k hh => ∃ b : Nat, (b = j \/ (4 * j + 1 <= b /\ b <= 4 * j + 4 /\ b < l'.length /\ hlt (gt l' b) (gt l' j) = true)) /\ (∀ c, 4 * j + 1 <= c -> c < k -> c < l'.length -> ¬ hlt (gt l' c) (gt l' b) = true) /\
   hh[h'.size]? = some (.cells #[I b] T_int (0, 0)) /\ Upd (fun c => c = h'.size) h4 hh)
  hj ?_ ?_ ?_ ?_
 ·rintro k hh ⟨b, _, _, _, hup⟩
  refine ⟨hup.get hbi4 (by omega), hup.get hbr4 (by omega), H4.upd hup ?_ ?_ ?_⟩
  ·have := hupd.size; omega
  ·have := hupd.size; omega
  ·have := hupd.size; omega
 ·intro L
  refine ⟨j, .inl rfl, fun c h1 h2 => by omega, (Upd.push (fun _ => False) _ _).get hbest4 id, Upd.push _ _ _⟩
 ·rintro k hh L R ⟨b, hb, hc, hbb, hup⟩ hl hk h1 h2 hR
  have Hh : Rep hh r m bl l' n := H4.upd hup (by have := hupd.size; omega) (by have := hupd.size; omega) (by have := hupd.size; omega)
  unfold sh_heap_row_down_B2
  rw [<- hs4]
  refine beginR_of hl ?_
  have ux : Upd (fun c => c = h4.size) hh (upd hh h4.size (lo L .busy none)) := Upd.upd _ _ rfl
  have hbusy : (upd hh h4.size (lo L .busy none))[h4.size]? = some (lo L .busy none) := upd_self' hl
  have hszh := get_lt hl
  have f1 := ux.get (hup.get hfirst4 (by have := hupd.size; have := get_lt hfirst; omega)) (by have := get_lt hfirst4; omega)
  have f2 := ux.get hbb (by omega)
  have Hx : Rep (upd hh h4.size (lo L .busy none)) r m bl l' n := Hh.upd ux (by have := get_lt hbest4; have := hupd.size; omega) (by have := get_lt hbest4; have := hupd.size; omega) (by have := get_lt hbest4; have := hupd.size; omega)
  generalize upd hh h4.size (lo L .busy none) = h5 at ux hbusy f1 f2 Hx
  have f1' := hcell0 f1
  have f2' := hcell0 f2
  simp only [pLoad_ptr, f1', f2']
  have hbl' : b < l'.length := by
   rcases hb with rfl | ⟨_, _, hb, _⟩
   ·rcases hjl with h | h
    ·exact h
    ·subst h; simp at hk
   ·exact hb
  have := ahead_ok (K := fun t17 h_9 => ifV t17 (pStore 1 (ptr h'.size) (I k) h_9 fun u_2 h_10 => roundK h4.size L R .normal h_10) (roundK h4.size L R .normal h_9)) Hx hk hbl' (fun h6 x6 => by
   rw [ifV_bool]
   refine ⟨fun ht => ?_, fun hf => ?_⟩
   ·refine pStore_of rfl (x6.get f2) rfl (by simp) (by simp) ?_
    rw [gt_eq hk, gt_eq hbl'] at ht
    have hne : h'.size ≠ h4.size := by omega
    refine roundK_normal ((upd_ne hne).trans (x6.get hbusy)) (hR _ ?_ ?_)
    ·refine ⟨k, .inr ⟨h1, h2, hk, ?_⟩, ?_, ?_, ?_⟩
     ·rcases hb with rfl | ⟨_, _, _, hb⟩
      ·exact ht
      ·exact Classical.byContradiction fun hcc => (hlt_lt (hlt_lt hcc hb) ht) (by rw [hlt_iff] at *; omega)
     ·intro c hc1 hc2 hc3
      by_cases hck : c = k
      ·subst hck; exact fun e => hlt_asymm e e
      ·exact hlt_lt (hc c hc1 (by omega) hc3) ht
     ·exact (upd_ne hne.symm).trans (upd_self' (x6.get f2))
     ·refine Upd.trans (Upd.trans (Upd.trans (hup.trans ux (S := fun c => c = h'.size) ?_) x6 ?_) (Upd.upd (S := fun c => c = h'.size) _ _ rfl) ?_) (Upd.upd (S := fun c => c = h4.size) _ _ rfl) ?_
      ·intro b hb hlt; omega
      ·intro b hb hlt; exact hb.elim
      ·intro b hb hlt; exact hb
      ·intro b hb hlt; omega
    ·exact upd_self' ((upd_ne hne).trans (x6.get hbusy))
   ·rw [gt_eq hk, gt_eq hbl'] at hf
    have hne : h'.size ≠ h4.size := by omega
    refine roundK_normal (x6.get hbusy) (hR _ ?_ ?_)
    ·refine ⟨b, hb, ?_, ?_, ?_⟩
     ·intro c hc1 hc2 hc3
      by_cases hck : c = k
      ·subst hck; rw [hf]; simp
      ·exact hc c hc1 (by omega) hc3
     ·exact (upd_ne hne.symm).trans (x6.get f2)
     ·refine Upd.trans (Upd.trans (hup.trans ux (S := fun c => c = h'.size) ?_) x6 ?_) (Upd.upd (S := fun c => c = h4.size) _ _ rfl) ?_
      ·intro b hb hlt; omega
      ·intro b hb hlt; exact hb.elim
      ·intro b hb hlt; omega
    ·exact upd_self' (x6.get hbusy))
  exact this
 ·rintro k hh L ⟨b, hb, hc, hbb, hup⟩ hl hend
  have Hh : Rep hh r m bl l' n := H4.upd hup (by have := hupd.size; omega) (by have := hupd.size; omega) (by have := hupd.size; omega)
  have ux : Upd (fun c => c = h4.size) hh (upd hh h4.size (lo L .exhausted none)) := Upd.upd _ _ rfl
  have f2 := ux.get hbb (by omega)
  have hsize : h4.size <= hh.size := hup.size
  have Hx : Rep (upd hh h4.size (lo L .exhausted none)) r m bl l' n := Hh.upd ux (by have := hupd.size; omega) (by have := hupd.size; omega) (by have := hupd.size; omega)
  have uall : Upd (fun c => c = h'.size \/ c = h4.size) h4 (upd hh h4.size (lo L .exhausted none)) := (hup.mono fun _ h _ => .inl h).trans ux fun b h _ => .inr h
  generalize upd hh h4.size (lo L .exhausted none) = h5 at ux f2 Hx uall
  have x25 : Ext h' h5 := x24.trans uall fun b hb hlt => by omega
  have hmk5 : ∀ D ∈ h3.size :: mk, h.size < D /\ h5[D]? = some (.deferred (some [])) := by
   intro D hD
   rcases List.mem_cons.1 hD with rfl | hD
   ·exact ⟨by have := hupd.size; omega, uall.get hD4 (by omega)⟩
   ·exact ⟨(hmk D hD).1, x25.get (hmk D hD).2⟩
  have hmn5 : (h3.size :: mk).Nodup := List.nodup_cons.2 ⟨fun hin => by have := get_lt (hmk _ hin).2; omega, hmn⟩
  have f2' := hcell0 f2
  simp only [pLoad_ptr, f2', pBin_eql, ifV_beq]
  have hupd5 : Upd (fun b => b = m \/ b = bl) h h5 := hupd.trans x25 fun _ h _ => h.elim
  refine ⟨fun he => ?_, fun he => ?_⟩
  ·have he : b = j := by omega
   subst he
   refine takeM_of _ _ (fun D hD => (hmk5 D hD).2) hmn5 fun h6 hu6 => ?_
   have hn : ∀ c, c < h.size -> ¬ c ∈ h3.size :: mk := fun c hc hin => by have := (hmk5 c hin).1; omega
   refine hK h6 l' (Hx.upd hu6 (hn _ hrl) (hn _ hml) (hn _ hbl)) hp (hdi.done fun c c0 c1 c2 => hc c (by omega) (by omega) c1) (hupd5.trans hu6 fun c hc hlt => (hn c hlt hc).elim)
  ·have he : ¬ b = j := fun e => he (by rw [e])
   rcases hb with hb | ⟨hb1, hb2, hb3, hb4⟩
   ·exact (he hb).elim
   ·have hjl' : j < l'.length := by omega
    refine swap_ok Hx hjl' hb3 fun h6 H6 hu6 => ?_
    have hn6 : ∀ c, h.size <= c -> ¬ (c = m \/ c = bl) := fun c hc => by omega
    have f3 := hcell0 (hu6.get f2 (hn6 _ (by have := hupd.size; omega)))
    simp only [pLoad_ptr, f3]
    refine hZ (h3.size :: mk, (I b, ())) h6 ⟨b, _, rfl, by omega, .inl (by rw [swapL_length]; exact hb3), H6, (swapL_perm hjl' hb3).trans hp, ?_, hupd5.trans hu6 fun _ h _ => h, ?_, ?_, hmn5⟩ ?_
    ·exact hdi.step hjl' hb3 (by omega) (by omega) hb4 fun c c0 c1 c2 => hc c (by omega) (by omega) c1
    ·exact hu6.get (x25.get hfirst) (hn6 _ (Nat.le_refl _))
    ·intro D hD
     exact ⟨(hmk5 D hD).1, hu6.get (hmk5 D hD).2 (hn6 _ (by have := (hmk5 D hD).1; omega))⟩
    ·dsimp only; omega

open Go Go.Mh

theorem encH_plain (a : HE) : ∀ u ∈ encH a, Mh.plainCell u = true := by intro u hu; simp [encH] at hu; rcases hu with rfl | rfl <;> rfl

theorem Rep.slr {h : Heap} {r m bl : Nat} {l : List HE} {n : Int} (H : Rep h r m bl l n) : ∃ v, h[r]? = some (.cells #[v, .map (some m), I n] tHeap (0, 0)) /\ SlR encH 2 tHeld h v bl l := by
 obtain ⟨sl, cap, rest, hr, hs⟩ := H.row
 refine ⟨sl, hr, ?_⟩
 rcases hs with ⟨a, b, _⟩ | ⟨a, b, c, d⟩
 ·exact .inl ⟨a, b⟩
 ·exact .inr ⟨cap, rest, a, b, c, d⟩

theorem Rep.of {h : Heap} {r m bl : Nat} {l : List HE} {n : Int} {v : Value} {es : Array MapEntry} {c : Nat} (hr : h[r]? = some (.cells #[v, .map (some m), I n] tHeap (0, 0))) (hs : SlR encH 2 tHeld h v bl l)
  (hm : h[m]? = some (.map es c)) (hi : IMap es c (pos l)) (hn : (l.map (·.1)).Nodup) (hl : l.length < 2 ^ 40) : Rep h r m bl l n := by
 refine ⟨?_, ⟨es, c, hm, hi⟩, hn, hl⟩
 rcases hs with ⟨a, b⟩ | ⟨cap, rest, a, b, c, d⟩
 ·exact ⟨v, 0, [], hr, .inl ⟨a, b, rfl⟩⟩
 ·exact ⟨v, cap, rest, hr, .inr ⟨a, b, c, d⟩⟩

def Grow (h : Heap) (F F' : Nat -> Prop) : Prop := ∀ b, F' b -> F b \/ h.size <= b

structure HV (h : Heap) (F : Nat -> Prop) (r : Nat) (l : List HE) (n : Int) : Prop where
 rep : ∃ m bl, Rep h r m bl l n /\ HeapOrd l /\ F r /\ F m /\ F bl
 low : ∀ b, F b -> b < h.size
 rng : ∀ p ∈ l, 0 <= p.1 /\ p.1 < n

theorem HV.nodup {h : Heap} {F : Nat -> Prop} {r : Nat} {l : List HE} {n : Int} (H : HV h F r l n) : (l.map (·.1)).Nodup := by
 obtain ⟨m, bl, R, _⟩ := H.rep; exact R.ids

def Min (l : List HE) (p : HE) : Prop := p ∈ l /\ ∀ q ∈ l, ¬ hlt q p = true

theorem hlt_total {p q : HE} (h1 : ¬ hlt p q = true) (h2 : ¬ hlt q p = true) : p = q := by
 rw [hlt_iff] at h1 h2
 obtain ⟨a, b⟩ := p
 obtain ⟨c, d⟩ := q
 simp only [Prod.mk.injEq] at *
 omega

theorem Min.uniq {l l' : List HE} {p p' : HE} (h : Min l p) (h' : Min l' p') (hp : l.Perm l') : p = p' :=
 hlt_total (h'.2 p (hp.mem_iff.1 h.1)) (h.2 p' (hp.mem_iff.2 h'.1))

theorem HeapOrd.min {l : List HE} (h : HeapOrd l) (hl : 0 < l.length) : Min l l[0] := by
 refine ⟨List.getElem_mem hl, fun q hq => ?_⟩
 obtain ⟨j, hj, rfl⟩ := List.mem_iff_getElem.1 hq
 rw [gt_eq hj, gt_eq hl]
 clear hq
 induction j using Nat.strongRecOn with
 | _ j ih =>
  by_cases h0 : j = 0
  ·subst h0; exact fun e => hlt_asymm e e
  ·exact hlt_trans (h j (by omega) hj) (ih ((j - 1) / 4) (by omega) (by omega))

theorem len_ok {h : Heap} {F : Nat -> Prop} {r : Nat} {l : List HE} {n : Int} {K : KT} (H : HV h F r l n) (hK : K (I l.length) h) : callS Tryz.prog F_heap_Heap_Len [ptr r] h K := by
 obtain ⟨⟨m, bl, R, ho, f1, f2, f3⟩, hlow, hrg⟩ := H
 obtain ⟨v, hr, hs⟩ := R.slr
 refine callS_of (lk_heap_Heap_Len _ ?_)
 unfold sh_heap_Heap_Len
 have c0 := hcell0 hr
 simp only [pEq_ptr_nil, Option.isNone_some, ifV_false, pNil_ptr, pField_ptr, pLoad_ptr, c0]
 exact hs.lenK hK

theorem key_ok {h : Heap} {F : Nat -> Prop} {r : Nat} {l : List HE} {n id : Int} {K : KT} (H : HV h F r l n)
  (h0 : (∀ p ∈ l, p.1 ≠ id) -> K (.tuple #[I 0, .bool false]) h) (h1 : ∀ p ∈ l, p.1 = id -> K (.tuple #[I p.2, .bool true]) h) : callS Tryz.prog F_heap_Heap_Key [ptr r, I id] h K := by
 refine callS_of (lk_heap_Heap_Key _ _ ?_)
 unfold sh_heap_Heap_Key
 refine len_ok H ?_
 obtain ⟨⟨m, bl, R, ho, f1, f2, f3⟩, hlow, hrg⟩ := H
 obtain ⟨v, hr, hs⟩ := R.slr
 obtain ⟨es, c, hm, him⟩ := R.map
 have c0 := hcell0 hr
 have c1 := hcell1 hr
 simp only [pBin_eql, ifV_beq, pNil_ptr, pField_ptr, pLoad_ptr, c0, c1, Nat.zero_add]
 refine ⟨fun he => h0 (by have : l = [] := List.eq_nil_of_length_eq_zero (by omega); subst this; simp), fun he => ?_⟩
 refine look_of hm him ?_
 rcases pos_cases l id with ⟨i, hi, rfl⟩ | hno
 ·simp only [pos_get R.ids hi, if_true, Option.getD_some, Option.isSome_some, pExt_tuple]
  show pUn .not (.bool true) _
  simp only [pUn_not, Bool.not_true, ifV_false]
  refine hs.idx hi ?_
  simp only [pField_ptr, pLoad_ptr, hs.slot encH_len hi (j := 1) (by omega)]
  exact h1 _ (List.getElem_mem hi) rfl
 ·simp only [pos_none hno, if_true, Option.getD_none, Option.isSome_none, pExt_tuple]
  show pUn .not (.bool false) _
  simp only [pUn_not, Bool.not_false, ifV_true]
  exact h0 hno

theorem new_ok {h : Heap} {n : Int} {K : KT} (hK : ∀ h' F r, HV h' F r [] (max n 0) -> (∀ b, F b -> h.size <= b) -> Ext h h' -> K (ptr r) h') : callS Tryz.prog F_heap_New [I n] h K := by
 refine callS_of (lk_heap_New _ ?_)
 unfold sh_heap_New pMakeMap pBuild
 refine ⟨by simp [sizesOk], ?_⟩
 dsimp only
 rw [pMax_int]
 have e : (if (0 : Int) > n then 0 else n) = max n 0 := by omega
 rw [e]
 refine ⟨by simp [sizesOk, spliceAll], ?_⟩
 refine pBox_of ?_
 simp only [spliceAll]
 have hs1 : (h.push (Obj.map #[] 0)).size = h.size + 1 := by simp
 refine hK _ (fun b => b = h.size \/ b = h.size + 1) (h.push (Obj.map #[] 0)).size ?_ (fun b hb => by omega) ((Upd.push _ _ _).trans (Upd.push _ _ _) fun _ h _ => h)
 have hm : ((h.push (Obj.map #[] 0)).push (.cells #[.slice none 0 0, .map (some h.size), I (max n 0)] tHeap (0, 0)))[h.size]? = some (.map #[] 0) :=
  (Upd.push (fun _ => False) (h.push (Obj.map #[] 0)) (.cells #[.slice none 0 0, .map (some h.size), I (max n 0)] tHeap (0, 0))).get push_new id
 refine ⟨⟨h.size, h.size, Rep.of push_new (.inl ⟨rfl, rfl⟩) hm (IMap.empty.congr fun k => rfl) (by simp) (by simp), fun j _ hj => by simp at hj, .inr hs1, .inl rfl, .inl rfl⟩, fun b hb => by simp; omega, by simp⟩

open Go Go.Mh

theorem gt_append {l : List HE} {a : HE} {j : Nat} (hj : j < l.length) : gt (l ++ [a]) j = gt l j := by
 simp [gt, List.getElem?_append_left hj]

theorem pos_append {l : List HE} {a : HE} (hno : ∀ p ∈ l, p.1 ≠ a.1) (x : Int) : fset (pos l) a.1 (I l.length) x = pos (l ++ [a]) x := by
 unfold fset pos
 rw [List.findIdx?_append]
 by_cases hx : x = a.1
 ·subst hx
  have : l.findIdx? (fun p => p.1 == a.1) = none := by
   rw [List.findIdx?_eq_none_iff]; intro p hp; simpa using hno p hp
  simp [this]
 ·rw [if_neg hx]
  have : [a].findIdx? (fun p => p.1 == x) = none := by
   rw [List.findIdx?_eq_none_iff]; intro p hp; simp at hp; subst hp; simpa using fun e => hx e.symm
  rw [this]; simp

theorem push_ok {h : Heap} {F : Nat -> Prop} {r : Nat} {l : List HE} {n id key : Int} {K : KT} (H : HV h F r l n) (hsm : l.length + 1 < 2 ^ 40)
  (h2 : ((∃ p ∈ l, p.1 = id) \/ id < 0 \/ n <= id) -> K (I 2) h)
  (h0 : (∀ p ∈ l, p.1 ≠ id) -> 0 <= id -> id < n -> ∀ h' F' l', HV h' F' r l' n -> l'.Perm ((id, key) :: l) -> Grow h F F' -> Upd F h h' -> K (I 0) h') :
  callS Tryz.prog F_heap_Heap_Push [ptr r, I id, I key] h K := by
 refine callS_of (lk_heap_Heap_Push _ _ _ ?_)
 unfold sh_heap_Heap_Push
 obtain ⟨⟨m, bl, R, ho, f1, f2, f3⟩, hlow, hrg⟩ := H
 obtain ⟨v, hr, hs⟩ := R.slr
 obtain ⟨es, c, hm, him⟩ := R.map
 have c0 := hcell0 hr
 have c1 := hcell1 hr
 have c2 := hcell2 hr
 simp only [pEq_ptr_nil, Option.isNone_some, ifV_false, pNil_ptr, pField_ptr, pLoad_ptr, c0, c1, c2, Nat.zero_add]
 refine look_of hm him ?_
 rcases pos_cases l id with ⟨i, hi, rfl⟩ | hno
 ·simp only [pos_get R.ids hi, if_true, Option.getD_some, Option.isSome_some, pExt_tuple]
  show ifV (.bool true) _ _
  simp only [ifV_true]
  exact h2 (.inl ⟨_, List.getElem_mem hi, rfl⟩)
 ·simp only [pos_none hno, if_true, Option.getD_none, Option.isSome_none, pExt_tuple]
  show ifV (.bool false) _ _
  simp only [ifV_false, pBin_lss, pBin_geq, ifV_dec]
  refine ⟨fun hlt => h2 (.inr (.inl hlt)), fun hlt => ⟨fun hge => h2 (.inr (.inr hge)), fun hge => ?_⟩⟩
  refine hs.lenK ?_
  refine mapSet_of hm him fun es' c' him' => ?_
  have hrm : m ≠ r := by rintro rfl; rw [hm] at hr; simp at hr
  have hr1 := (upd_ne (o := .map es' c') hrm).trans hr
  have c0' := hcell0 hr1
  simp only [c0']
  have hs1 : SlR encH 2 tHeld (upd h m (.map es' c')) v bl l := by
   rcases hs with ⟨a, b⟩ | ⟨cap, rest, a, b, c, d⟩
   ·exact .inl ⟨a, b⟩
   ·have : m ≠ bl := by rintro rfl; rw [hm] at b; simp at b
    exact .inr ⟨cap, rest, a, (upd_ne this).trans b, c, d⟩
  have hm1 : (upd h m (.map es' c'))[m]? = some (.map es' c') := upd_self' hm
  have u1 : Upd (fun b => b = m) h (upd h m (.map es' c')) := Upd.upd _ _ rfl
  have hsz1 : (upd h m (.map es' c')).size = h.size := upd_size
  generalize upd h m (.map es' c') = h1 at hr1 hs1 hm1 u1 hsz1
  refine ⟨by simp [sizesOk], ?_⟩
  refine ⟨by simp [sizesOk, spliceAll, zerosL, Value.cells], ?_⟩
  have hnew : (h1.push (.cells (spliceAll (zerosL [Value.int .i64 0, Value.int .i64 0] 1) [(0, 2, .agg (spliceAll [Value.int .i64 0, Value.int .i64 0] [(0, 1, I id), (1, 1, I key)]).toArray)]).toArray tHeld (0, 0)))[h1.size]? =
   some (.cells #[I id, I key] tHeld (0, 0)) := by rw [push_new]; rfl
  have u2 := Upd.push (fun _ => False) h1 (.cells (spliceAll (zerosL [Value.int .i64 0, Value.int .i64 0] 1) [(0, 2, .agg (spliceAll [Value.int .i64 0, Value.int .i64 0] [(0, 1, I id), (1, 1, I key)]).toArray)]).toArray tHeld (0, 0))
  have hsz2 : (h1.push (.cells (spliceAll (zerosL [Value.int .i64 0, Value.int .i64 0] 1) [(0, 2, .agg (spliceAll [Value.int .i64 0, Value.int .i64 0] [(0, 1, I id), (1, 1, I key)]).toArray)]).toArray tHeld (0, 0))).size = h1.size + 1 := push_size
  generalize (h1.push (.cells (spliceAll (zerosL [Value.int .i64 0, Value.int .i64 0] 1) [(0, 2, .agg (spliceAll [Value.int .i64 0, Value.int .i64 0] [(0, 1, I id), (1, 1, I key)]).toArray)]).toArray tHeld (0, 0))) = h2' at hnew u2 hsz2
  refine append_of (ys := [(id, key)]) encH_len encH_plain rfl (hs1.upd u2 (fun f => f)) rfl ?_ (by decide) (by simp; omega) fun v' bl' h3 hs3 hbl' u3 hlt3 => ?_
  ·simp only [cellsOfSl, Nat.one_mul]
   rw [cellsAt_of (i := 0) (cs := [I id, I key]) hnew _ 0 (by simp)]; rfl
  have hr3 : h3[r]? = _ := u3.get (u2.get hr1 (fun f => f)) (by
   rintro ⟨rfl, cs, hcs⟩
   rw [u2.get hr1 (fun f => f)] at hcs; simp at hcs; exact absurd hcs.2 (by decide))
  have hm3 : h3[m]? = _ := u3.get (u2.get hm1 (fun f => f)) (by
   rintro ⟨rfl, cs, hcs⟩
   rw [u2.get hm1 (fun f => f)] at hcs; simp at hcs)
  have hrb : r ≠ bl' := by
   rintro rfl
   obtain ⟨_, _, _, hb, _⟩ := hs3.full (by simp)
   rw [hr3] at hb; simp at hb; exact absurd hb.2 (by decide)
  refine pStore_of rfl hr3 (by rcases hs3.len with ⟨_, _, rfl⟩; rfl) (by rcases hs3.len with ⟨_, _, rfl⟩; simp) (by rcases hs3.len with ⟨_, _, rfl⟩; simp) ?_
  have ec : over [v, Value.map (some m), I n] 0 v'.cells.toList = [v', Value.map (some m), I n] := by
   rcases hs3.len with ⟨_, _, rfl⟩; rfl
  rw [ec]
  have u4 : Upd (fun b => b = r) h3 (upd h3 r (.cells [v', Value.map (some m), I n].toArray tHeap (0, 0))) := Upd.upd _ _ rfl
  have hr4 : (upd h3 r (.cells [v', Value.map (some m), I n].toArray tHeap (0, 0)))[r]? = _ := upd_self' hr3
  have hm4 := u4.get hm3 hrm
  have hs4 := hs3.upd u4 (fun e => hrb e.symm)
  generalize upd h3 r (.cells [v', Value.map (some m), I n].toArray tHeap (0, 0)) = h4 at u4 hr4 hm4 hs4
  have c4 := hcell0 hr4
  simp only [c4]
  refine hs4.lenK ?_
  have e5 : IntKind.i64.wrap (((l ++ [(id, key)]).length : Int) - 1) = (l.length : Int) := by
   rw [List.length_append, List.length_singleton, w64 (by omega) (by omega)]; omega
  rw [pBin_sub, e5]
  have R4 : Rep h4 r m bl' (l ++ [(id, key)]) n := by
   refine Rep.of hr4 hs4 hm4 (him'.congr (pos_append (a := (id, key)) hno)) ?_ (by simpa using hsm)
   rw [List.map_append, List.nodup_append]
   refine ⟨R.ids, by simp, ?_⟩
   intro a ha b hb
   simp at hb; subst hb
   obtain ⟨p, hp, rfl⟩ := List.mem_map.1 ha
   exact hno p hp
  refine up_ok R4 (i := l.length) (by simp) ?_ fun h5 l5 R5 hp5 ho5 u5 => ?_
  ·refine ⟨fun j j0 j1 j2 => ?_, fun _ j j0 j1 j2 => ?_⟩
   ·have j3 : j < l.length := by simp at j1; omega
    rw [gt_append j3, gt_append (show (j - 1) / 4 < l.length by omega)]
    exact ho j j0 j3
   ·simp at j1; omega
  have hbh : h.size <= h2'.size := by omega
  have hblF : bl' = bl \/ h.size <= bl' := by rcases hbl' with e | e <;> omega
  have u3' : Upd F h2' h3 := u3.mono fun b hb _ => hb.1 ▸ f3
  have u14 : Upd F h h4 := (((u1.mono (S' := F) fun b hb _ => by subst hb; exact f2).trans (u2.mono (S' := F) fun _ hf _ => hf.elim) fun _ h _ => h).trans u3' fun _ h _ => h).trans (u4.mono (S' := F) fun b hb _ => by subst hb; exact f1) fun _ h _ => h
  have u15 : Upd F h h5 := u14.trans u5 fun b hb hlt => by
   rcases hb with rfl | rfl
   ·exact f2
   ·rcases hblF with e | e
    ·rw [e]; exact f3
    ·omega
  have hsz5 := u15.size
  have hblt5 : bl' < h5.size := Nat.lt_of_lt_of_le (hlt3 (by have := hlow _ f3; omega)) (Nat.le_trans u4.size u5.size)
  refine h0 hno (by omega) (by omega) h5 (fun b => F b \/ b = bl') l5 ⟨⟨m, bl', R5, ho5, .inl f1, .inl f2, .inr rfl⟩, ?_, ?_⟩ ?_ ?_ u15
  ·rintro b (hb | rfl)
   ·exact Nat.lt_of_lt_of_le (hlow b hb) hsz5
   ·exact hblt5
  ·intro p hp
   have := hp5.mem_iff.1 hp
   simp only [List.mem_append, List.mem_singleton] at this
   rcases this with hp | rfl
   ·exact hrg p hp
   ·exact ⟨by omega, by omega⟩
  ·exact hp5.trans (List.perm_append_comm (l₁ := l) (l₂ := [(id, key)]))
  ·rintro b (hb | rfl)
   ·exact .inl hb
   ·rcases hblF with e | e
    ·rw [e]; exact .inl f3
    ·exact .inr e

open Go Go.Mh

theorem gt_set {l : List HE} {i j : Nat} {a : HE} (hi : i < l.length) : gt (l.set i a) j = if j = i then a else gt l j := by
 by_cases e : j = i
 ·subst e; simp [gt, hi]
 ·by_cases hj : j < l.length
  ·simp [gt, hj, e, List.getElem_set, show ¬ i = j from fun h => e h.symm]
  ·simp [gt, hj, e]

theorem ids_set {l : List HE} {i : Nat} {k : Int} (hi : i < l.length) : (l.set i (l[i].1, k)).map (·.1) = l.map (·.1) := by
 apply List.ext_getElem
 ·simp
 ·intro j h1 h2
  simp only [List.getElem_map, List.getElem_set]
  split
  ·rename_i e; subst e; rfl
  ·rfl

theorem pos_ids {l l' : List HE} (h : l.map (·.1) = l'.map (·.1)) (x : Int) : pos l x = pos l' x := by
 have key : ∀ l : List HE, pos l x = ((l.map (·.1)).findIdx? (· == x)).map fun i => I i := by
  intro l; unfold pos; rw [List.findIdx?_map]; rfl
 rw [key, key, h]

theorem set_perm {l : List HE} {i : Nat} {a : HE} (hi : i < l.length) : (l.set i a).Perm (a :: l.erase l[i]) := by
 rw [List.perm_iff_count]
 intro x
 rw [List.count_set hi, List.count_cons, List.count_erase]

theorem lower_ok {h : Heap} {F : Nat -> Prop} {r : Nat} {l : List HE} {n id key : Int} {K : KT} (H : HV h F r l n)
  (h2 : (id < 0 \/ n <= id) -> K (I 2) h)
  (h20 : 0 <= id -> id < n -> (∀ p ∈ l, p.1 ≠ id) -> K (I 20) h)
  (h2' : ∀ p ∈ l, p.1 = id -> p.2 < key -> K (I 2) h)
  (h0 : ∀ p ∈ l, p.1 = id -> ¬ p.2 < key -> ∀ h' F' l', HV h' F' r l' n -> l'.Perm ((id, key) :: l.erase p) -> Grow h F F' -> Upd F h h' -> K (I 0) h') :
  callS Tryz.prog F_heap_Heap_Lower [ptr r, I id, I key] h K := by
 refine callS_of (lk_heap_Heap_Lower _ _ _ ?_)
 unfold sh_heap_Heap_Lower
 obtain ⟨⟨m, bl, R, ho, f1, f2, f3⟩, hlow, hrg⟩ := H
 obtain ⟨v, hr, hs⟩ := R.slr
 obtain ⟨es, c, hm, him⟩ := R.map
 have c0 := hcell0 hr
 have c1 := hcell1 hr
 have c2 := hcell2 hr
 simp only [pEq_ptr_nil, Option.isNone_some, ifV_false, pNil_ptr, pField_ptr, pLoad_ptr, c0, c1, c2, Nat.zero_add]
 refine look_of hm him ?_
 rcases pos_cases l id with ⟨i, hi, rfl⟩ | hno
 ·have hrg' := hrg _ (List.getElem_mem hi)
  simp only [pos_get R.ids hi, if_true, Option.getD_some, Option.isSome_some]
  simp only [pExt_tuple]
  show pBin .lss _ _ _
  simp only [pBin_lss, pBin_geq, ifV_dec]
  refine ⟨fun hlt => by omega, fun _ => ⟨fun hge => by omega, fun _ => ?_⟩⟩
  show pUn .not (.bool true) _
  simp only [pUn_not, Bool.not_true, ifV_false]
  refine hs.idx hi ?_
  have ck := hs.slot encH_len hi (j := 1) (by omega)
  have ck' : hcell h ⟨bl, i * 2 + 1, none⟩ = some (I l[i].2) := ck
  simp only [pField_ptr, pLoad_ptr, ck']
  simp only [pBin_lss, ifV_dec]
  refine ⟨fun hk => h2' _ (List.getElem_mem hi) rfl hk, fun hk => ?_⟩
  refine hs.idx hi ?_
  obtain ⟨cap, rest, rfl, hb, hrest, hcap⟩ := hs.full (by omega)
  have hlen := row_length encH_len l
  simp only [pField_ptr]
  refine pStore_of rfl hb rfl (by simp [hlen]; omega) (by simp) ?_
  have eo : over (Mh.row encH l ++ rest) (i * 2 + 1) (I key).cells.toList = Mh.row encH (l.set i (l[i].1, key)) ++ rest := by
   have o := row_over encH_len hi (l[i].1, key) rest
   rw [<- o]
   have hsl := row_slot encH_len hi rest
   have hd : (Mh.row encH l ++ rest).drop (i * 2) = I l[i].1 :: (Mh.row encH l ++ rest).drop (i * 2 + 1) := by
    have hg := row_get encH_len hi (j := 0) (by omega) rest
    have hlt' : i * 2 < (Mh.row encH l ++ rest).length := by simp [hlen]; omega
    rw [List.drop_eq_getElem_cons hlt']
    congr 1
    rw [Nat.add_zero, List.getElem?_eq_getElem hlt'] at hg
    simpa [encH] using hg
   have ht : (Mh.row encH l ++ rest).take (i * 2 + 1) = (Mh.row encH l ++ rest).take (i * 2) ++ [I l[i].1] := by
    have hlt' : i * 2 < (Mh.row encH l ++ rest).length := by simp [hlen]; omega
    rw [List.take_succ_eq_append_getElem hlt']
    congr 2
    have hg := row_get encH_len hi (j := 0) (by omega) rest
    rw [Nat.add_zero, List.getElem?_eq_getElem hlt'] at hg
    simpa [encH] using hg
   unfold over
   rw [ht]
   simp [encH]
  rw [eo]
  obtain ⟨hne1, hne2, hne3⟩ := R.r_ne (by omega)
  have hb1 : (upd h bl (.cells (Mh.row encH (l.set i (l[i].1, key)) ++ rest).toArray tHeld (0, 0)))[bl]? = _ := upd_self' hb
  have hr1 := (upd_ne (o := .cells (Mh.row encH (l.set i (l[i].1, key)) ++ rest).toArray tHeld (0, 0)) hne1.symm).trans hr
  have hm1 := (upd_ne (o := .cells (Mh.row encH (l.set i (l[i].1, key)) ++ rest).toArray tHeld (0, 0)) hne3).trans hm
  have u1 : Upd F h (upd h bl (.cells (Mh.row encH (l.set i (l[i].1, key)) ++ rest).toArray tHeld (0, 0))) := Upd.upd _ _ f3
  generalize upd h bl (.cells (Mh.row encH (l.set i (l[i].1, key)) ++ rest).toArray tHeld (0, 0)) = h1 at hb1 hr1 hm1 u1
  have hl1 : (l.set i (l[i].1, key)).length = l.length := List.length_set
  have R1 : Rep h1 r m bl (l.set i (l[i].1, key)) n := Rep.of hr1 (.inr ⟨cap, rest, by rw [hl1], hb1, by rw [hl1]; exact hrest, by rw [hl1]; exact hcap⟩) hm1
   (him.congr (pos_ids (ids_set hi).symm)) (by rw [ids_set hi]; exact R.ids) (by rw [hl1]; exact R.small)
  have hnew : ¬ hlt l[i] (l[i].1, key) = true := by rw [hlt_iff]; simp only; omega
  refine up_ok R1 (i := i) (by rw [hl1]; exact hi) ?_ fun h5 l5 R5 hp5 ho5 u5 => ?_
  ·refine ⟨fun j j0 j1 j2 => ?_, fun i0 j j0 j1 j2 => ?_⟩
   ·rw [hl1] at j1
    rw [gt_set hi, gt_set hi, if_neg j2]
    have := ho j j0 j1
    split
    ·rename_i e; rw [e, <- gt_eq hi] at this; exact hlt_trans this hnew
    ·exact this
   ·rw [hl1] at j1
    rw [gt_set hi, gt_set hi, if_neg (by omega), if_neg (by omega)]
    have a := ho j j0 j1
    have b := ho i i0 hi
    rw [j2] at a
    exact hlt_trans a b
  ·refine h0 _ (List.getElem_mem hi) rfl hk h5 F l5 ⟨⟨m, bl, R5, ho5, f1, f2, f3⟩, ?_, ?_⟩ ?_ (fun b hb => .inl hb) ?_
   ·exact fun b hb => Nat.lt_of_lt_of_le (hlow b hb) (Nat.le_trans u1.size u5.size)
   ·intro p hp
    have := hp5.mem_iff.1 hp
    have hm' : p.1 ∈ (l.set i (l[i].1, key)).map (·.1) := List.mem_map.2 ⟨p, this, rfl⟩
    rw [ids_set hi] at hm'
    obtain ⟨q, hq, hqe⟩ := List.mem_map.1 hm'
    rw [<- hqe]; exact hrg q hq
   ·exact hp5.trans (set_perm hi)
   ·exact u1.trans u5 fun b hb hlt => by rcases hb with rfl | rfl; exact f2; exact f3
 ·simp only [pos_none hno, if_true, Option.getD_none, Option.isSome_none, pExt_tuple]
  show pBin .lss _ _ _
  simp only [pBin_lss, pBin_geq, ifV_dec]
  refine ⟨fun hlt => h2 (.inl hlt), fun hlt => ⟨fun hge => h2 (.inr hge), fun hge => ?_⟩⟩
  show pUn .not (.bool false) _
  simp only [pUn_not, Bool.not_false, ifV_true]
  exact h20 (by omega) (by omega) hno

open Go Go.Mh

theorem swapL_last {l : List HE} (hl : 0 < l.length) : swapL l 0 (l.length - 1) hl (by omega) = (swapL l 0 (l.length - 1) hl (by omega)).take (l.length - 1) ++ [l[0]] := by
 have hlen := swapL_length (l := l) hl (show l.length - 1 < l.length by omega)
 apply List.ext_getElem
 ·simp [hlen]; omega
 ·intro j h1 h2
  rw [hlen] at h1
  by_cases hj : j < l.length - 1
  ·rw [List.getElem_append_left (by simp [hlen]; omega)]; simp
  ·have : j = l.length - 1 := by omega
   subst this
   rw [swapL_get, if_pos rfl, List.getElem_append_right (by simp [hlen])]
   simp

theorem pos_del {l2 : List HE} {p : HE} (hn : ((l2 ++ [p]).map (·.1)).Nodup) (x : Int) : fdel (pos (l2 ++ [p])) p.1 x = pos l2 x := by
 unfold fdel
 by_cases hx : x = p.1
 ·subst hx
  rw [if_pos rfl]
  refine (pos_none fun q hq e => ?_).symm
  rw [List.map_append, List.nodup_append] at hn
  exact hn.2.2 q.1 (List.mem_map.2 ⟨q, hq, rfl⟩) p.1 (by simp) e
 ·rw [if_neg hx]
  unfold pos
  rw [List.findIdx?_append]
  have : [p].findIdx? (fun q => q.1 == x) = none := by
   rw [List.findIdx?_eq_none_iff]; intro q hq; simp at hq; subst hq; simpa using fun e => hx e.symm
  rw [this]; simp

theorem pop_ok {h : Heap} {F : Nat -> Prop} {r : Nat} {l : List HE} {n : Int} {K : KT} (H : HV h F r l n)
  (h0 : l = [] -> K (.tuple #[I 0, I 0, .bool false]) h)
  (h1 : ∀ p, Min l p -> ∀ h' F' l', HV h' F' r l' n -> l'.Perm (l.erase p) -> Grow h F F' -> Upd F h h' -> K (.tuple #[I p.1, I p.2, .bool true]) h') :
  callS Tryz.prog F_heap_Heap_Pop [ptr r] h K := by
 refine callS_of (lk_heap_Heap_Pop _ ?_)
 unfold sh_heap_Heap_Pop
 refine len_ok H ?_
 obtain ⟨⟨m, bl, R, ho, f1, f2, f3⟩, hlow, hrg⟩ := H
 obtain ⟨v, hr, hs⟩ := R.slr
 obtain ⟨es, c, hm, him⟩ := R.map
 have c0 := hcell0 hr
 simp only [pBin_eql, ifV_beq, pNil_ptr, pField_ptr, pLoad_ptr, c0, Nat.zero_add]
 refine ⟨fun he => h0 (List.eq_nil_of_length_eq_zero (by omega)), fun he => ?_⟩
 have hl : 0 < l.length := by omega
 refine hs.idx (i := 0) (k := .i64) hl ?_
 simp only [pLoadN_ptr, Nat.zero_mul]
 have ca : cellsAt h bl 0 2 = some [I l[0].1, I l[0].2] := by
  obtain ⟨cap, rest, rfl, hb, _, _⟩ := hs.full hl
  have hlen := row_length encH_len l
  rw [cellsAt_of (i := 0) hb 2 0 (by simp [hlen]; omega)]
  have := row_slot encH_len hl rest
  rw [Nat.zero_mul] at this
  rw [this]; rfl
 simp only [ca]
 refine hs.lenK ?_
 have e1 : IntKind.i64.wrap ((l.length : Int) - 1) = ((l.length - 1 : Nat) : Int) := by
  have := R.small
  rw [w64 (by omega) (by omega)]; omega
 rw [pBin_sub, e1]
 refine pBox_of ?_
 refine pStore_of rfl push_new rfl (by simp) (by simp [Mh.plainCell]) ?_
 have x1 : Ext h (upd (h.push (.cells (Value.agg #[.int .i64 0, .int .i64 0]).cells T_heap_held (0, 0))) h.size (.cells (over [Value.int .i64 0, Value.int .i64 0] 0 (Value.agg [I l[0].1, I l[0].2].toArray).cells.toList).toArray T_heap_held (0, 0))) :=
  ((Upd.push _ _ _).trans (Upd.upd (S := fun b => b = h.size) _ _ rfl) (fun b hb hlt => by omega))
 have hf1 : (upd (h.push (.cells (Value.agg #[.int .i64 0, .int .i64 0]).cells T_heap_held (0, 0))) h.size (.cells (over [Value.int .i64 0, Value.int .i64 0] 0 (Value.agg [I l[0].1, I l[0].2].toArray).cells.toList).toArray T_heap_held (0, 0)))[h.size]? =
  some (.cells #[I l[0].1, I l[0].2] T_heap_held (0, 0)) := upd_self' push_new
 have hsz1 := get_lt hf1
 generalize (upd (h.push (.cells (Value.agg #[.int .i64 0, .int .i64 0]).cells T_heap_held (0, 0))) h.size (.cells (over [Value.int .i64 0, Value.int .i64 0] 0 (Value.agg [I l[0].1, I l[0].2].toArray).cells.toList).toArray T_heap_held (0, 0))) = hA at x1 hf1 hsz1
 have R1 := R.upd x1 id id id
 have hrA := x1.get hr
 have cA := hcell0 hrA
 simp only [cA, true_and]
 have hrs := hlow _ f1
 have hms := hlow _ f2
 have hbs := hlow _ f3
 refine swap_ok R1 (i := 0) (k := l.length - 1) hl (by omega) fun h2 R2 u2 => ?_
 obtain ⟨S, R2, hlen, hS, hnd, hperm, hgt⟩ : ∃ S : List HE, Rep h2 r m bl S n /\ S.length = l.length /\ S = S.take (l.length - 1) ++ [l[0]] /\ (S.map (·.1)).Nodup /\ S.Perm l /\
   (∀ j, gt S j = if j = l.length - 1 then gt l 0 else if j = 0 then gt l (l.length - 1) else gt l j) :=
  ⟨_, R2, swapL_length _ _, swapL_last hl, R2.ids, swapL_perm _ _, swapL_gt _ _⟩
 obtain ⟨v2, hr2, hs2⟩ := R2.slr
 obtain ⟨es2, c2, hm2, him2⟩ := R2.map
 have d0 := hcell0 hr2
 have hf2 := u2.get hf1 (by omega)
 simp only [d0]
 refine hs2.pre encH_len (by rw [hlen]; omega) fun v3 hs3 => ?_
 have hcs3 : v3.cells.size = 1 /\ (∀ u ∈ v3.cells.toList, Mh.plainCell u = true) /\ v3.cells.toList = [v3] := by
  rcases hs3.len with ⟨_, _, rfl⟩; simp
 refine pStore_of rfl hr2 hcs3.1 (by rw [hcs3.1]; simp) hcs3.2.1 ?_
 have ec : over [v2, Value.map (some m), I n] 0 v3.cells.toList = [v3, Value.map (some m), I n] := by rw [hcs3.2.2]; rfl
 rw [ec]
 have u3 : Upd (fun b => b = r) h2 (upd h2 r (.cells [v3, Value.map (some m), I n].toArray tHeap (0, 0))) := Upd.upd _ _ rfl
 have hr3 : (upd h2 r (.cells [v3, Value.map (some m), I n].toArray tHeap (0, 0)))[r]? = _ := upd_self' hr2
 obtain ⟨hne1, hne2, hne3⟩ := R2.r_ne (by omega)
 have hm3 := u3.get hm2 (fun e => hne2 e.symm)
 have hs3' := hs3.upd u3 (fun e => hne1 e.symm)
 have hf3 := u3.get hf2 (by omega)
 generalize upd h2 r (.cells [v3, Value.map (some m), I n].toArray tHeap (0, 0)) = h3 at u3 hr3 hm3 hs3' hf3
 have g1 := hcell1 hr3
 have g2 := hcell0 hf3
 simp only [g1, g2, pField_ptr, pLoad_ptr, Nat.add_zero, Nat.zero_add]
 refine delete_of hm3 him2 fun es4 him4 => ?_
 have u4 : Upd (fun b => b = m) h3 (upd h3 m (.map es4 c2)) := Upd.upd _ _ rfl
 have hr4 := u4.get hr3 hne2
 have hm4 : (upd h3 m (.map es4 c2))[m]? = _ := upd_self' hm3
 have hs4 := hs3'.upd u4 hne3
 have hf4 := u4.get hf3 (by omega)
 generalize upd h3 m (.map es4 c2) = h4 at u4 hr4 hm4 hs4 hf4
 have hl2 : (S.take (l.length - 1)).length = l.length - 1 := by simp [hlen]
 have hpS : S.Perm (l[0] :: S.take (l.length - 1)) := by
  rw [hS]
  have : ((S.take (l.length - 1)) ++ [l[0]]).take (l.length - 1) = S.take (l.length - 1) := by rw [List.take_append_of_le_length (by rw [hl2]; exact Nat.le_refl _), List.take_take, Nat.min_self]
  rw [this]
  exact List.perm_append_comm
 have R4 : Rep h4 r m bl (S.take (l.length - 1)) n := by
  refine Rep.of hr4 hs4 hm4 (him4.congr fun x => ?_) ?_ (by rw [hl2]; have := R.small; omega)
  ·have := pos_del (l2 := S.take (l.length - 1)) (p := l[0]) (by rw [<- hS]; exact hnd) x
   rw [<- hS] at this; exact this
  ·have := (hpS.map (·.1)).nodup_iff.1 hnd
   rw [List.map_cons, List.nodup_cons] at this
   exact this.2
 have gtk : ∀ j, j < l.length - 1 -> gt (S.take (l.length - 1)) j = gt S j := by
  intro j hj
  rw [<- gt_eq (by rw [hl2]; exact hj), <- gt_eq (by rw [hlen]; omega)]
  simp
 have hbl4 : bl < h4.size := by
  have a := x1.size; have b := u2.size; have c := u3.size; have d := u4.size; omega
 have u14 : Upd F h h4 := (((x1.mono (S' := F) fun _ hf _ => hf.elim).trans u2 fun b hb _ => by rcases hb with rfl | rfl; exact f2; exact f3).trans u3 fun b hb _ => by subst hb; exact f1).trans u4 fun b hb _ => by subst hb; exact f2
 refine down_ok R4 (i := 0) (by decide) (by rcases Nat.eq_zero_or_pos (l.length - 1) with e | e; exact .inr (List.eq_nil_of_length_eq_zero (by rw [hl2]; exact e)); exact .inl (by rw [hl2]; exact e)) hbl4 ?_ fun h5 l5 R5 hp5 ho5 u5 => ?_
 ·refine ⟨fun j j0 j1 j2 => ?_, fun i0 => absurd i0 (Nat.lt_irrefl 0)⟩
  rw [hl2] at j1
  have hj4 : (j - 1) / 4 < l.length - 1 := by omega
  rw [gtk j j1, gtk _ hj4, hgt, hgt, if_neg (by omega), if_neg (by omega), if_neg (by omega), if_neg (by omega)]
  exact ho j j0 (by omega)
 ·have hf5 := u5.get hf4 (by omega)
  have k0 := hcell0 hf5
  have k1 := hcell1 hf5
  simp only [k0, k1, pField_ptr, pLoad_ptr, Nat.add_zero, Nat.zero_add]
  have u15 : Upd F h h5 := u14.trans u5 fun b hb _ => by rcases hb with rfl | rfl; exact f2; exact f3
  have hpe : l5.Perm (l.erase l[0]) := by
   have := (hperm.symm.trans hpS).erase l[0]
   simp only [List.erase_cons_head] at this
   exact hp5.trans this.symm
  refine h1 l[0] (ho.min hl) h5 F l5 ⟨⟨m, bl, R5, ho5, f1, f2, f3⟩, fun b hb => Nat.lt_of_lt_of_le (hlow b hb) u15.size, fun p hp => hrg p (List.mem_of_mem_erase (hpe.mem_iff.1 hp))⟩ hpe (fun b hb => .inl hb) u15

open Go Go.Mh

instance (l : List HE) (p : HE) : Decidable (Min l p) := by unfold Min; exact inferInstance

def PV (h : Heap) (F : Nat -> Prop) (r : Nat) (L : List HE) (n : Int) : Prop := ∃ l, HV h F r l n /\ l.Perm L

section
variable {h h' : Heap} {F G S : Nat -> Prop} {r : Nat} {L : List HE} {n id key : Int} {K : KT} {p : HE}

theorem PV.low (H : PV h F r L n) : ∀ b, F b -> b < h.size := by obtain ⟨l, H, hp⟩ := H; exact H.low
theorem PV.rng (H : PV h F r L n) : ∀ p ∈ L, 0 <= p.1 /\ p.1 < n := by obtain ⟨l, H, hp⟩ := H; exact fun p h => H.rng p (hp.mem_iff.2 h)
theorem PV.nodup (H : PV h F r L n) : (L.map (·.1)).Nodup := by obtain ⟨l, H, hp⟩ := H; exact (hp.map _).nodup_iff.1 H.nodup

theorem Min.perm {l l' : List HE} (hp : l.Perm l') (h : Min l p) : Min l' p := ⟨hp.mem_iff.1 h.1, fun q hq => h.2 q (hp.mem_iff.2 hq)⟩

theorem plen (H : PV h F r L n) (hK : K (I L.length) h) : callS Tryz.prog F_heap_Heap_Len [ptr r] h K := by
 obtain ⟨l, H, hp⟩ := H; exact len_ok H (by rw [hp.length_eq]; exact hK)
theorem pkey (H : PV h F r L n) (h0 : (∀ p ∈ L, p.1 ≠ id) -> K (.tuple #[I 0, .bool false]) h) (h1 : ∀ p ∈ L, p.1 = id -> K (.tuple #[I p.2, .bool true]) h) : callS Tryz.prog F_heap_Heap_Key [ptr r, I id] h K := by
 obtain ⟨l, H, hp⟩ := H
 exact key_ok H (fun e => h0 fun p hm => e p (hp.mem_iff.2 hm)) fun p hm => h1 p (hp.mem_iff.1 hm)
theorem pnew (hK : ∀ h' F r, PV h' F r [] (max n 0) -> (∀ b, F b -> h.size <= b) -> Ext h h' -> K (ptr r) h') : callS Tryz.prog F_heap_New [I n] h K :=
 new_ok fun h' F r H a b => hK h' F r ⟨[], H, .refl _⟩ a b
theorem ppush (H : PV h F r L n) (hsm : L.length + 1 < 2 ^ 40)
  (h2 : ((∃ p ∈ L, p.1 = id) \/ id < 0 \/ n <= id) -> K (I 2) h)
  (h0 : (∀ p ∈ L, p.1 ≠ id) -> 0 <= id -> id < n -> ∀ h' F', PV h' F' r ((id, key) :: L) n -> Grow h F F' -> Upd F h h' -> K (I 0) h') :
  callS Tryz.prog F_heap_Heap_Push [ptr r, I id, I key] h K := by
 obtain ⟨l, H, hp⟩ := H
 refine push_ok H (by rw [hp.length_eq]; exact hsm) (fun e => h2 ?_) fun hno a b h' F' l' H' hp' hg hu => h0 (fun p hm => hno p (hp.mem_iff.2 hm)) a b h' F' ⟨l', H', hp'.trans (hp.cons _)⟩ hg hu
 rcases e with ⟨p, hm, e⟩ | e
 ·exact .inl ⟨p, hp.mem_iff.1 hm, e⟩
 ·exact .inr e
theorem ppush0 (H : PV h F r L n) (hsm : L.length + 1 < 2 ^ 40) (hno : ∀ p ∈ L, p.1 ≠ id) (h1 : 0 <= id) (h2 : id < n)
  (h0 : ∀ h' F', PV h' F' r ((id, key) :: L) n -> Grow h F F' -> Upd F h h' -> K (I 0) h') : callS Tryz.prog F_heap_Heap_Push [ptr r, I id, I key] h K :=
 ppush H hsm (fun e => by
  rcases e with ⟨p, hm, e⟩ | e
  ·exact (hno p hm e).elim
  ·omega) fun _ _ _ => h0
theorem plower (H : PV h F r L n)
  (h2 : (id < 0 \/ n <= id) -> K (I 2) h) (h20 : 0 <= id -> id < n -> (∀ p ∈ L, p.1 ≠ id) -> K (I 20) h) (h2' : ∀ p ∈ L, p.1 = id -> p.2 < key -> K (I 2) h)
  (h0 : ∀ p ∈ L, p.1 = id -> ¬ p.2 < key -> ∀ h' F', PV h' F' r ((id, key) :: L.erase p) n -> Grow h F F' -> Upd F h h' -> K (I 0) h') :
  callS Tryz.prog F_heap_Heap_Lower [ptr r, I id, I key] h K := by
 obtain ⟨l, H, hp⟩ := H
 exact lower_ok H h2 (fun a b e => h20 a b fun p hm => e p (hp.mem_iff.2 hm)) (fun p hm => h2' p (hp.mem_iff.1 hm)) fun p hm e hk h' F' l' H' hp' hg hu =>
  h0 p (hp.mem_iff.1 hm) e hk h' F' ⟨l', H', hp'.trans ((hp.erase p).cons _)⟩ hg hu
theorem id_uniq (hn : (L.map (·.1)).Nodup) {q : HE} (hp : p ∈ L) (hq : q ∈ L) (he : p.1 = q.1) : p = q := by
 obtain ⟨i, hi, rfl⟩ := List.mem_iff_getElem.1 hp
 obtain ⟨j, hj, rfl⟩ := List.mem_iff_getElem.1 hq
 have := ids_inj hn hi hj he
 subst this; rfl
theorem plower0 (H : PV h F r L n) (hp : p ∈ L) (he : p.1 = id) (hk : ¬ p.2 < key)
  (h0 : ∀ h' F', PV h' F' r ((id, key) :: L.erase p) n -> Grow h F F' -> Upd F h h' -> K (I 0) h') : callS Tryz.prog F_heap_Heap_Lower [ptr r, I id, I key] h K := by
 have hr := H.rng p hp
 refine plower H (fun e => by omega) (fun _ _ e => (e p hp he).elim) (fun q hq e hk' => ?_) fun q hq e hk' => ?_
 ·have := id_uniq H.nodup hp hq (he.trans e.symm); subst this; exact (hk hk').elim
 ·have := id_uniq H.nodup hp hq (he.trans e.symm); subst this; exact h0
theorem ppop (H : PV h F r L n) (h0 : L = [] -> K (.tuple #[I 0, I 0, .bool false]) h)
  (h1 : ∀ p, Min L p -> ∀ h' F', PV h' F' r (L.erase p) n -> Grow h F F' -> Upd F h h' -> K (.tuple #[I p.1, I p.2, .bool true]) h') : callS Tryz.prog F_heap_Heap_Pop [ptr r] h K := by
 obtain ⟨l, H, hp⟩ := H
 exact pop_ok H (fun e => h0 (by subst e; exact hp.nil_eq.symm)) fun p hm h' F' l' H' hp' hg hu => h1 p (hm.perm hp) h' F' ⟨l', H', hp'.trans (hp.erase p)⟩ hg hu
theorem ppop1 (H : PV h F r L n) (hm : Min L p) (h1 : ∀ h' F', PV h' F' r (L.erase p) n -> Grow h F F' -> Upd F h h' -> K (.tuple #[I p.1, I p.2, .bool true]) h') : callS Tryz.prog F_heap_Heap_Pop [ptr r] h K :=
 ppop H (fun e => by subst e; simp [Min] at hm) fun q hq => by
  have := hq.uniq hm (.refl _); subst this; exact h1

end

open Go Go.Mh

theorem Rep.st {h h' : Heap} {r m bl : Nat} {l : List HE} {n : Int} (H : Rep h r m bl l n) (h1 : h'[r]? = h[r]?) (h2 : h'[m]? = h[m]?) (h3 : h'[bl]? = h[bl]?) : Rep h' r m bl l n := by
 obtain ⟨⟨sl, cap, rest, hr, hs⟩, ⟨es, c, hm, hi⟩, hn, hsm⟩ := H
 refine ⟨⟨sl, cap, rest, h1.trans hr, ?_⟩, ⟨es, c, h2.trans hm, hi⟩, hn, hsm⟩
 rcases hs with hs | ⟨a, b, c, d⟩
 ·exact .inl hs
 ·exact .inr ⟨a, h3.trans b, c, d⟩

def hpR (F : Nat -> Prop) (r : Nat) (H : List HE) (n : Nat) : Res := ⟨F, fun h => ∃ l, (∃ m bl, Rep h r m bl l n /\ HeapOrd l /\ F r /\ F m /\ F bl) /\ (∀ p ∈ l, 0 <= p.1 /\ p.1 < n) /\ l.Perm H, fun hs ⟨l, ⟨m, bl, R, ho, f1, f2, f3⟩, hr, hp⟩ =>
 ⟨l, ⟨m, bl, R.st (hs _ f1) (hs _ f2) (hs _ f3), ho, f1, f2, f3⟩, hr, hp⟩⟩

theorem PV.toR {h : Heap} {F : Nat -> Prop} {r : Nat} {H : List HE} {n : Nat} (P : PV h F r H n) : (hpR F r H n).Q h := by
 obtain ⟨l, ⟨a, b, c⟩, d⟩ := P; exact ⟨l, a, c, d⟩

section
variable {h0 h : Heap} {L : List Res} {F : Nat -> Prop} {r n : Nat} {H : List HE} {id key : Int} {K : KT}

theorem own_pv (o : Own h0 h L) (i : Nat) (hi : L[i]? = some (hpR F r H n)) : PV h F r H n := by
 obtain ⟨l, a, c, d⟩ := o.get i hi
 exact ⟨l, ⟨a, fun b hb => ((o.q hi).2 b hb).2, c⟩, d⟩

theorem min_iff {p : HE} : Min H p ↔ p ∈ H /\ ∀ q ∈ H, ¬ hl q p = true := by
 unfold Min
 have : ∀ q : HE, hlt q p = hl q p := fun q => by
  have h1 := @hlt_iff q p
  have h2 := @hl_iff q p
  by_cases hx : hl q p = true
  ·rw [hx]; exact h1.2 (h2.1 hx)
  ·simp at hx; rw [hx]
   by_cases hy : hlt q p = true
   ·rw [h2.2 (h1.1 hy)] at hx; cases hx
   ·simpa using hy
 simp only [this]

theorem least_min {p : HE} (h : least H = some p) : Min H p := min_iff.2 (least_spec h)

theorem ho_new (o : Own h0 h L) (hK : ∀ F r h', Own h0 h' (hpR F r [] n :: L) -> K (ptr r) h') : callS Tryz.prog F_heap_New [I n] h K := by
 refine pnew fun h' F r P hF x => hK F r h' (o.cons x ?_ fun b hb => ⟨hF b hb, P.low b hb⟩)
 rw [show max (n : Int) 0 = n by omega] at P
 exact P.toR

theorem own_hp {h' : Heap} {F' : Nat -> Prop} {H' : List HE} (o : Own h0 h L) (i : Nat) (hi : L[i]? = some (hpR F r H n)) (P : PV h' F' r H' n) (g : Grow h F F') (u : Upd F h h') : Own h0 h' (L.set i (hpR F' r H' n)) :=
 o.set i hi u P.toR fun b hb => ⟨g b hb, P.low b hb⟩

theorem ho_push (o : Own h0 h L) (i : Nat) (hi : L[i]? = some (hpR F r H n)) (hsm : H.length + 1 < 2 ^ 40) {v : Nat} (hno : ∀ p ∈ H, p.1 ≠ v) (hv : v < n)
  (hK : ∀ F' h', Own h0 h' (L.set i (hpR F' r (((v : Int), key) :: H) n)) -> K (I 0) h') : callS Tryz.prog F_heap_Heap_Push [ptr r, I v, I key] h K :=
 ppush0 (own_pv o i hi) hsm hno (by omega) (by omega) fun h' F' P g u => hK F' h' (own_hp o i hi P g u)

theorem ho_lower (o : Own h0 h L) (i : Nat) (hi : L[i]? = some (hpR F r H n)) {v : Nat} {was : Int} (hm : ((v : Int), was) ∈ H) (hk : ¬ was < key)
  (hK : ∀ F' h', Own h0 h' (L.set i (hpR F' r (((v : Int), key) :: H.erase ((v : Int), was)) n)) -> K (I 0) h') : callS Tryz.prog F_heap_Heap_Lower [ptr r, I v, I key] h K :=
 plower0 (own_pv o i hi) hm rfl hk fun h' F' P g u => hK F' h' (own_hp o i hi P g u)

theorem ho_key (o : Own h0 h L) (i : Nat) (hi : L[i]? = some (hpR F r H n)) {v : Nat}
  (hK : K (.tuple #[I ((lookH H v).getD 0), .bool (lookH H v).isSome]) h) : callS Tryz.prog F_heap_Heap_Key [ptr r, I v] h K := by
 have P := own_pv o i hi
 refine pkey P (fun hno => ?_) fun p hp e => ?_
 ·have : lookH H v = none := lookH_none.2 hno
  rw [this] at hK; exact hK
 ·cases hl : lookH H v with
  | none => exact absurd e (lookH_none.1 hl p hp)
  | some k =>
   have hm := lookH_some hl
   have := id_uniq P.nodup hp hm e
   subst this
   rw [hl] at hK; exact hK

theorem ho_pop (o : Own h0 h L) (i : Nat) (hi : L[i]? = some (hpR F r H n)) (hz : least H = none -> ∀ h', Own h0 h' L -> K (.tuple #[I 0, I 0, .bool false]) h')
  (hK : ∀ p, least H = some p -> ∀ F' h', Own h0 h' (L.set i (hpR F' r (H.erase p) n)) -> K (.tuple #[I p.1, I p.2, .bool true]) h') : callS Tryz.prog F_heap_Heap_Pop [ptr r] h K := by
 cases hl : least H with
 | none =>
  have e := least_none.1 hl
  subst e
  exact ppop (own_pv o i hi) (fun _ => hz hl h o) fun p hm => by simp [Min] at hm
 | some p => exact ppop1 (own_pv o i hi) (least_min hl) fun h' F' P g u => hK p hl F' h' (own_hp o i hi P g u)

end
open Go Go.Mh

section
variable {h0 h : Heap} {L : List Res} {K : KT} {g : G} {r : Nat}

theorem from1_end : EndF (.func (.func F_flood_From_1) #[] #[]) A.t := by
 intro a h K hK
 refine callV_of (l := [.agg (encA a).toArray]) rfl (lk_flood_From_1 _ ?_)
 unfold sh_flood_From_1
 refine (Own.start h).box fun b h1 o1 => ?_
 simp only [pField_ptr]
 exact o1.load 0 rfl rfl (hK _ o1.ext)
theorem to1_end : EndF (.func (.func F_flood_To_1) #[] #[]) A.f := by
 intro a h K hK
 refine callV_of (l := [.agg (encA a).toArray]) rfl (lk_flood_To_1 _ ?_)
 unfold sh_flood_To_1
 refine (Own.start h).box fun b h1 o1 => ?_
 simp only [pField_ptr]
 exact o1.load 0 rfl rfl (hK _ o1.ext)

theorem farcs_iter {l4 n3 e5 : Nat} {vl endv : Value} {ids : List Nat} {head : A -> Nat} {T1 T2 T3 : TypeId} (hids : ∀ i ∈ ids, i < g.arcs.length) (hmany : ids.length < 2 ^ 40) (hE : EndF endv head) :
  Iter Tryz.prog (.func (.func F_flood_arcs_1) #[] #[ptr l4, ptr n3, ptr e5])
   (fun h => h[l4]? = some (.cells #[vl] T1 (0, 0)) /\ h[n3]? = some (.cells #[ptr r] T2 (0, 0)) /\ h[e5]? = some (.cells #[endv] T3 (0, 0)) /\ Vw encN 1 h vl ids /\ NetR h r g) ids.length
   (fun i hi => [I ids[i], vA ⟨0, head (arcAt g.arcs ids[i]), (arcAt g.arcs ids[i]).w⟩]) := by
 rintro yv h0 h Rs K J E ⟨l, rfl⟩ o j0 hQ hY hK
 refine callF_of (l := [yieldV l, ptr l4, ptr n3, ptr e5]) rfl (lk_flood_arcs_1 _ _ _ _ ?_)
 unfold sh_flood_arcs_1
 obtain ⟨hb, _, _, hv, _⟩ := hQ _ _ _ j0 o
 have hc : hcell h ⟨l4, 0, none⟩ = some vl := hcell_of hb rfl
 simp only [pLoad_ptr, hc]
 refine hv.len ?_
 refine LoopH_count ids.length (fun i x h' => x.1 = I i /\ ∃ Rs', J i Rs' /\ Own h0 h' Rs') ⟨rfl, Rs, j0, o⟩ ?_
 rintro i ⟨x, ⟨⟩⟩ h Z hi ⟨hx, Rs', hj, o⟩ hZ
 dsimp only at hx hZ ⊢
 subst hx
 unfold sh_flood_arcs_1_L1
 simp only [pBin_lss, ifV_dec]
 refine ⟨fun hlt => ?_, fun hge => ?_⟩
 ·have hlt : i < ids.length := by omega
  obtain ⟨_, hn, he, hv, hN⟩ := hQ _ _ _ hj o
  refine hv.at1 (e := fun x : Nat => I x) (fun _ => rfl) hlt ?_
  have hc : hcell h ⟨n3, 0, none⟩ = some (ptr r) := hcell_of hn rfl
  simp only [pLoad_ptr, hc]
  have hil := hids _ (List.getElem_mem hlt)
  refine arc_ok hN hil fun h1 x1 => ?_
  have ea : arcAt g.arcs ids[i] = g.arcs[ids[i]] := by simp [arcAt, hil]
  have o1 := o.more x1
  simp only [pExt0, pExt1]
  refine o1.box fun b h2 o2 => o2.st 0 rfl rfl rfl rfl rfl (encA_plain _) fun h3 o3 => ?_
  obtain ⟨_, _, he3, _, _⟩ := hQ _ _ _ hj o3.tail
  have hc : hcell h3 ⟨e5, 0, none⟩ = some endv := hcell_of he3 rfl
  simp only [pLoad_ptr, hc, pField_ptr]
  refine o3.ldN 0 rfl rfl rfl ?_
  have hl := fun {K} (hk : K (I (g.arcs[ids[i]]).w)) => o3.load (off := 2) (K := K) 0 rfl rfl hk
  simp only [pLoad_ptr] at hl
  refine hl (hE _ _ _ fun h4 x4 => ?_)
  have o4 := o3.more x4
  refine ⟨o4.load 0 rfl rfl rfl, sizesOk_of rfl, ?_⟩
  rw [<- ea]
  refine hY i _ (i + 1) Rs' [] h4 _ ⟨⟨hlt, rfl⟩, rfl⟩ hj o4.tail.nilTail (fun Rs'' h'' hj' o' => ?_) fun Rs'' h'' he o' => ?_
  ·rw [pUn_not, Bool.not_true, ifV_false, pBin_add, wI i (by omega)]
   exact hZ (I (i + 1 : Nat), ()) h'' hlt ⟨rfl, Rs'', hj', o'.toNil⟩
  ·rw [pUn_not, Bool.not_false, ifV_true]
   exact hK _ _ (.inr he) o'.toNil
 ·have : i = ids.length := by omega
  exact hK _ _ (.inl ⟨i, this, hj⟩) o

def clo (order : List Nat) : Int -> Option Value := fun k => if order.any (fun v => (v : Int) == k) then some (I 1) else none
theorem clo_in {order : List Nat} {v : Nat} (h : v ∈ order) : clo order v = some (I 1) := by
 have : order.any (fun u => (u : Int) == (v : Int)) = true := List.any_eq_true.2 ⟨v, h, by simp⟩
 simp [clo, this]
theorem clo_out {order : List Nat} {v : Nat} (h : v ∉ order) : clo order v = none := by
 have : order.any (fun u => (u : Int) == (v : Int)) = false := by
  simp only [List.any_eq_false, beq_iff_eq]
  intro u hu e
  have : u = v := by omega
  exact h (this ▸ hu)
 simp [clo, this]
theorem clo_add {order : List Nat} {v : Nat} (x : Int) : clo (order ++ [v]) x = fset (clo order) v (I 1) x := by
 unfold fset
 by_cases h : x = v
 ·subst h; rw [if_pos rfl, clo_in (by simp)]
 ·rw [if_neg h]
  have : ((v : Int) == x) = false := by simpa using fun e => h e.symm
  simp [clo, this]

theorem set_set_same {α : Type} {l : List α} {i j : Nat} {a b : α} (hi : l[i]? = some a) (hj : l[j]? = some b) : (l.set i a).set j b = l := by
 have e1 : l.set i a = l := by
  apply List.ext_getElem?
  intro k
  by_cases e : i = k
  ·subst e; rw [List.getElem?_set_self (List.getElem?_eq_some_iff.1 hi).1, hi]
  ·rw [List.getElem?_set_ne e]
 rw [e1]
 apply List.ext_getElem?
 intro k
 by_cases e : j = k
 ·subst e; rw [List.getElem?_set_self (List.getElem?_eq_some_iff.1 hj).1, hj]
 ·rw [List.getElem?_set_ne e]

theorem reach_ok {rr hp n m : Nat} {F : Nat -> Prop} {sd sa so : Value} {s : FS} {B : Int} {v a : Nat} {d : Int} (o : Own h0 h L) (i1 i2 i3 i4 : Nat)
  (h1 : L[i1]? = some (cellR rr [ptr hp, sd, sa, so, .map (some m)] T_flood_run)) (h2 : L[i2]? = some (hpR F hp s.hp n)) (h3 : L[i3]? = some (slR encJ 1 T_int sa s.arc)) (h4 : L[i4]? = some (mapR m (clo s.order)))
  (n12 : i2 ≠ i1) (n23 : i2 ≠ i3) (n24 : i2 ≠ i4) (inv : FInv n B s) (hn : n <= 16777216) (hv : v < n)
  (hK : ∀ F' h', Own h0 h' ((L.set i2 (hpR F' hp (s.reach v a d).hp n)).set i3 (slR encJ 1 T_int sa (s.reach v a d).arc)) -> K (.tuple #[]) h') :
  callS Tryz.prog F_flood_run_reach [ptr rr, I v, I a, I d] h K := by
 refine callS_of (lk_flood_run_reach _ _ _ _ ?_)
 unfold sh_flood_run_reach
 simp only [pNil_ptr, pField_ptr]
 refine o.load i1 h1 rfl (ho_key o i2 h2 ?_)
 simp only [pExt0, pExt1]
 refine o.load i1 h1 rfl ?_
 refine o.look i4 h4 ?_
 simp only [Bool.false_eq_true, if_false]
 have hlen : s.hp.length <= n := by
  have : (s.hp.map (·.1.toNat)).length <= n := nodup_le (by
   have : s.hp.map (·.1.toNat) = (s.hp.map (·.1)).map Int.toNat := by simp
   rw [this, List.nodup_iff_pairwise_ne, List.pairwise_map]
   refine (List.nodup_iff_pairwise_ne.1 inv.ids).imp_of_mem fun {x y} hx hy hne e => hne ?_
   obtain ⟨p, hp, rfl⟩ := List.mem_map.1 hx
   obtain ⟨q, hq, rfl⟩ := List.mem_map.1 hy
   obtain ⟨u, e1, _⟩ := inv.ent p hp
   obtain ⟨w, e2, _⟩ := inv.ent q hq
   rw [e1, e2] at e ⊢
   have e' : u = w := by simpa using e
   rw [e']) (fun x hx => by
   obtain ⟨p, hp, rfl⟩ := List.mem_map.1 hx
   obtain ⟨u, e1, e2, _⟩ := inv.ent p hp
   rw [e1]; simpa using e2)
  simpa using this
 by_cases hc : v ∈ s.order
 ·rw [clo_in hc]
  simp only [Option.getD_some]
  have : s.reach v a d = s := by simp [FS.reach, hc]
  rw [this, ] at hK
  have hk := fun h => hK F h
  rw [set_set_same h2 h3] at hk
  simpa using hk h o
 ·rw [clo_out hc]
  simp only [Option.getD_none, pBin_gtr, ifV_dec]
  refine ⟨fun e => by omega, fun _ => ?_⟩
  cases hl : lookH s.hp v with
  | some was =>
   simp only [Option.isSome_some, ifV_true, Option.getD_some, pBin_leq, ifV_dec]
   refine ⟨fun hle => ?_, fun hgt => ?_⟩
   ·have : s.reach v a d = s := by simp [FS.reach, hc, hl, hle]
    rw [this] at hK
    have hk := fun h => hK F h
    rw [set_set_same h2 h3] at hk
    exact hk h o
   ·unfold sh_flood_run_reach_k1 sh_flood_run_reach_k2
    simp only [ifV_true, pNil_ptr, pField_ptr]
    refine o.load i1 h1 rfl (ho_lower o i2 h2 (lookH_some hl) (by omega) fun F' h5 o5 => ?_)
    refine o5.load i1 (by rw [List.getElem?_set_ne n12]; exact h1) rfl ?_
    refine o5.setI (z := a) i3 (by rw [List.getElem?_set_ne n23]; exact h3) (by rw [inv.al]; exact hv) fun h6 o6 => ?_
    have : s.reach v a d = { s with hp := ((v : Int), d) :: s.hp.erase ((v : Int), was), arc := s.arc.set v a } := by simp [FS.reach, hc, hl, hgt]
    rw [this] at hK
    exact hK F' h6 o6
  | none =>
   simp only [Option.isSome_none, ifV_false]
   unfold sh_flood_run_reach_k1 sh_flood_run_reach_k2
   simp only [ifV_false, pNil_ptr, pField_ptr]
   refine o.load i1 h1 rfl (ho_push o i2 h2 (by omega) (lookH_none.1 hl) hv fun F' h5 o5 => ?_)
   refine o5.load i1 (by rw [List.getElem?_set_ne n12]; exact h1) rfl ?_
   refine o5.setI (z := a) i3 (by rw [List.getElem?_set_ne n23]; exact h3) (by rw [inv.al]; exact hv) fun h6 o6 => ?_
   have : s.reach v a d = { s with hp := ((v : Int), d) :: s.hp, arc := s.arc.set v a } := by simp [FS.reach, hc, hl]
   rw [this] at hK
   exact hK F' h6 o6

end
open Go Go.Mh

theorem scan_take {l : List A} {head : A -> Nat} {key : Int} {s : FS} {ids : List Nat} {i : Nat} (hi : i < ids.length) :
    s.scan l head key (ids.take (i + 1)) = (s.scan l head key (ids.take i)).reach (head (arcAt l ids[i])) ids[i] (key + (arcAt l ids[i]).w) := by
  unfold FS.scan
  rw [List.take_succ_eq_append_getElem hi, List.foldl_append]; rfl

section
variable {h0 h : Heap} {L : List Res} {K : KT} {g : G} {r : Nat} {outs : Nat -> List Nat} {head : A -> Nat} {nextv endv : Value}

def NextF (nextv : Value) (g : G) (r : Nat) (outs : Nat -> List Nat) : Prop :=
  ∀ (h0 h : Heap) (L : List Res) (K : KT) (v : Nat), v < g.n -> NetR h r g -> Own h0 h L -> (∀ v' h', Own h0 h' (slR encN 1 T_int v' (outs v) :: L) -> K v' h') -> callV Tryz.prog nextv [I v].toArray h K

theorem out_next (hR : g.Right) : NextF (.func (.func F_net_Net_Out) #[ptr r] #[]) g r g.out := by
  intro h0 h L K v hv H o hK
  refine callV_of (l := [ptr r, I v]) rfl ?_
  have := outI_ok (z := v) o hR H (K := K) (by rw [if_pos (by omega)]; exact hK)
  simpa [callS, callV] using this
theorem in_next (hR : g.Right) : NextF (.func (.func F_net_Net_In) #[ptr r] #[]) g r g.in := by
  intro h0 h L K v hv H o hK
  refine callV_of (l := [ptr r, I v]) rfl ?_
  have := inI_ok (z := v) o hR H (K := K) (by rw [if_pos (by omega)]; exact hK)
  simpa [callS, callV] using this

abbrev runL (r9 rr m hp t8 n : Nat) (sd sa : Value) (kb : Nat) (key : Int) (F : Nat -> Prop) (H : List HE) (so : Value) (st : FS) (mm : List Nat) : List Res :=
  [cellR kb [I key] T_int64, cellR r9 [ptr rr] T_p_flood_run, cellR rr [ptr hp, sd, sa, so, .map (some m)] T_flood_run, hpR F hp H n, slR encJ 1 T_int sa st.arc, mapR m (clo st.order), xR sd st.dist, slR encN 1 T_int so st.order,
    cellR t8 [sl0, sl0, sl0] T_flood_Tree, marksR mm]

theorem flood_loop {r9 rr m hp t8 : Nat} {sd sa : Value} {fin : FS} {h' : Heap} {x : List Nat × Vals [10, 11, 12]} (hR : g.Right) (H : NetR h r g) (hN : NextF nextv g r outs) (hE : EndF endv head) (hev : endv.cells = #[endv]) (hhead : ∀ a ∈ g.arcs, head a < g.n)
    (hout : ∀ v, v < g.n -> ∀ i ∈ outs v, i < g.arcs.length) (hol : ∀ v, (outs v).length <= g.arcs.length)
    (hK : ∀ so h', Own h h' [xR sd fin.dist, slR encJ 1 T_int sa fin.arc, slR encN 1 T_int so fin.order] -> K (.agg #[sd, sa, so]) h')
    (J : ∃ (st : FS) (kb : Nat) (key : Int) (so : Value) (F : Nat -> Prop) (H : List HE), x.2.2.1 = ptr kb /\ FS.run g.arcs outs head (g.n + 1 - st.order.length) st = fin /\ FInv g.n (st.order.length * W) st /\
      ((least st.hp = none /\ x.2.2.2.1 = .bool false) \/ ∃ p, least st.hp = some p /\ x.2.1 = I p.1 /\ key = p.2 /\ x.2.2.2.1 = .bool true /\ H = st.hp.erase p) /\ Own h h' (runL r9 rr m hp t8 g.n sd sa kb key F H so st x.1)) :
    LoopH (σ := List Nat × Vals [10, 11, 12]) (fun x hh ZZ => sh_flood_flood_L2 Tryz.prog (ptr r9) nextv (ptr r) endv (ptr t8) K x.1 x.2.1 x.2.2.1 x.2.2.2.1 hh (fun mz a0 a1 a2 hz => ZZ (mz, (a0, (a1, (a2, ())))) hz)) x h' := by
  have hmost := hR.most
  have hmany := hR.many
  obtain ⟨st0, J⟩ := J
  refine LoopH_down (k0 := g.n + 1 - st0.order.length) (fun k x h' => ∃ (st : FS) (kb : Nat) (key : Int) (so : Value) (F : Nat -> Prop) (H : List HE), k = g.n + 1 - st.order.length /\ x.2.2.1 = ptr kb /\ FS.run g.arcs outs head (g.n + 1 - st.order.length) st = fin /\ FInv g.n (st.order.length * W) st /\
      ((least st.hp = none /\ x.2.2.2.1 = .bool false) \/ ∃ p, least st.hp = some p /\ x.2.1 = I p.1 /\ key = p.2 /\ x.2.2.2.1 = .bool true /\ H = st.hp.erase p) /\ Own h h' (runL r9 rr m hp t8 g.n sd sa kb key F H so st x.1))
    (by obtain ⟨kb, key, so, F, H, J⟩ := J; exact ⟨st0, kb, key, so, F, H, rfl, J⟩) ?_
  clear J st0 h' x
  rintro k ⟨mm, v, kv, is, ⟨⟩⟩ h' Z ⟨st, kb, key, so, F, Hp, hk, hkb, hrun, inv, hcase, o⟩ hZ
  dsimp only at hkb hcase o hZ ⊢
  subst hkb
  unfold sh_flood_flood_L2
  simp only [pNil_ptr, pField_ptr]
  rcases hcase with ⟨hl, rfl⟩ | ⟨p, hl, rfl, rfl, rfl, rfl⟩
  · rw [ifV_false]
    have hf : st = fin := by
      rw [<- hrun]
      cases g.n + 1 - st.order.length with
      | zero => rfl
      | succ k => simp only [FS.run, hl]
    subst hf
    refine o.load 1 rfl rfl ?_
    simp only [pNil_ptr, pField_ptr]
    refine o.ldN 2 rfl rfl rfl ?_
    refine o.st 8 rfl rfl rfl rfl rfl ?_ fun h2 o2 => ?_
    · intro u hu
      simp at hu
      rcases hu with rfl | rfl | rfl
      · exact (o.vw 6 rfl).plain
      · exact (o.vw 4 rfl).plain
      · exact (o.vw 7 rfl).plain
    · refine o2.take 9 rfl fun h3 o3 => ?_
      exact o3.ldN 8 rfl rfl rfl (hK so h3 (o3.sel [6, 4, 7] (by decide)))
  · rw [ifV_true]
    have hm := (least_spec hl).1
    obtain ⟨u, hu, hun, hno, hk0, hkB⟩ := inv.ent p hm
    obtain ⟨pv, key⟩ := p
    dsimp only at hu hk0 hkB o ⊢
    subst hu
    have hroom := inv.room (by intro e; rw [e] at hm; cases hm)
    have hB : (st.order.length : Int) * W + W <= 16777216 * W := by
      have : (st.order.length : Int) + 1 <= 16777216 := by omega
      have := Int.mul_le_mul_of_nonneg_right this (show (0 : Int) <= W by decide)
      rw [Int.add_mul, Int.one_mul] at this
      exact this
    refine o.load 1 rfl rfl ?_
    simp only [pNil_ptr, pField_ptr]
    refine o.load 2 rfl rfl ?_
    refine o.look 5 rfl ?_
    rw [clo_out hno]
    simp only [Bool.false_eq_true, if_false, Option.getD_none, pBin_add]
    rw [show IntKind.i64.wrap (0 + 1) = 1 from rfl]
    refine o.mapPut (f' := clo (st.order ++ [u])) 5 rfl clo_add fun h1 o1 => ?_
    refine o1.load 1 rfl rfl ?_
    simp only [pNil_ptr, pField_ptr]
    refine o1.load 2 rfl rfl (o1.load 0 rfl rfl ?_)
    refine o1.setI 6 rfl (by rw [inv.dl]; exact hun) fun h2 o2 => ?_
    refine o2.load 1 rfl rfl (o2.load 1 rfl rfl ?_)
    simp only [pNil_ptr, pField_ptr]
    refine o2.load 2 rfl rfl ?_
    refine o2.app1 7 u rfl rfl (sizesOk_of rfl) encN_len encN_plain rfl (by decide) (by omega) fun so1 h3 o3 => ⟨o3.load 1 rfl rfl rfl, ?_⟩
    refine o3.st1 2 rfl rfl rfl (o3.vw 7 rfl).one (o3.vw 7 rfl).plain fun h4 o4 => ?_
    refine hN _ _ _ _ u hun (H.more o4.ext) o4 fun vl h5 o5 => ?_
    refine callS_of (lk_flood_arcs _ _ _ ?_)
    unfold sh_flood_arcs
    refine o5.box fun n3 h6 o6 => o6.box fun l4 h7 o7 => o7.box fun e5 h8 o8 => ?_
    have hvl := o5.vw 0 rfl
    obtain ⟨st1, hst1⟩ : ∃ st1, st1 = st.pop u key := ⟨_, rfl⟩
    have hW : (0 : Int) <= W := by decide
    have inv1 : FInv g.n (st.order.length * W + W) st1 := by subst hst1; exact (inv.popped hm).mono (by omega)
    have hord : st1.order.length = st.order.length + 1 := by subst hst1; simp [FS.pop]
    have hids := hout u hun
    have hscan : ∀ i, FInv g.n (st.order.length * W + W) (st1.scan g.arcs head key ((outs u).take i)) := fun i =>
      FInv.scan (fun a ha => ⟨hhead a ha, by have := (hR.ends a ha).2.2; show (a.w : Int) <= 2147483647; omega⟩) hk0 (by omega) (fun j hj => hids j (List.mem_of_mem_take hj)) inv1
    have L0 : Own h h8 (cellR e5 endv.cells.toList T_func_api_Arc_int :: cellR l4 vl.cells.toList T_sl_int :: cellR n3 [ptr r] T_p_net_Net :: slR encN 1 T_int vl (outs u) :: runL r9 rr m hp t8 g.n sd sa kb key F (st1.scan g.arcs head key ((outs u).take 0)).hp so1 (st1.scan g.arcs head key ((outs u).take 0)) mm) := by
      subst hst1; exact o8
    refine L0.range (farcs_iter (r := r) (T1 := T_sl_int) (T2 := T_p_net_Net) (T3 := T_func_api_Arc_int) (vl := vl) hids (by have := hol u; omega) hE) (fun i x i' ⟨⟨hi, e⟩, _⟩ => by rw [e]; rfl)
      (fun i Rs => ∃ F, Rs = cellR e5 endv.cells.toList T_func_api_Arc_int :: cellR l4 vl.cells.toList T_sl_int :: cellR n3 [ptr r] T_p_net_Net :: slR encN 1 T_int vl (outs u) :: runL r9 rr m hp t8 g.n sd sa kb key F (st1.scan g.arcs head key ((outs u).take i)).hp so1 (st1.scan g.arcs head key ((outs u).take i)) mm)
      (fun _ => False) (fun _ _ => False) ⟨F, rfl⟩ ?_ ?_ ?_ (fun _ _ h => h.elim) (fun _ _ _ h => h.elim)
    · rintro i Rs' h' ⟨F, rfl⟩ o'
      refine ⟨?_, o'.get 2 rfl, ?_, o'.vw 3 rfl, H.more o'.ext⟩
      · have := o'.get 1 rfl
        rw [show vl.cells.toList = [vl] by rw [hvl.one]] at this
        exact this
      · have := o'.get 0 rfl
        rw [show endv.cells.toList = [endv] by rw [hev]] at this
        exact this
    · rintro M i x i' Rs' Pr h9 R ⟨⟨hi, rfl⟩, rfl⟩ ⟨F, rfl⟩ o9 hN' _ _
      dsimp only [valsOf]
      unfold sh_flood_flood_B3
      refine o9.box fun a14 h10 o10 => o10.st 0 rfl rfl rfl rfl rfl (encA_plain _) fun h11 o11 => ?_
      refine o11.begin 1 rfl fun h12 o12 => ?_
      refine o12.load 8 rfl rfl ?_
      simp only [pField_ptr]
      refine o12.load 0 rfl rfl (o12.load 7 rfl rfl (o12.load 0 rfl rfl ?_))
      have hil := hids _ (List.getElem_mem hi)
      have ha : arcAt g.arcs (outs u)[i] ∈ g.arcs := by simp [arcAt, hil]
      have hw := (hR.ends _ ha).2.2
      have e1 : IntKind.i64.wrap (key + ((arcAt g.arcs (outs u)[i]).w : Int)) = key + (arcAt g.arcs (outs u)[i]).w := by
        have hW2 : (16777216 : Int) * W <= 2 ^ 62 := by decide
        exact w64 (by omega) (by have : (W : Int) = 2147483647 := rfl
                                 omega)
      rw [pBin_add, e1]
      refine reach_ok o12 9 10 11 12 rfl rfl rfl rfl (by decide) (by decide) (by decide) (hscan i) hmost (hhead _ ha) fun F' h13 o13 => ?_
      refine hN' _ _ ⟨F', rfl⟩ ?_
      have hsc := scan_take (l := g.arcs) (head := head) (key := key) (s := st1) hi
      have hro := @reach_order (st1.scan g.arcs head key ((outs u).take i)) (head (arcAt g.arcs (outs u)[i])) (outs u)[i] (key + (arcAt g.arcs (outs u)[i]).w)
      rw [<- hsc] at hro
      have := o13.tail
      rw [<- hsc] at this
      simp only [runL, hro.1, hro.2]
      exact this
    · rintro i h9 Rs' rfl ⟨F', rfl⟩ o9
      rw [List.take_length] at o9
      have hso := @scan_order g.arcs head key (outs u) st1
      refine o9.load 5 rfl rfl (o9.box fun kb2 h10 o10 => ?_)
      refine o10.st1 0 rfl rfl rfl rfl rfl fun h11 o11 => ?_
      refine o11.load 7 rfl rfl ?_
      simp only [pNil_ptr, pField_ptr]
      refine o11.load 8 rfl rfl ?_
      have inv2 : FInv g.n ((st1.scan g.arcs head key (outs u)).order.length * W) (st1.scan g.arcs head key (outs u)) := by
        have := hscan (outs u).length
        rw [List.take_length] at this
        refine this.mono ?_
        rw [hso.1, hord]
        have : ((st.order.length + 1 : Nat) : Int) * W = st.order.length * W + W := by
          rw [Int.natCast_add, Int.add_mul]; rfl
        omega
      have hrun2 : FS.run g.arcs outs head (g.n + 1 - (st1.scan g.arcs head key (outs u)).order.length) (st1.scan g.arcs head key (outs u)) = fin := by
        rw [<- hrun, hso.1, hord]
        rw [show g.n + 1 - st.order.length = (g.n + 1 - (st.order.length + 1)) + 1 by omega]
        simp only [FS.run, hl, Int.toNat_natCast]
        rw [<- hst1]
      have mark := fun {h'' : Heap} {A B : Res} {C : List Res} (o : Own h h'' (A :: B :: C)) => o
      refine ho_pop o11 9 rfl (fun hl2 h12 o12 => ?_) fun p hl2 F2 h12 o12 => ?_
      · simp only [pExt0, pExt1, pExt2]
        refine o12.st1 0 rfl rfl rfl rfl rfl fun h13 o13 => ?_
        have o14 := (o13.swap).addMark 14 rfl
        refine hZ (_ :: mm, (I 0, (ptr kb2, (.bool false, ())))) h13 _ (by rw [hso.1, hord]; omega) ⟨st1.scan g.arcs head key (outs u), kb2, 0, so1, F', (st1.scan g.arcs head key (outs u)).hp, rfl, rfl, hrun2, inv2, .inl ⟨hl2, rfl⟩, ?_⟩
        exact o14.sel [0, 6, 7, 8, 9, 10, 11, 12, 13, 14] (by decide)
      · simp only [pExt0, pExt1, pExt2]
        refine o12.st1 0 rfl rfl rfl rfl rfl fun h13 o13 => ?_
        have o14 := (o13.swap).addMark 14 rfl
        refine hZ (_ :: mm, (I p.1, (ptr kb2, (.bool true, ())))) h13 _ (by rw [hso.1, hord]; omega) ⟨st1.scan g.arcs head key (outs u), kb2, p.2, so1, F2, (st1.scan g.arcs head key (outs u)).hp.erase p, rfl, rfl, hrun2, inv2, .inr ⟨p, hl2, rfl, rfl, rfl, rfl⟩, ?_⟩
        exact o14.sel [0, 6, 7, 8, 9, 10, 11, 12, 13, 14] (by decide)

end
open Go Go.Mh

section
variable {h0 h : Heap} {L : List Res} {K : KT} {g : G} {r : Nat} {outs : Nat -> List Nat} {head : A -> Nat} {nextv endv : Value}

def TreeK (h : Heap) (t : Tr) (K : KT) : Prop :=
 ∀ sd sa so h', Own h h' [xR sd t.dist, slR encJ 1 T_int sa t.arc, slR encN 1 T_int so t.order] -> K (.agg #[sd, sa, so]) h'

theorem flood_none {s : Int} {rv : Value} (hs : rv = .pointer none \/ (rv = ptr r /\ NetR h r g /\ ¬ (0 <= s /\ s < g.n))) (hK : TreeK h .none K) : callS Tryz.prog F_flood_flood [rv, I s, nextv, endv] h K := by
 refine callS_of (lk_flood_flood _ _ _ _ ?_)
 unfold sh_flood_flood sh_flood_flood_k1
 refine (Own.start h).box fun t8 h1 o1 => ?_
 have none : ∀ {h2 : Heap}, Own h h2 [cellR t8 [sl0, sl0, sl0] T_flood_Tree] -> pBuild [(.slice none 0 0), (.slice none 0 0), (.slice none 0 0)] [] fun t27 => pStore 3 (ptr t8) t27 h2 fun u h_3 => pLoadN 3 h_3 (ptr t8) fun res => K res h_3 := fun o2 =>
  ⟨trivial, o2.st (cs' := [sl0, sl0, sl0]) 0 rfl (l := [sl0, sl0, sl0]) rfl rfl rfl rfl (by simp) fun h3 o3 => o3.ldN 0 rfl rfl rfl (hK sl0 sl0 sl0 h3 ((o3.nilS.nilS.nilS).sel [0, 1, 2] (by decide)))⟩
 rcases hs with rfl | ⟨rfl, H, hs⟩
 ·simp only [pEq_ptr_nil, Option.isNone_none, ifV_true]
  exact none o1
 ·simp only [pEq_ptr_nil, Option.isNone_some, ifV_false, pBin_lss, ifV_dec]
  refine ⟨fun _ => none o1, fun e => nodes_ok (H.more o1.ext) ?_⟩
  simp only [pBin_geq, ifV_dec]
  exact ⟨fun _ => none o1, fun e' => by omega⟩

theorem flood_ok {s : Nat} (hR : g.Right) (H : NetR h r g) (hs : s < g.n) (hN : NextF nextv g r outs) (hE : EndF endv head) (hev : endv.cells = #[endv]) (hhead : ∀ a ∈ g.arcs, head a < g.n)
  (hout : ∀ v, v < g.n -> ∀ i ∈ outs v, i < g.arcs.length) (hol : ∀ v, (outs v).length <= g.arcs.length) (hK : TreeK h (floodP g.arcs g.n outs head s) K) : callS Tryz.prog F_flood_flood [ptr r, I s, nextv, endv] h K := by
 have hmost := hR.most
 refine callS_of (lk_flood_flood _ _ _ _ ?_)
 unfold sh_flood_flood
 refine (Own.start h).box fun t8 h1 o1 => ?_
 simp only [pEq_ptr_nil, Option.isNone_some, ifV_false, pBin_lss, ifV_dec]
 refine ⟨fun e => by omega, fun _ => nodes_ok (H.more o1.ext) ?_⟩
 simp only [pBin_geq, ifV_dec]
 refine ⟨fun e => by omega, fun _ => nodes_ok (H.more o1.ext) (ho_new o1 fun F hp h2 o2 => ?_)⟩
 refine o2.build (enc := encJ) (n := 1) [far] rfl (sizesOk_of rfl) rfl fun wf h3 o3 => nodes_ok (H.more o3.ext) ?_
 refine repeat_int64 o3 (o3.vw 0 rfl) hmost fun sd h4 o4 => ?_
 refine o4.build (enc := encJ) (n := 1) [-1] rfl (sizesOk_of rfl) rfl fun wm h5 o5 => nodes_ok (H.more o5.ext) ?_
 refine repeat_int o5 (o5.vw 0 rfl) hmost fun sa h6 o6 => ⟨sizesOk_of (by
  obtain ⟨b, c, e⟩ := (o6.vw 0 rfl).isSl
  obtain ⟨b', c', e'⟩ := (o6.vw 2 rfl).isSl
  subst e e'; rfl), ?_⟩
 have ead : sa.cells = #[sa] /\ sd.cells = #[sd] := ⟨(o6.vw 0 rfl).one, (o6.vw 2 rfl).one⟩
 refine o6.mkMap fun m h7 o7 => ?_
 obtain ⟨ba, ca, ea⟩ := (o7.vw 1 rfl).isSl
 obtain ⟨bd, cd, ed⟩ := (o7.vw 3 rfl).isSl
 refine ⟨sizesOk_of (by subst ea ed; rfl), o7.box fun rr h8 o8 => o8.box fun r9 h9 o9 => o9.st1 0 rfl rfl rfl rfl rfl fun h10 o10 => ?_⟩
 have o11 : Own h h10 (cellR r9 [ptr rr] T_p_flood_run :: cellR rr [ptr hp, sd, sa, sl0, .map (some m)] T_flood_run :: mapR m (fun _ => none) :: slR encJ 1 T_int sa (List.replicate g.n (-1)) :: slR encJ 1 T_int wm [-1] :: xR sd (List.replicate g.n far) :: xR wf [far] :: hpR F hp [] g.n :: [cellR t8 [sl0, sl0, sl0] T_flood_Tree]) := by
  subst ea ed; exact o10
 clear o10 o9 o8 o7 o6
 refine o11.load 0 rfl rfl ?_
 simp only [pNil_ptr, pField_ptr]
 refine o11.load 1 rfl rfl (ho_push o11 7 rfl (by simp) (by simp) hs fun F1 h12 o12 => ?_)
 refine o12.load 0 rfl rfl ?_
 simp only [pNil_ptr, pField_ptr]
 refine o12.load 1 rfl rfl ?_
 refine ho_pop o12 7 rfl (fun e => by simp [least] at e) fun p hp' F2 h13 o13 => ?_
 have hp2 : p = ((s : Int), 0) := by simpa [least] using hp'.symm
 subst hp2
 simp only [pExt0, pExt1, pExt2]
 refine o13.box fun kb h14 o14 => o14.st1 0 rfl rfl rfl rfl rfl fun h15 o15 => ?_
 have o16 := (o15.noMarks).nilS (enc := encN) (n := 1) (T := T_int)
 refine flood_loop (fin := FS.run g.arcs outs head (g.n + 1) (FS.start g.n s)) (m := m) (sd := sd) (sa := sa) (rr := rr) (hp := hp) hR H hN hE hev hhead hout hol (fun so h' o' => hK sd sa so h' o') ?_
 refine ⟨FS.start g.n s, kb, 0, sl0, F2, _, rfl, rfl, (FInv.start hs).mono (by simp [FS.start]), .inr ⟨((s : Int), 0), hp', rfl, rfl, rfl, rfl⟩, ?_⟩
 have e : (fun _ => none : Int -> Option Value) = clo (FS.start g.n s).order := by funext x; simp [clo, FS.start]
 have o17 := o16.sel [2, 3, 4, 10, 6, 5, 8, 0, 11, 1] (by decide)
 dsimp only [List.map, List.getD] at o17
 rw [e] at o17
 exact o17

end
open Go Go.Mh

section
variable {h0 h : Heap} {L : List Res} {K : KT} {g : G} {r : Nat} {s : Int}

theorem out_lt {g : G} {v i : Nat} (h : i ∈ g.out v) : i < g.arcs.length := by
 have := (outsP_mem.1 h).2.1; omega
theorem in_lt {g : G} {v i : Nat} (h : i ∈ g.in v) : i < g.arcs.length := by
 have := (outsP_mem.1 h).2.1; omega

theorem from_ok (hR : g.Right) (H : NetR h r g) (hK : TreeK h (g.fromI s) K) : callS Tryz.prog F_flood_From [ptr r, I s] h K := by
 refine callS_of (lk_flood_From _ _ ?_)
 unfold sh_flood_From
 refine (Own.start h).box fun t4 h1 o1 => ?_
 have fin : TreeK h1 (g.fromI s) fun t9 h_2 => pStore 3 (ptr t4) t9 h_2 fun u h_3 => pLoadN 3 h_3 (ptr t4) fun res => K res h_3 := by
  intro sd sa so h2 o2
  have o3 := o1.frame o2
  refine o3.st 3 rfl rfl rfl rfl rfl ?_ fun h3 o4 => o4.ldN 3 rfl rfl rfl (hK sd sa so h3 (o4.sel [0, 1, 2] (by decide)))
  intro u hu
  simp at hu
  rcases hu with rfl | rfl | rfl
  ·exact (o3.vw 0 rfl).plain
  ·exact (o3.vw 1 rfl).plain
  ·exact (o3.vw 2 rfl).plain
 unfold G.fromI at fin
 split at fin <;> rename_i hs
 ·obtain ⟨s, rfl⟩ := Int.eq_ofNat_of_zero_le hs.1
  exact flood_ok hR (H.more o1.ext) (by omega) (out_next hR) from1_end rfl (fun a ha => (hR.ends a ha).2.1) (fun v _ i => out_lt) (fun v => outsP_short) fin
 ·exact flood_none (g := g) (.inr ⟨rfl, H.more o1.ext, hs⟩) fin

theorem to_ok (hR : g.Right) (H : NetR h r g) (hK : TreeK h (g.toI s) K) : callS Tryz.prog F_flood_To [ptr r, I s] h K := by
 refine callS_of (lk_flood_To _ _ ?_)
 unfold sh_flood_To
 refine (Own.start h).box fun t4 h1 o1 => ?_
 have fin : TreeK h1 (g.toI s) fun t9 h_2 => pStore 3 (ptr t4) t9 h_2 fun u h_3 => pLoadN 3 h_3 (ptr t4) fun res => K res h_3 := by
  intro sd sa so h2 o2
  have o3 := o1.frame o2
  refine o3.st 3 rfl rfl rfl rfl rfl ?_ fun h3 o4 => o4.ldN 3 rfl rfl rfl (hK sd sa so h3 (o4.sel [0, 1, 2] (by decide)))
  intro u hu
  simp at hu
  rcases hu with rfl | rfl | rfl
  ·exact (o3.vw 0 rfl).plain
  ·exact (o3.vw 1 rfl).plain
  ·exact (o3.vw 2 rfl).plain
 unfold G.toI at fin
 split at fin <;> rename_i hs
 ·obtain ⟨s, rfl⟩ := Int.eq_ofNat_of_zero_le hs.1
  exact flood_ok hR (H.more o1.ext) (by omega) (in_next hR) to1_end rfl (fun a ha => (hR.ends a ha).1) (fun v _ i => in_lt) (fun v => outsP_short) fin
 ·exact flood_none (g := g) (.inr ⟨rfl, H.more o1.ext, hs⟩) fin

end
open Go Go.Mh

section
variable {h0 h : Heap} {L : List Res} {K : KT} {g : G} {r v d : Nat} {vl : Value}

theorem getD_at {α : Type} {l : List α} {i : Nat} {a : α} (h : i < l.length) : l.getD i a = l[i] := by
 rw [List.getD_eq_getElem?_getD, List.getElem?_eq_getElem h]; rfl

theorem one64_ok {l : List Int} (H : Vw encJ 1 h vl l) (hv : v < l.length) (hK : K (.tuple #[I (l.getD v 0), .bool true]) h) : callS Tryz.prog F_net_one_int64 [vl, I v] h K := by
 refine callS_of (lk_net_one_int64 _ _ ?_)
 unfold sh_net_one_int64
 rw [pBin_lss, decide_eq_false (by omega), ifV_false]
 refine H.len ?_
 rw [pBin_geq, decide_eq_false (by omega), ifV_false]
 refine H.atI hv ?_
 rw [getD_at hv] at hK
 exact hK

theorem place_ok (hR : g.Right) (H : NetR h r g) (hv : v < g.n) (hK : K (.tuple #[I (g.X.getD v 0), I (g.Y.getD v 0), .bool true]) h) : callS Tryz.prog F_net_Net_Place [ptr r, I v] h K := by
 obtain ⟨vx, vy, va, vo, vi, hr, HL, ho, hi⟩ := H
 refine callS_of (lk_net_Net_Place _ _ ?_)
 unfold sh_net_Net_Place
 have c1 : hcell h ⟨r, 1, none⟩ = some vx := hcell_of hr rfl
 have c2 : hcell h ⟨r, 2, none⟩ = some vy := hcell_of hr rfl
 simp only [pEq_ptr_nil, Option.isNone_some, ifV_false, pNil_ptr, pField_ptr]
 refine pLoad_of rfl c1 (one64_ok HL.1 (by rw [hR.x]; exact hv) ?_)
 simp only [pExt0, pExt1]
 refine pLoad_of rfl c2 (one64_ok HL.2.1 (by rw [hR.y]; exact hv) ?_)
 simp only [pExt0, pExt1]
 exact hK

def dirF : Nat -> Value
 | 0 => .func (.func F_split_directions_1) #[] #[]
 | 1 => .func (.func F_split_directions_2) #[] #[]
 | 2 => .func (.func F_split_directions_3) #[] #[]
 | _ => .func (.func F_split_directions_4) #[] #[]
theorem dirF_one : (dirF d).cells = #[dirF d] := by
 unfold dirF; split <;> rfl
theorem dirF_plain : Mh.plainCell (dirF d) = true := by
 unfold dirF; split <;> rfl

theorem directions_ok (hK : ∀ h', Ext h h' -> K (.agg #[dirF 0, dirF 1, dirF 2, dirF 3]) h') : callS Tryz.prog F_split_directions [] h K := by
 refine callS_of (lk_split_directions ?_)
 unfold sh_split_directions
 refine (Own.start h).box fun t0 h1 o1 => ?_
 refine pBuild_ones (cs' := [dirF 0, dirF 1, dirF 2, dirF 3]) (fun p hp => by
  simp at hp
  rcases hp with rfl | rfl | rfl | rfl <;> rfl) rfl rfl ?_
 refine o1.st (l := [dirF 0, dirF 1, dirF 2, dirF 3]) (cs' := [dirF 0, dirF 1, dirF 2, dirF 3]) 0 rfl rfl rfl rfl rfl ?_ fun h2 o2 => o2.ldN (cs' := [dirF 0, dirF 1, dirF 2, dirF 3]) 0 rfl rfl rfl (hK h2 o2.ext)
 intro u hu
 simp at hu
 rcases hu with rfl | rfl | rfl | rfl <;> exact dirF_plain

theorem dirF_ok {x y : Int} (hd : d < 4) (hx : -2147483648 <= x /\ x <= 2147483647) (hy : -2147483648 <= y /\ y <= 2147483647) (hK : K (I (if d = 0 then x else if d = 1 then y else if d = 2 then x + y else x - y)) h) : callV Tryz.prog (dirF d) [I x, I y].toArray h K := by
 rcases (show d = 0 \/ d = 1 \/ d = 2 \/ d = 3 by omega) with rfl | rfl | rfl | rfl
 ·refine callV_of (l := [I x, I y]) rfl (lk_split_directions_1 _ _ ?_)
  exact hK
 ·refine callV_of (l := [I x, I y]) rfl (lk_split_directions_2 _ _ ?_)
  exact hK
 ·refine callV_of (l := [I x, I y]) rfl (lk_split_directions_3 _ _ ?_)
  unfold sh_split_directions_3
  rw [pBin_add, w64 (by omega) (by omega)]
  exact hK
 ·refine callV_of (l := [I x, I y]) rfl (lk_split_directions_4 _ _ ?_)
  unfold sh_split_directions_4
  rw [pBin_sub, w64 (by omega) (by omega)]
  exact hK

theorem rng_get {l : List Int} {n : Nat} (h : ∀ c ∈ l, -2147483648 <= c /\ c <= 2147483647) : -2147483648 <= l.getD n 0 /\ l.getD n 0 <= 2147483647 := by
 rw [List.getD_eq_getElem?_getD]
 cases e : l[n]? with
 | none => exact ⟨by decide, by decide⟩
 | some c => exact h c (List.mem_of_getElem? e)
theorem valG_rng (hR : g.Right) : -4294967296 <= valG g d v /\ valG g d v <= 4294967296 := by
 have hx := rng_get (n := v) hR.xr
 have hy := rng_get (n := v) hR.yr
 unfold valG
 split
 ·omega
 ·split
  ·omega
  ·split <;> omega

def alV (p2 tl : Nat) : Value := .func (.func F_split_parter_along_1) #[] #[ptr p2, ptr tl]

theorem along_ok {p : Nat} (o : Own h0 h L) (hd : d < 4) (hK : ∀ p2 tl h', Own h0 h' (cellR tl [dirF d] T_func_int64_int64_int64 :: cellR p2 [ptr p] T_p_split_parter :: L) -> Ext h h' -> K (alV p2 tl) h') : callS Tryz.prog F_split_parter_along [ptr p, I d] h K := by
 refine callS_of (lk_split_parter_along _ _ ?_)
 unfold sh_split_parter_along
 refine (Own.start h).box fun p2 h1 o1 => ?_
 have o1 : Own h h1 [cellR p2 [ptr p] T_p_split_parter] := o1
 refine directions_ok fun h2 x2 => ?_
 have o2 := o1.more x2
 refine ⟨by omega, by omega, ?_⟩
 have e : (#[dirF 0, dirF 1, dirF 2, dirF 3] : Array Value)[(d : Int).toNat]? = some (dirF d) := by
  rcases (show d = 0 \/ d = 1 \/ d = 2 \/ d = 3 by omega) with rfl | rfl | rfl | rfl <;> rfl
 rw [e]
 refine o2.box fun tl h3 o3 => o3.st1 0 (cs' := [dirF d]) rfl rfl rfl dirF_one dirF_plain fun h4 o4 => ?_
 exact hK p2 tl h4 (o.frame o4) o4.ext

theorem alongF_ok {p p2 tl : Nat} {pc : List Value} (o : Own h0 h L) (i j k : Nat) (hi : L[i]? = some (cellR tl [dirF d] T_func_int64_int64_int64)) (hj : L[j]? = some (cellR p2 [ptr p] T_p_split_parter)) (hk : L[k]? = some (cellR p (ptr r :: pc) T_split_parter)) (hR : g.Right) (hN : NetR h r g) (hd : d < 4) (hv : v < g.n)
  (hK : K (I (valG g d v)) h) : callV Tryz.prog (alV p2 tl) [I v].toArray h K := by
 refine callV_of (l := [I v, ptr p2, ptr tl]) rfl (lk_split_parter_along_1 _ _ _ ?_)
 unfold sh_split_parter_along_1
 refine o.load j hj rfl ?_
 simp only [pNil_ptr, pField_ptr]
 refine o.load k hk rfl ?_
 refine place_ok hR hN hv ?_
 simp only [pExt0, pExt1, pExt2]
 refine o.load i hi rfl ?_
 exact dirF_ok hd (rng_get hR.xr) (rng_get hR.yr) hK

theorem maxE {a b : Int} : (if b > a then b else a) = max a b := by split <;> omega
theorem minE2 {a b : Int} : (if b < a then b else a) = min a b := by split <;> omega

theorem spread_ok {fv : Value} {f : Nat -> Int} {l : List Nat} (Hl : Vw encN 1 h vl l) (hl : l.length < 2 ^ 40) (hr : ∀ x, -4294967296 <= f x /\ f x <= 4294967296) (hT : ∀ x ∈ l, ∀ K' : KT, K' (I (f x)) h -> callV Tryz.prog fv [I x].toArray h K') (hK : K (I (sprd f l)) h) :
  callS Tryz.prog F_split_spread_int [vl, fv] h K := by
 refine callS_of (lk_split_spread_int _ _ ?_)
 unfold sh_split_spread_int
 refine Hl.len ?_
 rw [pBin_eql, ifV_beq]
 refine ⟨fun e => ?_, fun e => ?_⟩
 ·have : l = [] := List.eq_nil_of_length_eq_zero (by omega)
  subst this
  exact hK
 ·have hpos : 0 < l.length := by omega
  refine Hl.at1 (e := fun (x : Nat) => I x) (fun _ => rfl) (i := 0) hpos ?_
  refine hT _ (List.getElem_mem hpos) _ (Hl.len ?_)
  refine LoopH_count l.length (fun i x h' => x.1 = I (leaF f (l.take i) (f l[0])) /\ x.2.1 = I (mosF f (l.take i) (f l[0])) /\ x.2.2.1 = I i /\ h' = h) ⟨rfl, rfl, rfl, rfl⟩ ?_
  rintro i ⟨x, y, z, ⟨⟩⟩ h' Z hi ⟨hx, hy, hz, rfl⟩ hZ
  dsimp only at hx hy hz hZ ⊢
  subst hx hy hz
  unfold sh_split_spread_int_L1
  rw [pBin_lss, ifV_dec]
  refine ⟨fun hlt => ?_, fun hge => ?_⟩
  ·have hlt : i < l.length := by omega
   have tk : l.take (i + 1) = l.take i ++ [l[i]] := List.take_succ_eq_append_getElem hlt
   refine Hl.at1 (e := fun (x : Nat) => I x) (fun _ => rfl) hlt ?_
   refine hT _ (List.getElem_mem hlt) _ ?_
   rw [pMin_int, minE2]
   refine hT _ (List.getElem_mem hlt) _ ?_
   rw [pMax_int, maxE, pBin_add, wI i (by omega)]
   exact hZ (_, _, _, ()) _ hlt ⟨by rw [tk, leaF_snoc], by rw [tk, mosF_snoc], rfl, rfl⟩
  ·have : i = l.length := by omega
   subst this
   rw [List.take_length]
   have e1 := (@leaF_le f l (f l[0])).1
   have e2 := (@mosF_ge f l (f l[0])).1
   have e3 := @leaF_ge f (-4294967296) l (f l[0]) (hr _).1 fun x _ => (hr x).1
   have e4 := @mosF_le f 4294967296 l (f l[0]) (hr _).2 fun x _ => (hr x).2
   rw [pBin_sub, w64 (by omega) (by omega)]
   have : sprd f l = mosF f l (f l[0]) - leaF f l (f l[0]) := by
    match l, hpos with
    | a :: l, _ => rfl
   rw [this] at hK
   exact hK

theorem pway_ok {p : Nat} {pc : List Value} {l : List Nat} (o : Own h0 h L) (k : Nat) (hk : L[k]? = some (cellR p (ptr r :: pc) T_split_parter)) (hR : g.Right) (hN : ∀ h', Ext h h' -> NetR h' r g) (Hl : Vw encN 1 h vl l) (hl : l.length < 2 ^ 40) (hln : ∀ x ∈ l, x < g.n)
  (hK : ∀ h', Own h0 h' L -> Ext h h' -> K (.tuple #[I (wayG g l).1, I (wayG g l).2]) h') : callS Tryz.prog F_split_parter_way [ptr p, vl] h K := by
 refine callS_of (lk_split_parter_way _ _ ?_)
 unfold sh_split_parter_way
 refine directions_ok fun h1 x1 => ?_
 refine LoopH_count 4 (fun i x h' => x.1 = I (wayB (fun d => sprd (valG g d) l) i).1 /\ x.2.1 = I (wayB (fun d => sprd (valG g d) l) i).2 /\ x.2.2.1 = I i /\ Own h0 h' L /\ Ext h h') ⟨rfl, rfl, rfl, o.more x1, x1⟩ ?_
 clear o
 rintro i ⟨x, y, z, ⟨⟩⟩ h2 Z hi ⟨hx, hy, hz, o, x2⟩ hZ
 dsimp only at hx hy hz hZ ⊢
 subst hx hy hz
 unfold sh_split_parter_way_L1
 rw [pBin_lss, ifV_dec]
 refine ⟨fun hlt => ?_, fun hge => ?_⟩
 ·have hlt : i < 4 := by omega
  refine along_ok o hlt fun p2 tl h3 o3 x3' => ?_
  have x3 : Ext h h3 := x2.trans x3' fun _ h _ => h
  refine spread_ok (f := valG g i) (Hl.more x3) hl (fun x => valG_rng hR) (fun x hx K' hk' => alongF_ok o3 0 1 (k + 2) rfl rfl hk hR (hN _ x3) hlt (hln x hx) hk') ?_
  have st : wayB (fun d => sprd (valG g d) l) (i + 1) = if (wayB (fun d => sprd (valG g d) l) i).2 < sprd (valG g i) l then (i, sprd (valG g i) l) else wayB (fun d => sprd (valG g d) l) i := rfl
  unfold sh_split_parter_way_k2
  rw [pBin_gtr, ifV_dec]
  refine ⟨fun c => ?_, fun c => ?_⟩
  ·rw [pBin_add, wI i (by omega)]
   exact hZ (_, _, _, ()) _ hlt ⟨by rw [st, if_pos c], by rw [st, if_pos c], rfl, o3.tail.tail, x3⟩
  ·rw [pBin_add, wI i (by omega)]
   exact hZ (_, _, _, ()) _ hlt ⟨by rw [st, if_neg c], by rw [st, if_neg c], rfl, o3.tail.tail, x3⟩
 ·have : i = 4 := by omega
  subst this
  exact hK h2 o x2

end
open Go Go.Mh

section
variable {h0 h : Heap} {L : List Res} {K : KT} {vo : Value} {O : List Nat}

def fwdN (O : List Nat) (i : Nat) (x : List Value) (i' : Nat) : Prop := i < O.length /\ i' = i + 1 /\ x = [I (O.getD i 0 : Nat)]

theorem valsN_iter {b : Nat} {T : TypeId} (hl : O.length < 2 ^ 40) : IterG Tryz.prog (.func (.func F_slices_Values_sl_int_int_1) #[] #[ptr b]) (fun h => h[b]? = some (.cells #[vo] T (0, 0)) /\ Vw encN 1 h vo O) (σ := Nat) 0 (fwdN O) (fun i => i = O.length) := by
 rintro yv h0 h Rs K J E ⟨l, rfl⟩ o j0 hQ hY hK
 refine callF_of (l := [yieldV l, ptr b]) rfl (lk_slices_Values_sl_int_int_1 _ _ ?_)
 unfold sh_slices_Values_sl_int_int_1
 obtain ⟨hb, hv⟩ := hQ _ _ _ j0 o
 have hc : hcell h ⟨b, 0, none⟩ = some vo := hcell_of hb rfl
 refine pLoad_of rfl hc (hv.len ?_)
 refine LoopH_count O.length (fun i x h' => x.1 = I i /\ ∃ Rs', J i Rs' /\ Own h0 h' Rs') ⟨rfl, Rs, j0, o⟩ ?_
 clear o j0 hc hb
 have hv0 := hv
 rintro i ⟨x, ⟨⟩⟩ h Z hi ⟨hx, Rs', hj, o⟩ hZ
 dsimp only at hx hZ ⊢
 subst hx
 unfold sh_slices_Values_sl_int_int_1_L1
 rw [pBin_lss, ifV_dec]
 refine ⟨fun hlt => ?_, fun hge => ?_⟩
 ·have hlt : i < O.length := by omega
  obtain ⟨_, hv⟩ := hQ _ _ _ hj o
  refine hv.at1 (e := fun (x : Nat) => I x) (fun _ => rfl) hlt ?_
  have e : O[i] = O.getD i 0 := by rw [List.getD_eq_getElem?_getD, List.getElem?_eq_getElem hlt]; rfl
  rw [e]
  refine hY i _ (i + 1) Rs' [] h _ ⟨hlt, rfl, rfl⟩ hj o.nilTail (fun Rs'' h'' hj' o' => ?_) fun Rs'' h'' he o' => ?_
  ·rw [pUn_not, Bool.not_true, ifV_false, pBin_add, wI i (by omega)]
   exact hZ (_, ()) h'' hlt ⟨rfl, Rs'', hj', o'.toNil⟩
  ·rw [pUn_not, Bool.not_false, ifV_true]
   exact hK _ _ (.inr he) o'.toNil
 ·have : i = O.length := by omega
  exact hK _ _ (.inl ⟨i, this, hj⟩) o

theorem valuesN_ok {vo : Value} {O : List Nat} (o : Own h0 h L) (Ho : Vw encN 1 h vo O) (hK : ∀ s h', Own h0 h' (cellR s [vo] T_sl_int :: L) -> K (.func (.func F_slices_Values_sl_int_int_1) #[] #[ptr s]) h') : callS Tryz.prog F_slices_Values_sl_int_int [vo] h K := by
 refine callS_of (lk_slices_Values_sl_int_int _ ?_)
 unfold sh_slices_Values_sl_int_int
 refine o.box fun s h1 o1 => ?_
 rw [show (Value.cells vo).toList = [vo] by rw [Ho.one]] at o1
 exact hK s h1 o1

end
open Go Go.Mh

theorem insAt_at {v k : Nat} {S : List Nat} (hk : k <= S.length) : (insAt v S k)[k]? = some v := by
 unfold insAt
 rw [List.getElem?_append_right (by rw [List.length_take]; omega), List.length_take, show k - min k S.length = 0 by omega]; rfl
theorem insAt_pre {v k : Nat} {S : List Nat} (hk : k + 1 <= S.length) : (insAt v S (k + 1))[k]? = some (S.getD k 0) := by
 unfold insAt
 rw [List.getElem?_append_left (by rw [List.length_take]; omega), List.getElem?_take_of_lt (by omega), List.getD_eq_getElem?_getD, List.getElem?_eq_getElem (by omega)]; rfl
theorem insAt_swap {v k : Nat} {S R : List Nat} (hk : k + 1 <= S.length) : (((insAt v S (k + 1)) ++ R).set (k + 1) (S.getD k 0)).set k v = insAt v S k ++ R := by
 have e : S.drop k = S.getD k 0 :: S.drop (k + 1) := by
  rw [List.getD_eq_getElem?_getD, List.getElem?_eq_getElem (by omega)]
  exact List.drop_eq_getElem_cons (by omega)
 have e2 : S.take (k + 1) = S.take k ++ [S.getD k 0] := by
  rw [List.getD_eq_getElem?_getD, List.getElem?_eq_getElem (by omega)]
  exact List.take_succ_eq_append_getElem (by omega)
 have hl : (S.take k).length = k := by rw [List.length_take]; omega
 unfold insAt
 rw [e2, e]
 generalize S.getD k 0 = a
 generalize S.take k = T at hl
 generalize S.drop (k + 1) = D
 subst hl
 rw [show T ++ [a] ++ v :: D ++ R = T ++ (a :: v :: (D ++ R)) by simp, show T ++ v :: (a :: D) ++ R = T ++ (v :: a :: (D ++ R)) by simp]
 rw [List.set_append_right _ _ (by omega), show T.length + 1 - T.length = 1 by omega, List.set_append_right _ _ (Nat.le_refl _), Nat.sub_self]
 rfl

section
variable {h0 h : Heap} {L : List Res} {K : KT} {vd cv : Value} {f : Nat -> Int} {xs : List Nat}

theorem insSort_ok {n q : Nat} (o : Own h0 h L) (hq : L[q]? = some (slR encN 1 T_int vd xs)) (hn : ∀ x ∈ xs, x < n) (hl : xs.length < 2 ^ 40)
  (hC : ∀ (ys : List Nat) (h' : Heap) (v w : Nat) (K' : KT), v < n -> w < n -> Own h0 h' (L.set q (slR encN 1 T_int vd ys)) -> (∀ (z : Int) h'', Own h0 h'' (L.set q (slR encN 1 T_int vd ys)) -> (z < 0 ↔ gtV f w v = true) -> K' (I z) h'') -> callV Tryz.prog cv [I v, I w].toArray h' K')
  (hK : ∀ h', Own h0 h' (L.set q (slR encN 1 T_int vd (ordV f xs))) -> K (.tuple #[]) h') : callS Tryz.prog F_slices_insertionSortCmpFunc_int [vd, I (0 : Nat), I xs.length, cv] h K := by
 refine callS_of (lk_slices_insertionSortCmpFunc_int _ _ _ _ ?_)
 unfold sh_slices_insertionSortCmpFunc_int
 rw [pBin_add, wI 0 (by decide)]
 have e0 : ordV f (xs.take 1) ++ xs.drop 1 = xs := by
  cases xs with
  | nil => rfl
  | cons a l => rfl
 refine LoopH_count (xs.length - 1) (fun i x h' => x.1 = I (i + 1 : Nat) /\ Own h0 h' (L.set q (slR encN 1 T_int vd (ordV f (xs.take (i + 1)) ++ xs.drop (i + 1))))) ⟨rfl, by rw [e0, set_same hq]; exact o⟩ ?_
 clear o
 rintro i ⟨x, ⟨⟩⟩ h1 Z hi ⟨hx, o⟩ hZ
 dsimp only at hx hZ ⊢
 subst hx
 unfold sh_slices_insertionSortCmpFunc_int_L1
 rw [pBin_lss, ifV_dec]
 refine ⟨fun hlt => ?_, fun hge => ?_⟩
 case refine_2 =>
  rw [List.take_of_length_le (by omega), List.drop_eq_nil_of_le (by omega), List.append_nil] at o
  exact hK h1 o
 have hlt : i + 1 < xs.length := by omega
 have hSl : (ordV f (xs.take (i + 1))).length = i + 1 := by rw [ordV_len, List.length_take]; omega
 have hdr : xs.drop (i + 1) = xs[i + 1] :: xs.drop (i + 2) := List.drop_eq_getElem_cons hlt
 have htk : xs.take (i + 2) = xs.take (i + 1) ++ [xs[i + 1]] := List.take_succ_eq_append_getElem hlt
 have hvn : xs[i + 1] < n := hn _ (List.getElem_mem hlt)
 have hSn : ∀ x ∈ ordV f (xs.take (i + 1)), x < n := fun x hx => hn x (List.mem_of_mem_take (ordV_perm.mem_iff.1 hx))
 rw [htk, ordV_snoc] at hZ
 rw [hdr] at o
 generalize ordV f (xs.take (i + 1)) = S at o hSl hSn hZ
 generalize xs[i + 1] = v at o hvn hZ
 generalize xs.drop (i + 2) = R at o hZ
 have ep : posB f v S S.length = posB f v S (i + 1) := by rw [hSl]
 refine LoopH_down (fun j x h' => x.1 = I j /\ j <= i + 1 /\ posB f v S j = posB f v S S.length /\ Own h0 h' (L.set q (slR encN 1 T_int vd (insAt v S j ++ R)))) (k0 := i + 1) ⟨rfl, Nat.le_refl _, ep.symm, ?_⟩ ?_
 ·have : insAt v S (i + 1) ++ R = S ++ v :: R := by
   unfold insAt
   rw [List.take_of_length_le (by omega), List.drop_eq_nil_of_le (by omega)]; simp
  rw [this]; exact o
 clear o
 rintro j ⟨x, ⟨⟩⟩ h2 Z1 ⟨hx, hj, hp, o⟩ hZ1
 dsimp only at hx hZ1 ⊢
 subst hx
 unfold sh_slices_insertionSortCmpFunc_int_L2
 have hil : ∀ k, (insAt v S k).length = i + 2 := fun k => by rw [insAt_len, hSl]
 have hsq : ∀ {ys : List Nat}, (L.set q (slR encN 1 T_int vd ys))[q]? = some (slR encN 1 T_int vd ys) := set_get hq
 have out : ∀ h', posB f v S S.length = j -> Own h0 h' (L.set q (slR encN 1 T_int vd (insAt v S j ++ R))) -> pBin .add (I (i + 1 : Nat)) (.int .i64 1) fun t16 => Z (t16, ()) h' := fun h' hpj o' => by
  rw [pBin_add, wI (i + 1) (by omega)]
  refine hZ (_, ()) h' (by omega) ⟨rfl, ?_⟩
  unfold insV
  rw [hpj]; exact o'
 refine cutP_of (fun y h' => y.1 = .bool (decide (0 < j /\ gtV f (S.getD (j - 1) 0) v = true)) /\ Own h0 h' (L.set q (slR encN 1 T_int vd (insAt v S j ++ R)))) (fun J hJ => ?_) ?_
 ·rw [pBin_gtr, ifV_dec]
  refine ⟨fun hpos => ?_, fun hz => hJ _ _ ⟨by rw [decide_eq_false fun h => hz (by omega)], o⟩⟩
  obtain ⟨k, rfl⟩ : ∃ k, j = k + 1 := ⟨j - 1, by omega⟩
  have hkS : k < S.length := by omega
  have l1 : k + 1 < (insAt v S (k + 1) ++ R).length := by rw [List.length_append, hil]; omega
  have l0 : k < (insAt v S (k + 1) ++ R).length := by omega
  have g1 : (insAt v S (k + 1) ++ R)[k + 1] = v := by
   have := insAt_at (v := v) (S := S) (k := k + 1) (by omega)
   rw [List.getElem_append_left (by rw [hil]; omega)]
   rw [List.getElem?_eq_getElem (by rw [hil]; omega)] at this
   exact Option.some.inj this
  have g0 : (insAt v S (k + 1) ++ R)[k] = S.getD k 0 := by
   have := insAt_pre (v := v) (S := S) (k := k) (by omega)
   rw [List.getElem_append_left (by rw [hil]; omega)]
   rw [List.getElem?_eq_getElem (by rw [hil]; omega)] at this
   exact Option.some.inj this
  refine (o.vw q hsq).at1 (e := fun (x : Nat) => I x) (fun _ => rfl) l1 ?_
  rw [g1, pBin_sub, w64 (by omega) (by omega), show ((k + 1 : Nat) : Int) - 1 = (k : Int) by omega]
  refine (o.vw q hsq).at1 (e := fun (x : Nat) => I x) (fun _ => rfl) l0 ?_
  rw [g0]
  have hSk : S.getD k 0 < n := by rw [getD_at hkS]; exact hSn _ (List.getElem_mem hkS)
  refine hC _ _ _ _ _ hvn hSk o fun z h3 o3 hz => ?_
  rw [pBin_lss]
  refine hJ _ _ ⟨?_, o3⟩
  refine congrArg Value.bool ?_
  rw [decide_eq_decide, hz]
  exact ⟨fun h => ⟨by omega, h⟩, fun h => h.2⟩
 ·rintro ⟨y, ⟨⟩⟩ h3 ⟨hy, o3⟩
  dsimp only at hy ⊢
  subst hy
  clear o
  unfold sh_slices_insertionSortCmpFunc_int_C3
  rw [ifV_dec]
  refine ⟨fun hc => ?_, fun hc => ?_⟩
  ·obtain ⟨k, rfl⟩ : ∃ k, j = k + 1 := ⟨j - 1, by omega⟩
   have hgt : gtV f (S.getD k 0) v = true := hc.2
   have hkS : k < S.length := by omega
   have l1 : k + 1 < (insAt v S (k + 1) ++ R).length := by rw [List.length_append, hil]; omega
   have l0 : k < (insAt v S (k + 1) ++ R).length := by omega
   have g1 : (insAt v S (k + 1) ++ R)[k + 1] = v := by
    have := insAt_at (v := v) (S := S) (k := k + 1) (by omega)
    rw [List.getElem_append_left (by rw [hil]; omega)]
    rw [List.getElem?_eq_getElem (by rw [hil]; omega)] at this
    exact Option.some.inj this
   have g0 : (insAt v S (k + 1) ++ R)[k] = S.getD k 0 := by
    have := insAt_pre (v := v) (S := S) (k := k) (by omega)
    rw [List.getElem_append_left (by rw [hil]; omega)]
    rw [List.getElem?_eq_getElem (by rw [hil]; omega)] at this
    exact Option.some.inj this
   rw [pBin_sub, w64 (by omega) (by omega), show ((k + 1 : Nat) : Int) - 1 = (k : Int) by omega]
   rw [pBin_sub, w64 (by omega) (by omega), show ((k + 1 : Nat) : Int) - 1 = (k : Int) by omega]
   refine (o3.vw q hsq).at1 (e := fun (x : Nat) => I x) (fun _ => rfl) l0 ?_
   refine (o3.vw q hsq).at1 (e := fun (x : Nat) => I x) (fun _ => rfl) l1 ?_
   rw [g0, g1]
   refine o3.setAt (a := S.getD k 0) q hsq (fun _ => rfl) (encN_plain _) l1 rfl fun h4 o4 => ?_
   rw [List.set_set] at o4
   refine o4.setAt (a := v) q hsq (fun _ => rfl) (encN_plain _) (by rw [List.length_set]; exact l0) rfl fun h5 o5 => ?_
   rw [List.set_set, insAt_swap (by omega)] at o5
   rw [pBin_sub, w64 (by omega) (by omega), show ((k + 1 : Nat) : Int) - 1 = (k : Int) by omega]
   refine hZ1 (_, ()) h5 k (by omega) ⟨rfl, by omega, ?_, o5⟩
   rw [<- hp]
   conv => rhs; unfold posB
   rw [if_pos hgt]
  ·refine out h3 ?_ o3
   rw [<- hp]
   cases j with
   | zero => rfl
   | succ k =>
    unfold posB
    have hc' : ¬ gtV f (S.getD k 0) v = true := fun h => hc ⟨by omega, h⟩
    rw [if_neg hc']

end
end Go.Proofs.YtmdldoolnhpaeaaGreatDoor

namespace Go.Proofs
open Go.Shelf
def Tryz.laysSort_ren : Go.Shelf.Ren := { f := fun | 6 => 213 | 15 => 233 | 14 => 232 | 28 => 245 | 29 => 246 | 20 => 237 | 21 => 238 | 22 => 239 | 23 => 240 | 24 => 241 | 25 => 242 | 26 => 243 | 27 => 244 | 46 => 247 | 47 => 248 | 48 => 249 | 49 => 250 | 50 => 251 | 57 => 252 | n => n, t := fun | 22 => 52 | 24 => 3 | 25 => 285 | 3 => 3 | 39 => 247 | 0 => 0 | 53 => 51 | 55 => 303 | 4 => 4 | 46 => 327 | 45 => 326 | 50 => 237 | 5 => 5 | 9 => 9 | 66 => 334 | 70 => 338 | 76 => 340 | 77 => 195 | n => n, g := fun n => n }
theorem Tryz.laysSort : SlLaysF.n6 Tryz.prog Tryz.laysSort_ren where
 mixed := by kernel_rfl
 f6 := ⟨ "slices.SortFunc[[]int,int]", of_decide_eq_true (by kernel_rfl), Tryz.func213.trans (congrArg some (by kernel_rfl))⟩
 f14 := ⟨ "slices.pdqsortCmpFunc[int]", of_decide_eq_true (by kernel_rfl), Tryz.func232.trans (congrArg some (by kernel_rfl))⟩
 f15 := Tryz.func233.trans (congrArg some (by kernel_rfl))
 f20 := ⟨ "slices.insertionSortCmpFunc[int]", of_decide_eq_true (by kernel_rfl), Tryz.func237.trans (congrArg some (by kernel_rfl))⟩
 f21 := ⟨ "slices.heapSortCmpFunc[int]", of_decide_eq_true (by kernel_rfl), Tryz.func238.trans (congrArg some (by kernel_rfl))⟩
 f22 := ⟨ "slices.breakPatternsCmpFunc[int]", of_decide_eq_true (by kernel_rfl), Tryz.func239.trans (congrArg some (by kernel_rfl))⟩
 f23 := ⟨ "slices.choosePivotCmpFunc[int]", of_decide_eq_true (by kernel_rfl), Tryz.func240.trans (congrArg some (by kernel_rfl))⟩
 f24 := ⟨ "slices.reverseRangeCmpFunc[int]", of_decide_eq_true (by kernel_rfl), Tryz.func241.trans (congrArg some (by kernel_rfl))⟩
 f25 := ⟨ "slices.partialInsertionSortCmpFunc[int]", of_decide_eq_true (by kernel_rfl), Tryz.func242.trans (congrArg some (by kernel_rfl))⟩
 f26 := ⟨ "slices.partitionEqualCmpFunc[int]", of_decide_eq_true (by kernel_rfl), Tryz.func243.trans (congrArg some (by kernel_rfl))⟩
 f27 := ⟨ "slices.partitionCmpFunc[int]", of_decide_eq_true (by kernel_rfl), Tryz.func244.trans (congrArg some (by kernel_rfl))⟩
 f28 := Tryz.func245.trans (congrArg some (by kernel_rfl))
 f29 := Tryz.func246.trans (congrArg some (by kernel_rfl))
 f46 := ⟨ "slices.siftDownCmpFunc[int]", of_decide_eq_true (by kernel_rfl), Tryz.func247.trans (congrArg some (by kernel_rfl))⟩
 f47 := Tryz.func248.trans (congrArg some (by kernel_rfl))
 f48 := Tryz.func249.trans (congrArg some (by kernel_rfl))
 f49 := ⟨ "slices.medianAdjacentCmpFunc[int]", of_decide_eq_true (by kernel_rfl), Tryz.func250.trans (congrArg some (by kernel_rfl))⟩
 f50 := ⟨ "slices.medianCmpFunc[int]", of_decide_eq_true (by kernel_rfl), Tryz.func251.trans (congrArg some (by kernel_rfl))⟩
 f57 := ⟨ "slices.order2CmpFunc[int]", of_decide_eq_true (by kernel_rfl), Tryz.func252.trans (congrArg some (by kernel_rfl))⟩
 t0 := Tryz.underlying0
 a0 := Tryz.isAgg0
 z0 := Tryz.sizeOf0
 v0 := Tryz.zeroValue0
 t3 := Tryz.underlying3
 a3 := Tryz.isAgg3
 z3 := Tryz.sizeOf3
 v3 := Tryz.zeroValue3
 t4 := Tryz.underlying4
 a4 := Tryz.isAgg4
 z4 := Tryz.sizeOf4
 v4 := Tryz.zeroValue4
 t5 := Tryz.underlying5
 a5 := Tryz.isAgg5
 z5 := Tryz.sizeOf5
 v5 := Tryz.zeroValue5
 t9 := Tryz.underlying9
 a9 := Tryz.isAgg9
 z9 := Tryz.sizeOf9
 v9 := Tryz.zeroValue9
 t22 := Tryz.underlying52
 a22 := Tryz.isAgg52
 z22 := Tryz.sizeOf52
 v22 := Tryz.zeroValue52
 a24 := Tryz.isAgg3
 z24 := Tryz.sizeOf3
 t25 := Tryz.underlying285
 a25 := Tryz.isAgg285
 z25 := Tryz.sizeOf285
 v25 := Tryz.zeroValue285
 t39 := Tryz.underlying247
 a39 := Tryz.isAgg247
 z39 := Tryz.sizeOf247
 v39 := Tryz.zeroValue247
 t45 := Tryz.underlying326
 a45 := Tryz.isAgg326
 z45 := Tryz.sizeOf326
 v45 := Tryz.zeroValue326
 t46 := Tryz.underlying327
 a46 := Tryz.isAgg327
 z46 := Tryz.sizeOf327
 v46 := Tryz.zeroValue327
 t50 := Tryz.underlying237
 a50 := Tryz.isAgg237
 z50 := Tryz.sizeOf237
 v50 := Tryz.zeroValue237
 t53 := Tryz.underlying51
 a53 := Tryz.isAgg51
 z53 := Tryz.sizeOf51
 v53 := Tryz.zeroValue51
 t55 := Tryz.underlying303
 a55 := Tryz.isAgg303
 z55 := Tryz.sizeOf303
 v55 := Tryz.zeroValue303
 t66 := Tryz.underlying334
 a66 := Tryz.isAgg334
 z66 := Tryz.sizeOf334
 v66 := Tryz.zeroValue334
 t70 := Tryz.underlying338
 a70 := Tryz.isAgg338
 z70 := Tryz.sizeOf338
 v70 := Tryz.zeroValue338
 t76 := Tryz.underlying340
 a76 := Tryz.isAgg340
 z76 := Tryz.sizeOf340
 v76 := Tryz.zeroValue340
 t77 := Tryz.underlying195
 a77 := Tryz.isAgg195
 z77 := Tryz.sizeOf195
 v77 := Tryz.zeroValue195

end Go.Proofs
namespace Go.Proofs.YtmdldoolnhpaeaaGreatDoor
open Go Go.Mh

theorem srt_unique {le : Nat -> Nat -> Prop} (anti : ∀ a b, le a b -> le b a -> a = b) : ∀ {l1 l2 : List Nat}, l1.Perm l2 -> l1.Pairwise le -> l2.Pairwise le -> l1 = l2
 | [], l2, h, _, _ => (List.Perm.nil_eq h)
 | a :: r, [], h, _, _ => absurd h.length_eq (by simp)
 | a :: r, b :: s, h, p1, p2 => by
  have hab : a = b := by
   have h1 : a ∈ b :: s := h.mem_iff.1 (List.mem_cons_self ..)
   have h2 : b ∈ a :: r := h.mem_iff.2 (List.mem_cons_self ..)
   rcases List.mem_cons.1 h1 with e | h1
   ·exact e
   ·rcases List.mem_cons.1 h2 with e | h2
    ·exact e.symm
    ·exact anti _ _ ((List.pairwise_cons.1 p1).1 _ h2) ((List.pairwise_cons.1 p2).1 _ h1)
  subst hab
  rw [srt_unique anti (List.Perm.cons_inv h) (List.pairwise_cons.1 p1).2 (List.pairwise_cons.1 p2).2]

theorem modify_upd {h : Heap} {b : Nat} {c c' : Array Value} {T : TypeId} {fr : Nat × Nat} {f : Array Value -> Array Value} (hb : h[b]? = some (.cells c T fr)) (hf : f c = c') :
  h.modify b (Go.Sort.onCells f) = upd h b (.cells c' T fr) := by
 apply Array.ext_getElem?
 intro k
 have hlt := get_lt hb
 rw [Array.getElem?_modify]
 unfold upd
 by_cases hk : b = k
 ·subst hk
  rw [if_pos rfl, hb, Array.getElem?_setIfInBounds_self_of_lt hlt]
  show some (Obj.cells (f c) T fr) = _
  rw [hf]
 ·rw [if_neg hk, Array.getElem?_setIfInBounds_ne hk]

section
variable {h0 h : Heap} {L : List Res} {K : KT} {vd : Value} {f : Nat -> Int} {xs : List Nat}

def encF (n : Nat) (v : { v : Nat // v < n }) : Value := I v.1

theorem row_encN {l : List Nat} : Mh.row encN l = l.map fun (v : Nat) => I v := by
 unfold Mh.row encN
 induction l with
 | nil => rfl
 | cons a l ih => rw [List.flatMap_cons, ih]; rfl

theorem put_row {n : Nat} [Inhabited { v : Nat // v < n }] {dk : Array { v : Nat // v < n }} {xs : List Nat} {rest : List Value} (hs : dk.size = xs.length) :
  Go.Sort.putCells (encF n) 0 dk (Mh.row encN xs ++ rest).toArray = (Mh.row encN (dk.toList.map Subtype.val) ++ rest).toArray := by
 apply Array.ext_getElem?
 intro k
 rw [row_encN, row_encN]
 simp only [Go.Sort.putCells, Array.getElem?_mapIdx, List.getElem?_toArray, Nat.zero_le, true_and, Nat.zero_add, Nat.sub_zero]
 have hA : (xs.map fun (v : Nat) => I v).length = xs.length := List.length_map ..
 have hB : ((dk.toList.map Subtype.val).map fun (v : Nat) => I v).length = xs.length := by rw [List.length_map, List.length_map]; exact hs
 by_cases hk : k < dk.size
 ·rw [List.getElem?_append_left (by omega), List.getElem?_append_left (by omega)]
  rw [List.getElem?_map, List.getElem?_eq_getElem (show k < xs.length by omega)]
  simp only [Option.map_some, if_pos hk]
  rw [List.getElem?_map, List.getElem?_map, Array.getElem?_toList, Array.getElem?_eq_getElem hk]
  simp only [Option.map_some, encF]
  rw [getElem!_pos dk k hk]
 ·rw [List.getElem?_append_right (by omega), List.getElem?_append_right (by omega), hA, hB]
  cases hr : rest[k - xs.length]? with
  | none => rfl
  | some v => simp only [Option.map_some, if_neg hk]

theorem own_sorted {n q : Nat} [Inhabited { v : Nat // v < n }] (o : Own h0 h L) (hq : L[q]? = some (slR encN 1 T_int vd xs)) {bl cap : Nat} {rest : List Value} (hv : vd = .slice (some ⟨bl, 0, none⟩) xs.length cap) (hb : h[bl]? = some (.cells (Mh.row encN xs ++ rest).toArray T_int (0, 0)))
  (hr : rest.length = (cap - xs.length) * 1) (hc : xs.length <= cap) (w : World) (hw : w.heap = h) (m : Nat) (dk : Array { v : Nat // v < n }) (os : Array Obj) (hs : dk.size = xs.length) :
  Own h0 (Go.Proofs.sortWorld (encF n) w bl 0 m dk os).heap (L.set q (slR encN 1 T_int vd (dk.toList.map Subtype.val))) := by
 subst hw
 have e : (Go.Proofs.sortWorld (encF n) w bl 0 m dk os).heap = upd w.heap bl (.cells (Mh.row encN (dk.toList.map Subtype.val) ++ rest).toArray T_int (0, 0)) ++ os := by
  show w.heap.modify bl (Go.Sort.onCells (Go.Sort.putCells (encF n) 0 dk)) ++ os = _
  rw [modify_upd hb (put_row hs)]
 rw [e]
 have hlt := get_lt hb
 have hlen : (dk.toList.map Subtype.val).length = xs.length := by rw [List.length_map]; exact hs
 have o2 : Own h0 (upd w.heap bl (.cells (Mh.row encN (dk.toList.map Subtype.val) ++ rest).toArray T_int (0, 0))) (L.set q (slR encN 1 T_int vd (dk.toList.map Subtype.val))) := by
  subst hv
  refine o.set q hq (r' := slR encN 1 T_int _ (dk.toList.map Subtype.val)) (Upd.upd (S := (slR encN 1 T_int _ xs).F) _ _ rfl) ⟨bl, .inr ⟨cap, rest, ?_, upd_self hlt, ?_, ?_⟩⟩ fun d hd => ⟨.inl hd, ?_⟩
  ·rw [hlen]
  ·rw [hlen]; exact hr
  ·rw [hlen]; exact hc
  ·rw [upd_size]; exact (show d = bl from hd) ▸ hlt
 refine o2.more ⟨by simp, fun b hb' _ => ?_⟩
 rw [Array.getElem?_append_left hb']

theorem grown_of {P : Program} {g : FuncId} {args : Array Value} {W : World} {z : Int} (hc : CallsH P g args W.heap fun v h'' => v = I z /\ Ext W.heap h'') :
  Calls P g args W fun e w' => e = .returned (.int .i64 z) /\ ∃ q os', w' = Go.Sort.grow (W.drewN q) os' := by
 refine callsIn_wide.1 ((hc.2 _ rfl).mono ?_)
 rintro e w' ⟨v, rfl, hsm, rfl, hx⟩
 refine ⟨rfl, w'.drawn - W.drawn, w'.heap.extract W.heap.size w'.heap.size, ?_⟩
 have hdr := hsm.drawn
 have h1 := hsm.os
 have h2 := hsm.output
 have h3 := hsm.tape
 have hsz := hx.size
 have eh : w'.heap = W.heap ++ w'.heap.extract W.heap.size w'.heap.size := by
  apply Array.ext_getElem?
  intro k
  by_cases hk : k < W.heap.size
  ·rw [Array.getElem?_append_left hk]
   exact hx.same k hk (fun h => h)
  ·rw [Array.getElem?_append_right (by omega), Array.getElem?_extract]
   by_cases hk2 : k < w'.heap.size
   ·rw [if_pos (by omega)]; congr 1; omega
   ·rw [if_neg (by omega)]; exact Array.getElem?_eq_none (by omega)
 have e2 : w' = { W with heap := w'.heap, drawn := w'.drawn } := by
  cases w'; cases W
  simp only at h1 h2 h3
  subst h1 h2 h3
  rfl
 rw [e2]
 show _ = ({ W with drawn := W.drawn + _, heap := W.heap ++ _ } : World)
 rw [<- eh]
 congr 1
 show w'.drawn = W.drawn + (w'.drawn - W.drawn)
 omega

theorem sortBig_ok {n q gf : Nat} {cb : Array Value} {cf : Nat -> Nat -> Int} (o : Own h0 h L) (hq : L[q]? = some (slR encN 1 T_int vd xs)) (hn : ∀ x ∈ xs, x < n) (hne : xs ≠ []) (hl : xs.length < 2 ^ 40)
  (hcf : ∀ v w, v < n -> w < n -> (cf v w < 0 ↔ gtV f w v = true))
  (hC : ∀ (ys : List Nat) (h' : Heap) (v w : Nat) (K' : KT), v < n -> w < n -> Own h0 h' (L.set q (slR encN 1 T_int vd ys)) -> (∀ h'', Ext h' h'' -> K' (I (cf v w)) h'') -> callV Tryz.prog (.func (.func gf) #[] cb) [I v, I w].toArray h' K')
  (hK : ∀ h', Own h0 h' (L.set q (slR encN 1 T_int vd (ordV f xs))) -> K (.tuple #[]) h') : callS Tryz.prog F_slices_SortFunc_sl_int_int [vd, .func (.func gf) #[] cb] h K := by
 obtain ⟨x0, hx0⟩ : ∃ x, x ∈ xs := List.exists_mem_of_ne_nil xs hne
 have inst : Inhabited { v : Nat // v < n } := ⟨⟨x0, hn x0 hx0⟩⟩
 refine callS_of ⟨by kernel_rfl, fun w hw => ?_⟩
 obtain ⟨bl, H⟩ := o.get q hq
 rcases H with ⟨_, e⟩ | ⟨cap, rest, hv, hb, hr, hc⟩
 ·exact absurd e hne
 have hcf' : ∀ v w : { v : Nat // v < n }, cf v.1 w.1 < 0 ↔ gtV f w.1 v.1 = true := fun v w => hcf _ _ v.2 w.2
 generalize hd : (xs.pmap (fun x h => (⟨x, h⟩ : { v : Nat // v < n })) hn).toArray = d
 have hds : d.size = xs.length := by rw [<- hd]; simp
 have hdv : d.toList.map Subtype.val = xs := by rw [<- hd]; simp [List.map_pmap]
 have hcal : ∀ (ys : List Nat) (h' : Heap) (v w : Nat), v < n -> w < n -> Own h0 h' (L.set q (slR encN 1 T_int vd ys)) -> CallsH Tryz.prog gf (#[I v, I w] ++ cb) h' fun z h'' => z = I (cf v w) /\ Ext h' h'' := by
  intro ys h' v w hv hw o'
  have := hC ys h' v w (fun z h'' => z = I (cf v w) /\ Ext h' h'') hv hw o' fun h'' x => ⟨rfl, x⟩
  have e : (#[] ++ [I (v : Int), I (w : Int)].toArray ++ cb : Array Value) = #[I v, I w] ++ cb := by simp
  have this : CallsH Tryz.prog gf (#[] ++ [I (v : Int), I (w : Int)].toArray ++ cb) h' fun z h'' => z = I (cf v w) /\ Ext h' h'' := this
  rwa [e] at this
 have start : Own h0 h (L.set q (slR encN 1 T_int vd xs)) := by
  have : L.set q (slR encN 1 T_int vd xs) = L := by
   apply List.ext_getElem?
   intro i
   by_cases e : q = i
   ·subst e
    rw [List.getElem?_set_self (List.getElem?_eq_some_iff.1 hq).1, hq]
   ·rw [List.getElem?_set_ne e]
  rw [this]; exact o
 have hcl : Callable Tryz.prog gf = true := (hcal xs h x0 x0 (hn x0 hx0) (hn x0 hx0) start).1
 have hit := Any.slices_SortFunc (P := Tryz.prog) Tryz.laysSort (encF n) (fun _ => rfl) (fun v w => cf v.1 w.1) ⟨fun x => ?_, fun x y z h1 h2 => ?_, fun x y z h1 h2 => ?_⟩ gf cb bl 0 cap d w (fun args w => run_callFunc hcl args w) (fun m os dk hs x y => ?_) (fun j hj => ?_) (by rw [hw]; exact get_lt hb) (by omega)
 ·have e1 : [vd, Value.func (.func gf) #[] cb].toArray = #[.slice (some ⟨bl, 0, none⟩) d.size cap, .func (.func gf) #[] cb] := by rw [hv, hds]
  rw [e1]
  have hit' : CallsIn Fence.wide 0 Tryz.prog F_slices_SortFunc_sl_int_int #[.slice (some ⟨bl, 0, none⟩) d.size cap, .func (.func gf) #[] cb] w fun e w' => e = .returned (.tuple #[]) /\ ∃ d' m os, Go.Sort.PermIn 0 d.size d d' /\ Go.Sort.SortedIn (ltOf fun (v w : { v : Nat // v < n }) => cf v.1 w.1) 0 d.size d' /\ w' = sortWorld (encF n) w bl 0 m d' os := callsIn_wide.2 hit
  refine hit'.mono fun e w' ⟨he, d', m, os, hp, hs, hw'⟩ => ?_
  ·subst hw'
   refine ⟨_, he, ⟨rfl, rfl, rfl, Nat.le_add_right _ _⟩, hK _ ?_⟩
   have hs' : d'.size = xs.length := hp.1.trans hds
   have := own_sorted o hq hv hb hr hc w hw m d' os hs'
   have e2 : d'.toList.map Subtype.val = ordV f xs := by
    refine srt_unique (le := fun a b => gtV f a b = false) (fun a b h1 h2 => ?_) (List.Perm.trans (?_ : (d'.toList.map Subtype.val).Perm xs) ordV_perm.symm) ?_ ordV_sorted
    ·unfold gtV at h1 h2
     rw [decide_eq_false_iff_not] at h1 h2
     omega
    ·have := hp.2.2
     have x1 : (d'.extract 0 d.size).toList = d'.toList := by rw [<- hp.1]; simp
     have x2 : (d.extract 0 d.size).toList = d.toList := by simp
     rw [x1, x2] at this
     have := this.map Subtype.val
     rwa [hdv] at this
    ·rw [List.pairwise_iff_getElem]
     intro i j hi hj hij
     have hi' : i < d'.size := by simpa using hi
     have hj' : j < d'.size := by simpa using hj
     have h3 := hs i j (Nat.zero_le _) hij (by omega)
     unfold ltOf at h3
     rw [decide_eq_false_iff_not, hcf', getElem!_pos d' i hi', getElem!_pos d' j hj'] at h3
     simpa using h3
   rw [e2] at this
   exact this
 ·unfold ltOf
  rw [decide_eq_false_iff_not, hcf']
  unfold gtV; simp
 ·unfold ltOf at h1 h2 ⊢
  rw [decide_eq_true_eq, hcf'] at h1 h2 ⊢
  unfold gtV at h1 h2 ⊢
  rw [decide_eq_true_eq] at h1 h2 ⊢
  omega
 ·unfold ltOf at h1 h2 ⊢
  rw [decide_eq_false_iff_not, hcf'] at h1 h2 ⊢
  unfold gtV at h1 h2 ⊢
  rw [decide_eq_true_eq] at h1 h2 ⊢
  omega
 ·have o2 := own_sorted o hq hv hb hr hc w hw m dk os (hs.trans hds)
  have := hcal _ _ x.1 y.1 x.2 y.2 o2
  clear o2
  show Calls Tryz.prog gf (#[I (x.1 : Int), I (y.1 : Int)] ++ cb) _ _
  generalize sortWorld (encF n) w bl 0 m dk os = W at this ⊢
  exact grown_of this
 ·have hj' : j < xs.length := by omega
  have hrow : (Mh.row encN xs ++ rest)[j]? = some (I ((xs[j] : Nat) : Int)) := by
   rw [row_encN, List.getElem?_append_left (by simpa using hj'), List.getElem?_map, List.getElem?_eq_getElem hj']; rfl
  have hdj : (d[j]!).1 = xs[j] := by
   rw [getElem!_pos d j hj]
   have : (d.toList.map Subtype.val)[j]? = some xs[j] := by rw [hdv, List.getElem?_eq_getElem hj']
   simpa [hj] using this
  refine ⟨?_, ?_⟩
  ·show hcell w.heap ⟨bl, 0 + j, none⟩ = some (encF n d[j]!)
   unfold hcell
   rw [hw]
   simp only [hb, Nat.zero_add, List.getElem?_toArray, hrow]
   unfold encF
   rw [hdj]; rfl
  ·show hfrozen w.heap ⟨bl, 0 + j, none⟩ = false
   unfold hfrozen
   rw [hw]
   simp only [hb]
   simp

end
open Go Go.Mh

section
variable {h0 h : Heap} {L : List Res} {K : KT} {g : G} {vd cv : Value} {f : Nat -> Int} {xs : List Nat}

theorem pIdxS_any {s : ByteArray} {i : Nat} {k : IntKind} {K : Value -> Prop} (hi : i < s.size) (hK : ∀ b : Int, K (.int .u8 b)) : pIdxS (.string s) (.int k i) K := by
 refine ⟨by omega, ?_⟩
 rw [Int.toNat_natCast, getElem?_pos s i hi]
 exact hK _

set_option maxRecDepth 100000 in
theorem lenAny_ok {n : Nat} (hn : n < 256) (hK : ∀ z : Int, K (I z) h) : callS Tryz.prog F_math_bits_Len [.int .u64 n] h K := by
 refine callS_of (lk_math_bits_Len _ ?_)
 unfold sh_math_bits_Len
 refine callS_of (lk_math_bits_Len64 _ ?_)
 unfold sh_math_bits_Len64 sh_math_bits_Len64_k1 sh_math_bits_Len64_k2 sh_math_bits_Len64_k3
 rw [pBin_geq, decide_eq_false (by omega), ifV_false, pBin_geq, decide_eq_false (by omega), ifV_false, pBin_geq, decide_eq_false (by omega), ifV_false]
 rw [pConv_int, show IntKind.u8.wrap (n : Int) = (n : Int) from wrap_in (show (0 : Int) <= n by omega) (show (n : Int) <= 255 by omega)]
 refine pIdxS_any ?_ fun b => ?_
 ·refine Nat.lt_of_lt_of_eq hn (Eq.symm ?_)
  kernel_rfl
 ·rw [pConv_int, pBin_add]
  exact hK _

theorem pdq_ok {n q : Nat} {lim : Value} (o : Own h0 h L) (hq : L[q]? = some (slR encN 1 T_int vd xs)) (hn : ∀ x ∈ xs, x < n) (hl : xs.length <= 12)
  (hC : ∀ (ys : List Nat) (h' : Heap) (v w : Nat) (K' : KT), v < n -> w < n -> Own h0 h' (L.set q (slR encN 1 T_int vd ys)) -> (∀ (z : Int) h'', Own h0 h'' (L.set q (slR encN 1 T_int vd ys)) -> (z < 0 ↔ gtV f w v = true) -> K' (I z) h'') -> callV Tryz.prog cv [I v, I w].toArray h' K')
  (hK : ∀ h', Own h0 h' (L.set q (slR encN 1 T_int vd (ordV f xs))) -> K (.tuple #[]) h') : callS Tryz.prog F_slices_pdqsortCmpFunc_int [vd, I (0 : Nat), I xs.length, lim, cv] h K := by
 refine callS_of (lk_slices_pdqsortCmpFunc_int _ _ _ _ _ ?_)
 unfold sh_slices_pdqsortCmpFunc_int
 refine LoopH_count 0 (fun _ x h' => x.1 = I (0 : Nat) /\ x.2.1 = I xs.length /\ h' = h) ⟨rfl, rfl, rfl⟩ ?_
 rintro i ⟨x, y, z, b1, b2, ⟨⟩⟩ h' Z hi ⟨hx, hy, rfl⟩ hZ
 dsimp only at hx hy ⊢
 subst hx hy
 unfold sh_slices_pdqsortCmpFunc_int_L1
 rw [pBin_sub, w64 (by omega) (by omega), pBin_leq, decide_eq_true (by omega), ifV_true]
 exact insSort_ok o hq hn (by omega) hC hK

theorem sortFunc_ok {n q : Nat} (o : Own h0 h L) (hq : L[q]? = some (slR encN 1 T_int vd xs)) (hn : ∀ x ∈ xs, x < n) (hl : xs.length <= 12)
  (hC : ∀ (ys : List Nat) (h' : Heap) (v w : Nat) (K' : KT), v < n -> w < n -> Own h0 h' (L.set q (slR encN 1 T_int vd ys)) -> (∀ (z : Int) h'', Own h0 h'' (L.set q (slR encN 1 T_int vd ys)) -> (z < 0 ↔ gtV f w v = true) -> K' (I z) h'') -> callV Tryz.prog cv [I v, I w].toArray h' K')
  (hK : ∀ h', Own h0 h' (L.set q (slR encN 1 T_int vd (ordV f xs))) -> K (.tuple #[]) h') : callS Tryz.prog F_slices_SortFunc_sl_int_int [vd, cv] h K := by
 refine callS_of (lk_slices_SortFunc_sl_int_int _ _ ?_)
 unfold sh_slices_SortFunc_sl_int_int
 refine (o.vw q hq).len ?_
 rw [pConv_int, u64w (by omega) (by omega)]
 refine lenAny_ok (by omega) fun z => ?_
 exact pdq_ok o hq hn hl hC hK

theorem sortFuncG_ok {n q gf : Nat} {cb : Array Value} {cf : Nat -> Nat -> Int} (o : Own h0 h L) (hq : L[q]? = some (slR encN 1 T_int vd xs)) (hn : ∀ x ∈ xs, x < n) (hl : xs.length < 2 ^ 40)
  (hcf : ∀ v w, v < n -> w < n -> (cf v w < 0 ↔ gtV f w v = true))
  (hC : ∀ (ys : List Nat) (h' : Heap) (v w : Nat) (K' : KT), v < n -> w < n -> Own h0 h' (L.set q (slR encN 1 T_int vd ys)) -> (∀ h'', Ext h' h'' -> K' (I (cf v w)) h'') -> callV Tryz.prog (.func (.func gf) #[] cb) [I v, I w].toArray h' K')
  (hK : ∀ h', Own h0 h' (L.set q (slR encN 1 T_int vd (ordV f xs))) -> K (.tuple #[]) h') : callS Tryz.prog F_slices_SortFunc_sl_int_int [vd, .func (.func gf) #[] cb] h K := by
 by_cases h12 : xs.length <= 12
 ·exact sortFunc_ok o hq hn h12 (fun ys h' v w K' hv hw o' hk => hC ys h' v w K' hv hw o' fun h'' x => hk _ h'' (o'.more x) (hcf v w hv hw)) hK
 ·exact sortBig_ok o hq hn (fun e => by rw [e] at h12; exact h12 (Nat.zero_le _)) hl hcf hC hK

theorem collect_ok {s : Nat} {vo : Value} {l : List Nat} (o : Own h0 h L) (i : Nat) (hi : L[i]? = some (cellR s [vo] T_sl_int)) (hv : ∀ h', Own h0 h' L -> Vw encN 1 h' vo l) (hl : l.length < 2 ^ 40)
  (hK : ∀ w h', Own h0 h' (slR encN 1 T_int w l :: L) -> K w h') : callS Tryz.prog F_slices_Collect_int [.func (.func F_slices_Values_sl_int_int_1) #[] #[ptr s]] h K := by
 refine callS_of (lk_slices_Collect_int _ ?_)
 unfold sh_slices_Collect_int
 refine callS_of (lk_slices_AppendSeq_sl_int_int _ _ ?_)
 unfold sh_slices_AppendSeq_sl_int_int
 refine o.box fun s2 h1 o1 => ?_
 have o2 : Own h0 h1 (slR encN 1 T_int (.slice none 0 0) (l.take 0) :: cellR s2 [.slice none 0 0] T_sl_int :: L) := Own.nilS (enc := encN) (n := 1) (T := T_int) o1
 refine o2.range (valsN_iter (O := l) (vo := vo) (b := s) (T := T_sl_int) hl) (by rintro i x i' ⟨_, _, rfl⟩; rfl)
  (fun j Rs => j <= l.length /\ ∃ w, Rs = slR encN 1 T_int w (l.take j) :: cellR s2 [w] T_sl_int :: L) (fun _ => False) (fun _ _ => False) ⟨Nat.zero_le _, _, rfl⟩ ?_ ?_ ?_ (fun _ _ h => h.elim) (fun _ _ _ h => h.elim)
 ·rintro j Rs h' ⟨_, w, rfl⟩ o'
  exact ⟨o'.get (i + 2) hi, hv _ o'.tail.tail⟩
 ·rintro M j x j' Rs Pr h' R ⟨h1', rfl, rfl⟩ ⟨_, w, rfl⟩ o' hN _ _
  dsimp only [valsOf]
  unfold sh_slices_AppendSeq_sl_int_int_B1
  refine o'.begin 0 rfl fun h4 o4 => ?_
  have o4 : Own h0 h4 (loopR _ _ :: markR _ :: slR encN 1 T_int w (l.take j) :: cellR s2 [w] T_sl_int :: (L ++ Pr)) := o4
  refine o4.load 3 rfl rfl ?_
  refine o4.app1 2 (l.getD j 0) rfl rfl (sizesOk_of rfl) (fun _ => rfl) encN_plain rfl (by decide) (by rw [List.length_take]; omega) fun w' h5 o5 => ?_
  have hw' := o5.vw 2 rfl
  refine o5.st1 3 (cs' := [w']) rfl rfl rfl hw'.one hw'.plain fun h6 o6 => ?_
  refine hN _ h6 ⟨h1', w', rfl⟩ ?_
  rw [List.take_succ_eq_append_getElem h1', <- getD_at (a := 0) h1']
  exact o6
 ·rintro j h' Rs rfl ⟨_, w, rfl⟩ o'
  rw [List.take_length] at o'
  refine o'.load 2 rfl rfl (o'.take1 0 rfl fun h10 o10 => hK w h10 ?_)
  exact o10.tail.front 2 [0] (by decide) (by decide)

theorem sortedFunc_ok {n s gf : Nat} {cb : Array Value} {cf : Nat -> Nat -> Int} {vo : Value} {l : List Nat} (o : Own h0 h L) (i : Nat) (hi : L[i]? = some (cellR s [vo] T_sl_int)) (hv : ∀ h', Own h0 h' L -> Vw encN 1 h' vo l) (hl : l.length < 2 ^ 40) (hn : ∀ x ∈ l, x < n)
  (hcf : ∀ v w, v < n -> w < n -> (cf v w < 0 ↔ gtV f w v = true))
  (hC : ∀ (R : Res) (h' : Heap) (v w : Nat) (K' : KT), v < n -> w < n -> Own h0 h' (R :: L) -> (∀ h'', Ext h' h'' -> K' (I (cf v w)) h'') -> callV Tryz.prog (.func (.func gf) #[] cb) [I v, I w].toArray h' K')
  (hK : ∀ w h', Own h0 h' (slR encN 1 T_int w (ordV f l) :: L) -> K w h') : callS Tryz.prog F_slices_SortedFunc_int [.func (.func F_slices_Values_sl_int_int_1) #[] #[ptr s], .func (.func gf) #[] cb] h K := by
 refine callS_of (lk_slices_SortedFunc_int _ _ ?_)
 unfold sh_slices_SortedFunc_int
 refine collect_ok o i hi hv hl fun w h1 o1 => ?_
 refine sortFuncG_ok (f := f) (n := n) (q := 0) o1 rfl hn hl hcf (fun ys h' v w' K' hv hw o' hk => hC _ h' v w' K' hv hw o' hk) fun h2 o2 => ?_
 exact hK w h2 o2

def cmpZ (a b : Int) : Int := if a < b then -1 else if b < a then 1 else 0

theorem cmpI64_ok {a b : Int} (hK : K (I (cmpZ a b)) h) : callS Tryz.prog F_cmp_Compare_int64 [I a, I b] h K := by
 refine callS_of (lk_cmp_Compare_int64 _ _ ?_)
 unfold sh_cmp_Compare_int64
 refine callS_of (lk_cmp_isNaN_int64 _ ?_)
 unfold sh_cmp_isNaN_int64
 rw [pBin_neq, bne_self_eq_false]
 refine callS_of (lk_cmp_isNaN_int64 _ ?_)
 unfold sh_cmp_isNaN_int64
 rw [pBin_neq, bne_self_eq_false]
 dsimp only
 rw [ifV_false, ifV_false]
 unfold cmpZ at hK
 rw [pBin_lss, ifV_dec]
 refine ⟨fun c => by rw [if_pos c] at hK; exact hK, fun c => ?_⟩
 rw [if_neg c] at hK
 rw [pBin_gtr, ifV_dec]
 exact ⟨fun c => by rw [if_pos c] at hK; exact hK, fun c => by rw [if_neg c] at hK; exact hK⟩

theorem cmpInt_ok {a b : Int} (hK : K (I (cmpZ a b)) h) : callS Tryz.prog F_cmp_Compare_int [I a, I b] h K := by
 refine callS_of (lk_cmp_Compare_int _ _ ?_)
 unfold sh_cmp_Compare_int
 refine callS_of (lk_cmp_isNaN_int _ ?_)
 unfold sh_cmp_isNaN_int
 rw [pBin_neq, bne_self_eq_false]
 refine callS_of (lk_cmp_isNaN_int _ ?_)
 unfold sh_cmp_isNaN_int
 rw [pBin_neq, bne_self_eq_false]
 dsimp only
 rw [ifV_false, ifV_false]
 unfold cmpZ at hK
 rw [pBin_lss, ifV_dec]
 refine ⟨fun c => by rw [if_pos c] at hK; exact hK, fun c => ?_⟩
 rw [if_neg c] at hK
 rw [pBin_gtr, ifV_dec]
 exact ⟨fun c => by rw [if_pos c] at hK; exact hK, fun c => by rw [if_neg c] at hK; exact hK⟩

theorem orInt2_ok {a b : Int} {vs : Value} (Hs : Vw encJ 1 h vs [a, b]) (hK : K (I (if a ≠ 0 then a else b)) h) : callS Tryz.prog F_cmp_Or_int [vs] h K := by
 refine callS_of (lk_cmp_Or_int _ ?_)
 unfold sh_cmp_Or_int
 refine Hs.len ?_
 refine LoopH_count 2 (fun i x h' => x.1 = I i /\ h' = h /\ (1 <= i -> a = 0) /\ (2 <= i -> b = 0)) ⟨rfl, rfl, fun h => by omega, fun h => by omega⟩ ?_
 rintro i ⟨x, ⟨⟩⟩ h' Z hi ⟨hx, rfl, h1, h2⟩ hZ
 dsimp only at hx hZ ⊢
 subst hx
 unfold sh_cmp_Or_int_L1
 rw [pBin_lss, ifV_dec]
 have hl2 : ([a, b] : List Int).length = 2 := rfl
 refine ⟨fun hlt => ?_, fun hge => ?_⟩
 ·rcases (show i = 0 \/ i = 1 by omega) with rfl | rfl
  ·refine Hs.atI (i := 0) (Nat.zero_lt_succ _) ?_
   show pBin .neq (I a) _ _
   rw [pBin_neq]
   by_cases ha : a = 0
   ·rw [show (a != 0) = false by simpa using ha, ifV_false, pBin_add, wI 0 (by decide)]
    exact hZ (_, ()) _ (by decide) ⟨rfl, rfl, fun _ => ha, fun h => by omega⟩
   ·rw [show (a != 0) = true by simpa using ha, ifV_true]
    rw [if_pos ha] at hK
    exact hK
  ·refine Hs.atI (i := 1) (Nat.lt_succ_self 1) ?_
   show pBin .neq (I b) _ _
   rw [pBin_neq]
   have ha := h1 (Nat.le_refl _)
   rw [if_neg (fun h => h ha)] at hK
   by_cases hb : b = 0
   ·rw [show (b != 0) = false by simpa using hb, ifV_false, pBin_add, wI 1 (by decide)]
    exact hZ (_, ()) _ (by decide) ⟨rfl, rfl, fun _ => ha, fun _ => hb⟩
   ·rw [show (b != 0) = true by simpa using hb, ifV_true]
    exact hK
 ·have ha := h1 (by omega)
  have hb := h2 (by omega)
  rw [if_neg (fun h => h ha), hb] at hK
  exact hK

theorem cmp_gt {x y : Int} {v w : Nat} : (if cmpZ x y ≠ 0 then cmpZ x y else cmpZ (v : Int) (w : Int)) < 0 ↔ x < y \/ (y = x /\ v < w) := by
 unfold cmpZ
 rcases Int.lt_trichotomy x y with h | h | h
 ·rw [if_pos h, if_pos (by decide)]
  exact ⟨fun _ => .inl h, fun _ => by decide⟩
 ·subst h
  rw [if_neg (Int.lt_irrefl _), if_neg (Int.lt_irrefl _), if_neg (fun h => h rfl)]
  split
  ·exact ⟨fun _ => .inr ⟨rfl, by omega⟩, fun _ => by decide⟩
  ·split
   ·exact ⟨fun h => absurd h (by decide), fun h => by omega⟩
   ·exact ⟨fun h => absurd h (by decide), fun h => by omega⟩
 ·have hn : ¬ x < y := by omega
  rw [if_neg hn, if_pos h, if_pos (by decide)]
  exact ⟨fun h => absurd h (by decide), fun h => by omega⟩

def cfP (g : G) (d v w : Nat) : Int := if cmpZ (valG g d v) (valG g d w) ≠ 0 then cmpZ (valG g d v) (valG g d w) else cmpZ v w
theorem cfP_lt {d v w : Nat} : cfP g d v w < 0 ↔ gtV (valG g d) w v = true := by
 unfold gtV cfP
 rw [decide_eq_true_eq]
 exact cmp_gt

theorem cmpP_ok {p p2 tl vb r d v w : Nat} {pc : List Value} (o : Own h0 h L) (a i j k : Nat) (ha : L[a]? = some (cellR vb [alV p2 tl] T_func_int_int64)) (hi : L[i]? = some (cellR tl [dirF d] T_func_int64_int64_int64)) (hj : L[j]? = some (cellR p2 [ptr p] T_p_split_parter)) (hk : L[k]? = some (cellR p (ptr r :: pc) T_split_parter))
  (hR : g.Right) (hN : NetR h r g) (hd : d < 4) (hv : v < g.n) (hw : w < g.n) (hK : ∀ h', Ext h h' -> K (I (cfP g d v w)) h') : callV Tryz.prog (.func (.func F_split_parter_part_2) #[] #[ptr vb]) [I v, I w].toArray h K := by
 refine callV_of (l := [I v, I w, ptr vb]) rfl (lk_split_parter_part_2 _ _ _ ?_)
 unfold sh_split_parter_part_2
 refine o.load a ha rfl (o.load a ha rfl ?_)
 refine alongF_ok o i j k hi hj hk hR hN hd hv ⟨o.load a ha rfl rfl, ?_⟩
 refine alongF_ok o i j k hi hj hk hR hN hd hw ?_
 refine cmpI64_ok (cmpInt_ok ?_)
 refine (Own.start h).build (enc := encJ) (n := 1) [cmpZ (valG g d v) (valG g d w), cmpZ v w] rfl (sizesOk_of rfl) rfl fun vs h1 o1 => ?_
 refine orInt2_ok (o1.vw 0 rfl) ?_
 exact hK h1 o1.ext

end
open Go Go.Mh

theorem tdivN {a b : Nat} : ((a : Int)).tdiv (b : Int) = ((a / b : Nat) : Int) := rfl
theorem setL_snoc {c : Int} {l : List Nat} {v : Nat} {out : List Int} : setL c (l ++ [v]) out = (setL c l out).set v c := by simp [setL]

section
variable {g : G} {r : Nat}

theorem part_ok {N : Res} (hR : g.Right) (hN : netR N r g) : ∀ {k c nx p q nq : Nat} {h0 h : Heap} {L : List Res} {K : KT} {vl vc vp : Value} {l ys : List Nat} {out : List Int},
  Own h0 h (cellR p [ptr r, vc, I nx] T_split_parter :: slR encJ 1 T_int vc out :: L) -> L[nq]? = some N -> L[q]? = some (slR encN 1 T_int vp ys) -> (∀ h', Vw encN 1 h' vp ys -> Vw encN 1 h' vl l) ->
  (∀ x ∈ l, x < g.n) -> l.length <= 16777216 -> out.length = g.n -> 1 <= c -> c <= k -> c <= 256 -> nx + c <= 2 ^ 40 ->
  (∀ h', Own h0 h' (cellR p [ptr r, vc, I (nx + c : Nat)] T_split_parter :: slR encJ 1 T_int vc (asgF (partF g k c l) nx out) :: L) -> K (.tuple #[]) h') -> callS Tryz.prog F_split_parter_part [ptr p, vl, I c] h K
 | 0, c, nx, p, q, nq, h0, h, L, K, vl, vc, vp, l, ys, out, o, hnq, hq, hsub, hln, hl, hol, hc1, hck, hc, hnx, hK => by omega
 | k + 1, c, nx, p, q, nq, h0, h, L, K, vl, vc, vp, l, ys, out, o, hnq, hq, hsub, hln, hl, hol, hc1, hck, hc, hnx, hK => by
  refine callS_of (lk_split_parter_part _ _ _ ?_)
  unfold sh_split_parter_part
  refine o.box fun p3 h1 o1 => ?_
  have o1 : Own h0 h1 (cellR p3 [ptr p] T_p_split_parter :: cellR p [ptr r, vc, I nx] T_split_parter :: slR encJ 1 T_int vc out :: L) := o1
  rw [pBin_eql, ifV_beq]
  refine ⟨fun e => ?_, fun e => ?_⟩
  ·have e1 : c = 1 := by omega
   subst e1
   have ep : asgF (partF g (k + 1) 1 l) nx out = setL nx l out := by unfold partF; rw [if_pos rfl]; rfl
   rw [ep] at hK
   refine (hsub _ (o1.vw (q + 3) hq)).len ?_
   refine LoopH_count l.length (fun i x h' => x.1 = I i /\ Own h0 h' (cellR p3 [ptr p] T_p_split_parter :: cellR p [ptr r, vc, I nx] T_split_parter :: slR encJ 1 T_int vc (setL nx (l.take i) out) :: L)) ⟨rfl, o1⟩ ?_
   clear o1 o
   rintro i ⟨x, ⟨⟩⟩ h2 Z hi ⟨hx, o⟩ hZ
   dsimp only at hx hZ ⊢
   subst hx
   unfold sh_split_parter_part_L1
   rw [pBin_lss, ifV_dec]
   refine ⟨fun hlt => ?_, fun hge => ?_⟩
   ·have hlt : i < l.length := by omega
    refine (hsub _ (o.vw (q + 3) hq)).at1 (e := fun (x : Nat) => I x) (fun _ => rfl) hlt ?_
    refine o.load 0 rfl rfl ?_
    simp only [pNil_ptr, pField_ptr]
    refine o.load 1 rfl rfl (o.load 0 rfl rfl ?_)
    simp only [pNil_ptr, pField_ptr]
    refine o.load 1 rfl rfl ?_
    refine o.setI 2 rfl (by rw [setL_len, hol]; exact hln _ (List.getElem_mem hlt)) fun h3 o3 => ?_
    rw [pBin_add, wI i (by omega)]
    refine hZ (_, ()) h3 hlt ⟨rfl, ?_⟩
    rw [List.take_succ_eq_append_getElem hlt, setL_snoc]
    exact o3
   ·have : i = l.length := by omega
    subst this
    rw [List.take_length] at o
    refine ld_split_parter_part_1 (ptr p3) ?_
    unfold sh_split_parter_part_1
    refine o.load 0 rfl rfl ?_
    simp only [pNil_ptr, pField_ptr]
    refine o.load 1 rfl rfl ?_
    rw [pBin_add, wI nx (by omega)]
    refine o.st1 1 (cs' := [ptr r, vc, I (nx + 1 : Nat)]) rfl rfl rfl rfl rfl fun h3 o3 => ?_
    exact hK h3 o3.tail
  ·have hc2 : 2 <= c := by omega
   obtain ⟨hd, _, _⟩ := @wayG_spec g l
   have ep : partF g (k + 1) c l = partF g k (c / 2) ((ordV (valG g (wayG g l).1) l).take (l.length * (c / 2) / c)) ++ partF g k (c - c / 2) ((ordV (valG g (wayG g l).1) l).drop (l.length * (c / 2) / c)) := by
    conv => lhs; unfold partF
    rw [if_neg (by omega)]
   refine o1.load 0 rfl rfl ?_
   refine pway_ok o1 1 rfl hR (fun h' x => hN _ ((o1.more x).get (nq + 3) hnq)) (hsub _ (o1.vw (q + 3) hq)) (by omega) hln fun h2 o2 _ => ?_
   clear o1 o
   simp only [pExt0, pExt1]
   refine o2.load 0 rfl rfl ?_
   refine along_ok o2 hd fun p2 tl h3 o3 _ => ?_
   generalize (wayG g l).1 = d at hd ep o3
   refine o3.box fun vb h4 o4 => o4.st1 0 (cs' := [alV p2 tl]) rfl rfl rfl rfl rfl fun h5 o5 => ?_
   have o5 : Own h0 h5 (cellR vb [alV p2 tl] T_func_int_int64 :: cellR tl [dirF d] T_func_int64_int64_int64 :: cellR p2 [ptr p] T_p_split_parter :: cellR p3 [ptr p] T_p_split_parter :: cellR p [ptr r, vc, I nx] T_split_parter :: slR encJ 1 T_int vc out :: L) := o5
   clear o4 o3 o2
   refine valuesN_ok o5 (hsub _ (o5.vw (q + 6) hq)) fun s h6 o6 => ?_
   refine sortedFunc_ok (f := valG g d) (n := g.n) (cf := cfP g d) o6 0 rfl (fun h' o' => hsub _ (o'.vw (q + 7) hq)) (by omega) hln (fun v w _ _ => cfP_lt) (fun R h' v w K' hv hw o' hk => cmpP_ok o' 2 3 4 6 rfl rfl rfl rfl hR (hN _ (o'.get (nq + 8) hnq)) hd hv hw hk) fun w h7 o7 => ?_
   have ol : (ordV (valG g d) l).length = l.length := ordV_len
   have oln : ∀ x ∈ ordV (valG g d) l, x < g.n := fun x hx => hln x (ordV_perm.mem_iff.1 hx)
   have hh := half_le (m := l.length) hc2
   generalize ordV (valG g d) l = O at o7 ol oln ep
   have o8 : Own h0 h7 (cellR p [ptr r, vc, I nx] T_split_parter :: slR encJ 1 T_int vc out :: slR encN 1 T_int w O :: cellR p3 [ptr p] T_p_split_parter :: L) := o7.front 8 [6, 7, 0, 5] (by decide) (by decide)
   clear o7 o6 o5
   refine (o8.vw 2 rfl).len ?_
   rw [ol]
   have q2 : ((c : Int)).tdiv 2 = ((c / 2 : Nat) : Int) := tdivN (b := 2)
   have hmul : l.length * (c / 2) <= 16777216 * 128 := Nat.mul_le_mul hl (by omega)
   rw [pBin_quo]
   refine ⟨by decide, ?_⟩
   rw [q2, w64 (by omega) (by omega), pBin_mul, show ((l.length : Int) * ((c / 2 : Nat) : Int)) = ((l.length * (c / 2) : Nat) : Int) by simp, w64 (by omega) (by omega), pBin_quo]
   refine ⟨by omega, ?_⟩
   rw [tdivN]
   generalize l.length * (c / 2) / c = H at hh ep ⊢
   rw [w64 (by omega) (by omega)]
   refine o8.load 3 rfl rfl ?_
   refine (o8.vw 2 rfl).subA (a := 0) (j := H) encN_len rfl rfl (by omega) (by omega) fun w1 hw1 => ?_
   rw [pBin_quo]
   refine ⟨by decide, ?_⟩
   rw [q2, w64 (by omega) (by omega)]
   rw [ep, asgF_append, partF_len (by omega) (by omega)] at hK
   refine part_ok hR hN (k := k) (c := c / 2) (q := 0) (nq := nq + 2) (L := slR encN 1 T_int w O :: cellR p3 [ptr p] T_p_split_parter :: L) (l := O.take H) o8 hnq rfl (fun h' H' => by have := hw1 h' H'; rwa [List.drop_zero, Nat.sub_zero] at this) (fun x hx => oln x (List.mem_of_mem_take hx)) (by rw [List.length_take]; omega) hol (by omega) (by omega) (by omega) (by omega) fun h8 o9 => ?_
   clear o8
   refine o9.load 3 rfl rfl ?_
   refine (o9.vw 2 rfl).subA (a := H) (j := O.length) encN_len rfl rfl (by omega) (Nat.le_refl _) fun w2 hw2 => ?_
   rw [pBin_quo]
   refine ⟨by decide, ?_⟩
   rw [q2, w64 (by omega) (by omega), pBin_sub, show (c : Int) - ((c / 2 : Nat) : Int) = ((c - c / 2 : Nat) : Int) by omega, w64 (by omega) (by omega)]
   refine part_ok hR hN (k := k) (c := c - c / 2) (q := 0) (nq := nq + 2) (L := slR encN 1 T_int w O :: cellR p3 [ptr p] T_p_split_parter :: L) (l := O.drop H) o9 hnq rfl (fun h' H' => by have := hw2 h' H'; rwa [List.take_of_length_le (by rw [List.length_drop]; exact Nat.le_refl _)] at this) (fun x hx => oln x (List.mem_of_mem_drop hx)) (by rw [List.length_drop]; omega) (by rw [asgF_len]; exact hol) (by omega) (by omega) (by omega) (by omega) fun h9 o10 => ?_
   refine hK h9 ?_
   rw [show nx + c = nx + c / 2 + (c - c / 2) by omega]
   exact o10.front 4 [0, 1] (by decide) (by decide)

variable {h0 h : Heap} {L : List Res} {K : KT} {N : Res} {vl : Value}

def mapZ (g : G) (z : Int) : List Int := if 1 <= z /\ z <= 256 then mapG g z.toNat else []

theorem smap_ok {z : Int} {nq : Nat} (o : Own h0 h L) (hq : L[nq]? = some N) (hN : netR N r g) (hR : g.Right) (hK : ∀ w h', Own h0 h' (slR encJ 1 T_int w (mapZ g z) :: L) -> K w h') : callS Tryz.prog F_split_Map [ptr r, I z] h K := by
 have hn := hR.most
 refine callS_of (lk_split_Map _ _ ?_)
 unfold sh_split_Map sh_split_Map_k1
 simp only [pEq_ptr_nil, Option.isNone_some, ifV_false]
 unfold mapZ at hK
 rw [pBin_lss, ifV_dec]
 refine ⟨fun c => ?_, fun c1 => ?_⟩
 ·rw [if_neg (by omega)] at hK
  exact hK _ h o.nilS
 rw [pBin_gtr, ifV_dec]
 refine ⟨fun c => ?_, fun c2 => ?_⟩
 ·rw [if_neg (by omega)] at hK
  exact hK _ h o.nilS
 rw [if_pos (by omega)] at hK
 obtain ⟨c, rfl⟩ : ∃ c : Nat, z = c := Int.eq_ofNat_of_zero_le (by omega)
 rw [Int.toNat_natCast] at hK
 refine nodes_ok (hN _ (o.get nq hq)) ?_
 refine o.make (enc := encJ) (n := 1) (a := 0) (m := g.n) rfl (by omega) (by omega) fun w21 h1 o1 => ?_
 have hw := o1.vw 0 rfl
 refine pBuild_ones (cs' := [ptr r, w21, I (0 : Nat)]) (fun p hp => by
  simp at hp
  rcases hp with rfl | rfl
  ·rfl
  ·exact hw.one) rfl rfl ?_
 refine o1.box fun p h2 o2 => ?_
 rw [show (Value.cells (.agg [ptr r, w21, I (0 : Nat)].toArray)).toList = [ptr r, w21, I (0 : Nat)] by simp [Value.cells, hw.one]] at o2
 refine nodes_ok (hN _ (o2.get (nq + 2) hq)) ?_
 refine o2.make (enc := encN) (n := 1) (a := (0 : Nat)) (m := g.n) rfl (by omega) (by omega) fun w26 h3 o3 => ?_
 clear o2 o1
 refine (o3.vw 0 rfl).len ?_
 rw [List.length_replicate]
 have hul : ∀ i, i <= g.n -> (List.range i ++ List.replicate (g.n - i) 0).length = g.n := fun i hi => by rw [List.length_append, List.length_range, List.length_replicate]; omega
 refine LoopH_count g.n (fun i x h' => x.1 = I i /\ Own h0 h' (slR encN 1 T_int w26 (List.range i ++ List.replicate (g.n - i) 0) :: cellR p [ptr r, w21, I (0 : Nat)] T_split_parter :: slR encJ 1 T_int w21 (List.replicate g.n 0) :: L)) ⟨rfl, o3⟩ ?_
 clear o3
 rintro i ⟨x, ⟨⟩⟩ h4 Z hi ⟨hx, o3⟩ hZ
 dsimp only at hx hZ ⊢
 subst hx
 unfold sh_split_Map_L2
 rw [pBin_lss, ifV_dec]
 refine ⟨fun hlt => ?_, fun hge => ?_⟩
 ·have hlt : i < g.n := by omega
  refine o3.setAt (a := i) 0 rfl (fun _ => rfl) (encN_plain _) (by rw [hul i hi]; exact hlt) rfl fun h5 o5 => ?_
  rw [pBin_add, wI i (by omega)]
  refine hZ (_, ()) h5 hlt ⟨rfl, ?_⟩
  have : (List.range i ++ List.replicate (g.n - i) 0).set i i = List.range (i + 1) ++ List.replicate (g.n - (i + 1)) 0 := by
   rw [List.set_append_right _ _ (by rw [List.length_range]; exact Nat.le_refl _), List.length_range, Nat.sub_self, show g.n - i = (g.n - (i + 1)) + 1 by omega, List.replicate_succ, List.set_cons_zero, List.range_succ]
   simp
  rw [<- this]
  exact o5
 ·have : i = g.n := by omega
  subst this
  rw [Nat.sub_self, List.replicate_zero, List.append_nil] at o3
  refine part_ok hR hN (k := c) (c := c) (nx := 0) (q := 0) (nq := nq + 1) (L := slR encN 1 T_int w26 (List.range g.n) :: L) (o3.front 3 [1, 2, 0] (by decide) (by decide)) hq rfl (fun h' H' => H') (fun x hx => List.mem_range.1 hx) (by rw [List.length_range]; exact hn) (by rw [List.length_replicate]) (by omega) (Nat.le_refl _) (by omega) (by omega) fun h5 o5 => ?_
  simp only [pNil_ptr, pField_ptr]
  refine o5.load 0 rfl rfl ?_
  exact hK w21 h5 (o5.front 3 [1] (by decide) (by decide))

theorem clone_intZ {xs : List Int} {s : Value} (o : Own h0 h L) (H : Vw encJ 1 h s xs) (hl : xs.length <= 2 ^ 40) (hK : ∀ v' h', Own h0 h' (slR encJ 1 T_int v' xs :: L) -> K v' h') : callS Tryz.prog F_slices_Clone_sl_int_int [s] h K :=
 callS_of (lk_slices_Clone_sl_int_int _ (clone_gen o H (fun _ => rfl) encI_plain rfl (by decide) (by omega) hK))

end
end Go.Proofs.YtmdldoolnhpaeaaGreatDoor
