/- Texts of the proofs of seat YtgefabaobhendaaGreatDoor, joined: HpC, HpD, HpE, HpF, HpG, HpH, HpI, HoA, FlA, FlB, FlC, FlD, F12C, F12D, F12K, F12E. They have no conditions of their own. -/
import Derived.Test.YtgefabaobhendaaGreatDoorTa
import Derived.Test.YtgefabaobhendaaGreatDoorMc
import Derived.Test.YtgefabaobhendaaGreatDoorMd
set_option linter.unusedVariables false
set_option linter.unusedSimpArgs false

namespace Go.Proofs.YtgefabaobhendaaGreatDoor
open Go Go.Mh

/-! ### The order, and what up and down keep -/

theorem hlt_iff {p q : HE} : hlt p q = true ↔ p.2 < q.2 ∨ p.2 = q.2 ∧ p.1 < q.1 := by simp [hlt]
theorem hlt_asymm {p q : HE} (h : hlt p q = true) : ¬ hlt q p = true := by rw [hlt_iff] at *; omega
theorem hlt_trans {p q s : HE} (h : ¬ hlt p q = true) (h' : ¬ hlt q s = true) : ¬ hlt p s = true := by rw [hlt_iff] at *; omega
theorem hlt_lt {p q s : HE} (h : ¬ hlt p q = true) (h' : hlt s q = true) : ¬ hlt p s = true := by rw [hlt_iff] at *; omega

abbrev gt (l : List HE) (j : Nat) : HE := l.getD j (0, 0)

theorem gt_eq {l : List HE} {j : Nat} (hj : j < l.length) : l[j] = gt l j := by simp [gt, hj]

theorem swapL_gt {l : List HE} {i k : Nat} (hi : i < l.length) (hk : k < l.length) (j : Nat) : gt (swapL l i k hi hk) j = if j = k then gt l i else if j = i then gt l k else gt l j := by
  by_cases hj : j < l.length
  · have hj' : j < (swapL l i k hi hk).length := by rw [swapL_length]; exact hj
    rw [← gt_eq hj', swapL_get hi hk hj']
    simp only [gt_eq]
  · have h1 : ¬ j = k := fun e => hj (e ▸ hk)
    have h2 : ¬ j = i := fun e => hj (e ▸ hi)
    simp only [h1, h2, if_false]
    have hj' : ¬ j < (swapL l i k hi hk).length := by rw [swapL_length]; exact hj
    simp [gt, hj, hj']

def HeapOrd (l : List HE) : Prop := ∀ j, 0 < j → j < l.length → ¬ hlt (gt l j) (gt l ((j - 1) / 4)) = true

def UpInv (l : List HE) (i : Nat) : Prop :=
  (∀ j, 0 < j → j < l.length → j ≠ i → ¬ hlt (gt l j) (gt l ((j - 1) / 4)) = true) ∧
  (0 < i → ∀ j, 0 < j → j < l.length → (j - 1) / 4 = i → ¬ hlt (gt l j) (gt l ((i - 1) / 4)) = true)

theorem UpInv.done {l : List HE} {i : Nat} (h : UpInv l i) (hi : 0 < i → ¬ hlt (gt l i) (gt l ((i - 1) / 4)) = true) : HeapOrd l := by
  intro j h0 h1
  by_cases e : j = i
  · subst e; exact hi h0
  · exact h.1 j h0 h1 e

theorem UpInv.step {l : List HE} {i : Nat} (h : UpInv l i) (h0 : 0 < i) (hi : i < l.length) (hp : (i - 1) / 4 < l.length) (hlt' : hlt (gt l i) (gt l ((i - 1) / 4)) = true) :
    UpInv (swapL l i ((i - 1) / 4) hi hp) ((i - 1) / 4) := by
  have hpi : (i - 1) / 4 < i := by omega
  refine ⟨fun j j0 j1 jp => ?_, fun p0 j j0 j1 je => ?_⟩
  · rw [swapL_length] at j1
    rw [swapL_gt, swapL_gt]
    simp only [jp, if_false]
    by_cases e : j = i
    · subst e
      simp only [if_true]
      exact hlt_asymm hlt'
    · simp only [e, if_false]
      by_cases e1 : (j - 1) / 4 = (i - 1) / 4
      · simp only [e1, if_true]
        have := h.1 j j0 j1 e
        rw [e1] at this
        exact hlt_lt this hlt'
      · simp only [e1, if_false]
        by_cases e2 : (j - 1) / 4 = i
        · simp only [e2, if_true]
          exact h.2 h0 j j0 j1 e2
        · simp only [e2, if_false]
          exact h.1 j j0 j1 e
  · rw [swapL_length] at j1
    have hg : ((i - 1) / 4 - 1) / 4 < (i - 1) / 4 := by omega
    have e1 : ¬ ((i - 1) / 4 - 1) / 4 = (i - 1) / 4 := by omega
    have e2 : ¬ ((i - 1) / 4 - 1) / 4 = i := by omega
    rw [swapL_gt, swapL_gt]
    simp only [e1, e2, if_false]
    have jp : ¬ j = (i - 1) / 4 := by omega
    simp only [jp, if_false]
    have hgp := h.1 ((i - 1) / 4) p0 hp (by omega)
    by_cases e : j = i
    · simp only [e, if_true]; exact hgp
    · simp only [e, if_false]
      have := h.1 j j0 j1 e
      rw [je] at this
      exact hlt_trans this hgp

theorem up_ok {h : Heap} {r m bl : Nat} {l : List HE} {n : Int} {i : Nat} {K : Value → Heap → Prop} (H : Rep h r m bl l n) (hi : i < l.length) (hu : UpInv l i)
    (hK : ∀ h' l', Rep h' r m bl l' n → l'.Perm l → HeapOrd l' → Upd (fun b => b = m ∨ b = bl) h h' → K (.tuple #[]) h') : callS Tryz.prog F_heap_row_up [ptr r, I i] h K := by
  refine callS_of (lk_heap_row_up _ _ ?_)
  unfold sh_heap_row_up
  refine LoopH_intro (fun x h' => ∃ (j : Nat) (l' : List HE), x.1 = I j ∧ j < l'.length ∧ Rep h' r m bl l' n ∧ l'.Perm l ∧ UpInv l' j ∧ Upd (fun b => b = m ∨ b = bl) h h')
    (fun x _ => match x.1 with | .int _ n => n.toNat | _ => 0) ⟨i, l, rfl, hi, H, .refl _, hu, .refl _ _⟩ ?_
  rintro ⟨x, ⟨⟩⟩ h' Z ⟨j, l', hx, hj, H', hp, hu', hupd⟩ hZ
  dsimp only at hx
  subst hx
  dsimp only at hZ ⊢
  have hsm := H'.small
  unfold sh_heap_row_up_L1
  simp only [pBin_gtr, ifV_dec]
  refine ⟨fun h0 => ?_, fun h0 => ?_⟩
  · have h0 : 0 < j := by omega
    have epar : (((j : Int) - 1).tdiv 4) = (((j - 1) / 4 : Nat) : Int) := by
      rw [show ((j : Int) - 1) = ((j - 1 : Nat) : Int) by omega]; rfl
    have e1 : IntKind.i64.wrap ((j : Int) - 1) = (j : Int) - 1 := w64 (by omega) (by omega)
    have e2 : IntKind.i64.wrap (((j - 1) / 4 : Nat) : Int) = (((j - 1) / 4 : Nat) : Int) := w64 (by omega) (by omega)
    simp only [pBin_sub, pBin_quo, e1, epar, e2]
    refine ⟨by decide, ?_⟩
    have hpl : (j - 1) / 4 < l'.length := by omega
    refine ahead_ok H' hj hpl fun h1 hx1 => ?_
    obtain ⟨hn1, hn2, hn3⟩ := H'.r_ne (by omega)
    have H1 := H'.upd hx1 id id id
    rw [ifV_bool, gt_eq hj, gt_eq hpl]
    refine ⟨fun hb => ⟨by decide, ?_⟩, fun hb => ?_⟩
    · refine swap_ok H1 hj hpl fun h2 H2 hx2 => ?_
      refine ⟨by decide, ?_⟩
      refine hZ _ _ ⟨(j - 1) / 4, _, rfl, by rw [swapL_length]; exact hpl, H2, (swapL_perm hj hpl).trans hp, hu'.step h0 hj hpl hb, ?_⟩ ?_
      · exact (hupd.trans (hx1.upd (S := fun b => b = m ∨ b = bl)) fun _ h _ => h).trans hx2 fun _ h _ => h
      · dsimp only; omega
    · exact hK _ _ H1 hp (hu'.done fun _ => by rw [hb]; simp) (hupd.trans (hx1.upd (S := fun b => b = m ∨ b = bl)) fun _ h _ => h)
  · have h0 : j = 0 := by omega
    subst h0
    exact hK _ _ H' hp (hu'.done fun h => absurd h (Nat.lt_irrefl 0)) hupd

end Go.Proofs.YtgefabaobhendaaGreatDoor

namespace Go.Proofs.YtgefabaobhendaaGreatDoor
open Go Go.Mh

theorem Rep.sl {h : Heap} {r m bl : Nat} {l : List HE} {n : Int} (H : Rep h r m bl l n) : ∃ base cap, h[r]? = some (.cells #[.slice base l.length cap, .map (some m), I n] tHeap (0, 0)) := by
  obtain ⟨sl, cap, rest, hr, hs⟩ := H.row
  rcases hs with ⟨rfl, rfl, _⟩ | ⟨rfl, _⟩
  · exact ⟨_, _, hr⟩
  · exact ⟨_, _, hr⟩

theorem below_range {h0 : Heap} {r m bl bi br : Nat} {l : List HE} {n : Int} {j : Nat} {B : Loop → Vals [13] → Heap → (Exit → Heap → Prop) → Prop} {Kn Kr : Heap → Prop} {T1 T2 : TypeId}
    (J : Nat → Heap → Prop) (hj : j < 2 ^ 40)
    (hJ : ∀ k h', J k h' → h'[bi]? = some (.cells #[I j] T1 (0, 0)) ∧ h'[br]? = some (.cells #[ptr r] T2 (0, 0)) ∧ Rep h' r m bl l n)
    (hinit : ∀ L, J (4 * j + 1) (h0.push (lo L .ready none)))
    (hstep : ∀ k h' L R, J k h' → h'[h0.size]? = some (lo L .ready none) → k < l.length → 4 * j + 1 ≤ k → k ≤ 4 * j + 4 → (∀ h'', J (k + 1) h'' → h''[h0.size]? = some (lo L .ready none) → R (.bool true) h'') →
      B L (I k, ()) h' (roundK h0.size L R))
    (hend : ∀ k h' L, J k h' → h'[h0.size]? = some (lo L .ready none) → (4 * j + 4 < k ∨ l.length ≤ k) → Kn (upd h' h0.size (lo L .exhausted none))) :
    rangeH Tryz.prog (.func (.func F_heap_row_below_1) #[] #[ptr bi, ptr br]) [13] h0.size h0 B Kn Kr [] := by
  intro L hy
  show CallsH Tryz.prog F_heap_row_below_1 [yieldV h0.size, ptr bi, ptr br].toArray _ _
  refine lk_heap_row_below_1 _ _ _ ?_
  have hJ0 := hinit L
  unfold sh_heap_row_below_1
  have a0 := hcell0 (hJ _ _ hJ0).1
  have e1 : IntKind.i64.wrap (4 * (j : Int)) = 4 * (j : Int) := w64 (by omega) (by omega)
  have e2 : IntKind.i64.wrap (4 * (j : Int) + 1) = 4 * (j : Int) + 1 := w64 (by omega) (by omega)
  simp only [pLoad_ptr, a0, pBin_mul, pBin_add, e1, e2]
  refine LoopH_intro (fun x h' => ∃ k : Nat, x.1 = I k ∧ 4 * j + 1 ≤ k ∧ k ≤ 4 * j + 5 ∧ J k h' ∧ h'[h0.size]? = some (lo L .ready none))
    (fun x _ => match x.1 with | .int _ n => (4 * (j : Int) + 5 - n).toNat | _ => 0) ⟨4 * j + 1, by simp, Nat.le_refl _, by omega, hJ0, push_new⟩ ?_
  rintro ⟨x, ⟨⟩⟩ h' Z ⟨k, hx, hk1, hk2, hJk, hl⟩ hZ
  dsimp only at hx
  subst hx
  dsimp only at hZ ⊢
  obtain ⟨b1, b2, H⟩ := hJ _ _ hJk
  obtain ⟨base, cap, hr⟩ := H.sl
  have c1 := hcell0 b1
  have c2 := hcell0 b2
  have c3 := hcell0 hr
  have e3 : IntKind.i64.wrap (4 * (j : Int) + 4) = 4 * (j : Int) + 4 := w64 (by omega) (by omega)
  unfold sh_heap_row_below_1_L1
  simp only [pLoad_ptr, c1, c2, c3, pBin_mul, pBin_add, e1, e3, pBin_leq, pBin_lss, ifV_dec, pNil_ptr, pField_ptr, pLen_sl]
  refine ⟨fun hle => ⟨fun hlt => ?_, fun hge => ?_⟩, fun hgt => ?_⟩
  · refine hy (I k, ()) h' _ .ready none hl ?_
    refine hstep k h' L _ hJk hl (by omega) hk1 (by omega) fun h'' hJ'' hl'' => ?_
    simp only [pUn_not, Bool.not_true, ifV_false]
    have e4 : IntKind.i64.wrap ((k : Int) + 1) = ((k + 1 : Nat) : Int) := by rw [w64 (by omega) (by omega)]; rfl
    rw [e4]
    exact hZ _ _ ⟨k + 1, rfl, by omega, by omega, hJ'', hl''⟩ (by dsimp only; omega)
  · exact ⟨.ready, none, by decide, hl, hend k h' L hJk hl (by omega)⟩
  · exact ⟨.ready, none, by decide, hl, hend k h' L hJk hl (by omega)⟩

def DownInv (l : List HE) (i : Nat) : Prop :=
  (∀ j, 0 < j → j < l.length → (j - 1) / 4 ≠ i → ¬ hlt (gt l j) (gt l ((j - 1) / 4)) = true) ∧
  (0 < i → ∀ j, 0 < j → j < l.length → (j - 1) / 4 = i → ¬ hlt (gt l j) (gt l ((i - 1) / 4)) = true)

theorem DownInv.done {l : List HE} {i : Nat} (h : DownInv l i) (hi : ∀ j, 0 < j → j < l.length → (j - 1) / 4 = i → ¬ hlt (gt l j) (gt l i) = true) : HeapOrd l := by
  intro j h0 h1
  by_cases e : (j - 1) / 4 = i
  · rw [e]; exact hi j h0 h1 e
  · exact h.1 j h0 h1 e

theorem DownInv.step {l : List HE} {i b : Nat} (h : DownInv l i) (hi : i < l.length) (hb : b < l.length) (b0 : 0 < b) (bi : (b - 1) / 4 = i)
    (hlt' : hlt (gt l b) (gt l i) = true) (hmin : ∀ j, 0 < j → j < l.length → (j - 1) / 4 = i → ¬ hlt (gt l j) (gt l b) = true) : DownInv (swapL l i b hi hb) b := by
  have hib : i < b := by omega
  refine ⟨fun j j0 j1 jp => ?_, fun p0 j j0 j1 je => ?_⟩
  · rw [swapL_length] at j1
    rw [swapL_gt, swapL_gt]
    simp only [jp, if_false]
    by_cases e : (j - 1) / 4 = i
    · simp only [e, if_true]
      by_cases e1 : j = b
      · subst e1; simp only [if_true]; exact hlt_asymm hlt'
      · have e2 : ¬ j = i := by omega
        simp only [e1, e2, if_false]
        exact hmin j j0 j1 e
    · simp only [e, if_false]
      have e1 : ¬ j = b := fun e' => e (e' ▸ bi)
      simp only [e1, if_false]
      by_cases e2 : j = i
      · subst e2
        simp only [if_true]
        exact h.2 j0 b b0 hb bi
      · simp only [e2, if_false]
        exact h.1 j j0 j1 e
  · rw [swapL_length] at j1
    rw [swapL_gt, swapL_gt, bi]
    have e1 : ¬ j = b := by omega
    have e2 : ¬ j = i := by omega
    have e3 : ¬ i = b := by omega
    simp only [e1, e2, e3, if_false, if_true]
    have := h.1 j j0 j1 (by omega)
    rw [je] at this; exact this

theorem down_ok {h : Heap} {r m bl : Nat} {l : List HE} {n : Int} {i : Nat} {K : Value → Heap → Prop} (H : Rep h r m bl l n) (hi : i < 2 ^ 40) (hi' : i < l.length ∨ l = []) (hbl : bl < h.size) (hu : DownInv l i)
    (hK : ∀ h' l', Rep h' r m bl l' n → l'.Perm l → HeapOrd l' → Upd (fun b => b = m ∨ b = bl) h h' → K (.tuple #[]) h') : callS Tryz.prog F_heap_row_down [ptr r, I i] h K := by
  refine callS_of (lk_heap_row_down _ _ ?_)
  obtain ⟨base0, cap0, hr0⟩ := H.sl
  obtain ⟨es0, c0, hm0, _⟩ := H.map
  have hrl := get_lt hr0
  have hml := get_lt hm0
  unfold sh_heap_row_down
  refine pBox_of ?_
  refine pStore_of rfl push_new rfl (by simp) (by simp) ?_
  -- the heap at the loop's beginning
  have u1 : Ext h (upd (h.push (.cells (Value.nilFunc).cells T_func_int_int_bool (0, 0))) h.size (.cells (over [Value.nilFunc] 0 (Value.func (.func F_heap_row_ahead) #[ptr r] #[]).cells.toList).toArray T_func_int_int_bool (0, 0))) :=
    ((Upd.push _ _ _).trans (Upd.upd (S := fun b => b = h.size) _ _ rfl) (fun b hb hlt => by omega))
  refine LoopH_intro (fun x h' => ∃ (j : Nat) (l' : List HE), x.2.1 = I j ∧ j < 2 ^ 40 ∧ (j < l'.length ∨ l' = []) ∧ Rep h' r m bl l' n ∧ l'.Perm l ∧ DownInv l' j ∧ Upd (fun b => b = m ∨ b = bl) h h' ∧
      h'[h.size]? = some (.cells #[.func (.func F_heap_row_ahead) #[ptr r] #[]] T_func_int_int_bool (0, 0)) ∧ (∀ D ∈ x.1, h.size < D ∧ h'[D]? = some (.deferred (some []))) ∧ x.1.Nodup)
    (fun x _ => match x.2.1 with | .int _ n => (2 ^ 40 - n).toNat | _ => 0)
    ⟨i, l, rfl, hi, hi', H.upd u1 id id id, .refl _, hu, u1.upd, upd_self' push_new, by simp, by simp⟩ ?_
  rintro ⟨mk, x, ⟨⟩⟩ h' Z ⟨j, l', hx, hj, hjl, H', hp, hdi, hupd, hfirst, hmk, hmn⟩ hZ
  dsimp only at hx
  subst hx
  dsimp only at hZ hmk hmn ⊢
  unfold sh_heap_row_down_L1
  refine pBox_of ?_
  refine pStore_of rfl push_new rfl (by simp) (by simp) ?_
  have hbest : (upd (h'.push (.cells (I 0).cells T_int (0, 0))) h'.size (.cells (over [I 0] 0 (I j).cells.toList).toArray T_int (0, 0)))[h'.size]? = some (.cells #[I j] T_int (0, 0)) := upd_self' push_new
  have x2 : Ext h' (upd (h'.push (.cells (I 0).cells T_int (0, 0))) h'.size (.cells (over [I 0] 0 (I j).cells.toList).toArray T_int (0, 0))) :=
    ((Upd.push _ _ _).trans (Upd.upd (S := fun b => b = h'.size) _ _ rfl) (fun b hb hlt => by omega))
  generalize e2 : (upd (h'.push (.cells (I 0).cells T_int (0, 0))) h'.size (.cells (over [I 0] 0 (I j).cells.toList).toArray T_int (0, 0))) = h2 at hbest x2
  have hsz := x2.size
  have hsz2 := get_lt hbest
  clear e2
  -- below
  refine callS_of (lk_heap_row_below _ _ ?_)
  unfold sh_heap_row_below
  refine pBox_of (pBox_of ?_)
  simp only [push_size, cells_ptr, cells_int]
  have hbr : ((h2.push (.cells #[ptr r] T_p_heap_row (0, 0))).push (.cells #[I j] T_int (0, 0)))[h2.size]? = some (.cells #[ptr r] T_p_heap_row (0, 0)) :=
    (Upd.push (fun _ => False) (h2.push (.cells #[ptr r] T_p_heap_row (0, 0))) (.cells #[I j] T_int (0, 0))).get push_new id
  have hbi : ((h2.push (.cells #[ptr r] T_p_heap_row (0, 0))).push (.cells #[I j] T_int (0, 0)))[h2.size + 1]? = some (.cells #[I j] T_int (0, 0)) := by
    have := push_new (h := h2.push (.cells #[ptr r] T_p_heap_row (0, 0))) (o := .cells #[I j] T_int (0, 0))
    rwa [push_size] at this
  have x3 : Ext h2 ((h2.push (.cells #[ptr r] T_p_heap_row (0, 0))).push (.cells #[I j] T_int (0, 0))) := (Upd.push _ _ _).trans (Upd.push _ _ _) fun _ h _ => h
  have hs3 : ((h2.push (.cells #[ptr r] T_p_heap_row (0, 0))).push (.cells #[I j] T_int (0, 0))).size = h2.size + 2 := by simp
  generalize ((h2.push (.cells #[ptr r] T_p_heap_row (0, 0))).push (.cells #[I j] T_int (0, 0))) = h3 at hbr hbi x3 hs3
  have x4 : Ext h3 (h3.push (.deferred (some []))) := Upd.push _ _ _
  have hD4 : (h3.push (.deferred (some [])))[h3.size]? = some (.deferred (some [])) := push_new
  have hs4 : (h3.push (.deferred (some []))).size = h3.size + 1 := by simp
  rw [show h2.size + 1 + 1 = h3.size from hs3.symm, ← hs4]
  generalize h3.push (.deferred (some [])) = h4 at x4 hD4 hs4
  have x24 : Ext h' h4 := (x2.trans x3 fun _ h _ => h).trans x4 fun _ h _ => h
  have H4 := H'.upd x24 id id id
  have hbest4 := x4.get (x3.get hbest)
  have hbr4 := x4.get hbr
  have hbi4 := x4.get hbi
  have hfirst4 := x24.get hfirst
  have hsm := H'.small
  -- the invariant of the rounds
  refine below_range (r := r) (m := m) (bl := bl) (l := l') (n := n) (j := j) (T1 := T_int) (T2 := T_p_heap_row)
    (fun k hh => ∃ b : Nat, (b = j ∨ (4 * j + 1 ≤ b ∧ b ≤ 4 * j + 4 ∧ b < l'.length ∧ hlt (gt l' b) (gt l' j) = true)) ∧ (∀ c, 4 * j + 1 ≤ c → c < k → c < l'.length → ¬ hlt (gt l' c) (gt l' b) = true) ∧
      hh[h'.size]? = some (.cells #[I b] T_int (0, 0)) ∧ Upd (fun c => c = h'.size) h4 hh)
    hj ?_ ?_ ?_ ?_
  · rintro k hh ⟨b, _, _, _, hup⟩
    refine ⟨hup.get hbi4 (by omega), hup.get hbr4 (by omega), H4.upd hup ?_ ?_ ?_⟩
    · have := hupd.size; omega
    · have := hupd.size; omega
    · have := hupd.size; omega
  · intro L
    refine ⟨j, .inl rfl, fun c h1 h2 => by omega, (Upd.push (fun _ => False) _ _).get hbest4 id, Upd.push _ _ _⟩
  · rintro k hh L R ⟨b, hb, hc, hbb, hup⟩ hl hk h1 h2 hR
    have Hh : Rep hh r m bl l' n := H4.upd hup (by have := hupd.size; omega) (by have := hupd.size; omega) (by have := hupd.size; omega)
    unfold sh_heap_row_down_B2
    rw [← hs4]
    refine beginR_of hl ?_
    have ux : Upd (fun c => c = h4.size) hh (upd hh h4.size (lo L .busy none)) := Upd.upd _ _ rfl
    have hbusy : (upd hh h4.size (lo L .busy none))[h4.size]? = some (lo L .busy none) := upd_self' hl
    have hszh := get_lt hl
    have f1 := ux.get (hup.get hfirst4 (by have := hupd.size; have := get_lt hfirst; omega)) (by have := get_lt hfirst4; omega)
    have f2 := ux.get hbb (by omega)
    have Hx : Rep (upd hh h4.size (lo L .busy none)) r m bl l' n := Hh.upd ux (by have := get_lt hbest4; have := hupd.size; omega) (by have := get_lt hbest4; have := hupd.size; omega) (by have := get_lt hbest4; have := hupd.size; omega)
    generalize upd hh h4.size (lo L .busy none) = h5 at ux hbusy f1 f2 Hx
    have f1' := hcell0 f1
    have f2' := hcell0 f2
    simp only [pLoad_ptr, f1', f2']
    have hbl' : b < l'.length := by
      rcases hb with rfl | ⟨_, _, hb, _⟩
      · rcases hjl with h | h
        · exact h
        · subst h; simp at hk
      · exact hb
    have := ahead_ok (K := fun t17 h_9 => ifV t17 (pStore 1 (ptr h'.size) (I k) h_9 fun u_2 h_10 => roundK h4.size L R .normal h_10) (roundK h4.size L R .normal h_9)) Hx hk hbl' (fun h6 x6 => by
      rw [ifV_bool]
      refine ⟨fun ht => ?_, fun hf => ?_⟩
      · refine pStore_of rfl (x6.get f2) rfl (by simp) (by simp) ?_
        rw [gt_eq hk, gt_eq hbl'] at ht
        have hne : h'.size ≠ h4.size := by omega
        refine roundK_normal ((upd_ne hne).trans (x6.get hbusy)) (hR _ ?_ ?_)
        · refine ⟨k, .inr ⟨h1, h2, hk, ?_⟩, ?_, ?_, ?_⟩
          · rcases hb with rfl | ⟨_, _, _, hb⟩
            · exact ht
            · exact Classical.byContradiction fun hcc => (hlt_lt (hlt_lt hcc hb) ht) (by rw [hlt_iff] at *; omega)
          · intro c hc1 hc2 hc3
            by_cases hck : c = k
            · subst hck; exact fun e => hlt_asymm e e
            · exact hlt_lt (hc c hc1 (by omega) hc3) ht
          · exact (upd_ne hne.symm).trans (upd_self' (x6.get f2))
          · refine Upd.trans (Upd.trans (Upd.trans (hup.trans ux (S := fun c => c = h'.size) ?_) x6 ?_) (Upd.upd (S := fun c => c = h'.size) _ _ rfl) ?_) (Upd.upd (S := fun c => c = h4.size) _ _ rfl) ?_
            · intro b hb hlt; omega
            · intro b hb hlt; exact hb.elim
            · intro b hb hlt; exact hb
            · intro b hb hlt; omega
        · exact upd_self' ((upd_ne hne).trans (x6.get hbusy))
      · rw [gt_eq hk, gt_eq hbl'] at hf
        have hne : h'.size ≠ h4.size := by omega
        refine roundK_normal (x6.get hbusy) (hR _ ?_ ?_)
        · refine ⟨b, hb, ?_, ?_, ?_⟩
          · intro c hc1 hc2 hc3
            by_cases hck : c = k
            · subst hck; rw [hf]; simp
            · exact hc c hc1 (by omega) hc3
          · exact (upd_ne hne.symm).trans (x6.get f2)
          · refine Upd.trans (Upd.trans (hup.trans ux (S := fun c => c = h'.size) ?_) x6 ?_) (Upd.upd (S := fun c => c = h4.size) _ _ rfl) ?_
            · intro b hb hlt; omega
            · intro b hb hlt; exact hb.elim
            · intro b hb hlt; omega
        · exact upd_self' (x6.get hbusy))
    exact this
  · rintro k hh L ⟨b, hb, hc, hbb, hup⟩ hl hend
    have Hh : Rep hh r m bl l' n := H4.upd hup (by have := hupd.size; omega) (by have := hupd.size; omega) (by have := hupd.size; omega)
    have ux : Upd (fun c => c = h4.size) hh (upd hh h4.size (lo L .exhausted none)) := Upd.upd _ _ rfl
    have f2 := ux.get hbb (by omega)
    have hsize : h4.size ≤ hh.size := hup.size
    have Hx : Rep (upd hh h4.size (lo L .exhausted none)) r m bl l' n := Hh.upd ux (by have := hupd.size; omega) (by have := hupd.size; omega) (by have := hupd.size; omega)
    have uall : Upd (fun c => c = h'.size ∨ c = h4.size) h4 (upd hh h4.size (lo L .exhausted none)) := (hup.mono fun _ h _ => .inl h).trans ux fun b h _ => .inr h
    generalize upd hh h4.size (lo L .exhausted none) = h5 at ux f2 Hx uall
    have x25 : Ext h' h5 := x24.trans uall fun b hb hlt => by omega
    have hmk5 : ∀ D ∈ h3.size :: mk, h.size < D ∧ h5[D]? = some (.deferred (some [])) := by
      intro D hD
      rcases List.mem_cons.1 hD with rfl | hD
      · exact ⟨by have := hupd.size; omega, uall.get hD4 (by omega)⟩
      · exact ⟨(hmk D hD).1, x25.get (hmk D hD).2⟩
    have hmn5 : (h3.size :: mk).Nodup := List.nodup_cons.2 ⟨fun hin => by have := get_lt (hmk _ hin).2; omega, hmn⟩
    have f2' := hcell0 f2
    simp only [pLoad_ptr, f2', pBin_eql, ifV_beq]
    have hupd5 : Upd (fun b => b = m ∨ b = bl) h h5 := hupd.trans x25 fun _ h _ => h.elim
    refine ⟨fun he => ?_, fun he => ?_⟩
    · have he : b = j := by omega
      subst he
      refine takeM_of _ _ (fun D hD => (hmk5 D hD).2) hmn5 fun h6 hu6 => ?_
      have hn : ∀ c, c < h.size → ¬ c ∈ h3.size :: mk := fun c hc hin => by have := (hmk5 c hin).1; omega
      refine hK h6 l' (Hx.upd hu6 (hn _ hrl) (hn _ hml) (hn _ hbl)) hp (hdi.done fun c c0 c1 c2 => hc c (by omega) (by omega) c1) (hupd5.trans hu6 fun c hc hlt => (hn c hlt hc).elim)
    · have he : ¬ b = j := fun e => he (by rw [e])
      rcases hb with hb | ⟨hb1, hb2, hb3, hb4⟩
      · exact (he hb).elim
      · have hjl' : j < l'.length := by omega
        refine swap_ok Hx hjl' hb3 fun h6 H6 hu6 => ?_
        have hn6 : ∀ c, h.size ≤ c → ¬ (c = m ∨ c = bl) := fun c hc => by omega
        have f3 := hcell0 (hu6.get f2 (hn6 _ (by have := hupd.size; omega)))
        simp only [pLoad_ptr, f3]
        refine hZ (h3.size :: mk, (I b, ())) h6 ⟨b, _, rfl, by omega, .inl (by rw [swapL_length]; exact hb3), H6, (swapL_perm hjl' hb3).trans hp, ?_, hupd5.trans hu6 fun _ h _ => h, ?_, ?_, hmn5⟩ ?_
        · exact hdi.step hjl' hb3 (by omega) (by omega) hb4 fun c c0 c1 c2 => hc c (by omega) (by omega) c1
        · exact hu6.get (x25.get hfirst) (hn6 _ (Nat.le_refl _))
        · intro D hD
          exact ⟨(hmk5 D hD).1, hu6.get (hmk5 D hD).2 (hn6 _ (by have := (hmk5 D hD).1; omega))⟩
        · dsimp only; omega

end Go.Proofs.YtgefabaobhendaaGreatDoor

namespace Go.Proofs.YtgefabaobhendaaGreatDoor
open Go Go.Mh

theorem encH_plain (a : HE) : ∀ u ∈ encH a, Mh.plainCell u = true := by intro u hu; simp [encH] at hu; rcases hu with rfl | rfl <;> rfl

theorem Rep.slr {h : Heap} {r m bl : Nat} {l : List HE} {n : Int} (H : Rep h r m bl l n) : ∃ v, h[r]? = some (.cells #[v, .map (some m), I n] tHeap (0, 0)) ∧ SlR encH 2 tHeld h v bl l := by
  obtain ⟨sl, cap, rest, hr, hs⟩ := H.row
  refine ⟨sl, hr, ?_⟩
  rcases hs with ⟨a, b, _⟩ | ⟨a, b, c, d⟩
  · exact .inl ⟨a, b⟩
  · exact .inr ⟨cap, rest, a, b, c, d⟩

theorem Rep.of {h : Heap} {r m bl : Nat} {l : List HE} {n : Int} {v : Value} {es : Array MapEntry} {c : Nat} (hr : h[r]? = some (.cells #[v, .map (some m), I n] tHeap (0, 0))) (hs : SlR encH 2 tHeld h v bl l)
    (hm : h[m]? = some (.map es c)) (hi : IMap es c (pos l)) (hn : (l.map (·.1)).Nodup) (hl : l.length < 2 ^ 40) : Rep h r m bl l n := by
  refine ⟨?_, ⟨es, c, hm, hi⟩, hn, hl⟩
  rcases hs with ⟨a, b⟩ | ⟨cap, rest, a, b, c, d⟩
  · exact ⟨v, 0, [], hr, .inl ⟨a, b, rfl⟩⟩
  · exact ⟨v, cap, rest, hr, .inr ⟨a, b, c, d⟩⟩

/-! ### A heap object, as its users see it -/

def Grow (h : Heap) (F F' : Nat → Prop) : Prop := ∀ b, F' b → F b ∨ h.size ≤ b

structure HV (h : Heap) (F : Nat → Prop) (r : Nat) (l : List HE) (n : Int) : Prop where
  rep : ∃ m bl, Rep h r m bl l n ∧ HeapOrd l ∧ F r ∧ F m ∧ F bl
  low : ∀ b, F b → b < h.size
  rng : ∀ p ∈ l, 0 ≤ p.1 ∧ p.1 < n

theorem HV.nodup {h : Heap} {F : Nat → Prop} {r : Nat} {l : List HE} {n : Int} (H : HV h F r l n) : (l.map (·.1)).Nodup := by
  obtain ⟨m, bl, R, _⟩ := H.rep; exact R.ids

theorem HV.small {h : Heap} {F : Nat → Prop} {r : Nat} {l : List HE} {n : Int} (H : HV h F r l n) : l.length < 2 ^ 40 := by
  obtain ⟨m, bl, R, _⟩ := H.rep; exact R.small

theorem HV.upd {h h' : Heap} {F S : Nat → Prop} {r : Nat} {l : List HE} {n : Int} (H : HV h F r l n) (hu : Upd S h h') (hd : ∀ b, F b → ¬ S b) : HV h' F r l n := by
  obtain ⟨⟨m, bl, R, ho, f1, f2, f3⟩, hlow, hr⟩ := H
  exact ⟨⟨m, bl, R.upd hu (hd _ f1) (hd _ f2) (hd _ f3), ho, f1, f2, f3⟩, fun b hb => Nat.lt_of_lt_of_le (hlow b hb) hu.size, hr⟩

def Min (l : List HE) (p : HE) : Prop := p ∈ l ∧ ∀ q ∈ l, ¬ hlt q p = true

theorem hlt_total {p q : HE} (h1 : ¬ hlt p q = true) (h2 : ¬ hlt q p = true) : p = q := by
  rw [hlt_iff] at h1 h2
  obtain ⟨a, b⟩ := p
  obtain ⟨c, d⟩ := q
  simp only [Prod.mk.injEq] at *
  omega

theorem Min.uniq {l l' : List HE} {p p' : HE} (h : Min l p) (h' : Min l' p') (hp : l.Perm l') : p = p' :=
  hlt_total (h'.2 p (hp.mem_iff.1 h.1)) (h.2 p' (hp.mem_iff.2 h'.1))

theorem HeapOrd.min {l : List HE} (h : HeapOrd l) (hl : 0 < l.length) : Min l l[0] := by
  refine ⟨List.getElem_mem hl, fun q hq => ?_⟩
  obtain ⟨j, hj, rfl⟩ := List.mem_iff_getElem.1 hq
  rw [gt_eq hj, gt_eq hl]
  clear hq
  induction j using Nat.strongRecOn with
  | _ j ih =>
    by_cases h0 : j = 0
    · subst h0; exact fun e => hlt_asymm e e
    · exact hlt_trans (h j (by omega) hj) (ih ((j - 1) / 4) (by omega) (by omega))

theorem len_ok {h : Heap} {F : Nat → Prop} {r : Nat} {l : List HE} {n : Int} {K : Value → Heap → Prop} (H : HV h F r l n) (hK : K (I l.length) h) : callS Tryz.prog F_heap_Heap_Len [ptr r] h K := by
  obtain ⟨⟨m, bl, R, ho, f1, f2, f3⟩, hlow, hrg⟩ := H
  obtain ⟨v, hr, hs⟩ := R.slr
  refine callS_of (lk_heap_Heap_Len _ ?_)
  unfold sh_heap_Heap_Len
  have c0 := hcell0 hr
  simp only [pEq_ptr_nil, Option.isNone_some, ifV_false, pNil_ptr, pField_ptr, pLoad_ptr, c0]
  exact hs.lenK hK

theorem key_ok {h : Heap} {F : Nat → Prop} {r : Nat} {l : List HE} {n id : Int} {K : Value → Heap → Prop} (H : HV h F r l n)
    (h0 : (∀ p ∈ l, p.1 ≠ id) → K (.tuple #[I 0, .bool false]) h) (h1 : ∀ p ∈ l, p.1 = id → K (.tuple #[I p.2, .bool true]) h) : callS Tryz.prog F_heap_Heap_Key [ptr r, I id] h K := by
  refine callS_of (lk_heap_Heap_Key _ _ ?_)
  unfold sh_heap_Heap_Key
  refine len_ok H ?_
  obtain ⟨⟨m, bl, R, ho, f1, f2, f3⟩, hlow, hrg⟩ := H
  obtain ⟨v, hr, hs⟩ := R.slr
  obtain ⟨es, c, hm, him⟩ := R.map
  have c0 := hcell0 hr
  have c1 := hcell1 hr
  simp only [pBin_eql, ifV_beq, pNil_ptr, pField_ptr, pLoad_ptr, c0, c1, Nat.zero_add]
  refine ⟨fun he => h0 (by have : l = [] := List.eq_nil_of_length_eq_zero (by omega); subst this; simp), fun he => ?_⟩
  refine look_of hm him ?_
  rcases pos_cases l id with ⟨i, hi, rfl⟩ | hno
  · simp only [pos_get R.ids hi, if_true, Option.getD_some, Option.isSome_some, pExt_tuple]
    show pUn .not (.bool true) _
    simp only [pUn_not, Bool.not_true, ifV_false]
    refine hs.idx hi ?_
    simp only [pField_ptr, pLoad_ptr, hs.slot encH_len hi (j := 1) (by omega)]
    exact h1 _ (List.getElem_mem hi) rfl
  · simp only [pos_none hno, if_true, Option.getD_none, Option.isSome_none, pExt_tuple]
    show pUn .not (.bool false) _
    simp only [pUn_not, Bool.not_false, ifV_true]
    exact h0 hno

theorem new_ok {h : Heap} {n : Int} {K : Value → Heap → Prop} (hK : ∀ h' F r, HV h' F r [] (max n 0) → (∀ b, F b → h.size ≤ b) → Ext h h' → K (ptr r) h') : callS Tryz.prog F_heap_New [I n] h K := by
  refine callS_of (lk_heap_New _ ?_)
  unfold sh_heap_New pMakeMap pBuild
  refine ⟨by simp [sizesOk], ?_⟩
  dsimp only
  rw [pMax_int]
  have e : (if (0 : Int) > n then 0 else n) = max n 0 := by omega
  rw [e]
  refine ⟨by simp [sizesOk, spliceAll], ?_⟩
  refine pBox_of ?_
  simp only [spliceAll]
  have hs1 : (h.push (Obj.map #[] 0)).size = h.size + 1 := by simp
  refine hK _ (fun b => b = h.size ∨ b = h.size + 1) (h.push (Obj.map #[] 0)).size ?_ (fun b hb => by omega) ((Upd.push _ _ _).trans (Upd.push _ _ _) fun _ h _ => h)
  have hm : ((h.push (Obj.map #[] 0)).push (.cells #[.slice none 0 0, .map (some h.size), I (max n 0)] tHeap (0, 0)))[h.size]? = some (.map #[] 0) :=
    (Upd.push (fun _ => False) (h.push (Obj.map #[] 0)) (.cells #[.slice none 0 0, .map (some h.size), I (max n 0)] tHeap (0, 0))).get push_new id
  refine ⟨⟨h.size, h.size, Rep.of push_new (.inl ⟨rfl, rfl⟩) hm (IMap.empty.congr fun k => rfl) (by simp) (by simp), fun j _ hj => by simp at hj, .inr hs1, .inl rfl, .inl rfl⟩, fun b hb => by simp; omega, by simp⟩

end Go.Proofs.YtgefabaobhendaaGreatDoor

namespace Go.Proofs.YtgefabaobhendaaGreatDoor
open Go Go.Mh

theorem gt_append {l : List HE} {a : HE} {j : Nat} (hj : j < l.length) : gt (l ++ [a]) j = gt l j := by
  simp [gt, List.getElem?_append_left hj]

theorem pos_append {l : List HE} {a : HE} (hno : ∀ p ∈ l, p.1 ≠ a.1) (x : Int) : fset (pos l) a.1 (I l.length) x = pos (l ++ [a]) x := by
  unfold fset pos
  rw [List.findIdx?_append]
  by_cases hx : x = a.1
  · subst hx
    have : l.findIdx? (fun p => p.1 == a.1) = none := by
      rw [List.findIdx?_eq_none_iff]; intro p hp; simpa using hno p hp
    simp [this]
  · rw [if_neg hx]
    have : [a].findIdx? (fun p => p.1 == x) = none := by
      rw [List.findIdx?_eq_none_iff]; intro p hp; simp at hp; subst hp; simpa using fun e => hx e.symm
    rw [this]; simp

theorem push_ok {h : Heap} {F : Nat → Prop} {r : Nat} {l : List HE} {n id key : Int} {K : Value → Heap → Prop} (H : HV h F r l n) (hsm : l.length + 1 < 2 ^ 40)
    (h2 : ((∃ p ∈ l, p.1 = id) ∨ id < 0 ∨ n ≤ id) → K (I 2) h)
    (h0 : (∀ p ∈ l, p.1 ≠ id) → 0 ≤ id → id < n → ∀ h' F' l', HV h' F' r l' n → l'.Perm ((id, key) :: l) → Grow h F F' → Upd F h h' → K (I 0) h') :
    callS Tryz.prog F_heap_Heap_Push [ptr r, I id, I key] h K := by
  refine callS_of (lk_heap_Heap_Push _ _ _ ?_)
  unfold sh_heap_Heap_Push
  obtain ⟨⟨m, bl, R, ho, f1, f2, f3⟩, hlow, hrg⟩ := H
  obtain ⟨v, hr, hs⟩ := R.slr
  obtain ⟨es, c, hm, him⟩ := R.map
  have c0 := hcell0 hr
  have c1 := hcell1 hr
  have c2 := hcell2 hr
  simp only [pEq_ptr_nil, Option.isNone_some, ifV_false, pNil_ptr, pField_ptr, pLoad_ptr, c0, c1, c2, Nat.zero_add]
  refine look_of hm him ?_
  rcases pos_cases l id with ⟨i, hi, rfl⟩ | hno
  · simp only [pos_get R.ids hi, if_true, Option.getD_some, Option.isSome_some, pExt_tuple]
    show ifV (.bool true) _ _
    simp only [ifV_true]
    exact h2 (.inl ⟨_, List.getElem_mem hi, rfl⟩)
  · simp only [pos_none hno, if_true, Option.getD_none, Option.isSome_none, pExt_tuple]
    show ifV (.bool false) _ _
    simp only [ifV_false, pBin_lss, pBin_geq, ifV_dec]
    refine ⟨fun hlt => h2 (.inr (.inl hlt)), fun hlt => ⟨fun hge => h2 (.inr (.inr hge)), fun hge => ?_⟩⟩
    refine hs.lenK ?_
    refine mapSet_of hm him fun es' c' him' => ?_
    have hrm : m ≠ r := by rintro rfl; rw [hm] at hr; simp at hr
    have hr1 := (upd_ne (o := .map es' c') hrm).trans hr
    have c0' := hcell0 hr1
    simp only [c0']
    have hs1 : SlR encH 2 tHeld (upd h m (.map es' c')) v bl l := by
      rcases hs with ⟨a, b⟩ | ⟨cap, rest, a, b, c, d⟩
      · exact .inl ⟨a, b⟩
      · have : m ≠ bl := by rintro rfl; rw [hm] at b; simp at b
        exact .inr ⟨cap, rest, a, (upd_ne this).trans b, c, d⟩
    have hm1 : (upd h m (.map es' c'))[m]? = some (.map es' c') := upd_self' hm
    have u1 : Upd (fun b => b = m) h (upd h m (.map es' c')) := Upd.upd _ _ rfl
    have hsz1 : (upd h m (.map es' c')).size = h.size := upd_size
    generalize upd h m (.map es' c') = h1 at hr1 hs1 hm1 u1 hsz1
    refine ⟨by simp [sizesOk], ?_⟩
    refine ⟨by simp [sizesOk, spliceAll, zerosL, Value.cells], ?_⟩
    have hnew : (h1.push (.cells (spliceAll (zerosL [Value.int .i64 0, Value.int .i64 0] 1) [(0, 2, .agg (spliceAll [Value.int .i64 0, Value.int .i64 0] [(0, 1, I id), (1, 1, I key)]).toArray)]).toArray tHeld (0, 0)))[h1.size]? =
      some (.cells #[I id, I key] tHeld (0, 0)) := by rw [push_new]; rfl
    have u2 := Upd.push (fun _ => False) h1 (.cells (spliceAll (zerosL [Value.int .i64 0, Value.int .i64 0] 1) [(0, 2, .agg (spliceAll [Value.int .i64 0, Value.int .i64 0] [(0, 1, I id), (1, 1, I key)]).toArray)]).toArray tHeld (0, 0))
    have hsz2 : (h1.push (.cells (spliceAll (zerosL [Value.int .i64 0, Value.int .i64 0] 1) [(0, 2, .agg (spliceAll [Value.int .i64 0, Value.int .i64 0] [(0, 1, I id), (1, 1, I key)]).toArray)]).toArray tHeld (0, 0))).size = h1.size + 1 := push_size
    generalize (h1.push (.cells (spliceAll (zerosL [Value.int .i64 0, Value.int .i64 0] 1) [(0, 2, .agg (spliceAll [Value.int .i64 0, Value.int .i64 0] [(0, 1, I id), (1, 1, I key)]).toArray)]).toArray tHeld (0, 0))) = h2' at hnew u2 hsz2
    refine append_of (ys := [(id, key)]) encH_len encH_plain rfl (hs1.upd u2 (fun f => f)) rfl ?_ (by decide) (by simp; omega) fun v' bl' h3 hs3 hbl' u3 hlt3 => ?_
    · simp only [cellsOfSl, Nat.one_mul]
      rw [cellsAt_of (i := 0) (cs := [I id, I key]) hnew _ 0 (by simp)]; rfl
    have hr3 : h3[r]? = _ := u3.get (u2.get hr1 (fun f => f)) (by
      rintro ⟨rfl, cs, hcs⟩
      rw [u2.get hr1 (fun f => f)] at hcs; simp at hcs; exact absurd hcs.2 (by decide))
    have hm3 : h3[m]? = _ := u3.get (u2.get hm1 (fun f => f)) (by
      rintro ⟨rfl, cs, hcs⟩
      rw [u2.get hm1 (fun f => f)] at hcs; simp at hcs)
    have hrb : r ≠ bl' := by
      rintro rfl
      obtain ⟨_, _, _, hb, _⟩ := hs3.full (by simp)
      rw [hr3] at hb; simp at hb; exact absurd hb.2 (by decide)
    refine pStore_of rfl hr3 (by rcases hs3.len with ⟨_, _, rfl⟩; rfl) (by rcases hs3.len with ⟨_, _, rfl⟩; simp) (by rcases hs3.len with ⟨_, _, rfl⟩; simp) ?_
    have ec : over [v, Value.map (some m), I n] 0 v'.cells.toList = [v', Value.map (some m), I n] := by
      rcases hs3.len with ⟨_, _, rfl⟩; rfl
    rw [ec]
    have u4 : Upd (fun b => b = r) h3 (upd h3 r (.cells [v', Value.map (some m), I n].toArray tHeap (0, 0))) := Upd.upd _ _ rfl
    have hr4 : (upd h3 r (.cells [v', Value.map (some m), I n].toArray tHeap (0, 0)))[r]? = _ := upd_self' hr3
    have hm4 := u4.get hm3 hrm
    have hs4 := hs3.upd u4 (fun e => hrb e.symm)
    generalize upd h3 r (.cells [v', Value.map (some m), I n].toArray tHeap (0, 0)) = h4 at u4 hr4 hm4 hs4
    have c4 := hcell0 hr4
    simp only [c4]
    refine hs4.lenK ?_
    have e5 : IntKind.i64.wrap (((l ++ [(id, key)]).length : Int) - 1) = (l.length : Int) := by
      rw [List.length_append, List.length_singleton, w64 (by omega) (by omega)]; omega
    rw [pBin_sub, e5]
    have R4 : Rep h4 r m bl' (l ++ [(id, key)]) n := by
      refine Rep.of hr4 hs4 hm4 (him'.congr (pos_append (a := (id, key)) hno)) ?_ (by simpa using hsm)
      rw [List.map_append, List.nodup_append]
      refine ⟨R.ids, by simp, ?_⟩
      intro a ha b hb
      simp at hb; subst hb
      obtain ⟨p, hp, rfl⟩ := List.mem_map.1 ha
      exact hno p hp
    refine up_ok R4 (i := l.length) (by simp) ?_ fun h5 l5 R5 hp5 ho5 u5 => ?_
    · refine ⟨fun j j0 j1 j2 => ?_, fun _ j j0 j1 j2 => ?_⟩
      · have j3 : j < l.length := by simp at j1; omega
        rw [gt_append j3, gt_append (show (j - 1) / 4 < l.length by omega)]
        exact ho j j0 j3
      · simp at j1; omega
    have hbh : h.size ≤ h2'.size := by omega
    have hblF : bl' = bl ∨ h.size ≤ bl' := by rcases hbl' with e | e <;> omega
    have u3' : Upd F h2' h3 := u3.mono fun b hb _ => hb.1 ▸ f3
    have u14 : Upd F h h4 := (((u1.mono (S' := F) fun b hb _ => by subst hb; exact f2).trans (u2.mono (S' := F) fun _ hf _ => hf.elim) fun _ h _ => h).trans u3' fun _ h _ => h).trans (u4.mono (S' := F) fun b hb _ => by subst hb; exact f1) fun _ h _ => h
    have u15 : Upd F h h5 := u14.trans u5 fun b hb hlt => by
      rcases hb with rfl | rfl
      · exact f2
      · rcases hblF with e | e
        · rw [e]; exact f3
        · omega
    have hsz5 := u15.size
    have hblt5 : bl' < h5.size := Nat.lt_of_lt_of_le (hlt3 (by have := hlow _ f3; omega)) (Nat.le_trans u4.size u5.size)
    refine h0 hno (by omega) (by omega) h5 (fun b => F b ∨ b = bl') l5 ⟨⟨m, bl', R5, ho5, .inl f1, .inl f2, .inr rfl⟩, ?_, ?_⟩ ?_ ?_ u15
    · rintro b (hb | rfl)
      · exact Nat.lt_of_lt_of_le (hlow b hb) hsz5
      · exact hblt5
    · intro p hp
      have := hp5.mem_iff.1 hp
      simp only [List.mem_append, List.mem_singleton] at this
      rcases this with hp | rfl
      · exact hrg p hp
      · exact ⟨by omega, by omega⟩
    · exact hp5.trans (List.perm_append_comm (l₁ := l) (l₂ := [(id, key)]))
    · rintro b (hb | rfl)
      · exact .inl hb
      · rcases hblF with e | e
        · rw [e]; exact .inl f3
        · exact .inr e

end Go.Proofs.YtgefabaobhendaaGreatDoor

namespace Go.Proofs.YtgefabaobhendaaGreatDoor
open Go Go.Mh

theorem gt_set {l : List HE} {i j : Nat} {a : HE} (hi : i < l.length) : gt (l.set i a) j = if j = i then a else gt l j := by
  by_cases e : j = i
  · subst e; simp [gt, hi]
  · by_cases hj : j < l.length
    · simp [gt, hj, e, List.getElem_set, show ¬ i = j from fun h => e h.symm]
    · simp [gt, hj, e]

theorem ids_set {l : List HE} {i : Nat} {k : Int} (hi : i < l.length) : (l.set i (l[i].1, k)).map (·.1) = l.map (·.1) := by
  apply List.ext_getElem
  · simp
  · intro j h1 h2
    simp only [List.getElem_map, List.getElem_set]
    split
    · rename_i e; subst e; rfl
    · rfl

theorem pos_ids {l l' : List HE} (h : l.map (·.1) = l'.map (·.1)) (x : Int) : pos l x = pos l' x := by
  have key : ∀ l : List HE, pos l x = ((l.map (·.1)).findIdx? (· == x)).map fun i => I i := by
    intro l; unfold pos; rw [List.findIdx?_map]; rfl
  rw [key, key, h]

theorem set_perm {l : List HE} {i : Nat} {a : HE} (hi : i < l.length) : (l.set i a).Perm (a :: l.erase l[i]) := by
  rw [List.perm_iff_count]
  intro x
  rw [List.count_set hi, List.count_cons, List.count_erase]

theorem lower_ok {h : Heap} {F : Nat → Prop} {r : Nat} {l : List HE} {n id key : Int} {K : Value → Heap → Prop} (H : HV h F r l n)
    (h2 : (id < 0 ∨ n ≤ id) → K (I 2) h)
    (h20 : 0 ≤ id → id < n → (∀ p ∈ l, p.1 ≠ id) → K (I 20) h)
    (h2' : ∀ p ∈ l, p.1 = id → p.2 < key → K (I 2) h)
    (h0 : ∀ p ∈ l, p.1 = id → ¬ p.2 < key → ∀ h' F' l', HV h' F' r l' n → l'.Perm ((id, key) :: l.erase p) → Grow h F F' → Upd F h h' → K (I 0) h') :
    callS Tryz.prog F_heap_Heap_Lower [ptr r, I id, I key] h K := by
  refine callS_of (lk_heap_Heap_Lower _ _ _ ?_)
  unfold sh_heap_Heap_Lower
  obtain ⟨⟨m, bl, R, ho, f1, f2, f3⟩, hlow, hrg⟩ := H
  obtain ⟨v, hr, hs⟩ := R.slr
  obtain ⟨es, c, hm, him⟩ := R.map
  have c0 := hcell0 hr
  have c1 := hcell1 hr
  have c2 := hcell2 hr
  simp only [pEq_ptr_nil, Option.isNone_some, ifV_false, pNil_ptr, pField_ptr, pLoad_ptr, c0, c1, c2, Nat.zero_add]
  refine look_of hm him ?_
  rcases pos_cases l id with ⟨i, hi, rfl⟩ | hno
  · have hrg' := hrg _ (List.getElem_mem hi)
    simp only [pos_get R.ids hi, if_true, Option.getD_some, Option.isSome_some]
    simp only [pExt_tuple]
    show pBin .lss _ _ _
    simp only [pBin_lss, pBin_geq, ifV_dec]
    refine ⟨fun hlt => by omega, fun _ => ⟨fun hge => by omega, fun _ => ?_⟩⟩
    show pUn .not (.bool true) _
    simp only [pUn_not, Bool.not_true, ifV_false]
    refine hs.idx hi ?_
    have ck := hs.slot encH_len hi (j := 1) (by omega)
    have ck' : hcell h ⟨bl, i * 2 + 1, none⟩ = some (I l[i].2) := ck
    simp only [pField_ptr, pLoad_ptr, ck']
    simp only [pBin_lss, ifV_dec]
    refine ⟨fun hk => h2' _ (List.getElem_mem hi) rfl hk, fun hk => ?_⟩
    refine hs.idx hi ?_
    obtain ⟨cap, rest, rfl, hb, hrest, hcap⟩ := hs.full (by omega)
    have hlen := row_length encH_len l
    simp only [pField_ptr]
    refine pStore_of rfl hb rfl (by simp [hlen]; omega) (by simp) ?_
    have eo : over (Mh.row encH l ++ rest) (i * 2 + 1) (I key).cells.toList = Mh.row encH (l.set i (l[i].1, key)) ++ rest := by
      have o := row_over encH_len hi (l[i].1, key) rest
      rw [← o]
      have hsl := row_slot encH_len hi rest
      have hd : (Mh.row encH l ++ rest).drop (i * 2) = I l[i].1 :: (Mh.row encH l ++ rest).drop (i * 2 + 1) := by
        have hg := row_get encH_len hi (j := 0) (by omega) rest
        have hlt' : i * 2 < (Mh.row encH l ++ rest).length := by simp [hlen]; omega
        rw [List.drop_eq_getElem_cons hlt']
        congr 1
        rw [Nat.add_zero, List.getElem?_eq_getElem hlt'] at hg
        simpa [encH] using hg
      have ht : (Mh.row encH l ++ rest).take (i * 2 + 1) = (Mh.row encH l ++ rest).take (i * 2) ++ [I l[i].1] := by
        have hlt' : i * 2 < (Mh.row encH l ++ rest).length := by simp [hlen]; omega
        rw [List.take_succ_eq_append_getElem hlt']
        congr 2
        have hg := row_get encH_len hi (j := 0) (by omega) rest
        rw [Nat.add_zero, List.getElem?_eq_getElem hlt'] at hg
        simpa [encH] using hg
      unfold over
      rw [ht]
      simp [encH]
    rw [eo]
    obtain ⟨hne1, hne2, hne3⟩ := R.r_ne (by omega)
    have hb1 : (upd h bl (.cells (Mh.row encH (l.set i (l[i].1, key)) ++ rest).toArray tHeld (0, 0)))[bl]? = _ := upd_self' hb
    have hr1 := (upd_ne (o := .cells (Mh.row encH (l.set i (l[i].1, key)) ++ rest).toArray tHeld (0, 0)) hne1.symm).trans hr
    have hm1 := (upd_ne (o := .cells (Mh.row encH (l.set i (l[i].1, key)) ++ rest).toArray tHeld (0, 0)) hne3).trans hm
    have u1 : Upd F h (upd h bl (.cells (Mh.row encH (l.set i (l[i].1, key)) ++ rest).toArray tHeld (0, 0))) := Upd.upd _ _ f3
    generalize upd h bl (.cells (Mh.row encH (l.set i (l[i].1, key)) ++ rest).toArray tHeld (0, 0)) = h1 at hb1 hr1 hm1 u1
    have hl1 : (l.set i (l[i].1, key)).length = l.length := List.length_set
    have R1 : Rep h1 r m bl (l.set i (l[i].1, key)) n := Rep.of hr1 (.inr ⟨cap, rest, by rw [hl1], hb1, by rw [hl1]; exact hrest, by rw [hl1]; exact hcap⟩) hm1
      (him.congr (pos_ids (ids_set hi).symm)) (by rw [ids_set hi]; exact R.ids) (by rw [hl1]; exact R.small)
    have hnew : ¬ hlt l[i] (l[i].1, key) = true := by rw [hlt_iff]; simp only; omega
    refine up_ok R1 (i := i) (by rw [hl1]; exact hi) ?_ fun h5 l5 R5 hp5 ho5 u5 => ?_
    · refine ⟨fun j j0 j1 j2 => ?_, fun i0 j j0 j1 j2 => ?_⟩
      · rw [hl1] at j1
        rw [gt_set hi, gt_set hi, if_neg j2]
        have := ho j j0 j1
        split
        · rename_i e; rw [e, ← gt_eq hi] at this; exact hlt_trans this hnew
        · exact this
      · rw [hl1] at j1
        rw [gt_set hi, gt_set hi, if_neg (by omega), if_neg (by omega)]
        have a := ho j j0 j1
        have b := ho i i0 hi
        rw [j2] at a
        exact hlt_trans a b
    · refine h0 _ (List.getElem_mem hi) rfl hk h5 F l5 ⟨⟨m, bl, R5, ho5, f1, f2, f3⟩, ?_, ?_⟩ ?_ (fun b hb => .inl hb) ?_
      · exact fun b hb => Nat.lt_of_lt_of_le (hlow b hb) (Nat.le_trans u1.size u5.size)
      · intro p hp
        have := hp5.mem_iff.1 hp
        have hm' : p.1 ∈ (l.set i (l[i].1, key)).map (·.1) := List.mem_map.2 ⟨p, this, rfl⟩
        rw [ids_set hi] at hm'
        obtain ⟨q, hq, hqe⟩ := List.mem_map.1 hm'
        rw [← hqe]; exact hrg q hq
      · exact hp5.trans (set_perm hi)
      · exact u1.trans u5 fun b hb hlt => by rcases hb with rfl | rfl; exact f2; exact f3
  · simp only [pos_none hno, if_true, Option.getD_none, Option.isSome_none, pExt_tuple]
    show pBin .lss _ _ _
    simp only [pBin_lss, pBin_geq, ifV_dec]
    refine ⟨fun hlt => h2 (.inl hlt), fun hlt => ⟨fun hge => h2 (.inr hge), fun hge => ?_⟩⟩
    show pUn .not (.bool false) _
    simp only [pUn_not, Bool.not_false, ifV_true]
    exact h20 (by omega) (by omega) hno

end Go.Proofs.YtgefabaobhendaaGreatDoor

namespace Go.Proofs.YtgefabaobhendaaGreatDoor
open Go Go.Mh

theorem swapL_last {l : List HE} (hl : 0 < l.length) : swapL l 0 (l.length - 1) hl (by omega) = (swapL l 0 (l.length - 1) hl (by omega)).take (l.length - 1) ++ [l[0]] := by
  have hlen := swapL_length (l := l) hl (show l.length - 1 < l.length by omega)
  apply List.ext_getElem
  · simp [hlen]; omega
  · intro j h1 h2
    rw [hlen] at h1
    by_cases hj : j < l.length - 1
    · rw [List.getElem_append_left (by simp [hlen]; omega)]; simp
    · have : j = l.length - 1 := by omega
      subst this
      rw [swapL_get, if_pos rfl, List.getElem_append_right (by simp [hlen])]
      simp

theorem pos_del {l2 : List HE} {p : HE} (hn : ((l2 ++ [p]).map (·.1)).Nodup) (x : Int) : fdel (pos (l2 ++ [p])) p.1 x = pos l2 x := by
  unfold fdel
  by_cases hx : x = p.1
  · subst hx
    rw [if_pos rfl]
    refine (pos_none fun q hq e => ?_).symm
    rw [List.map_append, List.nodup_append] at hn
    exact hn.2.2 q.1 (List.mem_map.2 ⟨q, hq, rfl⟩) p.1 (by simp) e
  · rw [if_neg hx]
    unfold pos
    rw [List.findIdx?_append]
    have : [p].findIdx? (fun q => q.1 == x) = none := by
      rw [List.findIdx?_eq_none_iff]; intro q hq; simp at hq; subst hq; simpa using fun e => hx e.symm
    rw [this]; simp

theorem pop_ok {h : Heap} {F : Nat → Prop} {r : Nat} {l : List HE} {n : Int} {K : Value → Heap → Prop} (H : HV h F r l n)
    (h0 : l = [] → K (.tuple #[I 0, I 0, .bool false]) h)
    (h1 : ∀ p, Min l p → ∀ h' F' l', HV h' F' r l' n → l'.Perm (l.erase p) → Grow h F F' → Upd F h h' → K (.tuple #[I p.1, I p.2, .bool true]) h') :
    callS Tryz.prog F_heap_Heap_Pop [ptr r] h K := by
  refine callS_of (lk_heap_Heap_Pop _ ?_)
  unfold sh_heap_Heap_Pop
  refine len_ok H ?_
  obtain ⟨⟨m, bl, R, ho, f1, f2, f3⟩, hlow, hrg⟩ := H
  obtain ⟨v, hr, hs⟩ := R.slr
  obtain ⟨es, c, hm, him⟩ := R.map
  have c0 := hcell0 hr
  simp only [pBin_eql, ifV_beq, pNil_ptr, pField_ptr, pLoad_ptr, c0, Nat.zero_add]
  refine ⟨fun he => h0 (List.eq_nil_of_length_eq_zero (by omega)), fun he => ?_⟩
  have hl : 0 < l.length := by omega
  refine hs.idx (i := 0) (k := .i64) hl ?_
  simp only [pLoadN_ptr, Nat.zero_mul]
  have ca : cellsAt h bl 0 2 = some [I l[0].1, I l[0].2] := by
    obtain ⟨cap, rest, rfl, hb, _, _⟩ := hs.full hl
    have hlen := row_length encH_len l
    rw [cellsAt_of (i := 0) hb 2 0 (by simp [hlen]; omega)]
    have := row_slot encH_len hl rest
    rw [Nat.zero_mul] at this
    rw [this]; rfl
  simp only [ca]
  refine hs.lenK ?_
  have e1 : IntKind.i64.wrap ((l.length : Int) - 1) = ((l.length - 1 : Nat) : Int) := by
    have := R.small
    rw [w64 (by omega) (by omega)]; omega
  rw [pBin_sub, e1]
  refine pBox_of ?_
  refine pStore_of rfl push_new rfl (by simp) (by simp [Mh.plainCell]) ?_
  have x1 : Ext h (upd (h.push (.cells (Value.agg #[.int .i64 0, .int .i64 0]).cells T_heap_held (0, 0))) h.size (.cells (over [Value.int .i64 0, Value.int .i64 0] 0 (Value.agg [I l[0].1, I l[0].2].toArray).cells.toList).toArray T_heap_held (0, 0))) :=
    ((Upd.push _ _ _).trans (Upd.upd (S := fun b => b = h.size) _ _ rfl) (fun b hb hlt => by omega))
  have hf1 : (upd (h.push (.cells (Value.agg #[.int .i64 0, .int .i64 0]).cells T_heap_held (0, 0))) h.size (.cells (over [Value.int .i64 0, Value.int .i64 0] 0 (Value.agg [I l[0].1, I l[0].2].toArray).cells.toList).toArray T_heap_held (0, 0)))[h.size]? =
    some (.cells #[I l[0].1, I l[0].2] T_heap_held (0, 0)) := upd_self' push_new
  have hsz1 := get_lt hf1
  generalize (upd (h.push (.cells (Value.agg #[.int .i64 0, .int .i64 0]).cells T_heap_held (0, 0))) h.size (.cells (over [Value.int .i64 0, Value.int .i64 0] 0 (Value.agg [I l[0].1, I l[0].2].toArray).cells.toList).toArray T_heap_held (0, 0))) = hA at x1 hf1 hsz1
  have R1 := R.upd x1 id id id
  have hrA := x1.get hr
  have cA := hcell0 hrA
  simp only [cA, true_and]
  have hrs := hlow _ f1
  have hms := hlow _ f2
  have hbs := hlow _ f3
  refine swap_ok R1 (i := 0) (k := l.length - 1) hl (by omega) fun h2 R2 u2 => ?_
  obtain ⟨S, R2, hlen, hS, hnd, hperm, hgt⟩ : ∃ S : List HE, Rep h2 r m bl S n ∧ S.length = l.length ∧ S = S.take (l.length - 1) ++ [l[0]] ∧ (S.map (·.1)).Nodup ∧ S.Perm l ∧
      (∀ j, gt S j = if j = l.length - 1 then gt l 0 else if j = 0 then gt l (l.length - 1) else gt l j) :=
    ⟨_, R2, swapL_length _ _, swapL_last hl, R2.ids, swapL_perm _ _, swapL_gt _ _⟩
  obtain ⟨v2, hr2, hs2⟩ := R2.slr
  obtain ⟨es2, c2, hm2, him2⟩ := R2.map
  have d0 := hcell0 hr2
  have hf2 := u2.get hf1 (by omega)
  simp only [d0]
  refine hs2.pre encH_len (by rw [hlen]; omega) fun v3 hs3 => ?_
  have hcs3 : v3.cells.size = 1 ∧ (∀ u ∈ v3.cells.toList, Mh.plainCell u = true) ∧ v3.cells.toList = [v3] := by
    rcases hs3.len with ⟨_, _, rfl⟩; simp
  refine pStore_of rfl hr2 hcs3.1 (by rw [hcs3.1]; simp) hcs3.2.1 ?_
  have ec : over [v2, Value.map (some m), I n] 0 v3.cells.toList = [v3, Value.map (some m), I n] := by rw [hcs3.2.2]; rfl
  rw [ec]
  have u3 : Upd (fun b => b = r) h2 (upd h2 r (.cells [v3, Value.map (some m), I n].toArray tHeap (0, 0))) := Upd.upd _ _ rfl
  have hr3 : (upd h2 r (.cells [v3, Value.map (some m), I n].toArray tHeap (0, 0)))[r]? = _ := upd_self' hr2
  obtain ⟨hne1, hne2, hne3⟩ := R2.r_ne (by omega)
  have hm3 := u3.get hm2 (fun e => hne2 e.symm)
  have hs3' := hs3.upd u3 (fun e => hne1 e.symm)
  have hf3 := u3.get hf2 (by omega)
  generalize upd h2 r (.cells [v3, Value.map (some m), I n].toArray tHeap (0, 0)) = h3 at u3 hr3 hm3 hs3' hf3
  have g1 := hcell1 hr3
  have g2 := hcell0 hf3
  simp only [g1, g2, pField_ptr, pLoad_ptr, Nat.add_zero, Nat.zero_add]
  refine delete_of hm3 him2 fun es4 him4 => ?_
  have u4 : Upd (fun b => b = m) h3 (upd h3 m (.map es4 c2)) := Upd.upd _ _ rfl
  have hr4 := u4.get hr3 hne2
  have hm4 : (upd h3 m (.map es4 c2))[m]? = _ := upd_self' hm3
  have hs4 := hs3'.upd u4 hne3
  have hf4 := u4.get hf3 (by omega)
  generalize upd h3 m (.map es4 c2) = h4 at u4 hr4 hm4 hs4 hf4
  have hl2 : (S.take (l.length - 1)).length = l.length - 1 := by simp [hlen]
  have hpS : S.Perm (l[0] :: S.take (l.length - 1)) := by
    rw [hS]
    have : ((S.take (l.length - 1)) ++ [l[0]]).take (l.length - 1) = S.take (l.length - 1) := by rw [List.take_append_of_le_length (by rw [hl2]; exact Nat.le_refl _), List.take_take, Nat.min_self]
    rw [this]
    exact List.perm_append_comm
  have R4 : Rep h4 r m bl (S.take (l.length - 1)) n := by
    refine Rep.of hr4 hs4 hm4 (him4.congr fun x => ?_) ?_ (by rw [hl2]; have := R.small; omega)
    · have := pos_del (l2 := S.take (l.length - 1)) (p := l[0]) (by rw [← hS]; exact hnd) x
      rw [← hS] at this; exact this
    · have := (hpS.map (·.1)).nodup_iff.1 hnd
      rw [List.map_cons, List.nodup_cons] at this
      exact this.2
  have gtk : ∀ j, j < l.length - 1 → gt (S.take (l.length - 1)) j = gt S j := by
    intro j hj
    rw [← gt_eq (by rw [hl2]; exact hj), ← gt_eq (by rw [hlen]; omega)]
    simp
  have hbl4 : bl < h4.size := by
    have a := x1.size; have b := u2.size; have c := u3.size; have d := u4.size; omega
  have u14 : Upd F h h4 := (((x1.mono (S' := F) fun _ hf _ => hf.elim).trans u2 fun b hb _ => by rcases hb with rfl | rfl; exact f2; exact f3).trans u3 fun b hb _ => by subst hb; exact f1).trans u4 fun b hb _ => by subst hb; exact f2
  refine down_ok R4 (i := 0) (by decide) (by rcases Nat.eq_zero_or_pos (l.length - 1) with e | e; exact .inr (List.eq_nil_of_length_eq_zero (by rw [hl2]; exact e)); exact .inl (by rw [hl2]; exact e)) hbl4 ?_ fun h5 l5 R5 hp5 ho5 u5 => ?_
  · refine ⟨fun j j0 j1 j2 => ?_, fun i0 => absurd i0 (Nat.lt_irrefl 0)⟩
    rw [hl2] at j1
    have hj4 : (j - 1) / 4 < l.length - 1 := by omega
    rw [gtk j j1, gtk _ hj4, hgt, hgt, if_neg (by omega), if_neg (by omega), if_neg (by omega), if_neg (by omega)]
    exact ho j j0 (by omega)
  · have hf5 := u5.get hf4 (by omega)
    have k0 := hcell0 hf5
    have k1 := hcell1 hf5
    simp only [k0, k1, pField_ptr, pLoad_ptr, Nat.add_zero, Nat.zero_add]
    have u15 : Upd F h h5 := u14.trans u5 fun b hb _ => by rcases hb with rfl | rfl; exact f2; exact f3
    have hpe : l5.Perm (l.erase l[0]) := by
      have := (hperm.symm.trans hpS).erase l[0]
      simp only [List.erase_cons_head] at this
      exact hp5.trans this.symm
    refine h1 l[0] (ho.min hl) h5 F l5 ⟨⟨m, bl, R5, ho5, f1, f2, f3⟩, fun b hb => Nat.lt_of_lt_of_le (hlow b hb) u15.size, fun p hp => hrg p (List.mem_of_mem_erase (hpe.mem_iff.1 hp))⟩ hpe (fun b hb => .inl hb) u15

theorem pop_nil {h : Heap} {K : Value → Heap → Prop} (hK : K (.tuple #[I 0, I 0, .bool false]) h) : callS Tryz.prog F_heap_Heap_Pop [.pointer none] h K := by
  refine callS_of (lk_heap_Heap_Pop _ ?_)
  unfold sh_heap_Heap_Pop
  refine callS_of (lk_heap_Heap_Len _ ?_)
  unfold sh_heap_Heap_Len
  simpa using hK

end Go.Proofs.YtgefabaobhendaaGreatDoor

namespace Go.Proofs.YtgefabaobhendaaGreatDoor
open Go Go.Mh

instance (l : List HE) (p : HE) : Decidable (Min l p) := by unfold Min; exact inferInstance

/-- The same, where only what is held counts, not how it lies. -/
def PV (h : Heap) (F : Nat → Prop) (r : Nat) (L : List HE) (n : Int) : Prop := ∃ l, HV h F r l n ∧ l.Perm L

def Disj (F G : Nat → Prop) : Prop := ∀ b, F b → ¬ G b

section
variable {h h' : Heap} {F G S : Nat → Prop} {r : Nat} {L : List HE} {n id key : Int} {K : Value → Heap → Prop} {p : HE}

theorem PV.upd (H : PV h F r L n) (hu : Upd S h h') (hd : Disj F S) : PV h' F r L n := by
  obtain ⟨l, H, hp⟩ := H; exact ⟨l, H.upd hu hd, hp⟩
theorem PV.low (H : PV h F r L n) : ∀ b, F b → b < h.size := by obtain ⟨l, H, hp⟩ := H; exact H.low
theorem PV.rng (H : PV h F r L n) : ∀ p ∈ L, 0 ≤ p.1 ∧ p.1 < n := by obtain ⟨l, H, hp⟩ := H; exact fun p h => H.rng p (hp.mem_iff.2 h)
theorem PV.nodup (H : PV h F r L n) : (L.map (·.1)).Nodup := by obtain ⟨l, H, hp⟩ := H; exact (hp.map _).nodup_iff.1 H.nodup

theorem Min.perm {l l' : List HE} (hp : l.Perm l') (h : Min l p) : Min l' p := ⟨hp.mem_iff.1 h.1, fun q hq => h.2 q (hp.mem_iff.2 hq)⟩

theorem PV.perm {L' : List HE} (H : PV h F r L n) (hp : L.Perm L') : PV h F r L' n := by
  obtain ⟨l, H, hp'⟩ := H; exact ⟨l, H, hp'.trans hp⟩

theorem plen (H : PV h F r L n) (hK : K (I L.length) h) : callS Tryz.prog F_heap_Heap_Len [ptr r] h K := by
  obtain ⟨l, H, hp⟩ := H; exact len_ok H (by rw [hp.length_eq]; exact hK)
theorem pkey (H : PV h F r L n) (h0 : (∀ p ∈ L, p.1 ≠ id) → K (.tuple #[I 0, .bool false]) h) (h1 : ∀ p ∈ L, p.1 = id → K (.tuple #[I p.2, .bool true]) h) : callS Tryz.prog F_heap_Heap_Key [ptr r, I id] h K := by
  obtain ⟨l, H, hp⟩ := H
  exact key_ok H (fun e => h0 fun p hm => e p (hp.mem_iff.2 hm)) fun p hm => h1 p (hp.mem_iff.1 hm)
theorem pnew (hK : ∀ h' F r, PV h' F r [] (max n 0) → (∀ b, F b → h.size ≤ b) → Ext h h' → K (ptr r) h') : callS Tryz.prog F_heap_New [I n] h K :=
  new_ok fun h' F r H a b => hK h' F r ⟨[], H, .refl _⟩ a b
theorem ppush (H : PV h F r L n) (hsm : L.length + 1 < 2 ^ 40)
    (h2 : ((∃ p ∈ L, p.1 = id) ∨ id < 0 ∨ n ≤ id) → K (I 2) h)
    (h0 : (∀ p ∈ L, p.1 ≠ id) → 0 ≤ id → id < n → ∀ h' F', PV h' F' r ((id, key) :: L) n → Grow h F F' → Upd F h h' → K (I 0) h') :
    callS Tryz.prog F_heap_Heap_Push [ptr r, I id, I key] h K := by
  obtain ⟨l, H, hp⟩ := H
  refine push_ok H (by rw [hp.length_eq]; exact hsm) (fun e => h2 ?_) fun hno a b h' F' l' H' hp' hg hu => h0 (fun p hm => hno p (hp.mem_iff.2 hm)) a b h' F' ⟨l', H', hp'.trans (hp.cons _)⟩ hg hu
  rcases e with ⟨p, hm, e⟩ | e
  · exact .inl ⟨p, hp.mem_iff.1 hm, e⟩
  · exact .inr e
theorem ppush0 (H : PV h F r L n) (hsm : L.length + 1 < 2 ^ 40) (hno : ∀ p ∈ L, p.1 ≠ id) (h1 : 0 ≤ id) (h2 : id < n)
    (h0 : ∀ h' F', PV h' F' r ((id, key) :: L) n → Grow h F F' → Upd F h h' → K (I 0) h') : callS Tryz.prog F_heap_Heap_Push [ptr r, I id, I key] h K :=
  ppush H hsm (fun e => by
    rcases e with ⟨p, hm, e⟩ | e
    · exact (hno p hm e).elim
    · omega) fun _ _ _ => h0
theorem ppush2 (H : PV h F r L n) (hsm : L.length + 1 < 2 ^ 40) (hno : (∃ p ∈ L, p.1 = id) ∨ id < 0 ∨ n ≤ id) (h2 : K (I 2) h) : callS Tryz.prog F_heap_Heap_Push [ptr r, I id, I key] h K :=
  ppush H hsm (fun _ => h2) fun hn a b => by
    rcases hno with ⟨p, hm, e⟩ | e
    · exact (hn p hm e).elim
    · omega
theorem plower (H : PV h F r L n)
    (h2 : (id < 0 ∨ n ≤ id) → K (I 2) h) (h20 : 0 ≤ id → id < n → (∀ p ∈ L, p.1 ≠ id) → K (I 20) h) (h2' : ∀ p ∈ L, p.1 = id → p.2 < key → K (I 2) h)
    (h0 : ∀ p ∈ L, p.1 = id → ¬ p.2 < key → ∀ h' F', PV h' F' r ((id, key) :: L.erase p) n → Grow h F F' → Upd F h h' → K (I 0) h') :
    callS Tryz.prog F_heap_Heap_Lower [ptr r, I id, I key] h K := by
  obtain ⟨l, H, hp⟩ := H
  exact lower_ok H h2 (fun a b e => h20 a b fun p hm => e p (hp.mem_iff.2 hm)) (fun p hm => h2' p (hp.mem_iff.1 hm)) fun p hm e hk h' F' l' H' hp' hg hu =>
    h0 p (hp.mem_iff.1 hm) e hk h' F' ⟨l', H', hp'.trans ((hp.erase p).cons _)⟩ hg hu
theorem id_uniq (hn : (L.map (·.1)).Nodup) {q : HE} (hp : p ∈ L) (hq : q ∈ L) (he : p.1 = q.1) : p = q := by
  obtain ⟨i, hi, rfl⟩ := List.mem_iff_getElem.1 hp
  obtain ⟨j, hj, rfl⟩ := List.mem_iff_getElem.1 hq
  have := ids_inj hn hi hj he
  subst this; rfl
theorem plower0 (H : PV h F r L n) (hp : p ∈ L) (he : p.1 = id) (hk : ¬ p.2 < key)
    (h0 : ∀ h' F', PV h' F' r ((id, key) :: L.erase p) n → Grow h F F' → Upd F h h' → K (I 0) h') : callS Tryz.prog F_heap_Heap_Lower [ptr r, I id, I key] h K := by
  have hr := H.rng p hp
  refine plower H (fun e => by omega) (fun _ _ e => (e p hp he).elim) (fun q hq e hk' => ?_) fun q hq e hk' => ?_
  · have := id_uniq H.nodup hp hq (he.trans e.symm); subst this; exact (hk hk').elim
  · have := id_uniq H.nodup hp hq (he.trans e.symm); subst this; exact h0
theorem plower2 (H : PV h F r L n) (hp : (∃ p ∈ L, p.1 = id ∧ p.2 < key) ∨ id < 0 ∨ n ≤ id) (h2 : K (I 2) h) : callS Tryz.prog F_heap_Heap_Lower [ptr r, I id, I key] h K := by
  refine plower H (fun _ => h2) (fun a b e => ?_) (fun _ _ _ _ => h2) fun q hq e hk' => ?_
  · rcases hp with ⟨p, hm, e', _⟩ | e'
    · exact (e p hm e').elim
    · omega
  · rcases hp with ⟨p, hm, e', hk⟩ | e'
    · have := id_uniq H.nodup hm hq (e'.trans e.symm); subst this; exact (hk' hk).elim
    · have := H.rng q hq; omega
theorem plower20 (H : PV h F r L n) (h1 : 0 ≤ id) (h2 : id < n) (hp : ∀ p ∈ L, p.1 ≠ id) (hK : K (I 20) h) : callS Tryz.prog F_heap_Heap_Lower [ptr r, I id, I key] h K :=
  plower H (fun _ => by omega) (fun _ _ _ => hK) (fun q hq e => (hp q hq e).elim) fun q hq e => (hp q hq e).elim
theorem ppop (H : PV h F r L n) (h0 : L = [] → K (.tuple #[I 0, I 0, .bool false]) h)
    (h1 : ∀ p, Min L p → ∀ h' F', PV h' F' r (L.erase p) n → Grow h F F' → Upd F h h' → K (.tuple #[I p.1, I p.2, .bool true]) h') : callS Tryz.prog F_heap_Heap_Pop [ptr r] h K := by
  obtain ⟨l, H, hp⟩ := H
  exact pop_ok H (fun e => h0 (by subst e; exact hp.nil_eq.symm)) fun p hm h' F' l' H' hp' hg hu => h1 p (hm.perm hp) h' F' ⟨l', H', hp'.trans (hp.erase p)⟩ hg hu
theorem ppop1 (H : PV h F r L n) (hm : Min L p) (h1 : ∀ h' F', PV h' F' r (L.erase p) n → Grow h F F' → Upd F h h' → K (.tuple #[I p.1, I p.2, .bool true]) h') : callS Tryz.prog F_heap_Heap_Pop [ptr r] h K :=
  ppop H (fun e => by subst e; simp [Min] at hm) fun q hq => by
    have := hq.uniq hm (.refl _); subst this; exact h1

theorem Disj.step {F' : Nat → Prop} (d : Disj F G) (hg : Grow h F F') (hl : ∀ b, G b → b < h.size) : Disj F' G := fun b hb hG => by
  rcases hg b hb with hb | hb
  · exact d b hb hG
  · have := hl b hG; omega
theorem Disj.symm (d : Disj F G) : Disj G F := fun b h1 h2 => d b h2 h1
end

end Go.Proofs.YtgefabaobhendaaGreatDoor

namespace Go.Proofs.YtgefabaobhendaaGreatDoor
open Go Go.Mh
set_option linter.unusedVariables false

/-! ### A heap as a part of memory -/

theorem Rep.st {h h' : Heap} {r m bl : Nat} {l : List HE} {n : Int} (H : Rep h r m bl l n) (h1 : h'[r]? = h[r]?) (h2 : h'[m]? = h[m]?) (h3 : h'[bl]? = h[bl]?) : Rep h' r m bl l n := by
  obtain ⟨⟨sl, cap, rest, hr, hs⟩, ⟨es, c, hm, hi⟩, hn, hsm⟩ := H
  refine ⟨⟨sl, cap, rest, h1.trans hr, ?_⟩, ⟨es, c, h2.trans hm, hi⟩, hn, hsm⟩
  rcases hs with hs | ⟨a, b, c, d⟩
  · exact .inl hs
  · exact .inr ⟨a, h3.trans b, c, d⟩

def hpR (F : Nat → Prop) (r : Nat) (H : List HE) (n : Nat) : Res := ⟨F, fun h => ∃ l, (∃ m bl, Rep h r m bl l n ∧ HeapOrd l ∧ F r ∧ F m ∧ F bl) ∧ (∀ p ∈ l, 0 ≤ p.1 ∧ p.1 < n) ∧ l.Perm H, fun hs ⟨l, ⟨m, bl, R, ho, f1, f2, f3⟩, hr, hp⟩ =>
  ⟨l, ⟨m, bl, R.st (hs _ f1) (hs _ f2) (hs _ f3), ho, f1, f2, f3⟩, hr, hp⟩⟩

theorem PV.toR {h : Heap} {F : Nat → Prop} {r : Nat} {H : List HE} {n : Nat} (P : PV h F r H n) : (hpR F r H n).Q h := by
  obtain ⟨l, ⟨a, b, c⟩, d⟩ := P; exact ⟨l, a, c, d⟩

section
variable {h0 h : Heap} {L : List Res} {F : Nat → Prop} {r n : Nat} {H : List HE} {id key : Int} {K : Value → Heap → Prop}

theorem own_pv (o : Own h0 h L) (i : Nat) (hi : L[i]? = some (hpR F r H n)) : PV h F r H n := by
  obtain ⟨l, a, c, d⟩ := o.get i hi
  exact ⟨l, ⟨a, fun b hb => ((o.q hi).2 b hb).2, c⟩, d⟩

theorem min_iff {p : HE} : Min H p ↔ p ∈ H ∧ ∀ q ∈ H, ¬ hl q p = true := by
  unfold Min
  have : ∀ q : HE, hlt q p = hl q p := fun q => by
    have h1 := @hlt_iff q p
    have h2 := @hl_iff q p
    by_cases hx : hl q p = true
    · rw [hx]; exact h1.2 (h2.1 hx)
    · simp at hx; rw [hx]
      by_cases hy : hlt q p = true
      · rw [h2.2 (h1.1 hy)] at hx; cases hx
      · simpa using hy
  simp only [this]

theorem least_min {p : HE} (h : least H = some p) : Min H p := min_iff.2 (least_spec h)

theorem ho_new (o : Own h0 h L) (hK : ∀ F r h', Own h0 h' (hpR F r [] n :: L) → K (ptr r) h') : callS Tryz.prog F_heap_New [I n] h K := by
  refine pnew fun h' F r P hF x => hK F r h' (o.cons x ?_ fun b hb => ⟨hF b hb, P.low b hb⟩)
  rw [show max (n : Int) 0 = n by omega] at P
  exact P.toR

theorem own_hp {h' : Heap} {F' : Nat → Prop} {H' : List HE} (o : Own h0 h L) (i : Nat) (hi : L[i]? = some (hpR F r H n)) (P : PV h' F' r H' n) (g : Grow h F F') (u : Upd F h h') : Own h0 h' (L.set i (hpR F' r H' n)) :=
  o.set i hi u P.toR fun b hb => ⟨g b hb, P.low b hb⟩

theorem ho_push (o : Own h0 h L) (i : Nat) (hi : L[i]? = some (hpR F r H n)) (hsm : H.length + 1 < 2 ^ 40) {v : Nat} (hno : ∀ p ∈ H, p.1 ≠ v) (hv : v < n)
    (hK : ∀ F' h', Own h0 h' (L.set i (hpR F' r (((v : Int), key) :: H) n)) → K (I 0) h') : callS Tryz.prog F_heap_Heap_Push [ptr r, I v, I key] h K :=
  ppush0 (own_pv o i hi) hsm hno (by omega) (by omega) fun h' F' P g u => hK F' h' (own_hp o i hi P g u)

theorem ho_lower (o : Own h0 h L) (i : Nat) (hi : L[i]? = some (hpR F r H n)) {v : Nat} {was : Int} (hm : ((v : Int), was) ∈ H) (hk : ¬ was < key)
    (hK : ∀ F' h', Own h0 h' (L.set i (hpR F' r (((v : Int), key) :: H.erase ((v : Int), was)) n)) → K (I 0) h') : callS Tryz.prog F_heap_Heap_Lower [ptr r, I v, I key] h K :=
  plower0 (own_pv o i hi) hm rfl hk fun h' F' P g u => hK F' h' (own_hp o i hi P g u)

theorem ho_key (o : Own h0 h L) (i : Nat) (hi : L[i]? = some (hpR F r H n)) {v : Nat}
    (hK : K (.tuple #[I ((lookH H v).getD 0), .bool (lookH H v).isSome]) h) : callS Tryz.prog F_heap_Heap_Key [ptr r, I v] h K := by
  have P := own_pv o i hi
  refine pkey P (fun hno => ?_) fun p hp e => ?_
  · have : lookH H v = none := lookH_none.2 hno
    rw [this] at hK; exact hK
  · cases hl : lookH H v with
    | none => exact absurd e (lookH_none.1 hl p hp)
    | some k =>
      have hm := lookH_some hl
      have := id_uniq P.nodup hp hm e
      subst this
      rw [hl] at hK; exact hK

theorem ho_pop (o : Own h0 h L) (i : Nat) (hi : L[i]? = some (hpR F r H n)) (hz : least H = none → ∀ h', Own h0 h' L → K (.tuple #[I 0, I 0, .bool false]) h')
    (hK : ∀ p, least H = some p → ∀ F' h', Own h0 h' (L.set i (hpR F' r (H.erase p) n)) → K (.tuple #[I p.1, I p.2, .bool true]) h') : callS Tryz.prog F_heap_Heap_Pop [ptr r] h K := by
  cases hl : least H with
  | none =>
    have e := least_none.1 hl
    subst e
    exact ppop (own_pv o i hi) (fun _ => hz hl h o) fun p hm => by simp [Min] at hm
  | some p => exact ppop1 (own_pv o i hi) (least_min hl) fun h' F' P g u => hK p hl F' h' (own_hp o i hi P g u)

end
end Go.Proofs.YtgefabaobhendaaGreatDoor

namespace Go.Proofs.YtgefabaobhendaaGreatDoor
open Go Go.Mh
set_option linter.unusedVariables false

section
variable {h0 h : Heap} {L : List Res} {K : Value → Heap → Prop} {g : G} {r : Nat}

theorem from1_end : EndF (.func (.func F_flood_From_1) #[] #[]) A.t := by
  intro a h K hK
  refine callV_of (l := [.agg (encA a).toArray]) rfl (lk_flood_From_1 _ ?_)
  unfold sh_flood_From_1
  refine (Own.start h).box fun b h1 o1 => ?_
  simp only [pField_ptr]
  exact o1.load 0 rfl rfl (hK _ o1.ext)
theorem to1_end : EndF (.func (.func F_flood_To_1) #[] #[]) A.f := by
  intro a h K hK
  refine callV_of (l := [.agg (encA a).toArray]) rfl (lk_flood_To_1 _ ?_)
  unfold sh_flood_To_1
  refine (Own.start h).box fun b h1 o1 => ?_
  simp only [pField_ptr]
  exact o1.load 0 rfl rfl (hK _ o1.ext)

theorem farcs_iter {l4 n3 e5 : Nat} {vl endv : Value} {ids : List Nat} {head : A → Nat} {T1 T2 T3 : TypeId} (hids : ∀ i ∈ ids, i < g.arcs.length) (hmany : ids.length < 2 ^ 40) (hE : EndF endv head) :
    Iter Tryz.prog (.func (.func F_flood_arcs_1) #[] #[ptr l4, ptr n3, ptr e5])
      (fun h => h[l4]? = some (.cells #[vl] T1 (0, 0)) ∧ h[n3]? = some (.cells #[ptr r] T2 (0, 0)) ∧ h[e5]? = some (.cells #[endv] T3 (0, 0)) ∧ Vw encN 1 h vl ids ∧ NetR h r g) ids.length
      (fun i hi => [I ids[i], vA ⟨0, head (arcAt g.arcs ids[i]), (arcAt g.arcs ids[i]).w⟩]) := by
  rintro yv h0 h Rs K J E ⟨l, rfl⟩ o j0 hQ hY hK
  refine callF_of (l := [yieldV l, ptr l4, ptr n3, ptr e5]) rfl (lk_flood_arcs_1 _ _ _ _ ?_)
  unfold sh_flood_arcs_1
  obtain ⟨hb, _, _, hv, _⟩ := hQ _ _ _ j0 o
  have hc : hcell h ⟨l4, 0, none⟩ = some vl := hcell_of hb rfl
  simp only [pLoad_ptr, hc]
  refine hv.len ?_
  refine LoopH_count ids.length (fun i x h' => x.1 = I i ∧ ∃ Rs', J i Rs' ∧ Own h0 h' Rs') ⟨rfl, Rs, j0, o⟩ ?_
  rintro i ⟨x, ⟨⟩⟩ h Z hi ⟨hx, Rs', hj, o⟩ hZ
  dsimp only at hx hZ ⊢
  subst hx
  unfold sh_flood_arcs_1_L1
  simp only [pBin_lss, ifV_dec]
  refine ⟨fun hlt => ?_, fun hge => ?_⟩
  · have hlt : i < ids.length := by omega
    obtain ⟨_, hn, he, hv, hN⟩ := hQ _ _ _ hj o
    refine hv.at1 (e := fun x : Nat => I x) (fun _ => rfl) hlt ?_
    have hc : hcell h ⟨n3, 0, none⟩ = some (ptr r) := hcell_of hn rfl
    simp only [pLoad_ptr, hc]
    have hil := hids _ (List.getElem_mem hlt)
    refine arc_ok hN hil fun h1 x1 => ?_
    have ea : arcAt g.arcs ids[i] = g.arcs[ids[i]] := by simp [arcAt, hil]
    have o1 := o.more x1
    simp only [pExt0, pExt1]
    refine o1.box fun b h2 o2 => o2.st 0 rfl rfl rfl rfl rfl (encA_plain _) fun h3 o3 => ?_
    obtain ⟨_, _, he3, _, _⟩ := hQ _ _ _ hj o3.tail
    have hc : hcell h3 ⟨e5, 0, none⟩ = some endv := hcell_of he3 rfl
    simp only [pLoad_ptr, hc, pField_ptr]
    refine o3.ldN 0 rfl rfl rfl ?_
    have hl := fun {K} (hk : K (I (g.arcs[ids[i]]).w)) => o3.load (off := 2) (K := K) 0 rfl rfl hk
    simp only [pLoad_ptr] at hl
    refine hl (hE _ _ _ fun h4 x4 => ?_)
    have o4 := o3.more x4
    refine ⟨o4.load 0 rfl rfl rfl, sizesOk_of rfl, ?_⟩
    rw [← ea]
    refine hY i _ (i + 1) Rs' [] h4 _ ⟨⟨hlt, rfl⟩, rfl⟩ hj o4.tail.nilTail (fun Rs'' h'' hj' o' => ?_) fun Rs'' h'' he o' => ?_
    · rw [pUn_not, Bool.not_true, ifV_false, pBin_add, wI i (by omega)]
      exact hZ (I (i + 1 : Nat), ()) h'' hlt ⟨rfl, Rs'', hj', o'.toNil⟩
    · rw [pUn_not, Bool.not_false, ifV_true]
      exact hK _ _ (.inr he) o'.toNil
  · have : i = ids.length := by omega
    exact hK _ _ (.inl ⟨i, this, hj⟩) o

/-- Who is closed, as the program keeps it. -/
def clo (order : List Nat) : Int → Option Value := fun k => if order.any (fun v => (v : Int) == k) then some (I 1) else none
theorem clo_in {order : List Nat} {v : Nat} (h : v ∈ order) : clo order v = some (I 1) := by
  have : order.any (fun u => (u : Int) == (v : Int)) = true := List.any_eq_true.2 ⟨v, h, by simp⟩
  simp [clo, this]
theorem clo_out {order : List Nat} {v : Nat} (h : v ∉ order) : clo order v = none := by
  have : order.any (fun u => (u : Int) == (v : Int)) = false := by
    simp only [List.any_eq_false, beq_iff_eq]
    intro u hu e
    have : u = v := by omega
    exact h (this ▸ hu)
  simp [clo, this]
theorem clo_add {order : List Nat} {v : Nat} (x : Int) : clo (order ++ [v]) x = fset (clo order) v (I 1) x := by
  unfold fset
  by_cases h : x = v
  · subst h; rw [if_pos rfl, clo_in (by simp)]
  · rw [if_neg h]
    have : ((v : Int) == x) = false := by simpa using fun e => h e.symm
    simp [clo, this]

theorem set_set_same {α : Type} {l : List α} {i j : Nat} {a b : α} (hi : l[i]? = some a) (hj : l[j]? = some b) : (l.set i a).set j b = l := by
  have e1 : l.set i a = l := by
    apply List.ext_getElem?
    intro k
    by_cases e : i = k
    · subst e; rw [List.getElem?_set_self (List.getElem?_eq_some_iff.1 hi).1, hi]
    · rw [List.getElem?_set_ne e]
  rw [e1]
  apply List.ext_getElem?
  intro k
  by_cases e : j = k
  · subst e; rw [List.getElem?_set_self (List.getElem?_eq_some_iff.1 hj).1, hj]
  · rw [List.getElem?_set_ne e]

theorem reach_ok {rr hp n m : Nat} {F : Nat → Prop} {sd sa so : Value} {s : FS} {B : Int} {v a : Nat} {d : Int} (o : Own h0 h L) (i1 i2 i3 i4 : Nat)
    (h1 : L[i1]? = some (cellR rr [ptr hp, sd, sa, so, .map (some m)] T_flood_run)) (h2 : L[i2]? = some (hpR F hp s.hp n)) (h3 : L[i3]? = some (slR encI 1 T_int sa s.arc)) (h4 : L[i4]? = some (mapR m (clo s.order)))
    (n12 : i2 ≠ i1) (n23 : i2 ≠ i3) (n24 : i2 ≠ i4) (inv : FInv n B s) (hn : n ≤ 16777216) (hv : v < n)
    (hK : ∀ F' h', Own h0 h' ((L.set i2 (hpR F' hp (s.reach v a d).hp n)).set i3 (slR encI 1 T_int sa (s.reach v a d).arc)) → K (.tuple #[]) h') :
    callS Tryz.prog F_flood_run_reach [ptr rr, I v, I a, I d] h K := by
  refine callS_of (lk_flood_run_reach _ _ _ _ ?_)
  unfold sh_flood_run_reach
  simp only [pNil_ptr, pField_ptr]
  refine o.load i1 h1 rfl (ho_key o i2 h2 ?_)
  simp only [pExt0, pExt1]
  refine o.load i1 h1 rfl ?_
  refine o.look i4 h4 ?_
  simp only [Bool.false_eq_true, if_false]
  have hlen : s.hp.length ≤ n := by
    have : (s.hp.map (·.1.toNat)).length ≤ n := nodup_le (by
      have : s.hp.map (·.1.toNat) = (s.hp.map (·.1)).map Int.toNat := by simp
      rw [this, List.nodup_iff_pairwise_ne, List.pairwise_map]
      refine (List.nodup_iff_pairwise_ne.1 inv.ids).imp_of_mem fun {x y} hx hy hne e => hne ?_
      obtain ⟨p, hp, rfl⟩ := List.mem_map.1 hx
      obtain ⟨q, hq, rfl⟩ := List.mem_map.1 hy
      obtain ⟨u, e1, _⟩ := inv.ent p hp
      obtain ⟨w, e2, _⟩ := inv.ent q hq
      rw [e1, e2] at e ⊢
      have e' : u = w := by simpa using e
      rw [e']) (fun x hx => by
      obtain ⟨p, hp, rfl⟩ := List.mem_map.1 hx
      obtain ⟨u, e1, e2, _⟩ := inv.ent p hp
      rw [e1]; simpa using e2)
    simpa using this
  by_cases hc : v ∈ s.order
  · rw [clo_in hc]
    simp only [Option.getD_some]
    have : s.reach v a d = s := by simp [FS.reach, hc]
    rw [this, ] at hK
    have hk := fun h => hK F h
    rw [set_set_same h2 h3] at hk
    simpa using hk h o
  · rw [clo_out hc]
    simp only [Option.getD_none, pBin_gtr, ifV_dec]
    refine ⟨fun e => by omega, fun _ => ?_⟩
    cases hl : lookH s.hp v with
    | some was =>
      simp only [Option.isSome_some, ifV_true, Option.getD_some, pBin_leq, ifV_dec]
      refine ⟨fun hle => ?_, fun hgt => ?_⟩
      · have : s.reach v a d = s := by simp [FS.reach, hc, hl, hle]
        rw [this] at hK
        have hk := fun h => hK F h
        rw [set_set_same h2 h3] at hk
        exact hk h o
      · unfold sh_flood_run_reach_k1 sh_flood_run_reach_k2
        simp only [ifV_true, pNil_ptr, pField_ptr]
        refine o.load i1 h1 rfl (ho_lower o i2 h2 (lookH_some hl) (by omega) fun F' h5 o5 => ?_)
        refine o5.load i1 (by rw [List.getElem?_set_ne n12]; exact h1) rfl ?_
        refine o5.setI (z := a) i3 (by rw [List.getElem?_set_ne n23]; exact h3) (by rw [inv.al]; exact hv) fun h6 o6 => ?_
        have : s.reach v a d = { s with hp := ((v : Int), d) :: s.hp.erase ((v : Int), was), arc := s.arc.set v a } := by simp [FS.reach, hc, hl, hgt]
        rw [this] at hK
        exact hK F' h6 o6
    | none =>
      simp only [Option.isSome_none, ifV_false]
      unfold sh_flood_run_reach_k1 sh_flood_run_reach_k2
      simp only [ifV_false, pNil_ptr, pField_ptr]
      refine o.load i1 h1 rfl (ho_push o i2 h2 (by omega) (lookH_none.1 hl) hv fun F' h5 o5 => ?_)
      refine o5.load i1 (by rw [List.getElem?_set_ne n12]; exact h1) rfl ?_
      refine o5.setI (z := a) i3 (by rw [List.getElem?_set_ne n23]; exact h3) (by rw [inv.al]; exact hv) fun h6 o6 => ?_
      have : s.reach v a d = { s with hp := ((v : Int), d) :: s.hp, arc := s.arc.set v a } := by simp [FS.reach, hc, hl]
      rw [this] at hK
      exact hK F' h6 o6

end
end Go.Proofs.YtgefabaobhendaaGreatDoor

namespace Go.Proofs.YtgefabaobhendaaGreatDoor
open Go Go.Mh
set_option linter.unusedVariables false

/-- A tree in memory. -/
def TreeV (h : Heap) (v : Value) (t : Tr) : Prop := ∃ sd sa so, v = .agg #[sd, sa, so] ∧ Vw encI 1 h sd t.dist ∧ Vw encI 1 h sa t.arc ∧ Vw encN 1 h so t.order
theorem TreeV.more {h h' : Heap} {v : Value} {t : Tr} (H : TreeV h v t) (x : Ext h h') : TreeV h' v t := by
  obtain ⟨sd, sa, so, e, a, b, c⟩ := H
  exact ⟨sd, sa, so, e, a.more x, b.more x, c.more x⟩

theorem scan_take {l : List A} {head : A → Nat} {key : Int} {s : FS} {ids : List Nat} {i : Nat} (hi : i < ids.length) :
    s.scan l head key (ids.take (i + 1)) = (s.scan l head key (ids.take i)).reach (head (arcAt l ids[i])) ids[i] (key + (arcAt l ids[i]).w) := by
  unfold FS.scan
  rw [List.take_succ_eq_append_getElem hi, List.foldl_append]; rfl

section
variable {h0 h : Heap} {L : List Res} {K : Value → Heap → Prop} {g : G} {r : Nat} {outs : Nat → List Nat} {head : A → Nat} {nextv endv : Value}

/-- A closure that tells the arcs of a node. -/
def NextF (nextv : Value) (g : G) (r : Nat) (outs : Nat → List Nat) : Prop :=
  ∀ (h0 h : Heap) (L : List Res) (K : Value → Heap → Prop) (v : Nat), v < g.n → NetR h r g → Own h0 h L → (∀ v' h', Own h0 h' (slR encN 1 T_int v' (outs v) :: L) → K v' h') → callV Tryz.prog nextv [I v].toArray h K

theorem out_next (hR : g.Right) : NextF (.func (.func F_net_Net_Out) #[ptr r] #[]) g r g.out := by
  intro h0 h L K v hv H o hK
  refine callV_of (l := [ptr r, I v]) rfl ?_
  have := outI_ok (z := v) o hR H (K := K) (by rw [if_pos (by omega)]; exact hK)
  simpa [callS, callV] using this
theorem in_next (hR : g.Right) : NextF (.func (.func F_net_Net_In) #[ptr r] #[]) g r g.in := by
  intro h0 h L K v hv H o hK
  refine callV_of (l := [ptr r, I v]) rfl ?_
  have := inI_ok (z := v) o hR H (K := K) (by rw [if_pos (by omega)]; exact hK)
  simpa [callS, callV] using this

abbrev runL (r9 rr m hp t8 n : Nat) (sd sa : Value) (kb : Nat) (key : Int) (F : Nat → Prop) (H : List HE) (so : Value) (st : FS) (mm : List Nat) : List Res :=
  [cellR kb [I key] T_int64, cellR r9 [ptr rr] T_p_flood_run, cellR rr [ptr hp, sd, sa, so, .map (some m)] T_flood_run, hpR F hp H n, slR encI 1 T_int sa st.arc, mapR m (clo st.order), xR sd st.dist, slR encN 1 T_int so st.order,
    cellR t8 [sl0, sl0, sl0] T_flood_Tree, marksR mm]

/-- The rest of a flood, from a state on. -/
theorem flood_loop {r9 rr m hp t8 : Nat} {sd sa : Value} {fin : FS} {h' : Heap} {x : List Nat × Vals [10, 11, 12]} (hR : g.Right) (H : NetR h r g) (hN : NextF nextv g r outs) (hE : EndF endv head) (hev : endv.cells = #[endv]) (hhead : ∀ a ∈ g.arcs, head a < g.n)
    (hout : ∀ v, v < g.n → ∀ i ∈ outs v, i < g.arcs.length) (hol : ∀ v, (outs v).length ≤ g.arcs.length)
    (hK : ∀ so h', Own h h' [xR sd fin.dist, slR encI 1 T_int sa fin.arc, slR encN 1 T_int so fin.order] → K (.agg #[sd, sa, so]) h')
    (J : ∃ (st : FS) (kb : Nat) (key : Int) (so : Value) (F : Nat → Prop) (H : List HE), x.2.2.1 = ptr kb ∧ FS.run g.arcs outs head (g.n + 1 - st.order.length) st = fin ∧ FInv g.n (st.order.length * W) st ∧
      ((least st.hp = none ∧ x.2.2.2.1 = .bool false) ∨ ∃ p, least st.hp = some p ∧ x.2.1 = I p.1 ∧ key = p.2 ∧ x.2.2.2.1 = .bool true ∧ H = st.hp.erase p) ∧ Own h h' (runL r9 rr m hp t8 g.n sd sa kb key F H so st x.1)) :
    LoopH (σ := List Nat × Vals [10, 11, 12]) (fun x hh ZZ => sh_flood_flood_L2 Tryz.prog (ptr r9) nextv (ptr r) endv (ptr t8) K x.1 x.2.1 x.2.2.1 x.2.2.2.1 hh (fun mz a0 a1 a2 hz => ZZ (mz, (a0, (a1, (a2, ())))) hz)) x h' := by
  have hmost := hR.most
  have hmany := hR.many
  obtain ⟨st0, J⟩ := J
  refine LoopH_down (k0 := g.n + 1 - st0.order.length) (fun k x h' => ∃ (st : FS) (kb : Nat) (key : Int) (so : Value) (F : Nat → Prop) (H : List HE), k = g.n + 1 - st.order.length ∧ x.2.2.1 = ptr kb ∧ FS.run g.arcs outs head (g.n + 1 - st.order.length) st = fin ∧ FInv g.n (st.order.length * W) st ∧
      ((least st.hp = none ∧ x.2.2.2.1 = .bool false) ∨ ∃ p, least st.hp = some p ∧ x.2.1 = I p.1 ∧ key = p.2 ∧ x.2.2.2.1 = .bool true ∧ H = st.hp.erase p) ∧ Own h h' (runL r9 rr m hp t8 g.n sd sa kb key F H so st x.1))
    (by obtain ⟨kb, key, so, F, H, J⟩ := J; exact ⟨st0, kb, key, so, F, H, rfl, J⟩) ?_
  clear J st0 h' x
  rintro k ⟨mm, v, kv, is, ⟨⟩⟩ h' Z ⟨st, kb, key, so, F, Hp, hk, hkb, hrun, inv, hcase, o⟩ hZ
  dsimp only at hkb hcase o hZ ⊢
  subst hkb
  unfold sh_flood_flood_L2
  simp only [pNil_ptr, pField_ptr]
  rcases hcase with ⟨hl, rfl⟩ | ⟨p, hl, rfl, rfl, rfl, rfl⟩
  · rw [ifV_false]
    have hf : st = fin := by
      rw [← hrun]
      cases g.n + 1 - st.order.length with
      | zero => rfl
      | succ k => simp only [FS.run, hl]
    subst hf
    refine o.load 1 rfl rfl ?_
    simp only [pNil_ptr, pField_ptr]
    refine o.ldN 2 rfl rfl rfl ?_
    refine o.st 8 rfl rfl rfl rfl rfl ?_ fun h2 o2 => ?_
    · intro u hu
      simp at hu
      rcases hu with rfl | rfl | rfl
      · exact (o.vw 6 rfl).plain
      · exact (o.vw 4 rfl).plain
      · exact (o.vw 7 rfl).plain
    · refine o2.take 9 rfl fun h3 o3 => ?_
      exact o3.ldN 8 rfl rfl rfl (hK so h3 (o3.sel [6, 4, 7] (by decide)))
  · rw [ifV_true]
    have hm := (least_spec hl).1
    obtain ⟨u, hu, hun, hno, hk0, hkB⟩ := inv.ent p hm
    obtain ⟨pv, key⟩ := p
    dsimp only at hu hk0 hkB o ⊢
    subst hu
    have hroom := inv.room (by intro e; rw [e] at hm; cases hm)
    have hB : (st.order.length : Int) * W + W ≤ 16777216 * W := by
      have : (st.order.length : Int) + 1 ≤ 16777216 := by omega
      have := Int.mul_le_mul_of_nonneg_right this (show (0 : Int) ≤ W by decide)
      rw [Int.add_mul, Int.one_mul] at this
      exact this
    refine o.load 1 rfl rfl ?_
    simp only [pNil_ptr, pField_ptr]
    refine o.load 2 rfl rfl ?_
    refine o.look 5 rfl ?_
    rw [clo_out hno]
    simp only [Bool.false_eq_true, if_false, Option.getD_none, pBin_add]
    rw [show IntKind.i64.wrap (0 + 1) = 1 from rfl]
    refine o.mapPut (f' := clo (st.order ++ [u])) 5 rfl clo_add fun h1 o1 => ?_
    refine o1.load 1 rfl rfl ?_
    simp only [pNil_ptr, pField_ptr]
    refine o1.load 2 rfl rfl (o1.load 0 rfl rfl ?_)
    refine o1.setI 6 rfl (by rw [inv.dl]; exact hun) fun h2 o2 => ?_
    refine o2.load 1 rfl rfl (o2.load 1 rfl rfl ?_)
    simp only [pNil_ptr, pField_ptr]
    refine o2.load 2 rfl rfl ?_
    refine o2.app1 7 u rfl rfl (sizesOk_of rfl) encN_len encN_plain rfl (by decide) (by omega) fun so1 h3 o3 => ⟨o3.load 1 rfl rfl rfl, ?_⟩
    refine o3.st1 2 rfl rfl rfl (o3.vw 7 rfl).one (o3.vw 7 rfl).plain fun h4 o4 => ?_
    refine hN _ _ _ _ u hun (H.more o4.ext) o4 fun vl h5 o5 => ?_
    refine callS_of (lk_flood_arcs _ _ _ ?_)
    unfold sh_flood_arcs
    refine o5.box fun n3 h6 o6 => o6.box fun l4 h7 o7 => o7.box fun e5 h8 o8 => ?_
    have hvl := o5.vw 0 rfl
    obtain ⟨st1, hst1⟩ : ∃ st1, st1 = st.pop u key := ⟨_, rfl⟩
    have hW : (0 : Int) ≤ W := by decide
    have inv1 : FInv g.n (st.order.length * W + W) st1 := by subst hst1; exact (inv.popped hm).mono (by omega)
    have hord : st1.order.length = st.order.length + 1 := by subst hst1; simp [FS.pop]
    have hids := hout u hun
    have hscan : ∀ i, FInv g.n (st.order.length * W + W) (st1.scan g.arcs head key ((outs u).take i)) := fun i =>
      FInv.scan (fun a ha => ⟨hhead a ha, by have := (hR.ends a ha).2.2; show (a.w : Int) ≤ 2147483647; omega⟩) hk0 (by omega) (fun j hj => hids j (List.mem_of_mem_take hj)) inv1
    have L0 : Own h h8 (cellR e5 endv.cells.toList T_func_api_Arc_int :: cellR l4 vl.cells.toList T_sl_int :: cellR n3 [ptr r] T_p_net_Net :: slR encN 1 T_int vl (outs u) :: runL r9 rr m hp t8 g.n sd sa kb key F (st1.scan g.arcs head key ((outs u).take 0)).hp so1 (st1.scan g.arcs head key ((outs u).take 0)) mm) := by
      subst hst1; exact o8
    refine L0.range (farcs_iter (r := r) (T1 := T_sl_int) (T2 := T_p_net_Net) (T3 := T_func_api_Arc_int) (vl := vl) hids (by have := hol u; omega) hE) (fun i x i' ⟨⟨hi, e⟩, _⟩ => by rw [e]; rfl)
      (fun i Rs => ∃ F, Rs = cellR e5 endv.cells.toList T_func_api_Arc_int :: cellR l4 vl.cells.toList T_sl_int :: cellR n3 [ptr r] T_p_net_Net :: slR encN 1 T_int vl (outs u) :: runL r9 rr m hp t8 g.n sd sa kb key F (st1.scan g.arcs head key ((outs u).take i)).hp so1 (st1.scan g.arcs head key ((outs u).take i)) mm)
      (fun _ => False) (fun _ _ => False) ⟨F, rfl⟩ ?_ ?_ ?_ (fun _ _ h => h.elim) (fun _ _ _ h => h.elim)
    · rintro i Rs' h' ⟨F, rfl⟩ o'
      refine ⟨?_, o'.get 2 rfl, ?_, o'.vw 3 rfl, H.more o'.ext⟩
      · have := o'.get 1 rfl
        rw [show vl.cells.toList = [vl] by rw [hvl.one]] at this
        exact this
      · have := o'.get 0 rfl
        rw [show endv.cells.toList = [endv] by rw [hev]] at this
        exact this
    · rintro M i x i' Rs' Pr h9 R ⟨⟨hi, rfl⟩, rfl⟩ ⟨F, rfl⟩ o9 hN' _ _
      dsimp only [valsOf]
      unfold sh_flood_flood_B3
      refine o9.box fun a14 h10 o10 => o10.st 0 rfl rfl rfl rfl rfl (encA_plain _) fun h11 o11 => ?_
      refine o11.begin 1 rfl fun h12 o12 => ?_
      refine o12.load 8 rfl rfl ?_
      simp only [pField_ptr]
      refine o12.load 0 rfl rfl (o12.load 7 rfl rfl (o12.load 0 rfl rfl ?_))
      have hil := hids _ (List.getElem_mem hi)
      have ha : arcAt g.arcs (outs u)[i] ∈ g.arcs := by simp [arcAt, hil]
      have hw := (hR.ends _ ha).2.2
      have e1 : IntKind.i64.wrap (key + ((arcAt g.arcs (outs u)[i]).w : Int)) = key + (arcAt g.arcs (outs u)[i]).w := by
        have hW2 : (16777216 : Int) * W ≤ 2 ^ 62 := by decide
        exact w64 (by omega) (by have : (W : Int) = 2147483647 := rfl
                                 omega)
      rw [pBin_add, e1]
      refine reach_ok o12 9 10 11 12 rfl rfl rfl rfl (by decide) (by decide) (by decide) (hscan i) hmost (hhead _ ha) fun F' h13 o13 => ?_
      refine hN' _ _ ⟨F', rfl⟩ ?_
      have hsc := scan_take (l := g.arcs) (head := head) (key := key) (s := st1) hi
      have hro := @reach_order (st1.scan g.arcs head key ((outs u).take i)) (head (arcAt g.arcs (outs u)[i])) (outs u)[i] (key + (arcAt g.arcs (outs u)[i]).w)
      rw [← hsc] at hro
      have := o13.tail
      rw [← hsc] at this
      simp only [runL, hro.1, hro.2]
      exact this
    · rintro i h9 Rs' rfl ⟨F', rfl⟩ o9
      rw [List.take_length] at o9
      have hso := @scan_order g.arcs head key (outs u) st1
      refine o9.load 5 rfl rfl (o9.box fun kb2 h10 o10 => ?_)
      refine o10.st1 0 rfl rfl rfl rfl rfl fun h11 o11 => ?_
      refine o11.load 7 rfl rfl ?_
      simp only [pNil_ptr, pField_ptr]
      refine o11.load 8 rfl rfl ?_
      have inv2 : FInv g.n ((st1.scan g.arcs head key (outs u)).order.length * W) (st1.scan g.arcs head key (outs u)) := by
        have := hscan (outs u).length
        rw [List.take_length] at this
        refine this.mono ?_
        rw [hso.1, hord]
        have : ((st.order.length + 1 : Nat) : Int) * W = st.order.length * W + W := by
          rw [Int.natCast_add, Int.add_mul]; rfl
        omega
      have hrun2 : FS.run g.arcs outs head (g.n + 1 - (st1.scan g.arcs head key (outs u)).order.length) (st1.scan g.arcs head key (outs u)) = fin := by
        rw [← hrun, hso.1, hord]
        rw [show g.n + 1 - st.order.length = (g.n + 1 - (st.order.length + 1)) + 1 by omega]
        simp only [FS.run, hl, Int.toNat_natCast]
        rw [← hst1]
      have mark := fun {h'' : Heap} {A B : Res} {C : List Res} (o : Own h h'' (A :: B :: C)) => o
      refine ho_pop o11 9 rfl (fun hl2 h12 o12 => ?_) fun p hl2 F2 h12 o12 => ?_
      · simp only [pExt0, pExt1, pExt2]
        refine o12.st1 0 rfl rfl rfl rfl rfl fun h13 o13 => ?_
        have o14 := (o13.swap).addMark 14 rfl
        refine hZ (_ :: mm, (I 0, (ptr kb2, (.bool false, ())))) h13 _ (by rw [hso.1, hord]; omega) ⟨st1.scan g.arcs head key (outs u), kb2, 0, so1, F', (st1.scan g.arcs head key (outs u)).hp, rfl, rfl, hrun2, inv2, .inl ⟨hl2, rfl⟩, ?_⟩
        exact o14.sel [0, 6, 7, 8, 9, 10, 11, 12, 13, 14] (by decide)
      · simp only [pExt0, pExt1, pExt2]
        refine o12.st1 0 rfl rfl rfl rfl rfl fun h13 o13 => ?_
        have o14 := (o13.swap).addMark 14 rfl
        refine hZ (_ :: mm, (I p.1, (ptr kb2, (.bool true, ())))) h13 _ (by rw [hso.1, hord]; omega) ⟨st1.scan g.arcs head key (outs u), kb2, p.2, so1, F2, (st1.scan g.arcs head key (outs u)).hp.erase p, rfl, rfl, hrun2, inv2, .inr ⟨p, hl2, rfl, rfl, rfl, rfl⟩, ?_⟩
        exact o14.sel [0, 6, 7, 8, 9, 10, 11, 12, 13, 14] (by decide)

end
end Go.Proofs.YtgefabaobhendaaGreatDoor

namespace Go.Proofs.YtgefabaobhendaaGreatDoor
open Go Go.Mh
set_option linter.unusedVariables false

section
variable {h0 h : Heap} {L : List Res} {K : Value → Heap → Prop} {g : G} {r : Nat} {outs : Nat → List Nat} {head : A → Nat} {nextv endv : Value}

/-- A tree that was just made. -/
def TreeK (h : Heap) (t : Tr) (K : Value → Heap → Prop) : Prop :=
  ∀ sd sa so h', Own h h' [xR sd t.dist, slR encI 1 T_int sa t.arc, slR encN 1 T_int so t.order] → K (.agg #[sd, sa, so]) h'

theorem TreeK.of {t : Tr} (hK : ∀ v h', TreeV h' v t → Ext h h' → K v h') : TreeK h t K :=
  fun sd sa so h' o => hK _ h' ⟨sd, sa, so, rfl, o.vw 0 rfl, o.vw 1 rfl, o.vw 2 rfl⟩ o.ext

theorem flood_none {s : Int} {rv : Value} (hs : rv = .pointer none ∨ (rv = ptr r ∧ NetR h r g ∧ ¬ (0 ≤ s ∧ s < g.n))) (hK : TreeK h .none K) : callS Tryz.prog F_flood_flood [rv, I s, nextv, endv] h K := by
  refine callS_of (lk_flood_flood _ _ _ _ ?_)
  unfold sh_flood_flood sh_flood_flood_k1
  refine (Own.start h).box fun t8 h1 o1 => ?_
  have none : ∀ {h2 : Heap}, Own h h2 [cellR t8 [sl0, sl0, sl0] T_flood_Tree] → pBuild [(.slice none 0 0), (.slice none 0 0), (.slice none 0 0)] [] fun t27 => pStore 3 (ptr t8) t27 h2 fun u h_3 => pLoadN 3 h_3 (ptr t8) fun res => K res h_3 := fun o2 =>
    ⟨trivial, o2.st (cs' := [sl0, sl0, sl0]) 0 rfl (l := [sl0, sl0, sl0]) rfl rfl rfl rfl (by simp) fun h3 o3 => o3.ldN 0 rfl rfl rfl (hK sl0 sl0 sl0 h3 ((o3.nilS.nilS.nilS).sel [0, 1, 2] (by decide)))⟩
  rcases hs with rfl | ⟨rfl, H, hs⟩
  · simp only [pEq_ptr_nil, Option.isNone_none, ifV_true]
    exact none o1
  · simp only [pEq_ptr_nil, Option.isNone_some, ifV_false, pBin_lss, ifV_dec]
    refine ⟨fun _ => none o1, fun e => nodes_ok (H.more o1.ext) ?_⟩
    simp only [pBin_geq, ifV_dec]
    exact ⟨fun _ => none o1, fun e' => by omega⟩

theorem flood_ok {s : Nat} (hR : g.Right) (H : NetR h r g) (hs : s < g.n) (hN : NextF nextv g r outs) (hE : EndF endv head) (hev : endv.cells = #[endv]) (hhead : ∀ a ∈ g.arcs, head a < g.n)
    (hout : ∀ v, v < g.n → ∀ i ∈ outs v, i < g.arcs.length) (hol : ∀ v, (outs v).length ≤ g.arcs.length) (hK : TreeK h (floodP g.arcs g.n outs head s) K) : callS Tryz.prog F_flood_flood [ptr r, I s, nextv, endv] h K := by
  have hmost := hR.most
  refine callS_of (lk_flood_flood _ _ _ _ ?_)
  unfold sh_flood_flood
  refine (Own.start h).box fun t8 h1 o1 => ?_
  simp only [pEq_ptr_nil, Option.isNone_some, ifV_false, pBin_lss, ifV_dec]
  refine ⟨fun e => by omega, fun _ => nodes_ok (H.more o1.ext) ?_⟩
  simp only [pBin_geq, ifV_dec]
  refine ⟨fun e => by omega, fun _ => nodes_ok (H.more o1.ext) (ho_new o1 fun F hp h2 o2 => ?_)⟩
  refine o2.build (enc := encI) (n := 1) [far] rfl (sizesOk_of rfl) rfl fun wf h3 o3 => nodes_ok (H.more o3.ext) ?_
  refine repeat_int64 o3 (o3.vw 0 rfl) hmost fun sd h4 o4 => ?_
  refine o4.build (enc := encI) (n := 1) [-1] rfl (sizesOk_of rfl) rfl fun wm h5 o5 => nodes_ok (H.more o5.ext) ?_
  refine repeat_int o5 (o5.vw 0 rfl) hmost fun sa h6 o6 => ⟨sizesOk_of (by
    obtain ⟨b, c, e⟩ := (o6.vw 0 rfl).isSl
    obtain ⟨b', c', e'⟩ := (o6.vw 2 rfl).isSl
    subst e e'; rfl), ?_⟩
  have ead : sa.cells = #[sa] ∧ sd.cells = #[sd] := ⟨(o6.vw 0 rfl).one, (o6.vw 2 rfl).one⟩
  refine o6.mkMap fun m h7 o7 => ?_
  obtain ⟨ba, ca, ea⟩ := (o7.vw 1 rfl).isSl
  obtain ⟨bd, cd, ed⟩ := (o7.vw 3 rfl).isSl
  refine ⟨sizesOk_of (by subst ea ed; rfl), o7.box fun rr h8 o8 => o8.box fun r9 h9 o9 => o9.st1 0 rfl rfl rfl rfl rfl fun h10 o10 => ?_⟩
  have o11 : Own h h10 (cellR r9 [ptr rr] T_p_flood_run :: cellR rr [ptr hp, sd, sa, sl0, .map (some m)] T_flood_run :: mapR m (fun _ => none) :: slR encI 1 T_int sa (List.replicate g.n (-1)) :: slR encI 1 T_int wm [-1] :: xR sd (List.replicate g.n far) :: xR wf [far] :: hpR F hp [] g.n :: [cellR t8 [sl0, sl0, sl0] T_flood_Tree]) := by
    subst ea ed; exact o10
  clear o10 o9 o8 o7 o6
  refine o11.load 0 rfl rfl ?_
  simp only [pNil_ptr, pField_ptr]
  refine o11.load 1 rfl rfl (ho_push o11 7 rfl (by simp) (by simp) hs fun F1 h12 o12 => ?_)
  refine o12.load 0 rfl rfl ?_
  simp only [pNil_ptr, pField_ptr]
  refine o12.load 1 rfl rfl ?_
  refine ho_pop o12 7 rfl (fun e => by simp [least] at e) fun p hp' F2 h13 o13 => ?_
  have hp2 : p = ((s : Int), 0) := by simpa [least] using hp'.symm
  subst hp2
  simp only [pExt0, pExt1, pExt2]
  refine o13.box fun kb h14 o14 => o14.st1 0 rfl rfl rfl rfl rfl fun h15 o15 => ?_
  have o16 := (o15.noMarks).nilS (enc := encN) (n := 1) (T := T_int)
  refine flood_loop (fin := FS.run g.arcs outs head (g.n + 1) (FS.start g.n s)) (m := m) (sd := sd) (sa := sa) (rr := rr) (hp := hp) hR H hN hE hev hhead hout hol (fun so h' o' => hK sd sa so h' o') ?_
  refine ⟨FS.start g.n s, kb, 0, sl0, F2, _, rfl, rfl, (FInv.start hs).mono (by simp [FS.start]), .inr ⟨((s : Int), 0), hp', rfl, rfl, rfl, rfl⟩, ?_⟩
  have e : (fun _ => none : Int → Option Value) = clo (FS.start g.n s).order := by funext x; simp [clo, FS.start]
  have o17 := o16.sel [2, 3, 4, 10, 6, 5, 8, 0, 11, 1] (by decide)
  dsimp only [List.map, List.getD] at o17
  rw [e] at o17
  exact o17

end
end Go.Proofs.YtgefabaobhendaaGreatDoor

namespace Go.Proofs.YtgefabaobhendaaGreatDoor
open Go Go.Mh
set_option linter.unusedVariables false

section
variable {h0 h : Heap} {L : List Res} {K : Value → Heap → Prop} {g : G} {r : Nat} {s : Int}

theorem out_lt {g : G} {v i : Nat} (h : i ∈ g.out v) : i < g.arcs.length := by
  have := (outsP_mem.1 h).2.1; omega
theorem in_lt {g : G} {v i : Nat} (h : i ∈ g.in v) : i < g.arcs.length := by
  have := (outsP_mem.1 h).2.1; omega

theorem from_ok (hR : g.Right) (H : NetR h r g) (hK : TreeK h (g.fromI s) K) : callS Tryz.prog F_flood_From [ptr r, I s] h K := by
  refine callS_of (lk_flood_From _ _ ?_)
  unfold sh_flood_From
  refine (Own.start h).box fun t4 h1 o1 => ?_
  have fin : TreeK h1 (g.fromI s) fun t9 h_2 => pStore 3 (ptr t4) t9 h_2 fun u h_3 => pLoadN 3 h_3 (ptr t4) fun res => K res h_3 := by
    intro sd sa so h2 o2
    have o3 := o1.frame o2
    refine o3.st 3 rfl rfl rfl rfl rfl ?_ fun h3 o4 => o4.ldN 3 rfl rfl rfl (hK sd sa so h3 (o4.sel [0, 1, 2] (by decide)))
    intro u hu
    simp at hu
    rcases hu with rfl | rfl | rfl
    · exact (o3.vw 0 rfl).plain
    · exact (o3.vw 1 rfl).plain
    · exact (o3.vw 2 rfl).plain
  unfold G.fromI at fin
  split at fin <;> rename_i hs
  · obtain ⟨s, rfl⟩ := Int.eq_ofNat_of_zero_le hs.1
    exact flood_ok hR (H.more o1.ext) (by omega) (out_next hR) from1_end rfl (fun a ha => (hR.ends a ha).2.1) (fun v _ i => out_lt) (fun v => outsP_short) fin
  · exact flood_none (g := g) (.inr ⟨rfl, H.more o1.ext, hs⟩) fin

theorem to_ok (hR : g.Right) (H : NetR h r g) (hK : TreeK h (g.toI s) K) : callS Tryz.prog F_flood_To [ptr r, I s] h K := by
  refine callS_of (lk_flood_To _ _ ?_)
  unfold sh_flood_To
  refine (Own.start h).box fun t4 h1 o1 => ?_
  have fin : TreeK h1 (g.toI s) fun t9 h_2 => pStore 3 (ptr t4) t9 h_2 fun u h_3 => pLoadN 3 h_3 (ptr t4) fun res => K res h_3 := by
    intro sd sa so h2 o2
    have o3 := o1.frame o2
    refine o3.st 3 rfl rfl rfl rfl rfl ?_ fun h3 o4 => o4.ldN 3 rfl rfl rfl (hK sd sa so h3 (o4.sel [0, 1, 2] (by decide)))
    intro u hu
    simp at hu
    rcases hu with rfl | rfl | rfl
    · exact (o3.vw 0 rfl).plain
    · exact (o3.vw 1 rfl).plain
    · exact (o3.vw 2 rfl).plain
  unfold G.toI at fin
  split at fin <;> rename_i hs
  · obtain ⟨s, rfl⟩ := Int.eq_ofNat_of_zero_le hs.1
    exact flood_ok hR (H.more o1.ext) (by omega) (in_next hR) to1_end rfl (fun a ha => (hR.ends a ha).1) (fun v _ i => in_lt) (fun v => outsP_short) fin
  · exact flood_none (g := g) (.inr ⟨rfl, H.more o1.ext, hs⟩) fin

theorem from_nil (hK : TreeK h .none K) : callS Tryz.prog F_flood_From [.pointer none, I s] h K := by
  refine callS_of (lk_flood_From _ _ ?_)
  unfold sh_flood_From
  refine (Own.start h).box fun t4 h1 o1 => flood_none (g := ⟨0, [], [], []⟩) (r := 0) (.inl rfl) fun sd sa so h2 o2 => ?_
  have o3 := o1.frame o2
  refine o3.st 3 rfl rfl rfl rfl rfl ?_ fun h3 o4 => o4.ldN 3 rfl rfl rfl (hK sd sa so h3 (o4.sel [0, 1, 2] (by decide)))
  intro u hu
  simp at hu
  rcases hu with rfl | rfl | rfl
  · exact (o3.vw 0 rfl).plain
  · exact (o3.vw 1 rfl).plain
  · exact (o3.vw 2 rfl).plain
theorem to_nil (hK : TreeK h .none K) : callS Tryz.prog F_flood_To [.pointer none, I s] h K := by
  refine callS_of (lk_flood_To _ _ ?_)
  unfold sh_flood_To
  refine (Own.start h).box fun t4 h1 o1 => flood_none (g := ⟨0, [], [], []⟩) (r := 0) (.inl rfl) fun sd sa so h2 o2 => ?_
  have o3 := o1.frame o2
  refine o3.st 3 rfl rfl rfl rfl rfl ?_ fun h3 o4 => o4.ldN 3 rfl rfl rfl (hK sd sa so h3 (o4.sel [0, 1, 2] (by decide)))
  intro u hu
  simp at hu
  rcases hu with rfl | rfl | rfl
  · exact (o3.vw 0 rfl).plain
  · exact (o3.vw 1 rfl).plain
  · exact (o3.vw 2 rfl).plain

end
end Go.Proofs.YtgefabaobhendaaGreatDoor

namespace Go.Proofs.YtgefabaobhendaaGreatDoor
open Go Go.Mh
set_option linter.unusedVariables false

section
variable {h0 h : Heap} {L : List Res} {K : Value → Heap → Prop} {g : G} {r : Nat}

/-- The rows that stay. -/
abbrev floB (y11 x10 g6 t4 : Nat) (yd ya yo xd xa xo vx vy va : Value) (N : Res) (g : G) (v : Nat) : List Res :=
  [cellR y11 [yd, ya, yo] T_flood_Tree, cellR x10 [xd, xa, xo] T_flood_Tree, xR yd (g.to v).dist, slR encI 1 T_int ya (g.to v).arc, slR encN 1 T_int yo (g.to v).order,
    xR xd (g.from v).dist, slR encI 1 T_int xa (g.from v).arc, slR encN 1 T_int xo (g.from v).order, N, cellR g6 [I g.n, vx, vy, va] T_api_Raw, xR vx g.X, xR vy g.Y, aR va g.arcs, cellR t4 [I 0, sl0, sl0, sl0] T_api_Raw]

theorem blk_take {outs : Bool → Nat → List Nat} {s : Stp} {k : Nat} (hk : k < (outs s.x s.v).length) : (blkS outs s).take (k + 2) = (blkS outs s).take (k + 1) ++ [scanE s.x (outs s.x s.v)[k]] := by
  simp only [blkS, List.take_succ_cons, List.cons_append]
  rw [List.take_succ_eq_append_getElem (by rw [List.length_map]; exact hk), List.getElem_map]

theorem blk_all {outs : Bool → Nat → List Nat} {s : Stp} {k : Nat} (hk : (outs s.x s.v).length ≤ k) : (blkS outs s).take (k + 1) = blkS outs s :=
  List.take_of_length_le (by rw [blkS_len]; omega)

theorem flooded12_ok {bs : List Int} {vb : Value} {s : Int} (Hb : Vw encU8 1 h vb bs) (hs : 0 ≤ s ∧ s ≤ 255)
    (hK : ∀ (g : G) (v : Nat) vx vy va w h', Few g → s.tmod g.n = (v : Int) → v < g.n → Own h h' [slR encE 4 T_api_Event w (evF g v), xR vx g.X, xR vy g.Y, aR va g.arcs] → K (.tuple #[.agg #[I g.n, vx, vy, va], w]) h') :
    callS Tryz.prog F_milestonelaw12_flooded [vb, .int .u8 s] h K := by
  refine callS_of (lk_milestonelaw12_flooded _ _ ?_)
  unfold sh_milestonelaw12_flooded
  refine (Own.start h).box fun t4 h1 o1 => drawn12_ok (Hb.more o1.ext) fun g vx vy va h2 hg o2' => ?_
  have o2 := o1.frame o2'
  clear o1 o2'
  have hR := hg.toRight
  have hx := (o2.vw 0 rfl).plain
  have hy := (o2.vw 1 rfl).plain
  have ha := (o2.vw 2 rfl).plain
  have hpl : ∀ u ∈ [I g.n, vx, vy, va], Mh.plainCell u = true := by intro u hu; simp at hu; rcases hu with rfl | rfl | rfl | rfl <;> first | rfl | assumption
  refine o2.box fun g6 h3 o3 => o3.st (cs' := [I g.n, vx, vy, va]) 0 rfl rfl rfl rfl rfl hpl fun h4 o4 => ?_
  refine o4.ldN (cs' := [I g.n, vx, vy, va]) 0 rfl rfl rfl ?_
  refine made12_ok o4 hR ⟨vx, vy, va, rfl, o4.vw 1 rfl, o4.vw 2 rfl, o4.vw 3 rfl⟩ fun r N h5 hN o5 => ?_
  clear o2 o3 o4
  simp only [pEq_ptr_nil, Option.isNone_some, ifV_false, pField_ptr]
  have hpos := hR.pos
  obtain ⟨v, hv⟩ : ∃ v : Nat, s.tmod g.n = (v : Int) := Int.eq_ofNat_of_zero_le (Int.tmod_nonneg _ hs.1)
  have hvn : v < g.n := by
    have := Int.tmod_lt_of_pos s (show (0 : Int) < g.n by omega)
    omega
  rw [pConv_int, w64 (by omega) (by omega)]
  refine o5.load 1 rfl rfl ?_
  rw [pBin_rem, hv]
  refine ⟨by omega, ?_⟩
  have eF : g.fromI v = g.from v := by simp [G.fromI, hvn]
  have eT : g.toI v = g.to v := by simp [G.toI, hvn]
  refine from_ok hR (hN _ (o5.get 0 rfl)) ?_
  rw [eF]
  intro xd xa xo h6 o6'
  have o6 := o5.frame o6'
  refine to_ok hR (hN _ (o6.get 3 rfl)) ?_
  rw [eT]
  intro yd ya yo h7 o7'
  have o7 := o6.frame o7'
  clear o5 o6 o6' o7'
  refine o7.box fun x10 h8 o8 => o8.box fun y11 h9 o9 => ?_
  have q1 := (o7.vw 0 rfl).plain
  have q2 := (o7.vw 1 rfl).plain
  have q3 := (o7.vw 2 rfl).plain
  have q4 := (o7.vw 3 rfl).plain
  have q5 := (o7.vw 4 rfl).plain
  have q6 := (o7.vw 5 rfl).plain
  refine o9.st (cs' := [xd, xa, xo]) 1 rfl rfl rfl rfl rfl (by intro u hu; simp at hu; rcases hu with rfl | rfl | rfl <;> assumption) fun h10 o10 => ?_
  refine o10.st (cs' := [yd, ya, yo]) 0 rfl rfl rfl rfl rfl (by intro u hu; simp at hu; rcases hu with rfl | rfl | rfl <;> assumption) fun h11 o11 => ?_
  have o : Own h h11 (floB y11 x10 g6 t4 yd ya yo xd xa xo vx vy va N g v) := o11
  clear o7 o8 o9 o10 o11 q1 q2 q3 q4 q5 q6
  have Tx := treeS_of hR hvn false
  have Ty := treeS_of hR hvn true
  have lx := nodup_le Tx.nodup Tx.range
  have ly := nodup_le Ty.nodup Ty.range
  have hfew := hg.few
  have hshort := hg.short
  have dlx := Tx.ls.len
  have dly := Ty.ls.len
  simp only [treeS, if_true, Bool.false_eq_true, if_false] at Tx Ty lx ly dlx dly
  generalize hA : stpF false (g.from v) = a
  generalize hB : stpF true (g.to v) = b
  have hmix : ∀ k, k ≤ 12 → (evs (outG g) (mixS a b k)).length ≤ 2040 := fun k hk => by
    have h1 := evs_len (outs := outG g) (m := g.arcs.length) (fun _ _ => outG_len) (st := mixS a b k)
    have h2 := @mixS_len a b k
    have h3 : (g.arcs.length + 1) * (mixS a b k).length ≤ 85 * 24 := Nat.mul_le_mul (by omega) (by omega)
    omega
  have hblk : ∀ s : Stp, (blkS (outG g) s).length ≤ 85 := fun s => by
    rw [blkS_len]
    have := @outG_len g s.x s.v
    omega
  refine LoopH_count (max (g.from v).order.length (g.to v).order.length) (fun i x h' => x.2.1 = I i ∧ Own h h' (slR encE 4 T_api_Event x.1 (evs (outG g) (mixS a b i)) :: floB y11 x10 g6 t4 yd ya yo xd xa xo vx vy va N g v)) ⟨rfl, o.nilS⟩ ?_
  clear o
  rintro i ⟨w, x, ⟨⟩⟩ h12 Z hi ⟨hxi, o⟩ hZ
  dsimp only at hxi o hZ ⊢
  subst hxi
  unfold sh_milestonelaw12_flooded_L1
  simp only [pField_ptr]
  refine o.load 2 rfl rfl ((o.vw 8 rfl).len (o.load 1 rfl rfl ((o.vw 5 rfl).len ?_)))
  have emx : (if ((g.to v).order.length : Int) > ((g.from v).order.length : Int) then ((g.to v).order.length : Int) else ((g.from v).order.length : Int)) = ((max (g.from v).order.length (g.to v).order.length : Nat) : Int) := by split <;> omega
  rw [pMax_int, emx, pBin_lss, ifV_dec]
  refine ⟨fun hlt => ?_, fun hge => ?_⟩
  · have hlt : i < max (g.from v).order.length (g.to v).order.length := by omega
    have hi12 : i < 12 := by omega
    have hl0 := hmix i (by omega)
    -- behind
    have k3 : ∀ w' h', Own h h' (slR encE 4 T_api_Event w' (evs (outG g) (mixS a b i) ++ evs (outG g) a[i]?.toList) :: floB y11 x10 g6 t4 yd ya yo xd xa xo vx vy va N g v) →
        sh_milestonelaw12_flooded_k3 Tryz.prog (ptr y11) (I i) (ptr r) (fun a0 a1 hz => Z (a0, (a1, ())) hz) w' h' := fun w' h' o => by
      unfold sh_milestonelaw12_flooded_k3
      simp only [pField_ptr]
      have hal : (evs (outG g) a[i]?.toList).length ≤ 85 := by
        cases a[i]? with
        | none => simp [evs_nil]
        | some s => rw [show (some s).toList = [s] from rfl, evs_one]; exact hblk s
      have hl1 : (evs (outG g) (mixS a b i) ++ evs (outG g) a[i]?.toList).length ≤ 2125 := by rw [List.length_append]; omega
      have k5 : ∀ w2 h2, Own h h2 (slR encE 4 T_api_Event w2 ((evs (outG g) (mixS a b i) ++ evs (outG g) a[i]?.toList) ++ evs (outG g) b[i]?.toList) :: floB y11 x10 g6 t4 yd ya yo xd xa xo vx vy va N g v) →
          sh_milestonelaw12_flooded_k5 Tryz.prog (I i) (fun a0 a1 hz => Z (a0, (a1, ())) hz) w2 h2 := fun w2 h2 o2 => by
        unfold sh_milestonelaw12_flooded_k5
        rw [pBin_add, wI i (by omega)]
        refine hZ (w2, (I (i + 1 : Nat), ())) h2 hlt ⟨rfl, ?_⟩
        rw [List.append_assoc, ← evs_append, ← evs_append] at o2
        exact o2
      refine o.load 1 rfl rfl ((o.vw 5 rfl).len ?_)
      rw [pBin_lss, ifV_dec]
      refine ⟨fun hly => ?_, fun hny => ?_⟩
      · have hly : i < (g.to v).order.length := by omega
        have hbi : b[i]? = some (⟨true, (g.to v).order[i], dAt (g.to v).dist (g.to v).order[i]⟩ : Stp) := by rw [← hB, stpF, List.getElem?_map, List.getElem?_eq_getElem hly]; rfl
        obtain ⟨u, hu⟩ : ∃ u, (g.to v).order[i] = u := ⟨_, rfl⟩
        rw [hu] at hbi
        have hun : u < g.n := by rw [← hu]; exact Ty.range _ (List.getElem_mem hly)
        have hat : ∀ {hh : Heap} {l : Value} {K : Value → Prop}, Vw encN 1 hh l (g.to v).order → K (I u) → pIdx 1 l (I i) (fun t => pLoad hh t K) := fun Hv hk => Hv.at1 (e := fun x : Nat => I x) (fun _ => rfl) hly (by rw [hu]; exact hk)
        refine o.load 1 rfl rfl (hat (o.vw 5 rfl) (o.load 1 rfl rfl (o.load 1 rfl rfl (hat (o.vw 5 rfl) ((o.vw 3 rfl).atI (by omega) ?_)))))
        rw [dAt_get (by omega)]
        refine evpop_ok fun h13 x13 => ?_
        have o13 := o.more x13
        refine o13.app1 0 (popE ⟨true, u, dAt (g.to v).dist u⟩) rfl rfl (sizesOk_of rfl) encE_len encE_plain rfl (by decide) (by omega) fun w2 h14 o14 => ?_
        refine o14.load 1 rfl rfl (hat (o14.vw 5 rfl) ?_)
        refine inI_ok (z := u) o14 hR (hN _ (o14.get 9 rfl)) fun vt h15 o15 => ?_
        rw [if_pos (by omega), Int.toNat_natCast] at o15
        have hlo2 : (g.in u).length ≤ g.arcs.length := @outG_len g true u
        have o16 : Own h h15 (slR encN 1 T_int vt (g.in u) :: slR encE 4 T_api_Event w2 ((evs (outG g) (mixS a b i) ++ evs (outG g) a[i]?.toList) ++ (blkS (outG g) ⟨true, u, dAt (g.to v).dist u⟩).take (0 + 1)) :: floB y11 x10 g6 t4 yd ya yo xd xa xo vx vy va N g v) := o15
        clear o15 o14 o13
        refine LoopH_count (g.in u).length (fun k x h' => x.2.1 = I k ∧ Own h h' (slR encN 1 T_int vt (g.in u) :: slR encE 4 T_api_Event x.1 ((evs (outG g) (mixS a b i) ++ evs (outG g) a[i]?.toList) ++ (blkS (outG g) ⟨true, u, dAt (g.to v).dist u⟩).take (k + 1)) :: floB y11 x10 g6 t4 yd ya yo xd xa xo vx vy va N g v)) ⟨rfl, o16⟩ ?_
        clear o16
        rintro k ⟨w3, x, ⟨⟩⟩ h16 Z3 hk ⟨hxk, o⟩ hZ3
        dsimp only at hxk o hZ3 ⊢
        subst hxk
        unfold sh_milestonelaw12_flooded_L4
        refine (o.vw 0 rfl).len ?_
        rw [pBin_lss, ifV_dec]
        refine ⟨fun hlk => ?_, fun hgk => ?_⟩
        · have hlk : k < (g.in u).length := by omega
          refine (o.vw 0 rfl).at1 (e := fun x : Nat => I x) (fun _ => rfl) hlk (evscan_ok fun h17 x17 => ?_)
          have o17 := o.more x17
          have hl2 : ((evs (outG g) (mixS a b i) ++ evs (outG g) a[i]?.toList) ++ (blkS (outG g) ⟨true, u, dAt (g.to v).dist u⟩).take (k + 1)).length ≤ 2300 := by
            rw [List.length_append, List.length_take]; omega
          refine o17.app1 1 (scanE true (g.in u)[k]) rfl rfl (sizesOk_of rfl) encE_len encE_plain rfl (by decide) (by omega) fun w4 h18 o18 => ?_
          rw [pBin_add, wI k (by omega)]
          refine hZ3 (w4, (I (k + 1 : Nat), ())) h18 hlk ⟨rfl, ?_⟩
          rw [show ((evs (outG g) (mixS a b i) ++ evs (outG g) a[i]?.toList) ++ (blkS (outG g) ⟨true, u, dAt (g.to v).dist u⟩).take (k + 1)) ++ [scanE true (g.in u)[k]] = (evs (outG g) (mixS a b i) ++ evs (outG g) a[i]?.toList) ++ (blkS (outG g) ⟨true, u, dAt (g.to v).dist u⟩).take (k + 1 + 1) from (List.append_assoc ..).trans (congrArg ((evs (outG g) (mixS a b i) ++ evs (outG g) a[i]?.toList) ++ ·) (blk_take (outs := outG g) (s := ⟨true, u, dAt (g.to v).dist u⟩) hlk).symm)] at o18
          exact o18
        · have : k = (g.in u).length := by omega
          subst this
          rw [show (blkS (outG g) ⟨true, u, dAt (g.to v).dist u⟩).take ((g.in u).length + 1) = blkS (outG g) ⟨true, u, dAt (g.to v).dist u⟩ from blk_all (outs := outG g) (s := ⟨true, u, dAt (g.to v).dist u⟩) (Nat.le_refl _)] at o
          refine k5 _ _ ?_
          rw [hbi, show (some (⟨true, u, dAt (g.to v).dist u⟩ : Stp)).toList = [⟨true, u, dAt (g.to v).dist u⟩] from rfl, evs_one]
          exact o.tail
      · have hbi : b[i]? = none := by rw [← hB]; exact List.getElem?_eq_none (by rw [stpF_len]; omega)
        refine k5 _ _ ?_
        rw [hbi]
        simpa [evs_nil] using o
    refine o.load 2 rfl rfl ((o.vw 8 rfl).len ?_)
    rw [pBin_lss, ifV_dec]
    refine ⟨fun hlx => ?_, fun hnx => ?_⟩
    · have hlx : i < (g.from v).order.length := by omega
      have hai : a[i]? = some (⟨false, (g.from v).order[i], dAt (g.from v).dist (g.from v).order[i]⟩ : Stp) := by rw [← hA, stpF, List.getElem?_map, List.getElem?_eq_getElem hlx]; rfl
      obtain ⟨u, hu⟩ : ∃ u, (g.from v).order[i] = u := ⟨_, rfl⟩
      rw [hu] at hai
      have hun : u < g.n := by rw [← hu]; exact Tx.range _ (List.getElem_mem hlx)
      have hat : ∀ {hh : Heap} {l : Value} {K : Value → Prop}, Vw encN 1 hh l (g.from v).order → K (I u) → pIdx 1 l (I i) (fun t => pLoad hh t K) := fun Hv hk => Hv.at1 (e := fun x : Nat => I x) (fun _ => rfl) hlx (by rw [hu]; exact hk)
      refine o.load 2 rfl rfl (hat (o.vw 8 rfl) (o.load 2 rfl rfl (o.load 2 rfl rfl (hat (o.vw 8 rfl) ((o.vw 6 rfl).atI (by omega) ?_)))))
      rw [dAt_get (by omega)]
      refine evpop_ok fun h13 x13 => ?_
      have o13 := o.more x13
      refine o13.app1 0 (popE ⟨false, u, dAt (g.from v).dist u⟩) rfl rfl (sizesOk_of rfl) encE_len encE_plain rfl (by decide) (by omega) fun w2 h14 o14 => ?_
      refine o14.load 2 rfl rfl (hat (o14.vw 8 rfl) ?_)
      refine outI_ok (z := u) o14 hR (hN _ (o14.get 9 rfl)) fun vt h15 o15 => ?_
      rw [if_pos (by omega), Int.toNat_natCast] at o15
      have hlo2 : (g.out u).length ≤ g.arcs.length := @outG_len g false u
      have o16 : Own h h15 (slR encN 1 T_int vt (g.out u) :: slR encE 4 T_api_Event w2 (evs (outG g) (mixS a b i) ++ (blkS (outG g) ⟨false, u, dAt (g.from v).dist u⟩).take (0 + 1)) :: floB y11 x10 g6 t4 yd ya yo xd xa xo vx vy va N g v) := o15
      clear o15 o14 o13
      refine LoopH_count (g.out u).length (fun k x h' => x.2.1 = I k ∧ Own h h' (slR encN 1 T_int vt (g.out u) :: slR encE 4 T_api_Event x.1 (evs (outG g) (mixS a b i) ++ (blkS (outG g) ⟨false, u, dAt (g.from v).dist u⟩).take (k + 1)) :: floB y11 x10 g6 t4 yd ya yo xd xa xo vx vy va N g v)) ⟨rfl, o16⟩ ?_
      clear o16
      rintro k ⟨w3, x, ⟨⟩⟩ h16 Z3 hk ⟨hxk, o⟩ hZ3
      dsimp only at hxk o hZ3 ⊢
      subst hxk
      unfold sh_milestonelaw12_flooded_L2
      refine (o.vw 0 rfl).len ?_
      rw [pBin_lss, ifV_dec]
      refine ⟨fun hlk => ?_, fun hgk => ?_⟩
      · have hlk : k < (g.out u).length := by omega
        refine (o.vw 0 rfl).at1 (e := fun x : Nat => I x) (fun _ => rfl) hlk (evscan_ok fun h17 x17 => ?_)
        have o17 := o.more x17
        have hl2 : (evs (outG g) (mixS a b i) ++ (blkS (outG g) ⟨false, u, dAt (g.from v).dist u⟩).take (k + 1)).length ≤ 2300 := by
          rw [List.length_append, List.length_take]; omega
        refine o17.app1 1 (scanE false (g.out u)[k]) rfl rfl (sizesOk_of rfl) encE_len encE_plain rfl (by decide) (by omega) fun w4 h18 o18 => ?_
        rw [pBin_add, wI k (by omega)]
        refine hZ3 (w4, (I (k + 1 : Nat), ())) h18 hlk ⟨rfl, ?_⟩
        rw [show (evs (outG g) (mixS a b i) ++ (blkS (outG g) ⟨false, u, dAt (g.from v).dist u⟩).take (k + 1)) ++ [scanE false (g.out u)[k]] = evs (outG g) (mixS a b i) ++ (blkS (outG g) ⟨false, u, dAt (g.from v).dist u⟩).take (k + 1 + 1) from (List.append_assoc ..).trans (congrArg (evs (outG g) (mixS a b i) ++ ·) (blk_take (outs := outG g) (s := ⟨false, u, dAt (g.from v).dist u⟩) hlk).symm)] at o18
        exact o18
      · have : k = (g.out u).length := by omega
        subst this
        rw [show (blkS (outG g) ⟨false, u, dAt (g.from v).dist u⟩).take ((g.out u).length + 1) = blkS (outG g) ⟨false, u, dAt (g.from v).dist u⟩ from blk_all (outs := outG g) (s := ⟨false, u, dAt (g.from v).dist u⟩) (Nat.le_refl _)] at o
        refine k3 _ _ ?_
        rw [hai, show (some (⟨false, u, dAt (g.from v).dist u⟩ : Stp)).toList = [⟨false, u, dAt (g.from v).dist u⟩] from rfl, evs_one]
        exact o.tail
    · have hai : a[i]? = none := by rw [← hA]; exact List.getElem?_eq_none (by rw [stpF_len]; omega)
      refine k3 _ _ ?_
      rw [hai]
      simpa [evs_nil] using o
  · have : i = max (g.from v).order.length (g.to v).order.length := by omega
    subst this
    refine o.ldN (cs' := [I g.n, vx, vy, va]) 10 rfl rfl rfl (o.st (cs' := [I g.n, vx, vy, va]) 14 rfl rfl rfl rfl rfl hpl fun h13 o13 => o13.ldN (cs' := [I g.n, vx, vy, va]) 14 rfl rfl rfl ?_)
    refine hK g v vx vy va w h13 hg hv hvn ?_
    rw [← hA, ← hB] at o13
    exact o13.sel [0, 11, 12, 13] (by decide)

end
end Go.Proofs.YtgefabaobhendaaGreatDoor

namespace Go.Proofs.YtgefabaobhendaaGreatDoor
open Go Go.Mh
set_option linter.unusedVariables false

section
variable {n m : Nat} {g : G} {l : List Ev}

theorem onceB_no (h : ¬ OnceE n m l) : onceB n m l = false := Bool.eq_false_iff.2 fun e => h (onceB_iff.1 e)
theorem headsB_no (h : ¬ HeadsE g l) : headsB g l = false := Bool.eq_false_iff.2 fun e => h (headsB_iff.1 e)

theorem twice_no {k : Nat} (hk : k < l.length) : ¬ OnceE n m (l ++ [l[k]]) := fun h => by
  have h1 := (onceE_iff.1 h).2
  rw [List.map_append, List.nodup_append] at h1
  exact h1.2.2 _ (List.mem_map_of_mem (List.getElem_mem hk)) _ (by simp) rfl
theorem again_no {e : Ev} (he : e ∈ l) : ¬ OnceE n m (e :: l) := fun h => by
  have h1 := (onceE_iff.1 h).2
  rw [List.map_cons, List.nodup_cons] at h1
  exact h1.1 (List.mem_map_of_mem he)
theorem tailE_nonneg {e : Ev} : 0 ≤ tailE g e := by
  unfold tailE
  split
  · split <;> omega
  · omega
theorem ahead_no {e : Ev} (he : e.kind ≠ 0) : ¬ HeadsE g (e :: l) := fun h => by
  have h1 := (h 0 e rfl).2 he
  have h2 := @tailE_nonneg g e
  have h3 : lastE ((e :: l).take 0) e.side = -1 := rfl
  omega
theorem may_no {k : Nat} {e : Ev} (hk : k < l.length) (he : mayE g.n g.arcs.length e = false) : ¬ OnceE g.n g.arcs.length (l.set k e) ∧ ¬ HeadsE g (l.set k e) := by
  have h0 : (l.set k e)[k]? = some e := List.getElem?_set_self hk
  exact ⟨fun h => absurd (he.symm.trans (h k e h0).1) (by decide), fun h => absurd (he.symm.trans (h k e h0).1) (by decide)⟩

theorem evF_pos (hR : g.Right) {v : Nat} (hv : v < g.n) : 0 < (evF g v).length := by
  have h1 := (treeS_of hR hv false).first
  have h2 := @evF_pops g v false
  rcases Nat.eq_zero_or_pos (evF g v).length with h | h
  · rw [List.length_eq_zero_iff.1 h] at h2
    have h3 : (treeS g false v).order = [] := List.map_eq_nil_iff.1 h2.symm
    rw [h3] at h1; cases h1
  · exact h

end

section
variable {h0 h : Heap} {L : List Res} {K : Value → Heap → Prop} {g : G} {r : Nat}

theorem traceSpoilt_ok {bs : List Int} {vb : Value} {s at' : Int} (Hb : Vw encU8 1 h vb bs) (hs : 0 ≤ s ∧ s ≤ 255) (ha : 0 ≤ at' ∧ at' ≤ 255) (hK : ∀ h', Ext h h' → K (.bool true) h') :
    CallsH Tryz.prog F_milestonelaw12_TraceSpoilt [vb, .int .u8 s, .int .u8 at'].toArray h K := by
  refine lk_milestonelaw12_TraceSpoilt _ _ _ ?_
  unfold sh_milestonelaw12_TraceSpoilt
  refine works12_ok fun h1 x1 => ?_
  rw [pUn_not, Bool.not_true, ifV_false]
  refine flooded12_ok (Hb.more x1) hs fun g v vx vy va w h2 hg hsv hv o2 => ?_
  have hR := hg.toRight
  have px := (o2.vw 1 rfl).plain
  have py := (o2.vw 2 rfl).plain
  have pa := (o2.vw 3 rfl).plain
  have hpl : ∀ u ∈ [I g.n, vx, vy, va], Mh.plainCell u = true := by intro u hu; simp at hu; rcases hu with rfl | rfl | rfl | rfl <;> first | rfl | assumption
  simp only [pExt0, pExt1]
  refine o2.box fun g7 h3 o3 => o3.st (cs' := [I g.n, vx, vy, va]) 0 rfl rfl rfl rfl rfl hpl fun h4 o4 => ?_
  refine o4.ldN (cs' := [I g.n, vx, vy, va]) 0 rfl rfl rfl ?_
  refine made12_ok o4 hR ⟨vx, vy, va, rfl, o4.vw 2 rfl, o4.vw 3 rfl, o4.vw 4 rfl⟩ fun r N h5 hN o5 => ?_
  clear o2 o3 o4
  simp only [pEq_ptr_nil, Option.isNone_some, ifV_false]
  have hO := evF_once hR hv
  have hH := evF_heads hR hv
  have hk := @evF_kind g v
  have hp := evF_pos hR hv
  have hlen : (evF g v).length ≤ 2040 := by
    have h1 := evF_len hR hv
    have h2 := hg.few
    have h3 := hg.short
    have h4 : (g.arcs.length + 1) * (2 * g.n) ≤ 85 * 24 := Nat.mul_le_mul (by omega) (by omega)
    omega
  have hsum : (evF g v).length = (evF g v).length := rfl
  generalize evF g v = l at o5 hO hH hk hp hlen
  refine (o5.vw 2 rfl).len ?_
  rw [pBin_eql, show ((l.length : Int) == 0) = false by simpa using fun e => by rw [e] at hp; simp at hp, ifV_false, pConv_int, w64 (by omega) (by omega)]
  refine (o5.vw 2 rfl).len ?_
  rw [pBin_rem]
  refine ⟨by omega, ?_⟩
  obtain ⟨k, hkk⟩ : ∃ k : Nat, at'.tmod l.length = (k : Int) := Int.eq_ofNat_of_zero_le (Int.tmod_nonneg _ ha.1)
  have hkl : k < l.length := by
    have := Int.tmod_lt_of_pos at' (show (0 : Int) < l.length by omega)
    omega
  rw [hkk]
  refine cutP_of (fun y h' => Own h1 h' (slR encE 4 T_api_Event y.1 (l ++ [l[k]]) :: [N, cellR g7 [I g.n, vx, vy, va] T_api_Raw, slR encE 4 T_api_Event w l, xR vx g.X, xR vy g.Y, aR va g.arcs])) (fun J hJ => ?_) ?_
  · have HL := o5.vw 2 rfl
    refine HL.idx encE_len hkl fun bl of hc => ?_
    have ld : ∀ {hh : Heap}, Ext h5 hh → ∀ {K : Value → Prop}, K (.agg (encE l[k]).toArray) → pLoadN 4 hh (.pointer (some ⟨bl, of, none⟩)) K := fun x K hk => by
      have := cellsAt_of_hcell (encE l[k]) of fun j hj => (hcell_more x ((hc j hj).trans (List.getElem?_eq_getElem hj))).trans (List.getElem?_eq_getElem hj).symm
      simp only [pLoadN_ptr]
      rw [show cellsAt _ bl of 4 = some (encE l[k]) from this]
      exact hk
    have O := Own.start h5
    refine ld (.refl _ _) ⟨?_, ?_⟩
    · refine O.build (enc := encE) (n := 4) [] rfl (sizesOk_of rfl) rfl fun t37 h7 o7 => ⟨?_, ?_⟩
      · refine o7.app 0 rfl encE_len encE_plain rfl (HL.more o7.ext) (by decide) (by rw [List.length_nil]; omega) fun t39 h8 o8 => ?_
        refine ⟨ld o8.ext rfl, ?_⟩
        refine o8.app1 0 l[k] rfl rfl (sizesOk_of rfl) encE_len encE_plain rfl (by decide) (by rw [List.nil_append]; omega) fun t45 h10 o10 => ?_
        exact hJ (t45, ()) h10 (o5.frame o10)
      · refine o7.build (enc := encE) (n := 4) [l[k]] rfl (sizesOk_of rfl) rfl fun t44 h11 o11 => ?_
        refine o11.app 1 rfl encE_len encE_plain rfl (HL.more o11.ext) (by decide) (by rw [List.length_nil]; omega) fun t39 h12 o12 => ?_
        refine o12.app 1 rfl encE_len encE_plain rfl (o12.vw 0 rfl) (by decide) (by rw [List.nil_append, List.length_singleton]; omega) fun t45 h13 o13 => ?_
        exact hJ (t45, ()) h13 (o5.frame o13.tail)
    · refine O.build (enc := encE) (n := 4) [l[k]] rfl (sizesOk_of rfl) rfl fun t44 h14 o14 => ?_
      refine o14.build (enc := encE) (n := 4) [] rfl (sizesOk_of rfl) rfl fun t37 h15 o15 => ?_
      refine o15.app 0 rfl encE_len encE_plain rfl (HL.more o15.ext) (by decide) (by rw [List.length_nil]; omega) fun t39 h12 o12 => ?_
      refine o12.app 0 rfl encE_len encE_plain rfl (o12.vw 1 rfl) (by decide) (by rw [List.nil_append, List.length_singleton]; omega) fun t45 h13 o13 => ?_
      exact hJ (t45, ()) h13 (o5.frame (o13.sel [0] (by decide)))
  · rintro ⟨t45, ⟨⟩⟩ h6 o
    dsimp only at o ⊢
    clear o5
    unfold sh_milestonelaw12_TraceSpoilt_C2
    refine onceB_ok (b := false) (hN _ (o.get 1 rfl)) (o.vw 0 rfl) (by rw [List.length_append, List.length_singleton]; omega) (onceB_no (twice_no hkl)) fun h7 x7 => ?_
    replace o := o.more x7
    rw [ifV_false]
    have etk : (l.drop 0).take (k - 0) = l.take k := by simp
    refine (o.vw 3 rfl).sub (a := 0) (j := k) encE_len rfl rfl (by omega) (by omega) fun v1 hv1 => ?_
    rw [etk] at hv1
    refine onceB_ok (b := true) (hN _ (o.get 1 rfl)) hv1 (by rw [List.length_take]; omega) (onceB_iff.2 (hO.take k)) fun h8 x8 => ?_
    replace o := o.more x8
    rw [pUn_not, Bool.not_true, ifV_false]
    refine (o.vw 3 rfl).sub (a := 0) (j := k) encE_len rfl rfl (by omega) (by omega) fun v2 hv2 => ?_
    rw [etk] at hv2
    refine headsB_ok (b := true) (hN _ (o.get 1 rfl)) hv2 (by rw [List.length_take]; omega) (headsB_iff.2 (hH.take k)) fun h9 x9 => ?_
    replace o := o.more x9
    rw [pUn_not, Bool.not_true, ifV_false]
    refine (o.vw 3 rfl).atF (u := I l[k].kind) encE_len hkl (by decide) rfl ?_
    rw [pBin_eql, ifV_beq]
    refine ⟨fun h1k => ?_, fun hn1 => ?_⟩
    · refine (o.vw 3 rfl).atN encE_len hkl ?_
      refine o.build (enc := encE) (n := 4) [l[k]] rfl (sizesOk_of rfl) rfl fun w3 h10 o10 => ?_
      refine o10.app 0 rfl encE_len encE_plain rfl (o10.vw 4 rfl) (by decide) (by rw [List.length_singleton]; omega) fun w4 h11 o11 => ?_
      refine headsB_ok (b := false) (hN _ (o11.get 2 rfl)) (o11.vw 0 rfl) (by simp; omega) (headsB_no (ahead_no (by omega))) fun h12 x12 => ?_
      replace o11 := o11.more x12
      rw [pUn_not, Bool.not_false, ifV_true]
      refine onceB_ok (b := false) (hN _ (o11.get 2 rfl)) (o11.vw 0 rfl) (by simp; omega) (onceB_no (again_no (List.getElem_mem hkl))) fun h13 x13 => ?_
      rw [pUn_not, Bool.not_false]
      exact hK _ (x1.trans (o11.more x13).ext fun _ h _ => h)
    · have h0k : l[k].kind = 0 := (hk _ (List.getElem_mem hkl)).resolve_right hn1
      refine o.build (enc := encE) (n := 4) [] rfl (sizesOk_of rfl) rfl fun w3 h10 o10 => ?_
      refine o10.app 0 rfl encE_len encE_plain rfl (o10.vw 4 rfl) (by decide) (by rw [List.length_nil]; omega) fun w4 h11 o11 => ?_
      refine o11.setF (a := ⟨l[k].kind, 2, l[k].id, l[k].label⟩) (j := k) (f := 1) 0 rfl encE_len hkl (by decide) rfl rfl rfl fun h12 o12 => ?_
      refine o12.build (enc := encE) (n := 4) [] rfl (sizesOk_of rfl) rfl fun w5 h13 o13 => ?_
      refine o13.app 0 rfl encE_len encE_plain rfl (o13.vw 5 rfl) (by decide) (by rw [List.length_nil]; omega) fun w6 h14 o14 => ?_
      simp only [pField_ptr]
      refine o14.load 4 rfl rfl ?_
      refine o14.setF (a := ⟨l[k].kind, l[k].side, g.n, l[k].label⟩) (j := k) (f := 2) 0 rfl encE_len hkl (by decide) rfl rfl rfl fun h15 o15 => ?_
      have o : Own h1 h15 (slR encE 4 T_api_Event w6 (l.set k ⟨l[k].kind, l[k].side, g.n, l[k].label⟩) :: slR encE 4 T_api_Event w4 (l.set k ⟨l[k].kind, 2, l[k].id, l[k].label⟩) :: slR encE 4 T_api_Event t45 (l ++ [l[k]]) :: [N, cellR g7 [I g.n, vx, vy, va] T_api_Raw, slR encE 4 T_api_Event w l, xR vx g.X, xR vy g.Y, aR va g.arcs]) := o15
      clear o10 o11 o12 o13 o14 o15
      have m1 : mayE g.n g.arcs.length ⟨l[k].kind, 2, l[k].id, l[k].label⟩ = false := decide_eq_false fun h => by
        rcases h.2.2.1 with h | h
        · exact absurd h (show ¬ (2 : Int) = 0 by decide)
        · exact absurd h (show ¬ (2 : Int) = 1 by decide)
      have m2 : mayE g.n g.arcs.length ⟨l[k].kind, l[k].side, g.n, l[k].label⟩ = false := decide_eq_false fun h => by
        have h2 : (g.n : Int) < mostE g.n g.arcs.length l[k].kind := h.2.1
        unfold mostE at h2
        rw [if_pos h0k] at h2
        omega
      refine onceB_ok (b := false) (hN _ (o.get 3 rfl)) (o.vw 1 rfl) (by rw [List.length_set]; omega) (onceB_no (may_no hkl m1).1) fun h24 x24 => ?_
      replace o := o.more x24
      rw [pUn_not, Bool.not_false, ifV_true]
      refine headsB_ok (b := false) (hN _ (o.get 3 rfl)) (o.vw 1 rfl) (by rw [List.length_set]; omega) (headsB_no (may_no hkl m1).2) fun h24 x24 => ?_
      replace o := o.more x24
      rw [pUn_not, Bool.not_false, ifV_true]
      refine onceB_ok (b := false) (hN _ (o.get 3 rfl)) (o.vw 0 rfl) (by rw [List.length_set]; omega) (onceB_no (may_no hkl m2).1) fun h24 x24 => ?_
      replace o := o.more x24
      rw [pUn_not, Bool.not_false, ifV_true]
      refine headsB_ok (b := false) (hN _ (o.get 3 rfl)) (o.vw 0 rfl) (by rw [List.length_set]; omega) (headsB_no (may_no hkl m2).2) fun h24 x24 => ?_
      replace o := o.more x24
      rw [pUn_not, Bool.not_false]
      exact hK _ (x1.trans o.ext fun _ h _ => h)

end
end Go.Proofs.YtgefabaobhendaaGreatDoor

namespace Go.Proofs.YtgefabaobhendaaGreatDoor
open Go Go.Mh
set_option linter.unusedVariables false

def fstI (p : Nat → Bool) (n : Nat) : Int := match (List.range n).find? p with
  | some i => (i : Nat)
  | none => -1
theorem fstI_fst {p : Nat → Bool} {n : Nat} : Fst p n (fstI p n) := by
  unfold fstI
  cases h : (List.range n).find? p with
  | none => exact .inl ⟨rfl, fun k hk => by have := List.find?_eq_none.1 h k (List.mem_range.2 hk); simpa using this⟩
  | some i =>
    have h1 := List.mem_range.1 (List.mem_of_find?_eq_some h)
    refine .inr ⟨i, rfl, h1, List.find?_some h, fun k hk => ?_⟩
    obtain ⟨_, ls, bs, e, hn⟩ := List.find?_eq_some_iff_append.1 h
    have hk1 : k ∈ ls := by
      have hl : ls.length = i := by
        have : (List.range n)[ls.length]? = some i := by rw [e]; simp
        rw [List.getElem?_range (by have := congrArg List.length e; simp at this; omega)] at this
        exact Option.some.inj this
      have h2 : (List.range n)[k]? = ls[k]? := by rw [e, List.getElem?_append_left (by omega)]
      rw [List.getElem?_range (by omega)] at h2
      exact List.mem_of_getElem? h2.symm
    simpa using hn k hk1

theorem labV_eqF {x : Option Int} : labV x = .tuple #[I (x.getD 0), .bool x.isSome] := by cases x <;> rfl

section
variable {h0 h : Heap} {L : List Res} {K : Value → Heap → Prop} {g : G} {r : Nat} {l : List Ev} {vl : Value}

abbrev beyF (l : List Ev) (fs : List Int) (most : Int) (i : Nat) : Bool := match l[i]? with | some e => beyP fs most e | none => false
theorem beyondI_ok {fs : List Int} {vf : Value} {most z : Int} (Hl : Vw encE 4 h vl l) (hll : l.length < 2 ^ 40) (Hf : Vw encI 1 h vf fs) (hz : fstI (beyF l fs most) l.length = z) (hK : ∀ h', Ext h h' → K (I z) h') :
    callS Tryz.prog F_trace_Beyond [vl, vf, I most] h K :=
  beyond_ok Hl hll Hf fun r' h' x hf => by
    rw [hf.uniq (fstI_fst (p := beyF l fs most)), hz]; exact hK h' x
theorem labelI_ok {s v : Int} {x : Option Int} (Hl : Vw encE 4 h vl l) (hll : l.length < 2 ^ 40) (hx : labE l s v = x) (hK : ∀ h', Ext h h' → K (labV x) h') : callS Tryz.prog F_trace_Label [vl, I s, I v] h K :=
  label_ok Hl hll (by rw [hx]; exact hK)

def gO : G := ⟨1, [0], [0], [⟨0, 0, 0⟩]⟩
theorem gO_right : gO.Right := ⟨by decide, by decide, rfl, rfl, by decide, by decide, by decide, by decide +kernel⟩
def lK : List Ev := [⟨0, 1, 0, 7⟩, ⟨1, 1, 0, 0⟩, ⟨0, 0, 0, -3⟩]
def lO : List Ev := [⟨0, 1, 0, 7⟩, ⟨1, 1, 0, 1⟩, ⟨0, 0, 0, -3⟩]

end
end Go.Proofs.YtgefabaobhendaaGreatDoor

namespace Go.Proofs.YtgefabaobhendaaGreatDoor
open Go Go.Mh
set_option linter.unusedVariables false

def mstL (d : List Int) (l : List Nat) (m : Int) : Int := l.foldl (fun m u => if dAt d u > m then dAt d u else m) m
theorem mstL_ge {d : List Int} : ∀ {l : List Nat} {m : Int}, m ≤ mstL d l m ∧ ∀ u ∈ l, dAt d u ≤ mstL d l m
  | [], m => ⟨Int.le_refl _, fun u h => by cases h⟩
  | a :: l, m => by
    obtain ⟨h1, h2⟩ := @mstL_ge d l (if dAt d a > m then dAt d a else m)
    refine ⟨?_, fun u hu => ?_⟩
    · refine Int.le_trans ?_ h1
      split <;> omega
    · rcases List.mem_cons.1 hu with rfl | hu
      · refine Int.le_trans ?_ h1
        split <;> omega
      · exact h2 u hu
theorem mstL_eq {d : List Int} : ∀ {l : List Nat} {m : Int}, mstL d l m = m ∨ ∃ u ∈ l, dAt d u = mstL d l m
  | [], m => .inl rfl
  | a :: l, m => by
    rcases @mstL_eq d l (if dAt d a > m then dAt d a else m) with h | ⟨u, hu, h⟩
    · show mstL d l _ = m ∨ _
      split at h
      · rename_i hgt
        exact .inr ⟨a, List.mem_cons_self, by show _ = mstL d l (if dAt d a > m then dAt d a else m); rw [if_pos hgt]; exact h.symm⟩
      · rename_i hgt
        left; show mstL d l (if dAt d a > m then dAt d a else m) = m; rw [if_neg hgt]; exact h
    · exact .inr ⟨u, List.mem_cons_of_mem _ hu, h⟩

theorem ofE_short {n m : Nat} {l : List Ev} (h : OnceE n m l) {s : Int} : (ofE 1 s l).length ≤ m := by
  obtain ⟨h1, h2⟩ := onceE_iff.1 h
  have : ((ofE 1 s l).map Int.toNat).length ≤ m := by
    refine nodup_le ?_ fun z hz => ?_
    · rw [List.nodup_iff_pairwise_ne, List.pairwise_map]
      unfold ofE
      rw [List.pairwise_map]
      rw [List.nodup_iff_pairwise_ne, List.pairwise_map] at h2
      refine (h2.filter (isE 1 s)).imp_of_mem fun {a b} ha hb hne e => hne ?_
      obtain ⟨ha1, ha2⟩ := List.mem_filter.1 ha
      obtain ⟨hb1, hb2⟩ := List.mem_filter.1 hb
      obtain ⟨a1, a2⟩ := of_decide_eq_true ha2
      obtain ⟨b1, b2⟩ := of_decide_eq_true hb2
      have p1 := (of_decide_eq_true (h1 a ha1)).1
      have p2 := (of_decide_eq_true (h1 b hb1)).1
      unfold Ev.key
      rw [a1, a2, b1, b2, show a.id = b.id by omega]
    · obtain ⟨w, hw, rfl⟩ := List.mem_map.1 hz
      obtain ⟨e, he, rfl⟩ := List.mem_map.1 hw
      obtain ⟨he1, he2⟩ := List.mem_filter.1 he
      obtain ⟨k1, k2⟩ := of_decide_eq_true he2
      obtain ⟨q1, q2, _⟩ := of_decide_eq_true (h1 e he1)
      unfold mostE at q2
      rw [if_neg (by omega), if_pos k1] at q2
      omega
  rwa [List.length_map] at this

theorem beyond_no {l : List Ev} {fs : List Int} {most : Int} (h : ∀ e ∈ l, beyP fs most e = false) : fstI (beyF l fs most) l.length = -1 := by
  refine fstI_fst.uniq (.inl ⟨rfl, fun k hk => ?_⟩)
  simp only [beyF, List.getElem?_eq_getElem hk]
  exact h _ (List.getElem_mem hk)
theorem beyond_yes {l : List Ev} {fs : List Int} {most : Int} {e : Ev} (he : e ∈ l) (h : beyP fs most e = true) : 0 ≤ fstI (beyF l fs most) l.length := by
  obtain ⟨k, hk⟩ := List.getElem?_of_mem he
  have hl := (List.getElem?_eq_some_iff.1 hk).1
  refine of_decide_eq_true ((fstI_fst (p := beyF l fs most) (n := l.length)).any.2 ⟨k, hl, ?_⟩)
  simp only [beyF, hk]; exact h

def aheadE (l : List Ev) : List Ev := l.filter fun e => e.side == 0

section
variable {g : G} {v : Nat}

theorem ahead_low (hR : g.Right) (hv : v < g.n) : ∀ e ∈ aheadE (evF g v), beyP (g.from v).dist (mstL (g.from v).dist (g.from v).order 0) e = false := fun e he => by
  obtain ⟨h1, h2⟩ := List.mem_filter.1 he
  have T := from_tree hR hv
  obtain ⟨s, hs, rfl | ⟨i, _, rfl⟩⟩ := mem_evs.1 h1
  · refine decide_eq_false fun h => ?_
    have hx : s.x = false := by
      have : sI s.x = 0 := by simpa [popE] using h2
      exact sI_inj.1 (this.trans (show (0 : Int) = sI false from rfl))
    have hm : s ∈ onS false (stF g v (max (g.from v).order.length (g.to v).order.length)) := mem_onS.2 ⟨hs, hx⟩
    rw [onS_stF] at hm
    obtain ⟨u, hu, rfl⟩ := List.mem_map.1 hm
    have hu : u ∈ (g.from v).order := hu
    have hun := T.range u hu
    have hl := T.ls.len
    have hmst := (mstL_ge (d := (g.from v).dist) (l := (g.from v).order) (m := 0)).2 u hu
    rcases h.2 with h | h | h
    · have h : (u : Int) < 0 := h
      omega
    · have h : ((g.from v).dist.length : Int) ≤ u := h
      omega
    · have h : _ < dAt (g.from v).dist ((u : Int)).toNat := h
      rw [Int.toNat_natCast] at h
      omega
  · exact decide_eq_false fun h => absurd h.1 (show ¬ (1 : Int) = 0 by decide)

theorem ahead_high (hR : g.Right) (hv : v < g.n) : ∃ e ∈ aheadE (evF g v), beyP (g.from v).dist (mstL (g.from v).dist (g.from v).order 0 - 1) e = true := by
  have T := from_tree hR hv
  have hso : v ∈ (g.from v).order := List.mem_of_head? T.first
  have : ∃ u ∈ (g.from v).order, dAt (g.from v).dist u = mstL (g.from v).dist (g.from v).order 0 := by
    rcases mstL_eq (d := (g.from v).dist) (l := (g.from v).order) (m := 0) with h | h
    · refine ⟨v, hso, ?_⟩
      rw [h]; exact T.ls.zero
    · exact h
  obtain ⟨u, hu, e⟩ := this
  have hm : (⟨false, u, dAt (g.from v).dist u⟩ : Stp) ∈ onS false (stF g v (max (g.from v).order.length (g.to v).order.length)) := by
    rw [onS_stF]; exact List.mem_map.2 ⟨u, hu, rfl⟩
  refine ⟨popE ⟨false, u, dAt (g.from v).dist u⟩, List.mem_filter.2 ⟨mem_evs.2 ⟨_, (mem_onS.1 hm).1, .inl rfl⟩, rfl⟩, decide_eq_true ⟨rfl, .inr (.inr ?_)⟩⟩
  show _ < dAt (g.from v).dist ((u : Int)).toNat
  rw [Int.toNat_natCast, e]
  omega

end

section
variable {h0 h : Heap} {L : List Res} {K : Value → Heap → Prop} {g : G} {r : Nat}

theorem traceFloods_ok {bs : List Int} {vb : Value} {s : Int} (Hb : Vw encU8 1 h vb bs) (hs : 0 ≤ s ∧ s ≤ 255) (hK : ∀ h', Ext h h' → K (.bool true) h') :
    CallsH Tryz.prog F_milestonelaw12_TraceFloods [vb, .int .u8 s].toArray h K := by
  refine lk_milestonelaw12_TraceFloods _ _ ?_
  unfold sh_milestonelaw12_TraceFloods
  refine works12_ok fun h1 x1 => ?_
  rw [pUn_not, Bool.not_true, ifV_false]
  refine flooded12_ok (Hb.more x1) hs fun g v vx vy va w h2 hg hsv hv o2 => ?_
  have hR := hg.toRight
  have px := (o2.vw 1 rfl).plain
  have py := (o2.vw 2 rfl).plain
  have pa := (o2.vw 3 rfl).plain
  have hpl : ∀ u ∈ [I g.n, vx, vy, va], Mh.plainCell u = true := by intro u hu; simp at hu; rcases hu with rfl | rfl | rfl | rfl <;> first | rfl | assumption
  simp only [pExt0, pExt1]
  refine o2.box fun g5 h3 o3 => o3.st (cs' := [I g.n, vx, vy, va]) 0 rfl rfl rfl rfl rfl hpl fun h4 o4 => ?_
  refine o4.ldN (cs' := [I g.n, vx, vy, va]) 0 rfl rfl rfl ?_
  refine made12_ok o4 hR ⟨vx, vy, va, rfl, o4.vw 2 rfl, o4.vw 3 rfl, o4.vw 4 rfl⟩ fun r N h5 hN o5 => ?_
  clear o2 o3 o4
  simp only [pEq_ptr_nil, Option.isNone_some, ifV_false]
  have hO := evF_once hR hv
  have hH := evF_heads hR hv
  have hk := @evF_kind g v
  have hp := evF_pos hR hv
  have hfew := hg.few
  have hshort := hg.short
  have hlen : (evF g v).length ≤ 2040 := by
    have h1 := evF_len hR hv
    have h4 : (g.arcs.length + 1) * (2 * g.n) ≤ 85 * 24 := Nat.mul_le_mul (by omega) (by omega)
    omega
  refine onceB_ok (b := true) (hN _ (o5.get 0 rfl)) (o5.vw 2 rfl) (by omega) (onceB_iff.2 hO) fun h7 x7 => ?_
  replace o5 := o5.more x7
  rw [pUn_not, Bool.not_true, ifV_false]
  refine headsB_ok (b := true) (hN _ (o5.get 0 rfl)) (o5.vw 2 rfl) (by omega) (headsB_iff.2 hH) fun h8 x8 => ?_
  replace o5 := o5.more x8
  rw [pUn_not, Bool.not_true, ifV_false, pConv_int, w64 (by omega) (by omega)]
  simp only [pField_ptr]
  refine o5.load 1 rfl rfl ?_
  rw [pBin_rem, hsv]
  refine ⟨by omega, ?_⟩
  have eF : g.fromI v = g.from v := by simp [G.fromI, hv]
  have eT : g.toI v = g.to v := by simp [G.toI, hv]
  refine from_ok hR (hN _ (o5.get 0 rfl)) ?_
  rw [eF]
  intro xd xa xo h6 o6'
  have o6 := o5.frame o6'
  refine to_ok hR (hN _ (o6.get 3 rfl)) ?_
  rw [eT]
  intro yd ya yo h7 o7'
  have o7 := o6.frame o7'
  clear o5 o6 o6' o7'
  refine o7.box fun x9 h8 o8 => o8.box fun y10 h9 o9 => ?_
  have q1 := (o7.vw 0 rfl).plain
  have q2 := (o7.vw 1 rfl).plain
  have q3 := (o7.vw 2 rfl).plain
  have q4 := (o7.vw 3 rfl).plain
  have q5 := (o7.vw 4 rfl).plain
  have q6 := (o7.vw 5 rfl).plain
  refine o9.st (cs' := [xd, xa, xo]) 1 rfl rfl rfl rfl rfl (by intro u hu; simp at hu; rcases hu with rfl | rfl | rfl <;> assumption) fun h10 o10 => ?_
  refine o10.st (cs' := [yd, ya, yo]) 0 rfl rfl rfl rfl rfl (by intro u hu; simp at hu; rcases hu with rfl | rfl | rfl <;> assumption) fun h11 o11 => ?_
  obtain ⟨B, hB⟩ : ∃ B : List Res, B = [cellR y10 [yd, ya, yo] T_flood_Tree, cellR x9 [xd, xa, xo] T_flood_Tree, xR yd (g.to v).dist, slR encI 1 T_int ya (g.to v).arc, slR encN 1 T_int yo (g.to v).order,
    xR xd (g.from v).dist, slR encI 1 T_int xa (g.from v).arc, slR encN 1 T_int xo (g.from v).order, N, cellR g5 [I g.n, vx, vy, va] T_api_Raw, slR encE 4 T_api_Event w (evF g v), xR vx g.X, xR vy g.Y, aR va g.arcs] := ⟨_, rfl⟩
  have o : Own h1 h11 B := by rw [hB]; exact o11
  clear o7 o8 o9 o10 o11 q1 q2 q3 q4 q5 q6
  have Tx := from_tree hR hv
  have Ty := to_tree hR hv
  have dlx := Tx.ls.len
  have dly := Ty.ls.len
  have lx := nodup_le Tx.nodup Tx.range
  refine LoopH_count g.n (fun i x h' => x.1 = I i ∧ Own h1 h' B) ⟨rfl, o⟩ ?_
  clear o
  rintro i ⟨x, ⟨⟩⟩ h12 Z hi ⟨hxi, o⟩ hZ
  dsimp only at hxi hZ ⊢
  subst hxi
  rw [hB] at o
  unfold sh_milestonelaw12_TraceFloods_L2 sh_milestonelaw12_TraceFloods_k3
  simp only [pField_ptr]
  refine o.load 9 rfl rfl ?_
  rw [pBin_lss, ifV_dec]
  refine ⟨fun hlt => ?_, fun hge => ?_⟩
  · have hlt : i < g.n := by omega
    have e0 := evF_label hR hv (x := false) hlt
    have e1 := evF_label hR hv (x := true) hlt
    simp only [treeS, if_true, Bool.false_eq_true, if_false] at e0 e1
    refine labelI_ok (s := 0) (o.vw 10 rfl) (by omega) e0 fun h13 x13 => ?_
    replace o := o.more x13
    rw [labV_eqF, pExt0, pExt1]
    refine labelI_ok (s := 1) (o.vw 10 rfl) (by omega) e1 fun h14 x14 => ?_
    replace o := o.more x14
    rw [labV_eqF, pExt0, pExt1]
    have k5 : sh_milestonelaw12_TraceFloods_k5 Tryz.prog (I i) (fun a0 hz => Z (a0, ()) hz) h14 := by
      unfold sh_milestonelaw12_TraceFloods_k5
      rw [pBin_add, wI i (by omega)]
      exact hZ (_, ()) h14 hlt ⟨rfl, by rw [hB]; exact o⟩
    have hd0 : ∀ {K : Value → Prop}, K (I (dAt (g.from v).dist i)) → pIdx 1 xd (I i) (fun t => pLoad h14 t K) := fun hk => (o.vw 5 rfl).atI (by omega) (by rw [dAt_get (by omega)]; exact hk)
    have hd1 : ∀ {K : Value → Prop}, K (I (dAt (g.to v).dist i)) → pIdx 1 yd (I i) (fun t => pLoad h14 t K) := fun hk => (o.vw 2 rfl).atI (by omega) (by rw [dAt_get (by omega)]; exact hk)
    refine o.load 1 rfl rfl (hd0 ?_)
    have c0 : decide (dAt (g.from v).dist i < 72057594037927936) = (if dAt (g.from v).dist i < far then some (dAt (g.from v).dist i) else none).isSome := by
      show decide (dAt (g.from v).dist i < far) = _
      split <;> simp_all
    have c1 : decide (dAt (g.to v).dist i < 72057594037927936) = (if dAt (g.to v).dist i < far then some (dAt (g.to v).dist i) else none).isSome := by
      show decide (dAt (g.to v).dist i < far) = _
      split <;> simp_all
    rw [pBin_lss, c0, pNe_bool, bne_self_eq_false, ifV_false]
    refine o.load 0 rfl rfl (hd1 ?_)
    rw [pBin_lss, c1, pNe_bool, bne_self_eq_false, ifV_false]
    have tl1 : ∀ b : Bool, (if dAt (g.to v).dist i < far then some (dAt (g.to v).dist i) else none).isSome = b → ifV (.bool b)
        (pLoad h14 (.pointer (some ⟨y10, 0 + 0, none⟩)) fun t109 => pIdx 1 t109 (I i) fun t111 => pLoad h14 t111 fun t112 => pBin .neq (I ((if dAt (g.to v).dist i < far then some (dAt (g.to v).dist i) else none).getD 0)) t112 fun t113 => sh_milestonelaw12_TraceFloods_k4 Tryz.prog K (I i) (fun a0 hz => Z (a0, ()) hz) t113 h14)
        (sh_milestonelaw12_TraceFloods_k5 Tryz.prog (I i) (fun a0 hz => Z (a0, ()) hz) h14) := fun b hb => by
      cases b with
      | false => rw [ifV_false]; exact k5
      | true =>
        rw [ifV_true]
        refine o.load 0 rfl rfl (hd1 ?_)
        rw [pBin_neq]
        have hlt1 : dAt (g.to v).dist i < far := by
          rcases Decidable.em (dAt (g.to v).dist i < far) with h | h
          · exact h
          · rw [if_neg h] at hb; cases hb
        rw [if_pos hlt1, Option.getD_some, bne_self_eq_false]
        unfold sh_milestonelaw12_TraceFloods_k4
        rw [ifV_false]; exact k5
    by_cases hl0 : dAt (g.from v).dist i < far
    · simp only [if_pos hl0, Option.isSome_some, ifV_true, Option.getD_some]
      refine o.load 1 rfl rfl (hd0 ?_)
      rw [pBin_neq, bne_self_eq_false, ifV_false]
      exact tl1 _ rfl
    · simp only [if_neg hl0, Option.isSome_none, ifV_false]
      exact tl1 _ rfl
  · refine pops_ok (s := 0) o (o.vw 10 rfl) (by omega) fun wp h13 o13 => ?_
    rw [show ofE 0 0 (evF g v) = nI (g.from v).order from evF_pops (x := false)] at o13
    obtain ⟨d, hd⟩ : ∃ d, d = (g.from v).dist := ⟨_, rfl⟩
    obtain ⟨ord, hord⟩ : ∃ d, d = (g.from v).order := ⟨_, rfl⟩
    have hnl : (nI ord).length = ord.length := nI_len
    have hol : ord.length ≤ 12 := by rw [hord]; omega
    rw [← hord] at o13 hB
    refine LoopH_count ord.length (fun k x h' => x.2.1 = I k ∧ x.1 = I (mstL d (ord.take k) 0) ∧ Own h1 h' (slR encI 1 T_int wp (nI ord) :: B)) ⟨rfl, rfl, by rw [hB]; exact o13⟩ ?_
    clear o13 o
    rintro k ⟨x, x', ⟨⟩⟩ h14 Z1 hk1 ⟨rfl, rfl, o⟩ hZ1
    dsimp only at hZ1 ⊢
    rw [hB] at o
    unfold sh_milestonelaw12_TraceFloods_L6
    refine (o.vw 0 rfl).len ?_
    rw [hnl, pBin_lss, ifV_dec]
    refine ⟨fun hlt => ?_, fun hge => ?_⟩
    · have hlt : k < ord.length := by omega
      simp only [pField_ptr]
      refine o.load 2 rfl rfl ((o.vw 0 rfl).atI (by omega) ?_)
      have en : (nI ord)[k]'(by omega) = ((ord[k] : Nat) : Int) := by simp [nI]
      have hu : ord[k] < g.n := Tx.range _ (by rw [← hord]; exact List.getElem_mem hlt)
      rw [en]
      refine (o.vw 6 rfl).atI (by omega) ?_
      rw [dAt_get (by omega), pMax_int, pBin_add, wI k (by omega)]
      refine hZ1 (_, (_, ())) h14 hlt ⟨rfl, ?_, by rw [hB]; exact o⟩
      rw [List.take_succ_eq_append_getElem hlt]
      show I _ = I (mstL d (ord.take k ++ [ord[k]]) 0)
      congr 1
      unfold mstL
      rw [List.foldl_append, hd]; rfl
    · have : k = ord.length := by omega
      subst this
      rw [List.take_length]
      clear hge hk1 hZ1
      refine LoopH_count (evF g v).length (fun q x h' => x.2.1 = I q ∧ Own h1 h' (slR encE 4 T_api_Event x.1 (aheadE ((evF g v).take q)) :: slR encI 1 T_int wp (nI ord) :: B)) ⟨rfl, by rw [hB]; exact o.nilS⟩ ?_
      clear o
      rintro q ⟨w1, x', ⟨⟩⟩ h15 Z2 hq ⟨hx', o⟩ hZ2
      dsimp only at hx' o hZ2 ⊢
      subst hx'
      rw [hB] at o
      unfold sh_milestonelaw12_TraceFloods_L7
      refine (o.vw 12 rfl).len ?_
      rw [pBin_lss, ifV_dec]
      refine ⟨fun hlt => ?_, fun hge => ?_⟩
      · have hlt : q < (evF g v).length := by omega
        have htk : aheadE ((evF g v).take (q + 1)) = aheadE ((evF g v).take q) ++ (if (evF g v)[q].side = 0 then [(evF g v)[q]] else []) := by
          rw [List.take_succ_eq_append_getElem hlt]
          unfold aheadE
          rw [List.filter_append, List.filter_cons, List.filter_nil]
          by_cases h : (evF g v)[q].side = 0
          · rw [if_pos (by simpa using h), if_pos h]
          · rw [if_neg (by simpa using h), if_neg h]
        have hal : (aheadE ((evF g v).take q)).length ≤ 2040 := by
          have h1 := List.length_filter_le (fun e : Ev => e.side == 0) ((evF g v).take q)
          rw [List.length_take] at h1
          unfold aheadE
          omega
        refine (o.vw 12 rfl).atF (u := I (evF g v)[q].side) encE_len hlt (by decide) rfl ?_
        unfold sh_milestonelaw12_TraceFloods_k8
        simp only [pBin_add]
        rw [wI q (by omega), pBin_eql, ifV_beq]
        refine ⟨fun h0 => ?_, fun h0 => ?_⟩
        · rw [if_pos h0] at htk
          refine (o.vw 12 rfl).atN encE_len hlt ?_
          refine o.app1 0 (evF g v)[q] rfl rfl (sizesOk_of rfl) encE_len encE_plain rfl (by decide) (by omega) fun w2 h16 o16 => ?_
          exact hZ2 (w2, (_, ())) h16 hlt ⟨rfl, by rw [htk, hB]; exact o16⟩
        · rw [if_neg h0, List.append_nil] at htk
          exact hZ2 (w1, (_, ())) h15 hlt ⟨rfl, by rw [htk, hB]; exact o⟩
      · have : q = (evF g v).length := by omega
        subst this
        rw [List.take_length] at o
        have hlow := ahead_low hR hv
        obtain ⟨e, he, hhi⟩ := ahead_high hR hv
        rw [← hd, ← hord] at hlow hhi
        have hal : (aheadE (evF g v)).length ≤ 2040 := by
          have h1 := List.length_filter_le (fun e : Ev => e.side == 0) (evF g v)
          unfold aheadE
          omega
        have hmst : 0 ≤ mstL d ord 0 := (mstL_ge (d := d) (l := ord) (m := 0)).1
        have hmst2 : mstL d ord 0 ≤ far := by
          rcases mstL_eq (d := d) (l := ord) (m := 0) with h | ⟨u, hu, h⟩
          · rw [h]; decide
          · rw [← h, hd]; exact Tx.ls.far_le (Tx.range u (by rw [← hord]; exact hu))
        refine cutP_of (fun y h' => y.1 = .bool true ∧ Ext h1 h') (fun J hJ => ?_) ?_
        · simp only [pField_ptr]
          refine (o.vw 1 rfl).len (o.load 3 rfl rfl ((o.vw 9 rfl).len ?_))
          rw [hnl, pBin_eql, show ((ord.length : Int) == ord.length) = true by simp, ifV_true]
          refine (o.vw 1 rfl).len (o.load 11 rfl rfl ?_)
          rw [hnl, pBin_leq, show decide ((ord.length : Int) ≤ g.n) = true from decide_eq_true (by have := hord ▸ lx; omega), ifV_true]
          refine o.load 11 rfl rfl ((o.vw 15 rfl).len ?_)
          have hs0 := ofE_short hO (s := 0)
          have hs1 := ofE_short hO (s := 1)
          refine scans_ok o (o.vw 12 rfl) (by omega) fun w2 h16 o16 => ⟨o16.load 12 rfl rfl rfl, (o16.vw 0 rfl).len ?_⟩
          rw [pBin_leq, show decide (((ofE 1 0 (evF g v)).length : Int) ≤ g.arcs.length) = true from decide_eq_true (by omega), ifV_true]
          replace o16 := o16.tail
          refine o16.load 11 rfl rfl ((o16.vw 15 rfl).len ?_)
          refine scans_ok o16 (o16.vw 12 rfl) (by omega) fun w3 h17 o17 => ⟨o17.load 12 rfl rfl rfl, (o17.vw 0 rfl).len ?_⟩
          rw [pBin_leq, show decide (((ofE 1 1 (evF g v)).length : Int) ≤ g.arcs.length) = true from decide_eq_true (by omega), ifV_true]
          replace o17 := o17.tail
          refine o17.load 3 rfl rfl ?_
          refine beyondI_ok (z := -1) (o17.vw 0 rfl) (by omega) (o17.vw 7 rfl) (by rw [← hd]; exact beyond_no hlow) fun h18 x18 => ?_
          replace o17 := o17.more x18
          rw [pBin_eql, show ((-1 : Int) == -1) = true from rfl, ifV_true]
          refine (o17.vw 0 rfl).len ?_
          rw [pBin_eql, ifV_beq]
          refine ⟨fun _ => hJ (_, ()) h18 ⟨rfl, o17.ext⟩, fun _ => ?_⟩
          refine o17.load 3 rfl rfl ?_
          rw [pBin_sub, w64 (by omega) (by have : far = 72057594037927936 := rfl
                                           omega)]
          refine beyondI_ok (o17.vw 0 rfl) (by omega) (o17.vw 7 rfl) rfl fun h19 x19 => ?_
          replace o17 := o17.more x19
          have := beyond_yes he hhi
          rw [hd] at this
          rw [pBin_geq, hd, show decide ((0 : Int) ≤ fstI (beyF (aheadE (evF g v)) (g.from v).dist (mstL (g.from v).dist ord 0 - 1)) (aheadE (evF g v)).length) = true from decide_eq_true this, ifV_true]
          exact hJ (_, ()) h19 ⟨rfl, o17.ext⟩
        · rintro ⟨y, ⟨⟩⟩ h20 ⟨hy, x20⟩
          dsimp only at hy ⊢
          subst hy
          unfold sh_milestonelaw12_TraceFloods_C9
          exact hK _ (x1.trans x20 fun _ h _ => h)

end
end Go.Proofs.YtgefabaobhendaaGreatDoor
