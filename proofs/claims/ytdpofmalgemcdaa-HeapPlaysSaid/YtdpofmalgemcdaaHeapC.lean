/- A text of the proofs of seat Ytdpofmalgemcdaa: 'HeapC'. It has no condition of its own. -/
import Derived.Test.YtdpofmalgemcdaaHeapB
set_option linter.unusedVariables false
set_option linter.unusedSimpArgs false
namespace Go.Proofs.Ytdpofmalgemcdaa
open Go Go.Mh

/-! ### The order, and what up and down keep -/

theorem hlt_iff {p q : HE} : hlt p q = true ↔ p.2 < q.2 ∨ p.2 = q.2 ∧ p.1 < q.1 := by simp [hlt]
theorem hlt_asymm {p q : HE} (h : hlt p q = true) : ¬ hlt q p = true := by rw [hlt_iff] at *; omega
theorem hlt_trans {p q s : HE} (h : ¬ hlt p q = true) (h' : ¬ hlt q s = true) : ¬ hlt p s = true := by rw [hlt_iff] at *; omega
theorem hlt_lt {p q s : HE} (h : ¬ hlt p q = true) (h' : hlt s q = true) : ¬ hlt p s = true := by rw [hlt_iff] at *; omega

abbrev gt (l : List HE) (j : Nat) : HE := l.getD j (0, 0)

theorem gt_eq {l : List HE} {j : Nat} (hj : j < l.length) : l[j] = gt l j := by simp [gt, hj]

theorem swapL_gt {l : List HE} {i k : Nat} (hi : i < l.length) (hk : k < l.length) (j : Nat) : gt (swapL l i k hi hk) j = if j = k then gt l i else if j = i then gt l k else gt l j := by
  by_cases hj : j < l.length
  · have hj' : j < (swapL l i k hi hk).length := by rw [swapL_length]; exact hj
    rw [← gt_eq hj', swapL_get hi hk hj']
    simp only [gt_eq]
  · have h1 : ¬ j = k := fun e => hj (e ▸ hk)
    have h2 : ¬ j = i := fun e => hj (e ▸ hi)
    simp only [h1, h2, if_false]
    have hj' : ¬ j < (swapL l i k hi hk).length := by rw [swapL_length]; exact hj
    simp [gt, hj, hj']

def HeapOrd (l : List HE) : Prop := ∀ j, 0 < j → j < l.length → ¬ hlt (gt l j) (gt l ((j - 1) / 4)) = true

def UpInv (l : List HE) (i : Nat) : Prop :=
  (∀ j, 0 < j → j < l.length → j ≠ i → ¬ hlt (gt l j) (gt l ((j - 1) / 4)) = true) ∧
  (0 < i → ∀ j, 0 < j → j < l.length → (j - 1) / 4 = i → ¬ hlt (gt l j) (gt l ((i - 1) / 4)) = true)

theorem UpInv.done {l : List HE} {i : Nat} (h : UpInv l i) (hi : 0 < i → ¬ hlt (gt l i) (gt l ((i - 1) / 4)) = true) : HeapOrd l := by
  intro j h0 h1
  by_cases e : j = i
  · subst e; exact hi h0
  · exact h.1 j h0 h1 e

theorem UpInv.step {l : List HE} {i : Nat} (h : UpInv l i) (h0 : 0 < i) (hi : i < l.length) (hp : (i - 1) / 4 < l.length) (hlt' : hlt (gt l i) (gt l ((i - 1) / 4)) = true) :
    UpInv (swapL l i ((i - 1) / 4) hi hp) ((i - 1) / 4) := by
  have hpi : (i - 1) / 4 < i := by omega
  refine ⟨fun j j0 j1 jp => ?_, fun p0 j j0 j1 je => ?_⟩
  · rw [swapL_length] at j1
    rw [swapL_gt, swapL_gt]
    simp only [jp, if_false]
    by_cases e : j = i
    · subst e
      simp only [if_true]
      exact hlt_asymm hlt'
    · simp only [e, if_false]
      by_cases e1 : (j - 1) / 4 = (i - 1) / 4
      · simp only [e1, if_true]
        have := h.1 j j0 j1 e
        rw [e1] at this
        exact hlt_lt this hlt'
      · simp only [e1, if_false]
        by_cases e2 : (j - 1) / 4 = i
        · simp only [e2, if_true]
          exact h.2 h0 j j0 j1 e2
        · simp only [e2, if_false]
          exact h.1 j j0 j1 e
  · rw [swapL_length] at j1
    have hg : ((i - 1) / 4 - 1) / 4 < (i - 1) / 4 := by omega
    have e1 : ¬ ((i - 1) / 4 - 1) / 4 = (i - 1) / 4 := by omega
    have e2 : ¬ ((i - 1) / 4 - 1) / 4 = i := by omega
    rw [swapL_gt, swapL_gt]
    simp only [e1, e2, if_false]
    have jp : ¬ j = (i - 1) / 4 := by omega
    simp only [jp, if_false]
    have hgp := h.1 ((i - 1) / 4) p0 hp (by omega)
    by_cases e : j = i
    · simp only [e, if_true]; exact hgp
    · simp only [e, if_false]
      have := h.1 j j0 j1 e
      rw [je] at this
      exact hlt_trans this hgp

theorem up_ok {h : Heap} {r m bl : Nat} {l : List HE} {n : Int} {i : Nat} {K : Value → Heap → Prop} (H : Rep h r m bl l n) (hi : i < l.length) (hu : UpInv l i)
    (hK : ∀ h' l', Rep h' r m bl l' n → l'.Perm l → HeapOrd l' → Upd (fun b => b = m ∨ b = bl) h h' → K (.tuple #[]) h') : callS Try.prog 22 [ptr r, I i] h K := by
  refine callS_of (link22 _ _ ?_)
  unfold sh22
  refine LoopH_intro (fun x h' => ∃ (j : Nat) (l' : List HE), x.1 = I j ∧ j < l'.length ∧ Rep h' r m bl l' n ∧ l'.Perm l ∧ UpInv l' j ∧ Upd (fun b => b = m ∨ b = bl) h h')
    (fun x _ => match x.1 with | .int _ n => n.toNat | _ => 0) ⟨i, l, rfl, hi, H, .refl _, hu, .refl _ _⟩ ?_
  rintro ⟨x, ⟨⟩⟩ h' Z ⟨j, l', hx, hj, H', hp, hu', hupd⟩ hZ
  dsimp only at hx
  subst hx
  dsimp only at hZ ⊢
  have hsm := H'.small
  unfold sh22_L1
  simp only [pBin_gtr, ifV_dec]
  refine ⟨fun h0 => ?_, fun h0 => ?_⟩
  · have h0 : 0 < j := by omega
    have epar : (((j : Int) - 1).tdiv 4) = (((j - 1) / 4 : Nat) : Int) := by
      rw [show ((j : Int) - 1) = ((j - 1 : Nat) : Int) by omega]; rfl
    have e1 : IntKind.i64.wrap ((j : Int) - 1) = (j : Int) - 1 := w64 (by omega) (by omega)
    have e2 : IntKind.i64.wrap (((j - 1) / 4 : Nat) : Int) = (((j - 1) / 4 : Nat) : Int) := w64 (by omega) (by omega)
    simp only [pBin_sub, pBin_quo, e1, epar, e2]
    refine ⟨by decide, ?_⟩
    have hpl : (j - 1) / 4 < l'.length := by omega
    refine ahead_ok H' hj hpl fun h1 hx1 => ?_
    obtain ⟨hn1, hn2, hn3⟩ := H'.r_ne (by omega)
    have H1 := H'.upd hx1 id id id
    rw [ifV_bool, gt_eq hj, gt_eq hpl]
    refine ⟨fun hb => ⟨by decide, ?_⟩, fun hb => ?_⟩
    · refine swap_ok H1 hj hpl fun h2 H2 hx2 => ?_
      refine ⟨by decide, ?_⟩
      refine hZ _ _ ⟨(j - 1) / 4, _, rfl, by rw [swapL_length]; exact hpl, H2, (swapL_perm hj hpl).trans hp, hu'.step h0 hj hpl hb, ?_⟩ ?_
      · exact (hupd.trans (hx1.upd (S := fun b => b = m ∨ b = bl)) fun _ h _ => h).trans hx2 fun _ h _ => h
      · dsimp only; omega
    · exact hK _ _ H1 hp (hu'.done fun _ => by rw [hb]; simp) (hupd.trans (hx1.upd (S := fun b => b = m ∨ b = bl)) fun _ h _ => h)
  · have h0 : j = 0 := by omega
    subst h0
    exact hK _ _ H' hp (hu'.done fun h => absurd h (Nat.lt_irrefl 0)) hupd

end Go.Proofs.Ytdpofmalgemcdaa
