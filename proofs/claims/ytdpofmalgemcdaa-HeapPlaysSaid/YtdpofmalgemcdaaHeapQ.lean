/- A text of the proofs of seat Ytdpofmalgemcdaa: 'HeapQ'. It has no condition of its own. -/
import Derived.Test.YtdpofmalgemcdaaHeapP
set_option linter.unusedVariables false
set_option linter.unusedSimpArgs false
namespace Go.Proofs.Ytdpofmalgemcdaa
open Go Go.Mh

/-! ### The document's heap -/

structure RV (h : Heap) (F : Nat → Prop) (r : Nat) (l : List HE) (n : Int) : Prop where
  rep : ∃ v bl, h[r]? = some (.cells #[I n, v] 52 (0, 0)) ∧ SlR encH 2 67 h v bl l ∧ F r ∧ F bl
  low : ∀ b, F b → b < h.size
  ids : (l.map (·.1)).Nodup
  small : l.length < 2 ^ 40

section
variable {h h' : Heap} {F G S : Nat → Prop} {r : Nat} {l L : List HE} {n id key : Int} {K : Value → Heap → Prop} {p : HE}

theorem RV.upd (H : RV h F r l n) (hu : Upd S h h') (hd : Disj F S) : RV h' F r l n := by
  obtain ⟨⟨v, bl, a, b, f1, f2⟩, hlow, hid, hs⟩ := H
  exact ⟨⟨v, bl, hu.get a (hd _ f1), b.upd hu (hd _ f2), f1, f2⟩, fun b hb => Nat.lt_of_lt_of_le (hlow b hb) hu.size, hid, hs⟩

theorem rnew (hK : ∀ h' F r, RV h' F r [] (max n 0) → (∀ b, F b → h.size ≤ b) → Ext h h' → K (ptr r) h') : callS Try.prog 17 [I n] h K := by
  refine callS_of (link17 _ ?_)
  unfold sh17
  rw [pMax_int]
  have e : (if (0 : Int) > n then 0 else n) = max n 0 := by omega
  rw [e]
  refine ⟨by simp [sizesOk], ?_⟩
  refine pBox_of ?_
  exact hK _ (fun b => b = h.size) h.size ⟨⟨_, h.size, push_new, .inl ⟨rfl, rfl⟩, rfl, rfl⟩, fun b hb => by subst hb; simp, by simp, by simp⟩ (fun b hb => by omega) (Upd.push _ _ _)

theorem rat (H : RV h F r l n) (h1 : ∀ i (hi : i < l.length), l[i].1 = id → K (I i) h) (h0 : (∀ p ∈ l, p.1 ≠ id) → K (I (-1)) h) : callS Try.prog 27 [ptr r, I id] h K := by
  refine callS_of (link27 _ _ ?_)
  obtain ⟨⟨v, bl, hr, hs, f1, f2⟩, hlow, hid, hsm⟩ := H
  have c1 := hcell1 hr
  unfold sh27
  refine LoopH_intro (fun x h' => h' = h ∧ ∃ i : Nat, x.1 = I i ∧ i ≤ l.length ∧ ∀ j (hj : j < i) (hjl : j < l.length), l[j].1 ≠ id) (fun x _ => match x.1 with | .int _ k => ((l.length : Int) - k).toNat | _ => 0)
    ⟨rfl, 0, rfl, Nat.zero_le _, fun j hj => by omega⟩ ?_
  rintro ⟨x, ⟨⟩⟩ hh Z ⟨rfl, i, hx, hi, hno⟩ hZ
  dsimp only at hx
  subst hx
  dsimp only at hZ ⊢
  unfold sh27_L1
  simp only [pNil_ptr, pField_ptr, pLoad_ptr, Nat.zero_add, c1]
  refine hs.lenK ?_
  simp only [pBin_lss, ifV_dec]
  refine ⟨fun hlt => ?_, fun hge => ?_⟩
  · have hil : i < l.length := by omega
    refine hs.idx hil ?_
    have hc := hs.slot encH_len hil (j := 0) (by omega)
    rw [show (encH l[i])[0]? = some (I l[i].1) from rfl] at hc
    simp only [pField_ptr, pLoad_ptr, hc, pBin_eql, ifV_beq]
    refine ⟨fun e => h1 i hil e, fun e => ?_⟩
    have e3 : IntKind.i64.wrap ((i : Int) + 1) = ((i + 1 : Nat) : Int) := by rw [w64 (by omega) (by omega)]; rfl
    rw [pBin_add, e3]
    refine hZ _ _ ⟨rfl, i + 1, rfl, by omega, fun j hj hjl => ?_⟩ (by dsimp only; omega)
    by_cases e' : j = i
    · subst e'; exact e
    · exact hno j (by omega) hjl
  · refine h0 fun p hp => ?_
    obtain ⟨j, hj, rfl⟩ := List.mem_iff_getElem.1 hp
    exact hno j (by omega) hj

theorem slr_upd {α : Type} {enc : α → List Value} {m : Nat} {T : TypeId} {v : Value} {bl : Nat} {xs : List α} (H : SlR enc m T h v bl xs) (hu : Upd S h h') (hn : ∀ cs, h[bl]? = some (.cells cs T (0, 0)) → ¬ S bl) : SlR enc m T h' v bl xs := by
  rcases H with H | ⟨cap, rest, a, b, c, d⟩
  · exact .inl H
  · exact .inr ⟨cap, rest, a, hu.get b (hn _ b), c, d⟩

theorem rleast (H : RV h F r l n) (h0 : l = [] → K (I (-1)) h) (h1 : ∀ i (hi : i < l.length), Min l l[i] → K (I i) h) : callS Try.prog 28 [ptr r] h K := by
  refine callS_of (link28 _ ?_)
  obtain ⟨⟨v, bl, hr, hs, f1, f2⟩, hlow, hid, hsm⟩ := H
  have c1 := hcell1 hr
  unfold sh28
  refine LoopH_intro (fun x h' => h' = h ∧ ∃ i : Nat, x.2.1 = I i ∧ i ≤ l.length ∧ ((x.1 = I (-1) ∧ i = 0) ∨ ∃ b : Nat, x.1 = I b ∧ b < i ∧ ∀ j, j < i → j < l.length → ¬ hlt (gt l j) (gt l b) = true))
    (fun x _ => match x.2.1 with | .int _ k => ((l.length : Int) - k).toNat | _ => 0)
    ⟨rfl, 0, rfl, Nat.zero_le _, .inl ⟨rfl, rfl⟩⟩ ?_
  rintro ⟨x, y, ⟨⟩⟩ hh Z ⟨rfl, i, hx, hi, hb⟩ hZ
  dsimp only at hx hb
  subst hx
  dsimp only at hZ ⊢
  unfold sh28_L1
  simp only [pNil_ptr, pField_ptr, pLoad_ptr, Nat.zero_add, c1]
  refine hs.lenK ?_
  simp only [pBin_lss, ifV_dec]
  have e3 : i < l.length → IntKind.i64.wrap ((i : Int) + 1) = ((i + 1 : Nat) : Int) := fun _ => by rw [w64 (by omega) (by omega)]; rfl
  refine ⟨fun hlt' => ?_, fun hge => ?_⟩
  · have hil : i < l.length := by omega
    have take : (∀ j, j < i + 1 → j < l.length → ¬ hlt (gt l j) (gt l i) = true) → sh28_k2 Try.prog (I i) (fun a0 a1 hz => Z (a0, (a1, ())) hz) hh := by
      intro ht
      unfold sh28_k2 sh28_k3
      rw [pBin_add, e3 hil]
      exact hZ _ _ ⟨rfl, i + 1, rfl, by omega, .inr ⟨i, rfl, by omega, ht⟩⟩ (by dsimp only; omega)
    rcases hb with ⟨rfl, rfl⟩ | ⟨b, rfl, hbi, hmin⟩
    · simp only [pBin_lss, ifV_dec]
      refine ⟨fun _ => take fun j hj hjl => ?_, fun e => by omega⟩
      have : j = 0 := by omega
      subst this
      exact fun e => hlt_asymm e e
    · simp only [pBin_lss, ifV_dec]
      refine ⟨fun e => by omega, fun _ => ?_⟩
      have hbl' : b < l.length := by omega
      have keep : ¬ hlt (gt l i) (gt l b) = true → sh28_k3 Try.prog (I i) (fun a0 a1 hz => Z (a0, (a1, ())) hz) (I b) hh := by
        intro hn
        unfold sh28_k3
        rw [pBin_add, e3 hil]
        refine hZ _ _ ⟨rfl, i + 1, rfl, by omega, .inr ⟨b, rfl, by omega, fun j hj hjl => ?_⟩⟩ (by dsimp only; omega)
        by_cases e' : j = i
        · subst e'; exact hn
        · exact hmin j (by omega) hjl
      have take' : hlt (gt l i) (gt l b) = true → sh28_k2 Try.prog (I i) (fun a0 a1 hz => Z (a0, (a1, ())) hz) hh := by
        intro hn
        refine take fun j hj hjl => ?_
        by_cases e' : j = i
        · subst e'; exact fun e => hlt_asymm e e
        · exact hlt_lt (hmin j (by omega) hjl) hn
      have ci0 := hs.slot encH_len hil (j := 0) (by omega)
      have ci1 := hs.slot encH_len hil (j := 1) (by omega)
      have cb0 := hs.slot encH_len hbl' (j := 0) (by omega)
      have cb1 := hs.slot encH_len hbl' (j := 1) (by omega)
      rw [show (encH l[i])[0]? = some (I l[i].1) from rfl] at ci0
      rw [show (encH l[i])[1]? = some (I l[i].2) from rfl] at ci1
      rw [show (encH l[b])[0]? = some (I l[b].1) from rfl] at cb0
      rw [show (encH l[b])[1]? = some (I l[b].2) from rfl] at cb1
      rw [← gt_eq hil, ← gt_eq hbl', hlt_iff] at keep take'
      refine hs.idx hil ?_
      simp only [pField_ptr, pLoad_ptr, ci1]
      refine hs.idx hbl' ?_
      simp only [pField_ptr, pLoad_ptr, cb1, pBin_lss, ifV_dec]
      refine ⟨fun e => take' (.inl e), fun e => ?_⟩
      refine hs.idx hil ?_
      simp only [pField_ptr, pLoad_ptr, ci1]
      refine hs.idx hbl' ?_
      simp only [pField_ptr, pLoad_ptr, cb1, pBin_eql, ifV_beq]
      refine ⟨fun e2 => ?_, fun e2 => keep (by omega)⟩
      refine hs.idx hil ?_
      simp only [pField_ptr, pLoad_ptr, ci0]
      refine hs.idx hbl' ?_
      simp only [pField_ptr, pLoad_ptr, cb0, pBin_lss, ifV_dec]
      exact ⟨fun e3 => take' (.inr ⟨e2, e3⟩), fun e3 => keep (by omega)⟩
  · rcases hb with ⟨rfl, rfl⟩ | ⟨b, rfl, hbi, hmin⟩
    · exact h0 (List.eq_nil_of_length_eq_zero (by omega))
    · have hbl' : b < l.length := by omega
      refine h1 b hbl' ⟨List.getElem_mem hbl', fun q hq => ?_⟩
      obtain ⟨j, hj, rfl⟩ := List.mem_iff_getElem.1 hq
      rw [gt_eq hj, gt_eq hbl']
      exact hmin j (by omega) hj

end
end Go.Proofs.Ytdpofmalgemcdaa
