/- Texts of the proofs of seat YtkeoponidgpfpaaGreatDoor, joined: HpQ, HpR, R8A, R7C, R7A, R7B, R10A, R10B, R14B, R14C, R14D, TrA, TrB, TrC, TrD, F14A. They have no conditions of their own. -/
import Derived.Test.YtkeoponidgpfpaaGreatDoorTb
import Derived.Test.YtkeoponidgpfpaaGreatDoorTa
import Derived.Test.YtkeoponidgpfpaaGreatDoorMc
import Derived.Test.YtkeoponidgpfpaaGreatDoorMd
set_option linter.unusedVariables false
set_option linter.unusedSimpArgs false

namespace Go.Proofs.YtkeoponidgpfpaaGreatDoor
open Go Go.Mh

/-! ### The document's heap -/

structure RV (h : Heap) (F : Nat → Prop) (r : Nat) (l : List HE) (n : Int) : Prop where
  rep : ∃ v bl, h[r]? = some (.cells #[I n, v] T_milestoneref08_Heap (0, 0)) ∧ SlR encH 2 T_milestoneref08_Held h v bl l ∧ F r ∧ F bl
  low : ∀ b, F b → b < h.size
  ids : (l.map (·.1)).Nodup
  small : l.length < 2 ^ 40

section
variable {h h' : Heap} {F G S : Nat → Prop} {r : Nat} {l L : List HE} {n id key : Int} {K : Value → Heap → Prop} {p : HE}

theorem RV.upd (H : RV h F r l n) (hu : Upd S h h') (hd : Disj F S) : RV h' F r l n := by
  obtain ⟨⟨v, bl, a, b, f1, f2⟩, hlow, hid, hs⟩ := H
  exact ⟨⟨v, bl, hu.get a (hd _ f1), b.upd hu (hd _ f2), f1, f2⟩, fun b hb => Nat.lt_of_lt_of_le (hlow b hb) hu.size, hid, hs⟩

theorem rnew (hK : ∀ h' F r, RV h' F r [] (max n 0) → (∀ b, F b → h.size ≤ b) → Ext h h' → K (ptr r) h') : callS Tryz.prog F_milestoneref08_New [I n] h K := by
  refine callS_of (lk_milestoneref08_New _ ?_)
  unfold sh_milestoneref08_New
  rw [pMax_int]
  have e : (if (0 : Int) > n then 0 else n) = max n 0 := by omega
  rw [e]
  refine ⟨by simp [sizesOk], ?_⟩
  refine pBox_of ?_
  exact hK _ (fun b => b = h.size) h.size ⟨⟨_, h.size, push_new, .inl ⟨rfl, rfl⟩, rfl, rfl⟩, fun b hb => by subst hb; simp, by simp, by simp⟩ (fun b hb => by omega) (Upd.push _ _ _)

theorem rat (H : RV h F r l n) (h1 : ∀ i (hi : i < l.length), l[i].1 = id → K (I i) h) (h0 : (∀ p ∈ l, p.1 ≠ id) → K (I (-1)) h) : callS Tryz.prog F_milestoneref08_Heap_at [ptr r, I id] h K := by
  refine callS_of (lk_milestoneref08_Heap_at _ _ ?_)
  obtain ⟨⟨v, bl, hr, hs, f1, f2⟩, hlow, hid, hsm⟩ := H
  have c1 := hcell1 hr
  unfold sh_milestoneref08_Heap_at
  refine LoopH_intro (fun x h' => h' = h ∧ ∃ i : Nat, x.1 = I i ∧ i ≤ l.length ∧ ∀ j (hj : j < i) (hjl : j < l.length), l[j].1 ≠ id) (fun x _ => match x.1 with | .int _ k => ((l.length : Int) - k).toNat | _ => 0)
    ⟨rfl, 0, rfl, Nat.zero_le _, fun j hj => by omega⟩ ?_
  rintro ⟨x, ⟨⟩⟩ hh Z ⟨rfl, i, hx, hi, hno⟩ hZ
  dsimp only at hx
  subst hx
  dsimp only at hZ ⊢
  unfold sh_milestoneref08_Heap_at_L1
  simp only [pNil_ptr, pField_ptr, pLoad_ptr, Nat.zero_add, c1]
  refine hs.lenK ?_
  simp only [pBin_lss, ifV_dec]
  refine ⟨fun hlt => ?_, fun hge => ?_⟩
  · have hil : i < l.length := by omega
    refine hs.idx hil ?_
    have hc := hs.slot encH_len hil (j := 0) (by omega)
    rw [show (encH l[i])[0]? = some (I l[i].1) from rfl] at hc
    simp only [pField_ptr, pLoad_ptr, hc, pBin_eql, ifV_beq]
    refine ⟨fun e => h1 i hil e, fun e => ?_⟩
    have e3 : IntKind.i64.wrap ((i : Int) + 1) = ((i + 1 : Nat) : Int) := by rw [w64 (by omega) (by omega)]; rfl
    rw [pBin_add, e3]
    refine hZ _ _ ⟨rfl, i + 1, rfl, by omega, fun j hj hjl => ?_⟩ (by dsimp only; omega)
    by_cases e' : j = i
    · subst e'; exact e
    · exact hno j (by omega) hjl
  · refine h0 fun p hp => ?_
    obtain ⟨j, hj, rfl⟩ := List.mem_iff_getElem.1 hp
    exact hno j (by omega) hj

theorem slr_upd {α : Type} {enc : α → List Value} {m : Nat} {T : TypeId} {v : Value} {bl : Nat} {xs : List α} (H : SlR enc m T h v bl xs) (hu : Upd S h h') (hn : ∀ cs, h[bl]? = some (.cells cs T (0, 0)) → ¬ S bl) : SlR enc m T h' v bl xs := by
  rcases H with H | ⟨cap, rest, a, b, c, d⟩
  · exact .inl H
  · exact .inr ⟨cap, rest, a, hu.get b (hn _ b), c, d⟩

theorem rleast (H : RV h F r l n) (h0 : l = [] → K (I (-1)) h) (h1 : ∀ i (hi : i < l.length), Min l l[i] → K (I i) h) : callS Tryz.prog F_milestoneref08_Heap_least [ptr r] h K := by
  refine callS_of (lk_milestoneref08_Heap_least _ ?_)
  obtain ⟨⟨v, bl, hr, hs, f1, f2⟩, hlow, hid, hsm⟩ := H
  have c1 := hcell1 hr
  unfold sh_milestoneref08_Heap_least
  refine LoopH_intro (fun x h' => h' = h ∧ ∃ i : Nat, x.2.1 = I i ∧ i ≤ l.length ∧ ((x.1 = I (-1) ∧ i = 0) ∨ ∃ b : Nat, x.1 = I b ∧ b < i ∧ ∀ j, j < i → j < l.length → ¬ hlt (gt l j) (gt l b) = true))
    (fun x _ => match x.2.1 with | .int _ k => ((l.length : Int) - k).toNat | _ => 0)
    ⟨rfl, 0, rfl, Nat.zero_le _, .inl ⟨rfl, rfl⟩⟩ ?_
  rintro ⟨x, y, ⟨⟩⟩ hh Z ⟨rfl, i, hx, hi, hb⟩ hZ
  dsimp only at hx hb
  subst hx
  dsimp only at hZ ⊢
  unfold sh_milestoneref08_Heap_least_L1
  simp only [pNil_ptr, pField_ptr, pLoad_ptr, Nat.zero_add, c1]
  refine hs.lenK ?_
  simp only [pBin_lss, ifV_dec]
  have e3 : i < l.length → IntKind.i64.wrap ((i : Int) + 1) = ((i + 1 : Nat) : Int) := fun _ => by rw [w64 (by omega) (by omega)]; rfl
  refine ⟨fun hlt' => ?_, fun hge => ?_⟩
  · have hil : i < l.length := by omega
    have take : (∀ j, j < i + 1 → j < l.length → ¬ hlt (gt l j) (gt l i) = true) → sh_milestoneref08_Heap_least_k2 Tryz.prog (I i) (fun a0 a1 hz => Z (a0, (a1, ())) hz) hh := by
      intro ht
      unfold sh_milestoneref08_Heap_least_k2 sh_milestoneref08_Heap_least_k3
      rw [pBin_add, e3 hil]
      exact hZ _ _ ⟨rfl, i + 1, rfl, by omega, .inr ⟨i, rfl, by omega, ht⟩⟩ (by dsimp only; omega)
    rcases hb with ⟨rfl, rfl⟩ | ⟨b, rfl, hbi, hmin⟩
    · simp only [pBin_lss, ifV_dec]
      refine ⟨fun _ => take fun j hj hjl => ?_, fun e => by omega⟩
      have : j = 0 := by omega
      subst this
      exact fun e => hlt_asymm e e
    · simp only [pBin_lss, ifV_dec]
      refine ⟨fun e => by omega, fun _ => ?_⟩
      have hbl' : b < l.length := by omega
      have keep : ¬ hlt (gt l i) (gt l b) = true → sh_milestoneref08_Heap_least_k3 Tryz.prog (I i) (fun a0 a1 hz => Z (a0, (a1, ())) hz) (I b) hh := by
        intro hn
        unfold sh_milestoneref08_Heap_least_k3
        rw [pBin_add, e3 hil]
        refine hZ _ _ ⟨rfl, i + 1, rfl, by omega, .inr ⟨b, rfl, by omega, fun j hj hjl => ?_⟩⟩ (by dsimp only; omega)
        by_cases e' : j = i
        · subst e'; exact hn
        · exact hmin j (by omega) hjl
      have take' : hlt (gt l i) (gt l b) = true → sh_milestoneref08_Heap_least_k2 Tryz.prog (I i) (fun a0 a1 hz => Z (a0, (a1, ())) hz) hh := by
        intro hn
        refine take fun j hj hjl => ?_
        by_cases e' : j = i
        · subst e'; exact fun e => hlt_asymm e e
        · exact hlt_lt (hmin j (by omega) hjl) hn
      have ci0 := hs.slot encH_len hil (j := 0) (by omega)
      have ci1 := hs.slot encH_len hil (j := 1) (by omega)
      have cb0 := hs.slot encH_len hbl' (j := 0) (by omega)
      have cb1 := hs.slot encH_len hbl' (j := 1) (by omega)
      rw [show (encH l[i])[0]? = some (I l[i].1) from rfl] at ci0
      rw [show (encH l[i])[1]? = some (I l[i].2) from rfl] at ci1
      rw [show (encH l[b])[0]? = some (I l[b].1) from rfl] at cb0
      rw [show (encH l[b])[1]? = some (I l[b].2) from rfl] at cb1
      rw [← gt_eq hil, ← gt_eq hbl', hlt_iff] at keep take'
      refine hs.idx hil ?_
      simp only [pField_ptr, pLoad_ptr, ci1]
      refine hs.idx hbl' ?_
      simp only [pField_ptr, pLoad_ptr, cb1, pBin_lss, ifV_dec]
      refine ⟨fun e => take' (.inl e), fun e => ?_⟩
      refine hs.idx hil ?_
      simp only [pField_ptr, pLoad_ptr, ci1]
      refine hs.idx hbl' ?_
      simp only [pField_ptr, pLoad_ptr, cb1, pBin_eql, ifV_beq]
      refine ⟨fun e2 => ?_, fun e2 => keep (by omega)⟩
      refine hs.idx hil ?_
      simp only [pField_ptr, pLoad_ptr, ci0]
      refine hs.idx hbl' ?_
      simp only [pField_ptr, pLoad_ptr, cb0, pBin_lss, ifV_dec]
      exact ⟨fun e3 => take' (.inr ⟨e2, e3⟩), fun e3 => keep (by omega)⟩
  · rcases hb with ⟨rfl, rfl⟩ | ⟨b, rfl, hbi, hmin⟩
    · exact h0 (List.eq_nil_of_length_eq_zero (by omega))
    · have hbl' : b < l.length := by omega
      refine h1 b hbl' ⟨List.getElem_mem hbl', fun q hq => ?_⟩
      obtain ⟨j, hj, rfl⟩ := List.mem_iff_getElem.1 hq
      rw [gt_eq hj, gt_eq hbl']
      exact hmin j (by omega) hj

end
end Go.Proofs.YtkeoponidgpfpaaGreatDoor

namespace Go.Proofs.YtkeoponidgpfpaaGreatDoor
open Go Go.Mh

def QV (h : Heap) (F : Nat → Prop) (r : Nat) (L : List HE) (n : Int) : Prop := ∃ l, RV h F r l n ∧ l.Perm L

section
variable {h h' : Heap} {F G S : Nat → Prop} {r : Nat} {l L : List HE} {n id key : Int} {K : Value → Heap → Prop} {p : HE}

theorem QV.upd (H : QV h F r L n) (hu : Upd S h h') (hd : Disj F S) : QV h' F r L n := by
  obtain ⟨l, H, hp⟩ := H; exact ⟨l, H.upd hu hd, hp⟩
theorem QV.low (H : QV h F r L n) : ∀ b, F b → b < h.size := by obtain ⟨l, H, hp⟩ := H; exact H.low
theorem QV.nodup (H : QV h F r L n) : (L.map (·.1)).Nodup := by obtain ⟨l, H, hp⟩ := H; exact (hp.map _).nodup_iff.1 H.ids

theorem qnew (hK : ∀ h' F r, QV h' F r [] (max n 0) → (∀ b, F b → h.size ≤ b) → Ext h h' → K (ptr r) h') : callS Tryz.prog F_milestoneref08_New [I n] h K :=
  rnew fun h' F r H a b => hK h' F r ⟨[], H, .refl _⟩ a b

theorem qkey (H : QV h F r L n) (h0 : (∀ p ∈ L, p.1 ≠ id) → K (.tuple #[I 0, .bool false]) h) (h1 : ∀ p ∈ L, p.1 = id → K (.tuple #[I p.2, .bool true]) h) : callS Tryz.prog F_milestoneref08_Heap_Key [ptr r, I id] h K := by
  obtain ⟨l, H, hp⟩ := H
  refine callS_of (lk_milestoneref08_Heap_Key _ _ ?_)
  unfold sh_milestoneref08_Heap_Key
  refine rat H (fun i hi e => ?_) fun hno => ?_
  · obtain ⟨⟨v, bl, hr, hs, f1, f2⟩, hlow, hid, hsm⟩ := H
    have c1 := hcell1 hr
    have ck := hs.slot encH_len hi (j := 1) (by omega)
    rw [show (encH l[i])[1]? = some (I l[i].2) from rfl] at ck
    simp only [pBin_lss, ifV_dec, pNil_ptr, pField_ptr, pLoad_ptr, Nat.zero_add, c1]
    refine ⟨fun e => by omega, fun _ => hs.idx hi ?_⟩
    simp only [pField_ptr, pLoad_ptr, ck]
    exact h1 _ (hp.mem_iff.1 (List.getElem_mem hi)) e
  · simp only [pBin_lss]
    rw [show decide ((-1 : Int) < 0) = true from rfl]
    exact h0 fun p hm => hno p (hp.mem_iff.2 hm)

/-- The new row put in. -/
theorem rput {v v' : Value} {bl' : Nat} {l' : List HE} {h2 : Heap} (hr : h2[r]? = some (.cells #[I n, v] T_milestoneref08_Heap (0, 0))) (hs : SlR encH 2 T_milestoneref08_Held h2 v' bl' l') (fr : F r) (hb : F bl' ∨ h.size ≤ bl') (hbl : bl' < h2.size)
    (hlow : ∀ b, F b → b < h.size) (u : Upd F h h2) (hid : (l'.map (·.1)).Nodup) (hsm : l'.length < 2 ^ 40) {KH : Value → Heap → Prop}
    (hK : ∀ h3 F', RV h3 F' r l' n → Grow h F F' → Upd F h h3 → Upd (fun b => b = r) h2 h3 → KH undef h3) : pStore 1 (.pointer (some ⟨r, 1, none⟩)) v' h2 KH := by
  have hv : v'.cells.size = 1 ∧ (∀ u ∈ v'.cells.toList, Mh.plainCell u = true) ∧ v'.cells.toList = [v'] := by
    rcases hs.len with ⟨_, _, rfl⟩; simp
  refine pStore_of rfl hr hv.1 (by rw [hv.1]; simp) hv.2.1 ?_
  have ec : over [I n, v] 1 v'.cells.toList = [I n, v'] := by rw [hv.2.2]; rfl
  rw [ec]
  have u4 : Upd (fun b => b = r) h2 (upd h2 r (.cells [I n, v'].toArray T_milestoneref08_Heap (0, 0))) := Upd.upd _ _ rfl
  refine hK _ (fun b => F b ∨ b = bl') ⟨⟨v', bl', upd_self' hr, slr_upd hs u4 (fun cs hcs e => ?_), .inl fr, .inr rfl⟩, ?_, hid, hsm⟩ ?_ (u.trans u4 fun b hb _ => by subst hb; exact fr) u4
  · subst e; rw [hr] at hcs; simp at hcs; exact absurd hcs.2 (by decide)
  · rintro b (hb' | rfl)
    · exact Nat.lt_of_lt_of_le (hlow b hb') (Nat.le_trans u.size u4.size)
    · exact Nat.lt_of_lt_of_le hbl u4.size
  · rintro b (hb' | rfl)
    · exact .inl hb'
    · exact hb

theorem qpush (H : QV h F r L n) (hsm : L.length + 1 < 2 ^ 40)
    (h2 : ((∃ p ∈ L, p.1 = id) ∨ id < 0 ∨ n ≤ id) → K (I 2) h)
    (h0 : (∀ p ∈ L, p.1 ≠ id) → 0 ≤ id → id < n → ∀ h' F', QV h' F' r ((id, key) :: L) n → Grow h F F' → Upd F h h' → K (I 0) h') :
    callS Tryz.prog F_milestoneref08_Heap_Push [ptr r, I id, I key] h K := by
  obtain ⟨l, H, hp⟩ := H
  refine callS_of (lk_milestoneref08_Heap_Push _ _ _ ?_)
  unfold sh_milestoneref08_Heap_Push
  have HR := H
  obtain ⟨⟨v, bl, hr, hs, f1, f2⟩, hlow, hid, hsm'⟩ := H
  have c0 := hcell0 hr
  have c1 := hcell1 hr
  simp only [pBin_lss, ifV_dec, pNil_ptr, pField_ptr, pLoad_ptr, Nat.add_zero, Nat.zero_add, c0, c1, pBin_geq]
  refine ⟨fun e => h2 (.inr (.inl e)), fun hlt => ⟨fun e => h2 (.inr (.inr e)), fun hge => ?_⟩⟩
  refine rat HR (fun i hi e => ?_) fun hno => ?_
  · simp only [pBin_geq, ifV_dec]
    exact ⟨fun _ => h2 (.inl ⟨_, hp.mem_iff.1 (List.getElem_mem hi), e⟩), fun e => by omega⟩
  · simp only [pBin_geq]
    rw [show decide ((0 : Int) ≤ -1) = false from rfl]
    simp only [ifV_false, c1]
    refine ⟨by simp [sizesOk], ?_⟩
    refine ⟨by simp [sizesOk, spliceAll, zerosL, Value.cells], ?_⟩
    have hnew : (h.push (.cells (spliceAll (zerosL [Value.int .i64 0, Value.int .i64 0] 1) [(0, 2, .agg (spliceAll [Value.int .i64 0, Value.int .i64 0] [(0, 1, I id), (1, 1, I key)]).toArray)]).toArray T_milestoneref08_Held (0, 0)))[h.size]? =
      some (.cells #[I id, I key] T_milestoneref08_Held (0, 0)) := by rw [push_new]; rfl
    have u2 := Upd.push (fun _ => False) h (.cells (spliceAll (zerosL [Value.int .i64 0, Value.int .i64 0] 1) [(0, 2, .agg (spliceAll [Value.int .i64 0, Value.int .i64 0] [(0, 1, I id), (1, 1, I key)]).toArray)]).toArray T_milestoneref08_Held (0, 0))
    have hsz2 : (h.push (.cells (spliceAll (zerosL [Value.int .i64 0, Value.int .i64 0] 1) [(0, 2, .agg (spliceAll [Value.int .i64 0, Value.int .i64 0] [(0, 1, I id), (1, 1, I key)]).toArray)]).toArray T_milestoneref08_Held (0, 0))).size = h.size + 1 := push_size
    generalize (h.push (.cells (spliceAll (zerosL [Value.int .i64 0, Value.int .i64 0] 1) [(0, 2, .agg (spliceAll [Value.int .i64 0, Value.int .i64 0] [(0, 1, I id), (1, 1, I key)]).toArray)]).toArray T_milestoneref08_Held (0, 0))) = h2' at hnew u2 hsz2
    have hll := hp.length_eq
    refine append_of (ys := [(id, key)]) encH_len encH_plain rfl (hs.upd u2 (fun f => f)) rfl ?_ (by decide) (by simp; omega) fun v' bl' h3 hs3 hbl' u3 hlt3 => ?_
    · simp only [cellsOfSl, Nat.one_mul]
      rw [cellsAt_of (i := 0) (cs := [I id, I key]) hnew _ 0 (by simp)]; rfl
    have hr3 : h3[r]? = _ := u3.get (u2.get hr (fun f => f)) (by
      rintro ⟨rfl, cs, hcs⟩
      rw [u2.get hr (fun f => f)] at hcs; simp at hcs; exact absurd hcs.2 (by decide))
    refine rput (h := h) (F := F) hr3 hs3 f1 ?_ (hlt3 (by have := hlow _ f2; omega)) hlow ((u2.mono fun _ hf _ => hf.elim).trans u3 fun b hb _ => hb.1 ▸ f2) ?_ (by simp; omega) fun h5 F' H5 g5 u5 _ => ?_
    · rcases hbl' with e | e
      · exact .inl (e ▸ f2)
      · exact .inr (by omega)
    · rw [List.map_append, List.nodup_append]
      refine ⟨hid, by simp, ?_⟩
      intro a ha b hb
      simp at hb; subst hb
      obtain ⟨p, hp', rfl⟩ := List.mem_map.1 ha
      exact hno p hp'
    · exact h0 (fun p hm => hno p (hp.mem_iff.2 hm)) (by omega) (by omega) h5 F' ⟨_, H5, (List.perm_append_comm (l₁ := l) (l₂ := [(id, key)])).trans (hp.cons _)⟩ g5 u5

theorem qlower (H : QV h F r L n)
    (h2 : (id < 0 ∨ n ≤ id) → K (I 2) h) (h20 : 0 ≤ id → id < n → (∀ p ∈ L, p.1 ≠ id) → K (I 20) h) (h2' : ∀ p ∈ L, 0 ≤ id → id < n → p.1 = id → p.2 < key → K (I 2) h)
    (h0 : ∀ p ∈ L, p.1 = id → 0 ≤ id → id < n → ¬ p.2 < key → ∀ h' F', QV h' F' r ((id, key) :: L.erase p) n → Grow h F F' → Upd F h h' → K (I 0) h') :
    callS Tryz.prog F_milestoneref08_Heap_Lower [ptr r, I id, I key] h K := by
  obtain ⟨l, H, hp⟩ := H
  refine callS_of (lk_milestoneref08_Heap_Lower _ _ _ ?_)
  unfold sh_milestoneref08_Heap_Lower
  have HR := H
  obtain ⟨⟨v, bl, hr, hs, f1, f2⟩, hlow, hid, hsm'⟩ := H
  have c0 := hcell0 hr
  have c1 := hcell1 hr
  simp only [pBin_lss, ifV_dec, pNil_ptr, pField_ptr, pLoad_ptr, Nat.add_zero, Nat.zero_add, c0, c1, pBin_geq]
  refine ⟨fun e => h2 (.inl e), fun hlt => ⟨fun e => h2 (.inr e), fun hge => ?_⟩⟩
  refine rat HR (fun i hi e => ?_) fun hno => ?_
  · simp only [pBin_lss, ifV_dec]
    refine ⟨fun e => by omega, fun _ => ?_⟩
    have hm := hp.mem_iff.1 (List.getElem_mem hi)
    have ck := hs.slot encH_len hi (j := 1) (by omega)
    rw [show (encH l[i])[1]? = some (I l[i].2) from rfl] at ck
    simp only [c1]
    refine hs.idx hi ?_
    simp only [pField_ptr, pLoad_ptr, ck, pBin_lss, ifV_dec]
    refine ⟨fun hk => h2' _ hm (by omega) (by omega) e hk, fun hk => ?_⟩
    refine hs.idx hi ?_
    obtain ⟨cap, rest, rfl, hb, hrest, hcap⟩ := hs.full (by omega)
    have hlen := row_length encH_len l
    simp only [pField_ptr]
    refine pStore_of rfl hb rfl (by simp [hlen]; omega) (by simp) ?_
    have eo : over (Mh.row encH l ++ rest) (i * 2 + 1) (I key).cells.toList = Mh.row encH (l.set i (l[i].1, key)) ++ rest := by
      have o := row_over encH_len hi (l[i].1, key) rest
      rw [← o]
      have hlt' : i * 2 < (Mh.row encH l ++ rest).length := by simp [hlen]; omega
      have hg := row_get encH_len hi (j := 0) (by omega) rest
      rw [Nat.add_zero, List.getElem?_eq_getElem hlt'] at hg
      have ht : (Mh.row encH l ++ rest).take (i * 2 + 1) = (Mh.row encH l ++ rest).take (i * 2) ++ [I l[i].1] := by
        rw [List.take_succ_eq_append_getElem hlt']
        congr 2
        simpa [encH] using hg
      unfold over
      rw [ht]
      simp [encH]
    rw [eo]
    have hne : bl ≠ r := by rintro rfl; rw [hr] at hb; simp at hb; exact absurd hb.2 (by decide)
    have u1 : Upd F h (upd h bl (.cells (Mh.row encH (l.set i (l[i].1, key)) ++ rest).toArray T_milestoneref08_Held (0, 0))) := Upd.upd _ _ f2
    have hl1 : (l.set i (l[i].1, key)).length = l.length := List.length_set
    refine h0 _ hm e (by omega) (by omega) hk _ F ⟨l.set i (l[i].1, key), ⟨⟨_, bl, (upd_ne hne).trans hr, .inr ⟨cap, rest, by rw [hl1], upd_self' hb, by rw [hl1]; exact hrest, by rw [hl1]; exact hcap⟩, f1, f2⟩,
      fun b hb => Nat.lt_of_lt_of_le (hlow b hb) u1.size, by rw [ids_set hi]; exact hid, by rw [hl1]; exact hsm'⟩, ?_⟩ (fun b hb => .inl hb) u1
    refine (set_perm (l := l) (i := i) (a := (l[i].1, key)) hi).trans ?_
    rw [e]
    exact (hp.erase l[i]).cons _
  · simp only [pBin_lss]
    rw [show decide ((-1 : Int) < 0) = true from rfl]
    simp only [ifV_true]
    exact h20 (by omega) (by omega) fun p hm => hno p (hp.mem_iff.2 hm)

theorem erase_split {i : Nat} (hi : i < l.length) : (l.take i ++ l.drop (i + 1)).Perm (l.erase l[i]) := by
  have h1 : l.Perm (l[i] :: (l.take i ++ l.drop (i + 1))) := by
    have : l = l.take i ++ l[i] :: l.drop (i + 1) := by rw [← List.drop_eq_getElem_cons hi, List.take_append_drop]
    exact (List.Perm.of_eq this).trans List.perm_middle
  have := h1.erase l[i]
  simp only [List.erase_cons_head] at this
  exact this.symm

theorem qpop (H : QV h F r L n) (h0 : L = [] → K (.tuple #[I 0, I 0, .bool false]) h)
    (h1 : ∀ p, Min L p → ∀ h' F', QV h' F' r (L.erase p) n → Grow h F F' → Upd F h h' → K (.tuple #[I p.1, I p.2, .bool true]) h') : callS Tryz.prog F_milestoneref08_Heap_Pop [ptr r] h K := by
  obtain ⟨l, H, hp⟩ := H
  refine callS_of (lk_milestoneref08_Heap_Pop _ ?_)
  unfold sh_milestoneref08_Heap_Pop
  refine rleast H (fun e => ?_) fun i hi hm => ?_
  · simp only [pBin_lss]
    rw [show decide ((-1 : Int) < 0) = true from rfl]
    exact h0 (by subst e; exact hp.nil_eq.symm)
  · obtain ⟨⟨v, bl, hr, hs, f1, f2⟩, hlow, hid, hsm⟩ := H
    have c1 := hcell1 hr
    have ck0 := hs.slot encH_len hi (j := 0) (by omega)
    have ck1 := hs.slot encH_len hi (j := 1) (by omega)
    rw [show (encH l[i])[0]? = some (I l[i].1) from rfl] at ck0
    rw [show (encH l[i])[1]? = some (I l[i].2) from rfl] at ck1
    simp only [pBin_lss, ifV_dec, pNil_ptr, pField_ptr, pLoad_ptr, Nat.zero_add, c1]
    refine ⟨fun e => by omega, fun _ => hs.idx hi ?_⟩
    rw [Nat.add_zero] at ck0
    have ca : cellsAt h bl (i * 2) 2 = some [I l[i].1, I l[i].2] := by simp [cellsAt, ck0, ck1]
    simp only [pLoadN_ptr, ca]
    refine pBox_of ?_
    refine pStore_of rfl push_new rfl (by simp) (by simp [Mh.plainCell]) ?_
    have x1 : Ext h (upd (h.push (.cells (Value.agg #[.int .i64 0, .int .i64 0]).cells T_milestoneref08_Held (0, 0))) h.size (.cells (over [Value.int .i64 0, Value.int .i64 0] 0 (Value.agg [I l[i].1, I l[i].2].toArray).cells.toList).toArray T_milestoneref08_Held (0, 0))) :=
      ((Upd.push _ _ _).trans (Upd.upd (S := fun b => b = h.size) _ _ rfl) (fun b hb hlt => by omega))
    have hf1 : (upd (h.push (.cells (Value.agg #[.int .i64 0, .int .i64 0]).cells T_milestoneref08_Held (0, 0))) h.size (.cells (over [Value.int .i64 0, Value.int .i64 0] 0 (Value.agg [I l[i].1, I l[i].2].toArray).cells.toList).toArray T_milestoneref08_Held (0, 0)))[h.size]? =
      some (.cells #[I l[i].1, I l[i].2] T_milestoneref08_Held (0, 0)) := upd_self' push_new
    have hsz1 := get_lt hf1
    generalize (upd (h.push (.cells (Value.agg #[.int .i64 0, .int .i64 0]).cells T_milestoneref08_Held (0, 0))) h.size (.cells (over [Value.int .i64 0, Value.int .i64 0] 0 (Value.agg [I l[i].1, I l[i].2].toArray).cells.toList).toArray T_milestoneref08_Held (0, 0))) = hA at x1 hf1 hsz1
    have hrA := x1.get hr
    have cA := hcell1 hrA
    have hsA := hs.upd x1 (fun f => f)
    simp only [cA]
    refine hsA.view.sub (i := 0) (j := i) encH_len rfl rfl (by omega) (by omega) fun va hva => ?_
    have e3 : IntKind.i64.wrap ((i : Int) + 1) = ((i + 1 : Nat) : Int) := by rw [w64 (by omega) (by omega)]; rfl
    simp only [pBin_add, e3]
    refine hsA.view.sub (i := i + 1) (j := l.length) encH_len rfl rfl (by omega) (by omega) fun vb hvb => ?_
    rw [List.drop_zero, Nat.sub_zero] at hva
    have hdl : (l.drop (i + 1)).take (l.length - (i + 1)) = l.drop (i + 1) := by rw [List.take_of_length_le]; simp
    rw [hdl] at hvb
    refine ⟨by simp [sizesOk], ?_⟩
    have hE : (hA.push (.cells (spliceAll (zerosL [Value.int .i64 0, Value.int .i64 0] 0) []).toArray T_milestoneref08_Held (0, 0)))[hA.size]? = some (.cells #[] T_milestoneref08_Held (0, 0)) := by rw [push_new]; rfl
    have xE := Upd.push (fun _ => False) hA (.cells (spliceAll (zerosL [Value.int .i64 0, Value.int .i64 0] 0) []).toArray T_milestoneref08_Held (0, 0))
    have hszE : (hA.push (.cells (spliceAll (zerosL [Value.int .i64 0, Value.int .i64 0] 0) []).toArray T_milestoneref08_Held (0, 0))).size = hA.size + 1 := push_size
    generalize (hA.push (.cells (spliceAll (zerosL [Value.int .i64 0, Value.int .i64 0] 0) []).toArray T_milestoneref08_Held (0, 0))) = hB at hE xE hszE
    have hse : SlR encH 2 T_milestoneref08_Held hB (.slice (some ⟨hA.size, 0, none⟩) 0 0) hA.size ([] : List HE) := .inr ⟨0, [], rfl, by rw [hE]; rfl, by simp, by simp⟩
    have hvaB := hva.upd xE (fun f => f)
    have hvbB := hvb.upd xE (fun f => f)
    obtain ⟨ba, capa, rfl, hca⟩ := hvaB.cells encH_len
    have hrB := xE.get hrA (fun f => f)
    have hfB := xE.get hf1 (fun f => f)
    have hrlt := hlow _ f1
    have hblt := hlow _ f2
    refine append_of (ys := l.take i) encH_len encH_plain rfl hse rfl hca (by decide) (by simp; omega) fun v1 b1 hC hs1 hb1 u1 hl1 => ?_
    have hb1' : hA.size ≤ b1 := by rcases hb1 with e | e <;> omega
    have hrC := u1.get hrB (fun e => by omega)
    have hfC := u1.get hfB (fun e => by omega)
    have hvbC := hvbB.upd u1 (fun e => by omega)
    have cC := hcell1 hrC
    simp only [cC, true_and]
    obtain ⟨bb, capb, rfl, hcb⟩ := hvbC.cells encH_len
    refine append_of (ys := l.drop (i + 1)) encH_len encH_plain rfl hs1 rfl hcb (by decide) (by simp; omega) fun v2 b2 hD hs2 hb2 u2 hl2 => ?_
    have hCs := u1.size
    have hb2' : hA.size ≤ b2 := by rcases hb2 with e | e <;> omega
    have hrD := u2.get hrC (fun e => by omega)
    have hfD := u2.get hfC (fun e => by omega)
    have uD : Upd F h hD := (((x1.mono (S' := F) fun _ hf _ => hf.elim).trans xE fun _ hf _ => hf.elim).trans u1 fun b hb hlt => by omega).trans u2 fun b hb hlt => by omega
    rw [List.nil_append] at hs2
    have hperm := erase_split hi
    refine rput (h := h) (F := F) hrD hs2 f1 (.inr (by omega)) (hl2 (hl1 (by omega))) hlow uD ?_ ?_ fun h5 F' H5 g5 u5 ur => ?_
    · rw [(hperm.map _).nodup_iff]
      exact (List.Sublist.map _ List.erase_sublist).nodup hid
    · rw [hperm.length_eq, List.length_erase_of_mem (List.getElem_mem hi)]; omega
    · have hf5 := ur.get hfD (fun e => by omega)
      have k0 := hcell0 hf5
      have k1 := hcell1 hf5
      simp only [pField_ptr, pLoad_ptr, Nat.add_zero, Nat.zero_add, k0, k1]
      exact h1 _ (hm.perm hp) h5 F' ⟨_, H5, hperm.trans (hp.erase _)⟩ g5 u5

end
end Go.Proofs.YtkeoponidgpfpaaGreatDoor

namespace Go.Proofs.YtkeoponidgpfpaaGreatDoor
open Go Go.Mh
set_option linter.unusedVariables false

/-! ### The document's heap as a part of memory -/

theorem RV.st {h h' : Heap} {F : Nat → Prop} {r : Nat} {l : List HE} {n : Int} (hs : ∀ b, F b → h'[b]? = h[b]?)
    (H : (∃ v bl, h[r]? = some (.cells #[I n, v] T_milestoneref08_Heap (0, 0)) ∧ SlR encH 2 T_milestoneref08_Held h v bl l ∧ F r ∧ F bl)) :
    (∃ v bl, h'[r]? = some (.cells #[I n, v] T_milestoneref08_Heap (0, 0)) ∧ SlR encH 2 T_milestoneref08_Held h' v bl l ∧ F r ∧ F bl) := by
  obtain ⟨v, bl, a, b, f1, f2⟩ := H
  refine ⟨v, bl, (hs _ f1).trans a, ?_, f1, f2⟩
  rcases b with b | ⟨c, rest, e, b, d⟩
  · exact .inl b
  · exact .inr ⟨c, rest, e, (hs _ f2).trans b, d⟩

def qR (F : Nat → Prop) (r : Nat) (H : List HE) (n : Nat) : Res :=
  ⟨F, fun h => ∃ l, (∃ v bl, h[r]? = some (.cells #[I n, v] T_milestoneref08_Heap (0, 0)) ∧ SlR encH 2 T_milestoneref08_Held h v bl l ∧ F r ∧ F bl) ∧ (l.map fun p : HE => p.1).Nodup ∧ l.length < 2 ^ 40 ∧ l.Perm H,
   fun hs ⟨l, R, a, b, c⟩ => ⟨l, RV.st hs R, a, b, c⟩⟩

section
variable {h0 h : Heap} {L : List Res} {F : Nat → Prop} {r n : Nat} {H : List HE} {id key : Int} {K : Value → Heap → Prop}

theorem QV.toR (P : QV h F r H n) : (qR F r H n).Q h := by
  obtain ⟨l, P, hp⟩ := P; exact ⟨l, P.rep, P.ids, P.small, hp⟩

theorem own_qv (o : Own h0 h L) (i : Nat) (hi : L[i]? = some (qR F r H n)) : QV h F r H n := by
  obtain ⟨l, a, b, c, d⟩ := o.get i hi
  exact ⟨l, ⟨a, fun x hx => ((o.q hi).2 x hx).2, b, c⟩, d⟩

theorem own_q {h' : Heap} {F' : Nat → Prop} {H' : List HE} (o : Own h0 h L) (i : Nat) (hi : L[i]? = some (qR F r H n)) (P : QV h' F' r H' n) (g : Grow h F F') (u : Upd F h h') : Own h0 h' (L.set i (qR F' r H' n)) :=
  o.set i hi u P.toR fun b hb => ⟨g b hb, P.low b hb⟩

theorem qo_new (o : Own h0 h L) (hK : ∀ F r h', Own h0 h' (qR F r [] n :: L) → K (ptr r) h') : callS Tryz.prog F_milestoneref08_New [I n] h K := by
  refine qnew fun h' F r P hF x => hK F r h' (o.cons x ?_ fun b hb => ⟨hF b hb, P.low b hb⟩)
  rw [show max (n : Int) 0 = n by omega] at P
  exact P.toR

theorem qo_push (o : Own h0 h L) (i : Nat) (hi : L[i]? = some (qR F r H n)) (hsm : H.length + 1 < 2 ^ 40) {v : Nat} (hno : ∀ p ∈ H, p.1 ≠ v) (hv : v < n)
    (hK : ∀ F' h', Own h0 h' (L.set i (qR F' r (((v : Int), key) :: H) n)) → K (I 0) h') : callS Tryz.prog F_milestoneref08_Heap_Push [ptr r, I v, I key] h K :=
  qpush (own_qv o i hi) hsm (fun h => by rcases h with ⟨p, hp, e⟩ | h | h
                                         · exact absurd e (hno p hp)
                                         · omega
                                         · omega) fun _ _ _ h' F' P g u => hK F' h' (own_q o i hi P g u)

theorem qo_lower (o : Own h0 h L) (i : Nat) (hi : L[i]? = some (qR F r H n)) {v : Nat} {was : Int} (hm : ((v : Int), was) ∈ H) (hv : v < n) (hk : ¬ was < key)
    (hK : ∀ F' h', Own h0 h' (L.set i (qR F' r (((v : Int), key) :: H.erase ((v : Int), was)) n)) → K (I 0) h') : callS Tryz.prog F_milestoneref08_Heap_Lower [ptr r, I v, I key] h K := by
  have P := own_qv o i hi
  refine qlower P (fun h => by omega) (fun _ _ h => absurd rfl (h _ hm)) (fun p hp _ _ e hlt => ?_) fun p hp e _ _ _ h' F' P' g u => ?_
  · have := id_uniq P.nodup hp hm e
    subst this
    exact absurd hlt hk
  · have := id_uniq P.nodup hp hm e
    subst this
    exact hK F' h' (own_q o i hi P' g u)

theorem qo_key (o : Own h0 h L) (i : Nat) (hi : L[i]? = some (qR F r H n)) {v : Nat}
    (hK : K (.tuple #[I ((lookH H v).getD 0), .bool (lookH H v).isSome]) h) : callS Tryz.prog F_milestoneref08_Heap_Key [ptr r, I v] h K := by
  have P := own_qv o i hi
  refine qkey P (fun hno => ?_) fun p hp e => ?_
  · have : lookH H v = none := lookH_none.2 hno
    rw [this] at hK; exact hK
  · cases hl : lookH H v with
    | none => exact absurd e (lookH_none.1 hl p hp)
    | some k =>
      have hm := lookH_some hl
      have := id_uniq P.nodup hp hm e
      subst this
      rw [hl] at hK; exact hK

theorem qo_pop (o : Own h0 h L) (i : Nat) (hi : L[i]? = some (qR F r H n)) (hne : H ≠ [])
    (hK : ∀ p, least H = some p → ∀ F' h', Own h0 h' (L.set i (qR F' r (H.erase p) n)) → K (.tuple #[I p.1, I p.2, .bool true]) h') : callS Tryz.prog F_milestoneref08_Heap_Pop [ptr r] h K := by
  refine qpop (own_qv o i hi) (fun e => absurd e hne) fun p hm h' F' P g u => hK p ?_ F' h' (own_q o i hi P g u)
  cases hl : least H with
  | none => exact absurd (least_none.1 hl) hne
  | some q =>
    have h1 := (min_iff.1 (least_min hl))
    have h2 := min_iff.1 hm
    have a := h1.2 p h2.1
    have b := h2.2 q h1.1
    rw [hl_iff] at a b
    rw [show q = p from Prod.ext (by omega) (by omega)]

theorem qo_len (o : Own h0 h L) (i : Nat) (hi : L[i]? = some (qR F r H n)) {K : Value → Prop} (hK : K (I H.length)) : pNil (ptr r) fun t52 => pField 1 t52 fun t53 => pLoad h t53 fun t54 => pLen t54 K := by
  obtain ⟨l, ⟨⟨v, bl, hr, hs, _⟩, _⟩, hp⟩ := own_qv o i hi
  have c1 := hcell1 hr
  simp only [pNil_ptr, pField_ptr, pLoad_ptr, Nat.zero_add, c1]
  refine hs.lenK ?_
  rw [hp.length_eq]; exact hK

end
end Go.Proofs.YtkeoponidgpfpaaGreatDoor

namespace Go.Proofs.YtkeoponidgpfpaaGreatDoor
open Go Go.Mh
set_option linter.unusedVariables false

section
variable {h0 h : Heap} {L : List Res} {K : Value → Heap → Prop} {g : G} {v : Value}

theorem outsP_take {q : A → Bool} {l : List A} {i : Nat} (hi : i < l.length) : outsP q (l.take (i + 1)) 0 = outsP q (l.take i) 0 ++ (if q l[i] then [i] else []) := by
  rw [List.take_succ_eq_append_getElem hi, outsP_append]
  simp only [outsP, List.length_take, Nat.zero_add, Nat.min_eq_left (Nat.le_of_lt hi)]

/-- The arcs that go out of a node. -/
theorem rout_ok {u : Nat} (o : Own h0 h L) (hR : g.Right) (H : RawV h v g) (hK : ∀ v' h', Own h0 h' (slR encN 1 T_int v' (g.out u) :: L) → K v' h') : callS Tryz.prog F_milestoneref07_Out [v, I u] h K := by
  obtain ⟨vx, vy, va, rfl, H⟩ := H
  refine callS_of (lk_milestoneref07_Out _ _ ?_)
  unfold sh_milestoneref07_Out
  have hmany := hR.many
  have hv : ∀ {h' : Heap}, Ext h h' → Vw encA 3 h' va g.arcs := fun x => H.2.2.more x
  refine (Own.start h).box fun r h1 o1 => ?_
  refine LoopH_count g.arcs.length (fun i x h' => x.2.1 = I i ∧ Own h h' [slR encN 1 T_int x.1 (outsP (fun a => a.f == u) (g.arcs.take i) 0), cellR r [I g.n, vx, vy, va] T_api_Raw]) ⟨rfl, o1.nilS⟩ ?_
  clear o1
  rintro i ⟨vl, x, ⟨⟩⟩ h' Z hi ⟨hx, o'⟩ hZ
  dsimp only at hx hZ o' ⊢
  subst hx
  unfold sh_milestoneref07_Out_L1
  simp only [pField_ptr]
  refine o'.load 1 rfl rfl ((hv o'.ext).len ?_)
  simp only [pBin_lss, ifV_dec]
  refine ⟨fun hlt => ?_, fun hge => ?_⟩
  · have hlt : i < g.arcs.length := by omega
    have ht := outsP_take (q := fun a => a.f == u) hlt
    have hol : (outsP (fun a => a.f == u) (g.arcs.take i) 0).length ≤ g.arcs.length := by
      rw [outsP_length]; exact Nat.le_trans List.countP_le_length (by simp; omega)
    refine o'.load 1 rfl rfl ((hv o'.ext).atF (j := 0) encA_len hlt (by decide) rfl ?_)
    simp only [pBin_eql, ifV_beq]
    refine ⟨fun e => ?_, fun e => ?_⟩
    · have e : (g.arcs[i]).f = u := by omega
      refine o'.app1 0 i rfl rfl (sizesOk_of rfl) encN_len encN_plain rfl (by decide) (by omega) fun v' h2 o2 => ?_
      unfold sh_milestoneref07_Out_k2
      rw [pBin_add, wI i (by omega)]
      refine hZ (v', I (i + 1 : Nat), ()) h2 hlt ⟨rfl, ?_⟩
      rw [ht, e, if_pos (by simp)]
      exact o2
    · have e : ¬ (g.arcs[i]).f = u := by omega
      unfold sh_milestoneref07_Out_k2
      rw [pBin_add, wI i (by omega)]
      refine hZ (vl, I (i + 1 : Nat), ()) h' hlt ⟨rfl, ?_⟩
      rw [ht, if_neg (by simpa using e), List.append_nil]
      exact o'
  · have : i = g.arcs.length := by omega
    subst this
    rw [List.take_length] at o'
    exact hK vl h' (o.frame (o'.sel [0] (by decide)))

end
end Go.Proofs.YtkeoponidgpfpaaGreatDoor

namespace Go.Proofs.YtkeoponidgpfpaaGreatDoor
open Go Go.Mh
set_option linter.unusedVariables false

section
variable {h0 h : Heap} {L : List Res} {K : Value → Heap → Prop} {g : G} {v : Value}

set_option maxHeartbeats 4000000 in
theorem rcopy_ok (oL : Own h0 h L) (hR : g.Right) (H : RawV h v g) (hK : ∀ vx vy va h', Own h0 h' (xR vx g.X :: xR vy g.Y :: aR va g.arcs :: L) → K (.agg #[I g.n, vx, vy, va]) h') : callS Tryz.prog F_milestoneref07_Copy [v] h K := by
  obtain ⟨vx, vy, va, rfl, H⟩ := H
  refine callS_of (lk_milestoneref07_Copy _ ?_)
  unfold sh_milestoneref07_Copy
  have hx := hR.x
  have hy := hR.y
  have hm := hR.most
  have hmany := hR.many
  refine (Own.start h).box fun g1 h1 og => og.box fun t2 h2 o => ?_
  refine cutP_of (fun _ h' => ∃ vx' vy' va', Own h h' [cellR t2 [I g.n, vx', vy', va'] T_api_Raw, xR vx' g.X, xR vy' g.Y, aR va' g.arcs]) (fun J hJ => ?_) ?_
  · simp only [pField_ptr]
    have v1 := fun h' (x : Ext h h') => H.1.more x
    have v2 := fun h' (x : Ext h h') => H.2.1.more x
    have v3 := fun h' (x : Ext h h') => H.2.2.more x
    refine o.load 1 rfl rfl (o.load 1 rfl rfl (o.load 1 rfl rfl (o.load 1 rfl rfl ?_)))
    have fin : ∀ {h' : Heap} {vx' vy' va' : Value} (is : List Nat) {L' : List Res}, Own h h' L' → is.Nodup → (is.map fun i => L'.getD i nilR) = [cellR t2 [I g.n, vx', vy', va'] T_api_Raw, xR vx' g.X, xR vy' g.Y, aR va' g.arcs] → J () h' := by
      intro h' vx' vy' va' is L' o hn he
      exact hJ _ _ ⟨vx', vy', va', he ▸ o.sel is hn⟩
    clear hJ
    repeat' (first
      | rfl
      | refine o.load 1 rfl rfl ?_
      | refine o.load 2 rfl rfl ?_
      | refine o.load 3 rfl rfl ?_
      | refine o.load 4 rfl rfl ?_
      | refine o.build (enc := encI) (n := 1) (T := T_int64) ([] : List Int) rfl (sizesOk_of rfl) rfl fun w hh o => ?_
      | refine o.build (enc := encA) (n := 3) (T := T_api_Arc) ([] : List A) rfl (sizesOk_of rfl) rfl fun w hh o => ?_
      | refine o.app 0 rfl encI_len encI_plain rfl (v1 _ o.ext) (by decide) (by simp; omega) fun w hh o => ?_
      | refine o.app 1 rfl encI_len encI_plain rfl (v1 _ o.ext) (by decide) (by simp; omega) fun w hh o => ?_
      | refine o.app 2 rfl encI_len encI_plain rfl (v1 _ o.ext) (by decide) (by simp; omega) fun w hh o => ?_
      | refine o.app 0 rfl encI_len encI_plain rfl (v2 _ o.ext) (by decide) (by simp; omega) fun w hh o => ?_
      | refine o.app 1 rfl encI_len encI_plain rfl (v2 _ o.ext) (by decide) (by simp; omega) fun w hh o => ?_
      | refine o.app 2 rfl encI_len encI_plain rfl (v2 _ o.ext) (by decide) (by simp; omega) fun w hh o => ?_
      | refine o.app 0 rfl encA_len encA_plain rfl (v3 _ o.ext) (by decide) (by simp; omega) fun w hh o => ?_
      | refine o.app 1 rfl encA_len encA_plain rfl (v3 _ o.ext) (by decide) (by simp; omega) fun w hh o => ?_
      | refine o.app 2 rfl encA_len encA_plain rfl (v3 _ o.ext) (by decide) (by simp; omega) fun w hh o => ?_
      | with_reducible apply And.intro)
    all_goals (
      refine pBuild_ones (cs' := [_, _, _, _]) ?_ rfl rfl ?_
      · intro p hp
        simp at hp
        rcases hp with rfl | rfl | rfl | rfl
        · rfl
        all_goals first | exact (o.vw 0 rfl).one | exact (o.vw 1 rfl).one | exact (o.vw 2 rfl).one
      · refine o.st (l := [_, _, _, _]) 3 rfl rfl rfl rfl rfl ?_ fun hh o => ?_
        · intro u hu
          simp at hu
          rcases hu with rfl | rfl | rfl | rfl
          · rfl
          all_goals first | exact (o.vw 0 rfl).plain | exact (o.vw 1 rfl).plain | exact (o.vw 2 rfl).plain
        · first
            | exact fin [3, 0, 1, 2] o (by decide) rfl
            | exact fin [3, 0, 2, 1] o (by decide) rfl
            | exact fin [3, 1, 0, 2] o (by decide) rfl
            | exact fin [3, 1, 2, 0] o (by decide) rfl
            | exact fin [3, 2, 0, 1] o (by decide) rfl
            | exact fin [3, 2, 1, 0] o (by decide) rfl)
  · rintro ⟨⟩ h' ⟨vx', vy', va', o'⟩
    exact o'.ldN 0 rfl rfl rfl (hK vx' vy' va' h' (oL.frame (o'.sel [1, 2, 3] (by decide))))

end
end Go.Proofs.YtkeoponidgpfpaaGreatDoor

namespace Go.Proofs.YtkeoponidgpfpaaGreatDoor
open Go Go.Mh
set_option linter.unusedVariables false

section
variable {h0 h : Heap} {L : List Res} {K : Value → Heap → Prop} {g : G} {v : Value}

theorem turned2_step {l : List A} {i : Nat} (hi : i < l.length) : (((l.take i).map A.swap ++ l.drop i).set i (l[i]).swap) = (l.take (i + 1)).map A.swap ++ l.drop (i + 1) := by
  rw [List.set_append_right _ _ (by simp; omega)]
  have e : i - ((l.take i).map A.swap).length = 0 := by simp; omega
  rw [e, List.drop_eq_getElem_cons hi, List.set_cons_zero, List.take_succ_eq_append_getElem hi, List.map_append, List.append_assoc]; rfl

/-- The reference's graph turned round. -/
theorem rturned_ok (o : Own h0 h L) (hR : g.Right) (H : RawV h v g) (hK : ∀ vx vy va h', Own h0 h' (xR vx g.X :: xR vy g.Y :: aR va g.turned.arcs :: L) → K (.agg #[I g.n, vx, vy, va]) h') : callS Tryz.prog F_milestoneref07_Turned [v] h K := by
  obtain ⟨vx, vy, va, rfl, H⟩ := H
  refine callS_of (lk_milestoneref07_Turned _ ?_)
  unfold sh_milestoneref07_Turned
  have hmany := hR.many
  refine (Own.start h).box fun r h1 o1 => o1.box fun e h2 o2 => o2.ldN 1 rfl rfl rfl ?_
  refine rcopy_ok o2 hR ⟨vx, vy, va, rfl, H.more o2.ext⟩ fun vx1 vy1 va1 h3 o3 => ?_
  have p0 := (o3.vw 0 rfl).plain
  have p1 := (o3.vw 1 rfl).plain
  have p2 := (o3.vw 2 rfl).plain
  have pl : ∀ u ∈ [I g.n, vx1, vy1, va1], Mh.plainCell u = true := by
    intro u hu
    simp at hu
    rcases hu with rfl | rfl | rfl | rfl
    · rfl
    · exact p0
    · exact p1
    · exact p2
  refine o3.box fun w hb ob => ob.st 0 rfl rfl rfl rfl rfl pl fun h4 o4 => ?_
  have hv : ∀ {h' : Heap}, Ext h h' → Vw encA 3 h' va g.arcs := fun x => H.2.2.more x
  refine LoopH_count g.arcs.length (fun i x h' => x.1 = I i ∧ Own h h' [cellR w [I g.n, vx1, vy1, va1] T_api_Raw, xR vx1 g.X, xR vy1 g.Y, aR va1 ((g.arcs.take i).map A.swap ++ g.arcs.drop i), cellR e [I 0, sl0, sl0, sl0] T_api_Raw, cellR r [I g.n, vx, vy, va] T_api_Raw]) ⟨rfl, o4⟩ ?_
  clear o4 ob o3 o2 o1
  rintro i ⟨x, ⟨⟩⟩ h' Z hi ⟨hx, o'⟩ hZ
  dsimp only at hx hZ ⊢
  subst hx
  unfold sh_milestoneref07_Turned_L1
  simp only [pField_ptr]
  have hlen : ((g.arcs.take i).map A.swap ++ g.arcs.drop i).length = g.arcs.length := by simp; omega
  refine o'.load 0 rfl rfl ((o'.vw 3 rfl).len ?_)
  rw [hlen]
  simp only [pBin_lss, ifV_dec]
  refine ⟨fun hlt => ?_, fun hge => ?_⟩
  · have hlt : i < g.arcs.length := by omega
    have hll : i < ((g.arcs.take i).map A.swap ++ g.arcs.drop i).length := by omega
    have hget : ((g.arcs.take i).map A.swap ++ g.arcs.drop i)[i] = g.arcs[i] := by
      rw [List.getElem_append_right (by simp; omega)]
      simp only [List.getElem_drop]
      congr 1; simp; omega
    refine o'.load 0 rfl rfl (o'.load 5 rfl rfl ?_)
    refine (hv o'.ext).atF (j := 1) encA_len hlt (by decide) rfl ?_
    refine o'.setF (a := ⟨g.arcs[i].t, g.arcs[i].t, g.arcs[i].w⟩) 3 rfl encA_len hll (f := 0) (by decide) rfl rfl (by rw [hget]; rfl) fun h3 o3 => ?_
    refine o3.load 0 rfl rfl (o3.load 5 rfl rfl ?_)
    refine (hv o3.ext).atF (j := 0) encA_len hlt (by decide) rfl ?_
    refine o3.setF (a := (g.arcs[i]).swap) 3 rfl encA_len (by simpa using hll) (f := 1) (by decide) rfl rfl (by simp [encA, A.swap]) fun h4 o4 => ?_
    rw [pBin_add, wI i (by omega)]
    refine hZ (I (i + 1 : Nat), ()) h4 hlt ⟨rfl, ?_⟩
    simp only [List.set_set] at o4
    rw [← turned2_step hlt]
    exact o4
  · have : i = g.arcs.length := by omega
    subst this
    rw [List.take_length, List.drop_length, List.append_nil] at o'
    refine o'.ldN 0 rfl rfl rfl (o'.st 4 rfl rfl rfl rfl rfl pl fun h2 o2 => o2.ldN 4 rfl rfl rfl ?_)
    exact hK vx1 vy1 va1 h2 (o.frame (o2.sel [1, 2, 3] (by decide)))

end
end Go.Proofs.YtkeoponidgpfpaaGreatDoor

namespace Go.Proofs.YtkeoponidgpfpaaGreatDoor
open Go Go.Mh
set_option linter.unusedVariables false

def encB (x : Bool) : List Value := [.bool x]
theorem encB_len (x : Bool) : (encB x).length = 1 := rfl
/-- Which nodes are closed. -/
def clB (order : List Nat) (n : Nat) : List Bool := (List.range n).map fun v => order.contains v
theorem clB_len {order : List Nat} {n : Nat} : (clB order n).length = n := by simp [clB]
theorem clB_get {order : List Nat} {n v : Nat} (hv : v < n) : (clB order n)[v]'(by rw [clB_len]; exact hv) = order.contains v := by simp [clB]
theorem clB_set {order : List Nat} {n v : Nat} (hv : v < n) : (clB order n).set v true = clB (order ++ [v]) n := by
  apply List.ext_getElem (by simp [clB])
  intro i h1 h2
  have hi : i < n := by rw [clB_len] at h2; exact h2
  rw [clB_get hi, List.getElem_set]
  split
  · rename_i e; subst e; simp
  · rename_i e; rw [clB_get hi]; simp; intro e'; exact absurd e'.symm e
theorem clB_nil {n : Nat} : clB [] n = List.replicate n false := by
  apply List.ext_getElem (by simp [clB]) fun i h1 h2 => by simp [clB]

section
variable {h0 h : Heap} {L : List Res} {K : Value → Heap → Prop} {g : G} {v : Value}

abbrev refL (x5 t4 g2 : Nat) (F : Nat → Prop) (r n : Nat) (sd sa so vc vx vy va : Value) (hp : List HE) (st : FS) : List Res :=
  [cellR x5 [sd, sa, so] T_milestoneref10_Tree, xR sd st.dist, slR encI 1 T_int sa st.arc, slR encN 1 T_int so st.order, qR F r hp n, slR encB 1 T_bool vc (clB st.order n), cellR t4 [sl0, sl0, sl0] T_milestoneref10_Tree, cellR g2 [I n, vx, vy, va] T_api_Raw]

theorem rscan_hp {n : Nat} {B : Int} {s : FS} (inv : FInv n B s) : s.hp.length ≤ n := by
  have : (s.hp.map (·.1.toNat)).length ≤ n := nodup_le (by
    have : s.hp.map (·.1.toNat) = (s.hp.map (·.1)).map Int.toNat := by simp
    rw [this, List.nodup_iff_pairwise_ne, List.pairwise_map]
    refine (List.nodup_iff_pairwise_ne.1 inv.ids).imp_of_mem fun {x y} hx hy hne e => hne ?_
    obtain ⟨p, hp, rfl⟩ := List.mem_map.1 hx
    obtain ⟨q, hq, rfl⟩ := List.mem_map.1 hy
    obtain ⟨u, e1, _⟩ := inv.ent p hp
    obtain ⟨w, e2, _⟩ := inv.ent q hq
    rw [e1, e2] at e ⊢
    have e' : u = w := by simpa using e
    rw [e']) (fun x hx => by
    obtain ⟨p, hp, rfl⟩ := List.mem_map.1 hx
    obtain ⟨u, e1, e2, _⟩ := inv.ent p hp
    rw [e1]; simpa using e2)
  simpa using this

theorem rloop_ok {x5 t4 g2 r : Nat} {sd sa vc vx vy va : Value} {fin : FS} {h' : Heap} (hR : g.Right) (H : RawL h vx vy va g)
    (hK : ∀ so h', Own h h' [xR sd fin.dist, slR encI 1 T_int sa fin.arc, slR encN 1 T_int so fin.order] → K (.agg #[sd, sa, so]) h')
    (J : ∃ (st : FS) (so : Value) (F : Nat → Prop), FS.run g.arcs g.out A.t (g.n + 1 - st.order.length) st = fin ∧ FInv g.n (st.order.length * W) st ∧ Own h h' (refL x5 t4 g2 F r g.n sd sa so vc vx vy va st.hp st)) :
    LoopH (σ := Vals []) (fun x hh ZZ => sh_milestoneref10_From_L3 Tryz.prog (ptr r) vc (ptr x5) (ptr g2) (ptr t4) K hh (fun hz => ZZ () hz)) () h' := by
  have hmost := hR.most
  have hmany := hR.many
  have hv : ∀ {h' : Heap}, Ext h h' → Vw encA 3 h' va g.arcs := fun x => H.2.2.more x
  obtain ⟨st0, J⟩ := J
  refine LoopH_down (k0 := g.n + 1 - st0.order.length) (fun k x h' => ∃ (st : FS) (so : Value) (F : Nat → Prop), k = g.n + 1 - st.order.length ∧ FS.run g.arcs g.out A.t (g.n + 1 - st.order.length) st = fin ∧ FInv g.n (st.order.length * W) st ∧ Own h h' (refL x5 t4 g2 F r g.n sd sa so vc vx vy va st.hp st))
    (by obtain ⟨so, F, J⟩ := J; exact ⟨st0, so, F, rfl, J⟩) ?_
  clear J st0 h'
  rintro k ⟨⟩ h' Z ⟨st, so, F, hk, hrun, inv, o⟩ hZ

  unfold sh_milestoneref10_From_L3
  refine qo_len o 4 rfl ?_
  rw [pBin_gtr]
  have hhp := rscan_hp inv
  by_cases hne : st.hp = []
  · rw [hne, show decide ((0 : Int) < ([] : List HE).length) = false from rfl, ifV_false]
    have hf : st = fin := by
      rw [← hrun]
      cases g.n + 1 - st.order.length with
      | zero => rfl
      | succ k => simp only [FS.run, hne, least]
    subst hf
    refine o.ldN 0 rfl rfl rfl (o.st 6 rfl rfl rfl rfl rfl ?_ fun h2 o2 => o2.ldN 6 rfl rfl rfl (hK so h2 (o2.sel [1, 2, 3] (by decide))))
    intro u hu
    simp at hu
    rcases hu with rfl | rfl | rfl
    · exact (o.vw 1 rfl).plain
    · exact (o.vw 2 rfl).plain
    · exact (o.vw 3 rfl).plain
  · have hpos : 0 < st.hp.length := List.length_pos_iff.2 hne
    rw [show decide ((0 : Int) < st.hp.length) = true from decide_eq_true (by omega), ifV_true]
    refine qo_pop o 4 rfl hne fun p hl F1 h1 o1 => ?_
    simp only [pExt0, pExt1, pExt2]
    have hm := (least_spec hl).1
    obtain ⟨u, hu, hun, hno, hk0, hkB⟩ := inv.ent p hm
    obtain ⟨pv, key⟩ := p
    dsimp only at hu hk0 hkB o1 ⊢
    subst hu
    have hroom := inv.room hne
    have hB : (st.order.length : Int) * W + W ≤ 16777216 * W := by
      have : (st.order.length : Int) + 1 ≤ 16777216 := by omega
      have := Int.mul_le_mul_of_nonneg_right this (show (0 : Int) ≤ W by decide)
      rw [Int.add_mul, Int.one_mul] at this
      exact this
    refine o1.setAt (a := true) 5 rfl encB_len (by simp [encB, Mh.plainCell]) (by rw [clB_len]; exact hun) rfl fun h2 o2 => ?_
    rw [clB_set hun] at o2
    simp only [pField_ptr]
    refine o2.load 0 rfl rfl (o2.setI 1 rfl (by rw [inv.dl]; exact hun) fun h3 o3 => o3.load 0 rfl rfl ?_)
    refine o3.app1 3 u rfl rfl (sizesOk_of rfl) encN_len encN_plain rfl (by decide) (by omega) fun so1 h4 o4 => ?_
    refine o4.st1 0 rfl rfl rfl (o4.vw 3 rfl).one (o4.vw 3 rfl).plain fun h5 o5 => o5.ldN 7 rfl rfl rfl ?_
    refine rout_ok o5 hR ⟨vx, vy, va, rfl, H.more o5.ext⟩ fun vl h6 o6 => ?_
    obtain ⟨st1, hst1⟩ : ∃ st1, st1 = st.pop u key := ⟨_, rfl⟩
    have hW : (0 : Int) ≤ W := by decide
    have inv1 : FInv g.n (st.order.length * W + W) st1 := by subst hst1; exact (inv.popped hm).mono (by omega)
    have hord : st1.order.length = st.order.length + 1 := by subst hst1; simp [FS.pop]
    have hids : ∀ i ∈ g.out u, i < g.arcs.length := fun i => out_lt
    have hscan : ∀ i, FInv g.n (st.order.length * W + W) (st1.scan g.arcs A.t key ((g.out u).take i)) := fun i =>
      FInv.scan (fun a ha => ⟨(hR.ends a ha).2.1, by have := (hR.ends a ha).2.2; show (a.w : Int) ≤ 2147483647; omega⟩) hk0 (by omega) (fun j hj => hids j (List.mem_of_mem_take hj)) inv1
    have hol : (g.out u).length ≤ g.arcs.length := outsP_short
    refine LoopH_count (g.out u).length (fun i x h' => x.1 = I i ∧ ∃ F, Own h h' (slR encN 1 T_int vl (g.out u) :: refL x5 t4 g2 F r g.n sd sa so1 vc vx vy va (st1.scan g.arcs A.t key ((g.out u).take i)).hp (st1.scan g.arcs A.t key ((g.out u).take i)))) ⟨rfl, F1, by subst hst1; exact o6⟩ ?_
    clear o6 o5 o4 o3 o2 o1 o F1 F
    rintro i ⟨x, ⟨⟩⟩ h' Z2 hi ⟨hx, F, o⟩ hZ2
    dsimp only at hx hZ2 ⊢
    subst hx
    unfold sh_milestoneref10_From_L4
    refine (o.vw 0 rfl).len ?_
    simp only [pBin_lss, ifV_dec]
    refine ⟨fun hlt => ?_, fun hge => ?_⟩
    · have hlt : i < (g.out u).length := by omega
      have hil := hids _ (List.getElem_mem hlt)
      simp only [pField_ptr]
      refine o.load 8 rfl rfl ((o.vw 0 rfl).at1 (e := fun x : Nat => I x) (fun _ => rfl) hlt ((hv o.ext).atN encA_len hil ?_))
      have ea : arcAt g.arcs (g.out u)[i] = g.arcs[(g.out u)[i]] := by simp [arcAt, hil]
      have hsc := scan_take (l := g.arcs) (head := A.t) (key := key) (s := st1) hlt
      rw [ea] at hsc
      have ha := hR.ends _ (List.getElem_mem hil)
      have invs := hscan i
      generalize st1.scan g.arcs A.t key ((g.out u).take i) = s at o hsc invs
      have hps := rscan_hp invs
      generalize g.arcs[(g.out u)[i]] = a at ha hsc
      have e1 : IntKind.i64.wrap (key + (a.w : Int)) = key + a.w := by
        have hW2 : (16777216 : Int) * W ≤ 2 ^ 62 := by decide
        exact w64 (by omega) (by have : (W : Int) = 2147483647 := rfl
                                 omega)
      have hcl : (clB s.order g.n)[a.t]'(by rw [clB_len]; exact ha.2.1) = s.order.contains a.t := clB_get ha.2.1
      have next : ∀ {h2 : Heap} {F : Nat → Prop} {b : Nat} {cs : List Value}, Own h h2 (cellR b cs T_api_Arc :: slR encN 1 T_int vl (g.out u) :: refL x5 t4 g2 F r g.n sd sa so1 vc vx vy va (s.reach a.t (g.out u)[i] (key + a.w)).hp (s.reach a.t (g.out u)[i] (key + a.w))) →
          sh_milestoneref10_From_k5 Tryz.prog (I i) (fun a0 hz => Z2 (a0, ()) hz) h2 := fun {h2 F b cs} o2 => by
        unfold sh_milestoneref10_From_k5
        rw [pBin_add, wI i (by omega)]
        exact hZ2 (I (i + 1 : Nat), ()) _ hlt ⟨rfl, F, by rw [hsc]; exact o2.tail⟩
      refine o.box fun b h1 o1 => o1.st 0 rfl rfl rfl rfl rfl (encA_plain _) fun h2 o2 => o2.load 0 rfl rfl ?_
      refine (o2.vw 7 rfl).at1 (e := fun x : Bool => .bool x) (fun _ => rfl) (by rw [clB_len]; exact ha.2.1) ?_
      rw [hcl]
      by_cases hc : a.t ∈ s.order
      · rw [show s.order.contains a.t = true by simpa using hc, ifV_true]
        have : s.reach a.t (g.out u)[i] (key + a.w) = s := by simp [FS.reach, hc]
        rw [this] at next
        exact next o2
      · rw [show s.order.contains a.t = false by simpa using hc, ifV_false]
        refine o2.load 0 rfl rfl (qo_key o2 6 rfl ?_)
        simp only [pExt0, pExt1]
        cases hl : lookH s.hp a.t with
        | none =>
          have : s.reach a.t (g.out u)[i] (key + a.w) = { s with hp := ((a.t : Int), key + (a.w : Int)) :: s.hp, arc := s.arc.set a.t ((g.out u)[i] : Nat) } := by simp [FS.reach, hc, hl]
          rw [this] at next
          rw [Option.isSome_none, pUn_not, Bool.not_false, ifV_true]
          refine o2.load 0 rfl rfl (o2.load 0 rfl rfl ?_)
          rw [pBin_add, e1]
          refine qo_push o2 6 rfl (by omega) (lookH_none.1 hl) ha.2.1 fun F' h3 o3 => ?_
          refine o3.load 2 rfl rfl (o3.load 0 rfl rfl ((o3.vw 1 rfl).at1 (e := fun x : Nat => I x) (fun _ => rfl) hlt ?_))
          refine o3.setI 4 rfl (by rw [invs.al]; exact ha.2.1) fun h4 o4 => ?_
          exact next o4
        | some was =>
          rw [Option.isSome_some, pUn_not, Bool.not_true, ifV_false]
          refine o2.load 0 rfl rfl ?_
          rw [pBin_add, e1, pBin_gtr]
          simp only [Option.getD_some, ifV_dec]
          refine ⟨fun hlt' => ?_, fun hge => ?_⟩
          · have : s.reach a.t (g.out u)[i] (key + a.w) = { s with hp := ((a.t : Int), key + (a.w : Int)) :: s.hp.erase ((a.t : Int), was), arc := s.arc.set a.t ((g.out u)[i] : Nat) } := by
              simp only [FS.reach, hc, if_false, hl]; rw [if_neg (by omega)]
            rw [this] at next
            refine o2.load 0 rfl rfl (o2.load 0 rfl rfl ?_)
            rw [pBin_add, e1]
            refine qo_lower o2 6 rfl (lookH_some hl) ha.2.1 (by omega) fun F' h3 o3 => ?_
            refine o3.load 2 rfl rfl (o3.load 0 rfl rfl ((o3.vw 1 rfl).at1 (e := fun x : Nat => I x) (fun _ => rfl) hlt ?_))
            refine o3.setI 4 rfl (by rw [invs.al]; exact ha.2.1) fun h4 o4 => ?_
            exact next o4
          · have : s.reach a.t (g.out u)[i] (key + a.w) = s := by
              simp only [FS.reach, hc, if_false, hl]; rw [if_pos (by omega)]
            rw [this] at next
            exact next o2
    · have : i = (g.out u).length := by omega
      subst this
      rw [List.take_length] at o
      have hso := @scan_order g.arcs A.t key (g.out u) st1
      have inv2 : FInv g.n ((st1.scan g.arcs A.t key (g.out u)).order.length * W) (st1.scan g.arcs A.t key (g.out u)) := by
        have := hscan (g.out u).length
        rw [List.take_length] at this
        refine this.mono ?_
        rw [hso.1, hord]
        have : ((st.order.length + 1 : Nat) : Int) * W = st.order.length * W + W := by
          rw [Int.natCast_add, Int.add_mul]; rfl
        omega
      have hrun2 : FS.run g.arcs g.out A.t (g.n + 1 - (st1.scan g.arcs A.t key (g.out u)).order.length) (st1.scan g.arcs A.t key (g.out u)) = fin := by
        rw [← hrun, hso.1, hord]
        rw [show g.n + 1 - st.order.length = (g.n + 1 - (st.order.length + 1)) + 1 by omega]
        simp only [FS.run, hl, Int.toNat_natCast]
        rw [← hst1]
      exact hZ () h' _ (by rw [hso.1, hord]; omega) ⟨_, so1, F, rfl, hrun2, inv2, o.tail⟩

end
end Go.Proofs.YtkeoponidgpfpaaGreatDoor

namespace Go.Proofs.YtkeoponidgpfpaaGreatDoor
open Go Go.Mh
set_option linter.unusedVariables false

section
variable {h0 h : Heap} {L : List Res} {K : Value → Heap → Prop} {g : G} {v : Value}

theorem rfrom_ok {s : Int} (hR : g.Right) (H : RawV h v g) (hK : TreeK h (g.fromI s) K) : callS Tryz.prog F_milestoneref10_From [v, I s] h K := by
  obtain ⟨vx, vy, va, rfl, H⟩ := H
  refine callS_of (lk_milestoneref10_From _ _ ?_)
  unfold sh_milestoneref10_From
  have hmost := hR.most
  refine (Own.start h).box fun g2 h1 o1 => o1.box fun t4 h2 o2 => o2.box fun x5 h3 o3 => ?_
  have none : ¬ (0 ≤ s ∧ s < g.n) → sh_milestoneref10_From_k1 Tryz.prog (ptr x5) (ptr t4) K h3 := fun hs => by
    unfold sh_milestoneref10_From_k1
    rw [G.fromI, if_neg hs] at hK
    exact o3.ldN 0 rfl rfl rfl (o3.st (l := [sl0, sl0, sl0]) 1 rfl rfl rfl rfl rfl (by simp) fun h4 o4 => o4.ldN 1 rfl rfl rfl (hK sl0 sl0 sl0 h4 ((o4.nilS.nilS.nilS).sel [0, 1, 2] (by decide))))
  simp only [pBin_lss, ifV_dec, pField_ptr]
  refine ⟨fun e => none (by omega), fun h0 => o3.load 2 rfl rfl ?_⟩
  simp only [pBin_geq, ifV_dec]
  refine ⟨fun e => none (by omega), fun h1' => o3.load 2 rfl rfl ?_⟩
  obtain ⟨s, rfl⟩ := Int.eq_ofNat_of_zero_le (show 0 ≤ s by omega)
  have hs : s < g.n := by omega
  have hK : TreeK h (g.from s) K := by rw [G.fromI, if_pos (by omega)] at hK; exact hK
  refine o3.make (enc := encB) (n := 1) (a := false) rfl (by omega) (by omega) fun vc h4 o4 => ?_
  refine LoopH_count g.n (fun i x h' => x.1 = I i ∧ ∃ sd sa, Own h h' [cellR x5 [sd, sa, sl0] T_milestoneref10_Tree, xR sd (List.replicate i far), slR encI 1 T_int sa (List.replicate i (-1)), slR encB 1 T_bool vc (List.replicate g.n false), cellR t4 [sl0, sl0, sl0] T_milestoneref10_Tree, cellR g2 [I g.n, vx, vy, va] T_api_Raw])
    ⟨rfl, sl0, sl0, (o4.nilS (enc := encI) (n := 1) (T := T_int64)).nilS (enc := encI) (n := 1) (T := T_int) |>.sel [3, 1, 0, 2, 4, 5] (by decide)⟩ ?_
  clear none o4 o3 o2 o1
  rintro i ⟨x, ⟨⟩⟩ h' Z hi ⟨hx, sd, sa, o⟩ hZ
  dsimp only at hx hZ ⊢
  subst hx
  unfold sh_milestoneref10_From_L2
  simp only [pField_ptr]
  refine o.load 5 rfl rfl ?_
  simp only [pBin_lss, ifV_dec]
  refine ⟨fun hlt => o.load 0 rfl rfl ?_, fun hge => o.load 5 rfl rfl ?_⟩
  · refine o.app1 1 far rfl rfl (sizesOk_of rfl) encI_len encI_plain rfl (by decide) (by simp; omega) fun sd' h2 o2 => ?_
    refine o2.st1 0 rfl rfl rfl (o2.vw 1 rfl).one (o2.vw 1 rfl).plain fun h3 o3 => o3.load 0 rfl rfl ?_
    refine o3.app1 2 (-1) rfl rfl (sizesOk_of rfl) encI_len encI_plain rfl (by decide) (by simp; omega) fun sa' h4 o4 => ?_
    refine o4.st1 0 rfl rfl rfl (o4.vw 2 rfl).one (o4.vw 2 rfl).plain fun h5 o5 => ?_
    rw [pBin_add, wI i (by omega)]
    refine hZ (I (i + 1 : Nat), ()) h5 (by omega) ⟨rfl, sd', sa', ?_⟩
    rw [List.replicate_succ', List.replicate_succ']
    exact o5
  · have : i = g.n := by omega
    subst this
    refine qo_new o fun F r h2 o2 => ?_
    refine qo_push o2 0 rfl (by simp) (by simp) hs fun F' h3 o3 => ?_
    refine rloop_ok (fin := FS.run g.arcs g.out A.t (g.n + 1) (FS.start g.n s)) hR H (fun so h' o' => hK sd sa so h' o') ⟨FS.start g.n s, sl0, F', rfl, (FInv.start hs).mono (by simp [FS.start]), ?_⟩
    have o4 := ((o3.nilS (enc := encN) (n := 1) (T := T_int)).sel [2, 3, 4, 0, 1, 5, 6, 7] (by decide))
    rw [show List.replicate g.n false = clB (FS.start g.n s).order g.n from clB_nil.symm] at o4
    exact o4

theorem rto_ok {s : Int} (hR : g.Right) (H : RawV h v g) (hK : TreeK h (g.toI s) K) : callS Tryz.prog F_milestoneref10_To [v, I s] h K := by
  obtain ⟨vx, vy, va, rfl, H⟩ := H
  refine callS_of (lk_milestoneref10_To _ _ ?_)
  unfold sh_milestoneref10_To
  refine (Own.start h).box fun g2 h1 o1 => o1.box fun t4 h2 o2 => o2.ldN 1 rfl rfl rfl ?_
  refine rturned_ok o2 hR ⟨vx, vy, va, rfl, H.more o2.ext⟩ fun wx wy wa h3 o3 => ?_
  refine rfrom_ok (g := g.turned) (s := s) hR.turned ⟨wx, wy, wa, rfl, o3.vw 0 rfl, o3.vw 1 rfl, o3.vw 2 rfl⟩ fun sd sa so h4 o4 => ?_
  rw [turned_from] at o4
  have o5 := o3.frame o4
  refine o5.st 6 rfl rfl rfl rfl rfl ?_ fun h6 o6 => o6.ldN 6 rfl rfl rfl (hK sd sa so h6 (o6.sel [0, 1, 2] (by decide)))
  intro u hu
  simp at hu
  rcases hu with rfl | rfl | rfl
  · exact (o5.vw 0 rfl).plain
  · exact (o5.vw 1 rfl).plain
  · exact (o5.vw 2 rfl).plain

end
end Go.Proofs.YtkeoponidgpfpaaGreatDoor

namespace Go.Proofs.YtkeoponidgpfpaaGreatDoor
open Go Go.Mh
set_option linter.unusedVariables false

section
variable {h0 h : Heap} {L M : List Res} {K : Value → Heap → Prop} {Q : Qs} {r : Nat} {v w : Value}

theorem rreach_ok14 {x : Bool} (hQ : Q.Ok) (HR : RawV h v Q.g) (HA : AskV h w Q) (hK : ∀ d vl h', RL Q x d → Own h h' [xR vl d] → K vl h') : callS Tryz.prog F_milestoneref14_Reach [v, w, I (sI x)] h K := by
  have HR0 := HR
  obtain ⟨vx, vy, vr, rfl, HR⟩ := HR
  have HA0 := HA
  obtain ⟨va, vp, rfl, Ha, Hp⟩ := HA
  have hmost := hQ.r.most
  have hmany := hQ.r.many
  have hfar : far = 72057594037927936 := rfl
  refine callS_of (lk_milestoneref14_Reach _ _ _ ?_)
  unfold sh_milestoneref14_Reach
  refine (Own.start h).box fun g2 h1 o1 => o1.box fun a3 h2 o2 => ?_
  refine LoopH_count Q.g.n (fun i y h' => y.2.1 = I i ∧ Own h h' [xR y.1 (List.replicate i far), cellR a3 [I Q.s, I Q.t, va, vp] T_api_Ask, cellR g2 [I Q.g.n, vx, vy, vr] T_api_Raw]) ⟨rfl, o2.nilS⟩ ?_
  clear o1 o2
  rintro i ⟨l7, y, ⟨⟩⟩ h3 Z hi ⟨hy, o⟩ hZ
  dsimp only at hy o hZ ⊢
  subst hy
  unfold sh_milestoneref14_Reach_L1
  simp only [pField_ptr]
  refine o.load 2 rfl rfl ?_
  rw [pBin_lss, ifV_dec]
  refine ⟨fun hlt => ?_, fun hge => ?_⟩
  · have hlt : i < Q.g.n := by omega
    refine o.app1 0 far rfl rfl (sizesOk_of rfl) encI_len encI_plain rfl (by decide) (by rw [List.length_replicate]; omega) fun w2 h4 o4 => ?_
    rw [pBin_add, wI i (by omega)]
    refine hZ (w2, (_, ())) h4 hlt ⟨rfl, ?_⟩
    rw [← List.replicate_succ'] at o4
    exact o4
  · have : i = Q.g.n := by omega
    subst this
    clear hZ hge hi
    have hs := src_lt hQ x
    -- the rounds
    have k3 : ∀ d hh, ReI Q x d → Own h hh [xR l7 d, cellR a3 [I Q.s, I Q.t, va, vp] T_api_Ask, cellR g2 [I Q.g.n, vx, vy, vr] T_api_Raw] → sh_milestoneref14_Reach_k3 Tryz.prog (ptr g2) (I (sI x)) (ptr a3) l7 K hh := fun d hh hd oo => by
      unfold sh_milestoneref14_Reach_k3
      refine LoopH_down (k0 := dsum d + 1) (fun k y h' => ∃ (d : List Int) (m : Bool), y.1 = .bool m ∧ ReI Q x d ∧ (m = false → RL Q x d) ∧ k = dsum d + (if m then 1 else 0) ∧ Own h h' [xR l7 d, cellR a3 [I Q.s, I Q.t, va, vp] T_api_Ask, cellR g2 [I Q.g.n, vx, vy, vr] T_api_Raw]) ⟨d, true, rfl, hd, fun h => (by cases h), rfl, oo⟩ ?_
      clear oo hd
      rintro k ⟨y, ⟨⟩⟩ h4 Z ⟨d, m, hy, hd, hm, hk, o⟩ hZ
      dsimp only at hy hZ ⊢
      subst hy
      unfold sh_milestoneref14_Reach_L4
      cases m with
      | false => rw [ifV_false]; exact hK d l7 h4 (hm rfl) (o.sel [0] (by decide))
      | true =>
        rw [ifV_true]
        refine LoopH_count Q.g.arcs.length (fun i y h' => y.2.1 = I i ∧ ∃ (d' : List Int) (m : Bool), y.1 = .bool m ∧ ReI Q x d' ∧ (m = false → d' = d ∧ ∀ j, j < i → Q.ok j = true → dAt d (tlS x (arcAt Q.g.arcs j)) < far → dAt d (hdS x (arcAt Q.g.arcs j)) ≤ dAt d (tlS x (arcAt Q.g.arcs j)) + (arcAt Q.g.arcs j).w) ∧ (m = true → dsum d' < dsum d) ∧
          Own h h' [xR l7 d', cellR a3 [I Q.s, I Q.t, va, vp] T_api_Ask, cellR g2 [I Q.g.n, vx, vy, vr] T_api_Raw]) ⟨rfl, d, false, rfl, hd, fun _ => ⟨rfl, fun j hj => by omega⟩, fun h => (by cases h), o⟩ ?_
        clear o
        rintro i ⟨ym, y, ⟨⟩⟩ h5 Z2 hi ⟨hy, d', m, hym, hd', hm1, hm2, o⟩ hZ2
        dsimp only at hy hym hZ2 ⊢
        subst hy hym
        unfold sh_milestoneref14_Reach_L5
        simp only [pField_ptr]
        refine o.load 2 rfl rfl ((HR.more o.ext).2.2.len ?_)
        rw [pBin_lss, ifV_dec]
        refine ⟨fun hlt => ?_, fun hge => ?_⟩
        · have hlt : i < Q.g.arcs.length := by omega
          have he := hQ.r.ends _ (arcAt_mem hlt)
          have ea : Q.g.arcs[i] = arcAt Q.g.arcs i := by simp [arcAt, hlt]
          have ht : tlS x (arcAt Q.g.arcs i) < Q.g.n := by cases x; exact he.1; exact he.2.1
          have hh : hdS x (arcAt Q.g.arcs i) < Q.g.n := by cases x; exact he.2.1; exact he.1
          have rt := hd'.rng ht
          have rh := hd'.rng hh
          have dl := hd'.len
          have nxt : ∀ d2 (m2 : Bool) hh2, ReI Q x d2 → (m2 = false → d2 = d ∧ ∀ j, j < i + 1 → Q.ok j = true → dAt d (tlS x (arcAt Q.g.arcs j)) < far → dAt d (hdS x (arcAt Q.g.arcs j)) ≤ dAt d (tlS x (arcAt Q.g.arcs j)) + (arcAt Q.g.arcs j).w) → (m2 = true → dsum d2 < dsum d) →
              Own h hh2 [xR l7 d2, cellR a3 [I Q.s, I Q.t, va, vp] T_api_Ask, cellR g2 [I Q.g.n, vx, vy, vr] T_api_Raw] → sh_milestoneref14_Reach_k8 Tryz.prog (I i) (fun a0 a1 hz => Z2 (a0, (a1, ())) hz) (.bool m2) hh2 := fun d2 m2 hh2 a1 a2 a3 o2 => by
            unfold sh_milestoneref14_Reach_k8
            rw [pBin_add, wI i (by omega)]
            exact hZ2 (_, (_, ())) hh2 hlt ⟨rfl, d2, m2, rfl, a1, a2, a3, o2⟩
          have hat : ∀ {u : Nat} {hh2 : Heap} {K : Value → Prop}, u < Q.g.n → Own h hh2 [xR l7 d', cellR a3 [I Q.s, I Q.t, va, vp] T_api_Ask, cellR g2 [I Q.g.n, vx, vy, vr] T_api_Raw] → K (I (dAt d' u)) → pIdx 1 l7 (I u) (fun t => pLoad hh2 t K) := fun hu o2 hk => (o2.vw 0 rfl).atI (by omega) (by rw [dAt_get (by omega)]; exact hk)
          have k6 : sh_milestoneref14_Reach_k6 Tryz.prog (ptr g2) (ptr a3) (I i) l7 (fun a0 a1 hz => Z2 (a0, (a1, ())) hz) (.bool m) (I (tlS x (arcAt Q.g.arcs i))) (I (hdS x (arcAt Q.g.arcs i))) h5 := by
            unfold sh_milestoneref14_Reach_k6
            refine cutP_of (fun y h'' => (∃ b : Bool, y.1 = .bool b ∧ (b = true ↔ Q.ok i = true ∧ dAt d' (tlS x (arcAt Q.g.arcs i)) < far ∧ dAt d' (tlS x (arcAt Q.g.arcs i)) + (arcAt Q.g.arcs i).w < dAt d' (hdS x (arcAt Q.g.arcs i)))) ∧
              Own h h'' [xR l7 d', cellR a3 [I Q.s, I Q.t, va, vp] T_api_Ask, cellR g2 [I Q.g.n, vx, vy, vr] T_api_Raw]) (fun J hJ => ?_) ?_
            · refine o.ldN (cs' := [I Q.g.n, vx, vy, vr]) 2 rfl rfl rfl (o.ldN (cs' := [I Q.s, I Q.t, va, vp]) 1 rfl rfl rfl ?_)
              refine rin_ok hQ (HR0.more o.ext) (HA0.more o.ext) hlt fun h6 x6 => ?_
              have o6 := o.more x6
              cases hok : Q.ok i with
              | false =>
                rw [ifV_false]
                exact hJ _ _ ⟨⟨false, rfl, ⟨fun h => (by cases h), fun h => absurd (hok.symm.trans h.1) (by decide)⟩⟩, o6⟩
              | true =>
                rw [ifV_true]
                refine hat ht o6 ?_
                rw [pBin_lss, ifV_dec]
                refine ⟨fun h1 => ?_, fun h1 => hJ _ _ ⟨⟨false, rfl, ⟨fun h => (by cases h), fun h => absurd h.2.1 h1⟩⟩, o6⟩⟩
                simp only [pField_ptr]
                refine hat ht o6 (o6.load 2 rfl rfl ((HR.more o6.ext).2.2.atF (u := I (arcAt Q.g.arcs i).w) encA_len hlt (by decide) (by rw [ea]; rfl) ?_))
                rw [pBin_add, w64 (by omega) (by omega)]
                refine hat hh o6 ?_
                rw [pBin_lss]
                exact hJ _ _ ⟨⟨_, rfl, by rw [decide_eq_true_eq]; exact ⟨fun h => ⟨hok, h1, h⟩, fun h => h.2.2⟩⟩, o6⟩
            · rintro ⟨y, ⟨⟩⟩ h6 ⟨⟨b, hy, hb⟩, o6⟩
              dsimp only at hy ⊢
              subst hy
              unfold sh_milestoneref14_Reach_C7
              cases b with
              | true =>
                obtain ⟨b1, b2, b3⟩ := hb.1 rfl
                obtain ⟨r1, r2⟩ := hd'.relax hQ hlt b1 b2 b3
                rw [ifV_true]
                simp only [pField_ptr]
                refine hat ht o6 (o6.load 2 rfl rfl ((HR.more o6.ext).2.2.atF (u := I (arcAt Q.g.arcs i).w) encA_len hlt (by decide) (by rw [ea]; rfl) ?_))
                rw [pBin_add, w64 (by omega) (by omega)]
                refine o6.setI (z := dAt d' (tlS x (arcAt Q.g.arcs i)) + (arcAt Q.g.arcs i).w) 0 rfl (by omega) fun h7 o7 => ?_
                refine nxt _ true h7 r1 (fun h => (by cases h)) (fun _ => ?_) o7
                cases m with
                | true => have := hm2 rfl; omega
                | false => rw [(hm1 rfl).1] at r2 ⊢; exact r2
              | false =>
                rw [ifV_false]
                refine nxt d' m h6 hd' (fun hm => ?_) hm2 o6
                obtain ⟨e1, e2⟩ := hm1 hm
                refine ⟨e1, fun j hj hok hlt' => ?_⟩
                rcases Nat.lt_succ_iff_lt_or_eq.1 hj with h | rfl
                · exact e2 j h hok hlt'
                · rw [← e1] at hlt' ⊢
                  have : ¬ dAt d' (tlS x (arcAt Q.g.arcs j)) + (arcAt Q.g.arcs j).w < dAt d' (hdS x (arcAt Q.g.arcs j)) := fun h => by
                    have := hb.2 ⟨hok, hlt', h⟩
                    cases this
                  omega
          refine o.load 2 rfl rfl ((HR.more o.ext).2.2.atF (u := I (arcAt Q.g.arcs i).f) encA_len hlt (by decide) (by rw [ea]; rfl) (o.load 2 rfl rfl ((HR.more o.ext).2.2.atF (u := I (arcAt Q.g.arcs i).t) encA_len hlt (by decide) (by rw [ea]; rfl) ?_)))
          rw [pBin_eql]
          cases x
          · rw [show (sI false == 1) = false from rfl, ifV_false]; exact k6
          · rw [show (sI true == 1) = true from rfl, ifV_true]; exact k6
        · have : i = Q.g.arcs.length := by omega
          subst this
          cases m with
          | true => exact hZ (_, ()) h5 (dsum d' + 1) (by have := hm2 rfl; simp at hk; omega) ⟨d', true, rfl, hd', fun h => (by cases h), rfl, o⟩
          | false =>
            obtain ⟨e1, e2⟩ := hm1 rfl
            subst e1
            exact hZ (_, ()) h5 (dsum d' + 0) (by simp at hk; omega) ⟨d', false, rfl, hd', fun _ => ⟨hd', e2⟩, rfl, o⟩
    have k2 : sh_milestoneref14_Reach_k2 Tryz.prog (ptr a3) l7 (ptr g2) (I (sI x)) K (I (Q.src x)) h3 := by
      unfold sh_milestoneref14_Reach_k2
      refine o.ldN (cs' := [I Q.s, I Q.t, va, vp]) 1 rfl rfl rfl ?_
      refine ropen_ok hQ (HA0.more o.ext) hs fun h4 x4 => ?_
      have o4 := o.more x4
      have hst := ReI.start hQ (x := x)
      cases hop : Q.opn (Q.src x) with
      | false =>
        rw [ifV_false]
        rw [hop, if_neg (by decide)] at hst
        exact k3 _ _ hst o4
      | true =>
        rw [ifV_true]
        rw [hop, if_pos rfl] at hst
        exact o4.setI (z := 0) 0 rfl (by rw [List.length_replicate]; exact hs) fun h5 o5 => k3 _ _ hst o5
    refine o.load 1 rfl rfl ?_
    rw [pBin_eql]
    cases x
    · rw [show (sI false == 1) = false from rfl, ifV_false]; exact k2
    · rw [show (sI true == 1) = true from rfl, ifV_true]; exact o.load 1 rfl rfl k2

theorem rerror_ok {f t : Int} {va vp : Value} {allow : List Bool} {pi : List Int} {g : G} (HR : RawV h v g) (Ha : Vw encBo 1 h va allow) (Hp : Vw encI 1 h vp pi) (hK : ∀ h', Ext h h' → K (I (if rightP g f t allow.length pi.length then 0 else 2)) h') :
    callS Tryz.prog F_milestoneref14_Error [v, .agg #[I f, I t, va, vp]] h K := by
  obtain ⟨vx, vy, vr, rfl, HR⟩ := HR
  refine callS_of (lk_milestoneref14_Error _ _ ?_)
  unfold sh_milestoneref14_Error
  refine (Own.start h).box fun g2 h1 o1 => o1.box fun a3 h2 o2 => ?_
  have o : Own h h2 [cellR a3 [I f, I t, va, vp] T_api_Ask, cellR g2 [I g.n, vx, vy, vr] T_api_Raw] := o2
  clear o1 o2
  have hA := Ha.more o.ext
  have hP := Hp.more o.ext
  have bad : ¬ rightP g f t allow.length pi.length → K (I 2) h2 := fun hn => by have := hK h2 o.ext; rw [if_neg hn] at this; exact this
  have good : rightP g f t allow.length pi.length → K (I 0) h2 := fun hn => by have := hK h2 o.ext; rw [if_pos hn] at this; exact this
  unfold sh_milestoneref14_Error_k1 sh_milestoneref14_Error_k2 sh_milestoneref14_Error_k1 sh_milestoneref14_Error_k3
  simp only [pField_ptr]
  refine o.load 0 rfl rfl ?_
  rw [pBin_lss, ifV_dec]
  refine ⟨fun c => bad fun hr => by have := hr.1.1.1; omega, fun c1 => o.load 0 rfl rfl (o.load 1 rfl rfl ?_)⟩
  rw [pBin_geq, ifV_dec]
  refine ⟨fun c => bad fun hr => by have := hr.1.1.2; omega, fun c2 => o.load 0 rfl rfl ?_⟩
  rw [pBin_lss, ifV_dec]
  refine ⟨fun c => bad fun hr => by have := hr.1.2.1; omega, fun c3 => o.load 0 rfl rfl (o.load 1 rfl rfl ?_)⟩
  rw [pBin_geq, ifV_dec]
  refine ⟨fun c => bad fun hr => by have := hr.1.2.2; omega, fun c4 => ?_⟩
  have tl : (allow.length = 0 ∨ allow.length = g.arcs.length) → (pLoad h2 (.pointer (some ⟨a3, 0 + 3, none⟩)) fun t44 => pLen t44 fun t45 => pBin .gtr t45 (I 0) fun t46 => ifV t46 (pLoad h2 (.pointer (some ⟨a3, 0 + 3, none⟩)) fun t49 => pLen t49 fun t50 => pLoad h2 (.pointer (some ⟨g2, 0 + 0, none⟩)) fun t52 => pBin .neq t50 t52 fun t53 => ifV t53 (K (I 2) h2) (K (I 0) h2)) (K (I 0) h2)) := fun hal => by
    refine o.load 0 rfl rfl (hP.len ?_)
    rw [pBin_gtr, ifV_dec]
    refine ⟨fun c5 => o.load 0 rfl rfl (hP.len (o.load 1 rfl rfl ?_)), fun c5 => good ⟨⟨⟨by omega, by omega⟩, by omega, by omega⟩, hal, .inl (by omega)⟩⟩
    rw [pBin_neq, ifV_bne]
    exact ⟨fun c6 => bad fun hr => by rcases hr.2.2 with h | h <;> omega, fun c6 => good ⟨⟨⟨by omega, by omega⟩, by omega, by omega⟩, hal, .inr (by omega)⟩⟩
  refine o.load 0 rfl rfl (hA.len ?_)
  rw [pBin_gtr, ifV_dec]
  refine ⟨fun c5 => o.load 0 rfl rfl (hA.len (o.load 1 rfl rfl ((HR.more o.ext).2.2.len ?_))), fun c5 => tl (.inl (by omega))⟩
  rw [pBin_neq, ifV_bne]
  exact ⟨fun c6 => bad fun hr => by rcases hr.2.1 with h | h <;> omega, fun c6 => tl (.inr (by omega))⟩

end
end Go.Proofs.YtkeoponidgpfpaaGreatDoor

namespace Go.Proofs.YtkeoponidgpfpaaGreatDoor
open Go Go.Mh
set_option linter.unusedVariables false

section
variable {h0 h : Heap} {L M : List Res} {K : Value → Heap → Prop} {Q : Qs} {r : Nat} {v w : Value}

theorem dAt_le_far {t : Tr} {l : List A} {tl hd : A → Nat} {n s : Nat} (T : TreeOf l tl hd n s t) {v : Nat} (hv : v < n) : 0 ≤ dAt t.dist v ∧ dAt t.dist v ≤ far := ⟨T.ls.nonneg hv, T.ls.far_le hv⟩

theorem lessI_nonneg {a c : Int} : 0 ≤ lessI a c := by
  unfold lessI
  split
  · omega
  · split
    · decide
    · split <;> omega
theorem landI_rng {dv ds dt : Int} : -far ≤ landI dv ds dt ∧ landI dv ds dt ≤ far := by
  have b1 := @lessI_nonneg dv dt
  have b2 := @lessI_nonneg ds dv
  have hfar : far = 72057594037927936 := rfl
  unfold landI
  split <;> omega

theorem ask14_ok {bs pis : List Int} {vb vpi : Value} {zf zt zo zl : Int} {some mark : Bool} (Hb : Vw encU8 1 h vb bs) (Hpi : Vw encI 1 h vpi pis) (hf : 0 ≤ zf ∧ zf ≤ 255) (ht : 0 ≤ zt ∧ zt ≤ 255) (hl : 0 ≤ zl ∧ zl ≤ 255)
    (hK : ∀ (Q : Qs) vx vy vr va vp h', Few Q.g → Q.Ok → (mark = true → Q.Feas ∧ ∀ z ∈ Q.pi, -far ≤ z ∧ z ≤ far) → Own h h' [xR vx Q.g.X, xR vy Q.g.Y, aR vr Q.g.arcs, slR encBo 1 T_bool va Q.allow, xR vp Q.pi] → K (.tuple #[.agg #[I Q.g.n, vx, vy, vr], .agg #[I Q.s, I Q.t, va, vp]]) h') :
    callS Tryz.prog F_milestonelaw14_Draft_ask [.agg #[vb, .int .u8 zf, .int .u8 zt, .bool some, .bool mark, .int .u64 zo, vpi, .int .u8 zl]] h K := by
  have hfar : far = 72057594037927936 := rfl
  refine callS_of (lk_milestonelaw14_Draft_ask _ ?_)
  unfold sh_milestonelaw14_Draft_ask
  refine (Own.start h).box fun d1 h1 o1 => o1.box fun t2 h2 o2 => o2.box fun t3 h3 o3 => ?_
  have o : Own h h3 [cellR t3 [I 0, I 0, sl0, sl0] T_api_Ask, cellR t2 [I 0, sl0, sl0, sl0] T_api_Raw, cellR d1 [vb, .int .u8 zf, .int .u8 zt, .bool some, .bool mark, .int .u64 zo, vpi, .int .u8 zl] T_milestonelaw14_Draft] := o3
  clear o1 o2 o3
  simp only [pField_ptr]
  refine o.load 2 rfl rfl (o.load 2 rfl rfl ((Hb.more o.ext).len ?_))
  have e : (if (80 : Int) < bs.length then 80 else (bs.length : Int)) = ((min bs.length 80 : Nat) : Int) := by split <;> omega
  rw [pMin_int, e]
  refine Hb.sub (a := 0) (j := min bs.length 80) encU8_len rfl rfl (by omega) (by omega) fun vb' hb => ⟨sizesOk_of (by obtain ⟨b, c, e⟩ := hb.isSl; subst e; rfl), ?_⟩
  refine o.box fun d h4 o4 => ?_
  have o4 : Own h h4 (dR d vb' 0 :: [cellR t3 [I 0, I 0, sl0, sl0] T_api_Ask, cellR t2 [I 0, sl0, sl0, sl0] T_api_Raw, cellR d1 [vb, .int .u8 zf, .int .u8 zt, .bool some, .bool mark, .int .u64 zo, vpi, .int .u8 zl] T_milestonelaw14_Draft]) := by
    obtain ⟨b, c, e⟩ := hb.isSl; subst e; exact o4
  refine raw_ok o4 hb fun g vx vy vr a' h5 hg o5 => ?_
  clear o4
  have hR := hg.toRight
  have hpos := hR.pos
  have hfew := hg.few
  have hshort := hg.short
  have px := (o5.vw 0 rfl).plain
  have py := (o5.vw 1 rfl).plain
  have pa := (o5.vw 2 rfl).plain
  have hpl : ∀ u ∈ [I g.n, vx, vy, vr], Mh.plainCell u = true := by intro u hu; simp at hu; rcases hu with rfl | rfl | rfl | rfl <;> first | rfl | assumption
  refine o5.box fun g5 h6 o6 => o6.st (cs' := [I g.n, vx, vy, vr]) 0 rfl rfl rfl rfl rfl hpl fun h7 o7 => ?_
  clear o5 o6
  have tm : ∀ {z : Int}, 0 ≤ z ∧ z ≤ 255 → ∃ m : Nat, z.tmod g.n = (m : Int) ∧ m < g.n := fun {z} hz => by
    obtain ⟨m, hm⟩ : ∃ m : Nat, z.tmod g.n = (m : Int) := Int.eq_ofNat_of_zero_le (Int.tmod_nonneg _ hz.1)
    have := Int.tmod_lt_of_pos z (show (0 : Int) < g.n by omega)
    exact ⟨m, hm, by omega⟩
  obtain ⟨s, es, hs⟩ := tm hf
  obtain ⟨t, et, htn⟩ := tm ht
  obtain ⟨lm, el, hln⟩ := tm hl
  refine o7.load 7 rfl rfl ?_
  rw [pConv_int, w64 (by omega) (by omega)]
  refine o7.load 0 rfl rfl ?_
  rw [pBin_rem, es]
  refine ⟨by omega, o7.load 7 rfl rfl ?_⟩
  rw [pConv_int, w64 (by omega) (by omega)]
  refine o7.load 0 rfl rfl ?_
  rw [pBin_rem, et]
  refine ⟨by omega, ?_⟩
  refine pBuild_ones (cs' := [I s, I t, sl0, sl0]) (fun p hp => by simp at hp; rcases hp with rfl | rfl <;> rfl) rfl rfl ?_
  refine o7.box fun a6 h8 o8 => o8.st (cs' := [I s, I t, sl0, sl0]) 0 rfl rfl rfl rfl rfl (by intro u hu; simp at hu; rcases hu with rfl | rfl | rfl <;> rfl) fun h9 o9 => ?_
  obtain ⟨B, hB⟩ : ∃ B : Value → Value → List Res, B = fun va vp => [cellR a6 [I s, I t, va, vp] T_api_Ask, cellR g5 [I g.n, vx, vy, vr] T_api_Raw, xR vx g.X, xR vy g.Y, aR vr g.arcs, dR d vb' a', cellR t3 [I 0, I 0, sl0, sl0] T_api_Ask, cellR t2 [I 0, sl0, sl0, sl0] T_api_Raw, cellR d1 [vb, .int .u8 zf, .int .u8 zt, .bool some, .bool mark, .int .u64 zo, vpi, .int .u8 zl] T_milestonelaw14_Draft] := ⟨_, rfl⟩
  have o10 : Own h h9 (slR encBo 1 T_bool sl0 [] :: xR sl0 [] :: B sl0 sl0) := by rw [hB]; exact o9.nilS.nilS
  clear o7 o8 o9
  -- the end
  have fin : ∀ (al : List Bool) (pi : List Int) va vp hh, (al = [] ∨ al.length = g.arcs.length) → (pi = [] ∨ pi.length = g.n) → (mark = true → (Qs.mk g s t al pi).Feas ∧ ∀ z ∈ pi, -far ≤ z ∧ z ≤ far) → Own h hh (slR encBo 1 T_bool va al :: xR vp pi :: B va vp) →
      (pLoadN 4 hh (ptr g5) fun t116 => pLoadN 4 hh (ptr a6) fun t117 => pStore 4 (ptr t2) t116 hh fun u_5 h_27 => (pLoadN 4 h_27 (ptr a6) fun t117_1 => t117_1 = t117) ∧
        (pStore 4 (ptr t3) t117 h_27 fun u_6 h_28 => pLoadN 4 h_28 (ptr t2) fun res => pLoadN 4 h_28 (ptr t3) fun res_1 => K (.tuple #[res, res_1]) h_28)) := fun al pi va vp hh hal hpi hFe o => by
    rw [hB] at o
    have pva := (o.vw 0 rfl).plain
    have pvp := (o.vw 1 rfl).plain
    refine o.ldN (cs' := [I g.n, vx, vy, vr]) 3 rfl rfl rfl (o.ldN (cs' := [I s, I t, va, vp]) 2 rfl rfl rfl (o.st (cs' := [I g.n, vx, vy, vr]) 9 rfl rfl rfl rfl rfl hpl fun h27 o27 => ⟨o27.ldN (cs' := [I s, I t, va, vp]) 2 rfl rfl rfl rfl, ?_⟩))
    refine o27.st (cs' := [I s, I t, va, vp]) 8 rfl rfl rfl rfl rfl (by intro u hu; simp at hu; rcases hu with rfl | rfl | rfl | rfl <;> first | rfl | assumption) fun h28 o28 => o28.ldN (cs' := [I g.n, vx, vy, vr]) 9 rfl rfl rfl (o28.ldN (cs' := [I s, I t, va, vp]) 8 rfl rfl rfl ?_)
    exact hK ⟨g, s, t, al, pi⟩ vx vy vr va vp h28 hg ⟨hR, hs, htn, hal, hpi⟩ hFe (o28.sel [4, 5, 6, 0, 1] (by decide))
  -- potentials
  have k2 : ∀ (al : List Bool) va hh, (al = [] ∨ al.length = g.arcs.length) → Own h hh (slR encBo 1 T_bool va al :: xR sl0 [] :: B va sl0) → sh_milestonelaw14_Draft_ask_k2 Tryz.prog (ptr d1) (ptr g5) (ptr a6) (ptr t2) (ptr t3) K hh := fun al va hh hal o => by
    unfold sh_milestonelaw14_Draft_ask_k2
    simp only [pField_ptr]
    rw [hB] at o
    refine o.load 10 rfl rfl ?_
    cases mark with
    | true =>
      rw [ifV_true]
      refine o.ldN (cs' := [I g.n, vx, vy, vr]) 3 rfl rfl rfl (o.load 10 rfl rfl ?_)
      rw [pConv_int, w64 (by omega) (by omega)]
      refine o.load 3 rfl rfl ?_
      rw [pBin_rem, el]
      refine ⟨by omega, ?_⟩
      refine rto_ok hR ⟨vx, vy, vr, rfl, o.vw 4 rfl, o.vw 5 rfl, o.vw 6 rfl⟩ ?_
      rw [show g.toI lm = g.to lm by simp [G.toI, hln]]
      intro sd sa so h10 o10'
      have o10 := o.frame o10'
      have T := to_tree hR hln
      have dl := T.ls.len
      obtain ⟨D, hD⟩ : ∃ D, D = (g.to lm).dist := ⟨_, rfl⟩
      have hpa : ∀ {K : Value → Prop}, K sd → pPart1 0 (.agg #[sd, sa, so]) K := fun hk => hk
      refine hpa ?_
      have o11 : Own h h10 (slR encBo 1 T_bool va al :: xR sl0 [] :: xR sd D :: B va sl0) := by rw [hD, hB]; exact o10.sel [3, 4, 0, 5, 6, 7, 8, 9, 10, 11, 12, 13] (by decide)
      clear o10 o10' o
      rw [← hD] at dl
      have drng : ∀ {u : Nat}, u < g.n → 0 ≤ dAt D u ∧ dAt D u ≤ far := fun hu => by rw [hD]; exact dAt_le_far T hu
      refine LoopH_count g.n (fun i y h' => y.1 = I i ∧ ∃ vp, Own h h' (slR encBo 1 T_bool va al :: xR vp ((List.range i).map fun u => landP D s t u) :: xR sd D :: B va vp)) ⟨rfl, sl0, o11⟩ ?_
      clear o11
      rintro i ⟨y, ⟨⟩⟩ h11 Z hi ⟨hy, vp, o⟩ hZ
      dsimp only at hy hZ ⊢
      subst hy
      unfold sh_milestonelaw14_Draft_ask_L3
      simp only [pField_ptr]
      rw [hB] at o
      refine o.load 4 rfl rfl ?_
      rw [pBin_lss, ifV_dec]
      refine ⟨fun hlt => ?_, fun hge => ?_⟩
      · have hlt : i < g.n := by omega
        have hcell : ∀ {u : Nat}, u < g.n → (∀ {K : Value → Prop}, (∀ bl of, hcell h11 ⟨bl, of, none⟩ = .some (I (dAt D u)) → K (.pointer (.some ⟨bl, of, none⟩))) → pIdx 1 sd (I u) K) := fun {u} hu {K} hk => (o.vw 2 rfl).idxI (by omega) fun bl of hc => hk bl of (by rw [hc, dAt_get (by omega)])
        refine hcell hlt fun b1 f1 c1 => pLoad_of rfl c1 (o.load 3 rfl rfl (hcell htn fun b2 f2 c2 => pLoad_of rfl c2 (o.load 3 rfl rfl (hcell hs fun b3 f3 c3 => pLoad_of rfl c3 (hcell hlt fun b4 f4 c4 => pLoad_of rfl c4 ?_)))))
        refine less14_ok (drng hlt) (drng htn) ⟨o.load 3 rfl rfl rfl, pLoad_of rfl c3 rfl, pLoad_of rfl c4 rfl, ?_⟩
        refine less14_ok (drng hs) (drng hlt) ?_
        have hlp : landP D s t i = landI (dAt D i) (dAt D s) (dAt D t) := rfl
        unfold landI at hlp
        have nxt : ∀ z vp' h', z = landP D s t i → Own h h' (slR encBo 1 T_bool va al :: xR vp' (((List.range i).map fun u => landP D s t u) ++ [z]) :: xR sd D :: B va vp') → sh_milestonelaw14_Draft_ask_k5 Tryz.prog (I i) (fun a0 hz => Z (a0, ()) hz) h' := fun z vp' h' hz o' => by
          unfold sh_milestonelaw14_Draft_ask_k5
          rw [pBin_add, wI i (by omega)]
          refine hZ (_, ()) h' hlt ⟨rfl, vp', ?_⟩
          rw [List.range_succ, List.map_append]
          rw [hz] at o'
          exact o'
        have app : ∀ z, z = landP D s t i → (pBuildSlice T_int64 (zerosL [(.int .i64 0)] 1) [(0, 1, I z)] 1 h11 fun t105 h_20 => pAppend T_int64 1 8 [(.int .i64 0)] vp t105 h_20 fun t106 h_21 => pStore 1 (.pointer (.some ⟨a6, 0 + 3, none⟩)) t106 h_21 fun u_3 h_22 => sh_milestonelaw14_Draft_ask_k5 Tryz.prog (I i) (fun a0 hz => Z (a0, ()) hz) h_22) := fun z hz => by
          refine o.app1 1 z rfl rfl (sizesOk_of rfl) encI_len encI_plain rfl (by decide) (by rw [List.length_map, List.length_range]; omega) fun vp2 h12 o12 => ?_
          refine o12.st1 3 rfl rfl rfl (o12.vw 1 rfl).one (o12.vw 1 rfl).plain fun h13 o13 => nxt z vp2 h13 hz ?_
          rw [hB]; exact o13
        rw [pBin_geq, ifV_dec]
        refine ⟨fun h1 => ?_, fun h1 => ?_⟩
        · unfold sh_milestonelaw14_Draft_ask_k4
          simp only [pField_ptr]
          refine o.load 3 rfl rfl (app far ?_)
          rw [hlp, if_pos (.inl (by rw [hfar]; exact h1))]
        · rw [pBin_geq, ifV_dec]
          refine ⟨fun h2 => ?_, fun h2 => ?_⟩
          · unfold sh_milestonelaw14_Draft_ask_k4
            simp only [pField_ptr]
            refine o.load 3 rfl rfl (app far ?_)
            rw [hlp, if_pos (.inr (by rw [hfar]; exact h2))]
          · refine o.load 3 rfl rfl ?_
            have l0 : ∀ a c : Int, 0 ≤ a → 0 ≤ c → 0 ≤ lessI a c := fun a c ha hc => by
              unfold lessI
              split
              · omega
              · split
                · decide
                · split <;> omega
            have b1 := l0 _ _ (drng hlt).1 (drng htn).1
            have b2 := l0 _ _ (drng hs).1 (drng hlt).1
            rw [pBin_sub, w64 (by omega) (by omega)]
            refine app _ ?_
            rw [hlp, if_neg fun h => h.elim (fun h => h1 h) (fun h => h2 h)]
      · have : i = g.n := by omega
        subst this
        refine fin al ((List.range g.n).map fun u => landP D s t u) va vp h11 hal (.inr (by rw [List.length_map, List.length_range])) (fun _ => ?_) (by rw [hB]; exact o.sel [0, 1, 3, 4, 5, 6, 7, 8, 9, 10, 11] (by decide))
        refine ⟨?_, fun z hz => by obtain ⟨u, _, rfl⟩ := List.mem_map.1 hz; exact landI_rng⟩
        refine land_feas (Q := ⟨g, s, t, al, (List.range g.n).map fun u => landP D s t u⟩) ⟨hR, hs, htn, hal, .inr (by rw [List.length_map, List.length_range])⟩ (d := D) (m := lm) (by rw [hD]; exact T.ls) fun u hu => ?_
        have hu : u < g.n := hu
        show ((List.range g.n).map fun u => landP D s t u).getD u 0 = landP D s t u
        simp [List.getD_eq_getElem?_getD, hu]
    | false =>
      rw [ifV_false]
      have o11 : Own h hh (slR encBo 1 T_bool va al :: xR sl0 [] :: B va sl0) := by rw [hB]; exact o
      clear o
      refine LoopH_count g.n (fun i y h' => y.1 = I i ∧ ∃ vp pi, (pi : List Int).length = i ∧ (pis.length = 0 → pi = []) ∧ Own h h' (slR encBo 1 T_bool va al :: xR vp pi :: B va vp)) ⟨rfl, sl0, [], rfl, fun _ => rfl, o11⟩ ?_
      clear o11
      rintro i ⟨y, ⟨⟩⟩ h11 Z hi ⟨hy, vp, pi, hpi, hpn, o⟩ hZ
      dsimp only at hy hZ ⊢
      subst hy
      unfold sh_milestonelaw14_Draft_ask_L6 sh_milestonelaw14_Draft_ask_k7
      simp only [pField_ptr]
      have oB := o
      rw [hB] at o
      have HP := Hpi.more o.ext
      refine o.load 3 rfl rfl ?_
      rw [pBin_lss, ifV_dec]
      refine ⟨fun hlt => ?_, fun hge => fin al pi va vp h11 hal (.inr (by omega)) (fun h => (by cases h)) oB⟩
      have hlt : i < g.n := by omega
      refine o.load 10 rfl rfl (HP.len ?_)
      rw [pBin_gtr, ifV_dec]
      refine ⟨fun hpp => ?_, fun hpp => ?_⟩
      · refine o.load 2 rfl rfl (o.load 10 rfl rfl (o.load 10 rfl rfl (HP.len ?_)))
        rw [pBin_rem]
        refine ⟨by omega, ?_⟩
        obtain ⟨q, hq⟩ : ∃ m : Nat, (i : Int).tmod pis.length = (m : Int) := Int.eq_ofNat_of_zero_le (Int.tmod_nonneg _ (by omega))
        have hq2 := Int.tmod_lt_of_pos (i : Int) (show (0 : Int) < pis.length by omega)
        rw [hq]
        refine HP.atI (by omega) ?_
        refine o.app1 1 _ rfl rfl (sizesOk_of rfl) encI_len encI_plain rfl (by decide) (by omega) fun vp2 h12 o12 => ?_
        refine o12.st1 2 rfl rfl rfl (o12.vw 1 rfl).one (o12.vw 1 rfl).plain fun h13 o13 => ?_
        rw [pBin_add, wI i (by omega)]
        exact hZ (_, ()) h13 hlt ⟨rfl, vp2, pi ++ [pis[q]'(by omega)], by rw [List.length_append, List.length_singleton, hpi], fun h => (by omega), by rw [hB]; exact o13⟩
      · have hp0 : pis.length = 0 := by omega
        have := hpn hp0
        subst this
        exact fin al [] va vp h11 hal (.inl rfl) (fun h => (by cases h)) oB
  -- which arcs
  refine LoopH_count g.arcs.length (fun i y h' => y.1 = I i ∧ ∃ va al, (al : List Bool).length = i ∧ (some = false → al = []) ∧ Own h h' (slR encBo 1 T_bool va al :: xR sl0 [] :: B va sl0)) ⟨rfl, sl0, [], rfl, fun _ => rfl, o10⟩ ?_
  clear o10
  rintro i ⟨y, ⟨⟩⟩ h11 Z hi ⟨hy, va, al, hal, hsm, o⟩ hZ
  dsimp only at hy hZ ⊢
  subst hy
  unfold sh_milestonelaw14_Draft_ask_L1
  simp only [pField_ptr]
  have oB := o
  rw [hB] at o
  refine o.load 3 rfl rfl ((o.vw 6 rfl).len ?_)
  rw [pBin_lss, ifV_dec]
  refine ⟨fun hlt => ?_, fun hge => k2 al va h11 (.inr (by omega)) oB⟩
  refine o.load 10 rfl rfl ?_
  cases some with
  | false => rw [ifV_false]; exact k2 al va h11 (.inl (hsm rfl)) oB
  | true =>
    rw [ifV_true]
    refine o.load 2 rfl rfl (o.load 10 rfl rfl ?_)
    rw [pBin_rem]
    refine ⟨by decide, ?_⟩
    refine ⟨Int.tmod_nonneg _ (by omega), ?_⟩
    refine ⟨rfl, ?_⟩
    show pBin .eql (.int .u64 _) (.int .u64 0) _
    rw [pBin_eql]
    generalize (_ == (0 : Int)) = bb
    refine o.app1 0 bb rfl rfl (sizesOk_of rfl) (fun _ => rfl) (fun _ u hu => by simp at hu; subst hu; rfl) rfl (by decide) (by omega) fun va2 h12 o12 => ?_
    refine o12.st1 2 rfl rfl rfl (o12.vw 0 rfl).one (o12.vw 0 rfl).plain fun h13 o13 => ?_
    rw [pBin_add, wI i (by omega)]
    exact hZ (_, ()) h13 (by omega) ⟨rfl, va2, al ++ [bb], by rw [List.length_append, List.length_singleton, hal], fun h => (by cases h), by rw [hB]; exact o13⟩

end
end Go.Proofs.YtkeoponidgpfpaaGreatDoor

namespace Go.Proofs.YtkeoponidgpfpaaGreatDoor
open Go Go.Mh
set_option linter.unusedVariables false

def gRow : G := ⟨4, [0, 0, 0, 0], [0, 0, 0, 0], [⟨0, 1, 2⟩, ⟨1, 2, 3⟩, ⟨2, 3, 2⟩, ⟨0, 3, 9⟩]⟩
theorem gRow_right : gRow.Right := ⟨by decide, by decide, rfl, rfl, by decide, by decide, by decide, by decide +kernel⟩

section
variable {h0 h : Heap} {L M : List Res} {K : Value → Heap → Prop} {Q : Qs} {r : Nat} {v w vl : Value}

theorem row14_ok (hK : ∀ wx wa h', Own h h' [aR wa gRow.arcs, xR wx [0, 0, 0, 0]] → K (.agg #[I 4, wx, wx, wa]) h') : callS Tryz.prog F_milestonelaw14_row [] h K := by
  refine callS_of (lk_milestonelaw14_row ?_)
  unfold sh_milestonelaw14_row
  refine (Own.start h).box fun t0 h1 o1 => o1.build (enc := encI) (n := 1) [0, 0, 0, 0] rfl (sizesOk_of rfl) rfl fun wx h2 o2 => ?_
  refine ⟨sizesOk_of rfl, sizesOk_of rfl, sizesOk_of rfl, sizesOk_of rfl, ?_⟩
  refine o2.build (enc := encA) (n := 3) gRow.arcs (by kernel_rfl) (sizesOk_of rfl) rfl fun wa h3 o3 => ?_
  have q1 := (o3.vw 1 rfl).one
  have q2 := (o3.vw 0 rfl).one
  have p1 := (o3.vw 1 rfl).plain
  have p2 := (o3.vw 0 rfl).plain
  refine pBuild_ones (cs' := [I 4, wx, wx, wa]) (fun p hp => by simp at hp; rcases hp with rfl | rfl | rfl | rfl <;> first | rfl | exact q1 | exact q2) rfl rfl ?_
  exact o3.st (cs' := [I 4, wx, wx, wa]) 2 rfl rfl rfl rfl rfl (by intro u hu; simp at hu; rcases hu with rfl | rfl | rfl <;> first | rfl | assumption) fun h4 o4 => o4.ldN (cs' := [I 4, wx, wx, wa]) 2 rfl rfl rfl (hK wx wa h4 (o4.sel [0, 1] (by decide)))

theorem finds14_ok {far2 : Int} {lar : List Nat} (hQ : Q.Ok) (HR : RawV h v Q.g) (HA : AskV h w Q) (Hl : Vw encI 1 h vl (nI lar)) (hl : lar.length < 2 ^ 40) (hres : ∀ d arcs evl, ResB Q d arcs evl → d = far2 ∧ arcs = lar) (hK : ∀ h', Ext h h' → K (.bool true) h') :
    callS Tryz.prog F_milestonelaw14_finds [v, w, I far2, vl] h K := by
  have HR0 := HR
  obtain ⟨vx, vy, vr, rfl, HR⟩ := HR
  have HA0 := HA
  obtain ⟨va, vp, rfl, Ha, Hp⟩ := HA
  refine callS_of (lk_milestonelaw14_finds _ _ _ _ ?_)
  unfold sh_milestonelaw14_finds
  refine (Own.start h).box fun g4 h1 o1 => o1.box fun a5 h2 o2 => ?_
  have o : Own h h2 [cellR a5 [I Q.s, I Q.t, va, vp] T_api_Ask, cellR g4 [I Q.g.n, vx, vy, vr] T_api_Raw] := o2
  clear o1 o2
  refine cutP_of (fun y h'' => ∃ f9 wa we evl, y.1 = ptr f9 ∧ y.2.1 = I 0 ∧ Own h h'' [cellR f9 [I far2, wa, we] T_api_Found, slR encI 1 T_int wa (nI lar), slR encE 4 T_api_Event we evl]) (fun J hJ => ?_) ?_
  · refine o.ldN (cs' := [I Q.g.n, vx, vy, vr]) 1 rfl rfl rfl (o.ldN (cs' := [I Q.s, I Q.t, va, vp]) 0 rfl rfl rfl ⟨?_, ?_⟩)
    · refine made14_ok o hQ.r (HR0.more o.ext) fun r N h3 hN o3 => ⟨o3.ldN (cs' := [I Q.s, I Q.t, va, vp]) 1 rfl rfl rfl rfl, ?_, ?_⟩
      · refine brunQ_ok hQ (hN _ (o3.get 0 rfl)) (HA0.more o3.ext) fun d arcs evl wa we h4 hr o4' => ?_
        have o4 := o3.frame o4'
        obtain ⟨rfl, rfl⟩ := hres d arcs evl hr
        simp only [pExt0, pExt1]
        have p1 := (o4.vw 0 rfl).plain
        have p2 := (o4.vw 1 rfl).plain
        refine o4.box fun f9 h5 o5 => o5.st (cs' := [I d, wa, we]) 0 rfl rfl rfl rfl rfl (by intro u hu; simp at hu; rcases hu with rfl | rfl | rfl <;> first | rfl | assumption) fun h6 o6 => ?_
        exact hJ _ _ ⟨f9, wa, we, evl, rfl, rfl, o6.sel [0, 1, 2] (by decide)⟩
      · refine o3.box fun f9 h5 o5 => ?_
        refine brunQ_ok hQ (hN _ (o5.get 1 rfl)) (HA0.more o5.ext) fun d arcs evl wa we h4 hr o4' => ?_
        have o4 := o5.frame o4'
        obtain ⟨rfl, rfl⟩ := hres d arcs evl hr
        simp only [pExt0, pExt1]
        have p1 := (o4.vw 0 rfl).plain
        have p2 := (o4.vw 1 rfl).plain
        refine o4.st (cs' := [I d, wa, we]) 2 rfl rfl rfl rfl rfl (by intro u hu; simp at hu; rcases hu with rfl | rfl | rfl <;> first | rfl | assumption) fun h6 o6 => ?_
        exact hJ _ _ ⟨f9, wa, we, evl, rfl, rfl, o6.sel [2, 0, 1] (by decide)⟩
    · refine o.box fun f9 h3 o3 => ?_
      refine made14_ok o3 hQ.r (HR0.more o3.ext) fun r N h4 hN o4 => ⟨o4.ldN (cs' := [I Q.s, I Q.t, va, vp]) 2 rfl rfl rfl rfl, ?_⟩
      refine brunQ_ok hQ (hN _ (o4.get 0 rfl)) (HA0.more o4.ext) fun d arcs evl wa we h5 hr o5' => ?_
      have o5 := o4.frame o5'
      obtain ⟨rfl, rfl⟩ := hres d arcs evl hr
      simp only [pExt0, pExt1]
      have p1 := (o5.vw 0 rfl).plain
      have p2 := (o5.vw 1 rfl).plain
      refine o5.st (cs' := [I d, wa, we]) 3 rfl rfl rfl rfl rfl (by intro u hu; simp at hu; rcases hu with rfl | rfl | rfl <;> first | rfl | assumption) fun h6 o6 => ?_
      exact hJ _ _ ⟨f9, wa, we, evl, rfl, rfl, o6.sel [3, 0, 1] (by decide)⟩
  · rintro ⟨y1, y2, ⟨⟩⟩ h6 ⟨f9, wa, we, evl, e1, e2, o6⟩
    dsimp only at e1 e2 ⊢
    subst e1 e2
    unfold sh_milestonelaw14_finds_C1 sh_milestonelaw14_finds_k2
    have HL := Hl.more o6.ext
    simp only [pField_ptr]
    rw [pBin_neq, show ((0 : Int) != 0) = false from rfl, ifV_false]
    refine o6.load 0 rfl rfl ?_
    rw [pBin_neq, bne_self_eq_false, ifV_false]
    refine o6.load 0 rfl rfl ((o6.vw 1 rfl).len (HL.len ?_))
    rw [pBin_neq, bne_self_eq_false, ifV_false]
    refine LoopH_count lar.length (fun i y h' => y.1 = I i ∧ h' = h6) ⟨rfl, rfl⟩ ?_
    rintro i ⟨y, ⟨⟩⟩ h7 Z hi ⟨hy, rfl⟩ hZ
    dsimp only at hy hZ ⊢
    subst hy
    unfold sh_milestonelaw14_finds_L3
    refine HL.len ?_
    rw [nI_len, pBin_lss, ifV_dec]
    refine ⟨fun hlt => ?_, fun _ => hK _ o6.ext⟩
    simp only [pField_ptr]
    have hlt' : i < (nI lar).length := by rw [nI_len]; omega
    refine o6.load 0 rfl rfl ((o6.vw 1 rfl).atI hlt' (HL.atI hlt' ?_))
    rw [pBin_neq, bne_self_eq_false, ifV_false, pBin_add, wI i (by omega)]
    exact hZ (_, ()) h7 (by omega) ⟨rfl, rfl⟩

theorem row_trails {arcs : List Nat} (h : Trail gRow.arcs 0 arcs 3) : arcs = [0, 1, 2] ∨ arcs = [3] := by
  have three : ∀ {l : List Nat}, Trail gRow.arcs 3 l 3 → l = [] := fun {l} h => by
    cases l with
    | nil => rfl
    | cons i l =>
      obtain ⟨hi, hf, _⟩ := h
      have hi : i < 4 := hi
      match i, hi, hf with
      | 0, _, hf => cases hf
      | 1, _, hf => cases hf
      | 2, _, hf => cases hf
      | 3, _, hf => cases hf
  have two : ∀ {l : List Nat}, Trail gRow.arcs 2 l 3 → l = [2] := fun {l} h => by
    cases l with
    | nil => cases h
    | cons i l =>
      obtain ⟨hi, hf, h⟩ := h
      have hi : i < 4 := hi
      match i, hi, hf, h with
      | 0, _, hf, _ => cases hf
      | 1, _, hf, _ => cases hf
      | 2, _, _, h => rw [three h]
      | 3, _, hf, _ => cases hf
  have one : ∀ {l : List Nat}, Trail gRow.arcs 1 l 3 → l = [1, 2] := fun {l} h => by
    cases l with
    | nil => cases h
    | cons i l =>
      obtain ⟨hi, hf, h⟩ := h
      have hi : i < 4 := hi
      match i, hi, hf, h with
      | 0, _, hf, _ => cases hf
      | 1, _, _, h => rw [two h]
      | 2, _, hf, _ => cases hf
      | 3, _, hf, _ => cases hf
  cases arcs with
  | nil => cases h
  | cons i l =>
    obtain ⟨hi, hf, h⟩ := h
    have hi : i < 4 := hi
    match i, hi, hf, h with
    | 0, _, _, h => rw [one h]; exact .inl rfl
    | 1, _, hf, _ => cases hf
    | 2, _, hf, _ => cases hf
    | 3, _, _, h => rw [three h]; exact .inr rfl

theorem rowF {al : List Bool} {pi : List Int} {d : Int} {l : List Nat} (hd : (Qs.mk gRow 0 3 al pi).fin.dist = d) (hf : d ≠ far) (h1 : tsum gRow.arcs [0, 1, 2] = d → l = [0, 1, 2]) (h2 : tsum gRow.arcs [3] = d → l = [3]) :
    ∀ d' arcs evl, ResB ⟨gRow, 0, 3, al, pi⟩ d' arcs evl → d' = d ∧ arcs = l := by
  rintro d' arcs evl (⟨e, _⟩ | ⟨_, e, hF, _⟩)
  · cases e
  · refine ⟨e.trans hd, ?_⟩
    rcases hF with ⟨h, _⟩ | ⟨_, ht, hs, _⟩
    · exact absurd (hd.symm.trans h) hf
    · rw [hd] at hs
      rcases row_trails ht with rfl | rfl
      · exact (h1 hs).symm
      · exact (h2 hs).symm

theorem works14_ok (hK : ∀ h', Ext h h' → K (.bool true) h') : callS Tryz.prog F_milestonelaw14_works [] h K := by
  refine callS_of (lk_milestonelaw14_works ?_)
  unfold sh_milestonelaw14_works
  refine row14_ok fun wx wa h1 o1 => ?_
  have q1 := (o1.vw 1 rfl).one
  have q2 := (o1.vw 0 rfl).one
  have p1 := (o1.vw 1 rfl).plain
  have p2 := (o1.vw 0 rfl).plain
  refine o1.box fun g1 h2 o2 => o2.st (cs' := [I 4, wx, wx, wa]) 0 rfl rfl rfl rfl rfl (by intro u hu; simp at hu; rcases hu with rfl | rfl | rfl <;> first | rfl | assumption) fun h3 o3 => ?_
  have RV : ∀ {hh : Heap}, Own h hh [cellR g1 [I 4, wx, wx, wa] T_api_Raw, aR wa gRow.arcs, xR wx [0, 0, 0, 0]] → RawV hh (.agg #[I 4, wx, wx, wa]) gRow := fun o => ⟨wx, wx, wa, rfl, o.vw 2 rfl, o.vw 2 rfl, o.vw 1 rfl⟩
  have o : Own h h3 [cellR g1 [I 4, wx, wx, wa] T_api_Raw, aR wa gRow.arcs, xR wx [0, 0, 0, 0]] := o3
  clear o1 o2 o3
  refine o.ldN (cs' := [I 4, wx, wx, wa]) 0 rfl rfl rfl ?_
  refine pBuild_ones (cs' := [I 0, I 3, sl0, sl0]) (fun p hp => by simp at hp; rcases hp with rfl; rfl) rfl rfl ?_
  refine o.build (enc := encI) (n := 1) (nI [0, 1, 2]) rfl (sizesOk_of rfl) rfl fun w5 h4 o4 => ?_
  refine finds14_ok (Q := ⟨gRow, 0, 3, [], []⟩) (lar := [0, 1, 2]) ⟨gRow_right, by decide, by decide, .inl rfl, .inl rfl⟩ (RV o4.tail) ⟨sl0, sl0, rfl, Vw.nil, Vw.nil⟩ (o4.vw 0 rfl) (by decide) (rowF (d := 7) (by kernel_rfl) (by decide) (fun _ => rfl) (fun h => absurd h (by decide))) fun h5 x5 => ?_
  replace o := o4.tail.more x5
  rw [ifV_true]
  refine o.ldN (cs' := [I 4, wx, wx, wa]) 0 rfl rfl rfl ?_
  refine o.build (enc := encBo) (n := 1) [true, false, true, true] rfl (sizesOk_of rfl) rfl fun w9 h6 o6 => ?_
  have q9 := (o6.vw 0 rfl).one
  refine pBuild_ones (cs' := [I 0, I 3, w9, sl0]) (fun p hp => by simp at hp; rcases hp with rfl | rfl <;> first | rfl | exact q9) rfl rfl ?_
  refine o6.build (enc := encI) (n := 1) (nI [3]) rfl (sizesOk_of rfl) rfl fun w5 h4 o4 => ?_
  refine finds14_ok (Q := ⟨gRow, 0, 3, [true, false, true, true], []⟩) (lar := [3]) ⟨gRow_right, by decide, by decide, .inr rfl, .inl rfl⟩ (RV o4.tail.tail) ⟨w9, sl0, rfl, o4.vw 1 rfl, Vw.nil⟩ (o4.vw 0 rfl) (by decide) (rowF (d := 9) (by kernel_rfl) (by decide) (fun h => absurd h (by decide)) (fun _ => rfl)) fun h5 x5 => ?_
  replace o := o4.tail.tail.more x5
  rw [ifV_true]
  refine o.ldN (cs' := [I 4, wx, wx, wa]) 0 rfl rfl rfl ?_
  refine pBuild_ones (cs' := [I 3, I 0, sl0, sl0]) (fun p hp => by simp at hp; rcases hp with rfl; rfl) rfl rfl ?_
  refine finds14_ok (Q := ⟨gRow, 3, 0, [], []⟩) (lar := []) ⟨gRow_right, by decide, by decide, .inl rfl, .inl rfl⟩ (RV o) ⟨sl0, sl0, rfl, Vw.nil, Vw.nil⟩ Vw.nil (by decide) (fun d arcs evl hr => ?_) fun h5 x5 => ?_
  · rcases hr with ⟨e, _⟩ | ⟨_, e, hF, _⟩
    · cases e
    · have hd : (Qs.mk gRow 3 0 [] []).fin.dist = far := by kernel_rfl
      refine ⟨e.trans hd, ?_⟩
      rcases hF with ⟨_, h⟩ | ⟨h, _⟩
      · exact h
      · exact absurd hd h
  replace o := o.more x5
  rw [ifV_true]
  refine o.ldN (cs' := [I 4, wx, wx, wa]) 0 rfl rfl rfl ?_
  refine pBuild_ones (cs' := [I 2, I 2, sl0, sl0]) (fun p hp => by simp at hp; rcases hp with rfl | rfl <;> rfl) rfl rfl ?_
  refine finds14_ok (Q := ⟨gRow, 2, 2, [], []⟩) (lar := []) ⟨gRow_right, by decide, by decide, .inl rfl, .inl rfl⟩ (RV o) ⟨sl0, sl0, rfl, Vw.nil, Vw.nil⟩ Vw.nil (by decide) (fun d arcs evl hr => ?_) fun h5 x5 => ?_
  · rcases hr with ⟨_, h1, h2, _⟩ | ⟨h, _⟩
    · exact ⟨h1, h2⟩
    · exact absurd rfl h
  replace o := o.more x5
  rw [ifV_true]
  refine o.ldN (cs' := [I 4, wx, wx, wa]) 0 rfl rfl rfl ?_
  refine o.build (enc := encI) (n := 1) [0, far, 0, 0] rfl (sizesOk_of rfl) rfl fun w9 h6 o6 => ?_
  have q9 := (o6.vw 0 rfl).one
  refine pBuild_ones (cs' := [I 0, I 3, sl0, w9]) (fun p hp => by simp at hp; rcases hp with rfl | rfl <;> first | rfl | exact q9) rfl rfl ?_
  refine o6.build (enc := encI) (n := 1) (nI [3]) rfl (sizesOk_of rfl) rfl fun w5 h4 o4 => ?_
  refine finds14_ok (Q := ⟨gRow, 0, 3, [], [0, far, 0, 0]⟩) (lar := [3]) ⟨gRow_right, by decide, by decide, .inl rfl, .inr rfl⟩ (RV o4.tail.tail) ⟨sl0, w9, rfl, Vw.nil, o4.vw 1 rfl⟩ (o4.vw 0 rfl) (by decide) (rowF (d := 9) (by kernel_rfl) (by decide) (fun h => absurd h (by decide)) (fun _ => rfl)) fun h5 x5 => ?_
  exact hK _ (o4.more x5).ext

end
end Go.Proofs.YtkeoponidgpfpaaGreatDoor

namespace Go.Proofs.YtkeoponidgpfpaaGreatDoor
open Go Go.Mh
set_option linter.unusedVariables false

section
variable {h0 h hb : Heap} {L : List Res} {K : Value → Heap → Prop} {g : G} {r : Nat} {e : Ev} {l : List Ev} {vl : Value}

theorem may1_ok {n1 : Nat} (H : NetR h r g) (cn : hcell h ⟨n1, 0, none⟩ = some (ptr r)) (hK : ∀ h', Ext h h' → K (.bool (mayE g.n g.arcs.length e)) h') :
    callV Tryz.prog (.func (.func F_trace_may_1) #[] #[ptr n1]) [.agg (encE e).toArray].toArray h K := by
  refine callV_of (l := [.agg (encE e).toArray, ptr n1]) rfl (lk_trace_may_1 _ _ ?_)
  unfold sh_trace_may_1
  refine (Own.start h).box fun e2 h1 o => ?_
  rw [encE_cells] at o
  refine cutP_of (fun y h' => y.1 = I (mostE g.n g.arcs.length e.kind) ∧ Own h h' [cellR e2 (encE e) T_api_Event]) (fun J hJ => ?_) ?_
  · simp only [pField_ptr]
    refine pLoad_of rfl (hcell_more o.ext cn) (pLoad_of rfl (hcell_more o.ext cn) (o.load 0 rfl rfl ?_))
    have f1 : ∀ x, x = I (mostE g.n g.arcs.length e.kind) → ∀ h', Own h h' [cellR e2 (encE e) T_api_Event] → J (x, ()) h' := fun x hx h' o => hJ _ _ ⟨hx, o⟩
    have v1 : ((fset (fset (fun _ => none) 0 (I g.n)) 1 (I g.arcs.length)) e.kind).getD (I 0) = I (mostE g.n g.arcs.length e.kind) := by
      unfold fset mostE
      by_cases h1 : e.kind = 1
      · simp [h1]
      · by_cases h0 : e.kind = 0
        · simp [h0]
        · simp [h1, h0]
    have v2 : ((fset (fset (fun _ => none) 1 (I g.arcs.length)) 0 (I g.n)) e.kind).getD (I 0) = I (mostE g.n g.arcs.length e.kind) := by
      unfold fset mostE
      by_cases h1 : e.kind = 1
      · simp [h1]
      · by_cases h0 : e.kind = 0
        · simp [h0]
        · simp [h1, h0]
    repeat' (first
      | with_reducible apply And.intro
      | (with_reducible show pMakeMap _ _); refine o.mkMap fun m hh o => ?_
      | (with_reducible show pMapSet _ _ _ _ _ _); refine o.mapPut (f' := fset _ _ _) 0 rfl (fun x => rfl) fun hh o => ?_
      | (with_reducible show callS _ F_net_Net_Nodes _ _ _); refine nodes_ok (H.more o.ext) ?_
      | (with_reducible show callS _ F_net_Net_Arcs _ _ _); refine arcs_ok (H.more o.ext) ?_
      | exact pLoad_of rfl (hcell_more o.ext cn) rfl
      | exact o.load 0 rfl rfl rfl
      | exact o.load 1 rfl rfl rfl
      | exact o.look 0 rfl (f1 _ v1 _ o.tail)
      | exact o.look 0 rfl (f1 _ v2 _ o.tail))
  · rintro ⟨y, ⟨⟩⟩ h2 ⟨hy, o⟩
    dsimp only at hy ⊢
    subst hy
    unfold sh_trace_may_1_C1
    simp only [pField_ptr]
    have fin : ∀ b : Bool, (b = true ↔ mayP g.n g.arcs.length e) → K (.bool b) h2 := fun b hb => by
      have : b = mayE g.n g.arcs.length e := by
        unfold mayE
        rw [Bool.eq_iff_iff, decide_eq_true_eq]; exact hb
      rw [this]; exact hK _ o.ext
    have ff : ¬ mayP g.n g.arcs.length e → K (.bool false) h2 := fun hn => fin false ⟨fun h => (by cases h), fun h => absurd h hn⟩
    refine o.load 0 rfl rfl ?_
    simp only [pBin_geq, ifV_dec]
    refine ⟨fun h1 => o.load 0 rfl rfl ?_, fun h1 => ff fun h => h1 h.1⟩
    simp only [pBin_lss, ifV_dec]
    refine ⟨fun h3 => o.load 0 rfl rfl ?_, fun h3 => ff fun h => h3 h.2.1⟩
    have tl : e.side = 0 ∨ e.side = 1 → (pLoad h2 (.pointer (some ⟨e2, 0, none⟩)) fun t35 => pBin .eql t35 (I 0) fun t36 => ifV t36 (K (.bool true) h2) (pLoad h2 (.pointer (some ⟨e2, 0 + 3, none⟩)) fun t39 => pBin .eql t39 (I 0) fun t40 => K t40 h2)) := fun hs => by
      refine o.load 0 rfl rfl ?_
      rw [pBin_eql]
      by_cases hk : e.kind = 0
      · rw [show (e.kind == 0) = true by simpa using hk, ifV_true]
        exact fin true ⟨fun _ => ⟨h1, h3, hs, .inl hk⟩, fun _ => rfl⟩
      · rw [show (e.kind == 0) = false by simpa using hk, ifV_false]
        refine o.load 0 rfl rfl ?_
        rw [pBin_eql]
        refine fin _ ?_
        rw [beq_iff_eq]
        exact ⟨fun h => ⟨h1, h3, hs, Or.inr h⟩, fun h => h.2.2.2.resolve_left hk⟩
    rw [pBin_eql]
    by_cases h0 : e.side = 0
    · rw [show (e.side == 0) = true by simpa using h0, ifV_true]
      exact tl (.inl h0)
    · rw [show (e.side == 0) = false by simpa using h0, ifV_false]
      refine o.load 0 rfl rfl ?_
      rw [pBin_eql]
      by_cases h1' : e.side = 1
      · rw [show (e.side == 1) = true by simpa using h1', ifV_true]
        exact tl (.inr h1')
      · rw [show (e.side == 1) = false by simpa using h1', ifV_false]
        exact ff fun h => by rcases h.2.2.1 with h | h
                             · exact h0 h
                             · exact h1' h

/-- The first of which a function holds. -/
theorem indexE_ok {f : Value} (Hl : Vw encE 4 hb vl l) (hll : l.length < 2 ^ 40) (J : Nat → Heap → Prop) (p : Nat → Bool) (j0 : J 0 h) (hJ : ∀ i h', J i h' → Ext hb h')
    (hf : ∀ i (hi : i < l.length) h' (K' : Value → Heap → Prop), J i h' → (∀ h'', Ext hb h'' → (p i = false → J (i + 1) h'') → K' (.bool (p i)) h'') → callV Tryz.prog f [.agg (encE l[i]).toArray].toArray h' K')
    (hK : ∀ r' h', Ext hb h' → Fst p l.length r' → K (I r') h') : callS Tryz.prog F_slices_IndexFunc_sl_api_Event_api_Event [vl, f] h K := by
  refine callS_of (lk_slices_IndexFunc_sl_api_Event_api_Event _ _ ?_)
  unfold sh_slices_IndexFunc_sl_api_Event_api_Event
  refine (Hl.more (hJ _ _ j0)).len ?_
  refine LoopH_count l.length (fun i x h' => x.1 = I i ∧ J i h' ∧ ∀ k, k < i → p k = false) ⟨rfl, j0, fun k hk => by omega⟩ ?_
  rintro i ⟨x, ⟨⟩⟩ h' Z hi ⟨hx, hj, hp⟩ hZ
  dsimp only at hx hZ ⊢
  subst hx
  unfold sh_slices_IndexFunc_sl_api_Event_api_Event_L1
  simp only [pBin_lss, ifV_dec]
  refine ⟨fun hlt => ?_, fun hge => ?_⟩
  · have hlt : i < l.length := by omega
    refine (Hl.more (hJ _ _ hj)).atN encE_len hlt ?_
    refine hf i hlt h' _ hj fun h2 x2 hj2 => ?_
    cases hpi : p i with
    | true => rw [ifV_true]; exact hK _ _ x2 (.inr ⟨i, rfl, hlt, hpi, hp⟩)
    | false =>
      rw [ifV_false, pBin_add, wI i (by omega)]
      exact hZ (I (i + 1 : Nat), ()) h2 hlt ⟨rfl, hj2 hpi, fun k hk => by
        rcases Nat.lt_succ_iff_lt_or_eq.1 hk with h | rfl
        · exact hp k h
        · exact hpi⟩
  · have : i = l.length := by omega
    subst this
    exact hK _ _ (hJ _ _ hj) (.inl ⟨rfl, hp⟩)

theorem containsE_ok {f : Value} (Hl : Vw encE 4 hb vl l) (hll : l.length < 2 ^ 40) (J : Nat → Heap → Prop) (p : Nat → Bool) (j0 : J 0 h) (hJ : ∀ i h', J i h' → Ext hb h')
    (hf : ∀ i (hi : i < l.length) h' (K' : Value → Heap → Prop), J i h' → (∀ h'', Ext hb h'' → (p i = false → J (i + 1) h'') → K' (.bool (p i)) h'') → callV Tryz.prog f [.agg (encE l[i]).toArray].toArray h' K')
    (hK : ∀ b h', Ext hb h' → (b = true ↔ ∃ k, k < l.length ∧ p k = true) → K (.bool b) h') : callS Tryz.prog F_slices_ContainsFunc_sl_api_Event_api_Event [vl, f] h K := by
  refine callS_of (lk_slices_ContainsFunc_sl_api_Event_api_Event _ _ ?_)
  unfold sh_slices_ContainsFunc_sl_api_Event_api_Event
  refine indexE_ok Hl hll J p j0 hJ hf fun r' h' x hr => ?_
  rw [pBin_geq]
  exact hK _ _ x hr.any

end
end Go.Proofs.YtkeoponidgpfpaaGreatDoor

namespace Go.Proofs.YtkeoponidgpfpaaGreatDoor
open Go Go.Mh
set_option linter.unusedVariables false

section
variable {h0 h hb : Heap} {L : List Res} {K : Value → Heap → Prop} {g : G} {r : Nat} {e : Ev} {l : List Ev} {vl : Value}

/-- How often each key was seen. -/
def CntM (f : Key3 → Option Value) (l : List Ev) : Prop := ∀ k, (k ∉ l.map Ev.key → f k = none) ∧ (k ∈ l.map Ev.key → ∃ c : Nat, f k = some (I c) ∧ 1 ≤ c ∧ c ≤ l.length)

theorem CntM.next {f : Key3 → Option Value} {l : List Ev} {e : Ev} (H : CntM f l) :
    ∃ c : Nat, (f e.key).getD (I 0) = I c ∧ c ≤ l.length ∧ (1 ≤ c ↔ e.key ∈ l.map Ev.key) ∧ CntM (KM.fset f e.key (I (c + 1 : Nat))) (l ++ [e]) := by
  have key : ∀ c : Nat, c ≤ l.length → CntM (KM.fset f e.key (I (c + 1 : Nat))) (l ++ [e]) := fun c hc k => by
    obtain ⟨h1, h2⟩ := H k
    unfold KM.fset
    by_cases hk : k = e.key
    · subst hk
      rw [if_pos rfl]
      exact ⟨fun h => absurd (by simp) h, fun _ => ⟨c + 1, rfl, by omega, by simp; omega⟩⟩
    · rw [if_neg hk]
      have : k ∈ (l ++ [e]).map Ev.key ↔ k ∈ l.map Ev.key := by simp [hk]
      rw [this]
      refine ⟨h1, fun h => ?_⟩
      obtain ⟨c', h3, h4, h5⟩ := h2 h
      exact ⟨c', h3, h4, by simp; omega⟩
  obtain ⟨h1, h2⟩ := H e.key
  by_cases hm : e.key ∈ l.map Ev.key
  · obtain ⟨c, h3, h4, h5⟩ := h2 hm
    exact ⟨c, by rw [h3]; rfl, h5, ⟨fun _ => hm, fun _ => h4⟩, key c h5⟩
  · exact ⟨0, by rw [h1 hm]; rfl, by omega, ⟨fun h => by omega, fun h => absurd h hm⟩, key 0 (by omega)⟩

/-- What is wrong at a place. -/
def badO (n m : Nat) (l : List Ev) (i : Nat) : Bool := match l[i]? with
  | some e => !mayE n m e || decide (e.key ∈ (l.take i).map Ev.key)
  | none => false

theorem badO_iff {n m : Nat} {l : List Ev} : (¬ ∃ k, k < l.length ∧ badO n m l k = true) ↔ OnceE n m l := by
  constructor
  · intro h i e he
    have hi : i < l.length := (List.getElem?_eq_some_iff.1 he).1
    have : badO n m l i ≠ true := fun hb => h ⟨i, hi, hb⟩
    unfold badO at this
    rw [he] at this
    simp at this
    exact ⟨this.1, by simpa using this.2⟩
  · rintro h ⟨k, hk, hb⟩
    have he : l[k]? = some l[k] := List.getElem?_eq_getElem hk
    obtain ⟨h1, h2⟩ := h k _ he
    unfold badO at hb
    rw [he] at hb
    simp only [h1, Bool.not_true, Bool.false_or, decide_eq_true_eq] at hb
    exact h2 hb

theorem once_ok (H : NetR h r g) (Hl : Vw encE 4 h vl l) (hll : l.length < 2 ^ 40) (hK : ∀ b h', Ext h h' → (b = true ↔ OnceE g.n g.arcs.length l) → K (.bool b) h') : callS Tryz.prog F_trace_Once [ptr r, vl] h K := by
  refine callS_of (lk_trace_Once _ _ ?_)
  unfold sh_trace_Once
  simp only [pEq_ptr_nil, Option.isNone_some, ifV_false]
  refine callS_of (lk_trace_may _ ?_)
  unfold sh_trace_may
  refine (Own.start h).box fun n1 h1 o1 => o1.box fun p5 h2 o2 => o2.st1 0 (cs' := [.func (.func F_trace_may_1) #[] #[ptr n1]]) rfl rfl rfl rfl rfl fun h3 o3 => ?_
  refine o3.kmk (Q3 3 T_int) fun m h4 o4 => o4.box fun p6 h5 o5 => o5.st1 0 (cs' := [.map (some m)]) rfl rfl rfl rfl rfl fun h6 o6 => ?_
  clear o5 o4 o3 o2 o1
  refine containsE_ok (hb := h) Hl hll (fun i h' => ∃ f, CntM f (l.take i) ∧ Own h h' [cellR p6 [.map (some m)] T_map_3_int_int, kmapR (Q3 3 T_int) m f, cellR p5 [.func (.func F_trace_may_1) #[] #[ptr n1]] T_func_api_Event_bool, cellR n1 [ptr r] T_p_net_Net])
    (badO g.n g.arcs.length l) ⟨_, fun k => ⟨fun _ => rfl, fun h => by simp at h⟩, o6⟩ (fun i h' ⟨_, _, o⟩ => o.ext) ?_ ?_
  · rintro i hi h' K' ⟨f, hc, o⟩ hK'
    have he : l[i]? = some l[i] := List.getElem?_eq_getElem hi
    have htk : l.take (i + 1) = l.take i ++ [l[i]] := List.take_succ_eq_append_getElem hi
    have hb : badO g.n g.arcs.length l i = (!mayE g.n g.arcs.length l[i] || decide (l[i].key ∈ (l.take i).map Ev.key)) := by unfold badO; rw [he]
    rw [htk] at hK'
    rw [hb] at hK'
    have htl : (l.take i).length < 2 ^ 40 := by rw [List.length_take]; omega
    generalize l[i] = e at hK'
    refine callV_of (l := [.agg (encE e).toArray, ptr p6, ptr p5]) rfl (lk_trace_Once_1 _ _ _ ?_)
    unfold sh_trace_Once_1
    refine o.box fun e3 h1 o1 => ?_
    rw [encE_cells] at o1
    simp only [pField_ptr]
    refine o1.load 0 rfl rfl (o1.load 0 rfl rfl (o1.load 0 rfl rfl ?_))
    refine pBuild_ones (cs' := [I e.kind, I e.side, I e.id]) (fun p hp => by simp at hp; rcases hp with rfl | rfl | rfl <;> rfl) rfl rfl ?_
    refine o1.box fun p7 h2 o2 => o2.st (cs' := [I e.kind, I e.side, I e.id]) 0 rfl rfl rfl rfl rfl (by intro u hu; simp at hu; rcases hu with rfl | rfl | rfl <;> rfl) fun h3 o3 => ?_
    refine o3.load 2 rfl rfl (o3.ldN (cs' := [I e.kind, I e.side, I e.id]) 0 rfl rfl rfl ?_)
    obtain ⟨c, c1, c2, c3, c4⟩ := hc.next (e := e)
    refine o3.klook (Q := Q3 3 T_int) (k := e.key) 3 rfl ?_
    rw [if_neg (by decide), c1, pBin_add, wI c (by omega)]
    refine o3.kentry (Q := Q3 3 T_int) (k := e.key) 3 rfl fun h4 s o4 hst => ⟨?_, ?_⟩
    · refine o4.klook (Q := Q3 3 T_int) (k := e.key) 3 rfl ?_
      rw [if_neg (by decide), ← c1]
      simp [KM.fset]
    · rw [pExt1]
      refine hst _ _ fun h5 o5 => ?_
      refine o5.load 4 rfl rfl (o5.ldN (cs' := encE e) 1 rfl rfl rfl ?_)
      have cn : hcell h5 ⟨n1, 0, none⟩ = some (ptr r) := hcell_of (o5.get 5 rfl) rfl
      refine may1_ok (H.more o5.ext) cn fun h6 x6 => ?_
      have o6 := o5.more x6
      rw [pUn_not]
      cases hmay : mayE g.n g.arcs.length e with
      | false =>
        rw [Bool.not_false, ifV_true]
        rw [hmay] at hK'
        exact hK' h6 o6.ext fun h => by simp at h
      | true =>
        rw [Bool.not_true, ifV_false]
        refine o6.load 2 rfl rfl (o6.ldN (cs' := [I e.kind, I e.side, I e.id]) 0 rfl rfl rfl ?_)
        refine o6.klook (Q := Q3 3 T_int) (k := e.key) 3 rfl ?_
        rw [if_neg (by decide)]
        have : ((KM.fset f e.key (I (c + 1 : Nat))) e.key).getD (I 0) = I (c + 1 : Nat) := by simp [KM.fset]
        rw [this, pBin_gtr]
        have e2 : decide ((1 : Int) < ((c + 1 : Nat) : Int)) = (!mayE g.n g.arcs.length e || decide (e.key ∈ (l.take i).map Ev.key)) := by
          rw [hmay, Bool.not_true, Bool.false_or]
          exact decide_eq_decide.2 ⟨fun h => c3.1 (by omega), fun h => by have := c3.2 h; omega⟩
        rw [e2]
        exact hK' h6 o6.ext fun _ => ⟨_, c4, o6.sel [2, 3, 4, 5] (by decide)⟩
  · intro b h' x hbi
    rw [pUn_not]
    refine hK _ _ x ?_
    rw [Bool.not_eq_true', ← badO_iff, ← hbi]
    simp

theorem onceN_ok (hK : K (.bool false) h) : callS Tryz.prog F_trace_Once [.pointer none, vl] h K := by
  refine callS_of (lk_trace_Once _ _ ?_)
  unfold sh_trace_Once
  simp only [pEq_ptr_nil, Option.isNone_none, ifV_true]
  exact hK

theorem ttail_ok (H : NetR h r g) (hm : mayE g.n g.arcs.length e = true) (hk : e.kind ≠ 0) (hK : ∀ h', Ext h h' → K (I (tailE g e)) h') : callS Tryz.prog F_trace_tail [ptr r, I e.id, I e.side] h K := by
  refine callS_of (lk_trace_tail _ _ _ ?_)
  unfold sh_trace_tail
  obtain ⟨m1, m2, m3, m4⟩ := of_decide_eq_true hm
  have hk1 : e.kind = 1 := by
    unfold mostE at m2
    rw [if_neg hk] at m2
    by_cases h1 : e.kind = 1
    · exact h1
    · rw [if_neg h1] at m2; omega
  have hid : e.id < g.arcs.length := by
    unfold mostE at m2
    rw [if_neg hk, if_pos hk1] at m2; exact m2
  obtain ⟨i, hi⟩ := Int.eq_ofNat_of_zero_le m1
  have hil : i < g.arcs.length := by omega
  have ht : tailE g e = if e.side = 1 then (g.arcs[i].t : Int) else (g.arcs[i].f : Int) := by
    unfold tailE
    rw [hi, Int.toNat_natCast, List.getElem?_eq_getElem hil]
  rw [hi]
  refine arc_ok H hil fun h1 x1 => ?_
  simp only [pExt0, pExt1]
  have o1 := (Own.start h).more x1
  refine o1.box fun b h2 o2 => o2.st 0 rfl rfl rfl rfl rfl (encA_plain _) fun h3 o3 => ?_
  simp only [pField_ptr]
  rw [pBin_eql]
  by_cases hs : e.side = 1
  · rw [show (e.side == 1) = true by simpa using hs, ifV_true]
    refine o3.load 0 rfl rfl ?_
    rw [if_pos hs] at ht
    rw [ht] at hK
    exact hK _ o3.ext
  · rw [show (e.side == 1) = false by simpa using hs, ifV_false]
    refine o3.load 0 rfl rfl ?_
    rw [if_neg hs] at ht
    rw [ht] at hK
    exact hK _ o3.ext

def badH (g : G) (l : List Ev) (i : Nat) : Bool := match l[i]? with
  | some e => !mayE g.n g.arcs.length e || decide (e.kind ≠ 0 ∧ lastE (l.take i) e.side ≠ tailE g e)
  | none => false

theorem badH_iff {l : List Ev} : (¬ ∃ k, k < l.length ∧ badH g l k = true) ↔ HeadsE g l := by
  constructor
  · intro h i e he
    have hi : i < l.length := (List.getElem?_eq_some_iff.1 he).1
    have : badH g l i ≠ true := fun hb => h ⟨i, hi, hb⟩
    unfold badH at this
    rw [he] at this
    have this := Bool.eq_false_iff.2 this
    simp only [Bool.or_eq_false_iff, Bool.not_eq_false', decide_eq_false_iff_not] at this
    exact ⟨this.1, fun hk => Decidable.not_not.1 fun hn => this.2 ⟨hk, hn⟩⟩
  · rintro h ⟨k, hk, hb⟩
    have he : l[k]? = some l[k] := List.getElem?_eq_getElem hk
    obtain ⟨h1, h2⟩ := h k _ he
    unfold badH at hb
    rw [he] at hb
    simp only [h1, Bool.not_true, Bool.false_or, decide_eq_true_eq] at hb
    exact hb.2 (h2 hb.1)

theorem heads_ok (H : NetR h r g) (Hl : Vw encE 4 h vl l) (hll : l.length < 2 ^ 40) (hK : ∀ b h', Ext h h' → (b = true ↔ HeadsE g l) → K (.bool b) h') : callS Tryz.prog F_trace_Heads [ptr r, vl] h K := by
  refine callS_of (lk_trace_Heads _ _ ?_)
  unfold sh_trace_Heads
  refine (Own.start h).box fun n2 h1 o1 => o1.load 0 rfl rfl ?_
  simp only [pEq_ptr_nil, Option.isNone_some, ifV_false]
  refine o1.load 0 rfl rfl ?_
  refine callS_of (lk_trace_may _ ?_)
  unfold sh_trace_may
  refine o1.box fun n1 h2 o2 => o2.box fun p5 h3 o3 => o3.st1 0 (cs' := [.func (.func F_trace_may_1) #[] #[ptr n1]]) rfl rfl rfl rfl rfl fun h4 o4 => ?_
  refine pBuild_ones (cs' := [I (-1), I (-1)]) (fun p hp => by simp at hp; rcases hp with rfl | rfl <;> rfl) rfl rfl ?_
  refine o4.box fun p6 h5 o5 => o5.st (cs' := [I (-1), I (-1)]) 0 rfl rfl rfl rfl rfl (by intro u hu; simp at hu; rcases hu with rfl | rfl <;> rfl) fun h6 o6 => ?_
  clear o5 o4 o3 o2 o1
  refine containsE_ok (hb := h) Hl hll (fun i h' => Own h h' [cellR p6 [I (lastE (l.take i) 0), I (lastE (l.take i) 1)] T_2_int, cellR p5 [.func (.func F_trace_may_1) #[] #[ptr n1]] T_func_api_Event_bool, cellR n1 [ptr r] T_p_net_Net, cellR n2 [ptr r] T_p_net_Net])
    (badH g l) o6 (fun i h' o => o.ext) ?_ ?_
  · intro i hi h' K' o hK'
    have he : l[i]? = some l[i] := List.getElem?_eq_getElem hi
    have htk : l.take (i + 1) = l.take i ++ [l[i]] := List.take_succ_eq_append_getElem hi
    have hb : badH g l i = (!mayE g.n g.arcs.length l[i] || decide (l[i].kind ≠ 0 ∧ lastE (l.take i) l[i].side ≠ tailE g l[i])) := by unfold badH; rw [he]
    rw [htk, hb, lastE_snoc, lastE_snoc] at hK'
    generalize l[i] = e at hK'
    generalize l.take i = lt at hK' o
    refine callV_of (l := [.agg (encE e).toArray, ptr p5, ptr p6, ptr n2]) rfl (lk_trace_Heads_1 _ _ _ _ ?_)
    unfold sh_trace_Heads_1
    refine o.box fun e4 h1 o1 => ?_
    rw [encE_cells] at o1
    refine o1.load 2 rfl rfl (o1.ldN (cs' := encE e) 0 rfl rfl rfl ?_)
    have cn : hcell h1 ⟨n1, 0, none⟩ = some (ptr r) := hcell_of (o1.get 3 rfl) rfl
    refine may1_ok (H.more o1.ext) cn fun h2 x2 => ?_
    have o2 := o1.more x2
    rw [pUn_not]
    cases hmay : mayE g.n g.arcs.length e with
    | false =>
      rw [Bool.not_false, ifV_true]
      rw [hmay] at hK'
      exact hK' h2 o2.ext fun h => by simp at h
    | true =>
      rw [Bool.not_true, ifV_false]
      rw [hmay, Bool.not_true, Bool.false_or] at hK'
      obtain ⟨m1, m2, m3, m4⟩ := of_decide_eq_true hmay
      simp only [pField_ptr]
      refine o2.load 0 rfl rfl ?_
      rw [pBin_eql]
      by_cases hk : e.kind = 0
      · rw [show (e.kind == 0) = true by simpa using hk, ifV_true]
        refine o2.load 0 rfl rfl (o2.load 0 rfl rfl ?_)
        rw [decide_eq_false (fun h => h.1 hk)] at hK'
        rw [pIdxA_ptr]
        refine ⟨by omega, ?_⟩
        rcases m3 with hs | hs
        · rw [hs] at hK' ⊢
          rw [if_pos ⟨hk, rfl⟩, if_neg (by rintro ⟨_, h⟩; cases h)] at hK'
          refine o2.st1 1 (cs' := [I e.id, I (lastE lt 1)]) rfl rfl rfl rfl rfl fun h3 o3 => ?_
          exact hK' h3 o3.ext fun _ => o3.sel [1, 2, 3, 4] (by decide)
        · rw [hs] at hK' ⊢
          rw [if_neg (by rintro ⟨_, h⟩; cases h), if_pos ⟨hk, rfl⟩] at hK'
          refine o2.st1 1 (cs' := [I (lastE lt 0), I e.id]) rfl rfl rfl rfl rfl fun h3 o3 => ?_
          exact hK' h3 o3.ext fun _ => o3.sel [1, 2, 3, 4] (by decide)
      · rw [show (e.kind == 0) = false by simpa using hk, ifV_false]
        refine o2.load 0 rfl rfl ?_
        rw [pIdxA_ptr]
        refine ⟨by omega, ?_⟩
        have ld : ∀ {hh : Heap} {K2 : Value → Prop}, Own h hh [cellR e4 (encE e) T_api_Event, cellR p6 [I (lastE lt 0), I (lastE lt 1)] T_2_int, cellR p5 [.func (.func F_trace_may_1) #[] #[ptr n1]] T_func_api_Event_bool, cellR n1 [ptr r] T_p_net_Net, cellR n2 [ptr r] T_p_net_Net] →
            K2 (I (lastE lt e.side)) → pLoad hh (.pointer (some ⟨p6, 0 + e.side.toNat * 1, none⟩)) K2 := fun o hk2 => by
          rcases m3 with hs | hs
          · rw [hs] at hk2 ⊢; exact o.load 1 rfl rfl hk2
          · rw [hs] at hk2 ⊢; exact o.load 1 rfl rfl hk2
        refine ld o2 (o2.load 4 rfl rfl (o2.load 0 rfl rfl (o2.load 0 rfl rfl ?_)))
        refine ttail_ok (H.more o2.ext) hmay hk fun h3 x3 => ?_
        have o3 := o2.more x3
        refine ⟨o3.load 0 rfl rfl rfl, ld o3 rfl, ?_⟩
        rw [pBin_neq]
        have e1 : (lastE lt e.side != tailE g e) = decide (e.kind ≠ 0 ∧ lastE lt e.side ≠ tailE g e) := by
          rw [Bool.eq_iff_iff, bne_iff_ne, decide_eq_true_eq]
          exact ⟨fun h => ⟨hk, h⟩, fun h => h.2⟩
        rw [e1]
        rw [if_neg (fun h => hk h.1), if_neg (fun h => hk h.1)] at hK'
        exact hK' h3 o3.ext fun _ => o3.tail
  · intro b h' x hbi
    rw [pUn_not]
    refine hK _ _ x ?_
    rw [Bool.not_eq_true', ← badH_iff, ← hbi]
    simp

theorem headsN_ok (hK : ∀ h', Ext h h' → K (.bool false) h') : callS Tryz.prog F_trace_Heads [.pointer none, vl] h K := by
  refine callS_of (lk_trace_Heads _ _ ?_)
  unfold sh_trace_Heads
  refine (Own.start h).box fun n2 h1 o1 => o1.load 0 rfl rfl ?_
  simp only [pEq_ptr_nil, Option.isNone_none, ifV_true]
  exact hK _ o1.ext

end
end Go.Proofs.YtkeoponidgpfpaaGreatDoor

namespace Go.Proofs.YtkeoponidgpfpaaGreatDoor
open Go Go.Mh
set_option linter.unusedVariables false

section
variable {h0 h hb : Heap} {L : List Res} {K : Value → Heap → Prop} {g : G} {r : Nat} {e : Ev} {l : List Ev} {vl : Value} {k s : Int}

theorem of_iter {l3 k4 s5 : Nat} {T1 T2 T3 : TypeId} (hll : l.length < 2 ^ 40) :
    IterG Tryz.prog (.func (.func F_trace_of_1) #[] #[ptr l3, ptr k4, ptr s5])
      (fun h => h[l3]? = some (.cells #[vl] T1 (0, 0)) ∧ h[k4]? = some (.cells #[I k] T2 (0, 0)) ∧ h[s5]? = some (.cells #[I s] T3 (0, 0)) ∧ Vw encE 4 h vl l) (σ := Nat)
      0 (NextE k s l) (fun i => GapE k s l i l.length) := by
  rintro yv h0 h Rs K J E ⟨w, rfl⟩ o j0 hQ hY hK
  refine callF_of (l := [yieldV w, ptr l3, ptr k4, ptr s5]) rfl (lk_trace_of_1 _ _ _ _ ?_)
  unfold sh_trace_of_1
  obtain ⟨hb, _, _, hv⟩ := hQ _ _ _ j0 o
  have hc : hcell h ⟨l3, 0, none⟩ = some vl := hcell_of hb rfl
  refine pLoad_of rfl hc (hv.len ?_)
  refine LoopH_count l.length (fun q x h' => x.1 = I q ∧ ∃ i Rs', i ≤ q ∧ GapE k s l i q ∧ J i Rs' ∧ Own h0 h' Rs') ⟨rfl, 0, Rs, Nat.le_refl _, fun q e h1 h2 => by omega, j0, o⟩ ?_
  clear j0 o hb hc hv
  rintro q ⟨x, ⟨⟩⟩ h Z hq ⟨hx, i, Rs', hiq, hg, hj, o⟩ hZ
  dsimp only at hx hZ ⊢
  subst hx
  unfold sh_trace_of_1_L1
  simp only [pBin_lss, ifV_dec]
  refine ⟨fun hlt => ?_, fun hge => ?_⟩
  · have hlt : q < l.length := by omega
    obtain ⟨_, hk, hs, hv⟩ := hQ _ _ _ hj o
    have hq2 : l[q]? = some l[q] := List.getElem?_eq_getElem hlt
    refine hv.atN encE_len hlt ?_
    generalize l[q] = e at hq2
    refine o.box fun e6 h1 o1 => o1.st (cs' := encE e) 0 rfl rfl rfl rfl rfl (encE_plain e) fun h2 o2 => ?_
    obtain ⟨_, hk2, hs2, _⟩ := hQ _ _ _ hj o2.tail
    have ck : hcell h2 ⟨k4, 0, none⟩ = some (I k) := hcell_of hk2 rfl
    have cs : hcell h2 ⟨s5, 0, none⟩ = some (I s) := hcell_of hs2 rfl
    have skip : isE k s e = false → sh_trace_of_1_k2 Tryz.prog (I q) (fun a0 hz => Z (a0, ()) hz) h2 := fun he => by
      unfold sh_trace_of_1_k2
      rw [pBin_add, wI q (by omega)]
      refine hZ (I (q + 1 : Nat), ()) h2 hlt ⟨rfl, i, Rs', by omega, fun q' e' h1 h2 h3 => ?_, hj, o2.tail⟩
      rcases Nat.lt_succ_iff_lt_or_eq.1 h2 with h | rfl
      · exact hg q' e' h1 h h3
      · rw [hq2] at h3
        obtain rfl := Option.some.inj h3
        exact he
    simp only [pField_ptr]
    refine o2.load 0 rfl rfl (pLoad_of rfl ck ?_)
    rw [pBin_eql]
    by_cases e1 : e.kind = k
    · rw [show (e.kind == k) = true by simpa using e1, ifV_true]
      refine o2.load 0 rfl rfl (pLoad_of rfl cs ?_)
      rw [pBin_eql]
      by_cases e2 : e.side = s
      · rw [show (e.side == s) = true by simpa using e2, ifV_true]
        have he : isE k s e = true := decide_eq_true ⟨e1, e2⟩
        refine o2.ldN (cs' := encE e) 0 rfl rfl rfl ?_
        refine hY i _ (q + 1) Rs' [] h2 _ ⟨q, e, hq2, hiq, he, hg, rfl, rfl⟩ hj o2.tail.nilTail (fun Rs'' h'' hj' o' => ?_) fun Rs'' h'' he o' => ?_
        · rw [pUn_not, Bool.not_true, ifV_false]
          unfold sh_trace_of_1_k2
          rw [pBin_add, wI q (by omega)]
          exact hZ (I (q + 1 : Nat), ()) h'' hlt ⟨rfl, q + 1, Rs'', Nat.le_refl _, fun q e h1 h2 => by omega, hj', o'.toNil⟩
        · rw [pUn_not, Bool.not_false, ifV_true]
          exact hK _ _ (.inr he) o'.toNil
      · rw [show (e.side == s) = false by simpa using e2, ifV_false]
        exact skip (decide_eq_false fun h => e2 h.2)
    · rw [show (e.kind == k) = false by simpa using e1, ifV_false]
      exact skip (decide_eq_false fun h => e1 h.1)
  · have : q = l.length := by omega
    subst this
    exact hK _ _ (.inl ⟨i, hg, hj⟩) o

theorem told_ok (o : Own h0 h L) (Hl : Vw encE 4 h vl l) (hll : l.length < 2 ^ 40) (hK : ∀ w h', Own h0 h' (slR encI 1 T_int w (ofE k s l) :: L) → K w h') :
    callS Tryz.prog F_trace_of [vl, I k, I s] h fun t7 h_1 => callS Tryz.prog F_trace_told_int [t7, (.func (.func F_trace_id) #[] #[])] h_1 fun t8 h_2 => K t8 h_2 := by
  refine callS_of (lk_trace_of _ _ _ ?_)
  unfold sh_trace_of
  refine (Own.start h).box fun l3 h1 o1 => o1.box fun k4 h2 o2 => o2.box fun s5 h3 o3 => ?_
  rw [show (Value.cells vl).toList = [vl] by rw [Hl.one]] at o3
  refine callS_of (lk_trace_told_int _ _ ?_)
  unfold sh_trace_told_int
  refine o3.box fun t3 h4 o4 => o4.box fun p4 h5 o5 => ?_
  have o6 : Own h h5 [slR encI 1 T_int (.slice none 0 0) (ofE k s (l.take 0)), cellR p4 [.slice none 0 0] T_sl_int, cellR t3 [.func (.func F_trace_id) #[] #[]] T_func_api_Event_int, cellR s5 [I s] T_int, cellR k4 [I k] T_int, cellR l3 [vl] T_sl_api_Event] :=
    (o5.nilS (enc := encI) (n := 1) (T := T_int)).sel [0, 1, 2, 3, 4, 5] (by decide)
  clear o5 o4 o3 o2 o1
  refine o6.range (of_iter (l := l) (vl := vl) (k := k) (s := s) (T1 := T_sl_api_Event) (T2 := T_int) (T3 := T_int) hll) (by rintro i x i' ⟨j, e, _, _, _, _, rfl, _⟩; rfl)
    (fun i Rs => ∃ w, Rs = [slR encI 1 T_int w (ofE k s (l.take i)), cellR p4 [w] T_sl_int, cellR t3 [.func (.func F_trace_id) #[] #[]] T_func_api_Event_int, cellR s5 [I s] T_int, cellR k4 [I k] T_int, cellR l3 [vl] T_sl_api_Event])
    (fun _ => False) (fun _ _ => False) ⟨_, rfl⟩ ?_ ?_ ?_ (fun _ _ h => h.elim) (fun _ _ _ h => h.elim)
  · rintro i Rs' h' ⟨w, rfl⟩ o'
    exact ⟨o'.get 5 rfl, o'.get 4 rfl, o'.get 3 rfl, Hl.more o'.ext⟩
  · rintro M i x i' Rs' Pr h' R ⟨j, e, hj, hij, he, hg, rfl, rfl⟩ ⟨w, rfl⟩ o' hN _ _
    dsimp only [valsOf]
    unfold sh_trace_told_int_B1
    have hjl : j < l.length := (List.getElem?_eq_some_iff.1 hj).1
    have hofl : (ofE k s (l.take i)).length < 2 ^ 40 := by
      unfold ofE
      rw [List.length_map]
      have h1 := List.length_filter_le (isE k s) (l.take i)
      rw [List.length_take] at h1
      omega
    have eof : ofE k s (l.take (j + 1)) = ofE k s (l.take i) ++ [e.id] := by
      unfold ofE
      rw [next_filter hj hij he hg, List.map_append]; rfl
    refine o'.box fun e6 h7 o7 => o7.st (cs' := encE e) 0 rfl rfl rfl rfl rfl (encE_plain e) fun h8 o8 => ?_
    refine o8.begin 1 rfl fun h9 o9 => ?_
    have o9 : Own h h9 (cellR e6 (encE e) T_api_Event :: loopR _ _ :: markR _ :: slR encI 1 T_int w (ofE k s (l.take i)) :: cellR p4 [w] T_sl_int :: cellR t3 [.func (.func F_trace_id) #[] #[]] T_func_api_Event_int :: cellR s5 [I s] T_int :: cellR k4 [I k] T_int :: cellR l3 [vl] T_sl_api_Event :: Pr) := o9
    refine o9.load 4 rfl rfl (o9.load 5 rfl rfl (o9.ldN (cs' := encE e) 0 rfl rfl rfl ?_))
    refine callV_of (l := [.agg (encE e).toArray]) rfl (lk_trace_id _ ?_)
    unfold sh_trace_id
    refine (Own.start h9).box fun e1 h10 o10 => ?_
    rw [encE_cells] at o10
    simp only [pField_ptr]
    refine o10.load 0 rfl rfl ?_
    have o11 := o9.more o10.ext
    refine ⟨o11.load 4 rfl rfl rfl, ?_⟩
    refine o11.app1 3 e.id rfl rfl (sizesOk_of rfl) encI_len encI_plain rfl (by decide) (by omega) fun w' h12 o12 => ?_
    rw [← eof] at o12
    have hv' := o12.vw 3 rfl
    refine o12.st1 4 (cs' := [w']) rfl rfl rfl hv'.one hv'.plain fun h13 o13 => ?_
    exact hN _ h13 ⟨w', rfl⟩ o13.tail
  · rintro i h' Rs' hgap ⟨w, rfl⟩ o'
    have eo : ofE k s (l.take i) = ofE k s l := by
      unfold ofE
      by_cases hil : i ≤ l.length
      · rw [← gap_of hil hgap, List.take_length]
      · rw [List.take_of_length_le (by omega)]
    rw [eo] at o'
    have hv := o'.vw 1 rfl
    refine o'.load 2 rfl rfl (o'.st1 2 (cs' := [w]) rfl rfl rfl hv.one hv.plain fun h9 o9 => o9.take1 0 rfl fun h10 o10 => o10.load 2 rfl rfl ?_)
    exact hK w h10 (o.frame (o10.sel [1] (by decide)))

theorem pops_ok (o : Own h0 h L) (Hl : Vw encE 4 h vl l) (hll : l.length < 2 ^ 40) (hK : ∀ w h', Own h0 h' (slR encI 1 T_int w (ofE 0 s l) :: L) → K w h') : callS Tryz.prog F_trace_Pops [vl, I s] h K := by
  refine callS_of (lk_trace_Pops _ _ ?_)
  exact told_ok o Hl hll hK

theorem scans_ok (o : Own h0 h L) (Hl : Vw encE 4 h vl l) (hll : l.length < 2 ^ 40) (hK : ∀ w h', Own h0 h' (slR encI 1 T_int w (ofE 1 s l) :: L) → K w h') : callS Tryz.prog F_trace_Scans [vl, I s] h K := by
  refine callS_of (lk_trace_Scans _ _ ?_)
  exact told_ok o Hl hll hK

def labV (x : Option Int) : Value := match x with
  | some a => .tuple #[I a, .bool true]
  | none => .tuple #[I 0, .bool false]

theorem label_ok {v : Int} (Hl : Vw encE 4 h vl l) (hll : l.length < 2 ^ 40) (hK : ∀ h', Ext h h' → K (labV (labE l s v)) h') : callS Tryz.prog F_trace_Label [vl, I s, I v] h K := by
  refine callS_of (lk_trace_Label _ _ _ ?_)
  unfold sh_trace_Label
  refine (Own.start h).box fun v5 h1 o1 => o1.box fun p6 h2 o2 => o2.box fun p7 h3 o3 => ?_
  refine callS_of (lk_trace_of _ _ _ ?_)
  unfold sh_trace_of
  refine o3.box fun l3 h4 o4 => o4.box fun k4 h5 o5 => o5.box fun s5 h6 o6 => ?_
  rw [show (Value.cells vl).toList = [vl] by rw [Hl.one]] at o6
  have o6 : Own h h6 [cellR s5 [I s] T_int, cellR k4 [I 0] T_int, cellR l3 [vl] T_sl_api_Event, cellR p7 [.bool false] T_bool, cellR p6 [I 0] T_int64, cellR v5 [I v] T_int] := o6
  clear o5 o4 o3 o2 o1
  refine o6.range (of_iter (l := l) (vl := vl) (k := 0) (s := s) (T1 := T_sl_api_Event) (T2 := T_int) (T3 := T_int) hll) (by rintro i x i' ⟨j, e, _, _, _, _, rfl, _⟩; rfl)
    (fun i Rs => (∀ e ∈ (l.take i).filter (isE 0 s), e.id ≠ v) ∧ Rs = [cellR s5 [I s] T_int, cellR k4 [I 0] T_int, cellR l3 [vl] T_sl_api_Event, cellR p7 [.bool false] T_bool, cellR p6 [I 0] T_int64, cellR v5 [I v] T_int])
    (fun Rs => ∃ a, labE l s v = some a ∧ Rs = [cellR s5 [I s] T_int, cellR k4 [I 0] T_int, cellR l3 [vl] T_sl_api_Event, cellR p7 [.bool true] T_bool, cellR p6 [I a] T_int64, cellR v5 [I v] T_int]) (fun _ _ => False) ⟨by simp, rfl⟩ ?_ ?_ ?_ ?_ (fun _ _ _ h => h.elim)
  · rintro i Rs' h' ⟨_, rfl⟩ o'
    exact ⟨o'.get 2 rfl, o'.get 1 rfl, o'.get 0 rfl, Hl.more o'.ext⟩
  · rintro M i x i' Rs' Pr h' R ⟨j, e, hj, hij, he, hg, rfl, rfl⟩ ⟨hno, rfl⟩ o' hN hE _
    dsimp only [valsOf]
    unfold sh_trace_Label_B1
    have hnf := next_filter hj hij he hg
    refine o'.box fun e6 h7 o7 => o7.st (cs' := encE e) 0 rfl rfl rfl rfl rfl (encE_plain e) fun h8 o8 => ?_
    refine o8.begin 1 rfl fun h9 o9 => ?_
    have o9 : Own h h9 (cellR e6 (encE e) T_api_Event :: loopR _ _ :: markR _ :: cellR s5 [I s] T_int :: cellR k4 [I 0] T_int :: cellR l3 [vl] T_sl_api_Event :: cellR p7 [.bool false] T_bool :: cellR p6 [I 0] T_int64 :: cellR v5 [I v] T_int :: Pr) := o9
    simp only [pField_ptr]
    refine o9.load 0 rfl rfl (o9.load 8 rfl rfl ?_)
    rw [pBin_eql]
    by_cases ev : e.id = v
    · rw [show (e.id == v) = true by simpa using ev, ifV_true]
      refine o9.load 0 rfl rfl (o9.st1 7 (cs' := [I e.label]) rfl rfl rfl rfl rfl fun h10 o10 => o10.st1 6 (cs' := [.bool true]) rfl rfl rfl rfl rfl fun h11 o11 => ?_)
      refine hE _ h11 ⟨e.label, ?_, rfl⟩ o11.tail
      unfold labE
      have hsplit : l.filter (isE 0 s) = ((l.take i).filter (isE 0 s) ++ [e]) ++ (l.drop (j + 1)).filter (isE 0 s) := by
        rw [← hnf, ← List.filter_append, List.take_append_drop]
      have hnone : ((l.take i).filter (isE 0 s)).find? (fun e => e.id == v) = none := by
        rw [List.find?_eq_none]
        intro x hx
        simpa using hno x hx
      rw [hsplit, List.append_assoc, List.find?_append, hnone]
      simp [ev]
    · rw [show (e.id == v) = false by simpa using ev, ifV_false]
      refine hN _ h9 ⟨fun x hx => ?_, rfl⟩ o9.tail
      rw [hnf] at hx
      rcases List.mem_append.1 hx with hx | hx
      · exact hno x hx
      · rw [List.mem_singleton.1 hx]; exact ev
  · rintro i h' Rs' hgap ⟨hno, rfl⟩ o'
    have en : labE l s v = none := by
      have eo : l.filter (isE 0 s) = (l.take i).filter (isE 0 s) := by
        by_cases hil : i ≤ l.length
        · rw [← gap_of hil hgap, List.take_length]
        · rw [List.take_of_length_le (by omega)]
      unfold labE
      rw [eo]
      have : ((l.take i).filter (isE 0 s)).find? (fun e => e.id == v) = none := by
        rw [List.find?_eq_none]
        intro x hx
        simpa using hno x hx
      rw [this]; rfl
    rw [en] at hK
    refine o'.st1 5 (cs' := [I 0]) rfl rfl rfl rfl rfl fun h8 o8 => o8.st1 4 (cs' := [.bool false]) rfl rfl rfl rfl rfl fun h9 o9 => o9.take1 0 rfl fun h10 o10 => o10.load 5 rfl rfl (o10.load 4 rfl rfl ?_)
    exact hK h10 o10.ext
  · rintro h' Rs' ⟨a, ea, rfl⟩ o'
    rw [ea] at hK
    refine o'.take1 0 rfl fun h10 o10 => o10.load 5 rfl rfl (o10.load 4 rfl rfl ?_)
    exact hK h10 o10.ext

end
end Go.Proofs.YtkeoponidgpfpaaGreatDoor

namespace Go.Proofs.YtkeoponidgpfpaaGreatDoor
open Go Go.Mh
set_option linter.unusedVariables false

def onceB (n m : Nat) (l : List Ev) : Bool := (List.range l.length).all fun i => !badO n m l i
def headsB (g : G) (l : List Ev) : Bool := (List.range l.length).all fun i => !badH g l i
theorem onceB_iff {n m : Nat} {l : List Ev} : onceB n m l = true ↔ OnceE n m l := by
  rw [← badO_iff]
  unfold onceB
  simp only [List.all_eq_true, List.mem_range, Bool.not_eq_true']
  exact ⟨fun h => fun ⟨k, hk, hb⟩ => absurd hb (by rw [h k hk]; decide), fun h i hi => Bool.eq_false_iff.2 fun hb => h ⟨i, hi, hb⟩⟩
theorem headsB_iff {g : G} {l : List Ev} : headsB g l = true ↔ HeadsE g l := by
  rw [← badH_iff]
  unfold headsB
  simp only [List.all_eq_true, List.mem_range, Bool.not_eq_true']
  exact ⟨fun h => fun ⟨k, hk, hb⟩ => absurd hb (by rw [h k hk]; decide), fun h i hi => Bool.eq_false_iff.2 fun hb => h ⟨i, hi, hb⟩⟩

section
variable {h0 h : Heap} {L : List Res} {K : Value → Heap → Prop} {g : G} {r : Nat} {l : List Ev} {vl : Value}

theorem onceB_ok {b : Bool} (H : NetR h r g) (Hl : Vw encE 4 h vl l) (hll : l.length < 2 ^ 40) (hb : onceB g.n g.arcs.length l = b) (hK : ∀ h', Ext h h' → K (.bool b) h') : callS Tryz.prog F_trace_Once [ptr r, vl] h K :=
  once_ok H Hl hll fun b' h' x hi => by
    have : b' = b := by rw [← hb, Bool.eq_iff_iff, onceB_iff]; exact hi
    rw [this]; exact hK h' x
theorem headsB_ok {b : Bool} (H : NetR h r g) (Hl : Vw encE 4 h vl l) (hll : l.length < 2 ^ 40) (hb : headsB g l = b) (hK : ∀ h', Ext h h' → K (.bool b) h') : callS Tryz.prog F_trace_Heads [ptr r, vl] h K :=
  heads_ok H Hl hll fun b' h' x hi => by
    have : b' = b := by rw [← hb, Bool.eq_iff_iff, headsB_iff]; exact hi
    rw [this]; exact hK h' x

theorem labelI_ok {s v : Int} {x : Option Int} (Hl : Vw encE 4 h vl l) (hll : l.length < 2 ^ 40) (hx : labE l s v = x) (hK : ∀ h', Ext h h' → K (labV x) h') : callS Tryz.prog F_trace_Label [vl, I s, I v] h K :=
  label_ok Hl hll (by rw [hx]; exact hK)

end

theorem labV_eqF {x : Option Int} : labV x = .tuple #[I (x.getD 0), .bool x.isSome] := by cases x <;> rfl

end Go.Proofs.YtkeoponidgpfpaaGreatDoor

namespace Go.Proofs.YtkeoponidgpfpaaGreatDoor
open Go Go.Mh
set_option linter.unusedVariables false

abbrev dr14 (vb vpi : Value) (zf zt zo zl : Int) (some mark : Bool) : Value := .agg #[vb, .int .u8 zf, .int .u8 zt, .bool some, .bool mark, .int .u64 zo, vpi, .int .u8 zl]

/-- What stays. -/
abbrev bse14 (Q : Qs) (a4 g3 : Nat) (vx vy vr va vp : Value) (N : Res) : List Res :=
  [N, cellR a4 [I Q.s, I Q.t, va, vp] T_api_Ask, cellR g3 [I Q.g.n, vx, vy, vr] T_api_Raw, xR vx Q.g.X, xR vy Q.g.Y, aR vr Q.g.arcs, slR encBo 1 T_bool va Q.allow, xR vp Q.pi]

section
variable {h0 h : Heap} {L M : List Res} {K : Value → Heap → Prop} {Q : Qs} {r : Nat} {v w vl : Value}

theorem begin14 {bs pis : List Int} {vb vpi : Value} {zf zt zo zl : Int} {some mark : Bool} {KK : Value → Value → Value → Heap → Prop} (Hb : Vw encU8 1 h vb bs) (Hpi : Vw encI 1 h vpi pis) (hf : 0 ≤ zf ∧ zf ≤ 255) (ht : 0 ≤ zt ∧ zt ≤ 255) (hl : 0 ≤ zl ∧ zl ≤ 255)
    (hK : ∀ (Q : Qs) a4 g3 vx vy vr va vp N r h', Few Q.g → Q.Ok → (mark = true → Q.Feas) → netR N r Q.g → Own h h' (bse14 Q a4 g3 vx vy vr va vp N) → KK (ptr g3) (ptr a4) (ptr r) h') :
    callS Tryz.prog F_milestonelaw14_Draft_ask [dr14 vb vpi zf zt zo zl some mark] h fun t16 h_2 => pExt t16 0 fun t17 => pExt t16 1 fun t18 =>
      pBox T_api_Raw (.agg #[(.int .i64 0), (.slice none 0 0), (.slice none 0 0), (.slice none 0 0)]) h_2 fun g3 h_3 => pBox T_api_Ask (.agg #[(.int .i64 0), (.int .i64 0), (.slice none 0 0), (.slice none 0 0)]) h_3 fun ask4 h_4 =>
      pStore 4 g3 t17 h_4 fun u h_5 => pStore 4 ask4 t18 h_5 fun u_1 h_6 => pLoadN 4 h_6 g3 fun t19 => callS Tryz.prog F_milestonelaw14_made [t19] h_6 fun t20 h_7 => KK g3 ask4 t20 h_7 := by
  refine ask14_ok Hb Hpi hf ht hl fun Q vx vy vr va vp h1 hg hQ hFe o1 => ?_
  have p0 := (o1.vw 0 rfl).plain
  have p1 := (o1.vw 1 rfl).plain
  have p2 := (o1.vw 2 rfl).plain
  have p3 := (o1.vw 3 rfl).plain
  have p4 := (o1.vw 4 rfl).plain
  simp only [pExt0, pExt1]
  refine o1.box fun g3 h2 o2 => o2.box fun a4 h3 o3 => ?_
  refine o3.st (cs' := [I Q.g.n, vx, vy, vr]) 1 rfl rfl rfl rfl rfl (by intro u hu; simp at hu; rcases hu with rfl | rfl | rfl | rfl <;> first | rfl | assumption) fun h4 o4 => ?_
  refine o4.st (cs' := [I Q.s, I Q.t, va, vp]) 0 rfl rfl rfl rfl rfl (by intro u hu; simp at hu; rcases hu with rfl | rfl | rfl | rfl <;> first | rfl | assumption) fun h5 o5 => ?_
  refine o5.ldN (cs' := [I Q.g.n, vx, vy, vr]) 1 rfl rfl rfl ?_
  exact made14_ok o5 hQ.r ⟨vx, vy, vr, rfl, o5.vw 2 rfl, o5.vw 3 rfl, o5.vw 4 rfl⟩ fun r N h6 hN o6 => hK Q a4 g3 vx vy vr va vp N r h6 hg hQ (fun h => (hFe h).1) hN o6

theorem raw14 {a4 g3 : Nat} {vx vy vr va vp : Value} {N : Res} (o : Own h0 h (L ++ bse14 Q a4 g3 vx vy vr va vp N)) : RawV h (.agg #[I Q.g.n, vx, vy, vr]) Q.g := by
  have o := Own.comm o
  exact ⟨vx, vy, vr, rfl, o.vw 3 rfl, o.vw 4 rfl, o.vw 5 rfl⟩
theorem asv14 {a4 g3 : Nat} {vx vy vr va vp : Value} {N : Res} (o : Own h0 h (L ++ bse14 Q a4 g3 vx vy vr va vp N)) : AskV h (.agg #[I Q.s, I Q.t, va, vp]) Q := by
  have o := Own.comm o
  exact ⟨va, vp, rfl, o.vw 6 rfl, o.vw 7 rfl⟩
theorem net14 {a4 g3 : Nat} {vx vy vr va vp : Value} {N : Res} (hN : netR N r Q.g) (o : Own h0 h (L ++ bse14 Q a4 g3 vx vy vr va vp N)) : NetR h r Q.g := by
  have o := Own.comm o
  exact hN _ (o.get 0 rfl)

theorem run14 {a4 g3 : Nat} {vx vy vr va vp : Value} {N : Res} {KK : Value → Value → Heap → Prop} (hQ : Q.Ok) (hN : netR N r Q.g) (o : Own h0 h (bse14 Q a4 g3 vx vy vr va vp N))
    (hK : ∀ d arcs evl f6 wa we h', ResB Q d arcs evl → Own h0 h' (cellR f6 [I d, wa, we] T_api_Found :: slR encI 1 T_int wa (nI arcs) :: slR encE 4 T_api_Event we evl :: bse14 Q a4 g3 vx vy vr va vp N) → KK (ptr f6) (I 0) h') :
    pLoadN 4 h (ptr a4) fun t25 => callS Tryz.prog F_both_Run [ptr r, t25] h fun t26 h_8 => pExt t26 0 fun t27 => pExt t26 1 fun t28 => pBox T_api_Found (.agg #[(.int .i64 0), (.slice none 0 0), (.slice none 0 0)]) h_8 fun f6 h_9 => pStore 3 f6 t27 h_9 fun u_2 h_10 => KK f6 t28 h_10 := by
  refine o.ldN (cs' := [I Q.s, I Q.t, va, vp]) 1 rfl rfl rfl ?_
  refine brunQ_ok hQ (net14 (L := []) hN o) (asv14 (L := []) o) fun d arcs evl wa we h1 hr o1' => ?_
  have o1 := o.frame o1'
  simp only [pExt0, pExt1]
  have p1 := (o1.vw 0 rfl).plain
  have p2 := (o1.vw 1 rfl).plain
  exact o1.box fun f6 h2 o2 => o2.st (cs' := [I d, wa, we]) 0 rfl rfl rfl rfl rfl (by intro u hu; simp at hu; rcases hu with rfl | rfl | rfl <;> first | rfl | assumption) fun h3 o3 => hK d arcs evl f6 wa we h3 hr o3

/-- All that is known of the events. -/
theorem res_events {d : Int} {arcs : List Nat} {evl : List Ev} (hQ : Q.Ok) (hr : ResB Q d arcs evl) : evl = [] ∨ ∃ st S, RunI Q S st ∧ S = Q.fin ∧ evl = S.ev ∧ S.next = none := by
  rcases hr with ⟨_, _, _, h⟩ | ⟨_, _, _, h⟩
  · exact .inl h
  · obtain ⟨st, R, hn⟩ := Q.fin_run hQ
    exact .inr ⟨st, _, R, rfl, h, hn⟩

theorem res_len {d : Int} {arcs : List Nat} {evl : List Ev} (hQ : Q.Ok) (hr : ResB Q d arcs evl) : evl.length ≤ 2 ^ 32 := by
  rcases res_events hQ hr with h | ⟨st, S, R, _, h, _⟩
  · rw [h]; simp
  · rw [h]; exact R.evlen hQ

theorem bothLabels_ok {bs pis : List Int} {vb vpi : Value} {zf zt zo zl : Int} {some mark : Bool} (Hb : Vw encU8 1 h vb bs) (Hpi : Vw encI 1 h vpi pis) (hf : 0 ≤ zf ∧ zf ≤ 255) (ht : 0 ≤ zt ∧ zt ≤ 255) (hl : 0 ≤ zl ∧ zl ≤ 255)
    (hK : ∀ h', Ext h h' → K (.bool true) h') : CallsH Tryz.prog F_milestonelaw14_BothLabels [dr14 vb vpi zf zt zo zl some mark].toArray h K := by
  refine lk_milestonelaw14_BothLabels _ ?_
  unfold sh_milestonelaw14_BothLabels
  refine (Own.start h).box fun d1 h1 o1 => ?_
  have o1 : Own h h1 [cellR d1 [vb, .int .u8 zf, .int .u8 zt, .bool some, .bool mark, .int .u64 zo, vpi, .int .u8 zl] T_milestonelaw14_Draft] := o1
  refine o1.ldN (cs' := [vb, .int .u8 zf, .int .u8 zt, .bool some, .bool mark, .int .u64 zo, vpi, .int .u8 zl]) 0 rfl rfl rfl ?_
  have x1 := o1.ext
  refine begin14 (Hb.more x1) (Hpi.more x1) hf ht hl fun Q a4 g3 vx vy vr va vp N r h2 hg hQ hFe hN o2 => ?_
  clear o1
  simp only [pEq_ptr_nil, Option.isNone_some, ifV_false]
  refine run14 hQ hN o2 fun d arcs evl f6 wa we h3 hr o3 => ?_
  rw [pBin_neq, show ((0 : Int) != 0) = false from rfl, ifV_false]
  refine o3.ldN (cs' := [I Q.g.n, vx, vy, vr]) 5 rfl rfl rfl (o3.ldN (cs' := [I Q.s, I Q.t, va, vp]) 4 rfl rfl rfl ?_)
  refine rfeas_ok hQ (raw14 (L := [_, _, _]) o3) (asv14 (L := [_, _, _]) o3) fun h4 x4 => ?_
  have o4 := o3.more x4
  clear o3 o2
  have hel := res_len hQ hr
  have hmost := hQ.r.most
  refine LoopH_count 2 (fun i y h' => y.1 = I i ∧ Own h1 h' (cellR f6 [I d, wa, we] T_api_Found :: slR encI 1 T_int wa (nI arcs) :: slR encE 4 T_api_Event we evl :: bse14 Q a4 g3 vx vy vr va vp N)) ⟨rfl, o4⟩ ?_
  clear o4
  rintro i ⟨y, ⟨⟩⟩ h5 Z hi ⟨hy, o⟩ hZ
  dsimp only at hy hZ ⊢
  subst hy
  unfold sh_milestonelaw14_BothLabels_L1
  rw [pBin_lss, ifV_dec]
  refine ⟨fun hlt => ?_, fun hge => works14_ok fun h6 x6 => hK _ (x1.trans (o.more x6).ext fun _ h _ => h)⟩
  have hlt : i < 2 := by omega
  obtain ⟨x, hx⟩ : ∃ x : Bool, (i : Int) = sI x := by
    match i, hlt with
    | 0, _ => exact ⟨false, rfl⟩
    | 1, _ => exact ⟨true, rfl⟩
  rw [hx]
  refine o.ldN (cs' := [I Q.g.n, vx, vy, vr]) 5 rfl rfl rfl (o.ldN (cs' := [I Q.s, I Q.t, va, vp]) 4 rfl rfl rfl ?_)
  refine rreach_ok14 hQ (raw14 (L := [_, _, _]) o) (asv14 (L := [_, _, _]) o) fun dl vl h6 hRL o6' => ?_
  have o6 := o.frame o6'
  clear o o6'
  have hdl := hRL.len
  refine LoopH_count Q.g.n (fun k y h' => y.1 = I k ∧ Own h1 h' (xR vl dl :: cellR f6 [I d, wa, we] T_api_Found :: slR encI 1 T_int wa (nI arcs) :: slR encE 4 T_api_Event we evl :: bse14 Q a4 g3 vx vy vr va vp N)) ⟨rfl, o6⟩ ?_
  clear o6
  rintro k ⟨y, ⟨⟩⟩ h7 Z1 hk ⟨hy, o⟩ hZ1
  dsimp only at hy hZ1 ⊢
  subst hy
  unfold sh_milestonelaw14_BothLabels_L2
  simp only [pField_ptr]
  refine o.load 6 rfl rfl ?_
  rw [pBin_lss, ifV_dec]
  refine ⟨fun hlk => ?_, fun hgk => ?_⟩
  · have hlk : k < Q.g.n := by omega
    have nxt : ∀ h', Own h1 h' (xR vl dl :: cellR f6 [I d, wa, we] T_api_Found :: slR encI 1 T_int wa (nI arcs) :: slR encE 4 T_api_Event we evl :: bse14 Q a4 g3 vx vy vr va vp N) → sh_milestonelaw14_BothLabels_k5 Tryz.prog (I k) (fun a0 hz => Z1 (a0, ()) hz) h' := fun h' o' => by
      unfold sh_milestonelaw14_BothLabels_k5
      rw [pBin_add, wI k (by omega)]
      exact hZ1 (_, ()) h' hlk ⟨rfl, o'⟩
    have lab : labE evl (sI x) k = none ∨ ∃ e : Int, labE evl (sI x) k = Option.some e ∧ dAt dl k ≤ e ∧ e < far ∧ (feasB Q = true → e = dAt dl k) ∧ Q.opn k = true := by
      rcases res_events hQ hr with h | ⟨st, S, R, _, h, _⟩
      · rw [h]; exact .inl rfl
      · rw [h]
        rcases R.labE x k with ⟨h1, _⟩ | ⟨s, hs, e1, e2, h1⟩
        · exact .inl h1
        · subst e1 e2
          obtain ⟨q1, q2, q3, q4, _⟩ := R.label hQ hs
          obtain ⟨g1, g2⟩ := label_exact hQ R hs hRL
          exact .inr ⟨s.d, h1, g1, q4, fun hF => g2 (feasB_iff.1 hF), q2⟩
    refine o.load 1 rfl rfl ?_
    rcases lab with hn | ⟨e, hn, e1, e2, e3, e4⟩
    · refine labelI_ok (o.vw 3 rfl) (by omega) hn fun h8 x8 => ?_
      simp only [labV, pExt0, pExt1]
      rw [ifV_false]
      exact nxt _ (o.more x8)
    · have hfar : far = 72057594037927936 := rfl
      refine labelI_ok (o.vw 3 rfl) (by omega) hn fun h8 x8 => ?_
      have o8 := o.more x8
      simp only [labV, pExt0, pExt1]
      rw [ifV_true]
      refine (o8.vw 0 rfl).atI (by omega) ?_
      rw [dAt_get (by omega), pBin_lss, show decide (e < dAt dl k) = false from decide_eq_false (by omega), ifV_false, pBin_geq, show decide ((72057594037927936 : Int) ≤ e) = false from decide_eq_false (by omega), ifV_false]
      have op : ∀ (KK : Value → Heap → Prop), (∀ h', Own h1 h' (xR vl dl :: cellR f6 [I d, wa, we] T_api_Found :: slR encI 1 T_int wa (nI arcs) :: slR encE 4 T_api_Event we evl :: bse14 Q a4 g3 vx vy vr va vp N) → KK (.bool true) h') →
          (pLoadN 4 h8 (ptr a4) fun t80 => callS Tryz.prog F_milestoneref14_Open [t80, I k] h8 KK) := fun KK hk => by
        refine o8.ldN (cs' := [I Q.s, I Q.t, va, vp]) 5 rfl rfl rfl (ropen_ok hQ (asv14 (L := [_, _, _, _]) o8) hlk fun h9 x9 => ?_)
        rw [e4]; exact hk _ (o8.more x9)
      cases hfe : feasB Q with
      | true =>
        rw [ifV_true]
        refine (o8.vw 0 rfl).atI (by omega) ?_
        rw [dAt_get (by omega), e3 hfe, pBin_neq, bne_self_eq_false, ifV_false]
        refine op _ fun h9 o9 => ?_
        rw [pUn_not, Bool.not_true]
        unfold sh_milestonelaw14_BothLabels_k4
        rw [ifV_false]; exact nxt _ o9
      | false =>
        rw [ifV_false]
        refine op _ fun h9 o9 => ?_
        rw [pUn_not, Bool.not_true]
        unfold sh_milestonelaw14_BothLabels_k4
        rw [ifV_false]; exact nxt _ o9
  · rw [pBin_add, ← hx, wI i (by omega)]
    exact hZ (_, ()) h7 hlt ⟨rfl, o.tail⟩

end
end Go.Proofs.YtkeoponidgpfpaaGreatDoor
