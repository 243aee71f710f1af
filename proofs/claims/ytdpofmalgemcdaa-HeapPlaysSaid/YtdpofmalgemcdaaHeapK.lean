/- A text of the proofs of seat Ytdpofmalgemcdaa: 'HeapK'. It has no condition of its own. -/
import Derived.Test.YtdpofmalgemcdaaHeapI
import Derived.Test.YtdpofmalgemcdaaMhWrap
import Derived.Test.YtdpofmalgemcdaaMhView
set_option linter.unusedVariables false
set_option linter.unusedSimpArgs false
namespace Go.Proofs.Ytdpofmalgemcdaa
open Go Go.Mh

def encI (x : Int) : List Value := [I x]
theorem encI_len (x : Int) : (encI x).length = 1 := rfl

theorem mod_inj {n i j q : Int} (hi : 0 ≤ i) (hi' : i < n) (hj : 0 ≤ j) (hj' : j < n) (h : (i + q) % n = (j + q) % n) : i = j := by
  rw [Int.emod_eq_emod_iff_emod_sub_eq_zero] at h
  have hd := Int.dvd_of_emod_eq_zero h
  have := Int.eq_zero_of_dvd_of_natAbs_lt_natAbs hd (by omega)
  omega

theorem nodup_of_map {M : List HE} (h : (M.map (·.1)).Nodup) : M.Nodup :=
  List.Pairwise.of_map (fun x => x.1) (fun a b hab e => hab (by rw [e])) h

/-- Where the i-th push goes. -/
def idOf (by1 n i : Int) : Int := (i + (by1.tmod n + n)) % n

theorem sorts_ok {h : Heap} {kv : Value} {bl : Nat} {xs : List Int} {by1 : Int} {K : Value → Heap → Prop} (hv : VwR encI 1 h kv bl xs) (hlo : ∀ x ∈ xs, -9223372036854775808 ≤ x ∧ x ≤ 9223372036854775807)
    (hlen : xs.length ≤ 2 ^ 63 - 1) (hK : ∀ h', Ext h h' → K (.bool true) h') : CallsH Try.prog 3 [kv, I by1].toArray h K := by
  refine link3 _ _ ?_
  unfold sh3
  refine works_ok fun h1 x1 => ?_
  simp only [pUn_not, Bool.not_true, ifV_false]
  refine hv.lenK ?_
  rw [pMin_int]
  obtain ⟨N, hN, hN'⟩ : ∃ N : Nat, (if (300 : Int) < xs.length then (300 : Int) else xs.length) = N ∧ (N ≤ xs.length ∧ N ≤ 300) := by
    by_cases h : (300 : Int) < xs.length
    · exact ⟨300, by simp [h], by omega, by omega⟩
    · exact ⟨xs.length, by simp [h], by omega, by omega⟩
  rw [hN]
  refine VwR.sub (i := 0) (j := N) encI_len hv rfl rfl (by omega) hN'.1 fun ks hks => ?_
  simp only [List.drop_zero, Nat.sub_zero] at hks
  obtain ⟨ys, hys, hyl⟩ : ∃ ys, ys = xs.take N ∧ ys.length = N := ⟨_, rfl, by simp; omega⟩
  have hylo : ∀ x ∈ ys, -9223372036854775808 ≤ x ∧ x ≤ 9223372036854775807 := fun x hx => hlo x (List.mem_of_mem_take (hys ▸ hx))
  rw [← hys] at hks
  clear hys hN
  have hN3 := hN'.2
  clear hN'
  refine hks.lenK ?_
  rw [hyl]
  refine pnew fun h2 F2 r H2 n2 x2 => ?_
  rw [show max (N : Int) 0 = N by omega] at H2
  refine makeSlice_of (enc := encI) (a := 0) (n := 1) (by omega) (by omega) fun sv h3 hs3 x3 hz3 => ?_
  have o3 : Own h h3 F2 := ⟨(x1.trans x2 fun _ h _ => h).trans x3 fun _ h _ => h, fun b hb => Nat.le_trans x1.size (n2 b hb)⟩
  have hsb0 : ¬ F2 h2.size := fun hf => Nat.lt_irrefl _ (H2.low _ hf)
  have hsb1 : h.size ≤ h2.size := Nat.le_trans x1.size x2.size
  have hsb2 : h2.size < h3.size := by omega
  replace H2 := H2.upd x3 fun _ _ h => h
  clear x1 x2 x3 n2 hz3
  generalize h2.size = sb at hs3 hsb0 hsb1 hsb2
  refine LoopH_intro (fun x h' => ∃ (i : Nat) (F : Nat → Prop) (L : List HE), x.1 = I i ∧ i ≤ N ∧ PV h' F r L N ∧ Own h h' F ∧ ¬ F sb ∧ sb < h'.size ∧ SlR encI 1 3 h' sv sb (List.replicate N 0) ∧ L.length = i ∧
      ∀ p ∈ L, (∃ j : Nat, j < i ∧ p.1 = idOf by1 N j) ∧ p.2 = ys.getD p.1.toNat 0)
    (fun x _ => match x.1 with | .int _ n => ((N : Int) - n).toNat | _ => 0)
    ⟨0, F2, [], rfl, Nat.zero_le _, H2, o3, hsb0, hsb2, hs3, rfl, by simp⟩ ?_
  rintro ⟨x, ⟨⟩⟩ h' Z ⟨i, F, L, hx, hi, HP, o, hf, hsb, hs, hLl, hL⟩ hZ
  dsimp only at hx
  subst hx
  dsimp only at hZ ⊢
  unfold sh3_L1
  simp only [pBin_lss, ifV_dec]
  refine ⟨fun hlt => ?_, fun hge => ?_⟩
  · have hn0 : (0 : Int) < N := by omega
    have q1 := Int.tmod_lt_of_pos by1 hn0
    have q2 := Int.lt_tmod_of_pos by1 hn0
    rw [pBin_rem]
    refine ⟨by omega, ?_⟩
    have e1 : IntKind.i64.wrap ((i : Int) + by1.tmod N) = (i : Int) + by1.tmod N := w64 (by omega) (by omega)
    have e2 : IntKind.i64.wrap ((i : Int) + by1.tmod N + N) = (i : Int) + by1.tmod N + N := w64 (by omega) (by omega)
    rw [pBin_add, e1, pBin_add, e2, pBin_rem]
    refine ⟨by omega, ?_⟩
    rw [Int.tmod_eq_emod_of_nonneg (by omega)]
    have eid : ((i : Int) + by1.tmod N + N) % N = idOf by1 N i := by unfold idOf; rw [Int.add_assoc]
    rw [eid]
    have hid0 : 0 ≤ idOf by1 N i := Int.emod_nonneg _ (by omega)
    have hid1 : idOf by1 N i < N := Int.emod_lt_of_pos _ hn0
    obtain ⟨w, hw⟩ : ∃ w : Nat, idOf by1 N i = w := ⟨(idOf by1 N i).toNat, by omega⟩
    have hwl : w < ys.length := by omega
    have hk' := hks.upd o.ext id
    rw [hw]
    refine hk'.idx encI_len hwl fun off hoff => ?_
    have hc := hoff 0 (by omega)
    rw [Nat.add_zero] at hc
    rw [show (encI ys[w])[0]? = some (I ys[w]) from rfl] at hc
    simp only [pLoad_ptr, hc]
    refine ppush0 HP (by omega) ?_ (by omega) (by omega) fun h4 F4 H4 g4 u4 => ?_
    · intro p hp e
      obtain ⟨⟨j, hj, hje⟩, _⟩ := hL p hp
      rw [hje, ← hw] at e
      have := mod_inj (by omega) (by omega) (by omega) (by omega) e
      omega
    · simp only [pBin_neq, ifV_bne]
      refine ⟨fun e => absurd trivial e, fun _ => ?_⟩
      have e3 : IntKind.i64.wrap ((i : Int) + 1) = ((i + 1 : Nat) : Int) := by rw [w64 (by omega) (by omega)]; rfl
      rw [pBin_add, e3]
      have hf4 : ¬ F4 sb := fun e => by
        rcases g4 sb e with e | e
        · exact hf e
        · omega
      refine hZ _ _ ⟨i + 1, F4, _, rfl, by omega, H4, o.step u4 g4, hf4, Nat.lt_of_lt_of_le hsb u4.size, hs.upd u4 hf, by simp [hLl], ?_⟩ (by dsimp only; omega)
      intro p hp
      rcases List.mem_cons.1 hp with rfl | hp
      · exact ⟨⟨i, by omega, hw.symm⟩, by simp [hwl]⟩
      · obtain ⟨⟨j, hj, hje⟩, h2⟩ := hL p hp
        exact ⟨⟨j, by omega, hje⟩, h2⟩
  · have hiN : i = N := by omega
    subst hiN
    replace hL : ∀ p ∈ L, p.2 = ys.getD p.1.toNat 0 := fun p hp => (hL p hp).2
    clear hZ hge hi H2 o3 hsb0 hsb2 hs3 Z
    have hfirst : ∀ p ∈ L, hlt (-1, -9223372036854775808) p = true := by
      intro p hp
      have hr := HP.rng p hp
      have hk : -9223372036854775808 ≤ p.2 := by
        have hl : p.1.toNat < ys.length := by omega
        rw [hL p hp, List.getD_eq_getElem?_getD, List.getElem?_eq_getElem hl]
        exact (hylo _ (List.getElem_mem hl)).1
      rw [hlt_iff]; simp only; omega
    refine LoopH_intro (fun x hh => ∃ (j : Nat) (a b : Int) (F : Nat → Prop) (M : List HE) (zs : List Int), x.1 = I a ∧ x.2.1 = I b ∧ x.2.2.1 = I j ∧ j + M.length = i ∧ PV hh F r M i ∧ Own h hh F ∧ ¬ F sb ∧ sb < hh.size ∧
        SlR encI 1 3 hh sv sb zs ∧ zs.length = i ∧ (∀ p ∈ M, p.2 = ys.getD p.1.toNat 0) ∧ (∀ p ∈ M, hlt (a, b) p = true) ∧ ∀ p ∈ M, zs.getD p.1.toNat 0 = 0)
      (fun x _ => match x.2.2.1 with | .int _ n => ((i : Int) - n).toNat | _ => 0)
      ⟨0, -1, -9223372036854775808, F, L, _, rfl, rfl, rfl, by omega, HP, o, hf, hsb, hs, by simp, hL, hfirst, ?_⟩ ?_
    · intro p hp
      have hr := HP.rng p hp
      have : p.1.toNat < i := by omega
      simp [List.getD_eq_getElem?_getD, this]
    clear hL hfirst HP o hf hsb hs hLl F L h'
    rintro ⟨x, y, z, ⟨⟩⟩ hh Z ⟨j, a, b, F, M, zs, hx, hy, hz, hj, HP, o, hf, hsb, hs, hzl, hk, hord, hz0⟩ hZ
    dsimp only at hx hy hz
    subst hx hy hz
    dsimp only at hZ ⊢
    unfold sh3_L2
    simp only [pBin_lss, ifV_dec]
    refine ⟨fun hlt' => ?_, fun hge => ?_⟩
    · have hM : M ≠ [] := fun e => by subst e; simp at hj; omega
      refine pleast HP (fun e => absurd e hM) fun p hp => ?_
      simp only [pExt0, pExt1]
      refine ppop HP (fun e => absurd e hM) fun p' hp' h4 F4 H4 g4 u4 => ?_
      have := hp'.uniq hp (.refl _)
      subst this
      simp only [pExt0, pExt1, pExt2, pUn_not, Bool.not_true, ifV_false]
      have hr := HP.rng p' hp'.1
      have hpo := hord p' hp'.1
      rw [hlt_iff] at hpo
      simp only at hpo
      obtain ⟨w, hw⟩ : ∃ w : Nat, p'.1 = w := ⟨p'.1.toNat, by omega⟩
      have hwl : w < ys.length := by omega
      have hwz : w < zs.length := by omega
      have hkey : p'.2 = ys[w] := by have := hk p' hp'.1; simpa [hw, hwl] using this
      have hseen : zs[w] = 0 := by have := hz0 p' hp'.1; simpa [hw, hwz] using this
      have o4 := o.step u4 g4
      have hk4 := hks.upd o4.ext id
      have hs4 := hs.upd u4 hf
      have hf4 : ¬ F4 sb := fun e => by
        rcases g4 sb e with e | e
        · exact hf e
        · omega
      have hsb4 := Nat.lt_of_lt_of_le hsb u4.size
      simp only [pBin_lss, ifV_dec]
      refine ⟨fun e => by omega, fun _ => ?_⟩
      simp only [pBin_geq, ifV_dec]
      refine ⟨fun e => by omega, fun _ => ?_⟩
      rw [hw]
      refine hk4.idx encI_len hwl fun off hoff => ?_
      have hc := hoff 0 (by omega)
      rw [Nat.add_zero, show (encI ys[w])[0]? = some (I ys[w]) from rfl] at hc
      simp only [pLoad_ptr, hc, pBin_neq, ifV_bne]
      refine ⟨fun e => absurd hkey e, fun _ => ⟨fun e => absurd trivial e, fun _ => ?_⟩⟩
      refine ⟨fun e => by omega, fun _ => ?_⟩
      have hcs := hs4.slot encI_len hwz (j := 0) (by omega)
      rw [Nat.add_zero, show (encI zs[w])[0]? = some (I zs[w]) from rfl, hseen] at hcs
      have tail : sh3_k4 Try.prog K sv (I w) (I j) (fun a0 a1 a2 hz => Z (a0, (a1, (a2, ()))) hz) (I p'.2) (.bool (decide ((0 : Int) < 0))) h4 := by
        unfold sh3_k4
        simp only [Int.lt_irrefl, decide_false, ifV_false]
        refine hs4.idx hwz ?_
        simp only [pLoad_ptr, hcs]
        rw [pBin_add, show IntKind.i64.wrap ((0 : Int) + 1) = 1 by decide]
        refine hs4.idx hwz ?_
        refine SlR.set (a := (1 : Int)) encI_len (fun u hu => by simp [encI] at hu; subst hu; rfl) hs4 hwz rfl rfl rfl fun h5 hs5 u5 _ => ?_
        have e3 : IntKind.i64.wrap ((j : Int) + 1) = ((j + 1 : Nat) : Int) := by rw [w64 (by omega) (by omega)]; rfl
        rw [pBin_add, e3]
        have hlen' : (M.erase p').length + 1 = M.length := by
          rw [List.length_erase_of_mem hp'.1]
          have := List.length_pos_of_mem hp'.1
          omega
        refine hZ _ _ ⟨j + 1, w, p'.2, F4, M.erase p', zs.set w 1, rfl, rfl, rfl, by omega, H4.upd u5 (fun b hb e => hf4 (e ▸ hb)), ?_, hf4, Nat.lt_of_lt_of_le hsb4 u5.size, hs5, by simpa using hzl, ?_, ?_, ?_⟩ (by dsimp only; omega)
        · refine ⟨o4.ext.trans u5 fun b hb hlt => ?_, o4.new⟩
          omega
        · exact fun q hq => hk q (List.mem_of_mem_erase hq)
        · intro q hq
          have hq' := List.mem_of_mem_erase hq
          have h1 := hp'.2 q hq'
          have hne : q ≠ p' := by
            rintro rfl
            have hnd : M.Nodup := nodup_of_map HP.nodup
            exact (List.Nodup.mem_erase_iff hnd).1 hq |>.1 rfl
          apply Classical.byContradiction
          intro h2
          rw [← hw] at h2
          exact hne (hlt_total h1 h2)
        · intro q hq
          have hq' := List.mem_of_mem_erase hq
          have hne : q ≠ p' := by
            rintro rfl
            have hnd : M.Nodup := nodup_of_map HP.nodup
            exact (List.Nodup.mem_erase_iff hnd).1 hq |>.1 rfl
          have hne1 : q.1 ≠ p'.1 := fun e => hne (id_uniq HP.nodup hq' hp'.1 e)
          have hrq := HP.rng q hq'
          have hzq := hz0 q hq'
          have hw' : ¬ w = q.1.toNat := by omega
          have hql : q.1.toNat < zs.length := by omega
          rw [List.getD_eq_getElem?_getD, List.getElem?_set_ne hw', ← List.getD_eq_getElem?_getD]
          exact hzq
      simp only [pBin_eql, ifV_beq]
      have hpi : ∀ (k : Value → Prop), k (.int .i64 0) → pIdx 1 sv (I w) fun t => pLoad h4 t k := by
        intro k hk0
        refine hs4.idx hwz ?_
        simp only [pLoad_ptr, hcs]
        exact hk0
      refine ⟨fun e => ?_, fun e => ?_⟩
      · simp only [pBin_leq, ifV_dec]
        refine ⟨fun e' => by omega, fun _ => hpi _ ?_⟩
        rw [pBin_gtr]; exact tail
      · refine hpi _ ?_
        rw [pBin_gtr]; exact tail
    · have hM : M = [] := List.eq_nil_of_length_eq_zero (by omega)
      subst hM
      refine plen HP ?_
      simp only [pBin_eql, ifV_beq]
      refine ⟨fun _ => pops0 HP (hK _ o.ext), fun e => absurd rfl e⟩

end Go.Proofs.Ytdpofmalgemcdaa
