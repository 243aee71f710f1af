/- A text of the proofs of seat Ytdpofmalgemcdaa: 'HeapO'. It has no condition of its own. -/
import Derived.Test.YtdpofmalgemcdaaHeapM
set_option linter.unusedVariables false
set_option linter.unusedSimpArgs false
namespace Go.Proofs.Ytdpofmalgemcdaa
open Go Go.Mh

/-- A call of a script: kind, number, key. -/
structure OpE where
  kind : Int
  id : Int
  key : Int

def encO (p : OpE) : List Value := [.int .u8 p.kind, I p.id, I p.key]
theorem encO_len (p : OpE) : (encO p).length = 3 := rfl
def okO (p : OpE) : Prop := (0 ≤ p.kind ∧ p.kind ≤ 255) ∧ (-9223372036854775808 ≤ p.id ∧ p.id ≤ 9223372036854775807) ∧ (-9223372036854775808 ≤ p.key ∧ p.key ≤ 9223372036854775807)

theorem u64_wrap (a : Int) : 0 ≤ IntKind.u64.wrap a ∧ IntKind.u64.wrap a ≤ 18446744073709551615 := by
  unfold IntKind.wrap
  simp only [IntKind.bits, IntKind.signed, Bool.false_and, Bool.false_eq_true, if_false]
  omega

theorem rises_ok {h : Heap} {lv : Value} {bl : Nat} {xs : List OpE} {K : Value → Heap → Prop} (hv : VwR encO 3 h lv bl xs) (hok : ∀ x ∈ xs, okO x)
    (hlen : xs.length ≤ 2 ^ 63 - 1) (hK : ∀ h', Ext h h' → K (.bool true) h') : CallsH Try.prog 5 [lv].toArray h K := by
  refine link5 _ ?_
  unfold sh5
  refine works_ok fun h1 x1 => ?_
  simp only [pUn_not, Bool.not_true, ifV_false]
  refine pnew fun h2 F2 r H2 n2 x2 => ?_
  rw [show max (100 : Int) 0 = 100 by decide] at H2
  have o2 : Own h h2 F2 := ⟨x1.trans x2 fun _ h _ => h, fun b hb => Nat.le_trans x1.size (n2 b hb)⟩
  clear x1 x2 n2
  refine LoopH_intro (fun x h' => ∃ (i : Nat) (last : Int) (F : Nat → Prop) (L : List HE), x.1 = I last ∧ x.2.1 = I L.length ∧ x.2.2.1 = I i ∧ i ≤ 200 ∧ PV h' F r L 100 ∧ Own h h' F ∧ L.length ≤ i ∧
      (-1099511627776 ≤ last ∧ last ≤ -1099511627776 + 999 * i) ∧ ∀ p ∈ L, last ≤ p.2 ∧ p.2 ≤ -1099511627776 + 999 * i)
    (fun x _ => match x.2.2.1 with | .int _ n => ((200 : Int) - n).toNat | _ => 0)
    ⟨0, -1099511627776, F2, [], rfl, rfl, rfl, by omega, H2, o2, by simp, by omega, by simp⟩ ?_
  clear H2 o2
  rintro ⟨x, y, z, ⟨⟩⟩ h' Z ⟨i, last, F, L, hx, hy, hz, hi, HP, o, hLl, hla, hL⟩ hZ
  dsimp only at hx hy hz
  subst hx hy hz
  dsimp only at hZ ⊢
  unfold sh5_L1
  refine hv.lenK ?_
  simp only [pBin_lss, ifV_dec]
  refine ⟨fun hlt => ⟨fun hlt2 => ?_, fun hge => ?_⟩, fun hge => ?_⟩
  · have hil : i < xs.length := by omega
    have hk' := hv.upd o.ext id
    have hop := hok _ (List.getElem_mem hil)
    generalize hxe : xs[i] = op at hop
    have hget : ∀ {K : Value → Prop}, (∀ off, hcell h' ⟨bl, off, none⟩ = some (.int .u8 op.kind) → hcell h' ⟨bl, off + 1, none⟩ = some (I op.id) → hcell h' ⟨bl, off + 2, none⟩ = some (I op.key) → K (.pointer (some ⟨bl, off, none⟩))) →
        pIdx 3 lv (I i) K := by
      intro K hK
      refine hk'.idx encO_len hil fun off hoff => hK off ?_ ?_ ?_
      · have := hoff 0 (by omega); rw [hxe] at this; exact this
      · have := hoff 1 (by omega); rw [hxe] at this; exact this
      · have := hoff 2 (by omega); rw [hxe] at this; exact this
    have hw1 := u64_wrap op.id
    have hw2 := u64_wrap op.key
    have m1 : (IntKind.u64.wrap op.id).tmod 100 = IntKind.u64.wrap op.id % 100 := Int.tmod_eq_emod_of_nonneg hw1.1
    have m2 : (IntKind.u64.wrap op.key).tmod 1000 = IntKind.u64.wrap op.key % 1000 := Int.tmod_eq_emod_of_nonneg hw2.1
    have m3 : op.kind.tmod 4 = op.kind % 4 := Int.tmod_eq_emod_of_nonneg hop.1.1
    refine hget fun o1 _ c1 _ => ?_
    simp only [pField_ptr, pLoad_ptr, c1, pConv_int, pBin_rem, m1]
    refine ⟨by decide, ?_⟩
    refine hget fun o2 _ _ c2 => ?_
    simp only [pField_ptr, pLoad_ptr, c2, pConv_int, pBin_rem, m2]
    refine ⟨by decide, ?_⟩
    generalize hid : IntKind.u64.wrap op.id % 100 = id at *
    generalize hkd : IntKind.u64.wrap op.key % 1000 = kd at *
    have hid0 : 0 ≤ id ∧ id < 100 := by omega
    have hkd0 : 0 ≤ kd ∧ kd ≤ 999 := by omega
    rw [w64 (n := id) (by omega) (by omega), w64 (n := kd) (by omega) (by omega), pBin_add, w64 (n := last + kd) (by omega) (by omega)]
    refine hget fun o3 c3 _ _ => ?_
    simp only [pField_ptr, pLoad_ptr, Nat.add_zero, c3, pBin_rem, m3]
    refine ⟨by decide, ?_⟩
    generalize hkk : op.kind % 4 = kk at *
    have e3 : IntKind.i64.wrap ((i : Int) + 1) = ((i + 1 : Nat) : Int) := by rw [w64 (by omega) (by omega)]; rfl
    have fin : ∀ (h4 : Heap) (F4 : Nat → Prop) (L4 : List HE) (last4 : Int), PV h4 F4 r L4 100 → Own h h4 F4 → L4.length ≤ i + 1 → (-1099511627776 ≤ last4 ∧ last4 ≤ -1099511627776 + 999 * ((i : Int) + 1)) →
        (∀ p ∈ L4, last4 ≤ p.2 ∧ p.2 ≤ -1099511627776 + 999 * ((i : Int) + 1)) → sh5_k3 Try.prog (ptr r) K (I i) (fun a0 a1 a2 hz => Z (a0, (a1, (a2, ()))) hz) (I last4) (I L4.length) h4 := by
      intro h4 F4 L4 last4 H4 o4 hl4 hla4 hL4
      unfold sh5_k3
      refine plen H4 ?_
      simp only [pBin_neq, ifV_bne]
      refine ⟨fun e => (by simp at e), fun _ => ?_⟩
      rw [pBin_add, e3]
      exact hZ _ _ ⟨i + 1, last4, F4, L4, rfl, rfl, rfl, by omega, H4, o4, hl4, by omega, fun p hp => by have := hL4 p hp; omega⟩ (by dsimp only; omega)
    have push : sh5_k2 Try.prog (ptr r) (I id) (I (last + kd)) (I L.length) K (I i) (fun a0 a1 a2 hz => Z (a0, (a1, (a2, ()))) hz) (I last) (.int .u8 kk) (.bool true) h' := by
      unfold sh5_k2
      simp only [ifV_true]
      refine ppush HP (by omega) (fun _ => ?_) fun _ _ _ h4 F4 H4 g4 u4 => ?_
      · simp only [pBin_eql, ifV_beq]
        refine ⟨fun e => (by simp at e), fun _ => fin _ _ _ _ HP o (by omega) (by omega) fun p hp => by have := hL p hp; omega⟩
      · simp only [pBin_eql, ifV_beq]
        refine ⟨fun _ => ?_, fun e => (by simp at e)⟩
        have e5 : IntKind.i64.wrap ((L.length : Int) + 1) = (((id, last + kd) :: L).length : Int) := by rw [List.length_cons, w64 (by omega) (by omega)]; rfl
        rw [pBin_add, e5]
        refine fin _ _ _ _ H4 (o.step u4 g4) (by simp; omega) (by omega) fun p hp => ?_
        rcases List.mem_cons.1 hp with rfl | hp
        · simp only; omega
        · have := hL p hp; omega
    have rest : sh5_k2 Try.prog (ptr r) (I id) (I (last + kd)) (I L.length) K (I i) (fun a0 a1 a2 hz => Z (a0, (a1, (a2, ()))) hz) (I last) (.int .u8 kk) (.bool false) h' := by
      unfold sh5_k2
      simp only [ifV_false, pBin_eql, ifV_beq]
      refine ⟨fun _ => ?_, fun _ => ?_⟩
      · refine pkey HP (fun _ => ?_) fun p hp e => ?_
        · simp only [pExt0, pExt1, ifV_false]
          exact fin _ _ _ _ HP o (by omega) (by omega) fun p hp => by have := hL p hp; omega
        · simp only [pExt0, pExt1, ifV_true, pMin_int]
          have hmin : (if last + kd < p.2 then last + kd else p.2) = min p.2 (last + kd) := by omega
          rw [hmin]
          have hp2 := hL p hp
          refine plower0 HP hp e (by omega) fun h4 F4 H4 g4 u4 => ?_
          simp only [pBin_neq, ifV_bne]
          refine ⟨fun e => (by simp at e), fun _ => ?_⟩
          have hll : (L.length : Int) = (((id, min p.2 (last + kd)) :: L.erase p).length : Int) := by
            rw [List.length_cons, List.length_erase_of_mem hp]
            have := List.length_pos_of_mem hp
            omega
          rw [hll]
          refine fin _ _ _ _ H4 (o.step u4 g4) (by omega) (by omega) fun q hq => ?_
          rcases List.mem_cons.1 hq with rfl | hq
          · simp only; omega
          · have := hL q (List.mem_of_mem_erase hq); omega
      · refine ppop HP (fun e => ?_) fun p hp h4 F4 H4 g4 u4 => ?_
        · subst e
          simp only [pExt0, pExt1, pExt2, pBin_gtr]
          show pEq true .bool (.bool false) (.bool (decide ((0 : Int) < 0))) _
          simp only [Int.lt_irrefl, decide_false, pNe_bool, bne_self_eq_false, ifV_false]
          unfold sh5_k5
          simp only [ifV_false]
          exact fin _ _ [] _ HP o (by simp) (by omega) (by simp)
        · have hpos : 0 < L.length := List.length_pos_of_mem hp.1
          have hp2 := hL p hp.1
          simp only [pExt0, pExt1, pExt2, pBin_gtr]
          rw [show decide ((0 : Int) < (L.length : Int)) = true by simpa using (by omega : (0 : Int) < L.length)]
          simp only [pNe_bool, bne_self_eq_false, ifV_false, ifV_true, pBin_lss, ifV_dec]
          refine ⟨fun e => by omega, fun _ => ?_⟩
          unfold sh5_k5
          simp only [ifV_true]
          have e5 : IntKind.i64.wrap ((L.length : Int) - 1) = ((L.erase p).length : Int) := by
            rw [List.length_erase_of_mem hp.1, w64 (by omega) (by omega)]; omega
          rw [pBin_sub, e5]
          refine fin _ _ _ _ H4 (o.step u4 g4) (by rw [List.length_erase_of_mem hp.1]; omega) (by omega) fun q hq => ?_
          have hq' := List.mem_of_mem_erase hq
          have h1 := hp.2 q hq'
          have h2 := hL q hq'
          rw [hlt_iff] at h1
          omega
    simp only [pBin_eql, ifV_beq]
    refine ⟨fun e => ?_, fun e => ?_⟩
    · subst e; exact push
    · rcases Decidable.em (kk = 1) with e1 | e1
      · subst e1; exact push
      · rw [show (kk == 1) = false by simpa using e1]; exact rest
  · exact hK _ o.ext
  · exact hK _ o.ext

end Go.Proofs.Ytdpofmalgemcdaa
