/- A text of the proofs of seat Ytdpofmalgemcdaa: 'HeapS'. It has no condition of its own. -/
import Derived.Test.YtdpofmalgemcdaaHeapR
set_option linter.unusedVariables false
set_option linter.unusedSimpArgs false
namespace Go.Proofs.Ytdpofmalgemcdaa
open Go Go.Mh

/-- The heap and the document's, holding the same, apart. -/
structure WQ (h0 h : Heap) (F G : Nat → Prop) (a b : Nat) (L : List HE) (n : Int) : Prop where
  A : PV h F a L n
  B : QV h G b L n
  oF : Own h0 h F
  oG : Own h0 h G
  d : Disj F G

section
variable {h0 h h' h'' : Heap} {F G F' G' S : Nat → Prop} {a b : Nat} {L L' : List HE} {n : Int}

theorem WQ.step (w : WQ h0 h F G a b L n) (A' : PV h' F' a L' n) (g : Grow h F F') (u : Upd F h h') (B' : QV h' G b L n → QV h'' G' b L' n) (g' : Grow h' G G') (u' : Upd G h' h'') : WQ h0 h'' F' G' a b L' n := by
  have B1 := w.B.upd u w.d.symm
  have d1 := w.d.step g w.B.low
  have d2 := d1.symm.step g' A'.low
  exact ⟨A'.upd u' d1, B' B1, (w.oF.other w.oG u).other (w.oF.step u g) u', (w.oF.other w.oG u).step u' g', d2.symm⟩

theorem alike_ok {id : Int} {K : Value → Heap → Prop} (w : WQ h0 h F G a b L n) (hK : K (.bool true) h) : callS Try.prog 18 [ptr a, ptr b, I id] h K := by
  refine callS_of (link18 _ _ _ ?_)
  unfold sh18
  obtain ⟨l, R, hp⟩ := w.B
  have hlen : ∀ {K : Value → Prop}, K (I L.length) → ∀ t, (∃ v, hcell h ⟨b, 1, none⟩ = some v ∧ t = v) → pLen t K := by
    intro K hk t ht
    obtain ⟨v, bl, hr, hs, _, _⟩ := R.rep
    obtain ⟨v', hv', rfl⟩ := ht
    have := hcell1 hr
    rw [this] at hv'
    simp only [Option.some.injEq] at hv'
    subst hv'
    exact hs.lenK (by rw [hp.length_eq]; exact hk)
  obtain ⟨vb, hvb⟩ : ∃ v, hcell h ⟨b, 1, none⟩ = some v := by
    obtain ⟨v, bl, hr, hs, _, _⟩ := R.rep
    exact ⟨v, hcell1 hr⟩
  have tail : ∀ (x y : Value) (c d : Bool), (∃ m : Int, x = I m ∧ y = I m) → c = d → ∀ (u v : Value) (e f : Bool), (∃ m : Int, u = I m ∧ v = I m) → e = f →
      pBin .eql x y fun t39 => ifV t39 (pEq false .bool (.bool c) (.bool d) fun t43 => ifV t43 (pBin .eql u v fun t48 => ifV t48 (pEq false .bool (.bool e) (.bool f) fun t53 => ifV t53
        (pNil (ptr b) fun t59 => pField 1 t59 fun t60 => pLoad h t60 fun t61 => pLen t61 fun t62 => callS Try.prog 13 [ptr a] h fun t57 h_5 => (pLoad h_5 t60 fun t61_1 => t61_1 = t61) ∧ (pBin .eql t57 t62 fun t63 => K t63 h_5))
        (K (.bool false) h)) (K (.bool false) h)) (K (.bool false) h)) (K (.bool false) h) := by
    rintro _ _ c _ ⟨m, rfl, rfl⟩ rfl _ _ e _ ⟨m', rfl, rfl⟩ rfl
    simp only [pBin_eql, beq_self_eq_true, ifV_true, pEq_bool, pNil_ptr, pField_ptr, pLoad_ptr, Nat.zero_add, hvb]
    refine hlen ?_ _ ⟨vb, hvb, rfl⟩
    refine plen w.A ?_
    simp only [hvb, true_and, pBin_eql, beq_self_eq_true]
    exact hK
  have keys : ∀ (x y : Value) (c : Bool), (∃ m : Int, x = I m ∧ y = I m) →
      callS Try.prog 15 [ptr a, I id] h fun t28 h_3 => pExt t28 0 fun t29 => pExt t28 1 fun t30 => callS Try.prog 26 [ptr b, I id] h_3 fun t34 h_4 => pExt t34 0 fun t35 => pExt t34 1 fun t36 =>
        pBin .eql x y fun t39 => ifV t39 (pEq false .bool (.bool c) (.bool c) fun t43 => ifV t43 (pBin .eql t29 t35 fun t48 => ifV t48 (pEq false .bool t30 t36 fun t53 => ifV t53
        (pNil (ptr b) fun t59 => pField 1 t59 fun t60 => pLoad h_4 t60 fun t61 => pLen t61 fun t62 => callS Try.prog 13 [ptr a] h_4 fun t57 h_5 => (pLoad h_5 t60 fun t61_1 => t61_1 = t61) ∧ (pBin .eql t57 t62 fun t63 => K t63 h_5))
        (K (.bool false) h_4)) (K (.bool false) h_4)) (K (.bool false) h_4)) (K (.bool false) h_4) := by
    intro x y c hxy
    refine pkey w.A (fun hno => qkey w.B (fun _ => ?_) fun p hp e => (hno p hp e).elim) fun p hp e => qkey w.B (fun hno => (hno p hp e).elim) fun q hq e' => ?_
    · simp only [pExt0, pExt1]
      exact tail _ _ _ _ hxy rfl _ _ _ _ ⟨0, rfl, rfl⟩ rfl
    · have := id_uniq w.A.nodup hp hq (e.trans e'.symm)
      subst this
      simp only [pExt0, pExt1]
      exact tail _ _ _ _ hxy rfl _ _ _ _ ⟨_, rfl, rfl⟩ rfl
  refine pleast w.A (fun e => qleast w.B (fun _ => ?_) fun p hm => ?_) fun p hm => qleast w.B (fun e => ?_) fun q hm' => ?_
  · simp only [pExt0, pExt1]
    exact keys _ _ _ ⟨0, rfl, rfl⟩
  · subst e; simp [Min] at hm
  · subst e; simp [Min] at hm
  · have := hm'.uniq hm (.refl _)
    subst this
    simp only [pExt0, pExt1]
    exact keys _ _ _ ⟨_, rfl, rfl⟩

end

theorem plays_ok {h : Heap} {lv : Value} {bl : Nat} {xs : List OpE} {n : Int} {K : Value → Heap → Prop} (hv : VwR encO 3 h lv bl xs) (hok : ∀ x ∈ xs, okO x)
    (hK : ∀ h', Ext h h' → K (.bool true) h') : CallsH Try.prog 6 [I n, lv].toArray h K := by
  refine link6 _ _ ?_
  unfold sh6
  refine pnew fun h1 F1 a H1 n1 x1 => qnew fun h2 G2 b H2 n2 x2 => ?_
  have w0 : WQ h h2 F1 G2 a b [] (max n 0) := ⟨H1.upd x2 fun _ _ h => h, H2, ⟨x1.trans x2 fun _ h _ => h, n1⟩, ⟨x1.trans x2 fun _ h _ => h, fun c hc => Nat.le_trans x1.size (n2 c hc)⟩,
    fun c hc hG => by have := H1.low c hc; have := n2 c hG; omega⟩
  clear H1 H2 n1 n2 x1 x2
  simp only [pEq_ptr_nil, Option.isNone_some, ifV_false]
  refine alike_ok w0 ?_
  simp only [pUn_not, Bool.not_true, ifV_false]
  generalize max n 0 = N at w0
  refine LoopH_intro (fun x h' => ∃ (i : Nat) (F G : Nat → Prop) (L : List HE), x.1 = I i ∧ i ≤ 200 ∧ WQ h h' F G a b L N ∧ L.length ≤ i)
    (fun x _ => match x.1 with | .int _ n => ((200 : Int) - n).toNat | _ => 0) ⟨0, F1, G2, [], rfl, by omega, w0, by simp⟩ ?_
  clear w0
  rintro ⟨x, ⟨⟩⟩ h' Z ⟨i, F, G, L, hx, hi, w, hLl⟩ hZ
  dsimp only at hx
  subst hx
  dsimp only at hZ ⊢
  have ending : sh6_k7 Try.prog (ptr b) (ptr a) K h' := by
    clear hZ
    unfold sh6_k7
    refine LoopH_intro (fun _ hh => ∃ (F G : Nat → Prop) (L : List HE), WQ h hh F G a b L N ∧ L.length ≤ 200)
      (fun _ hh => match hcell hh ⟨b, 1, none⟩ with | some (.slice _ m _) => m | _ => 0) ⟨F, G, L, w, by omega⟩ ?_
    clear w hLl F G L
    rintro _ hh Z ⟨F, G, L, w, hLl⟩ hZ
    have hlen : ∀ {h' : Heap} {F G : Nat → Prop} {L : List HE}, WQ h h' F G a b L N → ∃ base cap, hcell h' ⟨b, 1, none⟩ = some (.slice base L.length cap) := by
      intro h' F G L w
      obtain ⟨l, R, hp⟩ := w.B
      obtain ⟨v, bl, hr, hs, _, _⟩ := R.rep
      obtain ⟨base, cap, rfl⟩ := hs.len
      exact ⟨base, cap, by rw [hcell1 hr, hp.length_eq]⟩
    obtain ⟨base, cap, hc⟩ := hlen w
    unfold sh6_L8
    simp only [hc] at hZ
    simp only [pNil_ptr, pField_ptr, pLoad_ptr, Nat.zero_add, hc, pLen_sl, pBin_gtr, ifV_dec]
    refine ⟨fun h0 => ?_, fun h0 => ?_⟩
    · have hL : L ≠ [] := fun e => by subst e; simp at h0
      refine ppop w.A (fun e => absurd e hL) fun p hp h4 F4 H4 g4 u4 => ?_
      simp only [pExt0, pExt1, pExt2]
      refine qpop (w.B.upd u4 w.d.symm) (fun e => absurd e hL) fun p' hp' h5 G5 H5 g5 u5 => ?_
      have := hp'.uniq hp (.refl _)
      subst this
      simp only [pExt0, pExt1, pExt2, pBin_neq, ifV_bne, pUn_not, Bool.not_true, ifV_false]
      refine ⟨fun e => (by simp at e), fun _ => ⟨fun e => (by simp at e), fun _ => ?_⟩⟩
      have w5 := w.step H4 g4 u4 (fun _ => H5) g5 u5
      obtain ⟨base', cap', hc'⟩ := hlen w5
      have hlt : (L.erase p').length < L.length := by
        rw [List.length_erase_of_mem hp'.1]
        have := List.length_pos_of_mem hp'.1
        omega
      refine hZ () h5 ⟨F4, G5, _, w5, by omega⟩ ?_
      simp only [hc']
      exact hlt
    · have hL : L = [] := List.eq_nil_of_length_eq_zero (by omega)
      subst hL
      refine ppop w.A (fun _ => ?_) fun p hp => by simp [Min] at hp
      simp only [pExt0, pExt1, pExt2, pUn_not, Bool.not_false, ifV_true]
      exact works_ok fun h6 x6 => hK h6 (w.oF.ext.trans x6 fun _ h _ => h)
  unfold sh6_L2
  refine hv.lenK ?_
  simp only [pBin_lss, ifV_dec]
  refine ⟨fun hlt => ⟨fun hlt2 => ?_, fun _ => ending⟩, fun _ => ending⟩
  have hil : i < xs.length := by omega
  have hk' := hv.upd w.oF.ext id
  have hop := hok _ (List.getElem_mem hil)
  generalize hxe : xs[i] = op at hop
  refine hk'.idx encO_len hil fun off hoff => ?_
  have a0 := hoff 0 (by omega)
  have a1 := hoff 1 (by omega)
  have a2 := hoff 2 (by omega)
  rw [hxe] at a0 a1 a2
  rw [show (encO op)[0]? = some (.int .u8 op.kind) from rfl, Nat.add_zero] at a0
  rw [show (encO op)[1]? = some (I op.id) from rfl] at a1
  rw [show (encO op)[2]? = some (I op.key) from rfl] at a2
  have ca : cellsAt h' bl off 3 = some [.int .u8 op.kind, I op.id, I op.key] := by simp [cellsAt, a0, a1, a2]
  simp only [pLoadN_ptr, ca]
  refine pBox_of ?_
  refine pStore_of rfl push_new rfl (by simp) (by simp [Mh.plainCell]) ?_
  have x1 : Ext h' (upd (h'.push (.cells (Value.agg #[.int .u8 0, .int .i64 0, .int .i64 0]).cells 44 (0, 0))) h'.size (.cells (over [Value.int .u8 0, Value.int .i64 0, Value.int .i64 0] 0 (Value.agg [.int .u8 op.kind, I op.id, I op.key].toArray).cells.toList).toArray 44 (0, 0))) :=
    ((Upd.push _ _ _).trans (Upd.upd (S := fun b => b = h'.size) _ _ rfl) (fun b hb hlt => by omega))
  have hf1 : (upd (h'.push (.cells (Value.agg #[.int .u8 0, .int .i64 0, .int .i64 0]).cells 44 (0, 0))) h'.size (.cells (over [Value.int .u8 0, Value.int .i64 0, Value.int .i64 0] 0 (Value.agg [.int .u8 op.kind, I op.id, I op.key].toArray).cells.toList).toArray 44 (0, 0)))[h'.size]? =
    some (.cells #[.int .u8 op.kind, I op.id, I op.key] 44 (0, 0)) := upd_self' push_new
  have hFx : ¬ F h'.size := fun e => Nat.lt_irrefl _ (w.A.low _ e)
  have hGx : ¬ G h'.size := fun e => Nat.lt_irrefl _ (w.B.low _ e)
  generalize (upd (h'.push (.cells (Value.agg #[.int .u8 0, .int .i64 0, .int .i64 0]).cells 44 (0, 0))) h'.size (.cells (over [Value.int .u8 0, Value.int .i64 0, Value.int .i64 0] 0 (Value.agg [.int .u8 op.kind, I op.id, I op.key].toArray).cells.toList).toArray 44 (0, 0))) = hA at x1 hf1
  replace w : WQ h hA F G a b L N := ⟨w.A.upd x1 fun _ _ h => h, w.B.upd x1 fun _ _ h => h, ⟨w.oF.ext.trans x1 fun _ h _ => h, w.oF.new⟩, ⟨w.oG.ext.trans x1 fun _ h _ => h, w.oG.new⟩, w.d⟩
  generalize h'.size = xb at hf1 hFx hGx
  clear x1 ending
  have cells : ∀ {hh : Heap}, hh[xb]? = some (.cells #[.int .u8 op.kind, I op.id, I op.key] 44 (0, 0)) → hcell hh ⟨xb, 0, none⟩ = some (.int .u8 op.kind) ∧ hcell hh ⟨xb, 0 + 1, none⟩ = some (I op.id) ∧ hcell hh ⟨xb, 0 + 2, none⟩ = some (I op.key) :=
    fun hc => ⟨hcell0 hc, hcell1 hc, hcell2 hc⟩
  have b0 := cells hf1
  have e3 : IntKind.i64.wrap ((i : Int) + 1) = ((i + 1 : Nat) : Int) := by rw [w64 (by omega) (by omega)]; rfl
  have fin : ∀ {hh : Heap} {F G : Nat → Prop} {L : List HE}, WQ h hh F G a b L N → L.length ≤ i + 1 → hh[xb]? = some (.cells #[.int .u8 op.kind, I op.id, I op.key] 44 (0, 0)) →
      sh6_k4 Try.prog (.pointer (some ⟨xb, 0, none⟩)) (ptr a) (ptr b) K (I i) (fun a0 hz => Z (a0, ()) hz) hh := by
    intro hh F G L w hl hc
    unfold sh6_k4
    simp only [pField_ptr, pLoad_ptr, (cells hc).2.1]
    refine alike_ok w ?_
    simp only [pUn_not, Bool.not_true, ifV_false]
    rw [pBin_add, e3]
    exact hZ _ _ ⟨i + 1, F, G, L, rfl, by omega, w, hl⟩ (by dsimp only; omega)
  have m3 : op.kind.tmod 5 = op.kind % 5 := Int.tmod_eq_emod_of_nonneg hop.1.1
  have hsm : L.length + 1 < 2 ^ 40 := by omega
  have push : ∀ t, sh6_k3 Try.prog (.pointer (some ⟨xb, 0, none⟩)) (ptr a) (ptr b) K (I i) (fun a0 hz => Z (a0, ()) hz) t (.bool true) hA := by
    intro t
    unfold sh6_k3
    simp only [ifV_true, pField_ptr, pLoad_ptr, b0]
    refine ppush w.A hsm (fun hc => ?_) fun hno i0 i1 h4 F4 H4 g4 u4 => ?_
    · simp only [b0, true_and]
      refine qpush w.B hsm (fun _ => ?_) fun hno i0 i1 => ?_
      · simp only [pBin_neq, ifV_bne]
        exact ⟨fun e => (by simp at e), fun _ => fin w (by omega) hf1⟩
      · rcases hc with ⟨p, hp, e⟩ | e
        · exact (hno p hp e).elim
        · omega
    · have hc4 := u4.get hf1 hFx
      simp only [cells hc4, true_and]
      refine qpush (w.B.upd u4 w.d.symm) hsm (fun hc => ?_) fun _ _ _ h5 G5 H5 g5 u5 => ?_
      · rcases hc with ⟨p, hp, e⟩ | e
        · exact (hno p hp e).elim
        · omega
      · simp only [pBin_neq, ifV_bne]
        exact ⟨fun e => (by simp at e), fun _ => fin (w.step H4 g4 u4 (fun _ => H5) g5 u5) (by simp; omega) (u5.get hc4 hGx)⟩
  have lower : sh6_k5 Try.prog (.pointer (some ⟨xb, 0, none⟩)) (ptr a) (ptr b) K (I i) (fun a0 hz => Z (a0, ()) hz) (.bool true) hA := by
    unfold sh6_k5
    simp only [ifV_true, pField_ptr, pLoad_ptr, b0]
    refine plower w.A (fun hc => ?_) (fun i0 i1 hno => ?_) (fun p hp e hk => ?_) fun p hp e hk h4 F4 H4 g4 u4 => ?_
    · simp only [b0, true_and]
      have two : pBin .neq (I 2) (I 2) fun t109 => ifV t109 (K (.bool false) hA) (sh6_k4 Try.prog (.pointer (some ⟨xb, 0, none⟩)) (ptr a) (ptr b) K (I i) (fun a0 hz => Z (a0, ()) hz) hA) := by
        simp only [pBin_neq, ifV_bne]
        exact ⟨fun e => (by simp at e), fun _ => fin w (by omega) hf1⟩
      exact qlower w.B (fun _ => two) (fun i0 i1 => by omega) (fun p hp _ _ _ _ => two) fun p hp e i0 i1 => by omega
    · simp only [b0, true_and]
      refine qlower w.B (fun e => by omega) (fun _ _ _ => ?_) (fun p hp _ _ e => (hno p hp e).elim) fun p hp e => (hno p hp e).elim
      simp only [pBin_neq, ifV_bne]
      exact ⟨fun e => (by simp at e), fun _ => fin w (by omega) hf1⟩
    · simp only [b0, true_and]
      have hrg := w.A.rng p hp
      refine qlower w.B (fun e => by omega) (fun _ _ hno => (hno p hp e).elim) (fun q hq _ _ e' hk' => ?_) fun q hq e' _ _ hk' => ?_
      · simp only [pBin_neq, ifV_bne]
        exact ⟨fun e => (by simp at e), fun _ => fin w (by omega) hf1⟩
      · have := id_uniq w.A.nodup hp hq (e.trans e'.symm)
        subst this; exact (hk' hk).elim
    · have hrg := w.A.rng p hp
      have hc4 := u4.get hf1 hFx
      simp only [cells hc4, true_and]
      refine qlower (w.B.upd u4 w.d.symm) (fun e => by omega) (fun _ _ hno => (hno p hp e).elim) (fun q hq _ _ e' hk' => ?_) fun q hq e' _ _ hk' h5 G5 H5 g5 u5 => ?_
      · have := id_uniq w.A.nodup hp hq (e.trans e'.symm)
        subst this; exact (hk hk').elim
      · have := id_uniq w.A.nodup hp hq (e.trans e'.symm)
        subst this
        simp only [pBin_neq, ifV_bne]
        refine ⟨fun e => (by simp at e), fun _ => fin (w.step H4 g4 u4 (fun _ => H5) g5 u5) ?_ (u5.get hc4 hGx)⟩
        rw [List.length_cons, List.length_erase_of_mem hp]; omega
  have pop : sh6_k5 Try.prog (.pointer (some ⟨xb, 0, none⟩)) (ptr a) (ptr b) K (I i) (fun a0 hz => Z (a0, ()) hz) (.bool false) hA := by
    unfold sh6_k5
    simp only [ifV_false]
    refine ppop w.A (fun e => ?_) fun p hp h4 F4 H4 g4 u4 => ?_
    · subst e
      simp only [pExt0, pExt1, pExt2]
      refine qpop w.B (fun _ => ?_) fun p hp => by simp [Min] at hp
      simp only [pExt0, pExt1, pExt2, pBin_neq, ifV_bne, pNe_bool, bne_self_eq_false, ifV_false]
      exact fin w (by omega) hf1
    · have hc4 := u4.get hf1 hFx
      simp only [pExt0, pExt1, pExt2]
      refine qpop (w.B.upd u4 w.d.symm) (fun e => by subst e; simp [Min] at hp) fun p' hp' h5 G5 H5 g5 u5 => ?_
      have := hp'.uniq hp (.refl _)
      subst this
      simp only [pExt0, pExt1, pExt2, pBin_neq, ifV_bne, pNe_bool, bne_self_eq_false, ifV_false]
      refine fin (w.step H4 g4 u4 (fun _ => H5) g5 u5) ?_ (u5.get hc4 hGx)
      rw [List.length_erase_of_mem hp'.1]; omega
  have rest : sh6_k3 Try.prog (.pointer (some ⟨xb, 0, none⟩)) (ptr a) (ptr b) K (I i) (fun a0 hz => Z (a0, ()) hz) (.int .u8 (op.kind % 5)) (.bool false) hA := by
    unfold sh6_k3
    simp only [ifV_false, pBin_eql, ifV_beq]
    refine ⟨fun e => ?_, fun e => ?_⟩
    · rw [show (op.kind % 5 == 2) = true by simpa using e]; exact lower
    · rcases Decidable.em (op.kind % 5 = 3) with e1 | e1
      · rw [show (op.kind % 5 == 3) = true by simpa using e1]; exact lower
      · rw [show (op.kind % 5 == 3) = false by simpa using e1]; exact pop
  simp only [pField_ptr, pLoad_ptr, Nat.add_zero, b0, pBin_rem, m3]
  refine ⟨by decide, ?_⟩
  simp only [pBin_eql, ifV_beq]
  refine ⟨fun e => ?_, fun e => ?_⟩
  · rw [show (op.kind % 5 == 0) = true by simpa using e]; exact push _
  · rcases Decidable.em (op.kind % 5 = 1) with e1 | e1
    · rw [show (op.kind % 5 == 1) = true by simpa using e1]; exact push _
    · rw [show (op.kind % 5 == 1) = false by simpa using e1]; exact rest

end Go.Proofs.Ytdpofmalgemcdaa
