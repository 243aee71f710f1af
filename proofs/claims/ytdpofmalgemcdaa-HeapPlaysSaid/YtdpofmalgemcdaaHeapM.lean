/- A text of the proofs of seat Ytdpofmalgemcdaa: 'HeapM'. It has no condition of its own. -/
import Derived.Test.YtdpofmalgemcdaaHeapK
set_option linter.unusedVariables false
set_option linter.unusedSimpArgs false
namespace Go.Proofs.Ytdpofmalgemcdaa
open Go Go.Mh

/-- Numbers 0 .. n-1, with these keys. -/
def mk (n : Nat) (f : Nat → Int) : List HE := (List.range n).map fun (j : Nat) => ((j : Int), f j)

theorem mk_length (n : Nat) (f : Nat → Int) : (mk n f).length = n := by simp [mk]
theorem mk_get {n i : Nat} {f : Nat → Int} (hi : i < (mk n f).length) : (mk n f)[i] = ((i : Int), f i) := by simp [mk]
theorem mk_mem {n i : Nat} {f : Nat → Int} (hi : i < n) : ((i : Int), f i) ∈ mk n f := List.mem_map.2 ⟨i, by simpa using hi, rfl⟩
theorem mk_of_mem {n : Nat} {f : Nat → Int} {p : HE} (hp : p ∈ mk n f) : ∃ j : Nat, j < n ∧ p = ((j : Int), f j) := by
  obtain ⟨j, hj, rfl⟩ := List.mem_map.1 hp
  exact ⟨j, by simpa using hj, rfl⟩
theorem mk_succ (n : Nat) (f : Nat → Int) : mk (n + 1) f = mk n f ++ [((n : Int), f n)] := by simp [mk, List.range_succ]
theorem mk_congr {n : Nat} {f g : Nat → Int} (h : ∀ j, j < n → f j = g j) : mk n f = mk n g :=
  List.map_congr_left fun j hj => by rw [h j (by simpa using hj)]
theorem mk_lower {n i : Nat} {f : Nat → Int} (v : Int) (hi : i < n) : (((i : Int), v) :: (mk n f).erase ((i : Int), f i)).Perm (mk n (fun j => if j = i then v else f j)) := by
  have hl : i < (mk n f).length := by rw [mk_length]; exact hi
  have h1 := set_perm (l := mk n f) (i := i) (a := ((i : Int), v)) hl
  rw [mk_get hl] at h1
  refine h1.symm.trans (List.Perm.of_eq ?_)
  apply List.ext_getElem
  · simp [mk_length]
  · intro j h2 h3
    rw [List.getElem_set, mk_get h3]
    by_cases e : i = j
    · subst e; simp
    · rw [if_neg e, mk_get, if_neg (fun e' => e e'.symm)]

section
variable {h h' : Heap} {F : Nat → Prop} {r n i : Nat} {N v : Int} {f : Nat → Int} {K : Value → Heap → Prop}

theorem push_mk (H : PV h F r (mk i f) N) (hs : i + 1 < 2 ^ 40) (hi : (i : Int) < N) (hv : f i = v) (hK : ∀ h' F', PV h' F' r (mk (i + 1) f) N → Grow h F F' → Upd F h h' → K (I 0) h') :
    callS Try.prog 10 [ptr r, I i, I v] h K := by
  refine ppush0 H (by rw [mk_length]; exact hs) ?_ (by omega) hi fun h' F' H' g u => hK h' F' (H'.perm ?_) g u
  · intro p hp e
    obtain ⟨j, hj, rfl⟩ := mk_of_mem hp
    simp only at e; omega
  · rw [mk_succ, hv]; exact List.perm_append_comm (l₁ := [((i : Int), v)]) (l₂ := mk i f)
theorem key_mk (H : PV h F r (mk n f) N) (hi : i < n) (hK : K (.tuple #[I (f i), .bool true]) h) : callS Try.prog 15 [ptr r, I i] h K := by
  refine pkey H (fun e => (e _ (mk_mem hi) rfl).elim) fun p hp e => ?_
  obtain ⟨j, hj, rfl⟩ := mk_of_mem hp
  simp only at e
  have : j = i := by omega
  subst this; exact hK
theorem lower_mk (H : PV h F r (mk n f) N) (hi : i < n) (hv : ¬ f i < v) (hK : ∀ h' F', PV h' F' r (mk n (fun j => if j = i then v else f j)) N → Grow h F F' → Upd F h h' → K (I 0) h') :
    callS Try.prog 16 [ptr r, I i, I v] h K :=
  plower0 H (mk_mem hi) rfl hv fun h' F' H' g u => hK h' F' (H'.perm (mk_lower v hi)) g u
end

/-- Two heaps, apart. -/
structure W2 (h0 h : Heap) (F G : Nat → Prop) (a b : Nat) (L M : List HE) (n : Int) : Prop where
  A : PV h F a L n
  B : PV h G b M n
  oF : Own h0 h F
  oG : Own h0 h G
  d : Disj F G

theorem W2.left {h0 h h' : Heap} {F G F' : Nat → Prop} {a b : Nat} {L M L' : List HE} {n : Int} (w : W2 h0 h F G a b L M n) (A' : PV h' F' a L' n) (g : Grow h F F') (u : Upd F h h') : W2 h0 h' F' G a b L' M n :=
  ⟨A', w.B.upd u w.d.symm, w.oF.step u g, w.oF.other w.oG u, w.d.step g w.B.low⟩
theorem W2.right {h0 h h' : Heap} {F G G' : Nat → Prop} {a b : Nat} {L M M' : List HE} {n : Int} (w : W2 h0 h F G a b L M n) (B' : PV h' G' b M' n) (g : Grow h G G') (u : Upd G h h') : W2 h0 h' F G' a b L M' n :=
  ⟨w.A.upd u w.d, B', w.oG.other w.oF u, w.oG.step u g, (w.d.symm.step g w.A.low).symm⟩

def encS (k : IntKind) (x : Int) : List Value := [.int k x]
theorem encS_len (k : IntKind) (x : Int) : (encS k x).length = 1 := rfl

/-- An element read. -/
theorem read1 {h : Heap} {v : Value} {bl : Nat} {k : IntKind} {ys : List Int} {i : Nat} {K : Value → Prop} (H : VwR (encS k) 1 h v bl ys) (hi : i < ys.length) (hK : K (.int k ys[i])) : pIdx 1 v (I i) fun t => pLoad h t K := by
  refine H.idx (encS_len k) hi fun o ho => ?_
  have hc := ho 0 (by omega)
  rw [Nat.add_zero, show (encS k ys[i])[0]? = some (.int k ys[i]) from rfl] at hc
  simp only [pLoad_ptr, hc]
  exact hK

theorem lowers_ok {h : Heap} {kv mv : Value} {bl bm : Nat} {xs ms : List Int} {K : Value → Heap → Prop} (hv : VwR (encS .i32) 1 h kv bl xs) (hm : VwR (encS .u16) 1 h mv bm ms)
    (hxs : ∀ x ∈ xs, -2147483648 ≤ x ∧ x ≤ 2147483647) (hms : ∀ x ∈ ms, 0 ≤ x ∧ x ≤ 65535) (hK : ∀ h', Ext h h' → K (.bool true) h') : CallsH Try.prog 4 [kv, mv].toArray h K := by
  refine link4 _ _ ?_
  unfold sh4
  refine works_ok fun h1 x1 => ?_
  simp only [pUn_not, Bool.not_true, ifV_false]
  refine hv.lenK ?_
  rw [pMin_int]
  obtain ⟨N, hN, hN'⟩ : ∃ N : Nat, (if (100 : Int) < xs.length then (100 : Int) else xs.length) = N ∧ (N ≤ xs.length ∧ N ≤ 100) := by
    by_cases h : (100 : Int) < xs.length
    · exact ⟨100, by simp [h], by omega, by omega⟩
    · exact ⟨xs.length, by simp [h], by omega, by omega⟩
  rw [hN]
  refine VwR.sub (i := 0) (j := N) (encS_len _) hv rfl rfl (by omega) hN'.1 fun ks hks => ?_
  simp only [List.drop_zero, Nat.sub_zero] at hks
  obtain ⟨ys, hys, hyl⟩ : ∃ ys, ys = xs.take N ∧ ys.length = N := ⟨_, rfl, by simp; omega⟩
  have hylo : ∀ x ∈ ys, -2147483648 ≤ x ∧ x ≤ 2147483647 := fun x hx => hxs x (List.mem_of_mem_take (hys ▸ hx))
  rw [← hys] at hks
  clear hys hN
  have hN3 := hN'.2
  clear hN' hxs
  refine hks.lenK ?_
  rw [hyl]
  refine pnew fun h2 F2 a H2 n2 x2 => pnew fun h3 G3 b H3 n3 x3 => ?_
  rw [show max (N : Int) 0 = N by omega] at H2 H3
  have w0 : W2 h h3 F2 G3 a b [] [] N := ⟨H2.upd x3 fun _ _ h => h, H3, ⟨(x1.trans x2 fun _ h _ => h).trans x3 fun _ h _ => h, fun c hc => Nat.le_trans x1.size (n2 c hc)⟩,
    ⟨(x1.trans x2 fun _ h _ => h).trans x3 fun _ h _ => h, fun c hc => Nat.le_trans x1.size (Nat.le_trans x2.size (n3 c hc))⟩, fun c hc hG => by have := H2.low c hc; have := n3 c hG; omega⟩
  clear H2 H3 x1 x2 x3 n2 n3
  let ka : Nat → Int := fun j => ys.getD j 0
  let kb : Nat → Int := fun j => ys.getD j 0 + ms.getD j 0
  have hka : ∀ j (hj : j < ys.length), ka j = ys[j] := fun j hj => by simp [ka, hj]
  have hkar : ∀ j, -2147483648 ≤ ka j ∧ ka j ≤ 2147483647 := by
    intro j
    by_cases hj : j < ys.length
    · rw [hka j hj]; exact hylo _ (List.getElem_mem hj)
    · simp [ka, hj]
  have hmr : ∀ j, 0 ≤ ms.getD j 0 ∧ ms.getD j 0 ≤ 65535 := by
    intro j
    by_cases hj : j < ms.length
    · have := hms _ (List.getElem_mem hj); simpa [hj] using this
    · simp [hj]
  have hkb : ∀ j, kb j = ka j + ms.getD j 0 := fun j => rfl
  refine LoopH_intro (fun x h' => ∃ (i : Nat) (F G : Nat → Prop), x.1 = I i ∧ i ≤ N ∧ W2 h h' F G a b (mk i ka) (mk i kb) N)
    (fun x _ => match x.1 with | .int _ n => ((N : Int) - n).toNat | _ => 0) ⟨0, F2, G3, rfl, Nat.zero_le _, w0⟩ ?_
  rintro ⟨x, ⟨⟩⟩ h' Z ⟨i, F, G, hx, hi, w⟩ hZ
  dsimp only at hx
  subst hx
  dsimp only at hZ ⊢
  clear w0
  unfold sh4_L1
  simp only [pBin_lss, ifV_dec]
  refine ⟨fun hlt => ?_, fun hge => ?_⟩
  · have hiy : i < ys.length := by omega
    have tail : ∀ up : Int, up = ms.getD i 0 → sh4_k2 Try.prog ks (I i) (ptr a) K (ptr b) (fun a0 hz => Z (a0, ()) hz) (I up) h' := by
      intro up hup
      unfold sh4_k2
      refine read1 (hks.upd w.oF.ext id) hiy ?_
      rw [pConv_int, ← hka i hiy, w64 (by have := hkar i; omega) (by have := hkar i; omega)]
      refine push_mk w.A (by omega) (by omega) rfl fun h4 F4 H4 g4 u4 => ?_
      have w4 := w.left H4 g4 u4
      simp only [pBin_neq, ifV_bne]
      refine ⟨fun e => (by simp at e), fun _ => ?_⟩
      refine read1 (hks.upd w4.oF.ext id) hiy ?_
      have hr1 := hkar i
      have hr2 := hmr i
      rw [pConv_int, ← hka i hiy, w64 (by omega) (by omega), pBin_add, w64 (by omega) (by omega)]
      refine push_mk w4.B (by omega) (by omega) (by rw [hkb, hup]) fun h5 G5 H5 g5 u5 => ?_
      have w5 := w4.right H5 g5 u5
      simp only [pBin_neq, ifV_bne]
      refine ⟨fun e => (by simp at e), fun _ => ?_⟩
      have e3 : IntKind.i64.wrap ((i : Int) + 1) = ((i + 1 : Nat) : Int) := by rw [w64 (by omega) (by omega)]; rfl
      rw [pBin_add, e3]
      exact hZ _ _ ⟨i + 1, F4, G5, rfl, by omega, w5⟩ (by dsimp only; omega)
    refine hm.lenK ?_
    simp only [pBin_lss, ifV_dec]
    refine ⟨fun hl => ?_, fun hl => tail 0 (by simp [show ¬ i < ms.length by omega])⟩
    refine read1 (hm.upd w.oF.ext id) (i := i) (by omega) ?_
    have hr2 := hmr i
    have e : ms[i]'(by omega) = ms.getD i 0 := by simp [show i < ms.length by omega]
    rw [pConv_int, e, w64 (by omega) (by omega)]
    exact tail _ rfl
  · have hiN : i = N := by omega
    subst hiN
    clear hZ Z hge
    rw [pBin_sub, w64 (by omega) (by omega)]
    refine LoopH_intro (fun x hh => ∃ (j : Nat) (F G : Nat → Prop), x.1 = I ((j : Int) - 1) ∧ j ≤ i ∧ W2 h hh F G a b (mk i ka) (mk i (fun q => if q < j then kb q else ka q)) i)
      (fun x _ => match x.1 with | .int _ n => (n + 1).toNat | _ => 0) ⟨i, F, G, rfl, Nat.le_refl _, by
        rw [mk_congr (f := fun q => if q < i then kb q else ka q) (g := kb) fun j hj => by simp [hj]]; exact w⟩ ?_
    clear w
    rintro ⟨x, ⟨⟩⟩ hh Z ⟨j, F, G, hx, hj, w⟩ hZ
    dsimp only at hx
    subst hx
    dsimp only at hZ ⊢
    unfold sh4_L4
    simp only [pBin_geq, ifV_dec]
    refine ⟨fun h0 => ?_, fun h0 => ?_⟩
    · obtain ⟨q, rfl⟩ : ∃ q, j = q + 1 := ⟨j - 1, by omega⟩
      rw [show ((q + 1 : Nat) : Int) - 1 = (q : Int) by omega]
      have hqy : q < ys.length := by omega
      refine key_mk w.B (by omega) ?_
      rw [if_pos (by omega)]
      simp only [pExt0, pExt1]
      have hr1 := hkar q
      have hr2 := hmr q
      have hr3 := hkb q
      refine read1 (hks.upd w.oF.ext id) hqy ?_
      rw [pConv_int, ← hka q hqy, w64 (by omega) (by omega)]
      refine read1 (hks.upd w.oF.ext id) hqy ?_
      rw [pConv_int, ← hka q hqy, w64 (by omega) (by omega), pBin_sub, w64 (by omega) (by omega), pBin_quo]
      refine ⟨by omega, ?_⟩
      rw [Int.tdiv_eq_ediv_of_nonneg (by omega), w64 (by omega) (by omega), pBin_add, w64 (by omega) (by omega)]
      simp only [pUn_not, Bool.not_true, ifV_false]
      refine lower_mk w.B (by omega) (by simp) fun h4 G4 H4 g4 u4 => ?_
      have w4 := w.right H4 g4 u4
      simp only [pBin_neq, ifV_bne]
      refine ⟨fun e => (by simp at e), fun _ => ?_⟩
      refine lower_mk w4.B (by omega) (by simp; omega) fun h5 G5 H5 g5 u5 => ?_
      have w5 := w4.right H5 g5 u5
      simp only [pBin_neq, ifV_bne]
      refine ⟨fun e => (by simp at e), fun _ => ?_⟩
      refine read1 (hks.upd w5.oF.ext id) hqy ?_
      rw [pConv_int, ← hka q hqy, w64 (by omega) (by omega)]
      refine lower_mk w5.B (by omega) (by simp; omega) fun h6 G6 H6 g6 u6 => ?_
      have w6 := w5.right H6 g6 u6
      simp only [pBin_neq, ifV_bne]
      refine ⟨fun e => (by simp at e), fun _ => ?_⟩
      rw [pBin_sub, w64 (by omega) (by omega)]
      refine hZ _ _ ⟨q, F, G6, rfl, by omega, ?_⟩ (by dsimp only; omega)
      have e := mk_congr (n := i) (f := fun j => if j = q then ka q else if j = q then ka q + (kb q - ka q) / 2 else if j = q then kb q else if j < q + 1 then kb j else ka j)
        (g := fun j => if j < q then kb j else ka j) fun p hp => by
          by_cases e : p = q
          · subst e; simp
          · by_cases e2 : p < q
            · simp [e, e2, show p < q + 1 by omega]
            · simp [e, e2, show ¬ p < q + 1 by omega]
      rw [e] at w6
      exact w6
    · have hj0 : j = 0 := by omega
      subst hj0
      rw [mk_congr (f := fun q => if q < 0 then kb q else ka q) (g := ka) fun p _ => by simp] at w
      clear hZ Z h0
      refine LoopH_intro (fun x hh => ∃ (j : Nat) (F G : Nat → Prop) (M : List HE), x.1 = I j ∧ j + M.length = i ∧ W2 h hh F G a b M M i)
        (fun x _ => match x.1 with | .int _ n => ((i : Int) - n).toNat | _ => 0) ⟨0, F, G, _, rfl, by rw [mk_length]; omega, w⟩ ?_
      clear w F G hh
      rintro ⟨x, ⟨⟩⟩ hh Z ⟨j, F, G, M, hx, hj, w⟩ hZ
      dsimp only at hx
      subst hx
      dsimp only at hZ ⊢
      unfold sh4_L6
      simp only [pBin_lss, ifV_dec]
      refine ⟨fun hlt => ?_, fun hge => ?_⟩
      · have hM : M ≠ [] := fun e => by subst e; simp at hj; omega
        refine ppop w.A (fun e => absurd e hM) fun p hp h4 F4 H4 g4 u4 => ?_
        have w4 := w.left H4 g4 u4
        simp only [pExt0, pExt1, pExt2]
        refine ppop w4.B (fun e => absurd e hM) fun p' hp' h5 G5 H5 g5 u5 => ?_
        have w5 := w4.right H5 g5 u5
        have := hp'.uniq hp (.refl _)
        subst this
        simp only [pExt0, pExt1, pExt2, pUn_not, Bool.not_true, ifV_false, pBin_neq, ifV_bne]
        refine ⟨fun e => (by simp at e), fun _ => ⟨fun e => (by simp at e), fun _ => ?_⟩⟩
        have e3 : IntKind.i64.wrap ((j : Int) + 1) = ((j + 1 : Nat) : Int) := by rw [w64 (by omega) (by omega)]; rfl
        rw [pBin_add, e3]
        have hlen' : (M.erase p').length + 1 = M.length := by
          rw [List.length_erase_of_mem hp'.1]
          have := List.length_pos_of_mem hp'.1
          omega
        exact hZ _ _ ⟨j + 1, F4, G5, _, rfl, by omega, w5⟩ (by dsimp only; omega)
      · have hM : M = [] := List.eq_nil_of_length_eq_zero (by omega)
        subst hM
        refine plen w.A ?_
        simp only [pBin_eql, ifV_beq]
        refine ⟨fun _ => plen w.B ?_, fun e => (by simp at e)⟩
        simp only [pBin_eql]
        exact hK _ w.oF.ext

end Go.Proofs.Ytdpofmalgemcdaa
