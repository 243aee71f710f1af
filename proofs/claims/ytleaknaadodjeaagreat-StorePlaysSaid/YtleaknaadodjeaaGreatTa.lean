/- Texts of the proofs of seat YtleaknaadodjeaaGreat, joined: LiA, DkA, DkB, DkC, DkD, DkM, DkE, DkF, DkG, DkH, DkI, DkJ. They have no conditions of their own. -/
import Derived.Test.YtleaknaadodjeaaGreatGa
import Derived.Test.YtleaknaadodjeaaGreatMc
import Derived.Test.YtleaknaadodjeaaGreatMd
import Derived.Laws.Externs
import Derived.MapKept
import Derived.WalkKit
import Derived.CallsIn
set_option linter.unusedVariables false
set_option linter.unusedSimpArgs false
set_option linter.unusedSectionVars false

namespace Go.Proofs.YtleaknaadodjeaaGreat
open Go Go.Mh
set_option linter.unusedVariables false

section
variable {α : Type} {enc : α → List Value} {n bytes : Nat} {T : TypeId} {h0 h : Heap} {L : List Res} {K : Value → Heap → Prop} {s : Value} {xs : List α} {z : List Value}

theorem clone_gen (o : Own h0 h L) (H : Vw enc n h s xs) (he : ∀ a, (enc a).length = n) (hp : ∀ a, ∀ u ∈ enc a, Mh.plainCell u = true) (hz : z.length = n) (hby : 0 < bytes) (hl : xs.length * bytes ≤ 2 ^ 47)
    (hK : ∀ v' h', Own h0 h' (slR enc n T v' xs :: L) → K v' h') :
    pEq false .slice s (.slice none 0 0) fun t4 => ifV t4 (K (.slice none 0 0) h) (pBuildSlice T (zerosL z 0) [] 0 h fun t5 h_1 => pAppend T n bytes z t5 s h_1 fun t7 h_2 => K t7 h_2) := by
  obtain ⟨b, c, rfl⟩ := H.isSl
  simp only [pEq_slice_nil]
  rw [ifV_bool]
  refine ⟨fun hb => ?_, fun _ => ?_⟩
  · obtain ⟨bl, b', c', e, _, H'⟩ := H
    injection e with e1 e2 e3
    subst e1
    cases b with
    | some a => cases hb
    | none =>
      rcases H' with ⟨rfl, _⟩ | ⟨_, _, _, _, _, e, _⟩
      · exact hK _ _ o.nilS
      · cases e
  · refine (Own.start h).build (enc := enc) (n := n) ([] : List α) (by simp [zerosL, spliceAll, row]) (sizesOk_of rfl) rfl fun w h1 o1 => ?_
    exact o1.app 0 rfl he hp hz (H.more o1.ext) hby (by simpa using hl) fun v' h' o' => hK v' h' (o.frame o')

end

/-! ### slices.Repeat of one element -/

theorem and_low {n : Nat} (hn : n < 4294967296) : (BitVec.ofInt 64 (n : Int) &&& BitVec.ofInt 64 4294967295).toNat = n := by
  have e1 : (BitVec.ofInt 64 (n : Int)).toNat = n := by simp [BitVec.toNat_ofInt]; omega
  have e2 : (BitVec.ofInt 64 4294967295).toNat = 4294967295 := rfl
  rw [BitVec.toNat_and, e1, e2, show 4294967295 = 2 ^ 32 - 1 from rfl, Nat.and_two_pow_sub_one_eq_mod]
  omega

theorem u64w {n : Int} (h0 : 0 ≤ n) (h1 : n ≤ 18446744073709551615) : IntKind.u64.wrap n = n := wrap_in h0 h1

section
variable {k k' : IntKind} {a b : Int} {K : Value → Prop}
theorem pBin_and : pBin .and (.int k a) (.int k b) K ↔ K (.int k (k.wrap (BitVec.ofInt k.bits a &&& BitVec.ofInt k.bits b).toNat)) := by simp [pBin]
theorem pBin_shr : pBin .shr (.int k a) (.int k' b) K ↔ 0 ≤ b ∧ K (.int k (a.fdiv (2 ^ (min b.toNat k.bits)))) := by simp [pBin]
end

end Go.Proofs.YtleaknaadodjeaaGreat

namespace Go.Proofs.YtleaknaadodjeaaGreat
open Go Go.Mh
set_option linter.unusedVariables false

section
variable {h0 h : Heap} {L : List Res} {K : Value → Heap → Prop} {vd : Value}

theorem encS_plain (x : ByteArray) : ∀ u ∈ encS x, Mh.plainCell u = true := by intro u hu; simp [encS] at hu; subst hu; rfl

theorem pIdxB_any {s : ByteArray} {i : Nat} {k : IntKind} {K : Value → Prop} (hi : i < s.size) (hK : ∀ b : Int, K (.int .u8 b)) : pIdxS (.string s) (.int k i) K := by
  refine ⟨by omega, ?_⟩
  rw [Int.toNat_natCast, getElem?_pos s i hi]
  exact hK _

set_option maxRecDepth 100000 in
theorem lenB_ok {n : Nat} (hn : n < 256) (hK : ∀ z : Int, K (I z) h) : callS Tryz.prog F_math_bits_Len [.int .u64 n] h K := by
  refine callS_of (lk_math_bits_Len _ ?_)
  unfold sh_math_bits_Len
  refine callS_of (lk_math_bits_Len64 _ ?_)
  unfold sh_math_bits_Len64 sh_math_bits_Len64_k1 sh_math_bits_Len64_k2 sh_math_bits_Len64_k3
  rw [pBin_geq, decide_eq_false (by omega), ifV_false, pBin_geq, decide_eq_false (by omega), ifV_false, pBin_geq, decide_eq_false (by omega), ifV_false]
  rw [pConv_int, show IntKind.u8.wrap (n : Int) = (n : Int) from wrap_in (show (0 : Int) ≤ n by omega) (show (n : Int) ≤ 255 by omega)]
  refine pIdxB_any ?_ fun b => ?_
  · refine Nat.lt_of_lt_of_eq hn (Eq.symm ?_)
    kernel_rfl
  · rw [pConv_int, pBin_add]
    exact hK _

theorem lessB_int {a b : Int} (hK : K (.bool (ltI a b)) h) : callS Tryz.prog F_cmp_Less_int [I a, I b] h K := by
  refine callS_of (lk_cmp_Less_int _ _ ?_)
  unfold sh_cmp_Less_int
  refine callS_of (lk_cmp_isNaN_int _ ?_)
  unfold sh_cmp_isNaN_int
  rw [pBin_neq, bne_self_eq_false]
  dsimp only
  rw [ifV_false, pBin_lss]
  exact hK

theorem lessB_string {a b : ByteArray} (hK : K (.bool (ltS a b)) h) : callS Tryz.prog F_cmp_Less_string [.string a, .string b] h K := by
  refine callS_of (lk_cmp_Less_string _ _ ?_)
  unfold sh_cmp_Less_string
  refine callS_of (lk_cmp_isNaN_string _ ?_)
  unfold sh_cmp_isNaN_string
  rw [pBin_neqS, decide_eq_true rfl, Bool.not_true]
  dsimp only
  rw [ifV_false, pBin_lssS]
  exact hK

theorem setSame {α : Type} {L : List α} {i : Nat} {r : α} (hi : L[i]? = some r) : L.set i r = L := by
  apply List.ext_getElem?
  intro n
  by_cases e : n = i
  · subst e; rw [hi, List.getElem?_set_self (List.getElem?_eq_some_iff.1 hi).1]
  · rw [List.getElem?_set_ne (fun h => e h.symm)]

/-- One place of an insertion sort: A, x, B, R; x goes ahead of all of B. -/
theorem ins_get {α : Type} {A B R : List α} {x : α} : (A ++ x :: B ++ R)[A.length]? = some x := by simp
theorem ins_pre {α : Type} {A B R : List α} {x y : α} : ((A ++ [y]) ++ x :: B ++ R)[A.length]? = some y := by simp
theorem ins_swap {α : Type} {A B R : List α} {x y : α} : ((((A ++ [y]) ++ x :: B ++ R).set (A.length + 1) y).set A.length x) = A ++ x :: (y :: B) ++ R := by
  rw [show (A ++ [y]) ++ x :: B ++ R = A ++ (y :: x :: (B ++ R)) by simp, List.set_append_right _ _ (by omega), show A.length + 1 - A.length = 1 by omega, List.set_append_right _ _ (Nat.le_refl _), Nat.sub_self]
  simp

set_option maxHeartbeats 4000000 in
theorem insB_int {q : Nat} {xs : List Int} (o : Own h0 h L) (hq : L[q]? = some (slR encI 1 T_int vd xs)) (hl : xs.length < 2 ^ 40)
    (hK : ∀ ys h', ys.Perm xs → Srt ltI ys → Own h0 h' (L.set q (slR encI 1 T_int vd ys)) → K (.tuple #[]) h') : callS Tryz.prog F_slices_insertionSortOrdered_int [vd, I (0 : Nat), I xs.length] h K := by
  refine callS_of (lk_slices_insertionSortOrdered_int _ _ _ ?_)
  unfold sh_slices_insertionSortOrdered_int
  rw [pBin_add, wI 0 (by decide)]
  refine LoopH_count (xs.length - 1) (fun i x h' => x.1 = I (i + 1 : Nat) ∧ ∃ S R, S.length = min (i + 1) xs.length ∧ (S ++ R).Perm xs ∧ Srt ltI S ∧ Own h0 h' (L.set q (slR encI 1 T_int vd (S ++ R)))) ⟨rfl, xs.take 1, xs.drop 1, by rw [List.length_take], by rw [List.take_append_drop], ?_, by rw [List.take_append_drop, setSame hq]; exact o⟩ ?_
  · cases xs with
    | nil => exact .nil
    | cons a l => exact List.pairwise_singleton ..
  clear o
  rintro i ⟨x, ⟨⟩⟩ h1 Z hi ⟨hx, S, R, hSl, hp, hs, o⟩ hZ
  dsimp only at hx hZ ⊢
  subst hx
  have hlp := hp.length_eq
  rw [List.length_append] at hlp
  unfold sh_slices_insertionSortOrdered_int_L1
  rw [pBin_lss, ifV_dec]
  refine ⟨fun hlt => ?_, fun hge => ?_⟩
  case refine_2 =>
    have hR : R = [] := List.eq_nil_of_length_eq_zero (by omega)
    subst hR
    rw [List.append_nil] at o hp
    exact hK S h1 hp hs o
  have hlt : i + 1 < xs.length := by omega
  obtain ⟨v, R, rfl⟩ : ∃ v R', R = v :: R' := by
    cases R with
    | nil => simp at hlp; omega
    | cons v R => exact ⟨v, R, rfl⟩
  have hsq : ∀ {ys : List Int}, (L.set q (slR encI 1 T_int vd ys))[q]? = some (slR encI 1 T_int vd ys) := set_get hq
  refine LoopH_down (fun j x h' => x.1 = I j ∧ ∃ A B, A.length = j ∧ S = A ++ B ∧ (∀ b ∈ B, ltI v b = true) ∧ Own h0 h' (L.set q (slR encI 1 T_int vd (A ++ v :: B ++ R)))) (k0 := i + 1) ⟨rfl, S, [], by omega, by simp, fun _ h => (by cases h), by rw [List.append_assoc]; exact o⟩ ?_
  clear o
  rintro j ⟨x, ⟨⟩⟩ h2 Z1 ⟨hx, A, B, hA, rfl, hB, o⟩ hZ1
  dsimp only at hx hZ1 ⊢
  subst hx
  have hj : j ≤ i + 1 := by
    have := hSl; rw [List.length_append] at this; omega
  unfold sh_slices_insertionSortOrdered_int_L2
  have out : ∀ h', (∀ a ∈ A, ltI v a = false) → Own h0 h' (L.set q (slR encI 1 T_int vd (A ++ v :: B ++ R))) → pBin .add (I (i + 1 : Nat)) (.int .i64 1) fun t16 => Z (t16, ()) h' := fun h' ha o' => by
    rw [pBin_add, wI (i + 1) (by omega)]
    refine hZ (_, ()) h' (by omega) ⟨rfl, A ++ v :: B, R, ?_, ?_, ?_, o'⟩
    · rw [List.length_append] at hSl ⊢; simp only [List.length_cons]; omega
    · refine List.Perm.trans ?_ hp
      simp only [List.append_assoc, List.cons_append]
      refine List.Perm.append_left A ?_
      exact (List.perm_middle (a := v) (l₁ := B) (l₂ := R)).symm
    · have hs' := List.pairwise_append.1 hs
      refine List.pairwise_append.2 ⟨hs'.1, List.pairwise_cons.2 ⟨fun b hb => ltI_ok.asy _ _ (hB b hb), hs'.2.1⟩, fun a ha' b hb => ?_⟩
      rcases List.mem_cons.1 hb with rfl | hb
      · exact ha a ha'
      · exact hs'.2.2 a ha' b hb
  refine cutP_of (fun y h' => Own h0 h' (L.set q (slR encI 1 T_int vd (A ++ v :: B ++ R))) ∧ ((y.1 = .bool true ∧ ∃ A' y', A = A' ++ [y'] ∧ ltI v y' = true) ∨ (y.1 = .bool false ∧ ∀ a ∈ A, ltI v a = false))) (fun J hJ => ?_) ?_
  · rw [pBin_gtr, ifV_dec]
    refine ⟨fun hpos => ?_, fun hz => hJ _ _ ⟨o, .inr ⟨rfl, ?_⟩⟩⟩
    case refine_2 =>
      have : A = [] := List.eq_nil_of_length_eq_zero (by omega)
      subst this; intro a h; cases h
    obtain ⟨A', y, rfl⟩ : ∃ A' y, A = A' ++ [y] := by
      have hne : A ≠ [] := by rintro rfl; simp at hA; omega
      exact ⟨A.dropLast, A.getLast hne, (List.dropLast_concat_getLast hne).symm⟩
    have hA' : j = A'.length + 1 := by rw [← hA]; simp
    subst hA'
    have lt1 : A'.length + 1 < (A' ++ [y] ++ v :: B ++ R).length := by simp
    have g1 : (A' ++ [y] ++ v :: B ++ R)[A'.length + 1] = v := by
      have := ins_get (A := A' ++ [y]) (B := B) (R := R) (x := v)
      rw [show (A' ++ [y]).length = A'.length + 1 by simp, List.getElem?_eq_getElem lt1] at this
      exact Option.some.inj this
    have lt0 : A'.length < (A' ++ [y] ++ v :: B ++ R).length := by omega
    have g0 : (A' ++ [y] ++ v :: B ++ R)[A'.length] = y := by
      have := ins_pre (A := A') (B := B) (R := R) (x := v) (y := y)
      rw [List.getElem?_eq_getElem lt0] at this
      exact Option.some.inj this
    refine (o.vw q hsq).at1 (e := fun (x : Int) => I x) (fun _ => rfl) lt1 ?_
    rw [g1, pBin_sub, w64 (by omega) (by omega), show ((A'.length + 1 : Nat) : Int) - 1 = (A'.length : Int) by omega]
    refine (o.vw q hsq).at1 (e := fun (x : Int) => I x) (fun _ => rfl) lt0 ?_
    rw [g0]
    refine lessB_int ?_
    cases hc : ltI v y with
    | true => exact hJ _ _ ⟨o, .inl ⟨rfl, A', y, rfl, hc⟩⟩
    | false =>
      refine hJ _ _ ⟨o, .inr ⟨rfl, fun a ha => ?_⟩⟩
      rcases List.mem_append.1 ha with ha | ha
      · have hs' := (List.pairwise_append.1 (List.pairwise_append.1 hs).1).2.2 a ha y (by simp)
        cases hva : ltI v a with
        | false => rfl
        | true =>
          rcases ltI_ok.neg v y a hva with h | h
          · rw [hc] at h; cases h
          · rw [hs'] at h; cases h
      · rw [List.mem_singleton.1 ha]; exact hc
  · rintro ⟨y, ⟨⟩⟩ h3 ⟨o3, ⟨hy, A', y', rfl, hvy⟩ | ⟨hy, hall⟩⟩
    · dsimp only at hy ⊢
      subst hy
      clear o
      unfold sh_slices_insertionSortOrdered_int_C3
      rw [ifV_true]
      have hA' : j = A'.length + 1 := by rw [← hA]; simp
      subst hA'
      have lt1 : A'.length + 1 < (A' ++ [y'] ++ v :: B ++ R).length := by simp
      have g1 : (A' ++ [y'] ++ v :: B ++ R)[A'.length + 1] = v := by
        have := ins_get (A := A' ++ [y']) (B := B) (R := R) (x := v)
        rw [show (A' ++ [y']).length = A'.length + 1 by simp, List.getElem?_eq_getElem lt1] at this
        exact Option.some.inj this
      have lt0 : A'.length < (A' ++ [y'] ++ v :: B ++ R).length := by omega
      have g0 : (A' ++ [y'] ++ v :: B ++ R)[A'.length] = y' := by
        have := ins_pre (A := A') (B := B) (R := R) (x := v) (y := y')
        rw [List.getElem?_eq_getElem lt0] at this
        exact Option.some.inj this
      rw [pBin_sub, w64 (by omega) (by omega), show ((A'.length + 1 : Nat) : Int) - 1 = (A'.length : Int) by omega]
      rw [pBin_sub, w64 (by omega) (by omega), show ((A'.length + 1 : Nat) : Int) - 1 = (A'.length : Int) by omega]
      refine (o3.vw q hsq).at1 (e := fun (x : Int) => I x) (fun _ => rfl) lt0 ?_
      refine (o3.vw q hsq).at1 (e := fun (x : Int) => I x) (fun _ => rfl) lt1 ?_
      rw [g0, g1]
      refine o3.setAt (a := y') q hsq (fun _ => rfl) (encI_plain _) lt1 rfl fun h4 o4 => ?_
      rw [List.set_set] at o4
      refine o4.setAt (a := v) q hsq (fun _ => rfl) (encI_plain _) (by rw [List.length_set]; exact lt0) rfl fun h5 o5 => ?_
      rw [List.set_set, ins_swap] at o5
      rw [pBin_sub, w64 (by omega) (by omega), show ((A'.length + 1 : Nat) : Int) - 1 = (A'.length : Int) by omega]
      refine hZ1 (_, ()) h5 A'.length (by omega) ⟨rfl, A', y' :: B, rfl, by simp, fun b hb => ?_, o5⟩
      rcases List.mem_cons.1 hb with rfl | hb
      · exact hvy
      · exact hB b hb
    · dsimp only at hy ⊢
      subst hy
      unfold sh_slices_insertionSortOrdered_int_C3
      rw [ifV_false]
      exact out h3 hall o3

theorem pdqB_int {q : Nat} {lim : Value} {xs : List Int} (o : Own h0 h L) (hq : L[q]? = some (slR encI 1 T_int vd xs)) (hl : xs.length ≤ 12)
    (hK : ∀ ys h', ys.Perm xs → Srt ltI ys → Own h0 h' (L.set q (slR encI 1 T_int vd ys)) → K (.tuple #[]) h') : callS Tryz.prog F_slices_pdqsortOrdered_int [vd, I (0 : Nat), I xs.length, lim] h K := by
  refine callS_of (lk_slices_pdqsortOrdered_int _ _ _ _ ?_)
  unfold sh_slices_pdqsortOrdered_int
  refine LoopH_count 0 (fun _ x h' => x.1 = I (0 : Nat) ∧ x.2.1 = I xs.length ∧ h' = h) ⟨rfl, rfl, rfl⟩ ?_
  rintro i ⟨x, y, z, b1, b2, ⟨⟩⟩ h' Z hi ⟨hx, hy, rfl⟩ hZ
  dsimp only at hx hy ⊢
  subst hx hy
  unfold sh_slices_pdqsortOrdered_int_L1
  rw [pBin_sub, w64 (by omega) (by omega), pBin_leq, decide_eq_true (by omega), ifV_true]
  exact insB_int o hq (by omega) hK

theorem sortB_int {q : Nat} {xs : List Int} (o : Own h0 h L) (hq : L[q]? = some (slR encI 1 T_int vd xs)) (hl : xs.length ≤ 12)
    (hK : ∀ ys h', ys.Perm xs → Srt ltI ys → Own h0 h' (L.set q (slR encI 1 T_int vd ys)) → K (.tuple #[]) h') : callS Tryz.prog F_slices_Sort_sl_int_int [vd] h K := by
  refine callS_of (lk_slices_Sort_sl_int_int _ ?_)
  unfold sh_slices_Sort_sl_int_int
  refine (o.vw q hq).len ?_
  rw [pConv_int, u64w (by omega) (by omega)]
  exact lenB_ok (by omega) fun z => pdqB_int o hq hl hK

/-- slices.Collect of what yields a row at a time. -/
theorem collectB_int {fv : Value} {Q : Heap → Prop} {σ : Type} {s0 : σ} {next : σ → List Value → σ → Prop} {stop : σ → Prop} (o : Own h0 h L) (hI : IterG Tryz.prog fv Q s0 next stop) (g : σ → List Int) (g0 : g s0 = [])
    (hf : ∀ s x s', next s x s' → ∃ a, x = [I a] ∧ g s' = g s ++ [a] ∧ (g s').length < 2 ^ 40) (hQ : ∀ (Rs : List Res) h', Own h0 h' (Rs ++ L) → Q h')
    (hK : ∀ w h' s, stop s → Own h0 h' (slR encI 1 T_int w (g s) :: L) → K w h') : callS Tryz.prog F_slices_Collect_int [fv] h K := by
  refine callS_of (lk_slices_Collect_int _ ?_)
  unfold sh_slices_Collect_int
  refine callS_of (lk_slices_AppendSeq_sl_int_int _ _ ?_)
  unfold sh_slices_AppendSeq_sl_int_int
  refine o.box fun s2 h1 o1 => ?_
  have o2 : Own h0 h1 (slR encI 1 T_int (.slice none 0 0) (g s0) :: cellR s2 [.slice none 0 0] T_sl_int :: L) := by
    rw [g0]; exact Own.nilS (enc := encI) (n := 1) (T := T_int) o1
  refine o2.range hI (fun s x s' hn => by obtain ⟨a, rfl, _⟩ := hf s x s' hn; rfl)
    (fun s Rs => ∃ w, Rs = slR encI 1 T_int w (g s) :: cellR s2 [w] T_sl_int :: L) (fun _ => False) (fun _ _ => False) ⟨_, rfl⟩ ?_ ?_ ?_ (fun _ _ h => h.elim) (fun _ _ _ h => h.elim)
  · rintro s Rs h' ⟨w, rfl⟩ o'
    exact hQ [_, _] h' o'
  · rintro M s x s' Rs Pr h' R hn ⟨w, rfl⟩ o' hN _ _
    obtain ⟨a, rfl, hg, hgl⟩ := hf s x s' hn
    dsimp only [valsOf]
    unfold sh_slices_AppendSeq_sl_int_int_B1
    refine o'.begin 0 rfl fun h4 o4 => ?_
    have o4 : Own h0 h4 (loopR _ _ :: markR _ :: slR encI 1 T_int w (g s) :: cellR s2 [w] T_sl_int :: (L ++ Pr)) := o4
    refine o4.load 3 rfl rfl ?_
    rw [hg, List.length_append] at hgl
    refine o4.app1 2 a rfl rfl (sizesOk_of rfl) (fun _ => rfl) encI_plain rfl (by decide) (by simp at hgl; omega) fun w' h5 o5 => ?_
    have hw' := o5.vw 2 rfl
    refine o5.st1 3 (cs' := [w']) rfl rfl rfl hw'.one hw'.plain fun h6 o6 => ?_
    refine hN _ h6 ⟨w', rfl⟩ ?_
    rw [hg]
    exact o6
  · rintro s h' Rs hs ⟨w, rfl⟩ o'
    refine o'.load 2 rfl rfl (o'.take1 0 rfl fun h10 o10 => hK w h10 s hs ?_)
    exact o10.tail.front 2 [0] (by decide) (by decide)

/-- slices.Sorted of what yields a row at a time. -/
theorem sortedB_int {fv : Value} {Q : Heap → Prop} {σ : Type} {s0 : σ} {next : σ → List Value → σ → Prop} {stop : σ → Prop} (o : Own h0 h L) (hI : IterG Tryz.prog fv Q s0 next stop) (g : σ → List Int) (g0 : g s0 = [])
    (hf : ∀ s x s', next s x s' → ∃ a, x = [I a] ∧ g s' = g s ++ [a] ∧ (g s').length < 2 ^ 40) (hQ : ∀ (Rs : List Res) h', Own h0 h' (Rs ++ L) → Q h') (hl : ∀ s, stop s → (g s).length ≤ 12)
    (hK : ∀ w h' s ys, stop s → ys.Perm (g s) → Srt ltI ys → Own h0 h' (slR encI 1 T_int w ys :: L) → K w h') : callS Tryz.prog F_slices_Sorted_int [fv] h K := by
  refine callS_of (lk_slices_Sorted_int _ ?_)
  unfold sh_slices_Sorted_int
  refine collectB_int o hI g g0 hf hQ fun w h1 s hs o1 => ?_
  exact sortB_int (q := 0) o1 rfl (hl s hs) fun ys h2 hp hsr o2 => hK w h2 s ys hs hp hsr o2

set_option maxHeartbeats 4000000 in
theorem insB_string {q : Nat} {xs : List ByteArray} (o : Own h0 h L) (hq : L[q]? = some (slR encS 1 T_string vd xs)) (hl : xs.length < 2 ^ 40)
    (hK : ∀ ys h', ys.Perm xs → Srt ltS ys → Own h0 h' (L.set q (slR encS 1 T_string vd ys)) → K (.tuple #[]) h') : callS Tryz.prog F_slices_insertionSortOrdered_string [vd, I (0 : Nat), I xs.length] h K := by
  refine callS_of (lk_slices_insertionSortOrdered_string _ _ _ ?_)
  unfold sh_slices_insertionSortOrdered_string
  rw [pBin_add, wI 0 (by decide)]
  refine LoopH_count (xs.length - 1) (fun i x h' => x.1 = I (i + 1 : Nat) ∧ ∃ S R, S.length = min (i + 1) xs.length ∧ (S ++ R).Perm xs ∧ Srt ltS S ∧ Own h0 h' (L.set q (slR encS 1 T_string vd (S ++ R)))) ⟨rfl, xs.take 1, xs.drop 1, by rw [List.length_take], by rw [List.take_append_drop], ?_, by rw [List.take_append_drop, setSame hq]; exact o⟩ ?_
  · cases xs with
    | nil => exact .nil
    | cons a l => exact List.pairwise_singleton ..
  clear o
  rintro i ⟨x, ⟨⟩⟩ h1 Z hi ⟨hx, S, R, hSl, hp, hs, o⟩ hZ
  dsimp only at hx hZ ⊢
  subst hx
  have hlp := hp.length_eq
  rw [List.length_append] at hlp
  unfold sh_slices_insertionSortOrdered_string_L1
  rw [pBin_lss, ifV_dec]
  refine ⟨fun hlt => ?_, fun hge => ?_⟩
  case refine_2 =>
    have hR : R = [] := List.eq_nil_of_length_eq_zero (by omega)
    subst hR
    rw [List.append_nil] at o hp
    exact hK S h1 hp hs o
  have hlt : i + 1 < xs.length := by omega
  obtain ⟨v, R, rfl⟩ : ∃ v R', R = v :: R' := by
    cases R with
    | nil => simp at hlp; omega
    | cons v R => exact ⟨v, R, rfl⟩
  have hsq : ∀ {ys : List ByteArray}, (L.set q (slR encS 1 T_string vd ys))[q]? = some (slR encS 1 T_string vd ys) := set_get hq
  refine LoopH_down (fun j x h' => x.1 = I j ∧ ∃ A B, A.length = j ∧ S = A ++ B ∧ (∀ b ∈ B, ltS v b = true) ∧ Own h0 h' (L.set q (slR encS 1 T_string vd (A ++ v :: B ++ R)))) (k0 := i + 1) ⟨rfl, S, [], by omega, by simp, fun _ h => (by cases h), by rw [List.append_assoc]; exact o⟩ ?_
  clear o
  rintro j ⟨x, ⟨⟩⟩ h2 Z1 ⟨hx, A, B, hA, rfl, hB, o⟩ hZ1
  dsimp only at hx hZ1 ⊢
  subst hx
  have hj : j ≤ i + 1 := by
    have := hSl; rw [List.length_append] at this; omega
  unfold sh_slices_insertionSortOrdered_string_L2
  have out : ∀ h', (∀ a ∈ A, ltS v a = false) → Own h0 h' (L.set q (slR encS 1 T_string vd (A ++ v :: B ++ R))) → pBin .add (I (i + 1 : Nat)) (.int .i64 1) fun t16 => Z (t16, ()) h' := fun h' ha o' => by
    rw [pBin_add, wI (i + 1) (by omega)]
    refine hZ (_, ()) h' (by omega) ⟨rfl, A ++ v :: B, R, ?_, ?_, ?_, o'⟩
    · rw [List.length_append] at hSl ⊢; simp only [List.length_cons]; omega
    · refine List.Perm.trans ?_ hp
      simp only [List.append_assoc, List.cons_append]
      refine List.Perm.append_left A ?_
      exact (List.perm_middle (a := v) (l₁ := B) (l₂ := R)).symm
    · have hs' := List.pairwise_append.1 hs
      refine List.pairwise_append.2 ⟨hs'.1, List.pairwise_cons.2 ⟨fun b hb => ltS_ok.asy _ _ (hB b hb), hs'.2.1⟩, fun a ha' b hb => ?_⟩
      rcases List.mem_cons.1 hb with rfl | hb
      · exact ha a ha'
      · exact hs'.2.2 a ha' b hb
  refine cutP_of (fun y h' => Own h0 h' (L.set q (slR encS 1 T_string vd (A ++ v :: B ++ R))) ∧ ((y.1 = .bool true ∧ ∃ A' y', A = A' ++ [y'] ∧ ltS v y' = true) ∨ (y.1 = .bool false ∧ ∀ a ∈ A, ltS v a = false))) (fun J hJ => ?_) ?_
  · rw [pBin_gtr, ifV_dec]
    refine ⟨fun hpos => ?_, fun hz => hJ _ _ ⟨o, .inr ⟨rfl, ?_⟩⟩⟩
    case refine_2 =>
      have : A = [] := List.eq_nil_of_length_eq_zero (by omega)
      subst this; intro a h; cases h
    obtain ⟨A', y, rfl⟩ : ∃ A' y, A = A' ++ [y] := by
      have hne : A ≠ [] := by rintro rfl; simp at hA; omega
      exact ⟨A.dropLast, A.getLast hne, (List.dropLast_concat_getLast hne).symm⟩
    have hA' : j = A'.length + 1 := by rw [← hA]; simp
    subst hA'
    have lt1 : A'.length + 1 < (A' ++ [y] ++ v :: B ++ R).length := by simp
    have g1 : (A' ++ [y] ++ v :: B ++ R)[A'.length + 1] = v := by
      have := ins_get (A := A' ++ [y]) (B := B) (R := R) (x := v)
      rw [show (A' ++ [y]).length = A'.length + 1 by simp, List.getElem?_eq_getElem lt1] at this
      exact Option.some.inj this
    have lt0 : A'.length < (A' ++ [y] ++ v :: B ++ R).length := by omega
    have g0 : (A' ++ [y] ++ v :: B ++ R)[A'.length] = y := by
      have := ins_pre (A := A') (B := B) (R := R) (x := v) (y := y)
      rw [List.getElem?_eq_getElem lt0] at this
      exact Option.some.inj this
    refine (o.vw q hsq).at1 (e := fun (x : ByteArray) => Value.string x) (fun _ => rfl) lt1 ?_
    rw [g1, pBin_sub, w64 (by omega) (by omega), show ((A'.length + 1 : Nat) : Int) - 1 = (A'.length : Int) by omega]
    refine (o.vw q hsq).at1 (e := fun (x : ByteArray) => Value.string x) (fun _ => rfl) lt0 ?_
    rw [g0]
    refine lessB_string ?_
    cases hc : ltS v y with
    | true => exact hJ _ _ ⟨o, .inl ⟨rfl, A', y, rfl, hc⟩⟩
    | false =>
      refine hJ _ _ ⟨o, .inr ⟨rfl, fun a ha => ?_⟩⟩
      rcases List.mem_append.1 ha with ha | ha
      · have hs' := (List.pairwise_append.1 (List.pairwise_append.1 hs).1).2.2 a ha y (by simp)
        cases hva : ltS v a with
        | false => rfl
        | true =>
          rcases ltS_ok.neg v y a hva with h | h
          · rw [hc] at h; cases h
          · rw [hs'] at h; cases h
      · rw [List.mem_singleton.1 ha]; exact hc
  · rintro ⟨y, ⟨⟩⟩ h3 ⟨o3, ⟨hy, A', y', rfl, hvy⟩ | ⟨hy, hall⟩⟩
    · dsimp only at hy ⊢
      subst hy
      clear o
      unfold sh_slices_insertionSortOrdered_string_C3
      rw [ifV_true]
      have hA' : j = A'.length + 1 := by rw [← hA]; simp
      subst hA'
      have lt1 : A'.length + 1 < (A' ++ [y'] ++ v :: B ++ R).length := by simp
      have g1 : (A' ++ [y'] ++ v :: B ++ R)[A'.length + 1] = v := by
        have := ins_get (A := A' ++ [y']) (B := B) (R := R) (x := v)
        rw [show (A' ++ [y']).length = A'.length + 1 by simp, List.getElem?_eq_getElem lt1] at this
        exact Option.some.inj this
      have lt0 : A'.length < (A' ++ [y'] ++ v :: B ++ R).length := by omega
      have g0 : (A' ++ [y'] ++ v :: B ++ R)[A'.length] = y' := by
        have := ins_pre (A := A') (B := B) (R := R) (x := v) (y := y')
        rw [List.getElem?_eq_getElem lt0] at this
        exact Option.some.inj this
      rw [pBin_sub, w64 (by omega) (by omega), show ((A'.length + 1 : Nat) : Int) - 1 = (A'.length : Int) by omega]
      rw [pBin_sub, w64 (by omega) (by omega), show ((A'.length + 1 : Nat) : Int) - 1 = (A'.length : Int) by omega]
      refine (o3.vw q hsq).at1 (e := fun (x : ByteArray) => Value.string x) (fun _ => rfl) lt0 ?_
      refine (o3.vw q hsq).at1 (e := fun (x : ByteArray) => Value.string x) (fun _ => rfl) lt1 ?_
      rw [g0, g1]
      refine o3.setAt (a := y') q hsq (fun _ => rfl) (encS_plain _) lt1 rfl fun h4 o4 => ?_
      rw [List.set_set] at o4
      refine o4.setAt (a := v) q hsq (fun _ => rfl) (encS_plain _) (by rw [List.length_set]; exact lt0) rfl fun h5 o5 => ?_
      rw [List.set_set, ins_swap] at o5
      rw [pBin_sub, w64 (by omega) (by omega), show ((A'.length + 1 : Nat) : Int) - 1 = (A'.length : Int) by omega]
      refine hZ1 (_, ()) h5 A'.length (by omega) ⟨rfl, A', y' :: B, rfl, by simp, fun b hb => ?_, o5⟩
      rcases List.mem_cons.1 hb with rfl | hb
      · exact hvy
      · exact hB b hb
    · dsimp only at hy ⊢
      subst hy
      unfold sh_slices_insertionSortOrdered_string_C3
      rw [ifV_false]
      exact out h3 hall o3

theorem pdqB_string {q : Nat} {lim : Value} {xs : List ByteArray} (o : Own h0 h L) (hq : L[q]? = some (slR encS 1 T_string vd xs)) (hl : xs.length ≤ 12)
    (hK : ∀ ys h', ys.Perm xs → Srt ltS ys → Own h0 h' (L.set q (slR encS 1 T_string vd ys)) → K (.tuple #[]) h') : callS Tryz.prog F_slices_pdqsortOrdered_string [vd, I (0 : Nat), I xs.length, lim] h K := by
  refine callS_of (lk_slices_pdqsortOrdered_string _ _ _ _ ?_)
  unfold sh_slices_pdqsortOrdered_string
  refine LoopH_count 0 (fun _ x h' => x.1 = I (0 : Nat) ∧ x.2.1 = I xs.length ∧ h' = h) ⟨rfl, rfl, rfl⟩ ?_
  rintro i ⟨x, y, z, b1, b2, ⟨⟩⟩ h' Z hi ⟨hx, hy, rfl⟩ hZ
  dsimp only at hx hy ⊢
  subst hx hy
  unfold sh_slices_pdqsortOrdered_string_L1
  rw [pBin_sub, w64 (by omega) (by omega), pBin_leq, decide_eq_true (by omega), ifV_true]
  exact insB_string o hq (by omega) hK

theorem sortB_string {q : Nat} {xs : List ByteArray} (o : Own h0 h L) (hq : L[q]? = some (slR encS 1 T_string vd xs)) (hl : xs.length ≤ 12)
    (hK : ∀ ys h', ys.Perm xs → Srt ltS ys → Own h0 h' (L.set q (slR encS 1 T_string vd ys)) → K (.tuple #[]) h') : callS Tryz.prog F_slices_Sort_sl_string_string [vd] h K := by
  refine callS_of (lk_slices_Sort_sl_string_string _ ?_)
  unfold sh_slices_Sort_sl_string_string
  refine (o.vw q hq).len ?_
  rw [pConv_int, u64w (by omega) (by omega)]
  exact lenB_ok (by omega) fun z => pdqB_string o hq hl hK

/-- slices.Collect of what yields a row at a time. -/
theorem collectB_string {fv : Value} {Q : Heap → Prop} {σ : Type} {s0 : σ} {next : σ → List Value → σ → Prop} {stop : σ → Prop} (o : Own h0 h L) (hI : IterG Tryz.prog fv Q s0 next stop) (g : σ → List ByteArray) (g0 : g s0 = [])
    (hf : ∀ s x s', next s x s' → ∃ a, x = [Value.string a] ∧ g s' = g s ++ [a] ∧ (g s').length < 2 ^ 40) (hQ : ∀ (Rs : List Res) h', Own h0 h' (Rs ++ L) → Q h')
    (hK : ∀ w h' s, stop s → Own h0 h' (slR encS 1 T_string w (g s) :: L) → K w h') : callS Tryz.prog F_slices_Collect_string [fv] h K := by
  refine callS_of (lk_slices_Collect_string _ ?_)
  unfold sh_slices_Collect_string
  refine callS_of (lk_slices_AppendSeq_sl_string_string _ _ ?_)
  unfold sh_slices_AppendSeq_sl_string_string
  refine o.box fun s2 h1 o1 => ?_
  have o2 : Own h0 h1 (slR encS 1 T_string (.slice none 0 0) (g s0) :: cellR s2 [.slice none 0 0] T_sl_string :: L) := by
    rw [g0]; exact Own.nilS (enc := encS) (n := 1) (T := T_string) o1
  refine o2.range hI (fun s x s' hn => by obtain ⟨a, rfl, _⟩ := hf s x s' hn; rfl)
    (fun s Rs => ∃ w, Rs = slR encS 1 T_string w (g s) :: cellR s2 [w] T_sl_string :: L) (fun _ => False) (fun _ _ => False) ⟨_, rfl⟩ ?_ ?_ ?_ (fun _ _ h => h.elim) (fun _ _ _ h => h.elim)
  · rintro s Rs h' ⟨w, rfl⟩ o'
    exact hQ [_, _] h' o'
  · rintro M s x s' Rs Pr h' R hn ⟨w, rfl⟩ o' hN _ _
    obtain ⟨a, rfl, hg, hgl⟩ := hf s x s' hn
    dsimp only [valsOf]
    unfold sh_slices_AppendSeq_sl_string_string_B1
    refine o'.begin 0 rfl fun h4 o4 => ?_
    have o4 : Own h0 h4 (loopR _ _ :: markR _ :: slR encS 1 T_string w (g s) :: cellR s2 [w] T_sl_string :: (L ++ Pr)) := o4
    refine o4.load 3 rfl rfl ?_
    rw [hg, List.length_append] at hgl
    refine o4.app1 2 a rfl rfl (sizesOk_of rfl) (fun _ => rfl) encS_plain rfl (by decide) (by simp at hgl; omega) fun w' h5 o5 => ?_
    have hw' := o5.vw 2 rfl
    refine o5.st1 3 (cs' := [w']) rfl rfl rfl hw'.one hw'.plain fun h6 o6 => ?_
    refine hN _ h6 ⟨w', rfl⟩ ?_
    rw [hg]
    exact o6
  · rintro s h' Rs hs ⟨w, rfl⟩ o'
    refine o'.load 2 rfl rfl (o'.take1 0 rfl fun h10 o10 => hK w h10 s hs ?_)
    exact o10.tail.front 2 [0] (by decide) (by decide)

/-- slices.Sorted of what yields a row at a time. -/
theorem sortedB_string {fv : Value} {Q : Heap → Prop} {σ : Type} {s0 : σ} {next : σ → List Value → σ → Prop} {stop : σ → Prop} (o : Own h0 h L) (hI : IterG Tryz.prog fv Q s0 next stop) (g : σ → List ByteArray) (g0 : g s0 = [])
    (hf : ∀ s x s', next s x s' → ∃ a, x = [Value.string a] ∧ g s' = g s ++ [a] ∧ (g s').length < 2 ^ 40) (hQ : ∀ (Rs : List Res) h', Own h0 h' (Rs ++ L) → Q h') (hl : ∀ s, stop s → (g s).length ≤ 12)
    (hK : ∀ w h' s ys, stop s → ys.Perm (g s) → Srt ltS ys → Own h0 h' (slR encS 1 T_string w ys :: L) → K w h') : callS Tryz.prog F_slices_Sorted_string [fv] h K := by
  refine callS_of (lk_slices_Sorted_string _ ?_)
  unfold sh_slices_Sorted_string
  refine collectB_string o hI g g0 hf hQ fun w h1 s hs o1 => ?_
  exact sortB_string (q := 0) o1 rfl (hl s hs) fun ys h2 hp hsr o2 => hK w h2 s ys hs hp hsr o2

end
end Go.Proofs.YtleaknaadodjeaaGreat

namespace Go.Proofs.YtleaknaadodjeaaGreat
open Go Go.Mh
set_option linter.unusedVariables false

section
variable {h0 h : Heap} {L : List Res} {K : Value → Heap → Prop} {vd : Value}

theorem notT {K : Value → Prop} : pUn .not (.bool true) K = K (.bool false) := rfl
theorem notF {K : Value → Prop} : pUn .not (.bool false) K = K (.bool true) := rfl

theorem Keys_iter {es : Array MapEntry} {clock m b : Nat} {t : List (KM.Ent ByteArray)} (ht : KM.IMapL QS es clock t) :
    IterG Tryz.prog (.func (.func F_maps_Keys_disk_directory_string_int_1) #[] #[ptr b]) (fun h => hcell h ⟨b, 0, none⟩ = some (.map (some m)) ∧ h[m]? = some (.map es clock)) (σ := List (KM.Ent ByteArray)) []
      (fun s x s' => ∃ e ∈ t, e ∉ s ∧ x = [.string e.1] ∧ s' = s ++ [e] ∧ s'.length ≤ t.length) (fun s => (∀ e ∈ t, e ∈ s) ∧ (∀ e ∈ s, e ∈ t) ∧ s.Nodup) := by
  rintro yv h0 h Rs K J E ⟨l, rfl⟩ o hj hQ hY hK
  refine callF_of (l := [yieldV l, ptr b]) rfl (lk_maps_Keys_disk_directory_string_int_1 _ _ ?_)
  unfold sh_maps_Keys_disk_directory_string_int_1
  simp only [pLoad_ptr, (hQ _ _ _ hj o).1]
  refine o.rangeM (κ := ByteArray) (hQ _ _ _ hj o).2 fun r h1 o1 => ?_
  refine LoopH_down (fun k x h' => ∃ s Rs', k = t.length - s.length ∧ J s Rs' ∧ (∀ e ∈ s, e ∈ t) ∧ s.Nodup ∧ Own h0 h' (itR r m clock s :: Rs')) (k0 := t.length) ⟨[], Rs, rfl, hj, fun _ h => (by cases h), .nil, o1⟩ ?_
  clear o o1
  rintro k ⟨⟩ h2 Z ⟨s, Rs', rfl, hj', hs, hn, o⟩ hZ
  unfold sh_maps_Keys_disk_directory_string_int_1_L1
  have hq := hQ _ _ _ hj' o.tail
  refine o.nextM 0 rfl hq.2 ht hs (fun e he hne h3 o3 => ?_) fun hall => ?_
  · rw [pExt0, ifV_true]
    have hq3 := hQ _ _ _ hj' o3.tail
    have hn' : (s ++ [e]).Nodup := by
      rw [List.nodup_append]
      exact ⟨hn, by simp, fun a ha b hb hab => by rw [List.mem_singleton.1 hb] at hab; exact hne (hab ▸ ha)⟩
    have hs' : ∀ x ∈ s ++ [e], x ∈ t := fun x hx => by
      rcases List.mem_append.1 hx with hx | hx
      · exact hs x hx
      · rw [List.mem_singleton.1 hx]; exact he
    have hlen : (s ++ [e]).length ≤ t.length := by classical exact len_of_sub hn' hs'
    refine o3.entryM 0 rfl hq3.2 ht he ?_
    rw [pExt0]
    refine hY s [.string e.1] (s ++ [e]) Rs' [itR r m clock (s ++ [e])] h3 _ ⟨e, he, hne, rfl, rfl, hlen⟩ hj' o3.rot (fun Rs'' h4 hj4 o4 => ?_) fun Rs'' h4 hE o4 => ?_
    · rw [notT, ifV_false]
      have hl2 : (s ++ [e]).length = s.length + 1 := by simp
      exact hZ (show Vals [] from ()) h4 (t.length - (s ++ [e]).length) (by omega) ⟨s ++ [e], Rs'', rfl, hj4, hs', hn', Own.comm o4⟩
    · rw [notF, ifV_true]
      exact hK Rs'' h4 (.inr hE) o4.left
  · rw [pExt0, ifV_false]
    exact hK Rs' h2 (.inl ⟨s, ⟨hall, hs, hn⟩, hj'⟩) o.tail

theorem Values_iter {es : Array MapEntry} {clock m b : Nat} {t : List (KM.Ent ByteArray)} (ht : KM.IMapL QS es clock t) :
    IterG Tryz.prog (.func (.func F_maps_Values_disk_directory_string_int_1) #[] #[ptr b]) (fun h => hcell h ⟨b, 0, none⟩ = some (.map (some m)) ∧ h[m]? = some (.map es clock)) (σ := List (KM.Ent ByteArray)) []
      (fun s x s' => ∃ e ∈ t, e ∉ s ∧ x = [e.2.1] ∧ s' = s ++ [e] ∧ s'.length ≤ t.length) (fun s => (∀ e ∈ t, e ∈ s) ∧ (∀ e ∈ s, e ∈ t) ∧ s.Nodup) := by
  rintro yv h0 h Rs K J E ⟨l, rfl⟩ o hj hQ hY hK
  refine callF_of (l := [yieldV l, ptr b]) rfl (lk_maps_Values_disk_directory_string_int_1 _ _ ?_)
  unfold sh_maps_Values_disk_directory_string_int_1
  simp only [pLoad_ptr, (hQ _ _ _ hj o).1]
  refine o.rangeM (κ := ByteArray) (hQ _ _ _ hj o).2 fun r h1 o1 => ?_
  refine LoopH_down (fun k x h' => ∃ s Rs', k = t.length - s.length ∧ J s Rs' ∧ (∀ e ∈ s, e ∈ t) ∧ s.Nodup ∧ Own h0 h' (itR r m clock s :: Rs')) (k0 := t.length) ⟨[], Rs, rfl, hj, fun _ h => (by cases h), .nil, o1⟩ ?_
  clear o o1
  rintro k ⟨⟩ h2 Z ⟨s, Rs', rfl, hj', hs, hn, o⟩ hZ
  unfold sh_maps_Values_disk_directory_string_int_1_L1
  have hq := hQ _ _ _ hj' o.tail
  refine o.nextM 0 rfl hq.2 ht hs (fun e he hne h3 o3 => ?_) fun hall => ?_
  · rw [pExt0, ifV_true]
    have hq3 := hQ _ _ _ hj' o3.tail
    have hn' : (s ++ [e]).Nodup := by
      rw [List.nodup_append]
      exact ⟨hn, by simp, fun a ha b hb hab => by rw [List.mem_singleton.1 hb] at hab; exact hne (hab ▸ ha)⟩
    have hs' : ∀ x ∈ s ++ [e], x ∈ t := fun x hx => by
      rcases List.mem_append.1 hx with hx | hx
      · exact hs x hx
      · rw [List.mem_singleton.1 hx]; exact he
    have hlen : (s ++ [e]).length ≤ t.length := by classical exact len_of_sub hn' hs'
    refine o3.entryM 0 rfl hq3.2 ht he ?_
    rw [pExt1]
    refine hY s [e.2.1] (s ++ [e]) Rs' [itR r m clock (s ++ [e])] h3 _ ⟨e, he, hne, rfl, rfl, hlen⟩ hj' o3.rot (fun Rs'' h4 hj4 o4 => ?_) fun Rs'' h4 hE o4 => ?_
    · rw [notT, ifV_false]
      have hl2 : (s ++ [e]).length = s.length + 1 := by simp
      exact hZ (show Vals [] from ()) h4 (t.length - (s ++ [e]).length) (by omega) ⟨s ++ [e], Rs'', rfl, hj4, hs', hn', Own.comm o4⟩
    · rw [notF, ifV_true]
      exact hK Rs'' h4 (.inr hE) o4.left
  · rw [pExt0, ifV_false]
    exact hK Rs' h2 (.inl ⟨s, ⟨hall, hs, hn⟩, hj'⟩) o.tail

/-! ### Names -/

theorem indexS_ok {ys : List Nm} {p : Nm → Bool} {fv : Value} (H : Vw encS 1 h vd ys) (hl : ys.length < 2 ^ 40) (hf : ∀ a K', K' (.bool (p a)) h → callV Tryz.prog fv [.string a].toArray h K')
    (hK : ∀ z : Int, (0 ≤ z ↔ ∃ a ∈ ys, p a = true) → K (I z) h) : callS Tryz.prog F_slices_IndexFunc_sl_string_string [vd, fv] h K := by
  refine callS_of (lk_slices_IndexFunc_sl_string_string _ _ ?_)
  unfold sh_slices_IndexFunc_sl_string_string
  refine H.len ?_
  refine LoopH_count ys.length (fun i x h' => x.1 = I i ∧ h' = h ∧ ∀ j (hj : j < ys.length), j < i → p ys[j] = false) ⟨rfl, rfl, fun j hj h => by omega⟩ ?_
  rintro i ⟨x, ⟨⟩⟩ h' Z hi ⟨hx, rfl, hp⟩ hZ
  dsimp only at hx hZ ⊢
  subst hx
  unfold sh_slices_IndexFunc_sl_string_string_L1
  rw [pBin_lss, ifV_dec]
  refine ⟨fun hlt => ?_, fun hge => ?_⟩
  · have hi' : i < ys.length := by omega
    refine H.at1 (e := fun (x : Nm) => Value.string x) (fun _ => rfl) hi' ?_
    refine hf _ _ ?_
    cases hc : p ys[i] with
    | true => exact hK i ⟨fun _ => ⟨_, List.getElem_mem hi', hc⟩, fun _ => by omega⟩
    | false =>
      rw [ifV_false, pBin_add, wI i (by omega)]
      refine hZ (_, ()) _ hi' ⟨rfl, rfl, fun j hj hji => ?_⟩
      by_cases e : j = i
      · subst e; exact hc
      · exact hp j hj (by omega)
  · refine hK (-1) ⟨fun h => absurd h (by decide), fun ⟨a, ha, hpa⟩ => ?_⟩
    obtain ⟨j, hj, rfl⟩ := List.mem_iff_getElem.1 ha
    rw [hp j hj (by omega)] at hpa; cases hpa

theorem namesB_ok {ys : List Nm} (H : Vw encS 1 h vd ys) (hl : ys.length < 2 ^ 40) (hK : K (I (namesE ys)) h) : callS Tryz.prog F_disk_names [vd] h K := by
  refine callS_of (lk_disk_names _ ?_)
  unfold sh_disk_names
  refine callS_of (lk_slices_ContainsFunc_sl_string_string _ _ ?_)
  unfold sh_slices_ContainsFunc_sl_string_string
  refine indexS_ok (p := fun a => !okN a) H hl (fun a K' hk => ?_) fun z hz => ?_
  · refine callV_of (l := [.string a]) rfl (lk_disk_names_1 _ ?_)
    unfold sh_disk_names_1
    rw [pBin_eqlS]
    have e0 : a = (⟨#[]⟩ : ByteArray) ↔ a.size = 0 := by
      constructor
      · rintro rfl; rfl
      · intro h
        obtain ⟨d⟩ := a
        have : d = #[] := Array.eq_empty_of_size_eq_zero h
        rw [this]
    by_cases e : a.size = 0
    · rw [decide_eq_true (e0.2 e), ifV_true]
      have : okN a = false := by simp [okN, e]
      rw [this] at hk; exact hk
    · rw [decide_eq_false (fun h => e (e0.1 h)), ifV_false, pLenS_str, pBin_gtr]
      have : (!okN a) = decide ((16 : Int) < a.size) := by
        by_cases c : a.size ≤ 16
        · rw [show okN a = true from decide_eq_true ⟨by omega, c⟩, decide_eq_false (by omega)]; rfl
        · rw [show okN a = false from decide_eq_false fun h => c h.2, decide_eq_true (by omega)]; rfl
      rw [this] at hk; exact hk
  · rw [pBin_geq]
    have e : decide ((0 : Int) ≤ z) = !ys.all okN := by
      rw [Bool.eq_iff_iff, decide_eq_true_eq, hz]
      simp
    rw [e]
    unfold namesE at hK
    cases hc : ys.all okN with
    | true => rw [hc] at hK; exact hK
    | false => rw [hc] at hK; exact hK

/-! ### Bytes -/

def encW (w : Wr) : List Value := [I w.off, .string w.s]
theorem encW_plain (x : Wr) : ∀ u ∈ encW x, Mh.plainCell u = true := by intro u hu; simp [encW] at hu; rcases hu with rfl | rfl <;> rfl

theorem cloneB_byte {xs : List UInt8} {s : Value} (o : Own h0 h L) (H : Vw encB8 1 h s xs) (hl : xs.length ≤ 2 ^ 40) (hK : ∀ v' h', Own h0 h' (slR encB8 1 T_uint8 v' xs :: L) → K v' h') : callS Tryz.prog F_slices_Clone_sl_byte_byte [s] h K :=
  callS_of (lk_slices_Clone_sl_byte_byte _ (clone_gen o H (fun _ => rfl) encB8_plain rfl (by decide) (by omega) hK))
theorem putB_ok {v : Value} {b : List UInt8} {w : Wr} (o : Own h0 h L) (i : Nat) (hi : L[i]? = some (slR encB8 1 T_uint8 v b)) (hb : b.length ≤ 1048576) (hw : w.off + w.s.size ≤ 1048576)
    (hK : ∀ v' h', Own h0 h' (L.set i (slR encB8 1 T_uint8 v' (putW b w))) → K v' h') : callS Tryz.prog F_disk_put [v, .agg #[I w.off, .string w.s]] h K := by
  refine callS_of (lk_disk_put _ _ ?_)
  unfold sh_disk_put
  refine o.box fun w3 h1 o1 => ?_
  have o1 : Own h0 h1 (cellR w3 [I w.off, .string w.s] T_disk_write :: L) := o1
  rw [pField_ptr]
  refine o1.load 0 rfl rfl ?_
  rw [pField_ptr]
  refine o1.load 0 rfl rfl ?_
  rw [pLenS_str, pBin_add, w64 (by omega) (by omega)]
  refine (o1.vw (i + 1) hi).len ?_
  rw [pBin_sub, w64 (by omega) (by omega), pBin_gtr, ifV_dec]
  have fin : ∀ (v' : Value) (h' : Heap) (c : List UInt8), Own h0 h' (cellR w3 [I w.off, .string w.s] T_disk_write :: L.set i (slR encB8 1 T_uint8 v' c)) → w.off + w.s.size ≤ c.length → putL c w.off w.s.data.toList = putW b w → sh_disk_put_k1 Tryz.prog (ptr w3) K v' h' := by
    intro v' h' c o' hc he
    unfold sh_disk_put_k1
    rw [pField_ptr]
    refine o'.load 0 rfl rfl ?_
    refine o'.copyTo (i + 1) (set_get hi) (by omega) fun d hd => ?_
    rw [pField_ptr]
    refine o'.load 0 rfl rfl ?_
    refine hd w.s _ hc fun h2 o2 => ?_
    rw [List.set_cons_succ, List.set_set, he] at o2
    exact hK v' h2 o2.tail
  refine ⟨fun hgt => ?_, fun hle => ?_⟩
  · have hm : (w.off : Int) + w.s.size - b.length = ((w.off + w.s.size - b.length : Nat) : Int) := by omega
    rw [hm]
    refine o1.appZ (a := (0 : UInt8)) (i + 1) hi (fun _ => rfl) encB8_plain rfl (by decide) (by omega) fun v' h2 o2 => ?_
    rw [List.set_cons_succ] at o2
    exact fin v' h2 _ o2 (by simp; omega) rfl
  · refine fin v h1 b (by rw [setSame hi]; exact o1) (by omega) ?_
    unfold putW
    rw [show w.off + w.s.size - b.length = 0 by omega, List.replicate_zero, List.append_nil]

end
end Go.Proofs.YtleaknaadodjeaaGreat

namespace Go.Proofs.YtleaknaadodjeaaGreat
open Go Go.Mh
set_option linter.unusedVariables false

/-! ### What lies where -/

inductive Clo where
  | mk (b1 b2 : Nat)
  | ren (b1 b2 : Nat)
  | rem (b1 : Nat)
/-- ALT F_disk_Disk_Remove_1_1 -/
def remV (b1 : Nat) : Value := .func (.func 0) #[] #[ptr b1]
/-- ALT F_disk_Disk_Remove_1_1 -/
def RemOk : Prop := False
def clv : Clo → Value
  | .mk b1 b2 => .func (.func F_disk_Disk_Make_1_1) #[] #[ptr b1, ptr b2]
  | .ren b1 b2 => .func (.func F_disk_Disk_Rename_1_1) #[] #[ptr b1, ptr b2]
  | .rem b1 => remV b1
def encC (x : Clo) : List Value := [clv x]
theorem clv_one (x : Clo) : (clv x).cells = #[clv x] := by cases x <;> rfl
theorem clv_plain (x : Clo) : Mh.plainCell (clv x) = true := by cases x <;> rfl
theorem encC_plain (x : Clo) : ∀ u ∈ encC x, Mh.plainCell u = true := by intro u hu; simp [encC] at hu; subst hu; exact clv_plain x

structure TC where
  n : Nat
  b : Nat
  dv : Value
  wv : Value
structure DC where
  dm : Nat
  nm : Nat
  tm : Nat
  pv : Value
  vs : List Clo
  tc : List TC

def tR3 (b : Nat) (dv wv : Value) (bs : List UInt8) (ws : List Wr) : List Res := [cellR b [dv, wv] T_disk_thing, slR encB8 1 T_uint8 dv bs, slR encW 2 T_disk_write wv ws]
def tRs (s : Dk) (x : TC) : List Res := tR3 x.b x.dv x.wv (bytesOf (s.getT x.n).syn) (s.getT x.n).pen
def dirF (D : Dir) (a : Nm) : Option Value := (dlook D a).map fun (n : Nat) => I (n : Int)
def thF (tc : List TC) (z : Int) : Option Value := (tc.find? fun x => decide ((x.n : Int) = z)).map fun x => ptr x.b
def dC (c : DC) (s : Dk) : List Value := [.map (some c.dm), .map (some c.nm), .map (some c.tm), c.pv, I s.th.length, I s.armed, .bool s.off]
def tsR (c : DC) (s : Dk) : List Res := c.tc.map fun x => sepR (tRs s x)
/-- A disk at d; L is what lies beside it. -/
def dL (d : Nat) (c : DC) (s : Dk) (L : List Res) : List Res :=
  cellR d (dC c s) T_disk_Disk :: kmapR QS c.dm (dirF (dirOf s.cs)) :: kmapR QS c.nm (dirF s.now) :: kmapR QI c.tm (thF c.tc) :: slR encC 1 T_disk_change c.pv c.vs :: sepR (tsR c s) :: L

abbrev Bx := List (Nat × List Value × TypeId)
/-- A change, as a function. -/
def chV (B : Bx) (v : Clo) : Ch → Prop
  | .mk a n => ∃ b1 b2, v = .mk b1 b2 ∧ (b1, [I n], T_int) ∈ B ∧ (b2, [.string a], T_string) ∈ B
  | .ren a b => ∃ b1 b2, v = .ren b1 b2 ∧ (b1, [.string a], T_string) ∈ B ∧ (b2, [.string b], T_string) ∈ B
  | .rem a => RemOk ∧ ∃ b1, v = .rem b1 ∧ (b1, [.string a], T_string) ∈ B

theorem chV_mono {B B' : Bx} (hB : ∀ x ∈ B, x ∈ B') {v : Clo} {c : Ch} (h : chV B v c) : chV B' v c := by
  cases c with
  | mk a n => obtain ⟨b1, b2, e, h1, h2⟩ := h; exact ⟨b1, b2, e, hB _ h1, hB _ h2⟩
  | ren a b => obtain ⟨b1, b2, e, h1, h2⟩ := h; exact ⟨b1, b2, e, hB _ h1, hB _ h2⟩
  | rem a => obtain ⟨hr, b1, e, h1⟩ := h; exact ⟨hr, b1, e, hB _ h1⟩

structure DOk (B : Bx) (c : DC) (s : Dk) : Prop where
  lv : c.vs.length = s.cp.length
  ch : ∀ (i : Nat) (v : Clo) (x : Ch), c.vs[i]? = some v → s.cp[i]? = some x → chV B v x
  nd : (c.tc.map (·.n)).Nodup
  lt : ∀ x ∈ c.tc, x.n < s.th.length
  dir : ∀ y ∈ dirOf s.cs, ∃ x ∈ c.tc, x.n = y.2
  num : ∀ a n, Ch.mk a n ∈ s.cp → ∃ x ∈ c.tc, x.n = n

theorem DOk.mono {B B' : Bx} {c : DC} {s : Dk} (H : DOk B c s) (hB : ∀ x ∈ B, x ∈ B') : DOk B' c s :=
  ⟨H.lv, fun i v x a b => chV_mono hB (H.ch i v x a b), H.nd, H.lt, H.dir, H.num⟩

section
variable {h0 h : Heap} {L : List Res} {K : Value → Heap → Prop} {d : Nat} {c : DC} {s : Dk} {B : Bx}

/-- ALT F_disk_Disk_Remove_1_1 -/
theorem remDo {a : Nm} {b1 m i j : Nat} {D : Dir} (hr : RemOk) (o : Own h0 h L) (hi : L[i]? = some (kmapR QS m (dirF D))) (hj : L[j]? = some (roR B)) (h1 : (b1, [.string a], T_string) ∈ B)
    (hK : ∀ h', Own h0 h' (L.set i (kmapR QS m (dirF (app D (.rem a))))) → K (.tuple #[]) h') : callV Tryz.prog (remV b1) [.map (some m)].toArray h K := hr.elim

/-- A change is done to a directory. -/
theorem chDo {v : Clo} {x : Ch} {m i j : Nat} {D : Dir} (o : Own h0 h L) (hi : L[i]? = some (kmapR QS m (dirF D))) (hj : L[j]? = some (roR B)) (hne : i ≠ j) (hv : chV B v x)
    (hK : ∀ h', Own h0 h' (L.set i (kmapR QS m (dirF (app D x)))) → K (.tuple #[]) h') : callV Tryz.prog (clv v) [.map (some m)].toArray h K := by
  have get : ∀ {h' : Heap} {r : Res}, Own h0 h' (L.set i r) → ∀ {b off : Nat} {cs : List Value} {T : TypeId} {u : Value} {K' : Value → Prop}, (b, cs, T) ∈ B → cs[off]? = some u → K' u → pLoad h' (.pointer (some ⟨b, off, none⟩)) K' := fun o' _ _ _ _ _ _ hm hu hk =>
    o'.roLoad j (by rw [List.getElem?_set_ne hne]; exact hj) hm hu hk
  cases x with
  | mk a n =>
    obtain ⟨b1, b2, rfl, h1, h2⟩ := hv
    refine callV_of (l := [.map (some m), ptr b1, ptr b2]) rfl (lk_disk_Disk_Make_1_1 _ _ _ ?_)
    unfold sh_disk_Disk_Make_1_1
    refine o.roLoad j hj h2 rfl (o.roLoad j hj h1 rfl ?_)
    refine o.kput (Q := QS) (k := a) (f' := dirF (app D (.mk a n))) i hi (fun y => ?_) hK
    unfold dirF KM.fset app
    rw [dlook_set]
    split <;> rfl
  | ren a b =>
    obtain ⟨b1, b2, rfl, h1, h2⟩ := hv
    refine callV_of (l := [.map (some m), ptr b1, ptr b2]) rfl (lk_disk_Disk_Rename_1_1 _ _ _ ?_)
    unfold sh_disk_Disk_Rename_1_1
    refine o.roLoad j hj h1 rfl ?_
    refine o.klook (Q := QS) (k := a) (ok := false) i hi ?_
    refine o.roLoad j hj h1 rfl ?_
    refine o.kdel (Q := QS) (k := a) (f' := dirF (ddel D a)) i hi (fun y => ?_) fun h' o' => ?_
    · unfold dirF KM.fdel
      rw [dlook_del]
      split <;> rfl
    · refine get o' h2 rfl ?_
      refine o'.kput (Q := QS) (k := b) (f' := dirF (app D (.ren a b))) i (set_get hi) (fun y => ?_) fun h'' o'' => ?_
      · unfold dirF KM.fset app
        rw [dlook_set]
        split
        · cases dlook D a <;> rfl
        · rfl
      · rw [List.set_set] at o''
        exact hK h'' o''
  | rem a =>
    obtain ⟨hr, b1, rfl, h1⟩ := hv
    exact remDo hr o hi hj h1 hK

/-! ### All bytes of a thing -/

theorem seenB_ok {t : Nat} {dv wv : Value} {b : List UInt8} {ws : List Wr} (ht : h[t]? = some (.cells #[dv, wv] T_disk_thing (0, 0))) (Hd : Vw encB8 1 h dv b) (Hw : Vw encW 2 h wv ws)
    (hb : b.length ≤ 1048576) (hl : ws.length < 2 ^ 40) (hw : ∀ w ∈ ws, w.off + w.s.size ≤ 1048576) (hK : ∀ v h', Own h h' [slR encB8 1 T_uint8 v (ws.foldl putW b)] → K v h') : callS Tryz.prog F_disk_thing_seen [ptr t] h K := by
  refine callS_of (lk_disk_thing_seen _ ?_)
  unfold sh_disk_thing_seen
  have c0 : hcell h ⟨t, 0, none⟩ = some dv := hcell_of ht rfl
  have c1 : hcell h ⟨t, 1, none⟩ = some wv := hcell_of ht rfl
  rw [pNil_ptr, pField_ptr]
  simp only [Nat.add_zero, pLoad_ptr, c0]
  refine cloneB_byte (Own.start h) Hd (by omega) fun b3 h1 o1 => ?_
  rw [pNil_ptr, pField_ptr]
  have c1' := hcell_more o1.ext c1
  simp only [Nat.zero_add, pLoad_ptr, c1']
  refine (Hw.more o1.ext).len ?_
  have bnd : ∀ (l : List Wr) (b : List UInt8), b.length ≤ 1048576 → (∀ w ∈ l, w.off + w.s.size ≤ 1048576) → (l.foldl putW b).length ≤ 1048576 := by
    intro l
    induction l with
    | nil => intro b hb _; exact hb
    | cons w l ih =>
      intro b hb hw
      refine ih _ ?_ fun x hx => hw x (List.mem_cons_of_mem _ hx)
      have := hw w List.mem_cons_self
      rw [putW_len]; omega
  refine LoopH_count ws.length (fun i x h' => x.2.1 = I i ∧ Own h h' [slR encB8 1 T_uint8 x.1 ((ws.take i).foldl putW b)]) ⟨rfl, o1⟩ ?_
  clear o1 c1'
  rintro i ⟨y, x, ⟨⟩⟩ h2 Z hi ⟨hx, o⟩ hZ
  dsimp only at hx hZ o ⊢
  subst hx
  unfold sh_disk_thing_seen_L1
  rw [pBin_lss, ifV_dec]
  refine ⟨fun hlt => ?_, fun hge => ?_⟩
  · have hi' : i < ws.length := by omega
    refine (Hw.more o.ext).atN (fun _ => rfl) hi' ?_
    refine o.box fun w5 h3 o3 => ?_
    refine o3.st (l := encW ws[i]) (cs' := encW ws[i]) 0 rfl rfl rfl rfl rfl (fun u hu => encW_plain _ u hu) fun h4 o4 => ?_
    refine o4.ldN (cs' := encW ws[i]) 0 rfl rfl rfl ?_
    refine putB_ok (w := ws[i]) o4 1 rfl (bnd _ _ hb fun w hw' => hw w (List.mem_of_mem_take hw')) (hw _ (List.getElem_mem hi')) fun v' h5 o5 => ?_
    rw [pBin_add, wI i (by omega)]
    refine hZ (v', _, ()) h5 hi' ⟨rfl, ?_⟩
    rw [List.take_succ_eq_append_getElem hi', List.foldl_append]
    exact o5.tail
  · have : ws.take i = ws := List.take_of_length_le (by omega)
    rw [this] at o
    exact hK y h2 o

end
end Go.Proofs.YtleaknaadodjeaaGreat

namespace Go.Proofs.YtleaknaadodjeaaGreat
open Go Go.Mh
set_option linter.unusedVariables false

/-! ### A thing taken out, and laid back -/

def DC.setT (c : DC) (i : Nat) (x : TC) (dv wv : Value) : DC := { c with tc := c.tc.set i ⟨x.n, x.b, dv, wv⟩ }
def modTh (s : Dk) (n : Nat) (f : Th → Th) : Dk := { s with th := s.th.modify n f }
def dN (d : Nat) (c : DC) (s : Dk) (r : Res) (L : List Res) : List Res :=
  cellR d (dC c s) T_disk_Disk :: kmapR QS c.dm (dirF (dirOf s.cs)) :: kmapR QS c.nm (dirF s.now) :: kmapR QI c.tm (thF c.tc) :: slR encC 1 T_disk_change c.pv c.vs :: r :: L

section
variable {h0 h : Heap} {L : List Res} {K : Value → Heap → Prop} {d i : Nat} {c : DC} {s : Dk} {B : Bx} {x : TC}

theorem ts_get (hx : c.tc[i]? = some x) : (tsR c s)[i]? = some (sepR (tRs s x)) := by
  unfold tsR; rw [List.getElem?_map, hx]; rfl

theorem dL_out (o : Own h0 h (dL d c s L)) (hx : c.tc[i]? = some x) : Own h0 h (tRs s x ++ ((tsR c s).set i nilR ++ dN d c s nilR L)) := by
  have o1 : Own h0 h (tsR c s ++ dN d c s nilR L) := o.out 5 rfl
  have hlt : i < (tsR c s).length := (List.getElem?_eq_some_iff.1 (ts_get (s := s) hx)).1
  have o2 := o1.out i (by rw [List.getElem?_append_left hlt]; exact ts_get hx)
  rwa [List.set_append_left _ _ hlt] at o2

theorem dL_back {l : List Res} (o : Own h0 h (l ++ ((tsR c s).set i nilR ++ dN d c s nilR L))) (hx : c.tc[i]? = some x) : Own h0 h (dN d c s (sepR ((tsR c s).set i (sepR l))) L) := by
  have hlt : i < (tsR c s).length := (List.getElem?_eq_some_iff.1 (ts_get (s := s) hx)).1
  have o1 := o.back i (by rw [List.getElem?_append_left (by rw [List.length_set]; exact hlt), List.getElem?_set_self hlt])
  rw [List.set_append_left _ _ (by rw [List.length_set]; exact hlt), List.set_set] at o1
  exact o1.back 5 rfl

theorem getT_mod {n m : Nat} {f : Th → Th} (hn : n < s.th.length) : (modTh s n f).getT m = if m = n then f (s.getT n) else s.getT m := by
  unfold modTh Dk.getT
  simp only [List.getD_eq_getElem?_getD, List.getElem?_modify]
  by_cases e : m = n
  · subst e; simp [List.getElem?_eq_getElem hn]
  · have e' : ¬ n = m := fun h => e h.symm
    rw [if_neg e]; simp [e']

theorem thF_set {tc : List TC} {i : Nat} {x : TC} {dv wv : Value} (hx : tc[i]? = some x) : thF (tc.set i ⟨x.n, x.b, dv, wv⟩) = thF tc := by
  funext z
  unfold thF
  induction tc generalizing i with
  | nil => rfl
  | cons y tc ih =>
    cases i with
    | zero =>
      simp at hx; subst hx
      simp only [List.set_cons_zero, List.find?_cons]
      by_cases hz : (y.n : Int) = z
      · rw [decide_eq_true hz]; rfl
      · rw [decide_eq_false hz]
    | succ i =>
      simp only [List.set_cons_succ, List.find?_cons]
      split
      · rfl
      · exact ih (by simpa using hx)

theorem nums_set {tc : List TC} {i : Nat} {x : TC} {dv wv : Value} (hx : tc[i]? = some x) : (tc.set i ⟨x.n, x.b, dv, wv⟩).map (·.n) = tc.map (·.n) := by
  rw [List.map_set]
  apply List.ext_getElem?
  intro n
  by_cases e : n = i
  · subst e
    rw [List.getElem?_set_self (by simpa using (List.getElem?_eq_some_iff.1 hx).1), List.getElem?_map, hx]; rfl
  · rw [List.getElem?_set_ne (fun h => e h.symm)]

theorem mem_num {tc tc' : List TC} (h : tc'.map (·.n) = tc.map (·.n)) {n : Nat} : (∃ x ∈ tc', x.n = n) ↔ ∃ x ∈ tc, x.n = n := by
  have : n ∈ tc'.map (·.n) ↔ n ∈ tc.map (·.n) := by rw [h]
  simpa [List.mem_map] using this

theorem DOk.modT {f : Th → Th} {dv wv : Value} (H : DOk B c s) (hx : c.tc[i]? = some x) : DOk B (c.setT i x dv wv) (modTh s x.n f) := by
  have e := nums_set (dv := dv) (wv := wv) hx
  refine ⟨H.lv, H.ch, by unfold DC.setT; dsimp only; rw [e]; exact H.nd, fun y hy => ?_, fun y hy => (mem_num e).2 (H.dir y hy), fun a n hm => (mem_num e).2 (H.num a n hm)⟩
  obtain ⟨y', hy', e'⟩ := (mem_num e).1 ⟨y, hy, rfl⟩
  unfold modTh
  dsimp only
  rw [List.length_modify, ← e']
  exact H.lt y' hy'

theorem dL_mod {f : Th → Th} {dv wv : Value} (H : DOk B c s) (hx : c.tc[i]? = some x)
    (o : Own h0 h (tR3 x.b dv wv (bytesOf (f (s.getT x.n)).syn) (f (s.getT x.n)).pen ++ ((tsR c s).set i nilR ++ dN d c s nilR L))) : Own h0 h (dL d (c.setT i x dv wv) (modTh s x.n f) L) := by
  have o1 := dL_back o hx
  have hlt := H.lt x (List.mem_of_getElem? hx)
  have hi := (List.getElem?_eq_some_iff.1 hx).1
  have e1 : (tsR c s).set i (sepR (tR3 x.b dv wv (bytesOf (f (s.getT x.n)).syn) (f (s.getT x.n)).pen)) = tsR (c.setT i x dv wv) (modTh s x.n f) := by
    unfold tsR DC.setT
    dsimp only
    rw [List.map_set]
    have : sepR (tRs (modTh s x.n f) ⟨x.n, x.b, dv, wv⟩) = sepR (tR3 x.b dv wv (bytesOf (f (s.getT x.n)).syn) (f (s.getT x.n)).pen) := by
      unfold tRs
      dsimp only
      rw [getT_mod hlt, if_pos rfl]
    rw [this]
    apply List.ext_getElem?
    intro n
    by_cases e : n = i
    · subst e
      rw [List.getElem?_set_self (by simpa using hi), List.getElem?_set_self (by simpa using hi)]
    · rw [List.getElem?_set_ne (fun h => e h.symm), List.getElem?_set_ne (fun h => e h.symm), List.getElem?_map, List.getElem?_map]
      cases hy : c.tc[n]? with
      | none => rfl
      | some y =>
        have hne : y.n ≠ x.n := fun e' => e (by
          have hn := (List.getElem?_eq_some_iff.1 hy)
          have hxx := (List.getElem?_eq_some_iff.1 hx)
          exact (List.getElem_inj (i := n) (j := i) (h₀ := by simpa using hn.1) (h₁ := by simpa using hxx.1) H.nd).1 (by simp [hn.2, hxx.2, e']))
        simp only [Option.map_some]
        unfold tRs
        rw [getT_mod hlt, if_neg hne]
  have e2 : dC (c.setT i x dv wv) (modTh s x.n f) = dC c s := by
    unfold dC modTh DC.setT; simp
  unfold dL
  rw [← e1, e2, show (c.setT i x dv wv).tc = c.tc.set i ⟨x.n, x.b, dv, wv⟩ from rfl, thF_set hx]
  exact o1

/-- The facts of a thing. -/
theorem dL_facts (o : Own h0 h (dL d c s L)) (hx : c.tc[i]? = some x) : h[x.b]? = some (.cells #[x.dv, x.wv] T_disk_thing (0, 0)) ∧ Vw encB8 1 h x.dv (bytesOf (s.getT x.n).syn) ∧ Vw encW 2 h x.wv (s.getT x.n).pen := by
  have o1 := dL_out o hx
  exact ⟨o1.get 0 rfl, o1.vw 1 rfl, o1.vw 2 rfl⟩

/-! ### What names point to -/

theorem OkL.right : ∀ {l m : List Ch} {D : Dir}, OkL D (l ++ m) → OkL (l.foldl app D) m
  | [], _, _, h => h
  | c :: l, m, D, h => OkL.right (l := l) (m := m) (D := app D c) h.2

theorem dOk_at (H : DOk B c s) (ho : OkL [] (s.cs ++ s.cp)) {k : Nat} {a : Nm} {n : Nat} (hn : dlook (dirOf (s.cs ++ s.cp.take k)) a = some n) : ∃ (i : Nat) (x : TC), c.tc[i]? = some x ∧ x.n = n := by
  have hm := (dlook_mem (keys_dirOf _)).1 hn
  have e : dirOf (s.cs ++ s.cp.take k) = (s.cp.take k).foldl app (dirOf s.cs) := by simp [dirOf]
  rw [e] at hm
  have hk : OkL (dirOf s.cs) (s.cp.take k) := by
    have := OkL.right ho
    rw [← List.take_append_drop k s.cp] at this
    exact this.left
  have : ∃ x ∈ c.tc, x.n = n := by
    rcases dir_val _ _ _ hm hk with h | ⟨b, h⟩
    · obtain ⟨y, hy, hyn⟩ := List.mem_map.1 h
      obtain ⟨x, hx, e⟩ := H.dir y hy
      exact ⟨x, hx, e.trans hyn⟩
    · exact H.num b n (List.mem_of_mem_take h)
  obtain ⟨x, hx, e⟩ := this
  obtain ⟨i, hi⟩ := List.getElem?_of_mem hx
  exact ⟨i, x, hi, e⟩

theorem dOk_now (H : DOk B c s) (ho : OkL [] (s.cs ++ s.cp)) {a : Nm} {n : Nat} (hn : dlook s.now a = some n) : ∃ (i : Nat) (x : TC), c.tc[i]? = some x ∧ x.n = n :=
  dOk_at (k := s.cp.length) H ho (by rw [List.take_length]; exact hn)

theorem thF_at (H : DOk B c s) (hx : c.tc[i]? = some x) : thF c.tc x.n = some (ptr x.b) := by
  unfold thF
  have : c.tc.find? (fun y => decide ((y.n : Int) = x.n)) = some x := by
    have nd := H.nd
    revert hx nd
    generalize c.tc = tc
    intro hx nd
    induction tc generalizing i with
    | nil => cases hx
    | cons y tc ih =>
      have nd' := List.nodup_cons.1 nd
      cases i with
      | zero => simp at hx; subst hx; simp
      | succ i =>
        have hx' : tc[i]? = some x := by simpa using hx
        rw [List.find?_cons]
        have hne : y.n ≠ x.n := fun e => nd'.1 (List.mem_map.2 ⟨x, List.mem_of_getElem? hx', e.symm⟩)
        rw [decide_eq_false (by omega)]
        exact ih hx' nd'.2
  rw [this]; rfl

/-! ### What is refused; steps -/

theorem refusedB_ok {e : Int} {tv : Value} {ys : List Nm} (o : Own h0 h (dL d c s L)) (H : Vw encS 1 h tv ys) (hl : ys.length < 2 ^ 40) (hK : K (I (refE s e ys)) h) : callS Tryz.prog F_disk_Disk_refused [ptr d, I e, tv] h K := by
  refine callS_of (lk_disk_Disk_refused _ _ _ ?_)
  unfold sh_disk_Disk_refused
  rw [pEq_ptr_nil, Option.isNone_some, ifV_false, pNil_ptr, pField_ptr]
  refine o.load 0 rfl rfl ?_
  unfold refE at hK
  cases hoff : s.off with
  | true => rw [hoff, if_pos rfl] at hK; exact hK
  | false =>
    rw [hoff, if_neg (by simp)] at hK
    rw [ifV_false, pBin_neq, ifV_bne]
    refine ⟨fun he => by rw [if_pos he] at hK; exact hK, fun he => ?_⟩
    rw [if_neg (fun h => h he)] at hK
    refine H.len ?_
    refine LoopH_count ys.length (fun i x h' => x.1 = I i ∧ h' = h ∧ ∀ j (hj : j < ys.length), j < i → (dlook s.now ys[j]).isSome = true) ⟨rfl, rfl, fun j hj h => by omega⟩ ?_
    rintro i ⟨x, ⟨⟩⟩ h' Z hi ⟨hx, rfl, hp⟩ hZ
    dsimp only at hx hZ ⊢
    subst hx
    unfold sh_disk_Disk_refused_L1
    rw [pBin_lss, ifV_dec]
    refine ⟨fun hlt => ?_, fun hge => ?_⟩
    · have hi' : i < ys.length := by omega
      refine H.at1 (e := fun (x : Nm) => Value.string x) (fun _ => rfl) hi' ?_
      rw [pNil_ptr, pField_ptr]
      refine o.load 0 rfl rfl ?_
      refine o.klook (Q := QS) (k := ys[i]) (ok := true) 2 rfl ?_
      rw [if_pos rfl, pExt0, pExt1]
      have : (dirF s.now ys[i]).isSome = (dlook s.now ys[i]).isSome := by unfold dirF; simp
      rw [this]
      cases hc : (dlook s.now ys[i]).isSome with
      | false =>
        rw [notF, ifV_true]
        rw [if_neg (fun h => by rw [List.all_eq_true] at h; rw [h _ (List.getElem_mem hi')] at hc; cases hc)] at hK
        exact hK
      | true =>
        rw [notT, ifV_false, pBin_add, wI i (by omega)]
        refine hZ (_, ()) _ hi' ⟨rfl, rfl, fun j hj hji => ?_⟩
        by_cases e : j = i
        · subst e; exact hc
        · exact hp j hj (by omega)
    · rw [if_pos (by
        rw [List.all_eq_true]
        intro a ha
        obtain ⟨j, hj, rfl⟩ := List.mem_iff_getElem.1 ha
        exact hp j hj (by omega))] at hK
      exact hK

theorem stepB_ok {e : Int} {dv : Value} (o : Own h0 h (dL d c s L)) (hoff : e = 0 → s.off = false) (ha : s.armed < 2 ^ 63) (hne : e ≠ 0 → K (I e) h)
    (h1 : e = 0 → s.armed = 1 → ∀ h', Own h0 h' (dL d c { s with armed := 0, off := true } L) → K (I 22) h')
    (hgo : e = 0 → s.armed ≠ 1 → ∀ h', Own h0 h' (dL d c { s with armed := s.armed - 1 } L) → callV Tryz.prog dv [].toArray h' fun _ h'' => K (I 0) h'') : callS Tryz.prog F_disk_Disk_step [ptr d, I e, dv] h K := by
  refine callS_of (lk_disk_Disk_step _ _ _ ?_)
  unfold sh_disk_Disk_step
  rw [pBin_neq, ifV_bne]
  refine ⟨hne, fun he => ?_⟩
  have hof := hoff he
  rw [pNil_ptr, pField_ptr]
  refine o.load 0 rfl rfl ?_
  rw [pBin_gtr, ifV_dec]
  refine ⟨fun hpos => ?_, fun hz => ?_⟩
  · rw [pNil_ptr, pField_ptr]
    refine o.load 0 rfl rfl ?_
    rw [pBin_sub, w64 (by omega) (by omega), show (s.armed : Int) - 1 = ((s.armed - 1 : Nat) : Int) by omega, pNil_ptr, pField_ptr]
    refine o.st1 0 (cs' := dC c { s with armed := s.armed - 1 }) rfl rfl rfl rfl rfl fun h2 o2 => ?_
    have o2 : Own h0 h2 (dL d c { s with armed := s.armed - 1 } L) := o2
    rw [pNil_ptr, pField_ptr]
    refine o2.load 0 rfl rfl ?_
    rw [pBin_eql, ifV_beq]
    dsimp only
    refine ⟨fun hz => ?_, fun hz => ?_⟩
    · have e1 : s.armed = 1 := by omega
      rw [pNil_ptr, pField_ptr]
      refine o2.st1 0 (cs' := dC c { s with armed := s.armed - 1, off := true }) rfl rfl rfl rfl rfl fun h3 o3 => ?_
      refine h1 he e1 h3 ?_
      have : s.armed - 1 = 0 := by omega
      rw [this] at o3
      exact o3
    · exact hgo he (by omega) h2 o2
  · have e0 : s.armed = 0 := by omega
    have := hgo he (by omega) h (by
      have : ({ s with armed := s.armed - 1 } : Dk) = s := by rw [e0]; cases s; simp at e0; subst e0; rfl
      rw [this]; exact o)
    exact this

end
end Go.Proofs.YtleaknaadodjeaaGreat

namespace Go.Proofs.YtleaknaadodjeaaGreat
open Go Go.Mh Go.RowKit
set_option linter.unusedVariables false

section
variable {P : Program} (w : World)
theorem runEqIn (d : Nat) (t k e : TypeId) (p : Option Nat) (h : P.underlying t = some (.map k e)) : (Op.equalIn (d + 1) t (.map p) (.map none)).run P w = .ok p.isNone w := by
  cases p <;> simp [Op.equalIn, run_underlying h]
theorem runEqMap (t k e : TypeId) (p : Option Nat) (h : P.underlying t = some (.map k e)) : (binOp .eql t (.map p) (.map none)).run P w = .ok (.bool p.isNone) w := by
  simp only [binOp]
  simp [show Op.equal t (.map p) (.map none) = Op.equalIn (9999 + 1) t (.map p) (.map none) from rfl, runEqIn w 9999 t k e p h]
theorem runAssMap (t xT k e : TypeId) (v : Value) (h : P.underlying t = some (.map k e)) : (Instr.typeAssert (.iface t v) xT t false).run P w = .ok v w := by
  simp [Instr.typeAssert, run_underlying h, go_sem, Result.andThen]
theorem runClone {r : Nat} {es : Array MapEntry} {clock : Nat} (t : TypeId) (hb : w.heap[r]? = some (.map es clock)) :
    (Extern.MapsClone.clone #[.iface t (.map (some r))]).run P w = .ok (.iface t (.map (some w.heap.size))) (w.alloc (.map es clock)) := by
  have e : Extern.MapsClone.clone #[.iface t (.map (some r))] = (getObj r >>= fun o => match o with
      | .map entries clock => (newObj (.map entries clock) >>= fun n => pure (.iface t (.map (some n))))
      | _ => stuck "maps.clone: a map expected") := rfl
  rw [e]
  simp [MapKept.run_getObj_map hb, Result.andThen, go_sem]
end

set_option maxHeartbeats 4000000 in
set_option maxRecDepth 100000 in
theorem mclone_calls (b : Nat) (es : Array MapEntry) (clock : Nat) (w : World) (hb : w.heap[b]? = some (.map es clock)) :
    Calls Tryz.prog F_maps_Clone_disk_directory_string_int #[.map (some b)] w fun e w' => e = .returned (.map (some w.heap.size)) ∧ w' = w.alloc (.map es clock) := by
  have mixed : Tryz.prog.follows .mixedOrders = true := by kernel_rfl
  have td : Tryz.prog.underlying T_disk_directory = some (.map T_string T_int) := by kernel_rfl
  have tb : Tryz.prog.underlying T_bool = some .bool := by kernel_rfl
  have hq := fun w => runEqMap (P := Tryz.prog) w T_disk_directory _ _ (some b) td
  go_enter Tryz.func37, (show Tryz.f37.ntmps = 9 by kernel_rfl)
  go_wp2
  rw [run_callFunc_extern Tryz.func65 (by kernel_rfl) (by kernel_rfl) (by kernel_rfl) (e := Extern.MapsClone.clone) (by kernel_rfl), runClone w _ hb]
  simp only [Result.andThen]
  rw [Oper.upon_value]
  go_wp2
  rw [runAssMap _ _ _ _ _ _ td]
  simp only [Result.andThen]
  rw [Oper.upon_value]
  go_wp2
  go_ret
  exact ⟨rfl, rfl⟩

section
variable {h0 h : Heap} {L : List Res} {K : Value → Heap → Prop} {m i : Nat} {f : Nm → Option Value}

/-- maps.Clone of a directory. -/
theorem mcloneB_ok (o : Own h0 h L) (hi : L[i]? = some (kmapR QS m f)) (hK : ∀ m' h', Own h0 h' (kmapR QS m' f :: L) → K (.map (some m')) h') : callS Tryz.prog F_maps_Clone_disk_directory_string_int [.map (some m)] h K := by
  obtain ⟨es, clock, hm, him⟩ := o.get i hi
  refine callS_of ⟨by kernel_rfl, fun w hw => ?_⟩
  subst hw
  refine (callsIn_wide.2 (mclone_calls m es clock w hm)).mono fun e w' ⟨he, hw'⟩ => ?_
  subst hw'
  refine ⟨_, he, ?_, ?_⟩
  · exact ⟨rfl, rfl, rfl⟩
  · exact hK _ _ (o.new (r := kmapR QS w.heap.size f) ⟨es, clock, push_new, him⟩ fun b hb => hb)

end
end Go.Proofs.YtleaknaadodjeaaGreat

namespace Go.Proofs.YtleaknaadodjeaaGreat
open Go Go.Mh
set_option linter.unusedVariables false

section
variable {h0 h : Heap} {L : List Res} {K : Value → Heap → Prop} {d i : Nat} {c : DC} {s : Dk} {B : Bx} {x : TC} {U : List Nm} {N : Nat} {a b : Nm}

/-- How a call ends whose answer is v, and behind which the disk is s. -/
def PostD (h0 : Heap) (L : List Res) (d : Nat) (B : Bx) (K : Value → Heap → Prop) (v : Value) (s : Dk) : Prop :=
  ∀ c' B' h', (∀ y ∈ B, y ∈ B') → DOk B' c' s → Own h0 h' (dL d c' s (roR B' :: L)) → K v h'

theorem PostD.mono {B2 : Bx} {v : Value} (H : PostD h0 L d B K v s) (hB : ∀ y ∈ B, y ∈ B2) : PostD h0 L d B2 K v s :=
  fun c' B' h' h1 h2 h3 => H c' B' h' (fun y hy => h1 y (hB y hy)) h2 h3

theorem sub1 {z : Nat × List Value × TypeId} : ∀ y ∈ B, y ∈ z :: B := fun _ h => List.mem_cons_of_mem _ h

theorem DOk.ar (H : DOk B c s) (n : Nat) (f : Bool) : DOk B c { s with armed := n, off := f } := ⟨H.lv, H.ch, H.nd, H.lt, H.dir, H.num⟩

theorem changeB_ok {e : Int} {x : Ch} {g : Dk → Dk} {cf : Nat} {caps : Array Value} (o : Own h0 h (dL d c s (roR B :: L))) (H : DOk B c s) (hoff : e = 0 → s.off = false) (ha : s.armed < 2 ^ 63) (hl : s.cp.length < 2 ^ 40)
    (hg : ∀ s1, (g s1).cs = s1.cs ∧ (g s1).cp = s1.cp)
    (hc : e = 0 → s.armed ≠ 1 → ∀ B1 h' K', (∀ y ∈ B, y ∈ B1) → DOk B1 c { s with armed := s.armed - 1 } → Own h0 h' (dL d c { s with armed := s.armed - 1 } (roR B1 :: L)) →
      (∀ v c2 B2 h'', (∀ y ∈ B1, y ∈ B2) → Own h0 h'' (dL d c2 (g { s with armed := s.armed - 1 }) (roR B2 :: L)) → chV B2 v x → DOk B2 c2 (g { s with armed := s.armed - 1 }) → (∀ a n, x = .mk a n → ∃ y ∈ c2.tc, y.n = n) → K' (.agg #[clv v]) h'') →
      callV Tryz.prog (.func (.func cf) #[] caps) [].toArray h' K')
    (hK : PostD h0 L d B K (I (stepD s e fun s => chD x (g s)).1) (stepD s e fun s => chD x (g s)).2) : callS Tryz.prog F_disk_Disk_change [ptr d, I e, .func (.func cf) #[] caps] h K := by
  refine callS_of (lk_disk_Disk_change _ _ _ ?_)
  unfold sh_disk_Disk_change
  refine o.box fun d3 h1 o1 => ?_
  have o1 : Own h0 h1 (dL d c s (roR ((d3, [ptr d], T_p_disk_Disk) :: B) :: L)) := o1.ro 6 rfl
  refine o1.box fun c5 h2 o2 => ?_
  have o2 : Own h0 h2 (dL d c s (roR ((c5, [.func (.func cf) #[] caps], T_func_disk_change) :: (d3, [ptr d], T_p_disk_Disk) :: B) :: L)) := o2.ro 6 rfl
  have hs2 : ∀ y ∈ B, y ∈ (c5, [.func (.func cf) #[] caps], T_func_disk_change) :: (d3, [ptr d], T_p_disk_Disk) :: B := fun y hy => List.mem_cons_of_mem _ (List.mem_cons_of_mem _ hy)
  have m5 : (c5, [.func (.func cf) #[] caps], T_func_disk_change) ∈ (c5, [.func (.func cf) #[] caps], T_func_disk_change) :: (d3, [ptr d], T_p_disk_Disk) :: B := List.mem_cons_self
  have m3 : (d3, [ptr d], T_p_disk_Disk) ∈ (c5, [.func (.func cf) #[] caps], T_func_disk_change) :: (d3, [ptr d], T_p_disk_Disk) :: B := List.mem_cons_of_mem _ List.mem_cons_self
  have H2 := H.mono hs2
  replace hK := hK.mono hs2
  generalize (c5, [.func (.func cf) #[] caps], T_func_disk_change) :: (d3, [ptr d], T_p_disk_Disk) :: B = B2 at o2 hs2 m5 m3 H2 hK
  refine o2.roLoad 6 rfl m3 rfl ?_
  unfold stepD at hK
  refine stepB_ok o2 hoff ha (fun hne => ?_) (fun he h1 h' o' => ?_) fun he hn1 h' o' => ?_
  · rw [if_pos hne] at hK
    exact hK c B2 h2 (fun _ h => h) H2 o2
  · rw [if_neg (fun h => h he), if_pos h1] at hK
    exact hK c B2 h' (fun _ h => h) (H2.ar 0 true) o'
  · rw [if_neg (fun h => h he), if_neg hn1] at hK
    dsimp only at hK
    refine callV_of (l := [ptr c5, ptr d3]) rfl (lk_disk_Disk_change_1 _ _ ?_)
    unfold sh_disk_Disk_change_1
    refine o'.roLoad 6 rfl m5 rfl ?_
    refine hc he hn1 B2 h' _ hs2 (H2.ar (s.armed - 1) s.off) o' fun v c3 B3 h3 hs3 o3 hv H3 hn => ?_
    obtain ⟨g1, g2⟩ := hg { s with armed := s.armed - 1 }
    generalize hs1 : g { s with armed := s.armed - 1 } = s1 at o3 H3 hK g1 g2
    refine o3.box fun x2 h4 o4 => ?_
    have o4 : Own h0 h4 (cellR x2 [.nilFunc] T_disk_change :: dL d c3 s1 (roR B3 :: L)) := o4
    refine o4.st (l := [clv v]) (cs' := [clv v]) 0 rfl rfl rfl rfl rfl (fun u hu => by simp at hu; subst hu; exact clv_plain v) fun h5 o5 => ?_
    have o5 : Own h0 h5 (cellR x2 [clv v] T_disk_change :: dL d c3 s1 (roR B3 :: L)) := o5
    have m3' := hs3 _ m3
    refine o5.roLoad 7 rfl m3' rfl (o5.roLoad 7 rfl m3' rfl ?_)
    rw [pNil_ptr, pField_ptr]
    refine o5.load 1 rfl rfl ?_
    refine o5.ldN (cs' := [clv v]) 0 rfl rfl rfl ?_
    have hlv : c3.vs.length = s.cp.length := H3.lv.trans (by rw [g2])
    refine o5.app1 (enc := encC) (n := 1) (T := T_disk_change) (xs := c3.vs) 5 v rfl rfl (sizesOk_of rfl) (fun _ => rfl) encC_plain rfl (by decide) (by omega) fun v' h6 o6 => ?_
    have hv' := o6.vw 5 rfl
    refine ⟨o6.roLoad 7 rfl m3' rfl rfl, ?_⟩
    rw [pNil_ptr, pField_ptr]
    refine o6.st1 1 (cs' := dC { c3 with pv := v', vs := c3.vs ++ [v] } s1) rfl rfl rfl hv'.one hv'.plain fun h7 o7 => ?_
    have o7 : Own h0 h7 (cellR x2 [clv v] T_disk_change :: cellR d (dC { c3 with pv := v', vs := c3.vs ++ [v] } s1) T_disk_Disk :: kmapR QS c3.dm (dirF (dirOf s1.cs)) :: kmapR QS c3.nm (dirF s1.now) :: kmapR QI c3.tm (thF c3.tc) :: slR encC 1 T_disk_change v' (c3.vs ++ [v]) :: sepR (tsR c3 s1) :: roR B3 :: L) := o7
    rw [pField_ptr]
    refine o7.load 0 rfl rfl ?_
    refine o7.roLoad 7 rfl m3' rfl ?_
    rw [pNil_ptr, pField_ptr]
    refine o7.load 1 rfl rfl ?_
    refine chDo o7 (i := 3) (j := 7) rfl rfl (by decide) hv fun h8 o8 => ?_
    refine hK { c3 with pv := v', vs := c3.vs ++ [v] } B3 h8 hs3 ?_ ?_
    · refine ⟨?_, fun i w y hw hy => ?_, H3.nd, H3.lt, H3.dir, fun a n hm => ?_⟩
      · show (c3.vs ++ [v]).length = (s1.cp ++ [x]).length
        rw [List.length_append, List.length_append, H3.lv]; rfl
      · have hw' : (c3.vs ++ [v])[i]? = some w := hw
        have hy' : (s1.cp ++ [x])[i]? = some y := hy
        by_cases hi : i < c3.vs.length
        · rw [List.getElem?_append_left hi] at hw'
          rw [List.getElem?_append_left (by rw [← H3.lv]; exact hi)] at hy'
          exact H3.ch i w y hw' hy'
        · rw [List.getElem?_append_right (by omega)] at hw'
          rw [List.getElem?_append_right (by rw [← H3.lv]; omega)] at hy'
          rw [List.getElem?_singleton] at hw' hy'
          split at hw' <;> split at hy' <;> simp at hw' hy'
          subst hw' hy'
          exact hv
      · rcases List.mem_append.1 (show Ch.mk a n ∈ s1.cp ++ [x] from hm) with hm | hm
        · exact H3.num a n hm
        · exact hn a n (List.mem_singleton.1 hm).symm
    · have e : (chD x s1).now = app s1.now x := by
        unfold Dk.now chD
        rw [← List.append_assoc, dirOf_snoc]
      unfold dL
      rw [e]
      exact o8.tail

theorem names1 {h : Heap} {w : Value} (o : Own h0 h (slR encS 1 T_string w [a] :: L)) (hK : K (I (namesE [a])) h) : callS Tryz.prog F_disk_names [w] h K :=
  namesB_ok (o.vw 0 rfl) (Nat.lt_of_lt_of_le (Nat.lt_succ_self 1) (by decide)) hK

theorem ref_off {e : Int} {l : List Nm} (h : refE s e l = 0) : s.off = false ∧ e = 0 ∧ ∀ a ∈ l, (dlook s.now a).isSome = true := by
  unfold refE at h
  split at h
  · exact absurd h (by decide)
  · rename_i ho
    split at h
    · rename_i he; exact absurd h he
    · rename_i he
      split at h
      · rename_i ha
        exact ⟨by simpa using ho, by omega, fun a hm => List.all_eq_true.1 ha a hm⟩
      · exact absurd h (by decide)

theorem makeB_ok (o : Own h0 h (dL d c s (roR B :: L))) (H : DOk B c s) (hI : s.Inv U N) (hN : N ≤ 1048576) (hK : PostD h0 L d B K (I (mMake s a).1) (mMake s a).2) : callS Tryz.prog F_disk_Disk_Make [ptr d, .string a] h K := by
  refine callS_of (lk_disk_Disk_Make _ _ ?_)
  unfold sh_disk_Disk_Make
  refine o.box fun d2 h1 o1 => ?_
  have o1 : Own h0 h1 (dL d c s (roR ((d2, [ptr d], T_p_disk_Disk) :: B) :: L)) := o1.ro 6 rfl
  refine o1.box fun n3 h2 o2 => ?_
  have o2 : Own h0 h2 (dL d c s (roR ((n3, [.string a], T_string) :: (d2, [ptr d], T_p_disk_Disk) :: B) :: L)) := o2.ro 6 rfl
  have hs2 : ∀ y ∈ B, y ∈ (n3, [.string a], T_string) :: (d2, [ptr d], T_p_disk_Disk) :: B := fun y hy => List.mem_cons_of_mem _ (List.mem_cons_of_mem _ hy)
  have mn : (n3, [.string a], T_string) ∈ (n3, [.string a], T_string) :: (d2, [ptr d], T_p_disk_Disk) :: B := List.mem_cons_self
  have md : (d2, [ptr d], T_p_disk_Disk) ∈ (n3, [.string a], T_string) :: (d2, [ptr d], T_p_disk_Disk) :: B := List.mem_cons_of_mem _ List.mem_cons_self
  replace H := H.mono hs2
  replace hK := hK.mono hs2
  generalize (n3, [.string a], T_string) :: (d2, [ptr d], T_p_disk_Disk) :: B = B2 at o2 hs2 mn md H hK
  refine o2.roLoad 6 rfl md rfl (o2.roLoad 6 rfl md rfl (o2.roLoad 6 rfl mn rfl ?_))
  refine o2.build (enc := encS) (n := 1) [a] rfl (sizesOk_of rfl) rfl fun w h3 o3 => ?_
  refine names1 o3 ?_
  refine ⟨o3.roLoad 7 rfl md rfl rfl, o3.roLoad 7 rfl md rfl rfl, ?_⟩
  have o3 := o3.tail
  refine refusedB_ok o3 (ys := []) Vw.nil (by decide) ?_
  refine ⟨o3.roLoad 6 rfl md rfl rfl, ?_⟩
  have hlc := hI.lc
  rw [List.length_append] at hlc
  refine changeB_ok (x := .mk a s.th.length) (g := fun s => { s with th := s.th ++ [⟨[], []⟩] }) o3 H (fun he => (ref_off he).1) hI.ar (by omega) (fun s1 => ⟨rfl, rfl⟩) (fun he hn B3 h4 K' hs3 H3 o4 hk => ?_) ?_
  · refine callV_of (l := [ptr d2, ptr n3]) rfl (lk_disk_Disk_Make_1 _ _ ?_)
    unfold sh_disk_Disk_Make_1
    refine o4.box fun t2 h5 o5 => ?_
    have o5 : Own h0 h5 (cellR t2 [.nilFunc] T_disk_change :: dL d c { s with armed := s.armed - 1 } (roR B3 :: L)) := o5
    have md3 := hs3 _ md
    have mn3 := hs3 _ mn
    refine o5.roLoad 7 rfl md3 rfl ?_
    rw [pNil_ptr, pField_ptr]
    refine o5.load 1 rfl rfl ?_
    refine o5.box fun n5 h6 o6 => ?_
    have o6 : Own h0 h6 (cellR n5 [I 0] T_int :: cellR t2 [.nilFunc] T_disk_change :: dL d c { s with armed := s.armed - 1 } (roR B3 :: L)) := o6
    refine o6.st1 0 (cs' := [I s.th.length]) rfl rfl rfl rfl rfl fun h7 o7 => ?_
    have o7 : Own h0 h7 (cellR n5 [I s.th.length] T_int :: cellR t2 [.nilFunc] T_disk_change :: dL d c { s with armed := s.armed - 1 } (roR B3 :: L)) := o7
    have o7 : Own h0 h7 (cellR t2 [.nilFunc] T_disk_change :: dL d c { s with armed := s.armed - 1 } (roR ((n5, [I s.th.length], T_int) :: B3) :: L)) := o7.ro 7 rfl
    have mn5 : (n5, [I s.th.length], T_int) ∈ (n5, [I s.th.length], T_int) :: B3 := List.mem_cons_self
    have hs4 : ∀ y ∈ B3, y ∈ (n5, [I s.th.length], T_int) :: B3 := sub1
    generalize (n5, [I s.th.length], T_int) :: B3 = B4 at o7 mn5 hs4
    have md4 := hs4 _ md3
    have mn4 := hs4 _ mn3
    refine o7.roLoad 7 rfl md4 rfl ?_
    rw [pNil_ptr, pField_ptr]
    refine o7.load 1 rfl rfl ?_
    have hlt := hI.lt
    rw [pBin_add, wI s.th.length (by omega), pNil_ptr, pField_ptr]
    refine o7.st1 1 (cs' := [.map (some c.dm), .map (some c.nm), .map (some c.tm), c.pv, I ((s.th.length + 1 : Nat) : Int), I ((s.armed - 1 : Nat) : Int), .bool s.off]) rfl rfl rfl rfl rfl fun h8 o8 => ?_
    have o8 : Own h0 h8 (cellR t2 [.nilFunc] T_disk_change :: cellR d [.map (some c.dm), .map (some c.nm), .map (some c.tm), c.pv, I ((s.th.length + 1 : Nat) : Int), I ((s.armed - 1 : Nat) : Int), .bool s.off] T_disk_Disk :: kmapR QS c.dm (dirF (dirOf s.cs)) :: kmapR QS c.nm (dirF s.now) :: kmapR QI c.tm (thF c.tc) :: slR encC 1 T_disk_change c.pv c.vs :: sepR (tsR c s) :: roR B4 :: L) := o8
    refine o8.roLoad 7 rfl md4 rfl ?_
    rw [pNil_ptr, pField_ptr]
    refine o8.load 1 rfl rfl ?_
    refine o8.roLoad 7 rfl mn5 rfl ?_
    refine ⟨sizesOk_of rfl, ?_⟩
    refine o8.box fun t9 h9 o9 => ?_
    have o9 : Own h0 h9 (cellR t9 [.slice none 0 0, .slice none 0 0] T_disk_thing :: cellR t2 [.nilFunc] T_disk_change :: cellR d [.map (some c.dm), .map (some c.nm), .map (some c.tm), c.pv, I ((s.th.length + 1 : Nat) : Int), I ((s.armed - 1 : Nat) : Int), .bool s.off] T_disk_Disk :: kmapR QS c.dm (dirF (dirOf s.cs)) :: kmapR QS c.nm (dirF s.now) :: kmapR QI c.tm (thF c.tc) :: slR encC 1 T_disk_change c.pv c.vs :: sepR (tsR c s) :: roR B4 :: L) := o9
    refine o9.kput (Q := QI) (k := (s.th.length : Int)) (f' := thF (c.tc ++ [⟨s.th.length, t9, .slice none 0 0, .slice none 0 0⟩])) 5 rfl (fun y => ?_) fun h10 o10 => ?_
    · unfold KM.fset thF
      rw [List.find?_append]
      by_cases e : y = (s.th.length : Int)
      · subst e
        rw [if_pos rfl]
        have : c.tc.find? (fun x => decide ((x.n : Int) = (s.th.length : Int))) = none := by
          rw [List.find?_eq_none]
          intro x hx
          have := H.lt x hx
          simp; omega
        rw [this]
        simp
      · rw [if_neg e]
        have : List.find? (fun x : TC => decide ((x.n : Int) = y)) [⟨s.th.length, t9, .slice none 0 0, .slice none 0 0⟩] = none := by
          rw [List.find?_eq_none]
          intro x hx
          rw [List.mem_singleton.1 hx]
          simpa using fun h => e h.symm
        rw [this, Option.or_none]
    · refine ⟨sizesOk_of rfl, ?_⟩
      refine o10.st (l := [clv (.mk n5 n3)]) (cs' := [clv (.mk n5 n3)]) 1 rfl rfl rfl rfl rfl (fun u hu => by simp at hu; subst hu; rfl) fun h11 o11 => ?_
      refine o11.ldN (cs' := [clv (.mk n5 n3)]) 1 rfl rfl rfl ?_
      have o11 : Own h0 h11 (cellR t9 [.slice none 0 0, .slice none 0 0] T_disk_thing :: cellR t2 [clv (.mk n5 n3)] T_disk_change :: cellR d [.map (some c.dm), .map (some c.nm), .map (some c.tm), c.pv, I ((s.th.length + 1 : Nat) : Int), I ((s.armed - 1 : Nat) : Int), .bool s.off] T_disk_Disk :: kmapR QS c.dm (dirF (dirOf s.cs)) :: kmapR QS c.nm (dirF s.now) :: kmapR QI c.tm (thF (c.tc ++ [⟨s.th.length, t9, .slice none 0 0, .slice none 0 0⟩])) :: slR encC 1 T_disk_change c.pv c.vs :: sepR (tsR c s) :: roR B4 :: L) := o11
      refine hk (.mk n5 n3) { c with tc := c.tc ++ [⟨s.th.length, t9, .slice none 0 0, .slice none 0 0⟩] } B4 h11 hs4 ?_ ⟨n5, n3, rfl, mn5, mn4⟩ ?_ ?_
      · have a1 : Own h0 h11 (sepR [cellR t9 [.slice none 0 0, .slice none 0 0] T_disk_thing, slR encB8 1 T_uint8 (.slice none 0 0) [], slR encW 2 T_disk_write (.slice none 0 0) []] :: _) :=
          Own.sep (l := [_, _, _]) (Own.nilS (enc := encB8) (n := 1) (T := T_uint8) (Own.nilS (enc := encW) (n := 2) (T := T_disk_write) o11.swap.tail).swap).swap
        have a2 : Own h0 h11 ((tsR c s ++ [sepR [cellR t9 [.slice none 0 0, .slice none 0 0] T_disk_thing, slR encB8 1 T_uint8 (.slice none 0 0) [], slR encW 2 T_disk_write (.slice none 0 0) []]]) ++ (cellR d [.map (some c.dm), .map (some c.nm), .map (some c.tm), c.pv, I ((s.th.length + 1 : Nat) : Int), I ((s.armed - 1 : Nat) : Int), .bool s.off] T_disk_Disk :: kmapR QS c.dm (dirF (dirOf s.cs)) :: kmapR QS c.nm (dirF s.now) :: kmapR QI c.tm (thF (c.tc ++ [⟨s.th.length, t9, .slice none 0 0, .slice none 0 0⟩])) :: slR encC 1 T_disk_change c.pv c.vs :: nilR :: roR B4 :: L)) := by
          have := a1.out 6 rfl
          rw [List.append_assoc]; exact this
        have a3 := a2.back 5 rfl
        have e1 : tsR { c with tc := c.tc ++ [⟨s.th.length, t9, .slice none 0 0, .slice none 0 0⟩] } { s with armed := s.armed - 1, th := s.th ++ [⟨[], []⟩] } = tsR c s ++ [sepR [cellR t9 [.slice none 0 0, .slice none 0 0] T_disk_thing, slR encB8 1 T_uint8 (.slice none 0 0) [], slR encW 2 T_disk_write (.slice none 0 0) []]] := by
          unfold tsR
          dsimp only
          rw [List.map_append]
          congr 1
          · refine List.map_congr_left fun y hy => ?_
            have := H.lt y hy
            have eg : ({ s with armed := s.armed - 1, th := s.th ++ [⟨[], []⟩] } : Dk).getT y.n = s.getT y.n := by
              unfold Dk.getT
              simp only [List.getD_eq_getElem?_getD]
              rw [List.getElem?_append_left this]
            unfold tRs
            rw [eg]
          · have eg : ({ s with armed := s.armed - 1, th := s.th ++ [⟨[], []⟩] } : Dk).getT s.th.length = ⟨[], []⟩ := by
              unfold Dk.getT
              simp only [List.getD_eq_getElem?_getD]
              rw [List.getElem?_append_right (Nat.le_refl _), Nat.sub_self]; rfl
            simp only [List.map_cons, List.map_nil]
            unfold tRs
            dsimp only
            rw [eg]
            rfl
        have e2 : dC { c with tc := c.tc ++ [⟨s.th.length, t9, .slice none 0 0, .slice none 0 0⟩] } { s with armed := s.armed - 1, th := s.th ++ [⟨[], []⟩] } = [.map (some c.dm), .map (some c.nm), .map (some c.tm), c.pv, I ((s.th.length + 1 : Nat) : Int), I ((s.armed - 1 : Nat) : Int), .bool s.off] := by
          unfold dC; simp
        unfold dL
        rw [e1, e2]
        exact a3
      · refine ⟨H.lv, (H.mono hs3 |>.mono hs4).ch, ?_, fun y hy => ?_, fun y hy => ?_, fun a' n' hm => ?_⟩
        · show (List.map TC.n (c.tc ++ [_])).Nodup
          rw [List.map_append, List.nodup_append]
          refine ⟨H.nd, by simp, fun p hp q hq e => ?_⟩
          obtain ⟨y, hy, rfl⟩ := List.mem_map.1 hp
          have := H.lt y hy
          simp at hq
          omega
        · show y.n < (s.th ++ [_]).length
          rw [List.length_append]
          rcases List.mem_append.1 hy with hy | hy
          · have := H.lt y hy; simp; omega
          · rw [List.mem_singleton.1 hy]; simp
        · obtain ⟨x, hx, e⟩ := H.dir y hy; exact ⟨x, List.mem_append_left _ hx, e⟩
        · obtain ⟨x, hx, e⟩ := H.num a' n' hm; exact ⟨x, List.mem_append_left _ hx, e⟩
      · rintro a' n' e
        cases e
        exact ⟨_, List.mem_append_right _ (List.mem_singleton.2 rfl), rfl⟩
  · exact hK

end
end Go.Proofs.YtleaknaadodjeaaGreat

namespace Go.Proofs.YtleaknaadodjeaaGreat
open Go Go.Mh
set_option linter.unusedVariables false

section
variable {h0 h : Heap} {L : List Res} {K : Value → Heap → Prop} {d i : Nat} {c : DC} {s : Dk} {B : Bx} {x : TC} {U : List Nm} {N : Nat} {a b : Nm}

theorem renameB_ok (o : Own h0 h (dL d c s (roR B :: L))) (H : DOk B c s) (hI : s.Inv U N) (hN : N ≤ 1048576) (hK : PostD h0 L d B K (I (mRename s a b).1) (mRename s a b).2) : callS Tryz.prog F_disk_Disk_Rename [ptr d, .string a, .string b] h K := by
  refine callS_of (lk_disk_Disk_Rename _ _ _ ?_)
  unfold sh_disk_Disk_Rename
  refine o.box fun f4 h1 o1 => ?_
  have o1 : Own h0 h1 (dL d c s (roR ((f4, [.string a], T_string) :: B) :: L)) := o1.ro 6 rfl
  refine o1.box fun n5 h2 o2 => ?_
  have o2 : Own h0 h2 (dL d c s (roR ((n5, [.string b], T_string) :: (f4, [.string a], T_string) :: B) :: L)) := o2.ro 6 rfl
  have hs2 : ∀ y ∈ B, y ∈ (n5, [.string b], T_string) :: (f4, [.string a], T_string) :: B := fun y hy => List.mem_cons_of_mem _ (List.mem_cons_of_mem _ hy)
  have mb : (n5, [.string b], T_string) ∈ (n5, [.string b], T_string) :: (f4, [.string a], T_string) :: B := List.mem_cons_self
  have ma : (f4, [.string a], T_string) ∈ (n5, [.string b], T_string) :: (f4, [.string a], T_string) :: B := List.mem_cons_of_mem _ List.mem_cons_self
  replace H := H.mono hs2
  replace hK := hK.mono hs2
  generalize (n5, [.string b], T_string) :: (f4, [.string a], T_string) :: B = B2 at o2 hs2 ma mb H hK
  refine cutP_of (fun y h' => K y.1 h') (fun J hJ => ?_) (fun y h' hk => hk)
  have hKJ : PostD h0 L d B2 (fun v h' => J (v, ()) h') (I (mRename s a b).1) (mRename s a b).2 := fun c' B' h' h1 h2 h3 => hJ _ _ (hK c' B' h' h1 h2 h3)
  have hlc := hI.lc
  rw [List.length_append] at hlc
  have tail : ∀ (h' : Heap) (w : Value), Own h0 h' (dL d c s (roR B2 :: L)) → Vw encS 1 h' w [a] →
      callS Tryz.prog F_disk_Disk_refused [ptr d, I (namesE [a, b]), w] h' fun t15 h_6 => callS Tryz.prog F_disk_Disk_change [ptr d, t15, .func (.func F_disk_Disk_Rename_1) #[] #[ptr f4, ptr n5]] h_6 fun t17 h_7 => J (t17, ()) h_7 := by
    intro h' w o' hw
    refine refusedB_ok o' hw (by simp) ?_
    refine changeB_ok (x := .ren a b) (g := fun s => s) o' H (fun he => (ref_off he).1) hI.ar (by omega) (fun s1 => ⟨rfl, rfl⟩) (fun he hn B3 h4 K' hs3 H3 o4 hk => ?_) hKJ
    refine callV_of (l := [ptr f4, ptr n5]) rfl (lk_disk_Disk_Rename_1 _ _ ?_)
    unfold sh_disk_Disk_Rename_1
    refine o4.box fun t2 h5 o5 => ?_
    have o5 : Own h0 h5 (cellR t2 [.nilFunc] T_disk_change :: dL d c { s with armed := s.armed - 1 } (roR B3 :: L)) := o5
    refine ⟨sizesOk_of rfl, ?_⟩
    refine o5.st (l := [clv (.ren f4 n5)]) (cs' := [clv (.ren f4 n5)]) 0 rfl rfl rfl rfl rfl (fun u hu => by simp at hu; subst hu; rfl) fun h11 o11 => ?_
    refine o11.ldN (cs' := [clv (.ren f4 n5)]) 0 rfl rfl rfl ?_
    exact hk (.ren f4 n5) c B3 h11 (fun _ h => h) o11.tail ⟨f4, n5, rfl, hs3 _ ma, hs3 _ mb⟩ H3 (fun _ _ e => by cases e)
  refine o2.roLoad 6 rfl ma rfl (o2.roLoad 6 rfl mb rfl (o2.roLoad 6 rfl ma rfl ?_))
  refine ⟨?_, ?_⟩
  · refine o2.build (enc := encS) (n := 1) [a, b] rfl (sizesOk_of rfl) rfl fun w h3 o3 => ⟨?_, ?_⟩
    · refine namesB_ok (o3.vw 0 rfl) (by simp) ⟨o3.roLoad 7 rfl ma rfl rfl, ?_⟩
      refine o3.build (enc := encS) (n := 1) [a] rfl (sizesOk_of rfl) rfl fun w' h4 o4 => ?_
      exact tail h4 w' o4.tail.tail (o4.vw 0 rfl)
    · refine o3.build (enc := encS) (n := 1) [a] rfl (sizesOk_of rfl) rfl fun w' h4 o4 => ?_
      exact namesB_ok (o4.vw 1 rfl) (by simp) (tail h4 w' o4.tail.tail (o4.vw 0 rfl))
  · refine o2.build (enc := encS) (n := 1) [a] rfl (sizesOk_of rfl) rfl fun w' h3 o3 => ?_
    refine o3.build (enc := encS) (n := 1) [a, b] rfl (sizesOk_of rfl) rfl fun w h4 o4 => ?_
    exact namesB_ok (o4.vw 0 rfl) (by simp) (tail h4 w' o4.tail.tail (o4.vw 1 rfl))

/-- What a name points to, as the program asks. -/
theorem look_now {n : Nat} {z : Value} {K : Value → Prop} (o : Own h0 h (dL d c s L)) (hn : dlook s.now a = some n) (hK : K (I n)) : pLook .string z false h (.map (some c.nm)) (.string a) K := by
  refine o.klook (Q := QS) (k := a) (ok := false) 2 rfl ?_
  have : dirF s.now a = some (I n) := by unfold dirF; rw [hn]; rfl
  rw [this]; exact hK

theorem look_th {z : Value} {K : Value → Prop} (o : Own h0 h (dL d c s L)) (H : DOk B c s) (hx : c.tc[i]? = some x) (hK : K (ptr x.b)) : pLook (.int .i64) z false h (.map (some c.tm)) (I x.n) K := by
  refine o.klook (Q := QI) (k := (x.n : Int)) (ok := false) 3 rfl ?_
  rw [thF_at H hx]; exact hK

theorem th_mem {n : Nat} (hn : n < s.th.length) : s.getT n ∈ s.th := by
  unfold Dk.getT
  rw [List.getD_eq_getElem?_getD, List.getElem?_eq_getElem hn]
  exact List.getElem_mem hn

theorem bytes_len {l : List Wr} (hw : ∀ w ∈ l, w.off + w.s.size ≤ 1048576) : (bytesOf l).length ≤ 1048576 := by
  have bnd : ∀ (l : List Wr) (b : List UInt8), b.length ≤ 1048576 → (∀ w ∈ l, w.off + w.s.size ≤ 1048576) → (l.foldl putW b).length ≤ 1048576 := by
    intro l
    induction l with
    | nil => intro b hb _; exact hb
    | cons w l ih =>
      intro b hb hw
      refine ih _ ?_ fun x hx => hw x (List.mem_cons_of_mem _ hx)
      have := hw w List.mem_cons_self
      rw [putW_len]; omega
  exact bnd l [] (by simp) hw

/-- All bytes of a thing of a disk. -/
theorem seenD_ok {L' : List Res} (o : Own h0 h (dL d c s L)) (H : DOk B c s) (hI : s.Inv U N) (hN : N ≤ 1048576) (hx : c.tc[i]? = some x) (hK : ∀ v h', Own h h' [slR encB8 1 T_uint8 v (bytesOf (s.getT x.n).all)] → K v h') : callS Tryz.prog F_disk_thing_seen [ptr x.b] h K := by
  obtain ⟨f1, f2, f3⟩ := dL_facts o hx
  have hm := th_mem (s := s) (H.lt x (List.mem_of_getElem? hx))
  have hw := hI.wr _ hm
  have hl := hI.lw _ hm
  unfold Th.all at hw hl
  rw [List.length_append] at hl
  refine seenB_ok f1 f2 f3 (bytes_len fun w hw' => hw w (List.mem_append_left _ hw')) (by omega) (fun w hw' => hw w (List.mem_append_right _ hw')) fun v h' o' => hK v h' ?_
  unfold Th.all bytesOf
  rw [List.foldl_append]
  exact o'

theorem syncB_ok (o : Own h0 h (dL d c s (roR B :: L))) (H : DOk B c s) (hI : s.Inv U N) (hN : N ≤ 1048576) (hK : PostD h0 L d B K (I (mSync s a).1) (mSync s a).2) : callS Tryz.prog F_disk_Disk_Sync [ptr d, .string a] h K := by
  refine callS_of (lk_disk_Disk_Sync _ _ ?_)
  unfold sh_disk_Disk_Sync
  refine o.box fun d2 h1 o1 => ?_
  have o1 : Own h0 h1 (dL d c s (roR ((d2, [ptr d], T_p_disk_Disk) :: B) :: L)) := o1.ro 6 rfl
  refine o1.box fun n3 h2 o2 => ?_
  have o2 : Own h0 h2 (dL d c s (roR ((n3, [.string a], T_string) :: (d2, [ptr d], T_p_disk_Disk) :: B) :: L)) := o2.ro 6 rfl
  have hs2 : ∀ y ∈ B, y ∈ (n3, [.string a], T_string) :: (d2, [ptr d], T_p_disk_Disk) :: B := fun y hy => List.mem_cons_of_mem _ (List.mem_cons_of_mem _ hy)
  have mn : (n3, [.string a], T_string) ∈ (n3, [.string a], T_string) :: (d2, [ptr d], T_p_disk_Disk) :: B := List.mem_cons_self
  have md : (d2, [ptr d], T_p_disk_Disk) ∈ (n3, [.string a], T_string) :: (d2, [ptr d], T_p_disk_Disk) :: B := List.mem_cons_of_mem _ List.mem_cons_self
  replace H := H.mono hs2
  replace hK := hK.mono hs2
  generalize (n3, [.string a], T_string) :: (d2, [ptr d], T_p_disk_Disk) :: B = B2 at o2 hs2 mn md H hK
  refine cutP_of (fun y h' => K y.1 h') (fun J hJ => ?_) (fun y h' hk => hk)
  have hKJ : PostD h0 L d B2 (fun v h' => J (v, ()) h') (I (mSync s a).1) (mSync s a).2 := fun c' B' h' h1 h2 h3 => hJ _ _ (hK c' B' h' h1 h2 h3)
  have tail : ∀ (h' : Heap) (w : Value), Own h0 h' (dL d c s (roR B2 :: L)) → Vw encS 1 h' w [a] →
      callS Tryz.prog F_disk_Disk_refused [ptr d, I (namesE [a]), w] h' fun t12 h_6 => (pLoad h_6 (ptr d2) fun t5_2 => t5_2 = ptr d) ∧ (callS Tryz.prog F_disk_Disk_step [ptr d, t12, .func (.func F_disk_Disk_Sync_1) #[] #[ptr d2, ptr n3]] h_6 fun t14 h_7 => J (t14, ()) h_7) := by
    intro h' w o' hw
    refine refusedB_ok o' hw (by simp) ⟨o'.roLoad 6 rfl md rfl rfl, ?_⟩
    unfold mSync stepD at hKJ
    refine stepB_ok o' (fun he => (ref_off he).1) hI.ar (fun hne => ?_) (fun he h1 h3 o3 => ?_) fun he hn1 h3 o3 => ?_
    · rw [if_pos hne] at hKJ
      exact hKJ c B2 h' (fun _ h => h) H o'
    · rw [if_neg (fun h => h he), if_pos h1] at hKJ
      exact hKJ c B2 h3 (fun _ h => h) (H.ar 0 true) o3
    · rw [if_neg (fun h => h he), if_neg hn1] at hKJ
      dsimp only at hKJ
      obtain ⟨_, _, ht⟩ := ref_off he
      obtain ⟨n, hn⟩ := Option.isSome_iff_exists.1 (ht a List.mem_cons_self)
      obtain ⟨i, x, hx, rfl⟩ := dOk_now H hI.ok hn
      have hn' : dlook ({ s with armed := s.armed - 1 } : Dk).now a = some x.n := hn
      unfold upT at hKJ
      rw [hn'] at hKJ
      dsimp only at hKJ
      have H3 := H.ar (s.armed - 1) s.off
      refine callV_of (l := [ptr d2, ptr n3]) rfl (lk_disk_Disk_Sync_1 _ _ ?_)
      unfold sh_disk_Disk_Sync_1
      refine o3.roLoad 6 rfl md rfl ?_
      rw [pNil_ptr, pField_ptr]
      refine o3.load 0 rfl rfl (o3.roLoad 6 rfl md rfl ?_)
      rw [pNil_ptr, pField_ptr]
      refine o3.load 0 rfl rfl (o3.roLoad 6 rfl mn rfl ?_)
      refine look_now o3 hn' (look_th o3 H3 hx ?_)
      have hI3 : ({ s with armed := s.armed - 1 } : Dk).Inv U N := ⟨hI.nm, hI.num, hI.ok, hI.inj, by have := hI.ar; show s.armed - 1 < _; omega, hI.lc, hI.lt, hI.lw, hI.wr⟩
      refine seenD_ok (L' := L) o3 H3 hI3 hN hx fun v h4 o4 => ?_
      have o5 := (dL_out o3 hx).frame o4
      have o5 : Own h0 h4 (slR encB8 1 T_uint8 v (bytesOf (({ s with armed := s.armed - 1 } : Dk).getT x.n).all) :: cellR x.b [x.dv, x.wv] T_disk_thing :: slR encB8 1 T_uint8 x.dv (bytesOf (s.getT x.n).syn) :: slR encW 2 T_disk_write x.wv (s.getT x.n).pen :: ((tsR c { s with armed := s.armed - 1 }).set i nilR ++ dN d c { s with armed := s.armed - 1 } nilR (roR B2 :: L))) := o5
      have hv := o5.vw 0 rfl
      rw [pNil_ptr, pField_ptr]
      refine o5.st1 1 (cs' := [v, x.wv]) rfl rfl rfl hv.one hv.plain fun h6 o6 => ?_
      rw [pNil_ptr, pField_ptr]
      refine o6.st1 1 (cs' := [v, .slice none 0 0]) rfl rfl rfl rfl rfl fun h7 o7 => ?_
      have o7 : Own h0 h7 (slR encB8 1 T_uint8 v (bytesOf (({ s with armed := s.armed - 1 } : Dk).getT x.n).all) :: cellR x.b [v, .slice none 0 0] T_disk_thing :: slR encB8 1 T_uint8 x.dv (bytesOf (s.getT x.n).syn) :: slR encW 2 T_disk_write x.wv (s.getT x.n).pen :: ((tsR c { s with armed := s.armed - 1 }).set i nilR ++ dN d c { s with armed := s.armed - 1 } nilR (roR B2 :: L))) := o7
      have o8 := Own.nilS (enc := encW) (n := 2) (T := T_disk_write) (o7.front 4 [1, 0] (by decide) (by decide))
      have o9 : Own h0 h7 (cellR x.b [v, .slice none 0 0] T_disk_thing :: slR encB8 1 T_uint8 v (bytesOf (({ s with armed := s.armed - 1 } : Dk).getT x.n).all) :: slR encW 2 T_disk_write (.slice none 0 0) [] :: ((tsR c { s with armed := s.armed - 1 }).set i nilR ++ dN d c { s with armed := s.armed - 1 } nilR (roR B2 :: L))) := o8.front 3 [1, 2, 0] (by decide) (by decide)
      have o10 := dL_mod (f := fun t => ⟨t.all, []⟩) H3 hx o9
      exact hKJ _ B2 h7 (fun _ h => h) (H3.modT hx) o10
  refine o2.roLoad 6 rfl md rfl (o2.roLoad 6 rfl md rfl (o2.roLoad 6 rfl mn rfl (o2.roLoad 6 rfl mn rfl ?_)))
  refine ⟨?_, ?_⟩
  · refine o2.build (enc := encS) (n := 1) [a] rfl (sizesOk_of rfl) rfl fun w h3 o3 => ⟨?_, ?_⟩
    · refine namesB_ok (o3.vw 0 rfl) (by simp) ⟨o3.roLoad 7 rfl md rfl rfl, o3.roLoad 7 rfl md rfl rfl, o3.roLoad 7 rfl mn rfl rfl, ?_⟩
      refine o3.build (enc := encS) (n := 1) [a] rfl (sizesOk_of rfl) rfl fun w' h4 o4 => ?_
      exact tail h4 w' o4.tail.tail (o4.vw 0 rfl)
    · refine o3.build (enc := encS) (n := 1) [a] rfl (sizesOk_of rfl) rfl fun w' h4 o4 => ?_
      exact namesB_ok (o4.vw 1 rfl) (by simp) ⟨o4.roLoad 8 rfl md rfl rfl, o4.roLoad 8 rfl md rfl rfl, tail h4 w' o4.tail.tail (o4.vw 0 rfl)⟩
  · refine o2.build (enc := encS) (n := 1) [a] rfl (sizesOk_of rfl) rfl fun w' h3 o3 => ?_
    refine o3.build (enc := encS) (n := 1) [a] rfl (sizesOk_of rfl) rfl fun w h4 o4 => ?_
    exact namesB_ok (o4.vw 0 rfl) (by simp) ⟨o4.roLoad 8 rfl md rfl rfl, o4.roLoad 8 rfl md rfl rfl, tail h4 w' o4.tail.tail (o4.vw 1 rfl)⟩

end
end Go.Proofs.YtleaknaadodjeaaGreat

namespace Go.Proofs.YtleaknaadodjeaaGreat
open Go Go.Mh
set_option linter.unusedVariables false

section
variable {h0 h : Heap} {L : List Res} {K : Value → Heap → Prop} {d i : Nat} {c : DC} {s : Dk} {B : Bx} {x : TC} {U : List Nm} {N : Nat} {a b : Nm}

theorem Dk.Inv.arm (hI : s.Inv U N) : ({ s with armed := s.armed - 1 } : Dk).Inv U N :=
  ⟨hI.nm, hI.num, hI.ok, hI.inj, by have := hI.ar; show s.armed - 1 < _; omega, hI.lc, hI.lt, hI.lw, hI.wr⟩

theorem writeB_ok {z : Int} {w : ByteArray} (o : Own h0 h (dL d c s (roR B :: L))) (H : DOk B c s) (hI : s.Inv U N) (hN : N ≤ 1048576) (hz : -9223372036854775808 ≤ z ∧ z ≤ 9223372036854775807) (hw : w.size ≤ 1048576) (hK : PostD h0 L d B K (I (mWrite s a z w).1) (mWrite s a z w).2) : callS Tryz.prog F_disk_Disk_Write [ptr d, .string a, I z, .string w] h K := by
  refine callS_of (lk_disk_Disk_Write _ _ _ _ ?_)
  unfold sh_disk_Disk_Write
  refine o.box fun d2 h1 o1 => ?_
  have o1 : Own h0 h1 (dL d c s (roR ((d2, [ptr d], T_p_disk_Disk) :: B) :: L)) := o1.ro 6 rfl
  refine o1.box fun n3 h2 o2 => ?_
  have o2 : Own h0 h2 (dL d c s (roR ((n3, [.string a], T_string) :: (d2, [ptr d], T_p_disk_Disk) :: B) :: L)) := o2.ro 6 rfl
  refine o2.box fun a6 h3 o3 => ?_
  have o3 : Own h0 h3 (dL d c s (roR ((a6, [I z], T_int) :: (n3, [.string a], T_string) :: (d2, [ptr d], T_p_disk_Disk) :: B) :: L)) := o3.ro 6 rfl
  refine o3.box fun s7 h4 o4 => ?_
  have o4 : Own h0 h4 (dL d c s (roR ((s7, [.string w], T_string) :: (a6, [I z], T_int) :: (n3, [.string a], T_string) :: (d2, [ptr d], T_p_disk_Disk) :: B) :: L)) := o4.ro 6 rfl
  have hs2 : ∀ y ∈ B, y ∈ (s7, [.string w], T_string) :: (a6, [I z], T_int) :: (n3, [.string a], T_string) :: (d2, [ptr d], T_p_disk_Disk) :: B := fun y hy => List.mem_cons_of_mem _ (List.mem_cons_of_mem _ (List.mem_cons_of_mem _ (List.mem_cons_of_mem _ hy)))
  have ms : (s7, [.string w], T_string) ∈ (s7, [.string w], T_string) :: (a6, [I z], T_int) :: (n3, [.string a], T_string) :: (d2, [ptr d], T_p_disk_Disk) :: B := List.mem_cons_self
  have ma : (a6, [I z], T_int) ∈ (s7, [.string w], T_string) :: (a6, [I z], T_int) :: (n3, [.string a], T_string) :: (d2, [ptr d], T_p_disk_Disk) :: B := List.mem_cons_of_mem _ List.mem_cons_self
  have mn : (n3, [.string a], T_string) ∈ (s7, [.string w], T_string) :: (a6, [I z], T_int) :: (n3, [.string a], T_string) :: (d2, [ptr d], T_p_disk_Disk) :: B := List.mem_cons_of_mem _ (List.mem_cons_of_mem _ List.mem_cons_self)
  have md : (d2, [ptr d], T_p_disk_Disk) ∈ (s7, [.string w], T_string) :: (a6, [I z], T_int) :: (n3, [.string a], T_string) :: (d2, [ptr d], T_p_disk_Disk) :: B := List.mem_cons_of_mem _ (List.mem_cons_of_mem _ (List.mem_cons_of_mem _ List.mem_cons_self))
  replace H := H.mono hs2
  replace hK := hK.mono hs2
  generalize (s7, [.string w], T_string) :: (a6, [I z], T_int) :: (n3, [.string a], T_string) :: (d2, [ptr d], T_p_disk_Disk) :: B = B2 at o4 hs2 ms ma mn md H hK
  clear o o1 o2 o3
  have k2 : ∀ h', Own h0 h' (dL d c s (roR B2 :: L)) → sh_disk_Disk_Write_k2 Tryz.prog (ptr d2) (ptr n3) (ptr a6) (ptr s7) K (I (wrE a z w)) h' := by
    intro h' o'
    unfold sh_disk_Disk_Write_k2
    refine o'.roLoad 6 rfl md rfl (o'.roLoad 6 rfl md rfl (o'.roLoad 6 rfl mn rfl ?_))
    refine o'.build (enc := encS) (n := 1) [a] rfl (sizesOk_of rfl) rfl fun v h5 o5 => ?_
    have o5' := o5.tail
    refine refusedB_ok o5' (o5.vw 0 rfl) (by simp) ⟨o5'.roLoad 6 rfl md rfl rfl, ?_⟩
    unfold mWrite stepD at hK
    refine stepB_ok o5' (fun he => (ref_off he).1) hI.ar (fun hne => ?_) (fun he h1 h3 o3 => ?_) fun he hn1 h3 o3 => ?_
    · rw [if_pos hne] at hK
      exact hK c B2 h5 (fun _ h => h) H o5'
    · rw [if_neg (fun h => h he), if_pos h1] at hK
      exact hK c B2 h3 (fun _ h => h) (H.ar 0 true) o3
    · rw [if_neg (fun h => h he), if_neg hn1] at hK
      dsimp only at hK
      obtain ⟨_, hwr, ht⟩ := ref_off he
      have hz0 : 0 ≤ z := by
        unfold wrE at hwr
        split at hwr
        · cases hwr
        · rename_i hc
          refine Classical.byContradiction fun hneg => hc ⟨hwr, .inl (by omega)⟩
      obtain ⟨n, hn⟩ := Option.isSome_iff_exists.1 (ht a List.mem_cons_self)
      obtain ⟨i, x, hx, rfl⟩ := dOk_now H hI.ok hn
      have hn' : dlook ({ s with armed := s.armed - 1 } : Dk).now a = some x.n := hn
      unfold upT at hK
      rw [hn'] at hK
      dsimp only at hK
      have H3 := H.ar (s.armed - 1) s.off
      have hm := th_mem (s := s) (H.lt x (List.mem_of_getElem? hx))
      have hl := hI.lw _ hm
      unfold Th.all at hl
      rw [List.length_append] at hl
      refine callV_of (l := [ptr d2, ptr n3, ptr a6, ptr s7]) rfl (lk_disk_Disk_Write_1 _ _ _ _ ?_)
      unfold sh_disk_Disk_Write_1
      refine o3.roLoad 6 rfl md rfl ?_
      rw [pNil_ptr, pField_ptr]
      refine o3.load 0 rfl rfl (o3.roLoad 6 rfl md rfl ?_)
      rw [pNil_ptr, pField_ptr]
      refine o3.load 0 rfl rfl (o3.roLoad 6 rfl mn rfl ?_)
      refine look_now o3 hn' (look_th o3 H3 hx ?_)
      rw [pNil_ptr, pField_ptr]
      have o5 := dL_out o3 hx
      have o5 : Own h0 h3 (cellR x.b [x.dv, x.wv] T_disk_thing :: slR encB8 1 T_uint8 x.dv (bytesOf (s.getT x.n).syn) :: slR encW 2 T_disk_write x.wv (s.getT x.n).pen :: ((tsR c { s with armed := s.armed - 1 }).set i nilR ++ dN d c { s with armed := s.armed - 1 } nilR (roR B2 :: L))) := o5
      refine o5.load 0 rfl rfl (o3.roLoad 6 rfl ma rfl (o3.roLoad 6 rfl ms rfl ?_))
      refine ⟨sizesOk_of rfl, ?_⟩
      have ez : z = ((z.toNat : Nat) : Int) := by omega
      refine o5.app1 (enc := encW) (n := 2) (T := T_disk_write) (xs := (s.getT x.n).pen) 2 ⟨z.toNat, w⟩ rfl ?_ (sizesOk_of rfl) (fun _ => rfl) encW_plain rfl (by decide) (by omega) fun v' h6 o6 => ?_
      · unfold encW; dsimp only; rw [← ez]; rfl
      have hv := o6.vw 2 rfl
      rw [pNil_ptr, pField_ptr]
      refine o6.st1 0 (cs' := [x.dv, v']) rfl rfl rfl hv.one hv.plain fun h7 o7 => ?_
      have o7 : Own h0 h7 (cellR x.b [x.dv, v'] T_disk_thing :: slR encB8 1 T_uint8 x.dv (bytesOf (s.getT x.n).syn) :: slR encW 2 T_disk_write v' ((s.getT x.n).pen ++ [⟨z.toNat, w⟩]) :: ((tsR c { s with armed := s.armed - 1 }).set i nilR ++ dN d c { s with armed := s.armed - 1 } nilR (roR B2 :: L))) := o7
      have o10 := dL_mod (f := fun t => { t with pen := t.pen ++ [⟨z.toNat, w⟩] }) H3 hx o7
      exact hK _ B2 h7 (fun _ h => h) (H3.modT hx) o10
  refine o4.roLoad 6 rfl mn rfl ?_
  refine o4.build (enc := encS) (n := 1) [a] rfl (sizesOk_of rfl) rfl fun v h5 o5 => ?_
  refine names1 o5 ?_
  have o6 := o5.tail
  rw [pBin_eql, ifV_beq]
  refine ⟨fun he => ?_, fun hne => ?_⟩
  · refine o6.roLoad 6 rfl ma rfl ?_
    rw [pBin_lss, ifV_dec]
    refine ⟨fun hneg => ?_, fun hpos => ?_⟩
    · have := k2 h5 o6
      rwa [show wrE a z w = 2 from if_pos ⟨he, .inl hneg⟩] at this
    · refine o6.roLoad 6 rfl ma rfl (o6.roLoad 6 rfl ms rfl ?_)
      rw [pLenS_str, pBin_sub, w64 (by omega) (by omega), pBin_gtr, ifV_dec]
      refine ⟨fun hgt => ?_, fun hle => ?_⟩
      · have := k2 h5 o6
        rwa [show wrE a z w = 2 from if_pos ⟨he, .inr hgt⟩] at this
      · have := k2 h5 o6
        rwa [show wrE a z w = namesE [a] from if_neg fun h => h.2.elim hpos hle] at this
  · have := k2 h5 o6
    rwa [show wrE a z w = namesE [a] from if_neg fun h => hne h.1] at this

theorem syncDirB_ok (o : Own h0 h (dL d c s (roR B :: L))) (H : DOk B c s) (hI : s.Inv U N) (hK : PostD h0 L d B K (I (mSyncDir s).1) (mSyncDir s).2) : callS Tryz.prog F_disk_Disk_SyncDir [ptr d] h K := by
  refine callS_of (lk_disk_Disk_SyncDir _ ?_)
  unfold sh_disk_Disk_SyncDir
  refine o.box fun d2 h1 o1 => ?_
  have o1 : Own h0 h1 (dL d c s (roR ((d2, [ptr d], T_p_disk_Disk) :: B) :: L)) := o1.ro 6 rfl
  have hs2 : ∀ y ∈ B, y ∈ (d2, [ptr d], T_p_disk_Disk) :: B := sub1
  have md : (d2, [ptr d], T_p_disk_Disk) ∈ (d2, [ptr d], T_p_disk_Disk) :: B := List.mem_cons_self
  replace H := H.mono hs2
  replace hK := hK.mono hs2
  generalize (d2, [ptr d], T_p_disk_Disk) :: B = B2 at o1 hs2 md H hK
  refine o1.roLoad 6 rfl md rfl (o1.roLoad 6 rfl md rfl ?_)
  refine refusedB_ok o1 (ys := []) (e := 0) Vw.nil (by decide) ⟨o1.roLoad 6 rfl md rfl rfl, ?_⟩
  unfold mSyncDir stepD at hK
  refine stepB_ok o1 (fun he => (ref_off he).1) hI.ar (fun hne => ?_) (fun he h2 h3 o3 => ?_) fun he hn1 h3 o3 => ?_
  · rw [if_pos hne] at hK
    exact hK c B2 h1 (fun _ h => h) H o1
  · rw [if_neg (fun h => h he), if_pos h2] at hK
    exact hK c B2 h3 (fun _ h => h) (H.ar 0 true) o3
  · rw [if_neg (fun h => h he), if_neg hn1] at hK
    dsimp only at hK
    refine callV_of (l := [ptr d2]) rfl (lk_disk_Disk_SyncDir_1 _ ?_)
    unfold sh_disk_Disk_SyncDir_1
    refine o3.roLoad 6 rfl md rfl (o3.roLoad 6 rfl md rfl (o3.roLoad 6 rfl md rfl ?_))
    rw [pNil_ptr, pField_ptr]
    refine o3.load 0 rfl rfl ?_
    refine mcloneB_ok o3 (i := 2) rfl fun m' h4 o4 => ?_
    refine ⟨o4.roLoad 7 rfl md rfl rfl, o4.roLoad 7 rfl md rfl rfl, ?_⟩
    rw [pNil_ptr, pField_ptr]
    refine o4.st1 1 (cs' := dC { c with dm := m' } { s with armed := s.armed - 1 }) rfl rfl rfl rfl rfl fun h5 o5 => ?_
    refine ⟨o5.roLoad 7 rfl md rfl rfl, ?_⟩
    rw [pNil_ptr, pField_ptr]
    refine o5.st1 1 (cs' := dC { c with dm := m', pv := .slice none 0 0, vs := [] } { s with armed := s.armed - 1 }) rfl rfl rfl rfl rfl fun h6 o6 => ?_
    have o6 : Own h0 h6 (kmapR QS m' (dirF s.now) :: cellR d (dC { c with dm := m', pv := .slice none 0 0, vs := [] } { s with armed := s.armed - 1 }) T_disk_Disk :: kmapR QS c.dm (dirF (dirOf s.cs)) :: kmapR QS c.nm (dirF s.now) :: kmapR QI c.tm (thF c.tc) :: slR encC 1 T_disk_change c.pv c.vs :: sepR (tsR c { s with armed := s.armed - 1 }) :: roR B2 :: L) := o6
    have o7 := Own.nilS (enc := encC) (n := 1) (T := T_disk_change) o6
    have o8 := o7.front 8 [2, 1, 4, 5, 0, 7] (by decide) (by decide)
    refine hK { c with dm := m', pv := .slice none 0 0, vs := [] } B2 h6 (fun _ h => h) ?_ ?_
    · refine ⟨rfl, fun i v y hv _ => by simp at hv, H.nd, H.lt, fun y hy => ?_, fun a n hm => by cases hm⟩
      have hn := (dlook_mem (keys_dirOf _)).2 (show (y.1, y.2) ∈ dirOf (s.cs ++ s.cp) from hy)
      obtain ⟨i, x, hx, e⟩ := dOk_now H hI.ok hn
      exact ⟨x, List.mem_of_getElem? hx, e⟩
    · unfold dL
      rw [show (({ s with armed := s.armed - 1 } : Dk).cs ++ ({ s with armed := s.armed - 1 } : Dk).cp) = s.cs ++ s.cp from rfl]
      rw [show Dk.now { cs := s.cs ++ s.cp, cp := [], th := s.th, armed := s.armed - 1, off := s.off } = s.now by unfold Dk.now; simp]
      exact o8

theorem armB_ok {z : Int} (o : Own h0 h (dL d c s L)) (hK : ∀ h', Own h0 h' (dL d c (mArm s z) L) → K (.tuple #[]) h') : callS Tryz.prog F_disk_Disk_Arm [ptr d, I z] h K := by
  refine callS_of (lk_disk_Disk_Arm _ _ ?_)
  unfold sh_disk_Disk_Arm
  rw [pNe_ptr_nil, Option.isSome_some, ifV_true, pMax_int, pNil_ptr, pField_ptr]
  have e : (if z > 0 then z else 0) = ((z.toNat : Nat) : Int) := by split <;> omega
  rw [e]
  refine o.st1 0 (cs' := dC c (mArm s z)) rfl rfl rfl rfl rfl fun h6 o6 => hK h6 o6

theorem onB_ok (o : Own h0 h (dL d c s L)) (hK : K (.bool (!s.off)) h) : callS Tryz.prog F_disk_Disk_On [ptr d] h K := by
  refine callS_of (lk_disk_Disk_On _ ?_)
  unfold sh_disk_Disk_On
  rw [pNe_ptr_nil, Option.isSome_some, ifV_true, pNil_ptr, pField_ptr]
  refine o.load 0 rfl rfl ?_
  exact hK

theorem readB_ok (o : Own h0 h (dL d c s L)) (H : DOk B c s) (hI : s.Inv U N) (hN : N ≤ 1048576) (hK : ∀ h', Own h0 h' (dL d c s L) → K (.tuple #[.string (mRead s a).1, I (mRead s a).2]) h') : callS Tryz.prog F_disk_Disk_Read [ptr d, .string a] h K := by
  refine callS_of (lk_disk_Disk_Read _ _ ?_)
  unfold sh_disk_Disk_Read
  refine o.build (enc := encS) (n := 1) [a] rfl (sizesOk_of rfl) rfl fun v h1 o1 => ?_
  refine names1 o1 ?_
  refine o1.tail.build (enc := encS) (n := 1) [a] rfl (sizesOk_of rfl) rfl fun v h2 o2 => ?_
  have o3 := o2.tail
  refine refusedB_ok o3 (o2.vw 0 rfl) (by simp) ?_
  unfold mRead at hK
  rw [pBin_neq, ifV_bne]
  refine ⟨fun hne => ?_, fun he => ?_⟩
  · rw [if_pos hne] at hK
    exact hK h2 o3
  · rw [if_neg (fun h => h he)] at hK
    obtain ⟨_, _, ht⟩ := ref_off he
    obtain ⟨n, hn⟩ := Option.isSome_iff_exists.1 (ht a List.mem_cons_self)
    obtain ⟨i, x, hx, rfl⟩ := dOk_now H hI.ok hn
    rw [hn] at hK
    rw [pNil_ptr, pField_ptr]
    refine o3.load 0 rfl rfl ?_
    rw [pNil_ptr, pField_ptr]
    refine o3.load 0 rfl rfl ?_
    refine look_now o3 hn (look_th o3 H hx ?_)
    refine seenD_ok (L' := L) o3 H hI hN hx fun v h4 o4 => ?_
    refine (o4.vw 0 rfl).str ?_
    exact hK h4 (o3.frame o4).tail

theorem newB_ok (o : Own h0 h L) (hK : ∀ d c h', DOk [] c Dk.new → Own h0 h' (dL d c Dk.new (roR [] :: L)) → K (ptr d) h') : callS Tryz.prog F_disk_New [] h K := by
  refine callS_of (lk_disk_New ?_)
  unfold sh_disk_New
  refine o.noRo.kmk QS fun m1 h1 o1 => o1.kmk QS fun m2 h2 o2 => o2.kmk QI fun m3 h3 o3 => ?_
  refine ⟨sizesOk_of rfl, ?_⟩
  refine o3.box fun d h4 o4 => ?_
  have o5 : Own h0 h4 (sepR [] :: cellR d [.map (some m1), .map (some m2), .map (some m3), .slice none 0 0, I 0, I 0, .bool false] T_disk_Disk :: kmapR QI m3 (fun _ => none) :: kmapR QS m2 (fun _ => none) :: kmapR QS m1 (fun _ => none) :: roR [] :: L) := Own.sep (l := []) o4
  have o6 := (Own.nilS (enc := encC) (n := 1) (T := T_disk_change) o5).front 7 [2, 5, 4, 3, 0, 1, 6] (by decide) (by decide)
  exact hK d ⟨m1, m2, m3, .slice none 0 0, [], []⟩ h4 ⟨rfl, fun i v y hv _ => (by simp at hv), (by simp), fun y hy => (by cases hy), fun y hy => (by cases hy), fun a n hm => (by cases hm)⟩ o6

end
end Go.Proofs.YtleaknaadodjeaaGreat

namespace Go.Proofs.YtleaknaadodjeaaGreat
open Go Go.Mh
set_option linter.unusedVariables false

/-! ### Entries of a directory -/

theorem nodupMap {α β : Type} {f : α → β} : ∀ {l : List α}, l.Nodup → (∀ x ∈ l, ∀ y ∈ l, f x = f y → x = y) → (l.map f).Nodup
  | [], _, _ => .nil
  | a :: l, hn, h => by
    have hn' := List.nodup_cons.1 hn
    rw [List.map_cons, List.nodup_cons]
    refine ⟨fun hm => ?_, nodupMap hn'.2 fun x hx y hy => h x (List.mem_cons_of_mem _ hx) y (List.mem_cons_of_mem _ hy)⟩
    obtain ⟨y, hy, e⟩ := List.mem_map.1 hm
    have := h y (List.mem_cons_of_mem _ hy) a List.mem_cons_self e
    exact hn'.1 (this ▸ hy)

theorem insO_len {α : Type} {lt : α → α → Bool} {x : α} : ∀ l : List α, (insO lt x l).length ≤ l.length + 1
  | [] => Nat.le_refl _
  | y :: r => by
    unfold insO
    split
    · simp
    · split
      · have := insO_len (lt := lt) (x := x) r; simp only [List.length_cons]; omega
      · simp
theorem sortO_len {α : Type} {lt : α → α → Bool} : ∀ l : List α, (sortO lt l).length ≤ l.length
  | [] => Nat.le_refl _
  | x :: l => by
    have h1 := insO_len (lt := lt) (x := x) (sortO lt l)
    have h2 := sortO_len (lt := lt) l
    show (insO lt x (sortO lt l)).length ≤ _
    simp only [List.length_cons]; omega

theorem entMem {t : List (KM.Ent Nm)} {k : Nm} {v : Value} : KM.lk k t = some v → ∃ e ∈ t, e.1 = k ∧ e.2.1 = v := by
  induction t with
  | nil => intro h; cases h
  | cons x t ih =>
    intro h
    rw [KM.lk] at h
    split at h
    · rename_i e
      exact ⟨x, List.mem_cons_self, e, Option.some.inj h⟩
    · obtain ⟨e, he, h'⟩ := ih h
      exact ⟨e, List.mem_cons_of_mem _ he, h'⟩

theorem entOf {t : List (KM.Ent Nm)} (hn : (t.map (·.1)).Nodup) {e : KM.Ent Nm} (he : e ∈ t) : KM.lk e.1 t = some e.2.1 := by
  induction t with
  | nil => cases he
  | cons x t ih =>
    have hn' := List.nodup_cons.1 hn
    rw [KM.lk]
    rcases List.mem_cons.1 he with rfl | he
    · rw [if_pos rfl]
    · rw [if_neg (fun h : x.1 = e.1 => hn'.1 (List.mem_map.2 ⟨e, he, h.symm⟩))]
      exact ih hn'.2 he

section
variable {es : Array MapEntry} {clock : Nat} {t : List (KM.Ent Nm)} {D : Dir}

theorem ent_val (ht : KM.IMapL QS es clock t) (hf : ∀ k, dirF D k = KM.lk k t) {e : KM.Ent Nm} (he : e ∈ t) : ∃ n : Nat, e.2.1 = I n ∧ dlook D e.1 = some n := by
  have h := entOf ht.keys he
  rw [← hf] at h
  unfold dirF at h
  cases hd : dlook D e.1 with
  | none => rw [hd] at h; cases h
  | some n => rw [hd] at h; exact ⟨n, (Option.some.inj h).symm, rfl⟩

theorem ent_of (hf : ∀ k, dirF D k = KM.lk k t) {a : Nm} {n : Nat} (hd : dlook D a = some n) : ∃ e ∈ t, e.1 = a ∧ e.2.1 = I n := by
  have : dirF D a = some (I n) := by unfold dirF; rw [hd]; rfl
  rw [hf] at this
  exact entMem this

theorem ent_len {U : List Nm} (ht : KM.IMapL QS es clock t) (hf : ∀ k, dirF D k = KM.lk k t) (hU : ∀ a ∈ keysOf D, a ∈ U) : t.length ≤ U.length := by
  have : (t.map (·.1)).length ≤ U.length := len_of_sub ht.keys fun a ha => by
    obtain ⟨e, he, rfl⟩ := List.mem_map.1 ha
    obtain ⟨n, _, hn⟩ := ent_val ht hf he
    exact hU _ (dlook_key.1 (by rw [hn]; rfl))
  simpa using this
end

def valI : Value → Int
  | .int _ z => z
  | _ => 0

section
variable {h0 h : Heap} {L : List Res} {K : Value → Heap → Prop} {d i : Nat} {c : DC} {s : Dk} {B : Bx} {x : TC} {U : List Nm} {N : Nat} {a b : Nm}

/-- slices.Compact of a row without two alike. -/
theorem compactB_ok {v : Value} {ys : List Int} (H : Vw encI 1 h v ys) (hs : SSrt ltI ys) (hl : ys.length < 2 ^ 40) (hK : K v h) : callS Tryz.prog F_slices_Compact_sl_int_int [v] h K := by
  refine callS_of (lk_slices_Compact_sl_int_int _ ?_)
  unfold sh_slices_Compact_sl_int_int
  refine H.len ?_
  rw [pBin_lss, ifV_dec]
  refine ⟨fun _ => hK, fun hge => ?_⟩
  refine LoopH_count (ys.length - 1) (fun i x h' => x.1 = I (i + 1 : Nat) ∧ h' = h) ⟨rfl, rfl⟩ ?_
  rintro i ⟨x, ⟨⟩⟩ h' Z hi ⟨hx, rfl⟩ hZ
  dsimp only at hx hZ ⊢
  subst hx
  unfold sh_slices_Compact_sl_int_int_L1
  refine H.len ?_
  rw [pBin_lss, ifV_dec]
  refine ⟨fun hlt => ?_, fun _ => hK⟩
  have h1 : i + 1 < ys.length := by omega
  refine H.atI h1 ?_
  rw [pBin_sub, w64 (by omega) (by omega), show ((i + 1 : Nat) : Int) - 1 = (i : Int) by omega]
  refine H.atI (show i < ys.length by omega) ?_
  rw [pBin_eql]
  have hlt2 : ys[i] < ys[i + 1] := by
    have := List.pairwise_iff_getElem.1 hs i (i + 1) (by omega) h1 (by omega)
    simpa [ltI] using this
  rw [show (ys[i + 1] == ys[i]) = false from beq_eq_false_iff_ne.2 (by omega), ifV_false, pBin_add, wI (i + 1) (by omega)]
  exact hZ (_, ()) _ (by omega) ⟨rfl, rfl⟩

/-- A directory's names, rising. -/
theorem rising_iter {es : Array MapEntry} {clock m b : Nat} {t : List (KM.Ent Nm)} {D : Dir} (ht : KM.IMapL QS es clock t) (hf : ∀ k, dirF D k = KM.lk k t) (hU : ∀ a ∈ keysOf D, a ∈ U) (hl : U.length ≤ 12) :
    IterG Tryz.prog (.func (.func F_disk_directory_rising_1) #[] #[ptr b]) (fun h => hcell h ⟨b, 0, none⟩ = some (.map (some m)) ∧ h[m]? = some (.map es clock)) (σ := Nat) 0
      (fun i x i' => i < (sortO ltS (keysOf D)).length ∧ i' = i + 1 ∧ x = [.string ((sortO ltS (keysOf D)).getD i (bstr []))]) (fun i => i = (sortO ltS (keysOf D)).length) := by
  rintro yv h0 h Rs K J E ⟨l, rfl⟩ o hj hQ hY hK
  have hlen := ent_len ht hf hU
  refine callF_of (l := [yieldV l, ptr b]) rfl (lk_disk_directory_rising_1 _ _ ?_)
  unfold sh_disk_directory_rising_1
  simp only [pLoad_ptr, (hQ _ _ _ hj o).1]
  refine callS_of (lk_maps_Keys_disk_directory_string_int _ ?_)
  unfold sh_maps_Keys_disk_directory_string_int
  refine o.box fun b2 h1 o1 => ?_
  have o1 : Own h0 h1 (cellR b2 [.map (some m)] T_disk_directory :: Rs) := o1
  refine sortedB_string o1 (Keys_iter (m := m) (b := b2) ht) (fun s => s.map (·.1)) rfl ?_ ?_ ?_ ?_
  · rintro s x s' ⟨e, he, hne, rfl, rfl, hl'⟩
    exact ⟨e.1, rfl, by simp, by rw [List.length_map]; omega⟩
  · intro Rs' h' o'
    have o2 := o'.comm
    have oRs : Own h0 h' (Rs ++ Rs') := (show Own h0 h' (cellR b2 [.map (some m)] T_disk_directory :: (Rs ++ Rs')) from o2).tail
    refine ⟨hcell_of ((show Own h0 h' (cellR b2 [.map (some m)] T_disk_directory :: (Rs ++ Rs')) from o2).get 0 rfl) rfl, (hQ _ _ _ hj oRs.left).2⟩
  · rintro s ⟨hall, hs, hn⟩
    have : s.length ≤ t.length := by classical exact len_of_sub hn hs
    rw [List.length_map]; omega
  · rintro w h2 s ys ⟨hall, hs, hn⟩ hp hsr o2
    have hnd : ys.Nodup := by
      refine (hp.nodup_iff).2 ?_
      refine nodupMap hn fun x hx y hy e => ?_
      have := ht.keys
      obtain ⟨i, hi, rfl⟩ := List.mem_iff_getElem.1 (hs x hx)
      obtain ⟨j, hj, rfl⟩ := List.mem_iff_getElem.1 (hs y hy)
      have := (List.getElem_inj (i := i) (j := j) (h₀ := by simpa using hi) (h₁ := by simpa using hj) this).1 (by simpa using e)
      subst this; rfl
    have hys : ys = sortO ltS (keysOf D) := SSrt.ext ltS_ok (Srt.strict ltS_ok hsr hnd) (sortO_srt ltS_ok _) fun z => by
      rw [sortO_mem ltS_ok, hp.mem_iff, List.mem_map, ← dlook_key]
      constructor
      · rintro ⟨e, he, rfl⟩
        obtain ⟨n, _, hn'⟩ := ent_val ht hf (hs e he)
        rw [hn']; rfl
      · intro hz
        obtain ⟨n, hn'⟩ := Option.isSome_iff_exists.1 hz
        obtain ⟨e, he, e1, _⟩ := ent_of hf hn'
        exact ⟨e, hall e he, e1⟩
    subst hys
    have hyl : (sortO ltS (keysOf D)).length ≤ 12 := by
      have h1 : s.length ≤ t.length := by classical exact len_of_sub hn hs
      have h2 := hp.length_eq
      rw [List.length_map] at h2; omega
    refine (o2.vw 0 rfl).len ?_
    have o3 : Own h0 h2 (slR encS 1 T_string w (sortO ltS (keysOf D)) :: Rs) := o2.front 2 [0] (by decide) (by decide)
    generalize sortO ltS (keysOf D) = ys at o3 hyl hY hK
    refine LoopH_count ys.length (fun i x h' => x.1 = I i ∧ ∃ Rs', J i Rs' ∧ Own h0 h' (slR encS 1 T_string w ys :: Rs')) ⟨rfl, Rs, hj, o3⟩ ?_
    rintro i ⟨x, ⟨⟩⟩ h3 Z hi ⟨hx, Rs', hj', o'⟩ hZ
    dsimp only at hx hZ ⊢
    subst hx
    unfold sh_disk_directory_rising_1_L1
    rw [pBin_lss, ifV_dec]
    refine ⟨fun hlt => ?_, fun hge => ?_⟩
    · have hi' : i < ys.length := by omega
      refine (o'.vw 0 rfl).at1 (e := fun (x : Nm) => Value.string x) (fun _ => rfl) hi' ?_
      have e : ys[i] = ys.getD i (bstr []) := by rw [List.getD_eq_getElem?_getD, List.getElem?_eq_getElem hi']; rfl
      rw [e]
      refine hY i _ (i + 1) Rs' [_] h3 _ ⟨hi', rfl, rfl⟩ hj' o'.rot (fun Rs'' h'' hj'' o'' => ?_) fun Rs'' h'' he o'' => ?_
      · rw [notT, ifV_false, pBin_add, wI i (by omega)]
        exact hZ (_, ()) h'' hi' ⟨rfl, Rs'', hj'', o''.comm⟩
      · rw [notF, ifV_true]
        exact hK _ _ (.inr he) o''.left
    · have : i = ys.length := by omega
      exact hK _ _ (.inl ⟨i, this, hj'⟩) o'.tail

/-- The names of a disk. -/
theorem namesD_ok (o : Own h0 h (dL d c s L)) (hI : s.Inv U N) (hl : U.length ≤ 12) (hK : ∀ w h', Own h0 h' (slR encS 1 T_string w (mNames s) :: dL d c s L) → K w h') : callS Tryz.prog F_disk_Disk_Names [ptr d] h K := by
  refine callS_of (lk_disk_Disk_Names _ ?_)
  unfold sh_disk_Disk_Names
  refine onB_ok o ?_
  unfold mNames at hK
  cases hoff : s.off with
  | true =>
    rw [hoff, if_pos rfl] at hK
    rw [Bool.not_true, notF, ifV_true]
    exact hK _ _ (Own.nilS o)
  | false =>
    rw [hoff, if_neg (by simp)] at hK
    rw [Bool.not_false, notT, ifV_false, pNil_ptr, pField_ptr]
    refine o.load 0 rfl rfl ?_
    refine callS_of (lk_disk_directory_rising _ ?_)
    unfold sh_disk_directory_rising
    refine o.box fun b1 h1 o1 => ?_
    have o1 : Own h0 h1 (cellR b1 [.map (some c.nm)] T_disk_directory :: dL d c s L) := o1
    obtain ⟨es, clock, hm, t, ht, hf⟩ := o1.get 3 rfl
    have hU : ∀ a ∈ keysOf s.now, a ∈ U := dir_nm (U := U) _ [] (fun a h => by cases h) hI.nm
    have hk12 : (sortO ltS (keysOf s.now)).length ≤ 12 := by
      have h1 := sortO_len (lt := ltS) (keysOf s.now)
      have h2 := len_of_sub (keys_dirOf (s.cs ++ s.cp)) hU
      have h3 : (keysOf (dirOf (s.cs ++ s.cp))).length = (keysOf s.now).length := rfl
      omega
    have o2 : Own h0 h1 (cellR b1 [.map (some c.nm)] T_disk_directory :: cellR d (dC c s) T_disk_Disk :: kmapR QS c.dm (dirF (dirOf s.cs)) :: objR c.nm (.map es clock) :: kmapR QI c.tm (thF c.tc) :: slR encC 1 T_disk_change c.pv c.vs :: sepR (tsR c s) :: L) :=
      o1.conv 3 (r' := objR c.nm (.map es clock)) rfl hm fun b hb => hb
    refine collectB_string o2 (rising_iter (m := c.nm) (b := b1) ht hf hU hl) (fun i => (sortO ltS (keysOf s.now)).take i) rfl ?_ ?_ ?_
    · rintro i y i' ⟨hi, rfl, rfl⟩
      refine ⟨_, rfl, ?_, ?_⟩
      · rw [List.take_succ_eq_append_getElem hi, List.getD_eq_getElem?_getD, List.getElem?_eq_getElem hi]; rfl
      · rw [List.length_take]; omega
    · intro Rs h' o'
      have o3 := o'.comm
      exact ⟨hcell_of (o3.get 0 rfl) rfl, o3.get 3 rfl⟩
    · rintro w h2 i rfl o3
      rw [List.take_length] at o3
      have o4 := o3.conv 4 (r' := kmapR QS c.nm (dirF s.now)) rfl ⟨es, clock, o3.get 4 rfl, t, ht, hf⟩ fun b hb => hb
      exact hK w h2 (o4.front 2 [0] (by decide) (by decide))

/-! ### Things that are named -/

theorem namedL_srt (D : Dir) (n : Nat) : SSrt ltI ((namedL D n).map fun (i : Nat) => (i : Int)) := by
  unfold SSrt namedL
  rw [List.pairwise_map]
  refine List.Pairwise.filter _ ?_
  refine List.Pairwise.imp ?_ List.pairwise_lt_range
  intro a b h
  simp only [ltI, decide_eq_true_eq]; omega

theorem namedL_mem {D : Dir} {n i : Nat} : i ∈ namedL D n ↔ i < n ∧ ∃ y ∈ D, y.2 = i := by
  unfold namedL
  rw [List.mem_filter, List.mem_range, List.any_eq_true]
  simp

/-- What a directory holds is not twice. -/
theorem dir_inj : ∀ (l : List Ch) (D : Dir), (keysOf D).Nodup → (D.map (·.2)).Nodup → (l.filterMap mkNo).Nodup → (∀ n ∈ D.map (·.2), n ∉ l.filterMap mkNo) → OkL D l → ((l.foldl app D).map (·.2)).Nodup := by
  intro l
  induction l with
  | nil => intro D _ h _ _ _; exact h
  | cons c l ih =>
    intro D hk hv hn hd ho
    have del : ∀ {D : Dir} (a : Nm), (D.map (·.2)).Nodup → ((ddel D a).map (·.2)).Nodup := fun a h => h.sublist (List.filter_sublist.map _)
    have dmem : ∀ {D : Dir} {a : Nm} {n : Nat}, n ∈ (ddel D a).map (·.2) → n ∈ D.map (·.2) := fun h => by
      obtain ⟨y, hy, rfl⟩ := List.mem_map.1 h
      exact List.mem_map.2 ⟨y, (List.mem_filter.1 hy).1, rfl⟩
    refine ih _ (keys_app hk) ?_ ?_ ?_ ho.2
    · cases c with
      | mk a n =>
        refine List.nodup_cons.2 ⟨fun h => ?_, del a hv⟩
        exact hd n (dmem h) (show n ∈ n :: l.filterMap mkNo from List.mem_cons_self)
      | ren a b =>
        have ht : (dlook D a).isSome = true := ho.1
        obtain ⟨n, hn'⟩ := Option.isSome_iff_exists.1 ht
        show (((dlook D a).getD 0) :: (ddel (ddel D a) b).map (·.2)).Nodup
        rw [hn']
        refine List.nodup_cons.2 ⟨fun h => ?_, del b (del a hv)⟩
        have h1 := dmem h
        obtain ⟨y, hy, e⟩ := List.mem_map.1 h1
        have hy1 := (List.mem_filter.1 hy)
        have hm := (dlook_mem hk).1 hn'
        obtain ⟨i, hi, ei⟩ := List.mem_iff_getElem.1 hy1.1
        obtain ⟨j, hj, ej⟩ := List.mem_iff_getElem.1 hm
        have hij := (List.getElem_inj (i := i) (j := j) (h₀ := by simpa using hi) (h₁ := by simpa using hj) hv).1 (by simp [ei, ej]; simpa using e)
        subst hij
        rw [ei] at ej
        have : y.1 = a := by rw [ej]
        have h2 := hy1.2
        rw [decide_eq_true this] at h2; cases h2
      | rem a => exact del a hv
    · cases c with
      | mk a n => exact (List.nodup_cons.1 (show (n :: l.filterMap mkNo).Nodup from hn)).2
      | ren a b => exact hn
      | rem a => exact hn
    · intro n hm
      cases c with
      | mk a m =>
        have hn' : (m :: l.filterMap mkNo).Nodup := hn
        rcases List.mem_cons.1 (show n ∈ m :: (ddel D a).map (·.2) from hm) with rfl | h
        · exact (List.nodup_cons.1 hn').1
        · exact fun h' => hd n (dmem h) (show n ∈ m :: l.filterMap mkNo from List.mem_cons_of_mem _ h')
      | ren a b =>
        have hd' : ∀ n ∈ D.map (·.2), n ∉ l.filterMap mkNo := fun n hm h => hd n hm h
        have ht : (dlook D a).isSome = true := ho.1
        obtain ⟨k, hk'⟩ := Option.isSome_iff_exists.1 ht
        rcases List.mem_cons.1 (show n ∈ ((dlook D a).getD 0) :: (ddel (ddel D a) b).map (·.2) from hm) with rfl | h
        · rw [hk']
          exact hd' _ (List.mem_map.2 ⟨_, (dlook_mem hk).1 hk', rfl⟩)
        · exact hd' n (dmem (dmem h))
      | rem a =>
        have hd' : ∀ n ∈ D.map (·.2), n ∉ l.filterMap mkNo := fun n hm h => hd n hm h
        exact hd' n (dmem hm)

end
end Go.Proofs.YtleaknaadodjeaaGreat

namespace Go.Proofs.YtleaknaadodjeaaGreat
open Go Go.Mh
set_option linter.unusedVariables false

section
variable {h0 h : Heap} {L : List Res} {K : Value → Heap → Prop} {d i : Nat} {c : DC} {s : Dk} {B : Bx} {x : TC} {U : List Nm} {N : Nat} {a b : Nm}

def namedQ (b d nm tm : Nat) (es : Array MapEntry) (clock : Nat) (tc : List TC) (h : Heap) : Prop :=
  hcell h ⟨b, 0, none⟩ = some (ptr d) ∧ hcell h ⟨d, 1, none⟩ = some (.map (some nm)) ∧ hcell h ⟨d, 2, none⟩ = some (.map (some tm)) ∧ h[nm]? = some (.map es clock) ∧ (kmapR QI tm (thF tc)).Q h

def namedX (D : Dir) (n : Nat) (tc : List TC) (i : Nat) (x : List Value) (i' : Nat) : Prop :=
  i < (namedL D n).length ∧ i' = i + 1 ∧ x = [I ((namedL D n).getD i 0), (thF tc ((namedL D n).getD i 0)).getD (.pointer none)]

theorem named_iter {es : Array MapEntry} {clock nm tm b d n : Nat} {t : List (KM.Ent Nm)} {D : Dir} {tc : List TC} (ht : KM.IMapL QS es clock t) (hf : ∀ k, dirF D k = KM.lk k t) (hU : ∀ a ∈ keysOf D, a ∈ U) (hl : U.length ≤ 12)
    (hk : (keysOf D).Nodup) (hv : (D.map (·.2)).Nodup) (hn : ∀ y ∈ D, y.2 < n) :
    IterG Tryz.prog (.func (.func F_disk_Disk_named_1) #[] #[ptr b]) (namedQ b d nm tm es clock tc) (σ := Nat) 0 (namedX D n tc) (fun i => i = (namedL D n).length) := by
  rintro yv h0 h Rs K J E ⟨l, rfl⟩ o hj hQ hY hK
  have hlen := ent_len ht hf hU
  refine callF_of (l := [yieldV l, ptr b]) rfl (lk_disk_Disk_named_1 _ _ ?_)
  unfold sh_disk_Disk_named_1
  obtain ⟨q1, q2, q3, q4, q5⟩ := hQ _ _ _ hj o
  simp only [pLoad_ptr, q1]
  rw [pNil_ptr, pField_ptr]
  simp only [Nat.zero_add, pLoad_ptr, q2]
  refine callS_of (lk_maps_Values_disk_directory_string_int _ ?_)
  unfold sh_maps_Values_disk_directory_string_int
  refine o.box fun b2 h1 o1 => ?_
  have o1 : Own h0 h1 (cellR b2 [.map (some nm)] T_disk_directory :: Rs) := o1
  refine sortedB_int o1 (Values_iter (m := nm) (b := b2) ht) (fun s => s.map fun e => valI e.2.1) rfl ?_ ?_ ?_ ?_
  · rintro s x s' ⟨e, he, hne, rfl, rfl, hl'⟩
    obtain ⟨m, hm, _⟩ := ent_val ht hf he
    exact ⟨valI e.2.1, by rw [hm]; rfl, by simp, by rw [List.length_map]; omega⟩
  · intro Rs' h' o'
    have o2 := o'.comm
    have oRs : Own h0 h' (Rs ++ Rs') := (show Own h0 h' (cellR b2 [.map (some nm)] T_disk_directory :: (Rs ++ Rs')) from o2).tail
    exact ⟨hcell_of ((show Own h0 h' (cellR b2 [.map (some nm)] T_disk_directory :: (Rs ++ Rs')) from o2).get 0 rfl) rfl, (hQ _ _ _ hj oRs.left).2.2.2.1⟩
  · rintro s ⟨hall, hs, hnd⟩
    have : s.length ≤ t.length := by classical exact len_of_sub hnd hs
    rw [List.length_map]; omega
  · rintro w h2 s ys ⟨hall, hs, hnd⟩ hp hsr o2
    have vals : ∀ x ∈ s, ∃ m : Nat, x.2.1 = I m ∧ dlook D x.1 = some m := fun x hx => ent_val ht hf (hs x hx)
    have hnd' : ys.Nodup := by
      refine (hp.nodup_iff).2 (nodupMap hnd fun x hx y hy e => ?_)
      obtain ⟨m, hm, hmd⟩ := vals x hx
      obtain ⟨m', hm', hmd'⟩ := vals y hy
      rw [hm, hm'] at e
      have em : m = m' := by have : (m : Int) = m' := e; omega
      subst em
      have h1 := (dlook_mem hk).1 hmd
      have h2 := (dlook_mem hk).1 hmd'
      obtain ⟨i, hi, ei⟩ := List.mem_iff_getElem.1 h1
      obtain ⟨j, hj, ej⟩ := List.mem_iff_getElem.1 h2
      have := (List.getElem_inj (i := i) (j := j) (h₀ := by simpa using hi) (h₁ := by simpa using hj) hv).1 (by simp [ei, ej])
      subst this
      rw [ei] at ej
      have ek : x.1 = y.1 := by injection ej
      obtain ⟨i, hi, ei⟩ := List.mem_iff_getElem.1 (hs x hx)
      obtain ⟨j, hj, ej⟩ := List.mem_iff_getElem.1 (hs y hy)
      have := (List.getElem_inj (i := i) (j := j) (h₀ := by simpa using hi) (h₁ := by simpa using hj) ht.keys).1 (by simp [ei, ej, ek])
      subst this
      rw [← ei, ej]
    have hys : ys = (namedL D n).map fun (i : Nat) => (i : Int) := SSrt.ext ltI_ok (Srt.strict ltI_ok hsr hnd') (namedL_srt D n) fun z => by
      rw [hp.mem_iff, List.mem_map, List.mem_map]
      constructor
      · rintro ⟨e, he, rfl⟩
        obtain ⟨m, hm, hmd⟩ := vals e he
        have h1 := (dlook_mem hk).1 hmd
        exact ⟨m, namedL_mem.2 ⟨hn _ h1, _, h1, rfl⟩, by rw [hm]; rfl⟩
      · rintro ⟨m, hm, rfl⟩
        obtain ⟨_, ⟨a, m'⟩, hy, rfl⟩ := namedL_mem.1 hm
        obtain ⟨e, he, e1, e2⟩ := ent_of hf ((dlook_mem hk).2 hy)
        exact ⟨e, hall e he, by rw [e2]; rfl⟩
    have hyl : ys.length ≤ 12 := by
      have h1 : s.length ≤ t.length := by classical exact len_of_sub hnd hs
      have h2 := hp.length_eq
      rw [List.length_map] at h2; omega
    have o3 : Own h0 h2 (slR encI 1 T_int w ys :: Rs) := o2.front 2 [0] (by decide) (by decide)
    refine compactB_ok (o3.vw 0 rfl) (by rw [hys]; exact namedL_srt D n) (by omega) ?_
    refine (o3.vw 0 rfl).len ?_
    have hlen2 : ys.length = (namedL D n).length := by rw [hys, List.length_map]
    refine LoopH_count ys.length (fun i x h' => x.1 = I i ∧ ∃ Rs', J i Rs' ∧ Own h0 h' (slR encI 1 T_int w ys :: Rs')) ⟨rfl, Rs, hj, o3⟩ ?_
    rintro i ⟨x, ⟨⟩⟩ h3 Z hi ⟨hx, Rs', hj', o'⟩ hZ
    dsimp only at hx hZ ⊢
    subst hx
    unfold sh_disk_Disk_named_1_L1
    rw [pBin_lss, ifV_dec]
    refine ⟨fun hlt => ?_, fun hge => ?_⟩
    · have hi' : i < ys.length := by omega
      refine (o'.vw 0 rfl).atI hi' ?_
      have e : ys[i] = (((namedL D n).getD i 0 : Nat) : Int) := by
        rw [List.getD_eq_getElem?_getD, List.getElem?_eq_getElem (by omega)]
        simp [hys]
      rw [e]
      obtain ⟨q1, q2, q3, q4, q5⟩ := hQ _ _ _ hj' o'.tail
      simp only [pLoad_ptr, q1]
      rw [pNil_ptr, pField_ptr]
      simp only [Nat.zero_add, pLoad_ptr, q3]
      obtain ⟨es', c', hm', him'⟩ := q5
      refine KM.look_of (Q := QI) (ok := false) (k := (((namedL D n).getD i 0 : Nat) : Int)) hm' him' ?_
      rw [if_neg (by decide)]
      refine hY i _ (i + 1) Rs' [_] h3 _ ⟨by omega, rfl, rfl⟩ hj' o'.rot (fun Rs'' h'' hj'' o'' => ?_) fun Rs'' h'' he o'' => ?_
      · rw [notT, ifV_false, pBin_add, wI i (by omega)]
        exact hZ (_, ()) h'' hi' ⟨rfl, Rs'', hj'', o''.comm⟩
      · rw [notF, ifV_true]
        exact hK _ _ (.inr he) o''.left
    · have : i = (namedL D n).length := by omega
      exact hK _ _ (.inl ⟨i, this, hj'⟩) o'.tail

theorem ts_fact (q : (sepR (tsR c s)).Q h) (hx : c.tc[i]? = some x) : h[x.b]? = some (.cells #[x.dv, x.wv] T_disk_thing (0, 0)) ∧ Vw encB8 1 h x.dv (bytesOf (s.getT x.n).syn) ∧ Vw encW 2 h x.wv (s.getT x.n).pen := by
  have q1 := q.1 _ (List.mem_of_getElem? (ts_get (s := s) hx))
  have r0 := q1.1 _ (List.mem_cons_self)
  obtain ⟨b1, r1⟩ := q1.1 _ (List.mem_cons_of_mem _ List.mem_cons_self)
  obtain ⟨b2, r2⟩ := q1.1 _ (List.mem_cons_of_mem _ (List.mem_cons_of_mem _ List.mem_cons_self))
  exact ⟨r0, ⟨b1, r1.view⟩, ⟨b2, r2.view⟩⟩

/-- What a thing that is named is. -/
theorem named_tc (H : DOk B c s) (hI : s.Inv U N) {m : Nat} (hm : m ∈ namedL s.now s.th.length) : ∃ (i : Nat) (x : TC), c.tc[i]? = some x ∧ x.n = m ∧ thF c.tc m = some (ptr x.b) := by
  obtain ⟨_, ⟨a, m'⟩, hy, rfl⟩ := namedL_mem.1 hm
  obtain ⟨i, x, hx, e⟩ := dOk_now H hI.ok ((dlook_mem (keys_dirOf _)).2 hy)
  exact ⟨i, x, hx, e, by rw [← e]; exact thF_at H hx⟩

theorem now_val (hI : s.Inv U N) : ∀ y ∈ s.now, y.2 < s.th.length := by
  intro y hy
  rcases dir_val _ [] _ hy hI.ok with h | ⟨a, h⟩
  · cases h
  · exact hI.num a _ h

theorem sum_le {l : List Nat} {m : Nat} (h : ∀ x ∈ l, x ≤ m) : l.sum ≤ l.length * m := by
  induction l with
  | nil => simp
  | cons a l ih =>
    have h1 := h a List.mem_cons_self
    have h2 := ih fun x hx => h x (List.mem_cons_of_mem _ hx)
    rw [List.sum_cons, List.length_cons, Nat.succ_mul]; omega

theorem named_len (hI : s.Inv U N) (hl : U.length ≤ 12) : (namedL s.now s.th.length).length ≤ 12 := by
  have h1 : (namedL s.now s.th.length).length ≤ (s.now.map (·.2)).length := len_of_sub (List.Nodup.sublist List.filter_sublist List.nodup_range) fun i hi => by
    obtain ⟨_, y, hy, e⟩ := namedL_mem.1 hi
    exact List.mem_map.2 ⟨y, hy, e⟩
  have h2 := len_of_sub (keys_dirOf (s.cs ++ s.cp)) (dir_nm (U := U) _ [] (fun a h => by cases h) hI.nm)
  have h3 : (keysOf (dirOf (s.cs ++ s.cp))).length = s.now.length := by unfold keysOf; rw [List.length_map]; rfl
  rw [List.length_map] at h1
  omega

end
end Go.Proofs.YtleaknaadodjeaaGreat

namespace Go.Proofs.YtleaknaadodjeaaGreat
open Go Go.Mh
set_option linter.unusedVariables false

section
variable {h0 h : Heap} {L M ts l3 : List Res} {K : Value → Heap → Prop} {k d i : Nat} {c : DC} {s : Dk} {B : Bx} {x : TC} {U : List Nm} {N : Nat} {a b : Nm}

theorem out2 (o : Own h0 h M) (hk : M[k]? = some (sepR ts)) (hi : ts[i]? = some (sepR l3)) : Own h0 h (l3 ++ M.set k (sepR (ts.set i nilR))) := by
  have hkl := (List.getElem?_eq_some_iff.1 hk).1
  have hil := (List.getElem?_eq_some_iff.1 hi).1
  have o2 := (o.out k hk).out i (by rw [List.getElem?_append_left hil]; exact hi)
  rw [List.set_append_left _ _ hil] at o2
  have o3 : Own h0 h (ts.set i nilR ++ (M.set k nilR ++ l3)) := by rw [← List.append_assoc]; exact o2.comm
  have o4 := o3.back k (by rw [List.getElem?_append_left (by rw [List.length_set]; exact hkl), List.getElem?_set_self hkl])
  rw [List.set_append_left _ _ (by rw [List.length_set]; exact hkl), List.set_set] at o4
  exact o4.comm

theorem back2 (o : Own h0 h (l3 ++ M)) (hk : M[k]? = some (sepR ts)) (hi : ts[i]? = some nilR) : Own h0 h (M.set k (sepR (ts.set i (sepR l3)))) := by
  have hkl := (List.getElem?_eq_some_iff.1 hk).1
  have hil := (List.getElem?_eq_some_iff.1 hi).1
  have o1 := (o.comm).out k (by rw [List.getElem?_append_left hkl]; exact hk)
  rw [List.set_append_left _ _ hkl] at o1
  have o2 : Own h0 h (l3 ++ (ts ++ M.set k nilR)) := by
    have := o1.comm
    rw [List.append_assoc] at this
    have := this.comm
    rw [List.append_assoc] at this
    exact this
  have o3 := o2.back i (by rw [List.getElem?_append_left hil]; exact hi)
  rw [List.set_append_left _ _ hil] at o3
  have o4 := o3.back k (by rw [List.getElem?_set_self hkl])
  rwa [List.set_set] at o4

theorem sep_sub {l l' : List Res} (hs : l'.Sublist l) (q : (sepR l).Q h) : (sepR l').Q h := by
  have key : ∀ {l l' : List Res}, l'.Sublist l → (∀ {i j : Nat} {r s : Res}, l[i]? = some r → l[j]? = some s → i ≠ j → ∀ b, r.F b → ¬ s.F b) → ∀ {i j : Nat} {r s : Res}, l'[i]? = some r → l'[j]? = some s → i ≠ j → ∀ b, r.F b → ¬ s.F b := by
    intro l l' hs
    induction hs with
    | slnil => intro H; exact H
    | cons a hs ih => intro H; exact ih fun {i j r s} hi hj hne => H (i := i + 1) (j := j + 1) hi hj (by omega)
    | cons_cons a hs ih =>
      intro H i j r s hi hj hne
      have ih' : ∀ {i j : Nat} {r s : Res}, _ → _ → _ → ∀ b, r.F b → ¬ s.F b := @ih fun {i j r s} hi hj hne => H (i := i + 1) (j := j + 1) hi hj (by omega)
      cases i with
      | zero =>
        cases j with
        | zero => exact absurd rfl hne
        | succ j =>
          obtain ⟨q, hq⟩ := List.getElem?_of_mem (hs.mem (List.mem_of_getElem? (i := j) (a := s) (by simpa using hj)))
          exact H (i := 0) (j := q + 1) hi hq (by omega)
      | succ i =>
        cases j with
        | zero =>
          obtain ⟨q, hq⟩ := List.getElem?_of_mem (hs.mem (List.mem_of_getElem? (i := i) (a := r) (by simpa using hi)))
          exact H (i := q + 1) (j := 0) hq hj (by omega)
        | succ j => exact ih' hi hj (by omega)
  exact ⟨fun r hr => q.1 r (hs.mem hr), key hs q.2⟩

/-! ### Fates -/

/-- A row; an empty one may begin anywhere. -/
def VwE (h : Heap) (v : Value) (fs : List Int) : Prop := Vw encU8 1 h v fs ∨ (fs = [] ∧ ∃ a, v = .slice (some a) 0 0)

theorem VwE.len {v : Value} {fs : List Int} {K : Value → Prop} (H : VwE h v fs) (hK : K (I fs.length)) : pLen v K := by
  rcases H with H | ⟨rfl, a, rfl⟩
  · exact H.len hK
  · exact hK
theorem VwE.one {v : Value} {fs : List Int} (H : VwE h v fs) : v.cells = #[v] := by
  rcases H with H | ⟨rfl, a, rfl⟩
  · exact H.one
  · rfl

/-- A row of fates, as long as there is L. -/
def FV (h0 : Heap) (L : List Res) (v : Value) (fs : List Int) : Prop := ∀ Rs h', Own h0 h' (Rs ++ L) → VwE h' v fs

def FA (fv0 : Value) (fs0 : List Int) (fv : Value) (fs : List Int) : Prop := ∀ h', VwE h' fv0 fs0 → VwE h' fv fs

theorem nextF_ok {f : Nat} {fv0 fv : Value} {fs0 fs : List Int} {Rs : List Res} (o : Own h0 h (Rs ++ L)) (hi : (Rs ++ L)[i]? = some (cellR f [fv] T_sl_uint8)) (hf : FV h0 L fv0 fs0) (hA : FA fv0 fs0 fv fs) (hr : ∀ z ∈ fs, 0 ≤ z ∧ z ≤ 255) (hl : fs.length < 2 ^ 63)
    (hK : ∀ fv' h', FA fv0 fs0 fv' fs.tail → Own h0 h' ((Rs ++ L).set i (cellR f [fv'] T_sl_uint8)) → K (I (fateOf fs)) h') : callV Tryz.prog (.func (.func F_disk_Disk_Crash_1) #[] #[ptr f]) [].toArray h K := by
  refine callV_of (l := [ptr f]) rfl (lk_disk_Disk_Crash_1 _ ?_)
  unfold sh_disk_Disk_Crash_1
  refine o.load i hi rfl ?_
  have H := hA _ (hf _ _ o)
  refine H.len ?_
  rw [pBin_eql, ifV_beq]
  refine ⟨fun he => ?_, fun hne => ?_⟩
  · have : fs = [] := List.eq_nil_of_length_eq_zero (by omega)
    subst this
    exact hK fv h hA (by rw [setSame hi]; exact o)
  · obtain ⟨z, r, rfl⟩ : ∃ z r, fs = z :: r := by
      cases fs with
      | nil => simp at hne
      | cons z r => exact ⟨z, r, rfl⟩
    have H := H.resolve_right fun h => by cases h.1
    refine o.load i hi rfl ?_
    refine H.at1 (e := fun (z : Int) => Value.int .u8 z) (i := 0) (fun _ => rfl) (by simp) ?_
    have hz := hr z List.mem_cons_self
    show pConv .i64 (.int .u8 z) _
    rw [pConv_int, w64 (by omega) (by omega)]
    refine o.load i hi rfl ?_
    refine H.subA (a := 1) (j := (z :: r).length) (fun _ => rfl) rfl rfl (by simp) (Nat.le_refl _) fun v' hv' => ?_
    have hv1 : ∀ h', Vw encU8 1 h' fv (z :: r) → Vw encU8 1 h' v' r := fun h' hh => by
      have := hv' h' hh
      simpa using this
    have hvh := hv1 h H
    refine o.st1 i (cs' := [v']) hi rfl rfl hvh.one hvh.plain fun h2 o2 => ?_
    have e : ((fateOf (z :: r) : Nat) : Int) = z := by show ((z.toNat : Nat) : Int) = z; omega
    rw [e] at hK
    exact hK v' h2 (fun h' o' => .inl (hv1 h' ((hA h' o').resolve_right fun h => by cases h.1))) o2

/-- The first of a thing's writes. -/
theorem crW_step {w : Wr} {r acc : List Wr} {f : List Int} : (acc ++ (crW (w :: r) f).1, (crW (w :: r) f).2) = ((if fateOf f % 2 = 1 then acc ++ [w] else acc) ++ (crW r f.tail).1, (crW r f.tail).2) := by
  rw [crW]
  split <;> simp

end
end Go.Proofs.YtleaknaadodjeaaGreat
