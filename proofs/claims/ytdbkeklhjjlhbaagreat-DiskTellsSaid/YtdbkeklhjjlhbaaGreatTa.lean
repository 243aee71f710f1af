/- Texts of the proofs of seat YtdbkeklhjjlhbaaGreat, joined: LiA, RdA, RdB, RdC, RdD, RdE, RdF, DkA, DkB, DkC. They have no conditions of their own. -/
import Derived.Test.YtdbkeklhjjlhbaaGreatGb
import Derived.Test.YtdbkeklhjjlhbaaGreatMc
import Derived.Test.YtdbkeklhjjlhbaaGreatMd
set_option linter.unusedVariables false
set_option linter.unusedSimpArgs false
set_option linter.unusedSectionVars false

namespace Go.Proofs.YtdbkeklhjjlhbaaGreat
open Go Go.Mh
set_option linter.unusedVariables false

section
variable {α : Type} {enc : α → List Value} {n bytes : Nat} {T : TypeId} {h0 h : Heap} {L : List Res} {K : Value → Heap → Prop} {s : Value} {xs : List α} {z : List Value}

theorem clone_gen (o : Own h0 h L) (H : Vw enc n h s xs) (he : ∀ a, (enc a).length = n) (hp : ∀ a, ∀ u ∈ enc a, Mh.plainCell u = true) (hz : z.length = n) (hby : 0 < bytes) (hl : xs.length * bytes ≤ 2 ^ 47)
    (hK : ∀ v' h', Own h0 h' (slR enc n T v' xs :: L) → K v' h') :
    pEq false .slice s (.slice none 0 0) fun t4 => ifV t4 (K (.slice none 0 0) h) (pBuildSlice T (zerosL z 0) [] 0 h fun t5 h_1 => pAppend T n bytes z t5 s h_1 fun t7 h_2 => K t7 h_2) := by
  obtain ⟨b, c, rfl⟩ := H.isSl
  simp only [pEq_slice_nil]
  rw [ifV_bool]
  refine ⟨fun hb => ?_, fun _ => ?_⟩
  · obtain ⟨bl, b', c', e, _, H'⟩ := H
    injection e with e1 e2 e3
    subst e1
    cases b with
    | some a => cases hb
    | none =>
      rcases H' with ⟨rfl, _⟩ | ⟨_, _, _, _, _, e, _⟩
      · exact hK _ _ o.nilS
      · cases e
  · refine (Own.start h).build (enc := enc) (n := n) ([] : List α) (by simp [zerosL, spliceAll, row]) (sizesOk_of rfl) rfl fun w h1 o1 => ?_
    exact o1.app 0 rfl he hp hz (H.more o1.ext) hby (by simpa using hl) fun v' h' o' => hK v' h' (o.frame o')

end

/-! ### slices.Repeat of one element -/

theorem and_low {n : Nat} (hn : n < 4294967296) : (BitVec.ofInt 64 (n : Int) &&& BitVec.ofInt 64 4294967295).toNat = n := by
  have e1 : (BitVec.ofInt 64 (n : Int)).toNat = n := by simp [BitVec.toNat_ofInt]; omega
  have e2 : (BitVec.ofInt 64 4294967295).toNat = 4294967295 := rfl
  rw [BitVec.toNat_and, e1, e2, show 4294967295 = 2 ^ 32 - 1 from rfl, Nat.and_two_pow_sub_one_eq_mod]
  omega

theorem u64w {n : Int} (h0 : 0 ≤ n) (h1 : n ≤ 18446744073709551615) : IntKind.u64.wrap n = n := wrap_in h0 h1

section
variable {k k' : IntKind} {a b : Int} {K : Value → Prop}
theorem pBin_and : pBin .and (.int k a) (.int k b) K ↔ K (.int k (k.wrap (BitVec.ofInt k.bits a &&& BitVec.ofInt k.bits b).toNat)) := by simp [pBin]
theorem pBin_shr : pBin .shr (.int k a) (.int k' b) K ↔ 0 ≤ b ∧ K (.int k (a.fdiv (2 ^ (min b.toNat k.bits)))) := by simp [pBin]
end

theorem mul1_ok {h : Heap} {K : Value → Heap → Prop} {n : Nat} (hn : n < 4294967296) (hK : K (.tuple #[.int .u64 0, .int .u64 n]) h) : callS Tryz.prog F_math_bits_Mul [.int .u64 1, .int .u64 n] h K := by
  refine callS_of (lk_math_bits_Mul _ _ ?_)
  unfold sh_math_bits_Mul
  refine callS_of (lk_math_bits_Mul64 _ _ ?_)
  unfold sh_math_bits_Mul64
  have ea : IntKind.u64.wrap ((BitVec.ofInt IntKind.u64.bits 1 &&& BitVec.ofInt IntKind.u64.bits 4294967295).toNat : Int) = 1 := rfl
  have wn : IntKind.u64.wrap (n : Int) = n := u64w (by omega) (by omega)
  have eb : IntKind.u64.wrap ((BitVec.ofInt IntKind.u64.bits (n : Int) &&& BitVec.ofInt IntKind.u64.bits 4294967295).toNat : Int) = n := by
    show IntKind.u64.wrap ((BitVec.ofInt 64 (n : Int) &&& BitVec.ofInt 64 4294967295).toNat : Int) = n
    rw [and_low hn, wn]
  have ec : ((n : Int).fdiv (2 ^ (min (32 : Int).toNat 64))) = 0 := by
    show (n : Int).fdiv 4294967296 = 0
    rw [Int.fdiv_eq_ediv_of_nonneg _ (by decide)]; omega
  have ed : ((0 : Int).fdiv (2 ^ (min (32 : Int).toNat 64))) = 0 := rfl
  have ee : ((1 : Int).fdiv (2 ^ (min (32 : Int).toNat 64))) = 0 := rfl
  have w0 : IntKind.u64.wrap 0 = 0 := rfl
  have e0 : IntKind.u64.wrap ((BitVec.ofInt IntKind.u64.bits 0 &&& BitVec.ofInt IntKind.u64.bits 4294967295).toNat : Int) = 0 := rfl
  have e64 : ∀ m, min m IntKind.u64.bits = min m 64 := fun _ => rfl
  have h32 : (0 : Int) ≤ 32 := by decide
  simp only [pBin_and, pBin_shr, pBin_mul, pBin_add, e64, ea, eb, ec, ed, ee, w0, e0, wn, h32, Int.one_mul, Int.mul_one, Int.zero_mul, Int.mul_zero, Int.add_zero, Int.zero_add, true_and, pExt0, pExt1]
  exact hK

/-- A list of one thing, so many times. -/
theorem repeat_gen {α : Type} {enc : α → List Value} {bytes : Nat} {T : TypeId} {h0 h : Heap} {L : List Res} {K : Value → Heap → Prop} {s : Value} {a : α} {z : List Value} {m : Nat} {k1 : Heap → Prop} {L2 : Value → (Value → Heap → Prop) → Value → Heap → (Value → Heap → Prop) → Prop}
    (o : Own h0 h L) (H : Vw enc 1 h s [a]) (he : ∀ a, (enc a).length = 1) (hp : ∀ a, ∀ u ∈ enc a, Mh.plainCell u = true) {a0 : α} (hz : z = enc a0) (hby : bytes ≤ 64) (hm : m ≤ 16777216)
    (hL2 : ∀ t30 n8 h_5 Z, L2 t30 K n8 h_5 Z = (pLen t30 fun t36 => pBin .lss n8 t36 fun t37 => ifV t37 (pSlice 1 t30 (some n8) none none fun t41 => pSlice 1 t30 none (some n8) none fun t44 => pCopy 1 t41 t44 h_5 fun t45 h_6 => pBin .add n8 t45 fun t46 => Z t46 h_6) (K t30 h_5)))
    (hK : ∀ v' h', Own h0 h' (slR enc 1 T v' (List.replicate m a) :: L) → K v' h') :
    pBin .lss (I m) (.int .i64 0) fun t10 => ifV t10 False (pLen s fun t14 => pConv .u64 t14 fun t15 => pConv .u64 (I m) fun t17 => callS Tryz.prog F_math_bits_Mul [t15, t17] h fun t18 h_1 =>
      pExt t18 0 fun t19 => pExt t18 1 fun t20 => pBin .gtr t19 (.int .u64 0) fun t22 => ifV t22 (k1 h_1) (pBin .gtr t20 (.int .u64 9223372036854775807) fun t25 => ifV t25 (k1 h_1) (pConv .i64 t20 fun t29 =>
        pMakeSlice T bytes z t29 t29 h_1 fun t30 h_3 => pCopy 1 t30 s h_3 fun t33 h_4 => LoopH (σ := Vals [8]) (fun x hh ZZ => L2 t30 K x.1 hh (fun a0 hz => ZZ (a0, ()) hz)) (t33, ()) h_4))) := by
  simp only [pBin_lss, ifV_dec]
  refine ⟨fun e => by omega, fun _ => H.len ?_⟩
  have e1 : IntKind.u64.wrap (([a].length : Nat) : Int) = 1 := rfl
  have e2 : IntKind.u64.wrap (m : Int) = m := u64w (by omega) (by omega)
  simp only [pConv_int, e1, e2]
  refine mul1_ok (by omega) ?_
  simp only [pExt0, pExt1, pBin_gtr, ifV_dec]
  refine ⟨fun e => by omega, fun _ => ⟨fun e => by omega, fun _ => ?_⟩⟩
  have e3 : IntKind.i64.wrap (m : Int) = m := w64 (by omega) (by omega)
  simp only [pConv_int, e3]
  refine (Own.start h).make (n := 1) hz (by
    have : bytes * m ≤ 64 * 16777216 := Nat.mul_le_mul hby hm
    omega) (by omega) fun w h1 o1 => ?_
  have own : ∀ {h' : Heap} {xs : List α}, Own h h' [slR enc 1 T w xs] → xs.length = m → 0 < m → ∃ bl cap, w = .slice (some ⟨bl, 0, none⟩) m cap ∧ m ≤ cap ∧ SlR enc 1 T h' w bl xs ∧ blkOf w bl := by
    intro h' xs o' hl h0
    obtain ⟨bl, H⟩ := o'.get 0 rfl
    obtain ⟨cap, rest, e, hb, hr, hle⟩ := H.full (by omega)
    exact ⟨bl, cap, by rw [e, hl], by omega, H, by rw [e]; rfl⟩
  have loop : ∀ {h' : Heap} {k : Nat}, k ≤ m → (0 < m → 0 < k) → Own h h' [slR enc 1 T w (List.replicate k a ++ List.replicate (m - k) a0)] →
      LoopH (σ := Vals [8]) (fun x hh ZZ => L2 w K x.1 hh (fun a0 hz => ZZ (a0, ()) hz)) (I k, ()) h' := by
    intro h' k hk hk0 o'
    refine LoopH_intro (fun x h' => ∃ k : Nat, x.1 = I k ∧ k ≤ m ∧ (0 < m → 0 < k) ∧ Own h h' [slR enc 1 T w (List.replicate k a ++ List.replicate (m - k) a0)])
      (fun x _ => match x.1 with | .int _ j => ((m : Int) - j).toNat | _ => 0) ⟨k, rfl, hk, hk0, o'⟩ ?_
    clear hk hk0 o' k h'
    rintro ⟨x, ⟨⟩⟩ h' Z ⟨k, hx, hk, hk0, o'⟩ hZ
    dsimp only at hx hZ ⊢
    subst hx
    rw [hL2]
    refine (o'.vw 0 rfl).len ?_
    have hl : (List.replicate k a ++ List.replicate (m - k) a0).length = m := by simp; omega
    rw [hl]
    simp only [pBin_lss, ifV_dec]
    refine ⟨fun hlt => ?_, fun hge => ?_⟩
    · have hlt : k < m := by omega
      obtain ⟨bl, cap, e, hcap, H, hbl⟩ := own o' hl (by omega)
      have hv := o'.vw 0 rfl
      subst e
      have hne : ¬ cap = k := by omega
      refine ⟨by simp, by omega, by omega, by omega, Int.le_refl _, ?_⟩
      refine ⟨by simp, by omega, by omega, by omega, Int.le_refl _, ?_⟩
      have hmn : Nat.min ((k : Int).toNat - ((0 : Nat) : Int).toNat) ((m : Int).toNat - (k : Int).toNat) = min k (m - k) := by simp
      have hc : cellsOfSl h' 1 (min k (m - k)) (some ⟨bl, 0, none⟩) = some (row enc (List.replicate (min k (m - k)) a)) := by
        obtain ⟨base, c, e, hc⟩ := hv.cells he
        injection e with e1 _ _
        subst e1
        simp only [cellsOfSl] at hc ⊢
        obtain ⟨cap', rest, _, hb, _⟩ := H.full (by omega)
        have hrl := row_length he (List.replicate k a ++ List.replicate (m - k) a0)
        rw [hl] at hrl
        rw [cellsAt_of (i := 0) hb _ 0 (by rw [List.length_append, hrl]; omega), List.drop_zero, List.take_append_of_le_length (by rw [hrl]; omega), row_take he, List.take_append_of_le_length (by simp; omega), List.take_replicate, show min (min k (m - k)) k = min k (m - k) by omega]
      have hbase1 : slBase 1 (k : Int).toNat (cap : Int).toNat (some ⟨bl, 0, none⟩) = some ⟨bl, k * 1, none⟩ := by simp [slBase, hne]
      have hbase0 : slBase 1 ((0 : Nat) : Int).toNat (cap : Int).toNat (some ⟨bl, 0, none⟩) = some ⟨bl, 0, none⟩ := by simp [slBase]
      rw [hbase1]
      dsimp only
      rw [hbase0]
      unfold pCopy
      simp only [hmn, hc]
      refine o'.storeRow 0 rfl he hp H hbl (j := k) (by simp; omega) fun h2 o2 => ?_
      have e4 : IntKind.i64.wrap ((k : Int) + ((min k (m - k) : Nat) : Int)) = ((k + min k (m - k) : Nat) : Int) := by rw [w64 (by omega) (by omega)]; omega
      rw [pBin_add, e4]
      refine hZ (I (k + min k (m - k) : Nat), ()) h2 ⟨_, rfl, by omega, fun _ => by omega, ?_⟩ (by dsimp only; omega)
      have ex : (List.replicate k a ++ List.replicate (m - k) a0).take k ++ List.replicate (min k (m - k)) a ++ (List.replicate k a ++ List.replicate (m - k) a0).drop (k + (List.replicate (min k (m - k)) a).length) =
          List.replicate (k + min k (m - k)) a ++ List.replicate (m - (k + min k (m - k))) a0 := by
        rw [List.take_left' (by simp), List.length_replicate, ← List.drop_drop, List.drop_left' (by simp), List.drop_replicate, List.replicate_append_replicate, Nat.sub_sub]
      rw [ex] at o2
      exact o2
    · have : k = m := by omega
      subst this
      rw [Nat.sub_self, List.replicate_zero, List.append_nil] at o'
      exact hK _ _ (o.frame o')
  have hs := H.more o1.ext
  obtain ⟨xb, xc, rfl, hx⟩ := hs.cells he
  by_cases h0 : m = 0
  · subst h0
    obtain ⟨b, c, e⟩ := (o1.vw 0 rfl).isSl
    have hc : cellsOfSl h1 1 0 xb = some [] := by
      simp only [List.length_singleton] at hx
      cases xb with
      | none => rfl
      | some q =>
        obtain ⟨qb, qo, qs⟩ := q
        cases qs with
        | none => simp [cellsOfSl, cellsAt]
        | some _ => cases hx
    have hfin : LoopH (σ := Vals [8]) (fun x hh ZZ => L2 w K x.1 hh (fun a0 hz => ZZ (a0, ()) hz)) (I (0 : Nat), ()) h1 := loop (Nat.le_refl _) (fun h => absurd h (Nat.lt_irrefl _)) o1
    obtain ⟨bl, Hs⟩ := o1.get 0 rfl
    subst e
    unfold pCopy
    have hmn : Nat.min [a].length (List.replicate 0 a0).length = 0 := by simp
    simp only [hmn, hc]
    rcases Hs with ⟨e, _⟩ | ⟨cap, rest, e, _⟩
    · injection e with e1 _ _
      subst e1
      exact hfin
    · injection e with e1 _ _
      subst e1
      exact hfin
  · obtain ⟨bl, cap, e, hcap, Hw, hbl⟩ := own o1 (by simp) (by omega)
    have hmn : Nat.min [a].length m = 1 := Nat.min_eq_left (by simp; omega)
    have hx1 : cellsOfSl h1 1 1 xb = some (row enc [a]) := hx
    have hst := o1.storeRow (KP := fun h2 => LoopH (σ := Vals [8]) (fun x hh ZZ => L2 w K x.1 hh (fun a0 hz => ZZ (a0, ()) hz)) (I (1 : Nat), ()) h2) 0 rfl he hp Hw hbl (j := 0) (ys := [a]) (by simp; omega) fun h2 o2 => by
      refine loop (by omega) (fun _ => by omega) ?_
      have ex : (List.replicate m a0).take 0 ++ [a] ++ (List.replicate m a0).drop (0 + [a].length) = List.replicate 1 a ++ List.replicate (m - 1) a0 := by simp
      rw [ex] at o2
      exact o2
    rw [Nat.zero_mul] at hst
    clear loop own
    subst e
    unfold pCopy
    simp only [hmn, hx1]
    exact hst

end Go.Proofs.YtdbkeklhjjlhbaaGreat

/-! The disk by definition: what lies where, and what is read. -/
namespace Go.Proofs.YtdbkeklhjjlhbaaGreat
open Go Go.Mh
set_option linter.unusedVariables false

/-! ### What lies where -/

structure SlV where
  v : Value
  p : Mh.plainCell v = true
  one : v.cells = #[v]
def encSV (x : SlV) : List Value := [x.v]
theorem encSV_plain (x : SlV) : ∀ u ∈ encSV x, Mh.plainCell u = true := by intro u hu; simp [encSV] at hu; subst hu; exact x.p
def encRW (x : Wr × Bool) : List Value := [I x.1.off, .string x.1.s, .bool x.2]
theorem encRW_plain (x : Wr × Bool) : ∀ u ∈ encRW x, Mh.plainCell u = true := by intro u hu; simp [encRW] at hu; rcases hu with rfl | rfl | rfl <;> rfl
def chW : Ch → Int
  | .mk _ _ => 0
  | .ren _ _ => 1
  | .rem _ => 2
def chN : Ch → Nat
  | .mk _ n => n
  | _ => 0
def encRC (x : Ch × Bool) : List Value := [I (chW x.1), I (chN x.1), .string x.1.A, .string x.1.B, .bool x.2]
theorem encRC_plain (x : Ch × Bool) : ∀ u ∈ encRC x, Mh.plainCell u = true := by intro u hu; simp [encRC] at hu; rcases hu with rfl | rfl | rfl | rfl | rfl <;> rfl

structure RC where
  t : Value
  c : Value
  xs : List (SlV × Th)
def fmR (xs : List (SlV × Th)) : List Res := xs.map fun x => slR encRW 3 T_milestoneref29_Write x.1.v (wrL x.2)
/-- The disk by definition at r; L is what lies beside it. -/
def rL (r : Nat) (q : RC) (s : Dk) (L : List Res) : List Res :=
  cellR r [q.t, q.c, .bool s.off, I s.armed] T_milestoneref29_Disk :: slR encSV 1 T_milestoneref29_Thing q.t (q.xs.map (·.1)) :: slR encRC 5 T_milestoneref29_Change q.c (chL s) :: sepR (fmR q.xs) :: L
def RcOk (q : RC) (s : Dk) : Prop := q.xs.map (·.2) = s.th

section
variable {h0 h : Heap} {L : List Res} {K : Value → Heap → Prop} {r : Nat} {q : RC} {s : Dk} {U : List Nm} {N : Nat} {a b : Nm}

theorem RcOk.len (H : RcOk q s) : q.xs.length = s.th.length := by rw [← H, List.length_map]

theorem fm_vw {xs : List (SlV × Th)} {n : Nat} {x : SlV × Th} (hq : (sepR (fmR xs)).Q h) (hx : xs[n]? = some x) : Vw encRW 3 h x.1.v (wrL x.2) := by
  have := hq.1 (slR encRW 3 T_milestoneref29_Write x.1.v (wrL x.2)) (List.mem_map.2 ⟨x, List.mem_of_getElem? hx, rfl⟩)
  obtain ⟨bl, H⟩ := this
  exact ⟨bl, H.view⟩

theorem RcOk.get (H : RcOk q s) {n : Nat} (hn : n < s.th.length) : ∃ x, q.xs[n]? = some x ∧ x.2 = s.getT n := by
  have hl := H.len
  refine ⟨q.xs[n]'(by omega), List.getElem?_eq_getElem _, ?_⟩
  unfold Dk.getT
  rw [List.getD_eq_getElem?_getD, List.getElem?_eq_getElem hn]
  have : (q.xs.map (·.2))[n]? = s.th[n]? := by rw [H]
  rw [List.getElem?_map, List.getElem?_eq_getElem (by omega), List.getElem?_eq_getElem hn] at this
  exact Option.some.inj this

/-! ### What is read -/

theorem may_ok (hK : K (.bool (okN a)) h) : callS Tryz.prog F_milestoneref29_May [.string a] h K := by
  refine callS_of (lk_milestoneref29_May _ ?_)
  unfold sh_milestoneref29_May
  rw [pLenS_str, pBin_geq, ifV_dec]
  unfold okN at hK
  refine ⟨fun h1 => ?_, fun h1 => ?_⟩
  · rw [pLenS_str, pBin_leq]
    have e : decide ((a.size : Int) ≤ 16) = decide (1 ≤ a.size ∧ a.size ≤ 16) := by
      rw [decide_eq_decide]; omega
    rw [e]; exact hK
  · rw [decide_eq_false (by omega)] at hK
    exact hK

theorem points_ok {v : Value} {l : List (Ch × Bool)} (H : Vw encRC 5 h v l) (hl : l.length < 2 ^ 62) (hK : ∀ h', Ext h h' → K (I (pts (l.map (·.1)).reverse a)) h') : callS Tryz.prog F_milestoneref29_Points [v, .string a] h K := by
  refine callS_of (lk_milestoneref29_Points _ _ ?_)
  unfold sh_milestoneref29_Points
  refine H.len ?_
  rw [pBin_sub, w64 (by omega) (by omega)]
  refine LoopH_count (l.length + 1) (fun i x h' => x.2.1 = I ((l.length : Int) - 1 - i) ∧ i ≤ l.length ∧ (∃ b : Nm, x.1 = .string b ∧ pts (l.map (·.1)).reverse a = pts ((l.map (·.1)).take (l.length - i)).reverse b) ∧ Ext h h') ⟨by simp, Nat.zero_le _, ⟨a, rfl, by rw [Nat.sub_zero, List.take_of_length_le (by simp)]⟩, .refl _ _⟩ ?_
  rintro i ⟨y, x, ⟨⟩⟩ h1 Z hi ⟨hx, hil, ⟨b, hy, hp⟩, e1⟩ hZ
  dsimp only at hx hy hZ ⊢
  subst hx hy
  unfold sh_milestoneref29_Points_L1
  rw [pBin_geq, ifV_dec]
  refine ⟨fun hge => ?_, fun hlt => ?_⟩
  · obtain ⟨k, hk⟩ : ∃ k, l.length - i = k + 1 := ⟨l.length - i - 1, by omega⟩
    have ek : (l.length : Int) - 1 - i = ((k : Nat) : Int) := by omega
    rw [ek]
    have hkl : k < l.length := by omega
    refine (H.more e1).atN (fun _ => rfl) hkl ?_
    rw [hk] at hp
    have et : ((l.map (·.1)).take (k + 1)).reverse = l[k].1 :: ((l.map (·.1)).take k).reverse := by
      rw [List.take_succ_eq_append_getElem (by simpa using hkl), List.reverse_append]
      simp
    rw [et] at hp
    have step : ∀ (b' : Nm) (h' : Heap), Ext h h' → pts (l.map (·.1)).reverse a = pts ((l.map (·.1)).take k).reverse b' → sh_milestoneref29_Points_k3 Tryz.prog (I k) (fun a0 a1 hz => Z (a0, (a1, ())) hz) (.string b') h' := by
      intro b' h' e' hp'
      unfold sh_milestoneref29_Points_k3
      rw [pBin_sub, w64 (by omega) (by omega)]
      refine hZ (_, _, ()) h' (by omega) ⟨?_, by omega, ⟨b', rfl, ?_⟩, e'⟩
      · show I _ = I _
        congr 1; omega
      · rw [show l.length - (i + 1) = k by omega]; exact hp'
    generalize l[k] = x at hp
    refine (Own.start h1).box fun x6 h2 o2 => ?_
    have o2 : Own h1 h2 [cellR x6 [I 0, I 0, .string ⟨#[]⟩, .string ⟨#[]⟩, .bool false] T_milestoneref29_Change] := o2
    refine o2.st (cs' := encRC x) 0 rfl rfl rfl rfl rfl (by exact encRC_plain x) fun h3 o3 => ?_
    have o3 : Own h1 h3 [cellR x6 (encRC x) T_milestoneref29_Change] := o3
    have e3 : Ext h h3 := e1.trans o3.ext fun _ h _ => h
    rw [pField_ptr]
    refine o3.load 0 rfl rfl ?_
    obtain ⟨c, w⟩ := x
    dsimp only at hp
    rw [pBin_eql, ifV_beq]
    cases c with
    | mk n m =>
      rw [pts] at hp
      refine ⟨fun _ => ?_, fun hn => absurd rfl hn⟩
      rw [pField_ptr]
      refine o3.load 0 rfl rfl ?_
      rw [pBin_eqlS, ifV_dec]
      refine ⟨fun he => ?_, fun hne => ?_⟩
      · rw [if_pos (show n = b from he)] at hp
        rw [pField_ptr]
        refine o3.load 0 rfl rfl ?_
        have := hK h3 e3
        rw [hp] at this
        exact this
      · rw [if_neg (show ¬ n = b from hne)] at hp
        unfold sh_milestoneref29_Points_k2
        rw [pField_ptr]
        refine o3.load 0 rfl rfl ?_
        rw [pBin_eql, ifV_beq]
        refine ⟨fun he => absurd he (by simp [chW]), fun _ => ?_⟩
        unfold sh_milestoneref29_Points_k4
        rw [pField_ptr]
        refine o3.load 0 rfl rfl ?_
        rw [pBin_gtr, ifV_dec]
        refine ⟨fun he => absurd he (by simp [chW]), fun _ => ?_⟩
        exact step b h3 e3 hp
    | ren n m =>
      rw [pts] at hp
      refine ⟨fun he => absurd he (by simp [chW]), fun _ => ?_⟩
      unfold sh_milestoneref29_Points_k2
      rw [pField_ptr]
      refine o3.load 0 rfl rfl ?_
      rw [pBin_eql, ifV_beq]
      refine ⟨fun _ => ?_, fun hn => absurd (by simp [chW]) hn⟩
      rw [pField_ptr]
      refine o3.load 0 rfl rfl ?_
      rw [pBin_eqlS, ifV_dec]
      refine ⟨fun he => ?_, fun hne => ?_⟩
      · rw [if_pos (show m = b from he)] at hp
        rw [pField_ptr]
        refine o3.load 0 rfl rfl ?_
        exact step n h3 e3 hp
      · rw [if_neg (show ¬ m = b from hne)] at hp
        unfold sh_milestoneref29_Points_k4
        rw [pField_ptr]
        refine o3.load 0 rfl rfl ?_
        rw [pBin_gtr, ifV_dec]
        refine ⟨fun _ => ?_, fun hn => absurd (by simp [chW]) hn⟩
        rw [pField_ptr]
        refine o3.load 0 rfl rfl ?_
        rw [pBin_eqlS, ifV_dec]
        refine ⟨fun he => ?_, fun hne => ?_⟩
        · rw [if_pos (show n = b from he)] at hp
          have := hK h3 e3
          rw [hp] at this
          exact this
        · rw [if_neg (show ¬ n = b from hne)] at hp
          exact step b h3 e3 hp
    | rem n =>
      rw [pts] at hp
      refine ⟨fun he => absurd he (by simp [chW]), fun _ => ?_⟩
      unfold sh_milestoneref29_Points_k2
      rw [pField_ptr]
      refine o3.load 0 rfl rfl ?_
      rw [pBin_eql, ifV_beq]
      refine ⟨fun he => absurd he (by simp [chW]), fun _ => ?_⟩
      unfold sh_milestoneref29_Points_k4
      rw [pField_ptr]
      refine o3.load 0 rfl rfl ?_
      rw [pBin_gtr, ifV_dec]
      refine ⟨fun _ => ?_, fun hn => absurd (by simp [chW]) hn⟩
      rw [pField_ptr]
      refine o3.load 0 rfl rfl ?_
      rw [pBin_eqlS, ifV_dec]
      refine ⟨fun he => ?_, fun hne => ?_⟩
      · rw [if_pos (show n = b from he)] at hp
        have := hK h3 e3
        rw [hp] at this
        exact this
      · rw [if_neg (show ¬ n = b from hne)] at hp
        exact step b h3 e3 hp
  · have e0 : l.length - i = 0 := by omega
    rw [e0] at hp
    have := hK h1 e1
    rw [hp] at this
    exact this

theorem chL_len (hI : s.Inv U N) : (chL s).length ≤ N := by
  have := hI.lc
  rw [← chL_fst, List.length_map] at this; exact this

/-- Of the changes of a disk. -/
theorem pointsR_ok (hI : s.Inv U N) (hN : N ≤ 1048576) (o : Own h0 h L) {i : Nat} (hi : L[i]? = some (slR encRC 5 T_milestoneref29_Change q.c (chL s))) (hK : ∀ h', Ext h h' → K (I (lookI s.now a)) h') : callS Tryz.prog F_milestoneref29_Points [q.c, .string a] h K := by
  have := chL_len hI
  refine points_ok (o.vw i hi) (by omega) fun h' e' => ?_
  rw [chL_fst, pts_look _ hI.ok]
  exact hK h' e'

/-- Does a name point to a thing? -/
theorem pointsB_ok {n : Nat} (hI : s.Inv U N) (hN : N ≤ 1048576) (o : Own h0 h (rL r q s L)) (hK : ∀ h', Own h0 h' (rL r q s L) → K (.bool (s.now.any fun x => decide (x.2 = n))) h') : callS Tryz.prog F_milestoneref29_Disk_points [ptr r, I n] h K := by
  refine callS_of (lk_milestoneref29_Disk_points _ _ ?_)
  unfold sh_milestoneref29_Disk_points
  have hlen := chL_len hI
  have hiff := points_iff hI.ok (n := n)
  refine LoopH_count (chL s).length (fun i x h' => x.1 = I i ∧ Own h0 h' (rL r q s L) ∧ ∀ c ∈ (s.cs ++ s.cp).take i, ¬ (lookI s.now c.A = n ∨ lookI s.now c.B = n)) ⟨rfl, o, fun c hc => by simp at hc⟩ ?_
  rintro i ⟨x, ⟨⟩⟩ h1 Z hi ⟨hx, o1, hno⟩ hZ
  dsimp only at hx hZ ⊢
  subst hx
  unfold sh_milestoneref29_Disk_points_L1
  rw [pNil_ptr, pField_ptr]
  refine o1.load 0 rfl rfl ?_
  have Hv := o1.vw (enc := encRC) (n := 5) (T := T_milestoneref29_Change) 2 rfl
  refine Hv.len ?_
  rw [pBin_lss, ifV_dec]
  refine ⟨fun hlt => ?_, fun hge => ?_⟩
  · have hi' : i < (chL s).length := by omega
    have ei : (s.cs ++ s.cp)[i]'(by rw [← chL_fst, List.length_map]; exact hi') = (chL s)[i].1 := by simp [← chL_fst]
    have C : ∀ (w : Bool) (h' : Heap), Own h0 h' (rL r q s L) → (w = true ↔ (lookI s.now (chL s)[i].1.A = n ∨ lookI s.now (chL s)[i].1.B = n)) → sh_milestoneref29_Disk_points_C2 Tryz.prog K (I i) (fun a0 hz => Z (a0, ()) hz) (.bool w) h' := by
      intro w h' o' hw
      unfold sh_milestoneref29_Disk_points_C2
      cases w with
      | true =>
        rw [ifV_true]
        have := hK h' o'
        rw [show (s.now.any fun x => decide (x.2 = n)) = true from hiff.1 ⟨(chL s)[i].1, by rw [← chL_fst]; exact List.mem_map.2 ⟨_, List.getElem_mem hi', rfl⟩, hw.1 rfl⟩] at this
        exact this
      | false =>
        rw [ifV_false, pBin_add, wI i (by omega)]
        refine hZ (_, ()) h' (by omega) ⟨rfl, o', fun c hc => ?_⟩
        rw [List.take_succ_eq_append_getElem (by rw [← chL_fst, List.length_map]; exact hi')] at hc
        rcases List.mem_append.1 hc with hc | hc
        · exact hno c hc
        · rw [List.mem_singleton.1 hc, ei]
          intro h
          have := hw.2 h
          cases this
    refine cutP_of (fun y h' => ∃ w : Bool, y.1 = .bool w ∧ Own h0 h' (rL r q s L) ∧ (w = true ↔ (lookI s.now (chL s)[i].1.A = n ∨ lookI s.now (chL s)[i].1.B = n))) (fun J hJ => ?_) ?_
    · rw [pNil_ptr, pField_ptr]
      refine o1.load 0 rfl rfl ?_
      rw [pNil_ptr, pField_ptr]
      refine o1.load 0 rfl rfl ?_
      refine Hv.atF (fun _ => rfl) hi' (j := 2) (u := .string (chL s)[i].1.A) (by decide) rfl ?_
      refine pointsR_ok (s := s) (q := q) hI hN o1 (i := 2) rfl fun h2 e2 => ?_
      have o2 := o1.more e2
      rw [pBin_eql, ifV_beq]
      refine ⟨fun he => ?_, fun hne => ?_⟩
      · exact hJ _ _ ⟨true, rfl, o2, ⟨fun _ => .inl he, fun _ => rfl⟩⟩
      · rw [pNil_ptr, pField_ptr]
        refine o2.load 0 rfl rfl ?_
        rw [pNil_ptr, pField_ptr]
        refine o2.load 0 rfl rfl ?_
        refine (Hv.more e2).atF (fun _ => rfl) hi' (j := 3) (u := .string (chL s)[i].1.B) (by decide) rfl ?_
        refine pointsR_ok (s := s) (q := q) hI hN o2 (i := 2) rfl fun h3 e3 => ?_
        rw [pBin_eql]
        refine hJ _ _ ⟨_, rfl, o2.more e3, ?_⟩
        rw [beq_iff_eq]
        exact ⟨.inr, fun h => h.resolve_left hne⟩
    · rintro ⟨y, ⟨⟩⟩ h' ⟨w, hy, o', hw⟩
      dsimp only at hy
      subst hy
      exact C w h' o' hw
  · have hf : (s.now.any fun x => decide (x.2 = n)) = false := by
      rw [Bool.eq_false_iff]
      intro ht
      obtain ⟨c, hc, hh⟩ := hiff.2 ht
      refine hno c ?_ hh
      rw [List.take_of_length_le (by rw [← chL_fst, List.length_map]; omega)]
      exact hc
    have := hK h1 o1
    rw [hf] at this
    exact this

end
end Go.Proofs.YtdbkeklhjjlhbaaGreat

/-! The disk by definition: bytes; what is refused; steps; changes. -/
namespace Go.Proofs.YtdbkeklhjjlhbaaGreat
open Go Go.Mh
set_option linter.unusedVariables false

section
variable {h0 h : Heap} {L : List Res} {K : Value → Heap → Prop} {r : Nat} {q : RC} {s : Dk} {U : List Nm} {N : Nat} {a b : Nm}

theorem pIdxS_at {s : ByteArray} {i : Nat} {k : IntKind} {K : Value → Prop} (hi : i < s.data.toList.length) (hK : K (.int .u8 (s.data.toList[i]).toNat)) : pIdxS (.string s) (.int k i) K := by
  have hi' : i < s.size := by rw [Array.length_toList] at hi; exact hi
  refine ⟨by omega, ?_⟩
  rw [Int.toNat_natCast, getElem?_pos s i hi']
  exact hK

theorem refB8_plain : ∀ (a : UInt8), ∀ u ∈ encB8 a, Mh.plainCell u = true := encB8_plain

/-- What a thing has. -/
theorem bytesR_ok {wv : Value} {t : Th} (H : Vw encRW 3 h wv (wrL t)) (hl : t.all.length ≤ N) (hN : N ≤ 1048576) (hw : ∀ w ∈ t.all, w.off + w.s.size ≤ 1048576) (hK : ∀ h', Ext h h' → K (.string (bstr (bytesOf t.all))) h') : callS Tryz.prog F_milestoneref29_Thing_Bytes [.agg #[wv]] h K := by
  refine callS_of (lk_milestoneref29_Thing_Bytes _ ?_)
  unfold sh_milestoneref29_Thing_Bytes
  refine (Own.start h).box fun t1 h1 o1 => ?_
  have o1 : Own h h1 [cellR t1 [wv] T_milestoneref29_Thing] := o1
  have hlen : (wrL t).length = t.all.length := by rw [← wrL_fst, List.length_map]
  have bl : ∀ l : List Wr, (∀ w ∈ l, w.off + w.s.size ≤ 1048576) → (bytesOf l).length ≤ 1048576 := by
    intro l
    induction l using rev_ind with
    | h0 => intro _; exact Nat.zero_le _
    | h1 l w ih =>
      intro hl
      unfold bytesOf
      rw [List.foldl_append]
      show (putW (bytesOf l) w).length ≤ _
      rw [putW_len]
      have := ih fun w hw => hl w (List.mem_append_left _ hw)
      have := hl w (List.mem_append_right _ List.mem_cons_self)
      omega
  refine LoopH_count t.all.length (fun i x h' => x.2.1 = I i ∧ Own h h' [slR encB8 1 T_uint8 x.1 (bytesOf (t.all.take i)), cellR t1 [wv] T_milestoneref29_Thing]) ⟨rfl, o1.nilS⟩ ?_
  rintro i ⟨ov, x, ⟨⟩⟩ h2 Z hi ⟨hx, o2⟩ hZ
  dsimp only at hx o2 hZ ⊢
  subst hx
  unfold sh_milestoneref29_Thing_Bytes_L1
  rw [pField_ptr]
  refine o2.load 1 rfl rfl ?_
  refine (H.more o2.ext).len ?_
  rw [hlen, pBin_lss, ifV_dec]
  refine ⟨fun hlt => ?_, fun hge => ?_⟩
  · have hi' : i < t.all.length := by omega
    have hi2 : i < (wrL t).length := by omega
    rw [pField_ptr]
    refine o2.load 1 rfl rfl ?_
    refine (H.more o2.ext).atN (fun _ => rfl) hi2 ?_
    have ew : (wrL t)[i].1 = t.all[i] := by simp [← wrL_fst]
    have hmw := hw _ (List.getElem_mem hi')
    have hbl := bl (t.all.take i) fun w hw' => hw w (List.mem_of_mem_take hw')
    have hnext : bytesOf (t.all.take (i + 1)) = putW (bytesOf (t.all.take i)) t.all[i] := by
      rw [List.take_succ_eq_append_getElem hi']; unfold bytesOf; rw [List.foldl_append]; rfl
    rw [← ew] at hmw hnext
    generalize (wrL t)[i] = w at hmw hnext
    generalize bytesOf (t.all.take i) = bs at o2 hbl hnext
    have hsl : w.1.s.data.toList.length = w.1.s.size := Array.length_toList
    refine o2.box fun w5 h3 o3 => ?_
    have o3 : Own h h3 [cellR w5 [I 0, .string ⟨#[]⟩, .bool false] T_milestoneref29_Write, slR encB8 1 T_uint8 ov bs, cellR t1 [wv] T_milestoneref29_Thing] := o3
    refine o3.st (cs' := encRW w) 0 rfl rfl rfl rfl rfl (by exact encRW_plain w) fun h4 o4 => ?_
    have o4 : Own h h4 [cellR w5 (encRW w) T_milestoneref29_Write, slR encB8 1 T_uint8 ov bs, cellR t1 [wv] T_milestoneref29_Thing] := o4
    refine LoopH_count w.1.s.size (fun k x h' => x.2.1 = I k ∧ Own h h' [cellR w5 (encRW w) T_milestoneref29_Write, slR encB8 1 T_uint8 x.1 (putK bs w.1.off w.1.s.data.toList k), cellR t1 [wv] T_milestoneref29_Thing]) ⟨rfl, o4⟩ ?_
    rintro k ⟨ov2, x, ⟨⟩⟩ h5 Z1 hk ⟨hx, o5⟩ hZ1
    dsimp only at hx o5 hZ1 ⊢
    subst hx
    have hkl := putK_len (b := bs) (off := w.1.off) (s := w.1.s.data.toList) (k := k) (by omega)
    unfold sh_milestoneref29_Thing_Bytes_L2
    rw [pField_ptr]
    refine o5.load 0 rfl rfl ?_
    rw [pLenS_str, pBin_lss, ifV_dec]
    refine ⟨fun hlt2 => ?_, fun hge2 => ?_⟩
    · have hk' : k < w.1.s.data.toList.length := by omega
      have hsucc := putK_succ (b := bs) (off := w.1.off) hk'
      have hkl2 : (putK bs w.1.off w.1.s.data.toList k).length ≤ 1048576 := by rw [hkl]; split <;> omega
      generalize putK bs w.1.off w.1.s.data.toList k = cs at o5 hsucc hkl2
      refine LoopH_count (w.1.off + k + 1) (fun j x h' => cs.length + j ≤ max cs.length (w.1.off + k + 1) ∧ Own h h' [cellR w5 (encRW w) T_milestoneref29_Write, slR encB8 1 T_uint8 x.1 (cs ++ List.replicate j 0), cellR t1 [wv] T_milestoneref29_Thing]) ⟨by omega, by simpa using o5⟩ ?_
      rintro j ⟨ov3, ⟨⟩⟩ h6 Z2 hj ⟨hjl, o6⟩ hZ2
      dsimp only at o6 hZ2 ⊢
      unfold sh_milestoneref29_Thing_Bytes_L3
      refine (o6.vw 1 rfl).len ?_
      rw [List.length_append, List.length_replicate, pField_ptr]
      refine o6.load 0 rfl rfl ?_
      rw [pBin_add, w64 (by omega) (by omega), pBin_leq, ifV_dec]
      refine ⟨fun hle => ?_, fun hgt => ?_⟩
      · refine o6.app1 (enc := encB8) (n := 1) (T := T_uint8) 1 0 rfl rfl (sizesOk_of rfl) (fun _ => rfl) encB8_plain rfl (by decide) (by rw [List.length_append, List.length_replicate]; omega) fun v' h7 o7 => ?_
        refine hZ2 (_, ()) h7 (by omega) ⟨by omega, ?_⟩
        rw [List.append_assoc, ← List.replicate_succ'] at o7
        exact o7
      · have ep : cs ++ List.replicate j 0 = padZ cs (w.1.off + k + 1) := by
          unfold padZ
          congr 2; omega
        rw [ep] at o6
        have hpl : (padZ cs (w.1.off + k + 1)).length = max cs.length (w.1.off + k + 1) := padZ_len
        rw [pField_ptr]
        refine o6.load 0 rfl rfl ?_
        rw [pBin_add, w64 (by omega) (by omega), pField_ptr]
        refine o6.load 0 rfl rfl ?_
        refine pIdxS_at hk' ?_
        have eo : ((w.1.off : Int) + k) = ((w.1.off + k : Nat) : Int) := by omega
        rw [eo]
        refine o6.setAt (a := w.1.s.data.toList[k]) 1 rfl (fun _ => rfl) (encB8_plain _) (by rw [hpl]; omega) rfl fun h7 o7 => ?_
        rw [pBin_add, wI k (by omega)]
        refine hZ1 (_, _, ()) h7 (by omega) ⟨rfl, ?_⟩
        rw [hsucc] at o7
        exact o7
    · have hk2 : k = w.1.s.size := by omega
      subst hk2
      refine LoopH_count w.1.off (fun j x h' => (j = 0 ∨ (w.1.s.size = 0 ∧ (putK bs w.1.off w.1.s.data.toList w.1.s.size).length + j ≤ max (putK bs w.1.off w.1.s.data.toList w.1.s.size).length w.1.off)) ∧ Own h h' [cellR w5 (encRW w) T_milestoneref29_Write, slR encB8 1 T_uint8 x.1 (putK bs w.1.off w.1.s.data.toList w.1.s.size ++ List.replicate j 0), cellR t1 [wv] T_milestoneref29_Thing]) ⟨.inl rfl, by simpa using o5⟩ ?_
      rintro j ⟨ov3, ⟨⟩⟩ h6 Z2 hj ⟨hjl, o6⟩ hZ2
      dsimp only at o6 hZ2 ⊢
      have k5 : ∀ (h' : Heap), Own h h' [cellR w5 (encRW w) T_milestoneref29_Write, slR encB8 1 T_uint8 ov3 (putW bs w.1), cellR t1 [wv] T_milestoneref29_Thing] → sh_milestoneref29_Thing_Bytes_k5 Tryz.prog (I i) (fun a0 a1 hz => Z (a0, (a1, ())) hz) ov3 h' := by
        intro h' o'
        unfold sh_milestoneref29_Thing_Bytes_k5
        rw [pBin_add, wI i (by omega)]
        refine hZ (_, _, ()) h' (by omega) ⟨rfl, ?_⟩
        rw [hnext]
        exact o'.tail
      unfold sh_milestoneref29_Thing_Bytes_L4
      rw [pField_ptr]
      refine o6.load 0 rfl rfl ?_
      rw [pLenS_str, pBin_eql, ifV_beq]
      refine ⟨fun h0 => ?_, fun hne => ?_⟩
      · have hz : w.1.s.size = 0 := by omega
        have ek : putK bs w.1.off w.1.s.data.toList w.1.s.size = bs := by unfold putK; rw [if_pos hz]
        rw [ek] at o6 hjl hZ2
        have hjl' : bs.length + j ≤ max bs.length w.1.off := by omega
        refine (o6.vw 1 rfl).len ?_
        rw [List.length_append, List.length_replicate, pField_ptr]
        refine o6.load 0 rfl rfl ?_
        rw [pBin_lss, ifV_dec]
        refine ⟨fun hlt3 => ?_, fun hge3 => ?_⟩
        · refine o6.app1 (enc := encB8) (n := 1) (T := T_uint8) 1 0 rfl rfl (sizesOk_of rfl) (fun _ => rfl) encB8_plain rfl (by decide) (by rw [List.length_append, List.length_replicate]; omega) fun v' h7 o7 => ?_
          refine hZ2 (_, ()) h7 (by omega) ⟨.inr ⟨hz, by omega⟩, ?_⟩
          rw [List.append_assoc, ← List.replicate_succ'] at o7
          exact o7
        · have ep : bs ++ List.replicate j 0 = putW bs w.1 := by
            rw [← putW_none hz]
            unfold padZ
            congr 2; omega
          rw [ep] at o6
          exact k5 h6 o6
      · have hz : w.1.s.size ≠ 0 := by omega
        have j0 : j = 0 := by rcases hjl with h | ⟨h, _⟩; exact h; exact absurd h hz
        subst j0
        rw [List.replicate_zero, List.append_nil, putK_all hz] at o6
        exact k5 h6 o6
  · rw [List.take_of_length_le (by omega)] at o2
    refine (o2.vw 0 rfl).str ?_
    exact hK h2 o2.ext

/-! ### What is refused -/

theorem notT29 {K : Value → Prop} : pUn .not (.bool true) K = K (.bool false) := rfl
theorem notF29 {K : Value → Prop} : pUn .not (.bool false) K = K (.bool true) := rfl

theorem refusedR_ok {th : Bool} {nv : Value} {ys l : List Nm} (hI : s.Inv U N) (hN : N ≤ 1048576) (o : Own h0 h (rL r q s L)) (H : Vw encS 1 h nv ys) (hy : ys.length ≤ 2) (hl : (th = true ∧ ∃ a ys', ys = a :: ys' ∧ l = [a]) ∨ (th = false ∧ l = []))
    (hK : ∀ h', Ext h h' → K (I (refE s (namesE ys) l)) h') : callS Tryz.prog F_milestoneref29_Disk_refused [ptr r, .bool th, nv] h K := by
  refine callS_of (lk_milestoneref29_Disk_refused _ _ _ ?_)
  unfold sh_milestoneref29_Disk_refused
  rw [pNil_ptr, pField_ptr]
  refine o.load 0 rfl rfl ?_
  unfold refE at hK
  cases ho : s.off with
  | true =>
    rw [ho] at hK
    rw [ifV_true]
    exact hK h (.refl _ _)
  | false =>
    rw [ho] at hK
    rw [ifV_false]
    simp only [Bool.false_eq_true, if_false] at hK
    refine LoopH_count ys.length (fun i x h' => x.1 = I i ∧ Ext h h' ∧ (ys.take i).all okN = true) ⟨rfl, .refl _ _, rfl⟩ ?_
    rintro i ⟨x, ⟨⟩⟩ h1 Z hi ⟨hx, e1, hall⟩ hZ
    dsimp only at hx hZ ⊢
    subst hx
    unfold sh_milestoneref29_Disk_refused_L1
    refine (H.more e1).len ?_
    rw [pBin_lss, ifV_dec]
    refine ⟨fun hlt => ?_, fun hge => ?_⟩
    · have hi' : i < ys.length := by omega
      refine (H.more e1).at1 (e := fun (x : Nm) => Value.string x) (fun _ => rfl) hi' ?_
      refine may_ok ?_
      cases hok : okN ys[i] with
      | true =>
        rw [notT29, ifV_false, pBin_add, wI i (by omega)]
        refine hZ (_, ()) h1 hi' ⟨rfl, e1, ?_⟩
        rw [List.take_succ_eq_append_getElem hi', List.all_append, hall]
        simp [hok]
      | false =>
        rw [notF29, ifV_true]
        have hn : namesE ys = 2 := by
          unfold namesE
          rw [if_neg]
          intro hall'
          have := List.all_eq_true.1 hall' _ (List.getElem_mem hi')
          rw [hok] at this; cases this
        rw [hn, if_pos (by decide)] at hK
        exact hK h1 e1
    · rw [List.take_of_length_le (by omega)] at hall
      have hn : namesE ys = 0 := by unfold namesE; rw [if_pos hall]
      rw [hn, if_neg (by decide)] at hK
      have C : ∀ (w : Bool) (h' : Heap), Ext h h' → (w = !(l.all fun a => (dlook s.now a).isSome)) → sh_milestoneref29_Disk_refused_C2 Tryz.prog K (.bool w) h' := by
        intro w h' e' hw
        unfold sh_milestoneref29_Disk_refused_C2
        have hK := hK h' e'
        cases hb : (l.all fun a => (dlook s.now a).isSome) with
        | true =>
          rw [hb] at hK hw
          rw [hw, Bool.not_true, ifV_false]
          exact hK
        | false =>
          rw [hb] at hK hw
          rw [hw, Bool.not_false, ifV_true]
          exact hK
      refine cutP_of (fun y h' => ∃ w : Bool, y.1 = .bool w ∧ Ext h h' ∧ (w = !(l.all fun a => (dlook s.now a).isSome))) (fun J hJ => ?_) ?_
      · rcases hl with ⟨rfl, a, ys', rfl, rfl⟩ | ⟨rfl, rfl⟩
        · rw [ifV_true, pNil_ptr, pField_ptr]
          have o1 := o.more e1
          refine o1.load 0 rfl rfl ?_
          refine (H.more e1).at1 (e := fun (x : Nm) => Value.string x) (i := 0) (fun _ => rfl) (by simp) ?_
          refine pointsR_ok (s := s) (q := q) hI hN o1 (i := 2) rfl fun h2 e2 => ?_
          rw [pBin_lss]
          refine hJ _ _ ⟨_, rfl, e1.trans e2 fun _ h _ => h, ?_⟩
          have := lookI_neg (D := s.now) (x := a)
          simp only [List.all_cons, List.all_nil, Bool.and_true]
          show decide (lookI s.now a < 0) = _
          cases hd : (dlook s.now a).isSome with
          | true => rw [hd] at this; simp at this; simp; exact this
          | false => rw [hd] at this; simp at this; simp; exact this
        · rw [ifV_false]
          exact hJ _ _ ⟨false, rfl, e1, rfl⟩
      · rintro ⟨y, ⟨⟩⟩ h' ⟨w, hy, e', hw⟩
        dsimp only at hy
        subst hy
        exact C w h' e' hw

/-! ### Steps -/

theorem stepR_ok (hI : s.armed < 2 ^ 63) (o : Own h0 h (rL r q s L)) (h1 : s.armed = 1 → ∀ h', Own h0 h' (rL r q { s with armed := 0, off := true } L) → K (I 22) h')
    (h2 : s.armed ≠ 1 → ∀ h', Own h0 h' (rL r q { s with armed := s.armed - 1 } L) → K (I 0) h') : callS Tryz.prog F_milestoneref29_Disk_step [ptr r] h K := by
  refine callS_of (lk_milestoneref29_Disk_step _ ?_)
  unfold sh_milestoneref29_Disk_step
  rw [pNil_ptr, pField_ptr]
  refine o.load 0 rfl rfl ?_
  rw [pBin_gtr, ifV_dec]
  refine ⟨fun hp => ?_, fun hz => ?_⟩
  · rw [pNil_ptr, pField_ptr]
    refine o.load 0 rfl rfl ?_
    rw [pBin_sub, w64 (by omega) (by omega), pNil_ptr, pField_ptr]
    refine o.st1 0 (cs' := [q.t, q.c, .bool s.off, I ((s.armed : Int) - 1)]) rfl rfl rfl rfl rfl fun h3 o3 => ?_
    rw [pNil_ptr, pField_ptr]
    refine o3.load 0 rfl rfl ?_
    rw [pBin_eql, ifV_beq]
    refine ⟨fun he => ?_, fun hne => ?_⟩
    · have e1 : s.armed = 1 := by omega
      rw [pNil_ptr, pField_ptr]
      refine o3.st1 0 (cs' := [q.t, q.c, .bool true, I ((s.armed : Int) - 1)]) rfl rfl rfl rfl rfl fun h4 o4 => ?_
      refine h1 e1 h4 ?_
      have e0 : ((s.armed : Int) - 1) = ((0 : Nat) : Int) := by omega
      rw [e0] at o4
      exact o4
    · unfold sh_milestoneref29_Disk_step_k1
      refine h2 (by omega) h3 ?_
      have e0 : ((s.armed : Int) - 1) = ((s.armed - 1 : Nat) : Int) := by omega
      rw [e0] at o3
      exact o3
  · unfold sh_milestoneref29_Disk_step_k1
    have e0 : s.armed = 0 := by omega
    refine h2 (by omega) h ?_
    have : ({ s with armed := s.armed - 1 } : Dk) = s := by cases s; simp at e0; subst e0; rfl
    rw [this]; exact o

/-- What is refused, and a step. -/
theorem rstep_ok {th : Bool} {nv : Value} {ys l : List Nm} {K1 : Value → Heap → Prop} (hI : s.Inv U N) (hN : N ≤ 1048576) (o : Own h0 h (rL r q s L)) (H : Vw encS 1 h nv ys) (hy : ys.length ≤ 2) (hl : (th = true ∧ ∃ a ys', ys = a :: ys' ∧ l = [a]) ∨ (th = false ∧ l = []))
    (h1 : refE s (namesE ys) l ≠ 0 → ∀ h', Own h0 h' (rL r q s L) → K1 (I (refE s (namesE ys) l)) h')
    (h2 : refE s (namesE ys) l = 0 → s.armed = 1 → ∀ h', Own h0 h' (rL r q { s with armed := 0, off := true } L) → K1 (I 22) h')
    (h3 : refE s (namesE ys) l = 0 → s.armed ≠ 1 → ∀ h', Own h0 h' (rL r q { s with armed := s.armed - 1 } L) → K1 (I 0) h') :
    callS Tryz.prog F_milestoneref29_Disk_refused [ptr r, .bool th, nv] h fun t h2 => pBin .eql t (I 0) fun c => ifV c (callS Tryz.prog F_milestoneref29_Disk_step [ptr r] h2 fun t' h3 => K1 t' h3) (K1 t h2) := by
  refine refusedR_ok hI hN o H hy hl fun h' e' => ?_
  have o' := o.more e'
  rw [pBin_eql, ifV_beq]
  refine ⟨fun he => ?_, fun hne => h1 hne h' o'⟩
  exact stepR_ok hI.ar o' (h2 he) (h3 he)

end
end Go.Proofs.YtdbkeklhjjlhbaaGreat

/-! The disk by definition: what is done to it. -/
namespace Go.Proofs.YtdbkeklhjjlhbaaGreat
open Go Go.Mh
set_option linter.unusedVariables false

section
variable {h0 h : Heap} {L : List Res} {K : Value → Heap → Prop} {r : Nat} {q : RC} {s : Dk} {U : List Nm} {N : Nat} {a b : Nm}

/-! ### Fresh lists -/

theorem copyRT_ok (o : Own h0 h (rL r q s L)) (hl : q.xs.length ≤ 1048576) (hK : ∀ w h', Own h0 h' (slR encSV 1 T_milestoneref29_Thing w (q.xs.map (·.1)) :: rL r q s L) → K w h') :
    pBuildSlice T_milestoneref29_Thing (zerosL [(.slice none 0 0)] 0) [] 0 h fun t h1 => pNil (ptr r) fun t22 => pField 0 t22 fun t23 => pLoad h1 t23 fun t24 => pAppend T_milestoneref29_Thing 1 24 [(.slice none 0 0)] t t24 h1 K := by
  refine o.build (enc := encSV) (n := 1) [] rfl (sizesOk_of rfl) rfl fun w h1 o1 => ?_
  rw [pNil_ptr, pField_ptr]
  refine o1.load 1 rfl rfl ?_
  exact o1.app 0 rfl (fun _ => rfl) encSV_plain rfl (o1.vw (enc := encSV) 2 rfl) (by decide) (by simp; omega) fun w' h2 o2 => hK w' h2 o2

theorem copyRC_ok (o : Own h0 h (rL r q s L)) (hl : (chL s).length ≤ 1048576) (hK : ∀ w h', Own h0 h' (slR encRC 5 T_milestoneref29_Change w (chL s) :: rL r q s L) → K w h') :
    pBuildSlice T_milestoneref29_Change (zerosL [(.int .i64 0), (.int .i64 0), (.string ⟨#[]⟩), (.string ⟨#[]⟩), (.bool false)] 0) [] 0 h fun t h1 => pNil (ptr r) fun t22 => pField 1 t22 fun t23 => pLoad h1 t23 fun t24 => pAppend T_milestoneref29_Change 5 56 [(.int .i64 0), (.int .i64 0), (.string ⟨#[]⟩), (.string ⟨#[]⟩), (.bool false)] t t24 h1 K := by
  refine o.build (enc := encRC) (n := 5) [] rfl (sizesOk_of rfl) rfl fun w h1 o1 => ?_
  rw [pNil_ptr, pField_ptr]
  refine o1.load 1 rfl rfl ?_
  exact o1.app 0 rfl (fun _ => rfl) encRC_plain rfl (o1.vw (enc := encRC) 3 rfl) (by decide) (by simp; omega) fun w' h2 o2 => hK w' h2 o2

/-- A list of things laid in. -/
theorem layRT_ok {w : Value} {vs : List SlV} (o : Own h0 h (slR encSV 1 T_milestoneref29_Thing w vs :: rL r q s L))
    (hK : ∀ h', Own h0 h' (cellR r [w, q.c, .bool s.off, I s.armed] T_milestoneref29_Disk :: slR encSV 1 T_milestoneref29_Thing w vs :: slR encRC 5 T_milestoneref29_Change q.c (chL s) :: sepR (fmR q.xs) :: L) → K undef h') :
    pNil (ptr r) fun t29 => pField 0 t29 fun t30 => pStore 1 t30 w h K := by
  have hv := o.vw 0 rfl
  rw [pNil_ptr, pField_ptr]
  refine o.st1 1 (cs' := [w, q.c, .bool s.off, I s.armed]) rfl rfl rfl hv.one hv.plain fun h' o' => hK h' ?_
  have o1 : Own h0 h' (slR encSV 1 T_milestoneref29_Thing w vs :: cellR r [w, q.c, .bool s.off, I s.armed] T_milestoneref29_Disk :: slR encSV 1 T_milestoneref29_Thing q.t (q.xs.map (·.1)) :: slR encRC 5 T_milestoneref29_Change q.c (chL s) :: sepR (fmR q.xs) :: L) := o'
  exact o1.swap.erase 2

/-- A list of changes laid in. -/
theorem layC_ok {w : Value} {vs : List (Ch × Bool)} (o : Own h0 h (slR encRC 5 T_milestoneref29_Change w vs :: rL r q s L))
    (hK : ∀ h', Own h0 h' (cellR r [q.t, w, .bool s.off, I s.armed] T_milestoneref29_Disk :: slR encSV 1 T_milestoneref29_Thing q.t (q.xs.map (·.1)) :: slR encRC 5 T_milestoneref29_Change w vs :: sepR (fmR q.xs) :: L) → K undef h') :
    pNil (ptr r) fun t29 => pField 1 t29 fun t30 => pStore 1 t30 w h K := by
  have hv := o.vw 0 rfl
  rw [pNil_ptr, pField_ptr]
  refine o.st1 1 (cs' := [q.t, w, .bool s.off, I s.armed]) rfl rfl rfl hv.one hv.plain fun h' o' => hK h' ?_
  have o1 : Own h0 h' (slR encRC 5 T_milestoneref29_Change w vs :: cellR r [q.t, w, .bool s.off, I s.armed] T_milestoneref29_Disk :: slR encSV 1 T_milestoneref29_Thing q.t (q.xs.map (·.1)) :: slR encRC 5 T_milestoneref29_Change q.c (chL s) :: sepR (fmR q.xs) :: L) := o'
  exact (o1.front 4 [1, 2, 0] (by decide) (by decide))

/-! ### Changes -/

/-- What a change of the directory answers, and leaves. -/
theorem changeR_ok {th : Bool} {c : Ch} {nv : Value} {ys l : List Nm} (hI : s.Inv U N) (hN : N ≤ 1048576) (o : Own h0 h (rL r q s L)) (H : Vw encS 1 h nv ys) (hy : ys.length ≤ 2) (hl : (th = true ∧ ∃ a ys', ys = a :: ys' ∧ l = [a]) ∨ (th = false ∧ l = []))
    (hK : ∀ h' q', q'.xs = q.xs → q'.t = q.t → Own h0 h' (rL r q' (stepD s (refE s (namesE ys) l) (chD c)).2 L) → K (I (stepD s (refE s (namesE ys) l) (chD c)).1) h') :
    callS Tryz.prog F_milestoneref29_Disk_change [ptr r, .bool th, .agg (encRC (c, false)).toArray, nv] h K := by
  refine callS_of (lk_milestoneref29_Disk_change _ _ _ _ ?_)
  unfold sh_milestoneref29_Disk_change
  have hlen := chL_len hI
  refine (Own.start h).box fun x6 h1 o1 => ?_
  have o1 : Own h h1 [cellR x6 (encRC (c, false)) T_milestoneref29_Change] := o1
  have oA : Own h0 h1 (rL r q s (cellR x6 (encRC (c, false)) T_milestoneref29_Change :: L)) := by
    have := o.frame o1
    exact Own.mid' (X := []) (Y := [cellR r [q.t, q.c, .bool s.off, I s.armed] T_milestoneref29_Disk, slR encSV 1 T_milestoneref29_Thing q.t (q.xs.map (·.1)), slR encRC 5 T_milestoneref29_Change q.c (chL s), sepR (fmR q.xs)]) this
  unfold stepD at hK
  refine rstep_ok (K1 := fun t h' => sh_milestoneref29_Disk_change_k1 Tryz.prog (ptr r) (ptr x6) K t h') hI hN oA (H.more o1.ext) hy hl (fun hne h' o' => ?_) (fun he ha h' o' => ?_) fun he ha h' o' => ?_
  · rw [if_pos hne] at hK
    unfold sh_milestoneref29_Disk_change_k1
    rw [pBin_eql, ifV_beq]
    exact ⟨fun h => absurd h hne, fun _ => hK h' q rfl rfl (o'.erase 4)⟩
  · rw [if_neg (fun h => h he), if_pos ha] at hK
    unfold sh_milestoneref29_Disk_change_k1
    rw [pBin_eql]
    show ifV (.bool false) _ _
    rw [ifV_false]
    exact hK h' q rfl rfl (o'.erase 4)
  · rw [if_neg (fun h => h he), if_neg ha] at hK
    unfold sh_milestoneref29_Disk_change_k1
    rw [pBin_eql]
    show ifV (.bool true) _ _
    rw [ifV_true, pNil_ptr, pField_ptr]
    refine o'.load 0 rfl rfl ?_
    refine o'.ldN (cs' := encRC (c, false)) 4 rfl rfl rfl ?_
    have hV := o'.vw (enc := encRC) (n := 5) (T := T_milestoneref29_Change) 2 rfl
    have hVl : (chL { s with armed := s.armed - 1 }).length ≤ 1048576 := by
      show (chL s).length ≤ _
      omega
    have fin : ∀ (w : Value) (h'' : Heap) (X : List Res), Own h0 h'' (slR encRC 5 T_milestoneref29_Change w (chL s ++ [(c, false)]) :: rL r q { s with armed := s.armed - 1 } (cellR x6 (encRC (c, false)) T_milestoneref29_Change :: L)) →
        pNil (ptr r) fun t30 => pField 1 t30 fun t31 => pStore 1 t31 w h'' fun u h_9 => sh_milestoneref29_Disk_change_k2 Tryz.prog K (I 0) h_9 := by
      intro w h'' X o''
      refine layC_ok o'' fun h3 o3 => ?_
      unfold sh_milestoneref29_Disk_change_k2
      refine hK h3 { q with c := w } rfl rfl ?_
      have e : chL (chD c { s with armed := s.armed - 1 }) = chL s ++ [(c, false)] := by
        unfold chL chD; simp
      unfold rL
      rw [e]
      exact o3.erase 4
    have E : ∀ {h3 : Heap} {L' : List Res} (i : Nat) (v : Value) (xs : List (Ch × Bool)) (x : Value) (ys : List (Ch × Bool)), Own h0 h3 L' → L'[i]? = some (slR encRC 5 T_milestoneref29_Change v xs) → Vw encRC 5 h3 x ys → xs.length ≤ 1048576 → ys.length ≤ 1048576 → ∀ KH : Value → Heap → Prop, (∀ v' h4, Own h0 h4 (L'.set i (slR encRC 5 T_milestoneref29_Change v' (xs ++ ys))) → KH v' h4) →
        pAppend T_milestoneref29_Change 5 56 [(.int .i64 0), (.int .i64 0), (.string ⟨#[]⟩), (.string ⟨#[]⟩), (.bool false)] v x h3 KH := fun i v xs x ys o3 hi hx h1 h2 KH hk =>
      o3.app i hi (fun _ => rfl) encRC_plain rfl hx (by decide) (by omega) hk
    refine ⟨?_, ?_⟩
    · refine o'.build (enc := encRC) (n := 5) [] rfl (sizesOk_of rfl) rfl fun w1 h2 o2 => ?_
      refine ⟨?_, ?_⟩
      · refine E 0 _ [] _ (chL s) o2 rfl (o2.vw (enc := encRC) (n := 5) (T := T_milestoneref29_Change) 3 rfl) (by simp) (by omega) _ fun w2 h3 o3 => ?_
        refine ⟨o3.ldN (cs' := encRC (c, false)) 5 rfl rfl rfl rfl, ?_⟩
        refine o3.build (enc := encRC) (n := 5) [(c, false)] rfl (sizesOk_of rfl) rfl fun w3 h4 o4 => ?_
        refine E 1 _ (chL s) _ [(c, false)] o4 rfl (o4.vw 0 rfl) (by omega) (by simp) _ fun w4 h5 o5 => ?_
        exact fin w4 h5 [] o5.tail
      · refine o2.build (enc := encRC) (n := 5) [(c, false)] rfl (sizesOk_of rfl) rfl fun w3 h4 o4 => ?_
        refine E 1 _ [] _ (chL s) o4 rfl (o4.vw (enc := encRC) (n := 5) (T := T_milestoneref29_Change) 4 rfl) (by simp) (by omega) _ fun w2 h3 o3 => ?_
        refine E 1 _ (chL s) _ [(c, false)] o3 rfl (o3.vw 0 rfl) (by omega) (by simp) _ fun w4 h5 o5 => ?_
        exact fin w4 h5 [] o5.tail
    · refine o'.build (enc := encRC) (n := 5) [(c, false)] rfl (sizesOk_of rfl) rfl fun w3 h4 o4 => ?_
      refine o4.build (enc := encRC) (n := 5) [] rfl (sizesOk_of rfl) rfl fun w1 h2 o2 => ?_
      refine E 0 _ [] _ (chL s) o2 rfl (o2.vw (enc := encRC) (n := 5) (T := T_milestoneref29_Change) 4 rfl) (by simp) (by omega) _ fun w2 h3 o3 => ?_
      refine E 0 _ (chL s) _ [(c, false)] o3 rfl (o3.vw 1 rfl) (by omega) (by simp) _ fun w4 h5 o5 => ?_
      exact fin w4 h5 [] (o5.erase 1)

def nilSV : SlV := ⟨.slice none 0 0, rfl, rfl⟩

theorem renameR_ok (hI : s.Inv U N) (hN : N ≤ 1048576) (o : Own h0 h (rL r q s L)) (hq : RcOk q s) (hK : ∀ h' q', RcOk q' (mRename s a b).2 → Own h0 h' (rL r q' (mRename s a b).2 L) → K (I (mRename s a b).1) h') : callS Tryz.prog F_milestoneref29_Disk_Rename [ptr r, .string a, .string b] h K := by
  refine callS_of (lk_milestoneref29_Disk_Rename _ _ _ ?_)
  unfold sh_milestoneref29_Disk_Rename
  refine ⟨sizesOk_of rfl, ?_⟩
  refine o.build (enc := encS) (n := 1) [a, b] rfl (sizesOk_of rfl) rfl fun w h1 o1 => ?_
  refine changeR_ok (c := .ren a b) (l := [a]) hI hN o1.tail (o1.vw 0 rfl) (by simp) (.inl ⟨rfl, a, _, rfl, rfl⟩) fun h' q' ex et o' => hK h' q' ?_ o'
  unfold RcOk at hq ⊢
  rw [ex, hq]
  unfold mRename stepD
  split
  · rfl
  · split <;> rfl

theorem removeR_ok (hI : s.Inv U N) (hN : N ≤ 1048576) (o : Own h0 h (rL r q s L)) (hq : RcOk q s) (hK : ∀ h' q', RcOk q' (mRemove s a).2 → Own h0 h' (rL r q' (mRemove s a).2 L) → K (I (mRemove s a).1) h') : callS Tryz.prog F_milestoneref29_Disk_Remove [ptr r, .string a] h K := by
  refine callS_of (lk_milestoneref29_Disk_Remove _ _ ?_)
  unfold sh_milestoneref29_Disk_Remove
  refine ⟨sizesOk_of rfl, ?_⟩
  refine o.build (enc := encS) (n := 1) [a] rfl (sizesOk_of rfl) rfl fun w h1 o1 => ?_
  refine changeR_ok (c := .rem a) (l := [a]) hI hN o1.tail (o1.vw 0 rfl) (by simp) (.inl ⟨rfl, a, _, rfl, rfl⟩) fun h' q' ex et o' => hK h' q' ?_ o'
  unfold RcOk at hq ⊢
  rw [ex, hq]
  unfold mRemove stepD
  split
  · rfl
  · split <;> rfl

theorem armR_ok {z : Int} (o : Own h0 h (rL r q s L)) (hK : ∀ h', Own h0 h' (rL r q (mArm s z) L) → K (.tuple #[]) h') : callS Tryz.prog F_milestoneref29_Disk_Arm [ptr r, I z] h K := by
  refine callS_of (lk_milestoneref29_Disk_Arm _ _ ?_)
  unfold sh_milestoneref29_Disk_Arm
  rw [pMax_int, pNil_ptr, pField_ptr]
  have e : (if (0 : Int) < z then z else 0) = ((z.toNat : Nat) : Int) := by split <;> omega
  first | rw [e] | rw [show (if z < (0 : Int) then (0 : Int) else z) = ((z.toNat : Nat) : Int) by split <;> omega]
  refine o.st1 0 (cs' := [q.t, q.c, .bool s.off, I (z.toNat : Nat)]) rfl rfl rfl rfl rfl fun h' o' => hK h' o'

theorem readR_ok (hI : s.Inv U N) (hN : N ≤ 1048576) (o : Own h0 h (rL r q s L)) (hq : RcOk q s) (hK : ∀ h', Own h0 h' (rL r q s L) → K (.tuple #[.string (mRead s a).1, I (mRead s a).2]) h') : callS Tryz.prog F_milestoneref29_Disk_Read [ptr r, .string a] h K := by
  refine callS_of (lk_milestoneref29_Disk_Read _ _ ?_)
  unfold sh_milestoneref29_Disk_Read
  refine o.build (enc := encS) (n := 1) [a] rfl (sizesOk_of rfl) rfl fun w h1 o1 => ?_
  refine refusedR_ok (l := [a]) hI hN o1.tail (o1.vw 0 rfl) (by simp) (.inl ⟨rfl, a, _, rfl, rfl⟩) fun h2 e2 => ?_
  have o2 := o1.tail.more e2
  unfold mRead at hK
  rw [pBin_neq, ifV_bne]
  refine ⟨fun hne => ?_, fun he => ?_⟩
  · rw [if_pos hne] at hK
    exact hK h2 o2
  · rw [if_neg (fun h => h he)] at hK
    obtain ⟨_, _, ht⟩ := refE_off he
    obtain ⟨n, hn⟩ := Option.isSome_iff_exists.1 (ht a List.mem_cons_self)
    rw [hn] at hK
    rw [pNil_ptr, pField_ptr]
    refine o2.load 0 rfl rfl ?_
    rw [pNil_ptr, pField_ptr]
    refine o2.load 0 rfl rfl ?_
    refine pointsR_ok (s := s) (q := q) hI hN o2 (i := 2) rfl fun h3 e3 => ?_
    have o3 := o2.more e3
    refine ⟨o3.load 0 rfl rfl rfl, ?_⟩
    have hnl : n < s.th.length := by
      have hm := (dlook_mem (keys_dirOf _)).1 hn
      rcases dir_val _ _ _ hm hI.ok with h | ⟨x, h⟩
      · simp at h
      · exact hI.num x n h
    have el : lookI s.now a = ((n : Nat) : Int) := by unfold lookI; rw [hn]
    rw [el]
    obtain ⟨x, hx, ex⟩ := hq.get hnl
    have hx1 : (q.xs.map (·.1))[n]'(by rw [List.length_map]; exact (List.getElem?_eq_some_iff.1 hx).1) = x.1 := by
      simp [(List.getElem?_eq_some_iff.1 hx).2]
    refine (o3.vw (enc := encSV) (n := 1) 1 rfl).atN (fun _ => rfl) (by rw [List.length_map]; exact (List.getElem?_eq_some_iff.1 hx).1) ?_
    rw [hx1]
    have hm : s.getT n ∈ s.th := by
      unfold Dk.getT
      rw [List.getD_eq_getElem?_getD, List.getElem?_eq_getElem hnl]
      exact List.getElem_mem _
    have hv : Vw encRW 3 h3 x.1.v (wrL x.2) := fm_vw (o3.get 3 rfl) hx
    rw [ex] at hv
    refine bytesR_ok hv (hI.lw _ hm) hN (hI.wr _ hm) fun h4 e4 => ?_
    exact hK h4 (o3.more e4)

end
end Go.Proofs.YtdbkeklhjjlhbaaGreat

/-! The disk by definition: things made, written, synced. -/
namespace Go.Proofs.YtdbkeklhjjlhbaaGreat
open Go Go.Mh
set_option linter.unusedVariables false

section
variable {h0 h : Heap} {L : List Res} {K : Value → Heap → Prop} {r n : Nat} {q : RC} {s : Dk} {U : List Nm} {N : Nat} {a b : Nm}

theorem fm_set {xs : List (SlV × Th)} {y : SlV × Th} : (fmR xs).set n (slR encRW 3 T_milestoneref29_Write y.1.v (wrL y.2)) = fmR (xs.set n y) := by
  unfold fmR; rw [List.map_set]
theorem fm_add {xs : List (SlV × Th)} {y : SlV × Th} : fmR xs ++ [slR encRW 3 T_milestoneref29_Write y.1.v (wrL y.2)] = fmR (xs ++ [y]) := by
  unfold fmR; rw [List.map_append]; rfl
theorem fm_len {xs : List (SlV × Th)} : (fmR xs).length = xs.length := by unfold fmR; rw [List.length_map]

theorem rc_mod {f : Th → Th} {v : SlV} (hq : RcOk q s) (hn : n < s.th.length) : (q.xs.set n (v, f (s.getT n))).map (·.2) = s.th.modify n f := by
  rw [List.map_set, hq]
  apply List.ext_getElem?
  intro i
  rw [List.getElem?_modify]
  by_cases e : n = i
  · subst e
    rw [List.getElem?_set_self hn]
    unfold Dk.getT
    rw [List.getD_eq_getElem?_getD, List.getElem?_eq_getElem hn]
    simp
  · rw [List.getElem?_set_ne e]
    simp [e]

def modRT (s : Dk) (n : Nat) (f : Th → Th) : Dk := { s with th := s.th.modify n f }

/-- The list of things is made anew, and a thing is set: both ready. -/
theorem setT_ok {w0 : Value} {w' : Value} {f : Th → Th} (hq : RcOk q s) (hn : n < s.th.length)
    (o : Own h0 h (slR encRW 3 T_milestoneref29_Write w' (wrL (f (s.getT n))) :: cellR r [w0, q.c, .bool s.off, I s.armed] T_milestoneref29_Disk :: slR encSV 1 T_milestoneref29_Thing w0 (q.xs.map (·.1)) :: slR encRC 5 T_milestoneref29_Change q.c (chL s) :: sepR (fmR q.xs) :: L))
    (hK : ∀ h' q', RcOk q' (modRT s n f) → Own h0 h' (rL r q' (modRT s n f) L) → K undef h') :
    pBuild [(.slice none 0 0)] [(0, 1, w')] fun t80 => pIdx 1 w0 (I n) fun t81 => pStore 1 t81 t80 h K := by
  have hv := o.vw 0 rfl
  refine pBuild_ones (cs' := [w']) ?_ rfl rfl ?_
  · intro p hp
    simp at hp
    subst hp
    exact hv.one
  have hl := hq.len
  refine o.setAt (a := ⟨w', hv.plain, hv.one⟩) 2 rfl (fun _ => rfl) (encSV_plain _) (by rw [List.length_map]; omega) rfl fun h' o' => ?_
  have o1 : Own h0 h' (slR encRW 3 T_milestoneref29_Write w' (wrL (f (s.getT n))) :: cellR r [w0, q.c, .bool s.off, I s.armed] T_milestoneref29_Disk :: slR encSV 1 T_milestoneref29_Thing w0 ((q.xs.map (·.1)).set n ⟨w', hv.plain, hv.one⟩) :: slR encRC 5 T_milestoneref29_Change q.c (chL s) :: sepR (fmR q.xs) :: L) := o'
  have o2 := o1.sepSet (j := 3) (p := n) rfl (by rw [fm_len]; omega)
  rw [show (q.xs.map (·.1)).set n ⟨w', hv.plain, hv.one⟩ = (q.xs.set n (⟨w', hv.plain, hv.one⟩, f (s.getT n))).map (·.1) by rw [List.map_set]] at o2
  rw [fm_set (y := (⟨w', hv.plain, hv.one⟩, f (s.getT n)))] at o2
  exact hK h' ⟨w0, q.c, q.xs.set n (⟨w', hv.plain, hv.one⟩, f (s.getT n))⟩ (rc_mod hq hn) o2

theorem makeR_ok (hI : s.Inv U N) (hN : N < 1048576) (o : Own h0 h (rL r q s L)) (hq : RcOk q s) (hK : ∀ h' q', RcOk q' (mMake s a).2 → Own h0 h' (rL r q' (mMake s a).2 L) → K (I (mMake s a).1) h') : callS Tryz.prog F_milestoneref29_Disk_Make [ptr r, .string a] h K := by
  refine callS_of (lk_milestoneref29_Disk_Make _ _ ?_)
  unfold sh_milestoneref29_Disk_Make
  rw [pNil_ptr, pField_ptr]
  refine o.load 0 rfl rfl ?_
  have hlt := hI.lt
  have hxl := hq.len
  refine (o.vw (enc := encSV) (n := 1) 1 rfl).len ?_
  rw [List.length_map, hxl]
  refine ⟨sizesOk_of rfl, ?_⟩
  refine o.build (enc := encS) (n := 1) [a] rfl (sizesOk_of rfl) rfl fun w h1 o1 => ?_
  have hKs := hK
  unfold mMake at hK
  refine changeR_ok (c := .mk a s.th.length) (l := []) hI (by omega) o1.tail (o1.vw 0 rfl) (by simp) (.inr ⟨rfl, rfl⟩) fun h' q' ex et o' => ?_
  by_cases he : refE s (namesE [a]) [] = 0
  · by_cases ha : s.armed = 1
    · rw [stepD_one he ha] at o' ⊢
      rw [stepD_one he ha] at hK
      rw [pBin_eql]
      show ifV (.bool false) _ _
      rw [ifV_false]
      exact hK h' q' (by unfold RcOk at hq ⊢; rw [ex, hq]) o'
    · rw [stepD_ok he ha] at o' ⊢
      rw [stepD_ok he ha] at hK
      rw [pBin_eql]
      show ifV (.bool true) _ _
      rw [ifV_true]
      refine copyRT_ok o' (by rw [ex]; omega) fun w1 h2 o2 => ?_
      refine ⟨sizesOk_of rfl, ?_⟩
      refine o2.build (enc := encSV) (n := 1) [nilSV] rfl (sizesOk_of rfl) rfl fun w2 h3 o3 => ?_
      refine o3.app 1 rfl (fun _ => rfl) encSV_plain rfl (o3.vw 0 rfl) (by decide) (by rw [List.length_map, ex]; simp; omega) fun w3 h4 o4 => ?_
      have o5 : Own h0 h4 (slR encSV 1 T_milestoneref29_Thing w3 (q'.xs.map (·.1) ++ [nilSV]) :: rL r q' (chD (.mk a s.th.length) { s with armed := s.armed - 1 }) L) := o4.tail
      refine layRT_ok o5 fun h5 o6 => ?_
      have o7 := (o6.nilS (enc := encRW) (n := 3) (T := T_milestoneref29_Write)).sepAdd (j := 3) rfl
      unfold sh_milestoneref29_Disk_Make_k1
      refine hK h5 ⟨w3, q'.c, q'.xs ++ [(nilSV, ⟨[], []⟩)]⟩ ?_ ?_
      · unfold RcOk at hq ⊢
        rw [List.map_append, ex, hq]
        rfl
      · have e1 : (q'.xs ++ [(nilSV, (⟨[], []⟩ : Th))]).map (·.1) = q'.xs.map (·.1) ++ [nilSV] := by simp
        have e2 : fmR q'.xs ++ [slR encRW 3 T_milestoneref29_Write (.slice none 0 0) []] = fmR (q'.xs ++ [(nilSV, ⟨[], []⟩)]) := fm_add (y := (nilSV, ⟨[], []⟩))
        unfold rL
        dsimp only
        rw [e1, ← e2]
        exact o7
  · rw [stepD_ne he] at o' ⊢
    rw [stepD_ne he] at hK
    rw [pBin_eql, ifV_beq]
    exact ⟨fun h => absurd h he, fun _ => hK h' q' (by unfold RcOk at hq ⊢; rw [ex, hq]) o'⟩

theorem now_lt (hI : s.Inv U N) (hn : dlook s.now a = some n) : n < s.th.length := by
  have hm := (dlook_mem (keys_dirOf _)).1 hn
  rcases dir_val _ _ _ hm hI.ok with h | ⟨x, h⟩
  · simp at h
  · exact hI.num x n h

theorem look_armed {m : Nat} : dlook ({ s with armed := m } : Dk).now a = dlook s.now a := rfl

theorem wr_lt (hI : s.Inv U N) (hn : n < s.th.length) : (wrL (s.getT n)).length ≤ N := by
  rw [← List.length_map (f := fun x : Wr × Bool => x.1), wrL_fst]
  refine hI.lw _ ?_
  unfold Dk.getT
  rw [List.getD_eq_getElem?_getD, List.getElem?_eq_getElem hn]
  exact List.getElem_mem _

set_option maxHeartbeats 1000000 in
theorem writeR_ok {z : Int} {w : ByteArray} (hI : s.Inv U N) (hN : N < 1048576) (hz : -9223372036854775808 ≤ z ∧ z ≤ 9223372036854775807) (hw : w.size ≤ 1048576) (o : Own h0 h (rL r q s L)) (hq : RcOk q s)
    (hK : ∀ h' q', RcOk q' (mWrite s a z w).2 → Own h0 h' (rL r q' (mWrite s a z w).2 L) → K (I (mWrite s a z w).1) h') : callS Tryz.prog F_milestoneref29_Disk_Write [ptr r, .string a, I z, .string w] h K := by
  refine callS_of (lk_milestoneref29_Disk_Write _ _ _ _ ?_)
  unfold sh_milestoneref29_Disk_Write
  have hxl := hq.len
  have hlt := hI.lt
  unfold mWrite at hK
  have k2 : refE s (wrE a z w) [a] = refE s (namesE [a]) [a] → (refE s (namesE [a]) [a] = 0 → 0 ≤ z) → sh_milestoneref29_Disk_Write_k2 Tryz.prog (.string a) (ptr r) (I z) (.string w) K h := by
    intro hwr hpos
    rw [hwr] at hK
    unfold sh_milestoneref29_Disk_Write_k2
    refine o.build (enc := encS) (n := 1) [a] rfl (sizesOk_of rfl) rfl fun v h1 o1 => ?_
    refine rstep_ok (K1 := fun t h' => sh_milestoneref29_Disk_Write_k3 Tryz.prog (ptr r) (.string a) (I z) (.string w) K t h') (l := [a]) hI (by omega) o1.tail (o1.vw 0 rfl) (by simp) (.inl ⟨rfl, a, _, rfl, rfl⟩) (fun hne h' o' => ?_) (fun he ha h' o' => ?_) fun he ha h' o' => ?_
    · rw [stepD_ne hne] at hK
      unfold sh_milestoneref29_Disk_Write_k3
      rw [pBin_eql, ifV_beq]
      exact ⟨fun h => absurd h hne, fun _ => hK h' q hq o'⟩
    · rw [stepD_one he ha] at hK
      unfold sh_milestoneref29_Disk_Write_k3
      rw [pBin_eql]
      show ifV (.bool false) _ _
      rw [ifV_false]
      exact hK h' q hq o'
    · rw [stepD_ok he ha] at hK
      have hz0 := hpos he
      obtain ⟨_, _, ht⟩ := refE_off he
      obtain ⟨n, hn⟩ := Option.isSome_iff_exists.1 (ht a List.mem_cons_self)
      have hnl := now_lt hI hn
      unfold upT at hK
      rw [look_armed, hn] at hK
      obtain ⟨m, rfl⟩ : ∃ m : Nat, z = m := ⟨z.toNat, by omega⟩
      rw [Int.toNat_natCast] at hK
      replace hK : ∀ h' q', RcOk q' (modRT { s with armed := s.armed - 1 } n fun t => { t with pen := t.pen ++ [⟨m, w⟩] }) → Own h0 h' (rL r q' (modRT { s with armed := s.armed - 1 } n fun t => { t with pen := t.pen ++ [⟨m, w⟩] }) L) → K (I 0) h' := hK
      unfold sh_milestoneref29_Disk_Write_k3
      rw [pBin_eql]
      show ifV (.bool true) _ _
      rw [ifV_true, pNil_ptr, pField_ptr]
      refine o'.load 0 rfl rfl ?_
      have hI' : ({ s with armed := s.armed - 1 } : Dk).Inv U N := ⟨hI.nm, hI.num, hI.ok, hI.inj, by have := hI.ar; show s.armed - 1 < _; omega, hI.lc, hI.lt, hI.lw, hI.wr⟩
      refine pointsR_ok (s := { s with armed := s.armed - 1 }) (q := q) hI' (by omega) o' (i := 2) rfl fun h2 e2 => ?_
      have o2 := o'.more e2
      have el : lookI ({ s with armed := s.armed - 1 } : Dk).now a = ((n : Nat) : Int) := by unfold lookI; rw [look_armed, hn]
      rw [el]
      have hq' : RcOk q { s with armed := s.armed - 1 } := hq
      have hnl' : n < ({ s with armed := s.armed - 1 } : Dk).th.length := hnl
      have hwl := wr_lt hI hnl
      have eg : s.getT n = ({ s with armed := s.armed - 1 } : Dk).getT n := rfl
      rw [eg] at hwl
      generalize ({ s with armed := s.armed - 1 } : Dk) = s1 at o2 hK hq' hnl' hwl
      refine copyRT_ok o2 (by omega) fun w0 h3 o3 => ?_
      refine layRT_ok o3 fun h4 o4 => ?_
      rw [pNil_ptr, pField_ptr]
      refine o4.load 0 rfl rfl ?_
      rw [pNil_ptr, pField_ptr]
      refine o4.load 0 rfl rfl ?_
      obtain ⟨x, hx, ex⟩ := hq'.get hnl'
      have hx1 : (q.xs.map (·.1))[n]'(by rw [List.length_map]; exact (List.getElem?_eq_some_iff.1 hx).1) = x.1 := by
        simp [(List.getElem?_eq_some_iff.1 hx).2]
      refine (o4.vw (enc := encSV) (n := 1) 1 rfl).atF (fun _ => rfl) (by rw [List.length_map]; exact (List.getElem?_eq_some_iff.1 hx).1) (j := 0) (u := x.1.v) (by decide) (by rw [hx1]; rfl) ?_
      refine ⟨sizesOk_of rfl, ?_⟩
      have E : ∀ {h5 : Heap} {L' : List Res} (i : Nat) (v : Value) (xs : List (Wr × Bool)) (y : Value) (ys : List (Wr × Bool)), Own h0 h5 L' → L'[i]? = some (slR encRW 3 T_milestoneref29_Write v xs) → Vw encRW 3 h5 y ys → xs.length ≤ 1048576 → ys.length ≤ 1048576 → ∀ KH : Value → Heap → Prop, (∀ v' h4, Own h0 h4 (L'.set i (slR encRW 3 T_milestoneref29_Write v' (xs ++ ys))) → KH v' h4) →
          pAppend T_milestoneref29_Write 3 32 [(.int .i64 0), (.string ⟨#[]⟩), (.bool false)] v y h5 KH := fun i v xs y ys o5 hi hy h1 h2 KH hk =>
        o5.app i hi (fun _ => rfl) encRW_plain rfl hy (by decide) (by omega) hk
      have V : ∀ {h5 : Heap} {L' : List Res} (i : Nat), Own h0 h5 L' → L'[i]? = some (sepR (fmR q.xs)) → Vw encRW 3 h5 x.1.v (wrL (s1.getT n)) := fun i o5 hi => by rw [← ex]; exact fm_vw (o5.get i hi) hx
      have fin : ∀ (w' : Value) (h5 : Heap), Own h0 h5 (slR encRW 3 T_milestoneref29_Write w' (wrL (s1.getT n) ++ [(⟨m, w⟩, false)]) :: cellR r [w0, q.c, .bool s1.off, I s1.armed] T_milestoneref29_Disk :: slR encSV 1 T_milestoneref29_Thing w0 (q.xs.map (·.1)) :: slR encRC 5 T_milestoneref29_Change q.c (chL s1) :: sepR (fmR q.xs) :: L) →
          (pLoad h5 (.pointer (some ⟨r, 0 + 0, none⟩)) fun t => t = w0) ∧ (pBuild [(.slice none 0 0)] [(0, 1, w')] fun t80 => pIdx 1 w0 (I n) fun t81 => pStore 1 t81 t80 h5 fun _ h6 => sh_milestoneref29_Disk_Write_k4 Tryz.prog K (I 0) h6) := by
        intro w' h5 o5
        refine ⟨o5.load 1 rfl rfl rfl, ?_⟩
        have ew : wrL (s1.getT n) ++ [(⟨m, w⟩, false)] = wrL ((fun t : Th => { t with pen := t.pen ++ [⟨m, w⟩] }) (s1.getT n)) := by
          unfold wrL; simp
        rw [ew] at o5
        exact setT_ok (f := fun t : Th => { t with pen := t.pen ++ [⟨m, w⟩] }) hq' hnl' o5 fun h6 q6 hq6 o6 => hK h6 q6 hq6 o6
      refine ⟨?_, ?_⟩
      · refine o4.build (enc := encRW) (n := 3) [] rfl (sizesOk_of rfl) rfl fun w1 h5 o5 => ?_
        refine ⟨?_, ?_⟩
        · refine E 0 _ [] _ (wrL (s1.getT n)) o5 rfl (V 4 o5 rfl) (by simp) (by omega) _ fun w2 h6 o6 => ?_
          refine ⟨o6.load 1 rfl rfl rfl, ?_⟩
          refine o6.build (enc := encRW) (n := 3) [(⟨m, w⟩, false)] rfl (sizesOk_of rfl) rfl fun w3 h7 o7 => ?_
          refine E 1 _ (wrL (s1.getT n)) _ [(⟨m, w⟩, false)] o7 rfl (o7.vw 0 rfl) (by omega) (by simp) _ fun w4 h8 o8 => ?_
          exact fin w4 h8 o8.tail
        · refine o5.build (enc := encRW) (n := 3) [(⟨m, w⟩, false)] rfl (sizesOk_of rfl) rfl fun w3 h7 o7 => ?_
          refine E 1 _ [] _ (wrL (s1.getT n)) o7 rfl (V 5 o7 rfl) (by simp) (by omega) _ fun w2 h6 o6 => ?_
          refine ⟨o6.load 2 rfl rfl rfl, ?_⟩
          refine E 1 _ (wrL (s1.getT n)) _ [(⟨m, w⟩, false)] o6 rfl (o6.vw 0 rfl) (by omega) (by simp) _ fun w4 h8 o8 => ?_
          exact fin w4 h8 o8.tail
      · refine o4.build (enc := encRW) (n := 3) [(⟨m, w⟩, false)] rfl (sizesOk_of rfl) rfl fun w3 h7 o7 => ?_
        refine o7.build (enc := encRW) (n := 3) [] rfl (sizesOk_of rfl) rfl fun w1 h5 o5 => ?_
        refine E 0 _ [] _ (wrL (s1.getT n)) o5 rfl (V 5 o5 rfl) (by simp) (by omega) _ fun w2 h6 o6 => ?_
        refine ⟨o6.load 2 rfl rfl rfl, ?_⟩
        refine E 0 _ (wrL (s1.getT n)) _ [(⟨m, w⟩, false)] o6 rfl (o6.vw 1 rfl) (by omega) (by simp) _ fun w4 h8 o8 => ?_
        exact fin w4 h8 (o8.erase 1)
  rw [pNil_ptr, pField_ptr]
  refine o.load 0 rfl rfl ?_
  cases ho : s.off with
  | true =>
    rw [notT29, ifV_false]
    refine k2 ?_ fun h => ?_
    · unfold refE; rw [ho]; rfl
    · have := (refE_off h).1
      rw [ho] at this; cases this
  | false =>
    rw [notF29, ifV_true]
    refine may_ok ?_
    cases hok : okN a with
    | false =>
      rw [ifV_false]
      have hn : namesE [a] = 2 := by unfold namesE; simp [hok]
      refine k2 ?_ fun h => ?_
      · unfold wrE; rw [if_neg (fun h => by rw [hn] at h; exact absurd h.1 (by decide))]
      · have := (refE_off h).2.1
        rw [hn] at this; cases this
    | true =>
      rw [ifV_true]
      have hn : namesE [a] = 0 := by unfold namesE; simp [hok]
      have bad : (z < 0 ∨ z > 1048576 - w.size) → sh_milestoneref29_Disk_Write_k1 Tryz.prog K h := by
        intro hb
        unfold sh_milestoneref29_Disk_Write_k1
        have e2 : refE s (wrE a z w) [a] = 2 := by
          have e3 : wrE a z w = 2 := by unfold wrE; rw [if_pos ⟨hn, hb⟩]
          unfold refE
          rw [e3, ho]
          rfl
        rw [e2, stepD_ne (by decide)] at hK
        exact hK h q hq o
      rw [pBin_lss, ifV_dec]
      refine ⟨fun h1 => bad (.inl h1), fun h1 => ?_⟩
      rw [pBin_gtr, ifV_dec]
      refine ⟨fun h2 => bad (.inr (by omega)), fun h2 => ?_⟩
      rw [pLenS_str, pBin_add, w64 (by omega) (by omega), pBin_gtr, ifV_dec]
      refine ⟨fun h3 => bad (.inr (by omega)), fun h3 => ?_⟩
      refine k2 ?_ fun _ => by omega
      unfold wrE
      rw [if_neg (fun h => by omega)]

end
end Go.Proofs.YtdbkeklhjjlhbaaGreat

/-! The disk by definition: what is synced, what is pending, what names there are. -/
namespace Go.Proofs.YtdbkeklhjjlhbaaGreat
open Go Go.Mh
set_option linter.unusedVariables false

section
variable {h0 h : Heap} {L : List Res} {K : Value → Heap → Prop} {r n : Nat} {q : RC} {s : Dk} {U : List Nm} {N : Nat} {a b : Nm}

theorem syncR_ok (hI : s.Inv U N) (hN : N < 1048576) (o : Own h0 h (rL r q s L)) (hq : RcOk q s)
    (hK : ∀ h' q', RcOk q' (mSync s a).2 → Own h0 h' (rL r q' (mSync s a).2 L) → K (I (mSync s a).1) h') : callS Tryz.prog F_milestoneref29_Disk_Sync [ptr r, .string a] h K := by
  refine callS_of (lk_milestoneref29_Disk_Sync _ _ ?_)
  unfold sh_milestoneref29_Disk_Sync
  have hxl := hq.len
  have hlt := hI.lt
  unfold mSync at hK
  refine o.build (enc := encS) (n := 1) [a] rfl (sizesOk_of rfl) rfl fun v h1 o1 => ?_
  refine rstep_ok (K1 := fun t h' => sh_milestoneref29_Disk_Sync_k1 Tryz.prog (ptr r) (.string a) K t h') (l := [a]) hI (by omega) o1.tail (o1.vw 0 rfl) (by simp) (.inl ⟨rfl, a, _, rfl, rfl⟩) (fun hne h' o' => ?_) (fun he ha h' o' => ?_) fun he ha h' o' => ?_
  · rw [stepD_ne hne] at hK
    unfold sh_milestoneref29_Disk_Sync_k1
    rw [pBin_eql, ifV_beq]
    exact ⟨fun h => absurd h hne, fun _ => hK h' q hq o'⟩
  · rw [stepD_one he ha] at hK
    unfold sh_milestoneref29_Disk_Sync_k1
    rw [pBin_eql]
    show ifV (.bool false) _ _
    rw [ifV_false]
    exact hK h' q hq o'
  · rw [stepD_ok he ha] at hK
    obtain ⟨_, _, ht⟩ := refE_off he
    obtain ⟨n, hn⟩ := Option.isSome_iff_exists.1 (ht a List.mem_cons_self)
    have hnl := now_lt hI hn
    unfold upT at hK
    rw [look_armed, hn] at hK
    replace hK : ∀ h' q', RcOk q' (modRT { s with armed := s.armed - 1 } n fun t => ⟨t.all, []⟩) → Own h0 h' (rL r q' (modRT { s with armed := s.armed - 1 } n fun t => ⟨t.all, []⟩) L) → K (I 0) h' := hK
    unfold sh_milestoneref29_Disk_Sync_k1
    rw [pBin_eql]
    show ifV (.bool true) _ _
    rw [ifV_true, pNil_ptr, pField_ptr]
    refine o'.load 0 rfl rfl ?_
    have hI' : ({ s with armed := s.armed - 1 } : Dk).Inv U N := ⟨hI.nm, hI.num, hI.ok, hI.inj, by have := hI.ar; show s.armed - 1 < _; omega, hI.lc, hI.lt, hI.lw, hI.wr⟩
    refine pointsR_ok (s := { s with armed := s.armed - 1 }) (q := q) hI' (by omega) o' (i := 2) rfl fun h2 e2 => ?_
    have o2 := o'.more e2
    have el : lookI ({ s with armed := s.armed - 1 } : Dk).now a = ((n : Nat) : Int) := by unfold lookI; rw [look_armed, hn]
    rw [el]
    have hq' : RcOk q { s with armed := s.armed - 1 } := hq
    have hnl' : n < ({ s with armed := s.armed - 1 } : Dk).th.length := hnl
    have hwl := wr_lt hI hnl
    have eg : s.getT n = ({ s with armed := s.armed - 1 } : Dk).getT n := rfl
    rw [eg] at hwl
    generalize ({ s with armed := s.armed - 1 } : Dk) = s1 at o2 hK hq' hnl' hwl
    obtain ⟨x, hx, ex⟩ := hq'.get hnl'
    have hx1 : (q.xs.map (·.1))[n]'(by rw [List.length_map]; exact (List.getElem?_eq_some_iff.1 hx).1) = x.1 := by
      simp [(List.getElem?_eq_some_iff.1 hx).2]
    refine o2.build (enc := encRW) (n := 3) [] rfl (sizesOk_of rfl) rfl fun w1 h3 o3 => ?_
    rw [pNil_ptr, pField_ptr]
    refine o3.load 1 rfl rfl ?_
    refine (o3.vw (enc := encSV) (n := 1) 2 rfl).atF (fun _ => rfl) (by rw [List.length_map]; exact (List.getElem?_eq_some_iff.1 hx).1) (j := 0) (u := x.1.v) (by decide) (by rw [hx1]; rfl) ?_
    have V : Vw encRW 3 h3 x.1.v (wrL (s1.getT n)) := by rw [← ex]; exact fm_vw (o3.get 4 rfl) hx
    refine o3.app 0 rfl (fun _ => rfl) encRW_plain rfl V (by decide) (by simp; omega) fun w2 h4 o4 => ?_
    have o4 : Own h0 h4 (slR encRW 3 T_milestoneref29_Write w2 (wrL (s1.getT n)) :: rL r q s1 L) := o4
    refine LoopH_count (wrL (s1.getT n)).length (fun i x h' => x.1 = I i ∧ Own h0 h' (slR encRW 3 T_milestoneref29_Write w2 (synTo (wrL (s1.getT n)) i) :: rL r q s1 L)) ⟨rfl, by rw [synTo_zero]; exact o4⟩ ?_
    rintro i ⟨y, ⟨⟩⟩ h5 Z hi ⟨hy, o5⟩ hZ
    dsimp only at hy hZ ⊢
    subst hy
    unfold sh_milestoneref29_Disk_Sync_L2
    refine (o5.vw 0 rfl).len ?_
    rw [synTo_len, pBin_lss, ifV_dec]
    refine ⟨fun hlt2 => ?_, fun hge => ?_⟩
    · have hi' : i < (wrL (s1.getT n)).length := by omega
      refine o5.setF (a := ((wrL (s1.getT n))[i].1, true)) 0 rfl (fun _ => rfl) (by rw [synTo_len]; exact hi') (by decide) rfl rfl (by rw [synTo_get hi']; rfl) fun h6 o6 => ?_
      rw [pBin_add, wI i (by omega)]
      rw [synTo_set hi'] at o6
      exact hZ (_, ()) h6 hi' ⟨rfl, o6⟩
    · rw [synTo_all (by omega), wrL_syn] at o5
      have o6 : Own h0 h5 (rL r q s1 (slR encRW 3 T_milestoneref29_Write w2 (wrL ⟨(s1.getT n).all, []⟩) :: L)) :=
        Own.mid' (X := []) (Y := [cellR r [q.t, q.c, .bool s1.off, I s1.armed] T_milestoneref29_Disk, slR encSV 1 T_milestoneref29_Thing q.t (q.xs.map (·.1)), slR encRC 5 T_milestoneref29_Change q.c (chL s1), sepR (fmR q.xs)]) o5
      refine copyRT_ok o6 (by omega) fun w3 h6 o7 => ?_
      refine layRT_ok o7 fun h7 o8 => ?_
      rw [pNil_ptr, pField_ptr]
      refine o8.load 0 rfl rfl ?_
      have o9 : Own h0 h7 (slR encRW 3 T_milestoneref29_Write w2 (wrL ⟨(s1.getT n).all, []⟩) :: cellR r [w3, q.c, .bool s1.off, I s1.armed] T_milestoneref29_Disk :: slR encSV 1 T_milestoneref29_Thing w3 (q.xs.map (·.1)) :: slR encRC 5 T_milestoneref29_Change q.c (chL s1) :: sepR (fmR q.xs) :: L) :=
        Own.mid (X := []) (Y := [cellR r [w3, q.c, .bool s1.off, I s1.armed] T_milestoneref29_Disk, slR encSV 1 T_milestoneref29_Thing w3 (q.xs.map (·.1)), slR encRC 5 T_milestoneref29_Change q.c (chL s1), sepR (fmR q.xs)]) o8
      exact setT_ok (f := fun t : Th => ⟨t.all, []⟩) hq' hnl' o9 fun h8 q8 hq8 o10 => hK h8 q8 hq8 o10

theorem syncDirR_ok (hI : s.Inv U N) (hN : N < 1048576) (o : Own h0 h (rL r q s L)) (hq : RcOk q s)
    (hK : ∀ h' q', RcOk q' (mSyncDir s).2 → Own h0 h' (rL r q' (mSyncDir s).2 L) → K (I (mSyncDir s).1) h') : callS Tryz.prog F_milestoneref29_Disk_SyncDir [ptr r] h K := by
  refine callS_of (lk_milestoneref29_Disk_SyncDir _ ?_)
  unfold sh_milestoneref29_Disk_SyncDir
  have hlen := chL_len hI
  unfold mSyncDir at hK
  refine rstep_ok (K1 := fun t h' => sh_milestoneref29_Disk_SyncDir_k1 Tryz.prog (ptr r) K t h') (ys := []) (l := []) hI (by omega) o Vw.nil (by simp) (.inr ⟨rfl, rfl⟩) (fun hne h' o' => ?_) (fun he ha h' o' => ?_) fun he ha h' o' => ?_
  · have hne' : refE s 0 [] ≠ 0 := hne
    rw [stepD_ne hne'] at hK
    unfold sh_milestoneref29_Disk_SyncDir_k1
    rw [pBin_eql, ifV_beq]
    exact ⟨fun h => absurd h hne, fun _ => hK h' q hq o'⟩
  · have he' : refE s 0 [] = 0 := he
    rw [stepD_one he' ha] at hK
    unfold sh_milestoneref29_Disk_SyncDir_k1
    rw [pBin_eql]
    show ifV (.bool false) _ _
    rw [ifV_false]
    exact hK h' q hq o'
  · have he' : refE s 0 [] = 0 := he
    rw [stepD_ok he' ha] at hK
    unfold sh_milestoneref29_Disk_SyncDir_k1
    rw [pBin_eql]
    show ifV (.bool true) _ _
    rw [ifV_true]
    have el : chL s = chL ({ s with armed := s.armed - 1 } : Dk) := rfl
    rw [el] at hlen
    have hq1 : RcOk q { s with armed := s.armed - 1 } := hq
    generalize ({ s with armed := s.armed - 1 } : Dk) = s1 at o' hK hlen hq1
    refine copyRC_ok o' (by omega) fun w h2 o2 => ?_
    refine layC_ok o2 fun h3 o3 => ?_
    refine LoopH_count (chL s1).length (fun i x h' => x.1 = I i ∧ Own h0 h' (cellR r [q.t, w, .bool s1.off, I s1.armed] T_milestoneref29_Disk :: slR encSV 1 T_milestoneref29_Thing q.t (q.xs.map (·.1)) :: slR encRC 5 T_milestoneref29_Change w (synTo (chL s1) i) :: sepR (fmR q.xs) :: L)) ⟨rfl, by rw [synTo_zero]; exact o3⟩ ?_
    rintro i ⟨y, ⟨⟩⟩ h5 Z hi ⟨hy, o5⟩ hZ
    dsimp only at hy hZ ⊢
    subst hy
    unfold sh_milestoneref29_Disk_SyncDir_L2
    rw [pNil_ptr, pField_ptr]
    refine o5.load 0 rfl rfl ?_
    refine (o5.vw (enc := encRC) (n := 5) 2 rfl).len ?_
    rw [synTo_len, pBin_lss, ifV_dec]
    refine ⟨fun hlt2 => ?_, fun hge => ?_⟩
    · have hi' : i < (chL s1).length := by omega
      rw [pNil_ptr, pField_ptr]
      refine o5.load 0 rfl rfl ?_
      refine o5.setF (a := ((chL s1)[i].1, true)) 2 rfl (fun _ => rfl) (by rw [synTo_len]; exact hi') (by decide) rfl rfl (by rw [synTo_get hi']; rfl) fun h6 o6 => ?_
      rw [pBin_add, wI i (by omega)]
      have o6 : Own h0 h6 (cellR r [q.t, w, .bool s1.off, I s1.armed] T_milestoneref29_Disk :: slR encSV 1 T_milestoneref29_Thing q.t (q.xs.map (·.1)) :: slR encRC 5 T_milestoneref29_Change w ((synTo (chL s1) i).set i ((chL s1)[i].1, true)) :: sepR (fmR q.xs) :: L) := o6
      rw [synTo_set hi'] at o6
      exact hZ (_, ()) h6 hi' ⟨rfl, o6⟩
    · rw [synTo_all (by omega), chL_syn] at o5
      exact hK h5 ⟨q.t, w, q.xs⟩ hq1 o5

/-! ### Pending -/

theorem pendingR_ok (hI : s.Inv U N) (hN : N < 1048576) (o : Own h0 h (rL r q s L)) (hq : RcOk q s)
    (hK : ∀ h', Own h0 h' (rL r q s L) → K (.tuple #[I (mPending s).1, I (mPending s).2]) h') : callS Tryz.prog F_milestoneref29_Disk_Pending [ptr r] h K := by
  refine callS_of (lk_milestoneref29_Disk_Pending _ ?_)
  unfold sh_milestoneref29_Disk_Pending
  have hlen := chL_len hI
  have hxl := hq.len
  have hlt := hI.lt
  have pc : ((chL s).filter fun x => !x.2).length = s.cp.length := by
    have e1 : (s.cs.map (·, true)).filter (fun x => !x.2) = [] := by simp [List.filter_map, Function.comp_def]
    have e2 : (s.cp.map (·, false)).filter (fun x => !x.2) = s.cp.map (·, false) := List.filter_eq_self.2 fun x hx => by obtain ⟨y, _, rfl⟩ := List.mem_map.1 hx; rfl
    unfold chL
    rw [List.filter_append, e1, e2]; simp
  have pw : ∀ t : Th, ((wrL t).filter fun x => !x.2).length = t.pen.length := fun t => by
    have e1 : (t.syn.map (·, true)).filter (fun x => !x.2) = [] := by simp [List.filter_map, Function.comp_def]
    have e2 : (t.pen.map (·, false)).filter (fun x => !x.2) = t.pen.map (·, false) := List.filter_eq_self.2 fun x hx => by obtain ⟨y, _, rfl⟩ := List.mem_map.1 hx; rfl
    unfold wrL
    rw [List.filter_append, e1, e2]; simp
  have fl : ∀ {α : Type} (l : List α) (p : α → Bool) (i : Nat) (hi : i < l.length), ((l.take (i + 1)).filter p).length = ((l.take i).filter p).length + (if p l[i] then 1 else 0) := fun l p i hi => by
    rw [List.take_succ_eq_append_getElem hi, List.filter_append, List.length_append]
    cases h : p l[i] <;> simp [h]
  have fle : ∀ {α : Type} (l : List α) (p : α → Bool), (l.filter p).length ≤ l.length := fun l p => List.length_filter_le _ _
  refine LoopH_count (chL s).length (fun i x h' => x.2.1 = I i ∧ x.1 = I (((chL s).take i).filter fun x => !x.2).length ∧ Own h0 h' (rL r q s L)) ⟨rfl, rfl, o⟩ ?_
  rintro i ⟨y, x, ⟨⟩⟩ h1 Z hi ⟨hx, hy, o1⟩ hZ
  dsimp only at hx hy hZ ⊢
  subst hx hy
  unfold sh_milestoneref29_Disk_Pending_L1
  rw [pNil_ptr, pField_ptr]
  refine o1.load 0 rfl rfl ?_
  have Hv := o1.vw (enc := encRC) (n := 5) (T := T_milestoneref29_Change) 2 rfl
  refine Hv.len ?_
  rw [pBin_lss, ifV_dec]
  refine ⟨fun hlt1 => ?_, fun hge => ?_⟩
  · have hi' : i < (chL s).length := by omega
    rw [pNil_ptr, pField_ptr]
    refine o1.load 0 rfl rfl ?_
    refine Hv.atF (fun _ => rfl) hi' (j := 4) (u := .bool (chL s)[i].2) (by decide) rfl ?_
    have hf := fl (chL s) (fun x => !x.2) i hi'
    have hle := fle ((chL s).take i) (fun x => !x.2)
    rw [List.length_take] at hle
    unfold sh_milestoneref29_Disk_Pending_k2
    cases hb : (chL s)[i].2 with
    | true =>
      rw [notT29, ifV_false, pBin_add, wI i (by omega)]
      rw [hb] at hf
      refine hZ (_, _, ()) h1 hi' ⟨rfl, ?_, o1⟩
      rw [hf]; simp
    | false =>
      rw [notF29, ifV_true, pBin_add, wI _ (by omega), pBin_add, wI i (by omega)]
      rw [hb] at hf
      refine hZ (_, _, ()) h1 hi' ⟨rfl, ?_, o1⟩
      rw [hf]; simp
  · rw [List.take_of_length_le (by omega), pc]
    have nm : ∀ m, namedL s.now (m + 1) = namedL s.now m ++ (if s.now.any (fun x => decide (x.2 = m)) then [m] else []) := fun m => by
      unfold namedL
      rw [List.range_succ, List.filter_append]
      congr 1
      by_cases h : (s.now.any fun x => decide (x.2 = m)) = true
      · rw [if_pos h, List.filter_cons_of_pos (by exact h)]; rfl
      · rw [if_neg h, List.filter_cons_of_neg (by exact h)]; rfl
    have nlen : ∀ m, (namedL s.now m).length ≤ m := fun m => by
      unfold namedL
      exact Nat.le_trans (List.length_filter_le _ _) (by simp)
    have tl : ∀ m, ((s.getT m).pen.length ≤ 1048576) := fun m => by
      by_cases hm : m < s.th.length
      · have := wr_lt hI hm
        rw [← pw]
        exact Nat.le_trans (fle _ _) (by omega)
      · unfold Dk.getT
        rw [List.getD_eq_getElem?_getD, List.getElem?_eq_none (by omega)]
        exact Nat.zero_le _
    have sb' : ∀ (M : Nat), (∀ m, (s.getT m).pen.length ≤ M) → ∀ m, ((namedL s.now m).map fun n => (s.getT n).pen.length).sum ≤ m * M := by
      intro M hM m
      induction m with
      | zero => simp [namedL]
      | succ m ih =>
        have := hM m
        rw [nm, List.map_append, List.sum_append, Nat.succ_mul]
        split
        · rw [List.map_cons, List.map_nil, List.sum_cons, List.sum_nil]; omega
        · rw [List.map_nil, List.sum_nil]; omega
    have sb := fun m (_ : m ≤ 1048576) => sb' _ tl m
    refine LoopH_count s.th.length (fun m x h' => x.2.1 = I m ∧ x.1 = I ((namedL s.now m).map fun n => (s.getT n).pen.length).sum ∧ Own h0 h' (rL r q s L)) ⟨rfl, rfl, o1⟩ ?_
    rintro m ⟨y, x, ⟨⟩⟩ h2 Z1 hm ⟨hx, hy, o2⟩ hZ1
    dsimp only at hx hy hZ1 ⊢
    subst hx hy
    unfold sh_milestoneref29_Disk_Pending_L3
    rw [pNil_ptr, pField_ptr]
    refine o2.load 0 rfl rfl ?_
    refine (o2.vw (enc := encSV) (n := 1) 1 rfl).len ?_
    rw [List.length_map, hxl, pBin_lss, ifV_dec]
    refine ⟨fun hlt1 => ?_, fun hge1 => ?_⟩
    · have hm' : m < s.th.length := by omega
      have hsb := sb m (by omega)
      have hmb : m * 1048576 ≤ 1048576 * 1048576 := Nat.mul_le_mul_right _ (by omega)
      obtain ⟨xx, hxx, exx⟩ := hq.get hm'
      have hx1 : (q.xs.map (·.1))[m]'(by rw [List.length_map]; omega) = xx.1 := by
        simp [(List.getElem?_eq_some_iff.1 hxx).2]
      have hwl := wr_lt hI hm'
      have nm := nm m
      obtain ⟨S, hS⟩ : ∃ S, S = ((namedL s.now m).map fun n => (s.getT n).pen.length).sum := ⟨_, rfl⟩
      rw [← hS] at hsb ⊢
      have k6 : ∀ (T : Nat) (h' : Heap), T = ((namedL s.now (m + 1)).map fun n => (s.getT n).pen.length).sum → Own h0 h' (rL r q s L) → sh_milestoneref29_Disk_Pending_k6 Tryz.prog (I m) (fun a0 a1 hz => Z1 (a0, (a1, ())) hz) (I T) h' := by
        intro T h' hT o'
        unfold sh_milestoneref29_Disk_Pending_k6
        rw [pBin_add, wI m (by omega)]
        exact hZ1 (_, _, ()) h' (by omega) ⟨rfl, by rw [hT], o'⟩
      have tot : ((namedL s.now (m + 1)).map fun n => (s.getT n).pen.length).sum = S + (if s.now.any (fun x => decide (x.2 = m)) then (s.getT m).pen.length else 0) := by
        rw [nm, List.map_append, List.sum_append, ← hS]
        split <;> simp
      refine LoopH_count (wrL (s.getT m)).length (fun i x h' => x.2.1 = I i ∧ x.1 = I ((S + (((wrL (s.getT m)).take i).filter fun x => !x.2).length : Nat) : Int) ∧ (0 < i → s.now.any (fun x => decide (x.2 = m)) = true) ∧ Own h0 h' (rL r q s L)) ⟨rfl, by simp, fun h => absurd h (by decide), o2⟩ ?_
      rintro i ⟨y, x, ⟨⟩⟩ h3 Z2 hi ⟨hx, hy, hnm, o3⟩ hZ2
      dsimp only at hx hy hZ2 ⊢
      subst hx hy
      unfold sh_milestoneref29_Disk_Pending_L4
      rw [pNil_ptr, pField_ptr]
      refine o3.load 0 rfl rfl ?_
      have VT := o3.vw (enc := encSV) (n := 1) (T := T_milestoneref29_Thing) 1 rfl
      refine VT.atF (fun _ => rfl) (by rw [List.length_map]; omega) (j := 0) (u := xx.1.v) (by decide) (by rw [hx1]; rfl) ?_
      have V : Vw encRW 3 h3 xx.1.v (wrL (s.getT m)) := by rw [← exx]; exact fm_vw (o3.get 3 rfl) hxx
      refine V.len ?_
      have hle := fle ((wrL (s.getT m)).take i) (fun x => !x.2)
      rw [List.length_take] at hle
      rw [pBin_lss, ifV_dec]
      refine ⟨fun hlt2 => ?_, fun hge2 => ?_⟩
      · have hi' : i < (wrL (s.getT m)).length := by omega
        refine pointsB_ok hI (by omega) o3 fun h4 o4 => ?_
        cases hn : (s.now.any fun x => decide (x.2 = m)) with
        | true =>
          rw [ifV_true, pNil_ptr, pField_ptr]
          refine o4.load 0 rfl rfl ?_
          have VT := o4.vw (enc := encSV) (n := 1) (T := T_milestoneref29_Thing) 1 rfl
          refine VT.atF (fun _ => rfl) (by rw [List.length_map]; omega) (j := 0) (u := xx.1.v) (by decide) (by rw [hx1]; rfl) ?_
          have V : Vw encRW 3 h4 xx.1.v (wrL (s.getT m)) := by rw [← exx]; exact fm_vw (o4.get 3 rfl) hxx
          refine V.atF (fun _ => rfl) hi' (j := 2) (u := .bool (wrL (s.getT m))[i].2) (by decide) rfl ?_
          have hf := fl (wrL (s.getT m)) (fun x => !x.2) i hi'
          unfold sh_milestoneref29_Disk_Pending_k5
          cases hb : (wrL (s.getT m))[i].2 with
          | true =>
            rw [notT29, ifV_false, pBin_add, wI i (by omega)]
            rw [hb] at hf
            refine hZ2 (_, _, ()) h4 hi' ⟨rfl, ?_, fun _ => hn, o4⟩
            rw [hf]; simp
          | false =>
            rw [notF29, ifV_true, pBin_add, wI _ (by omega), pBin_add, wI i (by omega)]
            rw [hb] at hf
            refine hZ2 (_, _, ()) h4 hi' ⟨rfl, ?_, fun _ => hn, o4⟩
            rw [hf]; simp; omega
        | false =>
          rw [ifV_false]
          have i0 : i = 0 := Classical.byContradiction fun h => by
            have := hnm (by omega)
            rw [hn] at this; cases this
          subst i0
          refine k6 _ h4 ?_ o4
          rw [tot, hn]; simp
      · refine k6 _ h3 ?_ o3
        rw [List.take_of_length_le (by omega), pw, tot]
        by_cases i0 : 0 < i
        · rw [hnm i0]; simp
        · have : (wrL (s.getT m)).length = 0 := by omega
          have := fle (wrL (s.getT m)) (fun x => !x.2)
          rw [pw] at this
          have e0 : (s.getT m).pen.length = 0 := by omega
          rw [e0]; simp
    · have e : m = s.th.length := by omega
      subst e
      exact hK h2 o2

end
end Go.Proofs.YtdbkeklhjjlhbaaGreat

/-! The disk by definition: its names. -/
namespace Go.Proofs.YtdbkeklhjjlhbaaGreat
open Go Go.Mh
set_option linter.unusedVariables false

section
variable {h0 h : Heap} {L : List Res} {K : Value → Heap → Prop} {r n : Nat} {q : RC} {s : Dk} {U : List Nm} {N : Nat} {a b : Nm}

theorem encS_plain29 (x : ByteArray) : ∀ u ∈ encS x, Mh.plainCell u = true := by intro u hu; simp [encS] at hu; subst hu; rfl

theorem mid1 {r1 r2 r3 r4 r5 : Res} (o : Own h0 h (r1 :: r2 :: r3 :: r4 :: r5 :: L)) : Own h0 h (r2 :: r3 :: r4 :: r5 :: r1 :: L) := Own.mid' (X := []) (Y := [r2, r3, r4, r5]) o

theorem namesR_ok (hI : s.Inv U N) (hN : N < 1048576) (o : Own h0 h (rL r q s L)) (hK : ∀ w h', Own h0 h' (slR encS 1 T_string w (mNames s) :: rL r q s L) → K w h') : callS Tryz.prog F_milestoneref29_Disk_Names [ptr r] h K := by
  refine callS_of (lk_milestoneref29_Disk_Names _ ?_)
  unfold sh_milestoneref29_Disk_Names
  have hlen := chL_len hI
  have hl2 : (s.cs ++ s.cp).length = (chL s).length := by rw [← chL_fst, List.length_map]
  refine LoopH_count (chL s).length (fun i x h' => x.2.1 = I i ∧ (s.off = true → i = 0) ∧ ∃ ys, NmP s (saidBy ((s.cs ++ s.cp).take i)) ys ∧ Own h0 h' (slR encS 1 T_string x.1 ys :: rL r q s L)) ⟨rfl, fun _ => rfl, [], NmP.nil, o.nilS⟩ ?_
  rintro i ⟨ov, x, ⟨⟩⟩ h1 Z hi ⟨hx, hoff, ys, hP, o1⟩ hZ
  dsimp only at hx o1 hZ ⊢
  subst hx
  have k7 : (s.off = true ∨ (chL s).length ≤ i) → sh_milestoneref29_Disk_Names_k7 Tryz.prog K ov h1 := by
    intro hc
    unfold sh_milestoneref29_Disk_Names_k7
    cases ho : s.off with
    | true =>
      have := hoff ho
      subst this
      have e : ys = mNames s := by
        unfold mNames
        rw [ho]
        have := hP.len
        simp [saidBy] at this
        simpa using this
      rw [e] at o1
      exact hK _ _ o1
    | false =>
      have hc2 : (chL s).length ≤ i := by
        rcases hc with hc | hc
        · rw [ho] at hc; cases hc
        · exact hc
      rw [List.take_of_length_le (by omega)] at hP
      rw [hP.all hI.ok ho] at o1
      exact hK _ _ o1
  unfold sh_milestoneref29_Disk_Names_L1
  rw [pNil_ptr, pField_ptr]
  refine o1.load 1 rfl rfl ?_
  have Hv := o1.vw (enc := encRC) (n := 5) (T := T_milestoneref29_Change) 3 rfl
  refine Hv.len ?_
  rw [pBin_lss, ifV_dec]
  refine ⟨fun hlt => ?_, fun hge => k7 (.inr (by omega))⟩
  have hi' : i < (chL s).length := by omega
  rw [pNil_ptr, pField_ptr]
  refine o1.load 1 rfl rfl ?_
  cases ho : s.off with
  | true =>
    rw [notT29, ifV_false]
    exact k7 (.inl ho)
  | false =>
    rw [notF29, ifV_true, pNil_ptr, pField_ptr]
    refine o1.load 1 rfl rfl ?_
    refine Hv.atF (fun _ => rfl) hi' (j := 2) (u := .string (chL s)[i].1.A) (by decide) rfl ?_
    rw [pNil_ptr, pField_ptr]
    refine o1.load 1 rfl rfl ?_
    refine Hv.atF (fun _ => rfl) hi' (j := 3) (u := .string (chL s)[i].1.B) (by decide) rfl ?_
    refine ⟨sizesOk_of rfl, ?_⟩
    have ei : (s.cs ++ s.cp)[i]'(by omega) = (chL s)[i].1 := by simp [← chL_fst]
    have nx : saidBy ((s.cs ++ s.cp).take (i + 1)) = saidBy ((s.cs ++ s.cp).take i) ++ [(chL s)[i].1.A, (chL s)[i].1.B] := by
      rw [List.take_succ_eq_append_getElem (by omega), ei]
      unfold saidBy
      rw [List.flatMap_append]; simp
    have sl : (saidBy ((s.cs ++ s.cp).take i)).length = 2 * i := by
      unfold saidBy
      rw [List.length_flatMap]
      have : ∀ l : List Ch, (l.map fun c => ([c.A, c.B] : List Nm).length).sum = 2 * l.length := fun l => by
        induction l with
        | nil => rfl
        | cons c l ih => simp at ih ⊢; omega
      rw [this, List.length_take]; omega
    generalize (chL s)[i].1.A = A at nx
    generalize (chL s)[i].1.B = B at nx
    generalize saidBy ((s.cs ++ s.cp).take i) = l0 at nx sl hP
    refine LoopH_count 2 (fun j x h' => x.2.1 = I j ∧ ∃ ys, NmP s (l0 ++ [A, B].take j) ys ∧ Own h0 h' (slR encS 1 T_string x.1 ys :: rL r q s L)) ⟨rfl, ys, by simpa using hP, o1⟩ ?_
    clear hP o1 k7 ys ov Hv
    rintro j ⟨ov, x, ⟨⟩⟩ h1 Z1 hj ⟨hx, ys, hP, o1⟩ hZ1
    dsimp only at hx o1 hZ1 ⊢
    subst hx
    unfold sh_milestoneref29_Disk_Names_L2
    rw [pBin_lss, ifV_dec]
    refine ⟨fun hlt2 => ?_, fun hge2 => ?_⟩
    · have hj2 : j < 2 := by omega
      obtain ⟨nm, hnm, hidx⟩ : ∃ nm, [A, B].take (j + 1) = [A, B].take j ++ [nm] ∧ ∀ K' : Value → Prop, K' (.string nm) → pIdxV1 2 (.agg (spliceAll [(.string ⟨#[]⟩), (.string ⟨#[]⟩)] [(0, 1, .string A), (1, 1, .string B)]).toArray) (I j) K' := by
        rcases (show j = 0 ∨ j = 1 by omega) with rfl | rfl
        · exact ⟨A, rfl, fun K' hk => ⟨by decide, by decide, hk⟩⟩
        · exact ⟨B, rfl, fun K' hk => ⟨by decide, by decide, hk⟩⟩
      refine hidx _ ?_
      have hPl := hP.len
      rw [List.length_append, List.length_take, sl] at hPl
      have hyl : ys.length ≤ 2 * 1048576 := by simp at hPl; omega
      have k3 : ∀ (w : Value) (zs : List Nm) (h' : Heap), NmP s (l0 ++ [A, B].take (j + 1)) zs → Own h0 h' (slR encS 1 T_string w zs :: rL r q s L) → sh_milestoneref29_Disk_Names_k3 Tryz.prog (I j) (fun a0 a1 hz => Z1 (a0, (a1, ())) hz) w h' := by
        intro w zs h' hz o'
        unfold sh_milestoneref29_Disk_Names_k3
        rw [pBin_add, wI j (by omega)]
        exact hZ1 (_, _, ()) h' hj2 ⟨rfl, zs, hz, o'⟩
      rw [pNil_ptr, pField_ptr]
      refine o1.load 1 rfl rfl ?_
      refine pointsR_ok (s := s) (q := q) hI (by omega) o1 (i := 3) rfl fun h2 e2 => ?_
      have o2 := o1.more e2
      have hneg := lookI_neg (D := s.now) (x := nm)
      rw [pBin_lss, ifV_dec]
      refine ⟨fun hlt3 => ?_, fun hge3 => ?_⟩
      · refine k3 ov ys h2 ?_ o2
        rw [hnm, ← List.append_assoc]
        exact hP.skip (hneg.1 hlt3)
      · have hsome : (dlook s.now nm).isSome = true := by
          cases hd : (dlook s.now nm).isSome with
          | true => rfl
          | false => exact absurd (hneg.2 hd) hge3
        have hput := hP.put hsome
        rw [List.append_assoc, ← hnm] at hput
        refine LoopH_count ys.length (fun k x h' => x.1 = I k ∧ (∀ m (hm : m < k) (hk : k ≤ ys.length), ltS (ys[m]'(by omega)) nm = true) ∧ Own h0 h' (slR encS 1 T_string ov ys :: rL r q s L)) ⟨rfl, fun m hm => by omega, o2⟩ ?_
        rintro k ⟨x, ⟨⟩⟩ h3 Z2 hk ⟨hx, hless, o3⟩ hZ2
        dsimp only at hx hZ2 ⊢
        subst hx
        have Hy := o3.vw (enc := encS) (n := 1) (T := T_string) 0 rfl
        have k6 : insO ltS nm ys = ys.take k ++ nm :: ys.drop k → sh_milestoneref29_Disk_Names_k6 Tryz.prog ov (I k) (.string nm) (I j) (fun a0 a1 hz => Z1 (a0, (a1, ())) hz) h3 := by
          intro hins
          rw [hins] at hput
          unfold sh_milestoneref29_Disk_Names_k6
          refine Hy.subA (a := 0) (j := k) (fun _ => rfl) rfl rfl (Nat.zero_le _) hk fun v1 hv1 => ?_
          refine Hy.subA (a := k) (j := ys.length) (fun _ => rfl) rfl rfl hk (Nat.le_refl _) fun v2 hv2 => ?_
          have e1 : (ys.drop 0).take (k - 0) = ys.take k := by simp
          have e2 : (ys.drop k).take (ys.length - k) = ys.drop k := List.take_of_length_le (by simp)
          rw [e1] at hv1
          rw [e2] at hv2
          have E : ∀ {h5 : Heap} {L' : List Res} (i : Nat) (v : Value) (xs : List Nm) (y : Value) (zs : List Nm), Own h0 h5 L' → L'[i]? = some (slR encS 1 T_string v xs) → Vw encS 1 h5 y zs → xs.length ≤ 4194304 → zs.length ≤ 4194304 → ∀ KH : Value → Heap → Prop, (∀ v' h4, Own h0 h4 (L'.set i (slR encS 1 T_string v' (xs ++ zs))) → KH v' h4) →
              pAppend T_string 1 16 [(.string ⟨#[]⟩)] v y h5 KH := fun i v xs y zs o5 hi hy h1 h2 KH hk =>
            o5.app i hi (fun _ => rfl) encS_plain29 rfl hy (by decide) (by omega) hk
          have tl : (ys.take k).length ≤ ys.length := by rw [List.length_take]; omega
          have dl : (ys.drop k).length ≤ ys.length := by rw [List.length_drop]; omega
          have fin : ∀ (w : Value) (h' : Heap), Own h0 h' (slR encS 1 T_string w ((ys.take k ++ [nm]) ++ ys.drop k) :: slR encS 1 T_string ov ys :: rL r q s L) → sh_milestoneref29_Disk_Names_k3 Tryz.prog (I j) (fun a0 a1 hz => Z1 (a0, (a1, ())) hz) w h' := by
            intro w h' o'
            rw [show (ys.take k ++ [nm]) ++ ys.drop k = ys.take k ++ nm :: ys.drop k by simp] at o'
            exact k3 w _ h' hput (o'.erase 1)
          refine ⟨?_, ?_⟩
          · refine o3.build (enc := encS) (n := 1) [] rfl (sizesOk_of rfl) rfl fun w1 h4 o4 => ?_
            refine ⟨?_, ?_⟩
            · refine E 0 _ [] _ _ o4 rfl (hv1 _ (o4.vw 1 rfl)) (by simp) (by omega) _ fun w2 h5 o5 => ?_
              refine o5.build (enc := encS) (n := 1) [nm] rfl (sizesOk_of rfl) rfl fun w3 h6 o6 => ?_
              refine E 1 _ (ys.take k) _ _ o6 rfl (o6.vw 0 rfl) (by omega) (by simp) _ fun w4 h7 o7 => ?_
              refine E 1 _ (ys.take k ++ [nm]) _ _ o7 rfl (hv2 _ (o7.vw 2 rfl)) (by simp; omega) (by omega) _ fun w5 h8 o8 => ?_
              exact fin w5 h8 o8.tail
            · refine o4.build (enc := encS) (n := 1) [nm] rfl (sizesOk_of rfl) rfl fun w3 h6 o6 => ?_
              refine E 1 _ [] _ _ o6 rfl (hv1 _ (o6.vw 2 rfl)) (by simp) (by omega) _ fun w2 h5 o5 => ?_
              refine E 1 _ (ys.take k) _ _ o5 rfl (o5.vw 0 rfl) (by omega) (by simp) _ fun w4 h7 o7 => ?_
              refine E 1 _ (ys.take k ++ [nm]) _ _ o7 rfl (hv2 _ (o7.vw 2 rfl)) (by simp; omega) (by omega) _ fun w5 h8 o8 => ?_
              exact fin w5 h8 o8.tail
          · refine o3.build (enc := encS) (n := 1) [nm] rfl (sizesOk_of rfl) rfl fun w3 h6 o6 => ?_
            refine o6.build (enc := encS) (n := 1) [] rfl (sizesOk_of rfl) rfl fun w1 h4 o4 => ?_
            refine E 0 _ [] _ _ o4 rfl (hv1 _ (o4.vw 2 rfl)) (by simp) (by omega) _ fun w2 h5 o5 => ?_
            refine E 0 _ (ys.take k) _ _ o5 rfl (o5.vw 1 rfl) (by omega) (by simp) _ fun w4 h7 o7 => ?_
            refine E 0 _ (ys.take k ++ [nm]) _ _ o7 rfl (hv2 _ (o7.vw 2 rfl)) (by simp; omega) (by omega) _ fun w5 h8 o8 => ?_
            exact fin w5 h8 (o8.erase 1)
        have k5 : (∀ (h : k < ys.length), ltS ys[k] nm = false) → sh_milestoneref29_Disk_Names_k5 Tryz.prog ov (I k) (.string nm) (I j) (fun a0 a1 hz => Z1 (a0, (a1, ())) hz) h3 := by
          intro hstop
          have hins := insO_take ltS_ok (x := nm) hk (fun m hm => hless m hm hk) hstop
          unfold sh_milestoneref29_Disk_Names_k5
          refine Hy.len ?_
          rw [pBin_eql, ifV_beq]
          refine ⟨fun he => ?_, fun hne => ?_⟩
          · rw [dif_neg (by omega)] at hins
            exact k6 hins
          · have hk' : k < ys.length := by omega
            rw [dif_pos hk'] at hins
            refine Hy.at1 (e := fun (x : Nm) => Value.string x) (fun _ => rfl) hk' ?_
            rw [pBin_neqS, ifV_notb, ifV_dec]
            refine ⟨fun he => ?_, fun hne => ?_⟩
            · rw [if_pos he] at hins
              rw [hins] at hput
              exact k3 ov ys h3 hput o3
            · rw [if_neg (fun h => hne h)] at hins
              exact k6 hins
        unfold sh_milestoneref29_Disk_Names_L4
        refine Hy.len ?_
        rw [pBin_lss, ifV_dec]
        refine ⟨fun hlt4 => ?_, fun hge4 => ?_⟩
        · have hk' : k < ys.length := by omega
          refine Hy.at1 (e := fun (x : Nm) => Value.string x) (fun _ => rfl) hk' ?_
          rw [pBin_lssS, ifV_bool]
          refine ⟨fun hl => ?_, fun hl => ?_⟩
          · rw [pBin_add, wI k (by omega)]
            refine hZ2 (_, ()) h3 hk' ⟨rfl, fun m hm hk2 => ?_, o3⟩
            by_cases e : m = k
            · subst e; exact hl
            · exact hless m (by omega) hk
          · exact k5 fun _ => hl
        · exact k5 fun h => by omega
    · have e2 : j = 2 := by omega
      subst e2
      rw [pBin_add, wI i (by omega)]
      refine hZ (_, _, ()) h1 hi' ⟨rfl, fun h => (by rw [ho] at h; cases h), ys, ?_, o1⟩
      rw [nx]; exact hP

end
end Go.Proofs.YtdbkeklhjjlhbaaGreat

namespace Go.Proofs.YtdbkeklhjjlhbaaGreat
open Go Go.Mh
set_option linter.unusedVariables false

section
variable {h0 h : Heap} {L : List Res} {K : Value → Heap → Prop} {vd : Value}

theorem encS_plain (x : ByteArray) : ∀ u ∈ encS x, Mh.plainCell u = true := by intro u hu; simp [encS] at hu; subst hu; rfl

theorem pIdxB_any {s : ByteArray} {i : Nat} {k : IntKind} {K : Value → Prop} (hi : i < s.size) (hK : ∀ b : Int, K (.int .u8 b)) : pIdxS (.string s) (.int k i) K := by
  refine ⟨by omega, ?_⟩
  rw [Int.toNat_natCast, getElem?_pos s i hi]
  exact hK _

set_option maxRecDepth 100000 in
theorem lenB_ok {n : Nat} (hn : n < 256) (hK : ∀ z : Int, K (I z) h) : callS Tryz.prog F_math_bits_Len [.int .u64 n] h K := by
  refine callS_of (lk_math_bits_Len _ ?_)
  unfold sh_math_bits_Len
  refine callS_of (lk_math_bits_Len64 _ ?_)
  unfold sh_math_bits_Len64 sh_math_bits_Len64_k1 sh_math_bits_Len64_k2 sh_math_bits_Len64_k3
  rw [pBin_geq, decide_eq_false (by omega), ifV_false, pBin_geq, decide_eq_false (by omega), ifV_false, pBin_geq, decide_eq_false (by omega), ifV_false]
  rw [pConv_int, show IntKind.u8.wrap (n : Int) = (n : Int) from wrap_in (show (0 : Int) ≤ n by omega) (show (n : Int) ≤ 255 by omega)]
  refine pIdxB_any ?_ fun b => ?_
  · refine Nat.lt_of_lt_of_eq hn (Eq.symm ?_)
    kernel_rfl
  · rw [pConv_int, pBin_add]
    exact hK _

theorem lessB_int {a b : Int} (hK : K (.bool (ltI a b)) h) : callS Tryz.prog F_cmp_Less_int [I a, I b] h K := by
  refine callS_of (lk_cmp_Less_int _ _ ?_)
  unfold sh_cmp_Less_int
  refine callS_of (lk_cmp_isNaN_int _ ?_)
  unfold sh_cmp_isNaN_int
  rw [pBin_neq, bne_self_eq_false]
  dsimp only
  rw [ifV_false, pBin_lss]
  exact hK

theorem lessB_string {a b : ByteArray} (hK : K (.bool (ltS a b)) h) : callS Tryz.prog F_cmp_Less_string [.string a, .string b] h K := by
  refine callS_of (lk_cmp_Less_string _ _ ?_)
  unfold sh_cmp_Less_string
  refine callS_of (lk_cmp_isNaN_string _ ?_)
  unfold sh_cmp_isNaN_string
  rw [pBin_neqS, decide_eq_true rfl, Bool.not_true]
  dsimp only
  rw [ifV_false, pBin_lssS]
  exact hK

theorem setSame {α : Type} {L : List α} {i : Nat} {r : α} (hi : L[i]? = some r) : L.set i r = L := by
  apply List.ext_getElem?
  intro n
  by_cases e : n = i
  · subst e; rw [hi, List.getElem?_set_self (List.getElem?_eq_some_iff.1 hi).1]
  · rw [List.getElem?_set_ne (fun h => e h.symm)]

/-- One place of an insertion sort: A, x, B, R; x goes ahead of all of B. -/
theorem ins_get {α : Type} {A B R : List α} {x : α} : (A ++ x :: B ++ R)[A.length]? = some x := by simp
theorem ins_pre {α : Type} {A B R : List α} {x y : α} : ((A ++ [y]) ++ x :: B ++ R)[A.length]? = some y := by simp
theorem ins_swap {α : Type} {A B R : List α} {x y : α} : ((((A ++ [y]) ++ x :: B ++ R).set (A.length + 1) y).set A.length x) = A ++ x :: (y :: B) ++ R := by
  rw [show (A ++ [y]) ++ x :: B ++ R = A ++ (y :: x :: (B ++ R)) by simp, List.set_append_right _ _ (by omega), show A.length + 1 - A.length = 1 by omega, List.set_append_right _ _ (Nat.le_refl _), Nat.sub_self]
  simp

set_option maxHeartbeats 4000000 in
theorem insB_int {q : Nat} {xs : List Int} (o : Own h0 h L) (hq : L[q]? = some (slR encI 1 T_int vd xs)) (hl : xs.length < 2 ^ 40)
    (hK : ∀ ys h', ys.Perm xs → Srt ltI ys → Own h0 h' (L.set q (slR encI 1 T_int vd ys)) → K (.tuple #[]) h') : callS Tryz.prog F_slices_insertionSortOrdered_int [vd, I (0 : Nat), I xs.length] h K := by
  refine callS_of (lk_slices_insertionSortOrdered_int _ _ _ ?_)
  unfold sh_slices_insertionSortOrdered_int
  rw [pBin_add, wI 0 (by decide)]
  refine LoopH_count (xs.length - 1) (fun i x h' => x.1 = I (i + 1 : Nat) ∧ ∃ S R, S.length = min (i + 1) xs.length ∧ (S ++ R).Perm xs ∧ Srt ltI S ∧ Own h0 h' (L.set q (slR encI 1 T_int vd (S ++ R)))) ⟨rfl, xs.take 1, xs.drop 1, by rw [List.length_take], by rw [List.take_append_drop], ?_, by rw [List.take_append_drop, setSame hq]; exact o⟩ ?_
  · cases xs with
    | nil => exact .nil
    | cons a l => exact List.pairwise_singleton ..
  clear o
  rintro i ⟨x, ⟨⟩⟩ h1 Z hi ⟨hx, S, R, hSl, hp, hs, o⟩ hZ
  dsimp only at hx hZ ⊢
  subst hx
  have hlp := hp.length_eq
  rw [List.length_append] at hlp
  unfold sh_slices_insertionSortOrdered_int_L1
  rw [pBin_lss, ifV_dec]
  refine ⟨fun hlt => ?_, fun hge => ?_⟩
  case refine_2 =>
    have hR : R = [] := List.eq_nil_of_length_eq_zero (by omega)
    subst hR
    rw [List.append_nil] at o hp
    exact hK S h1 hp hs o
  have hlt : i + 1 < xs.length := by omega
  obtain ⟨v, R, rfl⟩ : ∃ v R', R = v :: R' := by
    cases R with
    | nil => simp at hlp; omega
    | cons v R => exact ⟨v, R, rfl⟩
  have hsq : ∀ {ys : List Int}, (L.set q (slR encI 1 T_int vd ys))[q]? = some (slR encI 1 T_int vd ys) := set_get hq
  refine LoopH_down (fun j x h' => x.1 = I j ∧ ∃ A B, A.length = j ∧ S = A ++ B ∧ (∀ b ∈ B, ltI v b = true) ∧ Own h0 h' (L.set q (slR encI 1 T_int vd (A ++ v :: B ++ R)))) (k0 := i + 1) ⟨rfl, S, [], by omega, by simp, fun _ h => (by cases h), by rw [List.append_assoc]; exact o⟩ ?_
  clear o
  rintro j ⟨x, ⟨⟩⟩ h2 Z1 ⟨hx, A, B, hA, rfl, hB, o⟩ hZ1
  dsimp only at hx hZ1 ⊢
  subst hx
  have hj : j ≤ i + 1 := by
    have := hSl; rw [List.length_append] at this; omega
  unfold sh_slices_insertionSortOrdered_int_L2
  have out : ∀ h', (∀ a ∈ A, ltI v a = false) → Own h0 h' (L.set q (slR encI 1 T_int vd (A ++ v :: B ++ R))) → pBin .add (I (i + 1 : Nat)) (.int .i64 1) fun t16 => Z (t16, ()) h' := fun h' ha o' => by
    rw [pBin_add, wI (i + 1) (by omega)]
    refine hZ (_, ()) h' (by omega) ⟨rfl, A ++ v :: B, R, ?_, ?_, ?_, o'⟩
    · rw [List.length_append] at hSl ⊢; simp only [List.length_cons]; omega
    · refine List.Perm.trans ?_ hp
      simp only [List.append_assoc, List.cons_append]
      refine List.Perm.append_left A ?_
      exact (List.perm_middle (a := v) (l₁ := B) (l₂ := R)).symm
    · have hs' := List.pairwise_append.1 hs
      refine List.pairwise_append.2 ⟨hs'.1, List.pairwise_cons.2 ⟨fun b hb => ltI_ok.asy _ _ (hB b hb), hs'.2.1⟩, fun a ha' b hb => ?_⟩
      rcases List.mem_cons.1 hb with rfl | hb
      · exact ha a ha'
      · exact hs'.2.2 a ha' b hb
  refine cutP_of (fun y h' => Own h0 h' (L.set q (slR encI 1 T_int vd (A ++ v :: B ++ R))) ∧ ((y.1 = .bool true ∧ ∃ A' y', A = A' ++ [y'] ∧ ltI v y' = true) ∨ (y.1 = .bool false ∧ ∀ a ∈ A, ltI v a = false))) (fun J hJ => ?_) ?_
  · rw [pBin_gtr, ifV_dec]
    refine ⟨fun hpos => ?_, fun hz => hJ _ _ ⟨o, .inr ⟨rfl, ?_⟩⟩⟩
    case refine_2 =>
      have : A = [] := List.eq_nil_of_length_eq_zero (by omega)
      subst this; intro a h; cases h
    obtain ⟨A', y, rfl⟩ : ∃ A' y, A = A' ++ [y] := by
      have hne : A ≠ [] := by rintro rfl; simp at hA; omega
      exact ⟨A.dropLast, A.getLast hne, (List.dropLast_concat_getLast hne).symm⟩
    have hA' : j = A'.length + 1 := by rw [← hA]; simp
    subst hA'
    have lt1 : A'.length + 1 < (A' ++ [y] ++ v :: B ++ R).length := by simp
    have g1 : (A' ++ [y] ++ v :: B ++ R)[A'.length + 1] = v := by
      have := ins_get (A := A' ++ [y]) (B := B) (R := R) (x := v)
      rw [show (A' ++ [y]).length = A'.length + 1 by simp, List.getElem?_eq_getElem lt1] at this
      exact Option.some.inj this
    have lt0 : A'.length < (A' ++ [y] ++ v :: B ++ R).length := by omega
    have g0 : (A' ++ [y] ++ v :: B ++ R)[A'.length] = y := by
      have := ins_pre (A := A') (B := B) (R := R) (x := v) (y := y)
      rw [List.getElem?_eq_getElem lt0] at this
      exact Option.some.inj this
    refine (o.vw q hsq).at1 (e := fun (x : Int) => I x) (fun _ => rfl) lt1 ?_
    rw [g1, pBin_sub, w64 (by omega) (by omega), show ((A'.length + 1 : Nat) : Int) - 1 = (A'.length : Int) by omega]
    refine (o.vw q hsq).at1 (e := fun (x : Int) => I x) (fun _ => rfl) lt0 ?_
    rw [g0]
    refine lessB_int ?_
    cases hc : ltI v y with
    | true => exact hJ _ _ ⟨o, .inl ⟨rfl, A', y, rfl, hc⟩⟩
    | false =>
      refine hJ _ _ ⟨o, .inr ⟨rfl, fun a ha => ?_⟩⟩
      rcases List.mem_append.1 ha with ha | ha
      · have hs' := (List.pairwise_append.1 (List.pairwise_append.1 hs).1).2.2 a ha y (by simp)
        cases hva : ltI v a with
        | false => rfl
        | true =>
          rcases ltI_ok.neg v y a hva with h | h
          · rw [hc] at h; cases h
          · rw [hs'] at h; cases h
      · rw [List.mem_singleton.1 ha]; exact hc
  · rintro ⟨y, ⟨⟩⟩ h3 ⟨o3, ⟨hy, A', y', rfl, hvy⟩ | ⟨hy, hall⟩⟩
    · dsimp only at hy ⊢
      subst hy
      clear o
      unfold sh_slices_insertionSortOrdered_int_C3
      rw [ifV_true]
      have hA' : j = A'.length + 1 := by rw [← hA]; simp
      subst hA'
      have lt1 : A'.length + 1 < (A' ++ [y'] ++ v :: B ++ R).length := by simp
      have g1 : (A' ++ [y'] ++ v :: B ++ R)[A'.length + 1] = v := by
        have := ins_get (A := A' ++ [y']) (B := B) (R := R) (x := v)
        rw [show (A' ++ [y']).length = A'.length + 1 by simp, List.getElem?_eq_getElem lt1] at this
        exact Option.some.inj this
      have lt0 : A'.length < (A' ++ [y'] ++ v :: B ++ R).length := by omega
      have g0 : (A' ++ [y'] ++ v :: B ++ R)[A'.length] = y' := by
        have := ins_pre (A := A') (B := B) (R := R) (x := v) (y := y')
        rw [List.getElem?_eq_getElem lt0] at this
        exact Option.some.inj this
      rw [pBin_sub, w64 (by omega) (by omega), show ((A'.length + 1 : Nat) : Int) - 1 = (A'.length : Int) by omega]
      rw [pBin_sub, w64 (by omega) (by omega), show ((A'.length + 1 : Nat) : Int) - 1 = (A'.length : Int) by omega]
      refine (o3.vw q hsq).at1 (e := fun (x : Int) => I x) (fun _ => rfl) lt0 ?_
      refine (o3.vw q hsq).at1 (e := fun (x : Int) => I x) (fun _ => rfl) lt1 ?_
      rw [g0, g1]
      refine o3.setAt (a := y') q hsq (fun _ => rfl) (encI_plain _) lt1 rfl fun h4 o4 => ?_
      rw [List.set_set] at o4
      refine o4.setAt (a := v) q hsq (fun _ => rfl) (encI_plain _) (by rw [List.length_set]; exact lt0) rfl fun h5 o5 => ?_
      rw [List.set_set, ins_swap] at o5
      rw [pBin_sub, w64 (by omega) (by omega), show ((A'.length + 1 : Nat) : Int) - 1 = (A'.length : Int) by omega]
      refine hZ1 (_, ()) h5 A'.length (by omega) ⟨rfl, A', y' :: B, rfl, by simp, fun b hb => ?_, o5⟩
      rcases List.mem_cons.1 hb with rfl | hb
      · exact hvy
      · exact hB b hb
    · dsimp only at hy ⊢
      subst hy
      unfold sh_slices_insertionSortOrdered_int_C3
      rw [ifV_false]
      exact out h3 hall o3

theorem pdqB_int {q : Nat} {lim : Value} {xs : List Int} (o : Own h0 h L) (hq : L[q]? = some (slR encI 1 T_int vd xs)) (hl : xs.length ≤ 12)
    (hK : ∀ ys h', ys.Perm xs → Srt ltI ys → Own h0 h' (L.set q (slR encI 1 T_int vd ys)) → K (.tuple #[]) h') : callS Tryz.prog F_slices_pdqsortOrdered_int [vd, I (0 : Nat), I xs.length, lim] h K := by
  refine callS_of (lk_slices_pdqsortOrdered_int _ _ _ _ ?_)
  unfold sh_slices_pdqsortOrdered_int
  refine LoopH_count 0 (fun _ x h' => x.1 = I (0 : Nat) ∧ x.2.1 = I xs.length ∧ h' = h) ⟨rfl, rfl, rfl⟩ ?_
  rintro i ⟨x, y, z, b1, b2, ⟨⟩⟩ h' Z hi ⟨hx, hy, rfl⟩ hZ
  dsimp only at hx hy ⊢
  subst hx hy
  unfold sh_slices_pdqsortOrdered_int_L1
  rw [pBin_sub, w64 (by omega) (by omega), pBin_leq, decide_eq_true (by omega), ifV_true]
  exact insB_int o hq (by omega) hK

theorem sortB_int {q : Nat} {xs : List Int} (o : Own h0 h L) (hq : L[q]? = some (slR encI 1 T_int vd xs)) (hl : xs.length ≤ 12)
    (hK : ∀ ys h', ys.Perm xs → Srt ltI ys → Own h0 h' (L.set q (slR encI 1 T_int vd ys)) → K (.tuple #[]) h') : callS Tryz.prog F_slices_Sort_sl_int_int [vd] h K := by
  refine callS_of (lk_slices_Sort_sl_int_int _ ?_)
  unfold sh_slices_Sort_sl_int_int
  refine (o.vw q hq).len ?_
  rw [pConv_int, u64w (by omega) (by omega)]
  exact lenB_ok (by omega) fun z => pdqB_int o hq hl hK

/-- slices.Collect of what yields a row at a time. -/
theorem collectB_int {fv : Value} {Q : Heap → Prop} {σ : Type} {s0 : σ} {next : σ → List Value → σ → Prop} {stop : σ → Prop} (o : Own h0 h L) (hI : IterG Tryz.prog fv Q s0 next stop) (g : σ → List Int) (g0 : g s0 = [])
    (hf : ∀ s x s', next s x s' → ∃ a, x = [I a] ∧ g s' = g s ++ [a] ∧ (g s').length < 2 ^ 40) (hQ : ∀ (Rs : List Res) h', Own h0 h' (Rs ++ L) → Q h')
    (hK : ∀ w h' s, stop s → Own h0 h' (slR encI 1 T_int w (g s) :: L) → K w h') : callS Tryz.prog F_slices_Collect_int [fv] h K := by
  refine callS_of (lk_slices_Collect_int _ ?_)
  unfold sh_slices_Collect_int
  refine callS_of (lk_slices_AppendSeq_sl_int_int _ _ ?_)
  unfold sh_slices_AppendSeq_sl_int_int
  refine o.box fun s2 h1 o1 => ?_
  have o2 : Own h0 h1 (slR encI 1 T_int (.slice none 0 0) (g s0) :: cellR s2 [.slice none 0 0] T_sl_int :: L) := by
    rw [g0]; exact Own.nilS (enc := encI) (n := 1) (T := T_int) o1
  refine o2.range hI (fun s x s' hn => by obtain ⟨a, rfl, _⟩ := hf s x s' hn; rfl)
    (fun s Rs => ∃ w, Rs = slR encI 1 T_int w (g s) :: cellR s2 [w] T_sl_int :: L) (fun _ => False) (fun _ _ => False) ⟨_, rfl⟩ ?_ ?_ ?_ (fun _ _ h => h.elim) (fun _ _ _ h => h.elim)
  · rintro s Rs h' ⟨w, rfl⟩ o'
    exact hQ [_, _] h' o'
  · rintro M s x s' Rs Pr h' R hn ⟨w, rfl⟩ o' hN _ _
    obtain ⟨a, rfl, hg, hgl⟩ := hf s x s' hn
    dsimp only [valsOf]
    unfold sh_slices_AppendSeq_sl_int_int_B1
    refine o'.begin 0 rfl fun h4 o4 => ?_
    have o4 : Own h0 h4 (loopR _ _ :: markR _ :: slR encI 1 T_int w (g s) :: cellR s2 [w] T_sl_int :: (L ++ Pr)) := o4
    refine o4.load 3 rfl rfl ?_
    rw [hg, List.length_append] at hgl
    refine o4.app1 2 a rfl rfl (sizesOk_of rfl) (fun _ => rfl) encI_plain rfl (by decide) (by simp at hgl; omega) fun w' h5 o5 => ?_
    have hw' := o5.vw 2 rfl
    refine o5.st1 3 (cs' := [w']) rfl rfl rfl hw'.one hw'.plain fun h6 o6 => ?_
    refine hN _ h6 ⟨w', rfl⟩ ?_
    rw [hg]
    exact o6
  · rintro s h' Rs hs ⟨w, rfl⟩ o'
    refine o'.load 2 rfl rfl (o'.take1 0 rfl fun h10 o10 => hK w h10 s hs ?_)
    exact o10.tail.front 2 [0] (by decide) (by decide)

/-- slices.Sorted of what yields a row at a time. -/
theorem sortedB_int {fv : Value} {Q : Heap → Prop} {σ : Type} {s0 : σ} {next : σ → List Value → σ → Prop} {stop : σ → Prop} (o : Own h0 h L) (hI : IterG Tryz.prog fv Q s0 next stop) (g : σ → List Int) (g0 : g s0 = [])
    (hf : ∀ s x s', next s x s' → ∃ a, x = [I a] ∧ g s' = g s ++ [a] ∧ (g s').length < 2 ^ 40) (hQ : ∀ (Rs : List Res) h', Own h0 h' (Rs ++ L) → Q h') (hl : ∀ s, stop s → (g s).length ≤ 12)
    (hK : ∀ w h' s ys, stop s → ys.Perm (g s) → Srt ltI ys → Own h0 h' (slR encI 1 T_int w ys :: L) → K w h') : callS Tryz.prog F_slices_Sorted_int [fv] h K := by
  refine callS_of (lk_slices_Sorted_int _ ?_)
  unfold sh_slices_Sorted_int
  refine collectB_int o hI g g0 hf hQ fun w h1 s hs o1 => ?_
  exact sortB_int (q := 0) o1 rfl (hl s hs) fun ys h2 hp hsr o2 => hK w h2 s ys hs hp hsr o2

set_option maxHeartbeats 4000000 in
theorem insB_string {q : Nat} {xs : List ByteArray} (o : Own h0 h L) (hq : L[q]? = some (slR encS 1 T_string vd xs)) (hl : xs.length < 2 ^ 40)
    (hK : ∀ ys h', ys.Perm xs → Srt ltS ys → Own h0 h' (L.set q (slR encS 1 T_string vd ys)) → K (.tuple #[]) h') : callS Tryz.prog F_slices_insertionSortOrdered_string [vd, I (0 : Nat), I xs.length] h K := by
  refine callS_of (lk_slices_insertionSortOrdered_string _ _ _ ?_)
  unfold sh_slices_insertionSortOrdered_string
  rw [pBin_add, wI 0 (by decide)]
  refine LoopH_count (xs.length - 1) (fun i x h' => x.1 = I (i + 1 : Nat) ∧ ∃ S R, S.length = min (i + 1) xs.length ∧ (S ++ R).Perm xs ∧ Srt ltS S ∧ Own h0 h' (L.set q (slR encS 1 T_string vd (S ++ R)))) ⟨rfl, xs.take 1, xs.drop 1, by rw [List.length_take], by rw [List.take_append_drop], ?_, by rw [List.take_append_drop, setSame hq]; exact o⟩ ?_
  · cases xs with
    | nil => exact .nil
    | cons a l => exact List.pairwise_singleton ..
  clear o
  rintro i ⟨x, ⟨⟩⟩ h1 Z hi ⟨hx, S, R, hSl, hp, hs, o⟩ hZ
  dsimp only at hx hZ ⊢
  subst hx
  have hlp := hp.length_eq
  rw [List.length_append] at hlp
  unfold sh_slices_insertionSortOrdered_string_L1
  rw [pBin_lss, ifV_dec]
  refine ⟨fun hlt => ?_, fun hge => ?_⟩
  case refine_2 =>
    have hR : R = [] := List.eq_nil_of_length_eq_zero (by omega)
    subst hR
    rw [List.append_nil] at o hp
    exact hK S h1 hp hs o
  have hlt : i + 1 < xs.length := by omega
  obtain ⟨v, R, rfl⟩ : ∃ v R', R = v :: R' := by
    cases R with
    | nil => simp at hlp; omega
    | cons v R => exact ⟨v, R, rfl⟩
  have hsq : ∀ {ys : List ByteArray}, (L.set q (slR encS 1 T_string vd ys))[q]? = some (slR encS 1 T_string vd ys) := set_get hq
  refine LoopH_down (fun j x h' => x.1 = I j ∧ ∃ A B, A.length = j ∧ S = A ++ B ∧ (∀ b ∈ B, ltS v b = true) ∧ Own h0 h' (L.set q (slR encS 1 T_string vd (A ++ v :: B ++ R)))) (k0 := i + 1) ⟨rfl, S, [], by omega, by simp, fun _ h => (by cases h), by rw [List.append_assoc]; exact o⟩ ?_
  clear o
  rintro j ⟨x, ⟨⟩⟩ h2 Z1 ⟨hx, A, B, hA, rfl, hB, o⟩ hZ1
  dsimp only at hx hZ1 ⊢
  subst hx
  have hj : j ≤ i + 1 := by
    have := hSl; rw [List.length_append] at this; omega
  unfold sh_slices_insertionSortOrdered_string_L2
  have out : ∀ h', (∀ a ∈ A, ltS v a = false) → Own h0 h' (L.set q (slR encS 1 T_string vd (A ++ v :: B ++ R))) → pBin .add (I (i + 1 : Nat)) (.int .i64 1) fun t16 => Z (t16, ()) h' := fun h' ha o' => by
    rw [pBin_add, wI (i + 1) (by omega)]
    refine hZ (_, ()) h' (by omega) ⟨rfl, A ++ v :: B, R, ?_, ?_, ?_, o'⟩
    · rw [List.length_append] at hSl ⊢; simp only [List.length_cons]; omega
    · refine List.Perm.trans ?_ hp
      simp only [List.append_assoc, List.cons_append]
      refine List.Perm.append_left A ?_
      exact (List.perm_middle (a := v) (l₁ := B) (l₂ := R)).symm
    · have hs' := List.pairwise_append.1 hs
      refine List.pairwise_append.2 ⟨hs'.1, List.pairwise_cons.2 ⟨fun b hb => ltS_ok.asy _ _ (hB b hb), hs'.2.1⟩, fun a ha' b hb => ?_⟩
      rcases List.mem_cons.1 hb with rfl | hb
      · exact ha a ha'
      · exact hs'.2.2 a ha' b hb
  refine cutP_of (fun y h' => Own h0 h' (L.set q (slR encS 1 T_string vd (A ++ v :: B ++ R))) ∧ ((y.1 = .bool true ∧ ∃ A' y', A = A' ++ [y'] ∧ ltS v y' = true) ∨ (y.1 = .bool false ∧ ∀ a ∈ A, ltS v a = false))) (fun J hJ => ?_) ?_
  · rw [pBin_gtr, ifV_dec]
    refine ⟨fun hpos => ?_, fun hz => hJ _ _ ⟨o, .inr ⟨rfl, ?_⟩⟩⟩
    case refine_2 =>
      have : A = [] := List.eq_nil_of_length_eq_zero (by omega)
      subst this; intro a h; cases h
    obtain ⟨A', y, rfl⟩ : ∃ A' y, A = A' ++ [y] := by
      have hne : A ≠ [] := by rintro rfl; simp at hA; omega
      exact ⟨A.dropLast, A.getLast hne, (List.dropLast_concat_getLast hne).symm⟩
    have hA' : j = A'.length + 1 := by rw [← hA]; simp
    subst hA'
    have lt1 : A'.length + 1 < (A' ++ [y] ++ v :: B ++ R).length := by simp
    have g1 : (A' ++ [y] ++ v :: B ++ R)[A'.length + 1] = v := by
      have := ins_get (A := A' ++ [y]) (B := B) (R := R) (x := v)
      rw [show (A' ++ [y]).length = A'.length + 1 by simp, List.getElem?_eq_getElem lt1] at this
      exact Option.some.inj this
    have lt0 : A'.length < (A' ++ [y] ++ v :: B ++ R).length := by omega
    have g0 : (A' ++ [y] ++ v :: B ++ R)[A'.length] = y := by
      have := ins_pre (A := A') (B := B) (R := R) (x := v) (y := y)
      rw [List.getElem?_eq_getElem lt0] at this
      exact Option.some.inj this
    refine (o.vw q hsq).at1 (e := fun (x : ByteArray) => Value.string x) (fun _ => rfl) lt1 ?_
    rw [g1, pBin_sub, w64 (by omega) (by omega), show ((A'.length + 1 : Nat) : Int) - 1 = (A'.length : Int) by omega]
    refine (o.vw q hsq).at1 (e := fun (x : ByteArray) => Value.string x) (fun _ => rfl) lt0 ?_
    rw [g0]
    refine lessB_string ?_
    cases hc : ltS v y with
    | true => exact hJ _ _ ⟨o, .inl ⟨rfl, A', y, rfl, hc⟩⟩
    | false =>
      refine hJ _ _ ⟨o, .inr ⟨rfl, fun a ha => ?_⟩⟩
      rcases List.mem_append.1 ha with ha | ha
      · have hs' := (List.pairwise_append.1 (List.pairwise_append.1 hs).1).2.2 a ha y (by simp)
        cases hva : ltS v a with
        | false => rfl
        | true =>
          rcases ltS_ok.neg v y a hva with h | h
          · rw [hc] at h; cases h
          · rw [hs'] at h; cases h
      · rw [List.mem_singleton.1 ha]; exact hc
  · rintro ⟨y, ⟨⟩⟩ h3 ⟨o3, ⟨hy, A', y', rfl, hvy⟩ | ⟨hy, hall⟩⟩
    · dsimp only at hy ⊢
      subst hy
      clear o
      unfold sh_slices_insertionSortOrdered_string_C3
      rw [ifV_true]
      have hA' : j = A'.length + 1 := by rw [← hA]; simp
      subst hA'
      have lt1 : A'.length + 1 < (A' ++ [y'] ++ v :: B ++ R).length := by simp
      have g1 : (A' ++ [y'] ++ v :: B ++ R)[A'.length + 1] = v := by
        have := ins_get (A := A' ++ [y']) (B := B) (R := R) (x := v)
        rw [show (A' ++ [y']).length = A'.length + 1 by simp, List.getElem?_eq_getElem lt1] at this
        exact Option.some.inj this
      have lt0 : A'.length < (A' ++ [y'] ++ v :: B ++ R).length := by omega
      have g0 : (A' ++ [y'] ++ v :: B ++ R)[A'.length] = y' := by
        have := ins_pre (A := A') (B := B) (R := R) (x := v) (y := y')
        rw [List.getElem?_eq_getElem lt0] at this
        exact Option.some.inj this
      rw [pBin_sub, w64 (by omega) (by omega), show ((A'.length + 1 : Nat) : Int) - 1 = (A'.length : Int) by omega]
      rw [pBin_sub, w64 (by omega) (by omega), show ((A'.length + 1 : Nat) : Int) - 1 = (A'.length : Int) by omega]
      refine (o3.vw q hsq).at1 (e := fun (x : ByteArray) => Value.string x) (fun _ => rfl) lt0 ?_
      refine (o3.vw q hsq).at1 (e := fun (x : ByteArray) => Value.string x) (fun _ => rfl) lt1 ?_
      rw [g0, g1]
      refine o3.setAt (a := y') q hsq (fun _ => rfl) (encS_plain _) lt1 rfl fun h4 o4 => ?_
      rw [List.set_set] at o4
      refine o4.setAt (a := v) q hsq (fun _ => rfl) (encS_plain _) (by rw [List.length_set]; exact lt0) rfl fun h5 o5 => ?_
      rw [List.set_set, ins_swap] at o5
      rw [pBin_sub, w64 (by omega) (by omega), show ((A'.length + 1 : Nat) : Int) - 1 = (A'.length : Int) by omega]
      refine hZ1 (_, ()) h5 A'.length (by omega) ⟨rfl, A', y' :: B, rfl, by simp, fun b hb => ?_, o5⟩
      rcases List.mem_cons.1 hb with rfl | hb
      · exact hvy
      · exact hB b hb
    · dsimp only at hy ⊢
      subst hy
      unfold sh_slices_insertionSortOrdered_string_C3
      rw [ifV_false]
      exact out h3 hall o3

theorem pdqB_string {q : Nat} {lim : Value} {xs : List ByteArray} (o : Own h0 h L) (hq : L[q]? = some (slR encS 1 T_string vd xs)) (hl : xs.length ≤ 12)
    (hK : ∀ ys h', ys.Perm xs → Srt ltS ys → Own h0 h' (L.set q (slR encS 1 T_string vd ys)) → K (.tuple #[]) h') : callS Tryz.prog F_slices_pdqsortOrdered_string [vd, I (0 : Nat), I xs.length, lim] h K := by
  refine callS_of (lk_slices_pdqsortOrdered_string _ _ _ _ ?_)
  unfold sh_slices_pdqsortOrdered_string
  refine LoopH_count 0 (fun _ x h' => x.1 = I (0 : Nat) ∧ x.2.1 = I xs.length ∧ h' = h) ⟨rfl, rfl, rfl⟩ ?_
  rintro i ⟨x, y, z, b1, b2, ⟨⟩⟩ h' Z hi ⟨hx, hy, rfl⟩ hZ
  dsimp only at hx hy ⊢
  subst hx hy
  unfold sh_slices_pdqsortOrdered_string_L1
  rw [pBin_sub, w64 (by omega) (by omega), pBin_leq, decide_eq_true (by omega), ifV_true]
  exact insB_string o hq (by omega) hK

theorem sortB_string {q : Nat} {xs : List ByteArray} (o : Own h0 h L) (hq : L[q]? = some (slR encS 1 T_string vd xs)) (hl : xs.length ≤ 12)
    (hK : ∀ ys h', ys.Perm xs → Srt ltS ys → Own h0 h' (L.set q (slR encS 1 T_string vd ys)) → K (.tuple #[]) h') : callS Tryz.prog F_slices_Sort_sl_string_string [vd] h K := by
  refine callS_of (lk_slices_Sort_sl_string_string _ ?_)
  unfold sh_slices_Sort_sl_string_string
  refine (o.vw q hq).len ?_
  rw [pConv_int, u64w (by omega) (by omega)]
  exact lenB_ok (by omega) fun z => pdqB_string o hq hl hK

/-- slices.Collect of what yields a row at a time. -/
theorem collectB_string {fv : Value} {Q : Heap → Prop} {σ : Type} {s0 : σ} {next : σ → List Value → σ → Prop} {stop : σ → Prop} (o : Own h0 h L) (hI : IterG Tryz.prog fv Q s0 next stop) (g : σ → List ByteArray) (g0 : g s0 = [])
    (hf : ∀ s x s', next s x s' → ∃ a, x = [Value.string a] ∧ g s' = g s ++ [a] ∧ (g s').length < 2 ^ 40) (hQ : ∀ (Rs : List Res) h', Own h0 h' (Rs ++ L) → Q h')
    (hK : ∀ w h' s, stop s → Own h0 h' (slR encS 1 T_string w (g s) :: L) → K w h') : callS Tryz.prog F_slices_Collect_string [fv] h K := by
  refine callS_of (lk_slices_Collect_string _ ?_)
  unfold sh_slices_Collect_string
  refine callS_of (lk_slices_AppendSeq_sl_string_string _ _ ?_)
  unfold sh_slices_AppendSeq_sl_string_string
  refine o.box fun s2 h1 o1 => ?_
  have o2 : Own h0 h1 (slR encS 1 T_string (.slice none 0 0) (g s0) :: cellR s2 [.slice none 0 0] T_sl_string :: L) := by
    rw [g0]; exact Own.nilS (enc := encS) (n := 1) (T := T_string) o1
  refine o2.range hI (fun s x s' hn => by obtain ⟨a, rfl, _⟩ := hf s x s' hn; rfl)
    (fun s Rs => ∃ w, Rs = slR encS 1 T_string w (g s) :: cellR s2 [w] T_sl_string :: L) (fun _ => False) (fun _ _ => False) ⟨_, rfl⟩ ?_ ?_ ?_ (fun _ _ h => h.elim) (fun _ _ _ h => h.elim)
  · rintro s Rs h' ⟨w, rfl⟩ o'
    exact hQ [_, _] h' o'
  · rintro M s x s' Rs Pr h' R hn ⟨w, rfl⟩ o' hN _ _
    obtain ⟨a, rfl, hg, hgl⟩ := hf s x s' hn
    dsimp only [valsOf]
    unfold sh_slices_AppendSeq_sl_string_string_B1
    refine o'.begin 0 rfl fun h4 o4 => ?_
    have o4 : Own h0 h4 (loopR _ _ :: markR _ :: slR encS 1 T_string w (g s) :: cellR s2 [w] T_sl_string :: (L ++ Pr)) := o4
    refine o4.load 3 rfl rfl ?_
    rw [hg, List.length_append] at hgl
    refine o4.app1 2 a rfl rfl (sizesOk_of rfl) (fun _ => rfl) encS_plain rfl (by decide) (by simp at hgl; omega) fun w' h5 o5 => ?_
    have hw' := o5.vw 2 rfl
    refine o5.st1 3 (cs' := [w']) rfl rfl rfl hw'.one hw'.plain fun h6 o6 => ?_
    refine hN _ h6 ⟨w', rfl⟩ ?_
    rw [hg]
    exact o6
  · rintro s h' Rs hs ⟨w, rfl⟩ o'
    refine o'.load 2 rfl rfl (o'.take1 0 rfl fun h10 o10 => hK w h10 s hs ?_)
    exact o10.tail.front 2 [0] (by decide) (by decide)

/-- slices.Sorted of what yields a row at a time. -/
theorem sortedB_string {fv : Value} {Q : Heap → Prop} {σ : Type} {s0 : σ} {next : σ → List Value → σ → Prop} {stop : σ → Prop} (o : Own h0 h L) (hI : IterG Tryz.prog fv Q s0 next stop) (g : σ → List ByteArray) (g0 : g s0 = [])
    (hf : ∀ s x s', next s x s' → ∃ a, x = [Value.string a] ∧ g s' = g s ++ [a] ∧ (g s').length < 2 ^ 40) (hQ : ∀ (Rs : List Res) h', Own h0 h' (Rs ++ L) → Q h') (hl : ∀ s, stop s → (g s).length ≤ 12)
    (hK : ∀ w h' s ys, stop s → ys.Perm (g s) → Srt ltS ys → Own h0 h' (slR encS 1 T_string w ys :: L) → K w h') : callS Tryz.prog F_slices_Sorted_string [fv] h K := by
  refine callS_of (lk_slices_Sorted_string _ ?_)
  unfold sh_slices_Sorted_string
  refine collectB_string o hI g g0 hf hQ fun w h1 s hs o1 => ?_
  exact sortB_string (q := 0) o1 rfl (hl s hs) fun ys h2 hp hsr o2 => hK w h2 s ys hs hp hsr o2

end
end Go.Proofs.YtdbkeklhjjlhbaaGreat

namespace Go.Proofs.YtdbkeklhjjlhbaaGreat
open Go Go.Mh
set_option linter.unusedVariables false

section
variable {h0 h : Heap} {L : List Res} {K : Value → Heap → Prop} {vd : Value}

theorem notT {K : Value → Prop} : pUn .not (.bool true) K = K (.bool false) := rfl
theorem notF {K : Value → Prop} : pUn .not (.bool false) K = K (.bool true) := rfl

theorem Keys_iter {es : Array MapEntry} {clock m b : Nat} {t : List (KM.Ent ByteArray)} (ht : KM.IMapL QS es clock t) :
    IterG Tryz.prog (.func (.func F_maps_Keys_disk_directory_string_int_1) #[] #[ptr b]) (fun h => hcell h ⟨b, 0, none⟩ = some (.map (some m)) ∧ h[m]? = some (.map es clock)) (σ := List (KM.Ent ByteArray)) []
      (fun s x s' => ∃ e ∈ t, e ∉ s ∧ x = [.string e.1] ∧ s' = s ++ [e] ∧ s'.length ≤ t.length) (fun s => (∀ e ∈ t, e ∈ s) ∧ (∀ e ∈ s, e ∈ t) ∧ s.Nodup) := by
  rintro yv h0 h Rs K J E ⟨l, rfl⟩ o hj hQ hY hK
  refine callF_of (l := [yieldV l, ptr b]) rfl (lk_maps_Keys_disk_directory_string_int_1 _ _ ?_)
  unfold sh_maps_Keys_disk_directory_string_int_1
  simp only [pLoad_ptr, (hQ _ _ _ hj o).1]
  refine o.rangeM (κ := ByteArray) (hQ _ _ _ hj o).2 fun r h1 o1 => ?_
  refine LoopH_down (fun k x h' => ∃ s Rs', k = t.length - s.length ∧ J s Rs' ∧ (∀ e ∈ s, e ∈ t) ∧ s.Nodup ∧ Own h0 h' (itR r m clock s :: Rs')) (k0 := t.length) ⟨[], Rs, rfl, hj, fun _ h => (by cases h), .nil, o1⟩ ?_
  clear o o1
  rintro k ⟨⟩ h2 Z ⟨s, Rs', rfl, hj', hs, hn, o⟩ hZ
  unfold sh_maps_Keys_disk_directory_string_int_1_L1
  have hq := hQ _ _ _ hj' o.tail
  refine o.nextM 0 rfl hq.2 ht hs (fun e he hne h3 o3 => ?_) fun hall => ?_
  · rw [pExt0, ifV_true]
    have hq3 := hQ _ _ _ hj' o3.tail
    have hn' : (s ++ [e]).Nodup := by
      rw [List.nodup_append]
      exact ⟨hn, by simp, fun a ha b hb hab => by rw [List.mem_singleton.1 hb] at hab; exact hne (hab ▸ ha)⟩
    have hs' : ∀ x ∈ s ++ [e], x ∈ t := fun x hx => by
      rcases List.mem_append.1 hx with hx | hx
      · exact hs x hx
      · rw [List.mem_singleton.1 hx]; exact he
    have hlen : (s ++ [e]).length ≤ t.length := by classical exact len_of_sub hn' hs'
    refine o3.entryM 0 rfl hq3.2 ht he ?_
    rw [pExt0]
    refine hY s [.string e.1] (s ++ [e]) Rs' [itR r m clock (s ++ [e])] h3 _ ⟨e, he, hne, rfl, rfl, hlen⟩ hj' o3.rot (fun Rs'' h4 hj4 o4 => ?_) fun Rs'' h4 hE o4 => ?_
    · rw [notT, ifV_false]
      have hl2 : (s ++ [e]).length = s.length + 1 := by simp
      exact hZ (show Vals [] from ()) h4 (t.length - (s ++ [e]).length) (by omega) ⟨s ++ [e], Rs'', rfl, hj4, hs', hn', Own.comm o4⟩
    · rw [notF, ifV_true]
      exact hK Rs'' h4 (.inr hE) o4.left
  · rw [pExt0, ifV_false]
    exact hK Rs' h2 (.inl ⟨s, ⟨hall, hs, hn⟩, hj'⟩) o.tail

theorem Values_iter {es : Array MapEntry} {clock m b : Nat} {t : List (KM.Ent ByteArray)} (ht : KM.IMapL QS es clock t) :
    IterG Tryz.prog (.func (.func F_maps_Values_disk_directory_string_int_1) #[] #[ptr b]) (fun h => hcell h ⟨b, 0, none⟩ = some (.map (some m)) ∧ h[m]? = some (.map es clock)) (σ := List (KM.Ent ByteArray)) []
      (fun s x s' => ∃ e ∈ t, e ∉ s ∧ x = [e.2.1] ∧ s' = s ++ [e] ∧ s'.length ≤ t.length) (fun s => (∀ e ∈ t, e ∈ s) ∧ (∀ e ∈ s, e ∈ t) ∧ s.Nodup) := by
  rintro yv h0 h Rs K J E ⟨l, rfl⟩ o hj hQ hY hK
  refine callF_of (l := [yieldV l, ptr b]) rfl (lk_maps_Values_disk_directory_string_int_1 _ _ ?_)
  unfold sh_maps_Values_disk_directory_string_int_1
  simp only [pLoad_ptr, (hQ _ _ _ hj o).1]
  refine o.rangeM (κ := ByteArray) (hQ _ _ _ hj o).2 fun r h1 o1 => ?_
  refine LoopH_down (fun k x h' => ∃ s Rs', k = t.length - s.length ∧ J s Rs' ∧ (∀ e ∈ s, e ∈ t) ∧ s.Nodup ∧ Own h0 h' (itR r m clock s :: Rs')) (k0 := t.length) ⟨[], Rs, rfl, hj, fun _ h => (by cases h), .nil, o1⟩ ?_
  clear o o1
  rintro k ⟨⟩ h2 Z ⟨s, Rs', rfl, hj', hs, hn, o⟩ hZ
  unfold sh_maps_Values_disk_directory_string_int_1_L1
  have hq := hQ _ _ _ hj' o.tail
  refine o.nextM 0 rfl hq.2 ht hs (fun e he hne h3 o3 => ?_) fun hall => ?_
  · rw [pExt0, ifV_true]
    have hq3 := hQ _ _ _ hj' o3.tail
    have hn' : (s ++ [e]).Nodup := by
      rw [List.nodup_append]
      exact ⟨hn, by simp, fun a ha b hb hab => by rw [List.mem_singleton.1 hb] at hab; exact hne (hab ▸ ha)⟩
    have hs' : ∀ x ∈ s ++ [e], x ∈ t := fun x hx => by
      rcases List.mem_append.1 hx with hx | hx
      · exact hs x hx
      · rw [List.mem_singleton.1 hx]; exact he
    have hlen : (s ++ [e]).length ≤ t.length := by classical exact len_of_sub hn' hs'
    refine o3.entryM 0 rfl hq3.2 ht he ?_
    rw [pExt1]
    refine hY s [e.2.1] (s ++ [e]) Rs' [itR r m clock (s ++ [e])] h3 _ ⟨e, he, hne, rfl, rfl, hlen⟩ hj' o3.rot (fun Rs'' h4 hj4 o4 => ?_) fun Rs'' h4 hE o4 => ?_
    · rw [notT, ifV_false]
      have hl2 : (s ++ [e]).length = s.length + 1 := by simp
      exact hZ (show Vals [] from ()) h4 (t.length - (s ++ [e]).length) (by omega) ⟨s ++ [e], Rs'', rfl, hj4, hs', hn', Own.comm o4⟩
    · rw [notF, ifV_true]
      exact hK Rs'' h4 (.inr hE) o4.left
  · rw [pExt0, ifV_false]
    exact hK Rs' h2 (.inl ⟨s, ⟨hall, hs, hn⟩, hj'⟩) o.tail

/-! ### Names -/

theorem indexS_ok {ys : List Nm} {p : Nm → Bool} {fv : Value} (H : Vw encS 1 h vd ys) (hl : ys.length < 2 ^ 40) (hf : ∀ a K', K' (.bool (p a)) h → callV Tryz.prog fv [.string a].toArray h K')
    (hK : ∀ z : Int, (0 ≤ z ↔ ∃ a ∈ ys, p a = true) → K (I z) h) : callS Tryz.prog F_slices_IndexFunc_sl_string_string [vd, fv] h K := by
  refine callS_of (lk_slices_IndexFunc_sl_string_string _ _ ?_)
  unfold sh_slices_IndexFunc_sl_string_string
  refine H.len ?_
  refine LoopH_count ys.length (fun i x h' => x.1 = I i ∧ h' = h ∧ ∀ j (hj : j < ys.length), j < i → p ys[j] = false) ⟨rfl, rfl, fun j hj h => by omega⟩ ?_
  rintro i ⟨x, ⟨⟩⟩ h' Z hi ⟨hx, rfl, hp⟩ hZ
  dsimp only at hx hZ ⊢
  subst hx
  unfold sh_slices_IndexFunc_sl_string_string_L1
  rw [pBin_lss, ifV_dec]
  refine ⟨fun hlt => ?_, fun hge => ?_⟩
  · have hi' : i < ys.length := by omega
    refine H.at1 (e := fun (x : Nm) => Value.string x) (fun _ => rfl) hi' ?_
    refine hf _ _ ?_
    cases hc : p ys[i] with
    | true => exact hK i ⟨fun _ => ⟨_, List.getElem_mem hi', hc⟩, fun _ => by omega⟩
    | false =>
      rw [ifV_false, pBin_add, wI i (by omega)]
      refine hZ (_, ()) _ hi' ⟨rfl, rfl, fun j hj hji => ?_⟩
      by_cases e : j = i
      · subst e; exact hc
      · exact hp j hj (by omega)
  · refine hK (-1) ⟨fun h => absurd h (by decide), fun ⟨a, ha, hpa⟩ => ?_⟩
    obtain ⟨j, hj, rfl⟩ := List.mem_iff_getElem.1 ha
    rw [hp j hj (by omega)] at hpa; cases hpa

theorem namesB_ok {ys : List Nm} (H : Vw encS 1 h vd ys) (hl : ys.length < 2 ^ 40) (hK : K (I (namesE ys)) h) : callS Tryz.prog F_disk_names [vd] h K := by
  refine callS_of (lk_disk_names _ ?_)
  unfold sh_disk_names
  refine callS_of (lk_slices_ContainsFunc_sl_string_string _ _ ?_)
  unfold sh_slices_ContainsFunc_sl_string_string
  refine indexS_ok (p := fun a => !okN a) H hl (fun a K' hk => ?_) fun z hz => ?_
  · refine callV_of (l := [.string a]) rfl (lk_disk_names_1 _ ?_)
    unfold sh_disk_names_1
    rw [pBin_eqlS]
    have e0 : a = (⟨#[]⟩ : ByteArray) ↔ a.size = 0 := by
      constructor
      · rintro rfl; rfl
      · intro h
        obtain ⟨d⟩ := a
        have : d = #[] := Array.eq_empty_of_size_eq_zero h
        rw [this]
    by_cases e : a.size = 0
    · rw [decide_eq_true (e0.2 e), ifV_true]
      have : okN a = false := by simp [okN, e]
      rw [this] at hk; exact hk
    · rw [decide_eq_false (fun h => e (e0.1 h)), ifV_false, pLenS_str, pBin_gtr]
      have : (!okN a) = decide ((16 : Int) < a.size) := by
        by_cases c : a.size ≤ 16
        · rw [show okN a = true from decide_eq_true ⟨by omega, c⟩, decide_eq_false (by omega)]; rfl
        · rw [show okN a = false from decide_eq_false fun h => c h.2, decide_eq_true (by omega)]; rfl
      rw [this] at hk; exact hk
  · rw [pBin_geq]
    have e : decide ((0 : Int) ≤ z) = !ys.all okN := by
      rw [Bool.eq_iff_iff, decide_eq_true_eq, hz]
      simp
    rw [e]
    unfold namesE at hK
    cases hc : ys.all okN with
    | true => rw [hc] at hK; exact hK
    | false => rw [hc] at hK; exact hK

/-! ### Bytes -/

def encW (w : Wr) : List Value := [I w.off, .string w.s]
theorem encW_plain (x : Wr) : ∀ u ∈ encW x, Mh.plainCell u = true := by intro u hu; simp [encW] at hu; rcases hu with rfl | rfl <;> rfl

theorem cloneB_byte {xs : List UInt8} {s : Value} (o : Own h0 h L) (H : Vw encB8 1 h s xs) (hl : xs.length ≤ 2 ^ 40) (hK : ∀ v' h', Own h0 h' (slR encB8 1 T_uint8 v' xs :: L) → K v' h') : callS Tryz.prog F_slices_Clone_sl_byte_byte [s] h K :=
  callS_of (lk_slices_Clone_sl_byte_byte _ (clone_gen o H (fun _ => rfl) encB8_plain rfl (by decide) (by omega) hK))
theorem cloneB_write {xs : List Wr} {s : Value} (o : Own h0 h L) (H : Vw encW 2 h s xs) (hl : xs.length ≤ 2 ^ 40) (hK : ∀ v' h', Own h0 h' (slR encW 2 T_disk_write v' xs :: L) → K v' h') : callS Tryz.prog F_slices_Clone_sl_disk_write_disk_write [s] h K :=
  callS_of (lk_slices_Clone_sl_disk_write_disk_write _ (clone_gen o H (fun _ => rfl) encW_plain rfl (by decide) (by omega) hK))

theorem putB_ok {v : Value} {b : List UInt8} {w : Wr} (o : Own h0 h L) (i : Nat) (hi : L[i]? = some (slR encB8 1 T_uint8 v b)) (hb : b.length ≤ 1048576) (hw : w.off + w.s.size ≤ 1048576)
    (hK : ∀ v' h', Own h0 h' (L.set i (slR encB8 1 T_uint8 v' (putW b w))) → K v' h') : callS Tryz.prog F_disk_put [v, .agg #[I w.off, .string w.s]] h K := by
  refine callS_of (lk_disk_put _ _ ?_)
  unfold sh_disk_put
  refine o.box fun w3 h1 o1 => ?_
  have o1 : Own h0 h1 (cellR w3 [I w.off, .string w.s] T_disk_write :: L) := o1
  rw [pField_ptr]
  refine o1.load 0 rfl rfl ?_
  rw [pField_ptr]
  refine o1.load 0 rfl rfl ?_
  rw [pLenS_str, pBin_add, w64 (by omega) (by omega)]
  refine (o1.vw (i + 1) hi).len ?_
  rw [pBin_sub, w64 (by omega) (by omega), pBin_gtr, ifV_dec]
  have fin : ∀ (v' : Value) (h' : Heap) (c : List UInt8), Own h0 h' (cellR w3 [I w.off, .string w.s] T_disk_write :: L.set i (slR encB8 1 T_uint8 v' c)) → w.off + w.s.size ≤ c.length → putL c w.off w.s.data.toList = putW b w → sh_disk_put_k1 Tryz.prog (ptr w3) K v' h' := by
    intro v' h' c o' hc he
    unfold sh_disk_put_k1
    rw [pField_ptr]
    refine o'.load 0 rfl rfl ?_
    refine o'.copyTo (i + 1) (set_get hi) (by omega) fun d hd => ?_
    rw [pField_ptr]
    refine o'.load 0 rfl rfl ?_
    refine hd w.s _ hc fun h2 o2 => ?_
    rw [List.set_cons_succ, List.set_set, he] at o2
    exact hK v' h2 o2.tail
  refine ⟨fun hgt => ?_, fun hle => ?_⟩
  · have hm : (w.off : Int) + w.s.size - b.length = ((w.off + w.s.size - b.length : Nat) : Int) := by omega
    rw [hm]
    refine o1.appZ (a := (0 : UInt8)) (i + 1) hi (fun _ => rfl) encB8_plain rfl (by decide) (by omega) fun v' h2 o2 => ?_
    rw [List.set_cons_succ] at o2
    exact fin v' h2 _ o2 (by simp; omega) rfl
  · refine fin v h1 b (by rw [setSame hi]; exact o1) (by omega) ?_
    unfold putW
    rw [show w.off + w.s.size - b.length = 0 by omega, List.replicate_zero, List.append_nil]

end
end Go.Proofs.YtdbkeklhjjlhbaaGreat

namespace Go.Proofs.YtdbkeklhjjlhbaaGreat
open Go Go.Mh
set_option linter.unusedVariables false

/-! ### What lies where -/

inductive Clo where
  | mk (b1 b2 : Nat)
  | ren (b1 b2 : Nat)
  | rem (b1 : Nat)
def clv : Clo → Value
  | .mk b1 b2 => .func (.func F_disk_Disk_Make_1_1) #[] #[ptr b1, ptr b2]
  | .ren b1 b2 => .func (.func F_disk_Disk_Rename_1_1) #[] #[ptr b1, ptr b2]
  | .rem b1 => .func (.func F_disk_Disk_Remove_1_1) #[] #[ptr b1]
def encC (x : Clo) : List Value := [clv x]
theorem clv_one (x : Clo) : (clv x).cells = #[clv x] := by cases x <;> rfl
theorem clv_plain (x : Clo) : Mh.plainCell (clv x) = true := by cases x <;> rfl
theorem encC_plain (x : Clo) : ∀ u ∈ encC x, Mh.plainCell u = true := by intro u hu; simp [encC] at hu; subst hu; exact clv_plain x

structure TC where
  n : Nat
  b : Nat
  dv : Value
  wv : Value
structure DC where
  dm : Nat
  nm : Nat
  tm : Nat
  pv : Value
  vs : List Clo
  tc : List TC

def tR3 (b : Nat) (dv wv : Value) (bs : List UInt8) (ws : List Wr) : List Res := [cellR b [dv, wv] T_disk_thing, slR encB8 1 T_uint8 dv bs, slR encW 2 T_disk_write wv ws]
def tRs (s : Dk) (x : TC) : List Res := tR3 x.b x.dv x.wv (bytesOf (s.getT x.n).syn) (s.getT x.n).pen
def dirF (D : Dir) (a : Nm) : Option Value := (dlook D a).map fun (n : Nat) => I (n : Int)
def thF (tc : List TC) (z : Int) : Option Value := (tc.find? fun x => decide ((x.n : Int) = z)).map fun x => ptr x.b
def dC (c : DC) (s : Dk) : List Value := [.map (some c.dm), .map (some c.nm), .map (some c.tm), c.pv, I s.th.length, I s.armed, .bool s.off]
def tsR (c : DC) (s : Dk) : List Res := c.tc.map fun x => sepR (tRs s x)
/-- A disk at d; L is what lies beside it. -/
def dL (d : Nat) (c : DC) (s : Dk) (L : List Res) : List Res :=
  cellR d (dC c s) T_disk_Disk :: kmapR QS c.dm (dirF (dirOf s.cs)) :: kmapR QS c.nm (dirF s.now) :: kmapR QI c.tm (thF c.tc) :: slR encC 1 T_disk_change c.pv c.vs :: sepR (tsR c s) :: L

abbrev Bx := List (Nat × List Value × TypeId)
/-- A change, as a function. -/
def chV (B : Bx) (v : Clo) : Ch → Prop
  | .mk a n => ∃ b1 b2, v = .mk b1 b2 ∧ (b1, [I n], T_int) ∈ B ∧ (b2, [.string a], T_string) ∈ B
  | .ren a b => ∃ b1 b2, v = .ren b1 b2 ∧ (b1, [.string a], T_string) ∈ B ∧ (b2, [.string b], T_string) ∈ B
  | .rem a => ∃ b1, v = .rem b1 ∧ (b1, [.string a], T_string) ∈ B

theorem chV_mono {B B' : Bx} (hB : ∀ x ∈ B, x ∈ B') {v : Clo} {c : Ch} (h : chV B v c) : chV B' v c := by
  cases c with
  | mk a n => obtain ⟨b1, b2, e, h1, h2⟩ := h; exact ⟨b1, b2, e, hB _ h1, hB _ h2⟩
  | ren a b => obtain ⟨b1, b2, e, h1, h2⟩ := h; exact ⟨b1, b2, e, hB _ h1, hB _ h2⟩
  | rem a => obtain ⟨b1, e, h1⟩ := h; exact ⟨b1, e, hB _ h1⟩

structure DOk (B : Bx) (c : DC) (s : Dk) : Prop where
  lv : c.vs.length = s.cp.length
  ch : ∀ (i : Nat) (v : Clo) (x : Ch), c.vs[i]? = some v → s.cp[i]? = some x → chV B v x
  nd : (c.tc.map (·.n)).Nodup
  lt : ∀ x ∈ c.tc, x.n < s.th.length
  dir : ∀ y ∈ dirOf s.cs, ∃ x ∈ c.tc, x.n = y.2
  num : ∀ a n, Ch.mk a n ∈ s.cp → ∃ x ∈ c.tc, x.n = n

theorem DOk.mono {B B' : Bx} {c : DC} {s : Dk} (H : DOk B c s) (hB : ∀ x ∈ B, x ∈ B') : DOk B' c s :=
  ⟨H.lv, fun i v x a b => chV_mono hB (H.ch i v x a b), H.nd, H.lt, H.dir, H.num⟩

section
variable {h0 h : Heap} {L : List Res} {K : Value → Heap → Prop} {d : Nat} {c : DC} {s : Dk} {B : Bx}

/-- A change is done to a directory. -/
theorem chDo {v : Clo} {x : Ch} {m i j : Nat} {D : Dir} (o : Own h0 h L) (hi : L[i]? = some (kmapR QS m (dirF D))) (hj : L[j]? = some (roR B)) (hne : i ≠ j) (hv : chV B v x)
    (hK : ∀ h', Own h0 h' (L.set i (kmapR QS m (dirF (app D x)))) → K (.tuple #[]) h') : callV Tryz.prog (clv v) [.map (some m)].toArray h K := by
  have get : ∀ {h' : Heap} {r : Res}, Own h0 h' (L.set i r) → ∀ {b off : Nat} {cs : List Value} {T : TypeId} {u : Value} {K' : Value → Prop}, (b, cs, T) ∈ B → cs[off]? = some u → K' u → pLoad h' (.pointer (some ⟨b, off, none⟩)) K' := fun o' _ _ _ _ _ _ hm hu hk =>
    o'.roLoad j (by rw [List.getElem?_set_ne hne]; exact hj) hm hu hk
  cases x with
  | mk a n =>
    obtain ⟨b1, b2, rfl, h1, h2⟩ := hv
    refine callV_of (l := [.map (some m), ptr b1, ptr b2]) rfl (lk_disk_Disk_Make_1_1 _ _ _ ?_)
    unfold sh_disk_Disk_Make_1_1
    refine o.roLoad j hj h2 rfl (o.roLoad j hj h1 rfl ?_)
    refine o.kput (Q := QS) (k := a) (f' := dirF (app D (.mk a n))) i hi (fun y => ?_) hK
    unfold dirF KM.fset app
    rw [dlook_set]
    split <;> rfl
  | ren a b =>
    obtain ⟨b1, b2, rfl, h1, h2⟩ := hv
    refine callV_of (l := [.map (some m), ptr b1, ptr b2]) rfl (lk_disk_Disk_Rename_1_1 _ _ _ ?_)
    unfold sh_disk_Disk_Rename_1_1
    refine o.roLoad j hj h1 rfl ?_
    refine o.klook (Q := QS) (k := a) (ok := false) i hi ?_
    refine o.roLoad j hj h1 rfl ?_
    refine o.kdel (Q := QS) (k := a) (f' := dirF (ddel D a)) i hi (fun y => ?_) fun h' o' => ?_
    · unfold dirF KM.fdel
      rw [dlook_del]
      split <;> rfl
    · refine get o' h2 rfl ?_
      refine o'.kput (Q := QS) (k := b) (f' := dirF (app D (.ren a b))) i (set_get hi) (fun y => ?_) fun h'' o'' => ?_
      · unfold dirF KM.fset app
        rw [dlook_set]
        split
        · cases dlook D a <;> rfl
        · rfl
      · rw [List.set_set] at o''
        exact hK h'' o''
  | rem a =>
    obtain ⟨b1, rfl, h1⟩ := hv
    refine callV_of (l := [.map (some m), ptr b1]) rfl (lk_disk_Disk_Remove_1_1 _ _ ?_)
    unfold sh_disk_Disk_Remove_1_1
    refine o.roLoad j hj h1 rfl ?_
    refine o.kdel (Q := QS) (k := a) (f' := dirF (app D (.rem a))) i hi (fun y => ?_) hK
    unfold dirF KM.fdel app
    rw [dlook_del]
    split <;> rfl

/-! ### All bytes of a thing -/

theorem seenB_ok {t : Nat} {dv wv : Value} {b : List UInt8} {ws : List Wr} (ht : h[t]? = some (.cells #[dv, wv] T_disk_thing (0, 0))) (Hd : Vw encB8 1 h dv b) (Hw : Vw encW 2 h wv ws)
    (hb : b.length ≤ 1048576) (hl : ws.length < 2 ^ 40) (hw : ∀ w ∈ ws, w.off + w.s.size ≤ 1048576) (hK : ∀ v h', Own h h' [slR encB8 1 T_uint8 v (ws.foldl putW b)] → K v h') : callS Tryz.prog F_disk_thing_seen [ptr t] h K := by
  refine callS_of (lk_disk_thing_seen _ ?_)
  unfold sh_disk_thing_seen
  have c0 : hcell h ⟨t, 0, none⟩ = some dv := hcell_of ht rfl
  have c1 : hcell h ⟨t, 1, none⟩ = some wv := hcell_of ht rfl
  rw [pNil_ptr, pField_ptr]
  simp only [Nat.add_zero, pLoad_ptr, c0]
  refine cloneB_byte (Own.start h) Hd (by omega) fun b3 h1 o1 => ?_
  rw [pNil_ptr, pField_ptr]
  have c1' := hcell_more o1.ext c1
  simp only [Nat.zero_add, pLoad_ptr, c1']
  refine (Hw.more o1.ext).len ?_
  have bnd : ∀ (l : List Wr) (b : List UInt8), b.length ≤ 1048576 → (∀ w ∈ l, w.off + w.s.size ≤ 1048576) → (l.foldl putW b).length ≤ 1048576 := by
    intro l
    induction l with
    | nil => intro b hb _; exact hb
    | cons w l ih =>
      intro b hb hw
      refine ih _ ?_ fun x hx => hw x (List.mem_cons_of_mem _ hx)
      have := hw w List.mem_cons_self
      rw [putW_len]; omega
  refine LoopH_count ws.length (fun i x h' => x.2.1 = I i ∧ Own h h' [slR encB8 1 T_uint8 x.1 ((ws.take i).foldl putW b)]) ⟨rfl, o1⟩ ?_
  clear o1 c1'
  rintro i ⟨y, x, ⟨⟩⟩ h2 Z hi ⟨hx, o⟩ hZ
  dsimp only at hx hZ o ⊢
  subst hx
  unfold sh_disk_thing_seen_L1
  rw [pBin_lss, ifV_dec]
  refine ⟨fun hlt => ?_, fun hge => ?_⟩
  · have hi' : i < ws.length := by omega
    refine (Hw.more o.ext).atN (fun _ => rfl) hi' ?_
    refine o.box fun w5 h3 o3 => ?_
    refine o3.st (l := encW ws[i]) (cs' := encW ws[i]) 0 rfl rfl rfl rfl rfl (fun u hu => encW_plain _ u hu) fun h4 o4 => ?_
    refine o4.ldN (cs' := encW ws[i]) 0 rfl rfl rfl ?_
    refine putB_ok (w := ws[i]) o4 1 rfl (bnd _ _ hb fun w hw' => hw w (List.mem_of_mem_take hw')) (hw _ (List.getElem_mem hi')) fun v' h5 o5 => ?_
    rw [pBin_add, wI i (by omega)]
    refine hZ (v', _, ()) h5 hi' ⟨rfl, ?_⟩
    rw [List.take_succ_eq_append_getElem hi', List.foldl_append]
    exact o5.tail
  · have : ws.take i = ws := List.take_of_length_le (by omega)
    rw [this] at o
    exact hK y h2 o

end
end Go.Proofs.YtdbkeklhjjlhbaaGreat
