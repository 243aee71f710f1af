/- Texts of the proofs of seat YtkeoponidgpfpaaGreatDoor, joined: HpH, HpI, HoA, FlA, FlB, FlC, FlD, BoA, BoB, RvA, BoC, BoD, Lw14, R14A. They have no conditions of their own. -/
import Derived.Test.YtkeoponidgpfpaaGreatDoorTa
import Derived.Test.YtkeoponidgpfpaaGreatDoorMc
import Derived.Test.YtkeoponidgpfpaaGreatDoorMd
set_option linter.unusedVariables false
set_option linter.unusedSimpArgs false

namespace Go.Proofs.YtkeoponidgpfpaaGreatDoor
open Go Go.Mh

theorem swapL_last {l : List HE} (hl : 0 < l.length) : swapL l 0 (l.length - 1) hl (by omega) = (swapL l 0 (l.length - 1) hl (by omega)).take (l.length - 1) ++ [l[0]] := by
  have hlen := swapL_length (l := l) hl (show l.length - 1 < l.length by omega)
  apply List.ext_getElem
  · simp [hlen]; omega
  · intro j h1 h2
    rw [hlen] at h1
    by_cases hj : j < l.length - 1
    · rw [List.getElem_append_left (by simp [hlen]; omega)]; simp
    · have : j = l.length - 1 := by omega
      subst this
      rw [swapL_get, if_pos rfl, List.getElem_append_right (by simp [hlen])]
      simp

theorem pos_del {l2 : List HE} {p : HE} (hn : ((l2 ++ [p]).map (·.1)).Nodup) (x : Int) : fdel (pos (l2 ++ [p])) p.1 x = pos l2 x := by
  unfold fdel
  by_cases hx : x = p.1
  · subst hx
    rw [if_pos rfl]
    refine (pos_none fun q hq e => ?_).symm
    rw [List.map_append, List.nodup_append] at hn
    exact hn.2.2 q.1 (List.mem_map.2 ⟨q, hq, rfl⟩) p.1 (by simp) e
  · rw [if_neg hx]
    unfold pos
    rw [List.findIdx?_append]
    have : [p].findIdx? (fun q => q.1 == x) = none := by
      rw [List.findIdx?_eq_none_iff]; intro q hq; simp at hq; subst hq; simpa using fun e => hx e.symm
    rw [this]; simp

theorem pop_ok {h : Heap} {F : Nat → Prop} {r : Nat} {l : List HE} {n : Int} {K : Value → Heap → Prop} (H : HV h F r l n)
    (h0 : l = [] → K (.tuple #[I 0, I 0, .bool false]) h)
    (h1 : ∀ p, Min l p → ∀ h' F' l', HV h' F' r l' n → l'.Perm (l.erase p) → Grow h F F' → Upd F h h' → K (.tuple #[I p.1, I p.2, .bool true]) h') :
    callS Tryz.prog F_heap_Heap_Pop [ptr r] h K := by
  refine callS_of (lk_heap_Heap_Pop _ ?_)
  unfold sh_heap_Heap_Pop
  refine len_ok H ?_
  obtain ⟨⟨m, bl, R, ho, f1, f2, f3⟩, hlow, hrg⟩ := H
  obtain ⟨v, hr, hs⟩ := R.slr
  obtain ⟨es, c, hm, him⟩ := R.map
  have c0 := hcell0 hr
  simp only [pBin_eql, ifV_beq, pNil_ptr, pField_ptr, pLoad_ptr, c0, Nat.zero_add]
  refine ⟨fun he => h0 (List.eq_nil_of_length_eq_zero (by omega)), fun he => ?_⟩
  have hl : 0 < l.length := by omega
  refine hs.idx (i := 0) (k := .i64) hl ?_
  simp only [pLoadN_ptr, Nat.zero_mul]
  have ca : cellsAt h bl 0 2 = some [I l[0].1, I l[0].2] := by
    obtain ⟨cap, rest, rfl, hb, _, _⟩ := hs.full hl
    have hlen := row_length encH_len l
    rw [cellsAt_of (i := 0) hb 2 0 (by simp [hlen]; omega)]
    have := row_slot encH_len hl rest
    rw [Nat.zero_mul] at this
    rw [this]; rfl
  simp only [ca]
  refine hs.lenK ?_
  have e1 : IntKind.i64.wrap ((l.length : Int) - 1) = ((l.length - 1 : Nat) : Int) := by
    have := R.small
    rw [w64 (by omega) (by omega)]; omega
  rw [pBin_sub, e1]
  refine pBox_of ?_
  refine pStore_of rfl push_new rfl (by simp) (by simp [Mh.plainCell]) ?_
  have x1 : Ext h (upd (h.push (.cells (Value.agg #[.int .i64 0, .int .i64 0]).cells T_heap_held (0, 0))) h.size (.cells (over [Value.int .i64 0, Value.int .i64 0] 0 (Value.agg [I l[0].1, I l[0].2].toArray).cells.toList).toArray T_heap_held (0, 0))) :=
    ((Upd.push _ _ _).trans (Upd.upd (S := fun b => b = h.size) _ _ rfl) (fun b hb hlt => by omega))
  have hf1 : (upd (h.push (.cells (Value.agg #[.int .i64 0, .int .i64 0]).cells T_heap_held (0, 0))) h.size (.cells (over [Value.int .i64 0, Value.int .i64 0] 0 (Value.agg [I l[0].1, I l[0].2].toArray).cells.toList).toArray T_heap_held (0, 0)))[h.size]? =
    some (.cells #[I l[0].1, I l[0].2] T_heap_held (0, 0)) := upd_self' push_new
  have hsz1 := get_lt hf1
  generalize (upd (h.push (.cells (Value.agg #[.int .i64 0, .int .i64 0]).cells T_heap_held (0, 0))) h.size (.cells (over [Value.int .i64 0, Value.int .i64 0] 0 (Value.agg [I l[0].1, I l[0].2].toArray).cells.toList).toArray T_heap_held (0, 0))) = hA at x1 hf1 hsz1
  have R1 := R.upd x1 id id id
  have hrA := x1.get hr
  have cA := hcell0 hrA
  simp only [cA, true_and]
  have hrs := hlow _ f1
  have hms := hlow _ f2
  have hbs := hlow _ f3
  refine swap_ok R1 (i := 0) (k := l.length - 1) hl (by omega) fun h2 R2 u2 => ?_
  obtain ⟨S, R2, hlen, hS, hnd, hperm, hgt⟩ : ∃ S : List HE, Rep h2 r m bl S n ∧ S.length = l.length ∧ S = S.take (l.length - 1) ++ [l[0]] ∧ (S.map (·.1)).Nodup ∧ S.Perm l ∧
      (∀ j, gt S j = if j = l.length - 1 then gt l 0 else if j = 0 then gt l (l.length - 1) else gt l j) :=
    ⟨_, R2, swapL_length _ _, swapL_last hl, R2.ids, swapL_perm _ _, swapL_gt _ _⟩
  obtain ⟨v2, hr2, hs2⟩ := R2.slr
  obtain ⟨es2, c2, hm2, him2⟩ := R2.map
  have d0 := hcell0 hr2
  have hf2 := u2.get hf1 (by omega)
  simp only [d0]
  refine hs2.pre encH_len (by rw [hlen]; omega) fun v3 hs3 => ?_
  have hcs3 : v3.cells.size = 1 ∧ (∀ u ∈ v3.cells.toList, Mh.plainCell u = true) ∧ v3.cells.toList = [v3] := by
    rcases hs3.len with ⟨_, _, rfl⟩; simp
  refine pStore_of rfl hr2 hcs3.1 (by rw [hcs3.1]; simp) hcs3.2.1 ?_
  have ec : over [v2, Value.map (some m), I n] 0 v3.cells.toList = [v3, Value.map (some m), I n] := by rw [hcs3.2.2]; rfl
  rw [ec]
  have u3 : Upd (fun b => b = r) h2 (upd h2 r (.cells [v3, Value.map (some m), I n].toArray tHeap (0, 0))) := Upd.upd _ _ rfl
  have hr3 : (upd h2 r (.cells [v3, Value.map (some m), I n].toArray tHeap (0, 0)))[r]? = _ := upd_self' hr2
  obtain ⟨hne1, hne2, hne3⟩ := R2.r_ne (by omega)
  have hm3 := u3.get hm2 (fun e => hne2 e.symm)
  have hs3' := hs3.upd u3 (fun e => hne1 e.symm)
  have hf3 := u3.get hf2 (by omega)
  generalize upd h2 r (.cells [v3, Value.map (some m), I n].toArray tHeap (0, 0)) = h3 at u3 hr3 hm3 hs3' hf3
  have g1 := hcell1 hr3
  have g2 := hcell0 hf3
  simp only [g1, g2, pField_ptr, pLoad_ptr, Nat.add_zero, Nat.zero_add]
  refine delete_of hm3 him2 fun es4 him4 => ?_
  have u4 : Upd (fun b => b = m) h3 (upd h3 m (.map es4 c2)) := Upd.upd _ _ rfl
  have hr4 := u4.get hr3 hne2
  have hm4 : (upd h3 m (.map es4 c2))[m]? = _ := upd_self' hm3
  have hs4 := hs3'.upd u4 hne3
  have hf4 := u4.get hf3 (by omega)
  generalize upd h3 m (.map es4 c2) = h4 at u4 hr4 hm4 hs4 hf4
  have hl2 : (S.take (l.length - 1)).length = l.length - 1 := by simp [hlen]
  have hpS : S.Perm (l[0] :: S.take (l.length - 1)) := by
    rw [hS]
    have : ((S.take (l.length - 1)) ++ [l[0]]).take (l.length - 1) = S.take (l.length - 1) := by rw [List.take_append_of_le_length (by rw [hl2]; exact Nat.le_refl _), List.take_take, Nat.min_self]
    rw [this]
    exact List.perm_append_comm
  have R4 : Rep h4 r m bl (S.take (l.length - 1)) n := by
    refine Rep.of hr4 hs4 hm4 (him4.congr fun x => ?_) ?_ (by rw [hl2]; have := R.small; omega)
    · have := pos_del (l2 := S.take (l.length - 1)) (p := l[0]) (by rw [← hS]; exact hnd) x
      rw [← hS] at this; exact this
    · have := (hpS.map (·.1)).nodup_iff.1 hnd
      rw [List.map_cons, List.nodup_cons] at this
      exact this.2
  have gtk : ∀ j, j < l.length - 1 → gt (S.take (l.length - 1)) j = gt S j := by
    intro j hj
    rw [← gt_eq (by rw [hl2]; exact hj), ← gt_eq (by rw [hlen]; omega)]
    simp
  have hbl4 : bl < h4.size := by
    have a := x1.size; have b := u2.size; have c := u3.size; have d := u4.size; omega
  have u14 : Upd F h h4 := (((x1.mono (S' := F) fun _ hf _ => hf.elim).trans u2 fun b hb _ => by rcases hb with rfl | rfl; exact f2; exact f3).trans u3 fun b hb _ => by subst hb; exact f1).trans u4 fun b hb _ => by subst hb; exact f2
  refine down_ok R4 (i := 0) (by decide) (by rcases Nat.eq_zero_or_pos (l.length - 1) with e | e; exact .inr (List.eq_nil_of_length_eq_zero (by rw [hl2]; exact e)); exact .inl (by rw [hl2]; exact e)) hbl4 ?_ fun h5 l5 R5 hp5 ho5 u5 => ?_
  · refine ⟨fun j j0 j1 j2 => ?_, fun i0 => absurd i0 (Nat.lt_irrefl 0)⟩
    rw [hl2] at j1
    have hj4 : (j - 1) / 4 < l.length - 1 := by omega
    rw [gtk j j1, gtk _ hj4, hgt, hgt, if_neg (by omega), if_neg (by omega), if_neg (by omega), if_neg (by omega)]
    exact ho j j0 (by omega)
  · have hf5 := u5.get hf4 (by omega)
    have k0 := hcell0 hf5
    have k1 := hcell1 hf5
    simp only [k0, k1, pField_ptr, pLoad_ptr, Nat.add_zero, Nat.zero_add]
    have u15 : Upd F h h5 := u14.trans u5 fun b hb _ => by rcases hb with rfl | rfl; exact f2; exact f3
    have hpe : l5.Perm (l.erase l[0]) := by
      have := (hperm.symm.trans hpS).erase l[0]
      simp only [List.erase_cons_head] at this
      exact hp5.trans this.symm
    refine h1 l[0] (ho.min hl) h5 F l5 ⟨⟨m, bl, R5, ho5, f1, f2, f3⟩, fun b hb => Nat.lt_of_lt_of_le (hlow b hb) u15.size, fun p hp => hrg p (List.mem_of_mem_erase (hpe.mem_iff.1 hp))⟩ hpe (fun b hb => .inl hb) u15

theorem pop_nil {h : Heap} {K : Value → Heap → Prop} (hK : K (.tuple #[I 0, I 0, .bool false]) h) : callS Tryz.prog F_heap_Heap_Pop [.pointer none] h K := by
  refine callS_of (lk_heap_Heap_Pop _ ?_)
  unfold sh_heap_Heap_Pop
  refine callS_of (lk_heap_Heap_Len _ ?_)
  unfold sh_heap_Heap_Len
  simpa using hK

end Go.Proofs.YtkeoponidgpfpaaGreatDoor

namespace Go.Proofs.YtkeoponidgpfpaaGreatDoor
open Go Go.Mh

instance (l : List HE) (p : HE) : Decidable (Min l p) := by unfold Min; exact inferInstance

/-- The same, where only what is held counts, not how it lies. -/
def PV (h : Heap) (F : Nat → Prop) (r : Nat) (L : List HE) (n : Int) : Prop := ∃ l, HV h F r l n ∧ l.Perm L

def Disj (F G : Nat → Prop) : Prop := ∀ b, F b → ¬ G b

section
variable {h h' : Heap} {F G S : Nat → Prop} {r : Nat} {L : List HE} {n id key : Int} {K : Value → Heap → Prop} {p : HE}

theorem PV.upd (H : PV h F r L n) (hu : Upd S h h') (hd : Disj F S) : PV h' F r L n := by
  obtain ⟨l, H, hp⟩ := H; exact ⟨l, H.upd hu hd, hp⟩
theorem PV.low (H : PV h F r L n) : ∀ b, F b → b < h.size := by obtain ⟨l, H, hp⟩ := H; exact H.low
theorem PV.rng (H : PV h F r L n) : ∀ p ∈ L, 0 ≤ p.1 ∧ p.1 < n := by obtain ⟨l, H, hp⟩ := H; exact fun p h => H.rng p (hp.mem_iff.2 h)
theorem PV.nodup (H : PV h F r L n) : (L.map (·.1)).Nodup := by obtain ⟨l, H, hp⟩ := H; exact (hp.map _).nodup_iff.1 H.nodup

theorem Min.perm {l l' : List HE} (hp : l.Perm l') (h : Min l p) : Min l' p := ⟨hp.mem_iff.1 h.1, fun q hq => h.2 q (hp.mem_iff.2 hq)⟩

theorem PV.perm {L' : List HE} (H : PV h F r L n) (hp : L.Perm L') : PV h F r L' n := by
  obtain ⟨l, H, hp'⟩ := H; exact ⟨l, H, hp'.trans hp⟩

theorem plen (H : PV h F r L n) (hK : K (I L.length) h) : callS Tryz.prog F_heap_Heap_Len [ptr r] h K := by
  obtain ⟨l, H, hp⟩ := H; exact len_ok H (by rw [hp.length_eq]; exact hK)
theorem pleast (H : PV h F r L n) (h0 : L = [] → K (.tuple #[I 0, .bool false]) h) (h1 : ∀ p, Min L p → K (.tuple #[I p.2, .bool true]) h) : callS Tryz.prog F_heap_Heap_Least [ptr r] h K := by
  obtain ⟨l, H, hp⟩ := H
  exact least_ok H (fun e => h0 (by subst e; exact hp.nil_eq.symm)) fun p hm => h1 p (hm.perm hp)
theorem pkey (H : PV h F r L n) (h0 : (∀ p ∈ L, p.1 ≠ id) → K (.tuple #[I 0, .bool false]) h) (h1 : ∀ p ∈ L, p.1 = id → K (.tuple #[I p.2, .bool true]) h) : callS Tryz.prog F_heap_Heap_Key [ptr r, I id] h K := by
  obtain ⟨l, H, hp⟩ := H
  exact key_ok H (fun e => h0 fun p hm => e p (hp.mem_iff.2 hm)) fun p hm => h1 p (hp.mem_iff.1 hm)
theorem pnew (hK : ∀ h' F r, PV h' F r [] (max n 0) → (∀ b, F b → h.size ≤ b) → Ext h h' → K (ptr r) h') : callS Tryz.prog F_heap_New [I n] h K :=
  new_ok fun h' F r H a b => hK h' F r ⟨[], H, .refl _⟩ a b
theorem ppush (H : PV h F r L n) (hsm : L.length + 1 < 2 ^ 40)
    (h2 : ((∃ p ∈ L, p.1 = id) ∨ id < 0 ∨ n ≤ id) → K (I 2) h)
    (h0 : (∀ p ∈ L, p.1 ≠ id) → 0 ≤ id → id < n → ∀ h' F', PV h' F' r ((id, key) :: L) n → Grow h F F' → Upd F h h' → K (I 0) h') :
    callS Tryz.prog F_heap_Heap_Push [ptr r, I id, I key] h K := by
  obtain ⟨l, H, hp⟩ := H
  refine push_ok H (by rw [hp.length_eq]; exact hsm) (fun e => h2 ?_) fun hno a b h' F' l' H' hp' hg hu => h0 (fun p hm => hno p (hp.mem_iff.2 hm)) a b h' F' ⟨l', H', hp'.trans (hp.cons _)⟩ hg hu
  rcases e with ⟨p, hm, e⟩ | e
  · exact .inl ⟨p, hp.mem_iff.1 hm, e⟩
  · exact .inr e
theorem ppush0 (H : PV h F r L n) (hsm : L.length + 1 < 2 ^ 40) (hno : ∀ p ∈ L, p.1 ≠ id) (h1 : 0 ≤ id) (h2 : id < n)
    (h0 : ∀ h' F', PV h' F' r ((id, key) :: L) n → Grow h F F' → Upd F h h' → K (I 0) h') : callS Tryz.prog F_heap_Heap_Push [ptr r, I id, I key] h K :=
  ppush H hsm (fun e => by
    rcases e with ⟨p, hm, e⟩ | e
    · exact (hno p hm e).elim
    · omega) fun _ _ _ => h0
theorem ppush2 (H : PV h F r L n) (hsm : L.length + 1 < 2 ^ 40) (hno : (∃ p ∈ L, p.1 = id) ∨ id < 0 ∨ n ≤ id) (h2 : K (I 2) h) : callS Tryz.prog F_heap_Heap_Push [ptr r, I id, I key] h K :=
  ppush H hsm (fun _ => h2) fun hn a b => by
    rcases hno with ⟨p, hm, e⟩ | e
    · exact (hn p hm e).elim
    · omega
theorem plower (H : PV h F r L n)
    (h2 : (id < 0 ∨ n ≤ id) → K (I 2) h) (h20 : 0 ≤ id → id < n → (∀ p ∈ L, p.1 ≠ id) → K (I 20) h) (h2' : ∀ p ∈ L, p.1 = id → p.2 < key → K (I 2) h)
    (h0 : ∀ p ∈ L, p.1 = id → ¬ p.2 < key → ∀ h' F', PV h' F' r ((id, key) :: L.erase p) n → Grow h F F' → Upd F h h' → K (I 0) h') :
    callS Tryz.prog F_heap_Heap_Lower [ptr r, I id, I key] h K := by
  obtain ⟨l, H, hp⟩ := H
  exact lower_ok H h2 (fun a b e => h20 a b fun p hm => e p (hp.mem_iff.2 hm)) (fun p hm => h2' p (hp.mem_iff.1 hm)) fun p hm e hk h' F' l' H' hp' hg hu =>
    h0 p (hp.mem_iff.1 hm) e hk h' F' ⟨l', H', hp'.trans ((hp.erase p).cons _)⟩ hg hu
theorem id_uniq (hn : (L.map (·.1)).Nodup) {q : HE} (hp : p ∈ L) (hq : q ∈ L) (he : p.1 = q.1) : p = q := by
  obtain ⟨i, hi, rfl⟩ := List.mem_iff_getElem.1 hp
  obtain ⟨j, hj, rfl⟩ := List.mem_iff_getElem.1 hq
  have := ids_inj hn hi hj he
  subst this; rfl
theorem plower0 (H : PV h F r L n) (hp : p ∈ L) (he : p.1 = id) (hk : ¬ p.2 < key)
    (h0 : ∀ h' F', PV h' F' r ((id, key) :: L.erase p) n → Grow h F F' → Upd F h h' → K (I 0) h') : callS Tryz.prog F_heap_Heap_Lower [ptr r, I id, I key] h K := by
  have hr := H.rng p hp
  refine plower H (fun e => by omega) (fun _ _ e => (e p hp he).elim) (fun q hq e hk' => ?_) fun q hq e hk' => ?_
  · have := id_uniq H.nodup hp hq (he.trans e.symm); subst this; exact (hk hk').elim
  · have := id_uniq H.nodup hp hq (he.trans e.symm); subst this; exact h0
theorem plower2 (H : PV h F r L n) (hp : (∃ p ∈ L, p.1 = id ∧ p.2 < key) ∨ id < 0 ∨ n ≤ id) (h2 : K (I 2) h) : callS Tryz.prog F_heap_Heap_Lower [ptr r, I id, I key] h K := by
  refine plower H (fun _ => h2) (fun a b e => ?_) (fun _ _ _ _ => h2) fun q hq e hk' => ?_
  · rcases hp with ⟨p, hm, e', _⟩ | e'
    · exact (e p hm e').elim
    · omega
  · rcases hp with ⟨p, hm, e', hk⟩ | e'
    · have := id_uniq H.nodup hm hq (e'.trans e.symm); subst this; exact (hk' hk).elim
    · have := H.rng q hq; omega
theorem plower20 (H : PV h F r L n) (h1 : 0 ≤ id) (h2 : id < n) (hp : ∀ p ∈ L, p.1 ≠ id) (hK : K (I 20) h) : callS Tryz.prog F_heap_Heap_Lower [ptr r, I id, I key] h K :=
  plower H (fun _ => by omega) (fun _ _ _ => hK) (fun q hq e => (hp q hq e).elim) fun q hq e => (hp q hq e).elim
theorem ppop (H : PV h F r L n) (h0 : L = [] → K (.tuple #[I 0, I 0, .bool false]) h)
    (h1 : ∀ p, Min L p → ∀ h' F', PV h' F' r (L.erase p) n → Grow h F F' → Upd F h h' → K (.tuple #[I p.1, I p.2, .bool true]) h') : callS Tryz.prog F_heap_Heap_Pop [ptr r] h K := by
  obtain ⟨l, H, hp⟩ := H
  exact pop_ok H (fun e => h0 (by subst e; exact hp.nil_eq.symm)) fun p hm h' F' l' H' hp' hg hu => h1 p (hm.perm hp) h' F' ⟨l', H', hp'.trans (hp.erase p)⟩ hg hu
theorem ppop1 (H : PV h F r L n) (hm : Min L p) (h1 : ∀ h' F', PV h' F' r (L.erase p) n → Grow h F F' → Upd F h h' → K (.tuple #[I p.1, I p.2, .bool true]) h') : callS Tryz.prog F_heap_Heap_Pop [ptr r] h K :=
  ppop H (fun e => by subst e; simp [Min] at hm) fun q hq => by
    have := hq.uniq hm (.refl _); subst this; exact h1

theorem Disj.step {F' : Nat → Prop} (d : Disj F G) (hg : Grow h F F') (hl : ∀ b, G b → b < h.size) : Disj F' G := fun b hb hG => by
  rcases hg b hb with hb | hb
  · exact d b hb hG
  · have := hl b hG; omega
theorem Disj.symm (d : Disj F G) : Disj G F := fun b h1 h2 => d b h2 h1
end

end Go.Proofs.YtkeoponidgpfpaaGreatDoor

namespace Go.Proofs.YtkeoponidgpfpaaGreatDoor
open Go Go.Mh
set_option linter.unusedVariables false

/-! ### A heap as a part of memory -/

theorem Rep.st {h h' : Heap} {r m bl : Nat} {l : List HE} {n : Int} (H : Rep h r m bl l n) (h1 : h'[r]? = h[r]?) (h2 : h'[m]? = h[m]?) (h3 : h'[bl]? = h[bl]?) : Rep h' r m bl l n := by
  obtain ⟨⟨sl, cap, rest, hr, hs⟩, ⟨es, c, hm, hi⟩, hn, hsm⟩ := H
  refine ⟨⟨sl, cap, rest, h1.trans hr, ?_⟩, ⟨es, c, h2.trans hm, hi⟩, hn, hsm⟩
  rcases hs with hs | ⟨a, b, c, d⟩
  · exact .inl hs
  · exact .inr ⟨a, h3.trans b, c, d⟩

def hpR (F : Nat → Prop) (r : Nat) (H : List HE) (n : Nat) : Res := ⟨F, fun h => ∃ l, (∃ m bl, Rep h r m bl l n ∧ HeapOrd l ∧ F r ∧ F m ∧ F bl) ∧ (∀ p ∈ l, 0 ≤ p.1 ∧ p.1 < n) ∧ l.Perm H, fun hs ⟨l, ⟨m, bl, R, ho, f1, f2, f3⟩, hr, hp⟩ =>
  ⟨l, ⟨m, bl, R.st (hs _ f1) (hs _ f2) (hs _ f3), ho, f1, f2, f3⟩, hr, hp⟩⟩

theorem PV.toR {h : Heap} {F : Nat → Prop} {r : Nat} {H : List HE} {n : Nat} (P : PV h F r H n) : (hpR F r H n).Q h := by
  obtain ⟨l, ⟨a, b, c⟩, d⟩ := P; exact ⟨l, a, c, d⟩

section
variable {h0 h : Heap} {L : List Res} {F : Nat → Prop} {r n : Nat} {H : List HE} {id key : Int} {K : Value → Heap → Prop}

theorem own_pv (o : Own h0 h L) (i : Nat) (hi : L[i]? = some (hpR F r H n)) : PV h F r H n := by
  obtain ⟨l, a, c, d⟩ := o.get i hi
  exact ⟨l, ⟨a, fun b hb => ((o.q hi).2 b hb).2, c⟩, d⟩

theorem min_iff {p : HE} : Min H p ↔ p ∈ H ∧ ∀ q ∈ H, ¬ hl q p = true := by
  unfold Min
  have : ∀ q : HE, hlt q p = hl q p := fun q => by
    have h1 := @hlt_iff q p
    have h2 := @hl_iff q p
    by_cases hx : hl q p = true
    · rw [hx]; exact h1.2 (h2.1 hx)
    · simp at hx; rw [hx]
      by_cases hy : hlt q p = true
      · rw [h2.2 (h1.1 hy)] at hx; cases hx
      · simpa using hy
  simp only [this]

theorem least_min {p : HE} (h : least H = some p) : Min H p := min_iff.2 (least_spec h)

theorem ho_new (o : Own h0 h L) (hK : ∀ F r h', Own h0 h' (hpR F r [] n :: L) → K (ptr r) h') : callS Tryz.prog F_heap_New [I n] h K := by
  refine pnew fun h' F r P hF x => hK F r h' (o.cons x ?_ fun b hb => ⟨hF b hb, P.low b hb⟩)
  rw [show max (n : Int) 0 = n by omega] at P
  exact P.toR

theorem own_hp {h' : Heap} {F' : Nat → Prop} {H' : List HE} (o : Own h0 h L) (i : Nat) (hi : L[i]? = some (hpR F r H n)) (P : PV h' F' r H' n) (g : Grow h F F') (u : Upd F h h') : Own h0 h' (L.set i (hpR F' r H' n)) :=
  o.set i hi u P.toR fun b hb => ⟨g b hb, P.low b hb⟩

theorem ho_push (o : Own h0 h L) (i : Nat) (hi : L[i]? = some (hpR F r H n)) (hsm : H.length + 1 < 2 ^ 40) {v : Nat} (hno : ∀ p ∈ H, p.1 ≠ v) (hv : v < n)
    (hK : ∀ F' h', Own h0 h' (L.set i (hpR F' r (((v : Int), key) :: H) n)) → K (I 0) h') : callS Tryz.prog F_heap_Heap_Push [ptr r, I v, I key] h K :=
  ppush0 (own_pv o i hi) hsm hno (by omega) (by omega) fun h' F' P g u => hK F' h' (own_hp o i hi P g u)

theorem ho_lower (o : Own h0 h L) (i : Nat) (hi : L[i]? = some (hpR F r H n)) {v : Nat} {was : Int} (hm : ((v : Int), was) ∈ H) (hk : ¬ was < key)
    (hK : ∀ F' h', Own h0 h' (L.set i (hpR F' r (((v : Int), key) :: H.erase ((v : Int), was)) n)) → K (I 0) h') : callS Tryz.prog F_heap_Heap_Lower [ptr r, I v, I key] h K :=
  plower0 (own_pv o i hi) hm rfl hk fun h' F' P g u => hK F' h' (own_hp o i hi P g u)

theorem ho_key (o : Own h0 h L) (i : Nat) (hi : L[i]? = some (hpR F r H n)) {v : Nat}
    (hK : K (.tuple #[I ((lookH H v).getD 0), .bool (lookH H v).isSome]) h) : callS Tryz.prog F_heap_Heap_Key [ptr r, I v] h K := by
  have P := own_pv o i hi
  refine pkey P (fun hno => ?_) fun p hp e => ?_
  · have : lookH H v = none := lookH_none.2 hno
    rw [this] at hK; exact hK
  · cases hl : lookH H v with
    | none => exact absurd e (lookH_none.1 hl p hp)
    | some k =>
      have hm := lookH_some hl
      have := id_uniq P.nodup hp hm e
      subst this
      rw [hl] at hK; exact hK

theorem ho_least (o : Own h0 h L) (i : Nat) (hi : L[i]? = some (hpR F r H n)) (hz : least H = none → K (.tuple #[I 0, .bool false]) h) (hK : ∀ p, least H = some p → K (.tuple #[I p.2, .bool true]) h) :
    callS Tryz.prog F_heap_Heap_Least [ptr r] h K := by
  cases hl : least H with
  | none =>
    have e := least_none.1 hl
    subst e
    exact pleast (own_pv o i hi) (fun _ => hz hl) fun p hm => by simp [Min] at hm
  | some p =>
    refine pleast (own_pv o i hi) (fun e => by rw [e] at hl; cases hl) fun q hm => ?_
    have := Min.uniq (least_min hl) hm (.refl _)
    subst this
    exact hK _ hl

theorem ho_pop (o : Own h0 h L) (i : Nat) (hi : L[i]? = some (hpR F r H n)) (hz : least H = none → ∀ h', Own h0 h' L → K (.tuple #[I 0, I 0, .bool false]) h')
    (hK : ∀ p, least H = some p → ∀ F' h', Own h0 h' (L.set i (hpR F' r (H.erase p) n)) → K (.tuple #[I p.1, I p.2, .bool true]) h') : callS Tryz.prog F_heap_Heap_Pop [ptr r] h K := by
  cases hl : least H with
  | none =>
    have e := least_none.1 hl
    subst e
    exact ppop (own_pv o i hi) (fun _ => hz hl h o) fun p hm => by simp [Min] at hm
  | some p => exact ppop1 (own_pv o i hi) (least_min hl) fun h' F' P g u => hK p hl F' h' (own_hp o i hi P g u)

end
end Go.Proofs.YtkeoponidgpfpaaGreatDoor

namespace Go.Proofs.YtkeoponidgpfpaaGreatDoor
open Go Go.Mh
set_option linter.unusedVariables false

section
variable {h0 h : Heap} {L : List Res} {K : Value → Heap → Prop} {g : G} {r : Nat}

theorem from1_end : EndF (.func (.func F_flood_From_1) #[] #[]) A.t := by
  intro a h K hK
  refine callV_of (l := [.agg (encA a).toArray]) rfl (lk_flood_From_1 _ ?_)
  unfold sh_flood_From_1
  refine (Own.start h).box fun b h1 o1 => ?_
  simp only [pField_ptr]
  exact o1.load 0 rfl rfl (hK _ o1.ext)
theorem farcs_iter {l4 n3 e5 : Nat} {vl endv : Value} {ids : List Nat} {head : A → Nat} {T1 T2 T3 : TypeId} (hids : ∀ i ∈ ids, i < g.arcs.length) (hmany : ids.length < 2 ^ 40) (hE : EndF endv head) :
    Iter Tryz.prog (.func (.func F_flood_arcs_1) #[] #[ptr l4, ptr n3, ptr e5])
      (fun h => h[l4]? = some (.cells #[vl] T1 (0, 0)) ∧ h[n3]? = some (.cells #[ptr r] T2 (0, 0)) ∧ h[e5]? = some (.cells #[endv] T3 (0, 0)) ∧ Vw encN 1 h vl ids ∧ NetR h r g) ids.length
      (fun i hi => [I ids[i], vA ⟨0, head (arcAt g.arcs ids[i]), (arcAt g.arcs ids[i]).w⟩]) := by
  rintro yv h0 h Rs K J E ⟨l, rfl⟩ o j0 hQ hY hK
  refine callF_of (l := [yieldV l, ptr l4, ptr n3, ptr e5]) rfl (lk_flood_arcs_1 _ _ _ _ ?_)
  unfold sh_flood_arcs_1
  obtain ⟨hb, _, _, hv, _⟩ := hQ _ _ _ j0 o
  have hc : hcell h ⟨l4, 0, none⟩ = some vl := hcell_of hb rfl
  simp only [pLoad_ptr, hc]
  refine hv.len ?_
  refine LoopH_count ids.length (fun i x h' => x.1 = I i ∧ ∃ Rs', J i Rs' ∧ Own h0 h' Rs') ⟨rfl, Rs, j0, o⟩ ?_
  rintro i ⟨x, ⟨⟩⟩ h Z hi ⟨hx, Rs', hj, o⟩ hZ
  dsimp only at hx hZ ⊢
  subst hx
  unfold sh_flood_arcs_1_L1
  simp only [pBin_lss, ifV_dec]
  refine ⟨fun hlt => ?_, fun hge => ?_⟩
  · have hlt : i < ids.length := by omega
    obtain ⟨_, hn, he, hv, hN⟩ := hQ _ _ _ hj o
    refine hv.at1 (e := fun x : Nat => I x) (fun _ => rfl) hlt ?_
    have hc : hcell h ⟨n3, 0, none⟩ = some (ptr r) := hcell_of hn rfl
    simp only [pLoad_ptr, hc]
    have hil := hids _ (List.getElem_mem hlt)
    refine arc_ok hN hil fun h1 x1 => ?_
    have ea : arcAt g.arcs ids[i] = g.arcs[ids[i]] := by simp [arcAt, hil]
    have o1 := o.more x1
    simp only [pExt0, pExt1]
    refine o1.box fun b h2 o2 => o2.st 0 rfl rfl rfl rfl rfl (encA_plain _) fun h3 o3 => ?_
    obtain ⟨_, _, he3, _, _⟩ := hQ _ _ _ hj o3.tail
    have hc : hcell h3 ⟨e5, 0, none⟩ = some endv := hcell_of he3 rfl
    simp only [pLoad_ptr, hc, pField_ptr]
    refine o3.ldN 0 rfl rfl rfl ?_
    have hl := fun {K} (hk : K (I (g.arcs[ids[i]]).w)) => o3.load (off := 2) (K := K) 0 rfl rfl hk
    simp only [pLoad_ptr] at hl
    refine hl (hE _ _ _ fun h4 x4 => ?_)
    have o4 := o3.more x4
    refine ⟨o4.load 0 rfl rfl rfl, sizesOk_of rfl, ?_⟩
    rw [← ea]
    refine hY i _ (i + 1) Rs' [] h4 _ ⟨⟨hlt, rfl⟩, rfl⟩ hj o4.tail.nilTail (fun Rs'' h'' hj' o' => ?_) fun Rs'' h'' he o' => ?_
    · rw [pUn_not, Bool.not_true, ifV_false, pBin_add, wI i (by omega)]
      exact hZ (I (i + 1 : Nat), ()) h'' hlt ⟨rfl, Rs'', hj', o'.toNil⟩
    · rw [pUn_not, Bool.not_false, ifV_true]
      exact hK _ _ (.inr he) o'.toNil
  · have : i = ids.length := by omega
    exact hK _ _ (.inl ⟨i, this, hj⟩) o

/-- Who is closed, as the program keeps it. -/
def clo (order : List Nat) : Int → Option Value := fun k => if order.any (fun v => (v : Int) == k) then some (I 1) else none
theorem clo_in {order : List Nat} {v : Nat} (h : v ∈ order) : clo order v = some (I 1) := by
  have : order.any (fun u => (u : Int) == (v : Int)) = true := List.any_eq_true.2 ⟨v, h, by simp⟩
  simp [clo, this]
theorem clo_out {order : List Nat} {v : Nat} (h : v ∉ order) : clo order v = none := by
  have : order.any (fun u => (u : Int) == (v : Int)) = false := by
    simp only [List.any_eq_false, beq_iff_eq]
    intro u hu e
    have : u = v := by omega
    exact h (this ▸ hu)
  simp [clo, this]
theorem clo_add {order : List Nat} {v : Nat} (x : Int) : clo (order ++ [v]) x = fset (clo order) v (I 1) x := by
  unfold fset
  by_cases h : x = v
  · subst h; rw [if_pos rfl, clo_in (by simp)]
  · rw [if_neg h]
    have : ((v : Int) == x) = false := by simpa using fun e => h e.symm
    simp [clo, this]

theorem set_set_same {α : Type} {l : List α} {i j : Nat} {a b : α} (hi : l[i]? = some a) (hj : l[j]? = some b) : (l.set i a).set j b = l := by
  have e1 : l.set i a = l := by
    apply List.ext_getElem?
    intro k
    by_cases e : i = k
    · subst e; rw [List.getElem?_set_self (List.getElem?_eq_some_iff.1 hi).1, hi]
    · rw [List.getElem?_set_ne e]
  rw [e1]
  apply List.ext_getElem?
  intro k
  by_cases e : j = k
  · subst e; rw [List.getElem?_set_self (List.getElem?_eq_some_iff.1 hj).1, hj]
  · rw [List.getElem?_set_ne e]

theorem reach_ok {rr hp n m : Nat} {F : Nat → Prop} {sd sa so : Value} {s : FS} {B : Int} {v a : Nat} {d : Int} (o : Own h0 h L) (i1 i2 i3 i4 : Nat)
    (h1 : L[i1]? = some (cellR rr [ptr hp, sd, sa, so, .map (some m)] T_flood_run)) (h2 : L[i2]? = some (hpR F hp s.hp n)) (h3 : L[i3]? = some (slR encI 1 T_int sa s.arc)) (h4 : L[i4]? = some (mapR m (clo s.order)))
    (n12 : i2 ≠ i1) (n23 : i2 ≠ i3) (n24 : i2 ≠ i4) (inv : FInv n B s) (hn : n ≤ 16777216) (hv : v < n)
    (hK : ∀ F' h', Own h0 h' ((L.set i2 (hpR F' hp (s.reach v a d).hp n)).set i3 (slR encI 1 T_int sa (s.reach v a d).arc)) → K (.tuple #[]) h') :
    callS Tryz.prog F_flood_run_reach [ptr rr, I v, I a, I d] h K := by
  refine callS_of (lk_flood_run_reach _ _ _ _ ?_)
  unfold sh_flood_run_reach
  simp only [pNil_ptr, pField_ptr]
  refine o.load i1 h1 rfl (ho_key o i2 h2 ?_)
  simp only [pExt0, pExt1]
  refine o.load i1 h1 rfl ?_
  refine o.look i4 h4 ?_
  simp only [Bool.false_eq_true, if_false]
  have hlen : s.hp.length ≤ n := by
    have : (s.hp.map (·.1.toNat)).length ≤ n := nodup_le (by
      have : s.hp.map (·.1.toNat) = (s.hp.map (·.1)).map Int.toNat := by simp
      rw [this, List.nodup_iff_pairwise_ne, List.pairwise_map]
      refine (List.nodup_iff_pairwise_ne.1 inv.ids).imp_of_mem fun {x y} hx hy hne e => hne ?_
      obtain ⟨p, hp, rfl⟩ := List.mem_map.1 hx
      obtain ⟨q, hq, rfl⟩ := List.mem_map.1 hy
      obtain ⟨u, e1, _⟩ := inv.ent p hp
      obtain ⟨w, e2, _⟩ := inv.ent q hq
      rw [e1, e2] at e ⊢
      have e' : u = w := by simpa using e
      rw [e']) (fun x hx => by
      obtain ⟨p, hp, rfl⟩ := List.mem_map.1 hx
      obtain ⟨u, e1, e2, _⟩ := inv.ent p hp
      rw [e1]; simpa using e2)
    simpa using this
  by_cases hc : v ∈ s.order
  · rw [clo_in hc]
    simp only [Option.getD_some]
    have : s.reach v a d = s := by simp [FS.reach, hc]
    rw [this, ] at hK
    have hk := fun h => hK F h
    rw [set_set_same h2 h3] at hk
    simpa using hk h o
  · rw [clo_out hc]
    simp only [Option.getD_none, pBin_gtr, ifV_dec]
    refine ⟨fun e => by omega, fun _ => ?_⟩
    cases hl : lookH s.hp v with
    | some was =>
      simp only [Option.isSome_some, ifV_true, Option.getD_some, pBin_leq, ifV_dec]
      refine ⟨fun hle => ?_, fun hgt => ?_⟩
      · have : s.reach v a d = s := by simp [FS.reach, hc, hl, hle]
        rw [this] at hK
        have hk := fun h => hK F h
        rw [set_set_same h2 h3] at hk
        exact hk h o
      · unfold sh_flood_run_reach_k1 sh_flood_run_reach_k2
        simp only [ifV_true, pNil_ptr, pField_ptr]
        refine o.load i1 h1 rfl (ho_lower o i2 h2 (lookH_some hl) (by omega) fun F' h5 o5 => ?_)
        refine o5.load i1 (by rw [List.getElem?_set_ne n12]; exact h1) rfl ?_
        refine o5.setI (z := a) i3 (by rw [List.getElem?_set_ne n23]; exact h3) (by rw [inv.al]; exact hv) fun h6 o6 => ?_
        have : s.reach v a d = { s with hp := ((v : Int), d) :: s.hp.erase ((v : Int), was), arc := s.arc.set v a } := by simp [FS.reach, hc, hl, hgt]
        rw [this] at hK
        exact hK F' h6 o6
    | none =>
      simp only [Option.isSome_none, ifV_false]
      unfold sh_flood_run_reach_k1 sh_flood_run_reach_k2
      simp only [ifV_false, pNil_ptr, pField_ptr]
      refine o.load i1 h1 rfl (ho_push o i2 h2 (by omega) (lookH_none.1 hl) hv fun F' h5 o5 => ?_)
      refine o5.load i1 (by rw [List.getElem?_set_ne n12]; exact h1) rfl ?_
      refine o5.setI (z := a) i3 (by rw [List.getElem?_set_ne n23]; exact h3) (by rw [inv.al]; exact hv) fun h6 o6 => ?_
      have : s.reach v a d = { s with hp := ((v : Int), d) :: s.hp, arc := s.arc.set v a } := by simp [FS.reach, hc, hl]
      rw [this] at hK
      exact hK F' h6 o6

end
end Go.Proofs.YtkeoponidgpfpaaGreatDoor

namespace Go.Proofs.YtkeoponidgpfpaaGreatDoor
open Go Go.Mh
set_option linter.unusedVariables false

/-- A tree in memory. -/
def TreeV (h : Heap) (v : Value) (t : Tr) : Prop := ∃ sd sa so, v = .agg #[sd, sa, so] ∧ Vw encI 1 h sd t.dist ∧ Vw encI 1 h sa t.arc ∧ Vw encN 1 h so t.order
theorem TreeV.more {h h' : Heap} {v : Value} {t : Tr} (H : TreeV h v t) (x : Ext h h') : TreeV h' v t := by
  obtain ⟨sd, sa, so, e, a, b, c⟩ := H
  exact ⟨sd, sa, so, e, a.more x, b.more x, c.more x⟩

theorem scan_take {l : List A} {head : A → Nat} {key : Int} {s : FS} {ids : List Nat} {i : Nat} (hi : i < ids.length) :
    s.scan l head key (ids.take (i + 1)) = (s.scan l head key (ids.take i)).reach (head (arcAt l ids[i])) ids[i] (key + (arcAt l ids[i]).w) := by
  unfold FS.scan
  rw [List.take_succ_eq_append_getElem hi, List.foldl_append]; rfl

section
variable {h0 h : Heap} {L : List Res} {K : Value → Heap → Prop} {g : G} {r : Nat} {outs : Nat → List Nat} {head : A → Nat} {nextv endv : Value}

/-- A closure that tells the arcs of a node. -/
def NextF (nextv : Value) (g : G) (r : Nat) (outs : Nat → List Nat) : Prop :=
  ∀ (h0 h : Heap) (L : List Res) (K : Value → Heap → Prop) (v : Nat), v < g.n → NetR h r g → Own h0 h L → (∀ v' h', Own h0 h' (slR encN 1 T_int v' (outs v) :: L) → K v' h') → callV Tryz.prog nextv [I v].toArray h K

theorem out_next (hR : g.Right) : NextF (.func (.func F_net_Net_Out) #[ptr r] #[]) g r g.out := by
  intro h0 h L K v hv H o hK
  refine callV_of (l := [ptr r, I v]) rfl ?_
  have := outI_ok (z := v) o hR H (K := K) (by rw [if_pos (by omega)]; exact hK)
  simpa [callS, callV] using this
theorem in_next (hR : g.Right) : NextF (.func (.func F_net_Net_In) #[ptr r] #[]) g r g.in := by
  intro h0 h L K v hv H o hK
  refine callV_of (l := [ptr r, I v]) rfl ?_
  have := inI_ok (z := v) o hR H (K := K) (by rw [if_pos (by omega)]; exact hK)
  simpa [callS, callV] using this

abbrev runL (r9 rr m hp t8 n : Nat) (sd sa : Value) (kb : Nat) (key : Int) (F : Nat → Prop) (H : List HE) (so : Value) (st : FS) (mm : List Nat) : List Res :=
  [cellR kb [I key] T_int64, cellR r9 [ptr rr] T_p_flood_run, cellR rr [ptr hp, sd, sa, so, .map (some m)] T_flood_run, hpR F hp H n, slR encI 1 T_int sa st.arc, mapR m (clo st.order), xR sd st.dist, slR encN 1 T_int so st.order,
    cellR t8 [sl0, sl0, sl0] T_flood_Tree, marksR mm]

/-- The rest of a flood, from a state on. -/
theorem flood_loop {r9 rr m hp t8 : Nat} {sd sa : Value} {fin : FS} {h' : Heap} {x : List Nat × Vals [10, 11, 12]} (hR : g.Right) (H : NetR h r g) (hN : NextF nextv g r outs) (hE : EndF endv head) (hev : endv.cells = #[endv]) (hhead : ∀ a ∈ g.arcs, head a < g.n)
    (hout : ∀ v, v < g.n → ∀ i ∈ outs v, i < g.arcs.length) (hol : ∀ v, (outs v).length ≤ g.arcs.length)
    (hK : ∀ so h', Own h h' [xR sd fin.dist, slR encI 1 T_int sa fin.arc, slR encN 1 T_int so fin.order] → K (.agg #[sd, sa, so]) h')
    (J : ∃ (st : FS) (kb : Nat) (key : Int) (so : Value) (F : Nat → Prop) (H : List HE), x.2.2.1 = ptr kb ∧ FS.run g.arcs outs head (g.n + 1 - st.order.length) st = fin ∧ FInv g.n (st.order.length * W) st ∧
      ((least st.hp = none ∧ x.2.2.2.1 = .bool false) ∨ ∃ p, least st.hp = some p ∧ x.2.1 = I p.1 ∧ key = p.2 ∧ x.2.2.2.1 = .bool true ∧ H = st.hp.erase p) ∧ Own h h' (runL r9 rr m hp t8 g.n sd sa kb key F H so st x.1)) :
    LoopH (σ := List Nat × Vals [10, 11, 12]) (fun x hh ZZ => sh_flood_flood_L2 Tryz.prog (ptr r9) nextv (ptr r) endv (ptr t8) K x.1 x.2.1 x.2.2.1 x.2.2.2.1 hh (fun mz a0 a1 a2 hz => ZZ (mz, (a0, (a1, (a2, ())))) hz)) x h' := by
  have hmost := hR.most
  have hmany := hR.many
  obtain ⟨st0, J⟩ := J
  refine LoopH_down (k0 := g.n + 1 - st0.order.length) (fun k x h' => ∃ (st : FS) (kb : Nat) (key : Int) (so : Value) (F : Nat → Prop) (H : List HE), k = g.n + 1 - st.order.length ∧ x.2.2.1 = ptr kb ∧ FS.run g.arcs outs head (g.n + 1 - st.order.length) st = fin ∧ FInv g.n (st.order.length * W) st ∧
      ((least st.hp = none ∧ x.2.2.2.1 = .bool false) ∨ ∃ p, least st.hp = some p ∧ x.2.1 = I p.1 ∧ key = p.2 ∧ x.2.2.2.1 = .bool true ∧ H = st.hp.erase p) ∧ Own h h' (runL r9 rr m hp t8 g.n sd sa kb key F H so st x.1))
    (by obtain ⟨kb, key, so, F, H, J⟩ := J; exact ⟨st0, kb, key, so, F, H, rfl, J⟩) ?_
  clear J st0 h' x
  rintro k ⟨mm, v, kv, is, ⟨⟩⟩ h' Z ⟨st, kb, key, so, F, Hp, hk, hkb, hrun, inv, hcase, o⟩ hZ
  dsimp only at hkb hcase o hZ ⊢
  subst hkb
  unfold sh_flood_flood_L2
  simp only [pNil_ptr, pField_ptr]
  rcases hcase with ⟨hl, rfl⟩ | ⟨p, hl, rfl, rfl, rfl, rfl⟩
  · rw [ifV_false]
    have hf : st = fin := by
      rw [← hrun]
      cases g.n + 1 - st.order.length with
      | zero => rfl
      | succ k => simp only [FS.run, hl]
    subst hf
    refine o.load 1 rfl rfl ?_
    simp only [pNil_ptr, pField_ptr]
    refine o.ldN 2 rfl rfl rfl ?_
    refine o.st 8 rfl rfl rfl rfl rfl ?_ fun h2 o2 => ?_
    · intro u hu
      simp at hu
      rcases hu with rfl | rfl | rfl
      · exact (o.vw 6 rfl).plain
      · exact (o.vw 4 rfl).plain
      · exact (o.vw 7 rfl).plain
    · refine o2.take 9 rfl fun h3 o3 => ?_
      exact o3.ldN 8 rfl rfl rfl (hK so h3 (o3.sel [6, 4, 7] (by decide)))
  · rw [ifV_true]
    have hm := (least_spec hl).1
    obtain ⟨u, hu, hun, hno, hk0, hkB⟩ := inv.ent p hm
    obtain ⟨pv, key⟩ := p
    dsimp only at hu hk0 hkB o ⊢
    subst hu
    have hroom := inv.room (by intro e; rw [e] at hm; cases hm)
    have hB : (st.order.length : Int) * W + W ≤ 16777216 * W := by
      have : (st.order.length : Int) + 1 ≤ 16777216 := by omega
      have := Int.mul_le_mul_of_nonneg_right this (show (0 : Int) ≤ W by decide)
      rw [Int.add_mul, Int.one_mul] at this
      exact this
    refine o.load 1 rfl rfl ?_
    simp only [pNil_ptr, pField_ptr]
    refine o.load 2 rfl rfl ?_
    refine o.look 5 rfl ?_
    rw [clo_out hno]
    simp only [Bool.false_eq_true, if_false, Option.getD_none, pBin_add]
    rw [show IntKind.i64.wrap (0 + 1) = 1 from rfl]
    refine o.mapPut (f' := clo (st.order ++ [u])) 5 rfl clo_add fun h1 o1 => ?_
    refine o1.load 1 rfl rfl ?_
    simp only [pNil_ptr, pField_ptr]
    refine o1.load 2 rfl rfl (o1.load 0 rfl rfl ?_)
    refine o1.setI 6 rfl (by rw [inv.dl]; exact hun) fun h2 o2 => ?_
    refine o2.load 1 rfl rfl (o2.load 1 rfl rfl ?_)
    simp only [pNil_ptr, pField_ptr]
    refine o2.load 2 rfl rfl ?_
    refine o2.app1 7 u rfl rfl (sizesOk_of rfl) encN_len encN_plain rfl (by decide) (by omega) fun so1 h3 o3 => ⟨o3.load 1 rfl rfl rfl, ?_⟩
    refine o3.st1 2 rfl rfl rfl (o3.vw 7 rfl).one (o3.vw 7 rfl).plain fun h4 o4 => ?_
    refine hN _ _ _ _ u hun (H.more o4.ext) o4 fun vl h5 o5 => ?_
    refine callS_of (lk_flood_arcs _ _ _ ?_)
    unfold sh_flood_arcs
    refine o5.box fun n3 h6 o6 => o6.box fun l4 h7 o7 => o7.box fun e5 h8 o8 => ?_
    have hvl := o5.vw 0 rfl
    obtain ⟨st1, hst1⟩ : ∃ st1, st1 = st.pop u key := ⟨_, rfl⟩
    have hW : (0 : Int) ≤ W := by decide
    have inv1 : FInv g.n (st.order.length * W + W) st1 := by subst hst1; exact (inv.popped hm).mono (by omega)
    have hord : st1.order.length = st.order.length + 1 := by subst hst1; simp [FS.pop]
    have hids := hout u hun
    have hscan : ∀ i, FInv g.n (st.order.length * W + W) (st1.scan g.arcs head key ((outs u).take i)) := fun i =>
      FInv.scan (fun a ha => ⟨hhead a ha, by have := (hR.ends a ha).2.2; show (a.w : Int) ≤ 2147483647; omega⟩) hk0 (by omega) (fun j hj => hids j (List.mem_of_mem_take hj)) inv1
    have L0 : Own h h8 (cellR e5 endv.cells.toList T_func_api_Arc_int :: cellR l4 vl.cells.toList T_sl_int :: cellR n3 [ptr r] T_p_net_Net :: slR encN 1 T_int vl (outs u) :: runL r9 rr m hp t8 g.n sd sa kb key F (st1.scan g.arcs head key ((outs u).take 0)).hp so1 (st1.scan g.arcs head key ((outs u).take 0)) mm) := by
      subst hst1; exact o8
    refine L0.range (farcs_iter (r := r) (T1 := T_sl_int) (T2 := T_p_net_Net) (T3 := T_func_api_Arc_int) (vl := vl) hids (by have := hol u; omega) hE) (fun i x i' ⟨⟨hi, e⟩, _⟩ => by rw [e]; rfl)
      (fun i Rs => ∃ F, Rs = cellR e5 endv.cells.toList T_func_api_Arc_int :: cellR l4 vl.cells.toList T_sl_int :: cellR n3 [ptr r] T_p_net_Net :: slR encN 1 T_int vl (outs u) :: runL r9 rr m hp t8 g.n sd sa kb key F (st1.scan g.arcs head key ((outs u).take i)).hp so1 (st1.scan g.arcs head key ((outs u).take i)) mm)
      (fun _ => False) (fun _ _ => False) ⟨F, rfl⟩ ?_ ?_ ?_ (fun _ _ h => h.elim) (fun _ _ _ h => h.elim)
    · rintro i Rs' h' ⟨F, rfl⟩ o'
      refine ⟨?_, o'.get 2 rfl, ?_, o'.vw 3 rfl, H.more o'.ext⟩
      · have := o'.get 1 rfl
        rw [show vl.cells.toList = [vl] by rw [hvl.one]] at this
        exact this
      · have := o'.get 0 rfl
        rw [show endv.cells.toList = [endv] by rw [hev]] at this
        exact this
    · rintro M i x i' Rs' Pr h9 R ⟨⟨hi, rfl⟩, rfl⟩ ⟨F, rfl⟩ o9 hN' _ _
      dsimp only [valsOf]
      unfold sh_flood_flood_B3
      refine o9.box fun a14 h10 o10 => o10.st 0 rfl rfl rfl rfl rfl (encA_plain _) fun h11 o11 => ?_
      refine o11.begin 1 rfl fun h12 o12 => ?_
      refine o12.load 8 rfl rfl ?_
      simp only [pField_ptr]
      refine o12.load 0 rfl rfl (o12.load 7 rfl rfl (o12.load 0 rfl rfl ?_))
      have hil := hids _ (List.getElem_mem hi)
      have ha : arcAt g.arcs (outs u)[i] ∈ g.arcs := by simp [arcAt, hil]
      have hw := (hR.ends _ ha).2.2
      have e1 : IntKind.i64.wrap (key + ((arcAt g.arcs (outs u)[i]).w : Int)) = key + (arcAt g.arcs (outs u)[i]).w := by
        have hW2 : (16777216 : Int) * W ≤ 2 ^ 62 := by decide
        exact w64 (by omega) (by have : (W : Int) = 2147483647 := rfl
                                 omega)
      rw [pBin_add, e1]
      refine reach_ok o12 9 10 11 12 rfl rfl rfl rfl (by decide) (by decide) (by decide) (hscan i) hmost (hhead _ ha) fun F' h13 o13 => ?_
      refine hN' _ _ ⟨F', rfl⟩ ?_
      have hsc := scan_take (l := g.arcs) (head := head) (key := key) (s := st1) hi
      have hro := @reach_order (st1.scan g.arcs head key ((outs u).take i)) (head (arcAt g.arcs (outs u)[i])) (outs u)[i] (key + (arcAt g.arcs (outs u)[i]).w)
      rw [← hsc] at hro
      have := o13.tail
      rw [← hsc] at this
      simp only [runL, hro.1, hro.2]
      exact this
    · rintro i h9 Rs' rfl ⟨F', rfl⟩ o9
      rw [List.take_length] at o9
      have hso := @scan_order g.arcs head key (outs u) st1
      refine o9.load 5 rfl rfl (o9.box fun kb2 h10 o10 => ?_)
      refine o10.st1 0 rfl rfl rfl rfl rfl fun h11 o11 => ?_
      refine o11.load 7 rfl rfl ?_
      simp only [pNil_ptr, pField_ptr]
      refine o11.load 8 rfl rfl ?_
      have inv2 : FInv g.n ((st1.scan g.arcs head key (outs u)).order.length * W) (st1.scan g.arcs head key (outs u)) := by
        have := hscan (outs u).length
        rw [List.take_length] at this
        refine this.mono ?_
        rw [hso.1, hord]
        have : ((st.order.length + 1 : Nat) : Int) * W = st.order.length * W + W := by
          rw [Int.natCast_add, Int.add_mul]; rfl
        omega
      have hrun2 : FS.run g.arcs outs head (g.n + 1 - (st1.scan g.arcs head key (outs u)).order.length) (st1.scan g.arcs head key (outs u)) = fin := by
        rw [← hrun, hso.1, hord]
        rw [show g.n + 1 - st.order.length = (g.n + 1 - (st.order.length + 1)) + 1 by omega]
        simp only [FS.run, hl, Int.toNat_natCast]
        rw [← hst1]
      have mark := fun {h'' : Heap} {A B : Res} {C : List Res} (o : Own h h'' (A :: B :: C)) => o
      refine ho_pop o11 9 rfl (fun hl2 h12 o12 => ?_) fun p hl2 F2 h12 o12 => ?_
      · simp only [pExt0, pExt1, pExt2]
        refine o12.st1 0 rfl rfl rfl rfl rfl fun h13 o13 => ?_
        have o14 := (o13.swap).addMark 14 rfl
        refine hZ (_ :: mm, (I 0, (ptr kb2, (.bool false, ())))) h13 _ (by rw [hso.1, hord]; omega) ⟨st1.scan g.arcs head key (outs u), kb2, 0, so1, F', (st1.scan g.arcs head key (outs u)).hp, rfl, rfl, hrun2, inv2, .inl ⟨hl2, rfl⟩, ?_⟩
        exact o14.sel [0, 6, 7, 8, 9, 10, 11, 12, 13, 14] (by decide)
      · simp only [pExt0, pExt1, pExt2]
        refine o12.st1 0 rfl rfl rfl rfl rfl fun h13 o13 => ?_
        have o14 := (o13.swap).addMark 14 rfl
        refine hZ (_ :: mm, (I p.1, (ptr kb2, (.bool true, ())))) h13 _ (by rw [hso.1, hord]; omega) ⟨st1.scan g.arcs head key (outs u), kb2, p.2, so1, F2, (st1.scan g.arcs head key (outs u)).hp.erase p, rfl, rfl, hrun2, inv2, .inr ⟨p, hl2, rfl, rfl, rfl, rfl⟩, ?_⟩
        exact o14.sel [0, 6, 7, 8, 9, 10, 11, 12, 13, 14] (by decide)

end
end Go.Proofs.YtkeoponidgpfpaaGreatDoor

namespace Go.Proofs.YtkeoponidgpfpaaGreatDoor
open Go Go.Mh
set_option linter.unusedVariables false

section
variable {h0 h : Heap} {L : List Res} {K : Value → Heap → Prop} {g : G} {r : Nat} {outs : Nat → List Nat} {head : A → Nat} {nextv endv : Value}

/-- A tree that was just made. -/
def TreeK (h : Heap) (t : Tr) (K : Value → Heap → Prop) : Prop :=
  ∀ sd sa so h', Own h h' [xR sd t.dist, slR encI 1 T_int sa t.arc, slR encN 1 T_int so t.order] → K (.agg #[sd, sa, so]) h'

theorem TreeK.of {t : Tr} (hK : ∀ v h', TreeV h' v t → Ext h h' → K v h') : TreeK h t K :=
  fun sd sa so h' o => hK _ h' ⟨sd, sa, so, rfl, o.vw 0 rfl, o.vw 1 rfl, o.vw 2 rfl⟩ o.ext

theorem flood_none {s : Int} {rv : Value} (hs : rv = .pointer none ∨ (rv = ptr r ∧ NetR h r g ∧ ¬ (0 ≤ s ∧ s < g.n))) (hK : TreeK h .none K) : callS Tryz.prog F_flood_flood [rv, I s, nextv, endv] h K := by
  refine callS_of (lk_flood_flood _ _ _ _ ?_)
  unfold sh_flood_flood sh_flood_flood_k1
  refine (Own.start h).box fun t8 h1 o1 => ?_
  have none : ∀ {h2 : Heap}, Own h h2 [cellR t8 [sl0, sl0, sl0] T_flood_Tree] → pBuild [(.slice none 0 0), (.slice none 0 0), (.slice none 0 0)] [] fun t27 => pStore 3 (ptr t8) t27 h2 fun u h_3 => pLoadN 3 h_3 (ptr t8) fun res => K res h_3 := fun o2 =>
    ⟨trivial, o2.st (cs' := [sl0, sl0, sl0]) 0 rfl (l := [sl0, sl0, sl0]) rfl rfl rfl rfl (by simp) fun h3 o3 => o3.ldN 0 rfl rfl rfl (hK sl0 sl0 sl0 h3 ((o3.nilS.nilS.nilS).sel [0, 1, 2] (by decide)))⟩
  rcases hs with rfl | ⟨rfl, H, hs⟩
  · simp only [pEq_ptr_nil, Option.isNone_none, ifV_true]
    exact none o1
  · simp only [pEq_ptr_nil, Option.isNone_some, ifV_false, pBin_lss, ifV_dec]
    refine ⟨fun _ => none o1, fun e => nodes_ok (H.more o1.ext) ?_⟩
    simp only [pBin_geq, ifV_dec]
    exact ⟨fun _ => none o1, fun e' => by omega⟩

theorem flood_ok {s : Nat} (hR : g.Right) (H : NetR h r g) (hs : s < g.n) (hN : NextF nextv g r outs) (hE : EndF endv head) (hev : endv.cells = #[endv]) (hhead : ∀ a ∈ g.arcs, head a < g.n)
    (hout : ∀ v, v < g.n → ∀ i ∈ outs v, i < g.arcs.length) (hol : ∀ v, (outs v).length ≤ g.arcs.length) (hK : TreeK h (floodP g.arcs g.n outs head s) K) : callS Tryz.prog F_flood_flood [ptr r, I s, nextv, endv] h K := by
  have hmost := hR.most
  refine callS_of (lk_flood_flood _ _ _ _ ?_)
  unfold sh_flood_flood
  refine (Own.start h).box fun t8 h1 o1 => ?_
  simp only [pEq_ptr_nil, Option.isNone_some, ifV_false, pBin_lss, ifV_dec]
  refine ⟨fun e => by omega, fun _ => nodes_ok (H.more o1.ext) ?_⟩
  simp only [pBin_geq, ifV_dec]
  refine ⟨fun e => by omega, fun _ => nodes_ok (H.more o1.ext) (ho_new o1 fun F hp h2 o2 => ?_)⟩
  refine o2.build (enc := encI) (n := 1) [far] rfl (sizesOk_of rfl) rfl fun wf h3 o3 => nodes_ok (H.more o3.ext) ?_
  refine repeat_int64 o3 (o3.vw 0 rfl) hmost fun sd h4 o4 => ?_
  refine o4.build (enc := encI) (n := 1) [-1] rfl (sizesOk_of rfl) rfl fun wm h5 o5 => nodes_ok (H.more o5.ext) ?_
  refine repeat_int o5 (o5.vw 0 rfl) hmost fun sa h6 o6 => ⟨sizesOk_of (by
    obtain ⟨b, c, e⟩ := (o6.vw 0 rfl).isSl
    obtain ⟨b', c', e'⟩ := (o6.vw 2 rfl).isSl
    subst e e'; rfl), ?_⟩
  have ead : sa.cells = #[sa] ∧ sd.cells = #[sd] := ⟨(o6.vw 0 rfl).one, (o6.vw 2 rfl).one⟩
  refine o6.mkMap fun m h7 o7 => ?_
  obtain ⟨ba, ca, ea⟩ := (o7.vw 1 rfl).isSl
  obtain ⟨bd, cd, ed⟩ := (o7.vw 3 rfl).isSl
  refine ⟨sizesOk_of (by subst ea ed; rfl), o7.box fun rr h8 o8 => o8.box fun r9 h9 o9 => o9.st1 0 rfl rfl rfl rfl rfl fun h10 o10 => ?_⟩
  have o11 : Own h h10 (cellR r9 [ptr rr] T_p_flood_run :: cellR rr [ptr hp, sd, sa, sl0, .map (some m)] T_flood_run :: mapR m (fun _ => none) :: slR encI 1 T_int sa (List.replicate g.n (-1)) :: slR encI 1 T_int wm [-1] :: xR sd (List.replicate g.n far) :: xR wf [far] :: hpR F hp [] g.n :: [cellR t8 [sl0, sl0, sl0] T_flood_Tree]) := by
    subst ea ed; exact o10
  clear o10 o9 o8 o7 o6
  refine o11.load 0 rfl rfl ?_
  simp only [pNil_ptr, pField_ptr]
  refine o11.load 1 rfl rfl (ho_push o11 7 rfl (by simp) (by simp) hs fun F1 h12 o12 => ?_)
  refine o12.load 0 rfl rfl ?_
  simp only [pNil_ptr, pField_ptr]
  refine o12.load 1 rfl rfl ?_
  refine ho_pop o12 7 rfl (fun e => by simp [least] at e) fun p hp' F2 h13 o13 => ?_
  have hp2 : p = ((s : Int), 0) := by simpa [least] using hp'.symm
  subst hp2
  simp only [pExt0, pExt1, pExt2]
  refine o13.box fun kb h14 o14 => o14.st1 0 rfl rfl rfl rfl rfl fun h15 o15 => ?_
  have o16 := (o15.noMarks).nilS (enc := encN) (n := 1) (T := T_int)
  refine flood_loop (fin := FS.run g.arcs outs head (g.n + 1) (FS.start g.n s)) (m := m) (sd := sd) (sa := sa) (rr := rr) (hp := hp) hR H hN hE hev hhead hout hol (fun so h' o' => hK sd sa so h' o') ?_
  refine ⟨FS.start g.n s, kb, 0, sl0, F2, _, rfl, rfl, (FInv.start hs).mono (by simp [FS.start]), .inr ⟨((s : Int), 0), hp', rfl, rfl, rfl, rfl⟩, ?_⟩
  have e : (fun _ => none : Int → Option Value) = clo (FS.start g.n s).order := by funext x; simp [clo, FS.start]
  have o17 := o16.sel [2, 3, 4, 10, 6, 5, 8, 0, 11, 1] (by decide)
  dsimp only [List.map, List.getD] at o17
  rw [e] at o17
  exact o17

end
end Go.Proofs.YtkeoponidgpfpaaGreatDoor

namespace Go.Proofs.YtkeoponidgpfpaaGreatDoor
open Go Go.Mh
set_option linter.unusedVariables false

section
variable {h0 h : Heap} {L : List Res} {K : Value → Heap → Prop} {g : G} {r : Nat} {s : Int}

theorem out_lt {g : G} {v i : Nat} (h : i ∈ g.out v) : i < g.arcs.length := by
  have := (outsP_mem.1 h).2.1; omega
theorem in_lt {g : G} {v i : Nat} (h : i ∈ g.in v) : i < g.arcs.length := by
  have := (outsP_mem.1 h).2.1; omega

theorem from_ok (hR : g.Right) (H : NetR h r g) (hK : TreeK h (g.fromI s) K) : callS Tryz.prog F_flood_From [ptr r, I s] h K := by
  refine callS_of (lk_flood_From _ _ ?_)
  unfold sh_flood_From
  refine (Own.start h).box fun t4 h1 o1 => ?_
  have fin : TreeK h1 (g.fromI s) fun t9 h_2 => pStore 3 (ptr t4) t9 h_2 fun u h_3 => pLoadN 3 h_3 (ptr t4) fun res => K res h_3 := by
    intro sd sa so h2 o2
    have o3 := o1.frame o2
    refine o3.st 3 rfl rfl rfl rfl rfl ?_ fun h3 o4 => o4.ldN 3 rfl rfl rfl (hK sd sa so h3 (o4.sel [0, 1, 2] (by decide)))
    intro u hu
    simp at hu
    rcases hu with rfl | rfl | rfl
    · exact (o3.vw 0 rfl).plain
    · exact (o3.vw 1 rfl).plain
    · exact (o3.vw 2 rfl).plain
  unfold G.fromI at fin
  split at fin <;> rename_i hs
  · obtain ⟨s, rfl⟩ := Int.eq_ofNat_of_zero_le hs.1
    exact flood_ok hR (H.more o1.ext) (by omega) (out_next hR) from1_end rfl (fun a ha => (hR.ends a ha).2.1) (fun v _ i => out_lt) (fun v => outsP_short) fin
  · exact flood_none (g := g) (.inr ⟨rfl, H.more o1.ext, hs⟩) fin

theorem from_nil (hK : TreeK h .none K) : callS Tryz.prog F_flood_From [.pointer none, I s] h K := by
  refine callS_of (lk_flood_From _ _ ?_)
  unfold sh_flood_From
  refine (Own.start h).box fun t4 h1 o1 => flood_none (g := ⟨0, [], [], []⟩) (r := 0) (.inl rfl) fun sd sa so h2 o2 => ?_
  have o3 := o1.frame o2
  refine o3.st 3 rfl rfl rfl rfl rfl ?_ fun h3 o4 => o4.ldN 3 rfl rfl rfl (hK sd sa so h3 (o4.sel [0, 1, 2] (by decide)))
  intro u hu
  simp at hu
  rcases hu with rfl | rfl | rfl
  · exact (o3.vw 0 rfl).plain
  · exact (o3.vw 1 rfl).plain
  · exact (o3.vw 2 rfl).plain
end
end Go.Proofs.YtkeoponidgpfpaaGreatDoor

namespace Go.Proofs.YtkeoponidgpfpaaGreatDoor
open Go Go.Mh
set_option linter.unusedVariables false

def valM (f : Int → Option Int) : Int → Option Value := fun z => (f z).map fun a => I a
abbrev encBo (x : Bool) : List Value := [.bool x]

abbrev sideC (b hp lm am cm : Nat) (x : Bool) (fo fh : Value) : Res := cellR b [ptr hp, I (sI x), I (if x then -1 else 1), fo, fh, .map (some lm), .map (some am), .map (some cm)] T_both_side

/-- A search in memory. -/
abbrev seaL (Q : Qs) (rs r : Nat) (va vp : Value) (b hp lm am cm : Bool → Nat) (fo fh : Bool → Value) (F : Bool → Nat → Prop) (S : BW) (ve : Value) (M : List Res) : List Res :=
  cellR rs [ptr r, I Q.s, I Q.t, va, vp, ptr (b false), ptr (b true), I S.dist, sl0, ve, I S.meet] T_both_search ::
  sideC (b false) (hp false) (lm false) (am false) (cm false) false (fo false) (fh false) :: hpR (F false) (hp false) (S.sd false).hp Q.g.n :: mapR (lm false) (valM (S.sd false).lab) :: mapR (am false) (valM (S.sd false).arc) :: mapR (cm false) (clo (S.sd false).ord) ::
  sideC (b true) (hp true) (lm true) (am true) (cm true) true (fo true) (fh true) :: hpR (F true) (hp true) (S.sd true).hp Q.g.n :: mapR (lm true) (valM (S.sd true).lab) :: mapR (am true) (valM (S.sd true).arc) :: mapR (cm true) (clo (S.sd true).ord) ::
  slR encE 4 T_api_Event ve S.ev :: M

abbrev ix (x : Bool) (k : Nat) : Nat := if x then 6 + k else 1 + k

section
variable {h0 h : Heap} {L M : List Res} {K : Value → Heap → Prop} {Q : Qs} {rs r : Nat} {va vp ve : Value} {b hp lm am cm : Bool → Nat} {fo fh : Bool → Value} {F : Bool → Nat → Prop} {S : BW} {B : Bool → Int}

theorem bpi_ok {v : Nat} (hQ : Q.Ok) (o : Own h0 h (seaL Q rs r va vp b hp lm am cm fo fh F S ve M)) (Hp : Vw encI 1 h0 vp Q.pi) (hv : v < Q.g.n) (hK : K (.tuple #[I (Q.p v), .bool (Q.opn v)]) h) : callS Tryz.prog F_both_search_pi [ptr rs, I v] h K := by
  refine callS_of (lk_both_search_pi _ _ ?_)
  unfold sh_both_search_pi
  simp only [pNil_ptr, pField_ptr]
  have HP := Hp.more o.ext
  refine o.load 0 rfl rfl (HP.len ?_)
  rw [pBin_eql]
  rcases hQ.pi with hn | hl
  · rw [hn, show (((([] : List Int).length : Nat) : Int) == 0) = true from rfl, ifV_true]
    rw [show Q.p v = 0 by unfold Qs.p; rw [hn]; rfl, show Q.opn v = true by unfold Qs.opn; rw [hn]; rfl] at hK
    exact hK
  · have hpos := hQ.r.pos
    rw [show ((Q.pi.length : Int) == 0) = false from beq_eq_false_iff_ne.2 (by omega), ifV_false]
    refine o.load 0 rfl rfl (HP.atI (i := v) (by omega) ?_)
    have e : Q.pi[v] = Q.p v := by unfold Qs.p; simp [List.getD_eq_getElem?_getD, show v < Q.pi.length by omega]
    rw [e]
    have ho : Q.opn v = (decide (-far < Q.p v) && decide (Q.p v < far)) := by
      unfold Qs.opn
      rw [show Q.pi.isEmpty = false by cases hp : Q.pi with | nil => rw [hp] at hl; simp at hl; omega | cons => rfl]
      rfl
    rw [ho] at hK
    rw [pBin_gtr, ifV_dec]
    refine ⟨fun h1 => ?_, fun h1 => ?_⟩
    · rw [pBin_lss]
      rw [show decide (-far < Q.p v) = true from decide_eq_true h1, Bool.true_and] at hK
      exact hK
    · rw [show decide (-far < Q.p v) = false from decide_eq_false h1, Bool.false_and] at hK
      exact hK

theorem valM_set {f : Int → Option Int} {v : Nat} {d : Int} (z : Int) : valM (fun w => if w = (v : Int) then some d else f w) z = fset (valM f) v (I d) z := by
  unfold valM fset
  by_cases h : z = (v : Int)
  · simp [h]
  · simp [h]

theorem breach_false {v : Nat} {a d : Int} (hQ : Q.Ok) (H : BI Q S B) (hB : ∀ x, B x ≤ far) (o : Own h0 h (seaL Q rs r va vp b hp lm am cm fo fh F S ve M)) (Hp : Vw encI 1 h0 vp Q.pi) (hv : v < Q.g.n) (hd : 0 ≤ d ∧ d ≤ far)
    (hK : ∀ F' h', Own h0 h' (seaL Q rs r va vp b hp lm am cm fo fh F' (Q.reach S false v a d) ve M) → K (.tuple #[]) h') :
    callS Tryz.prog F_both_search_reach [ptr rs, ptr (b false), I v, I a, I d] h K := by
  have hmost := hQ.r.most
  have hfar : far = 72057594037927936 := rfl
  refine callS_of (lk_both_search_reach _ _ _ _ _ ?_)
  unfold sh_both_search_reach
  refine bpi_ok hQ o Hp hv ?_
  simp only [pExt0, pExt1, pNil_ptr, pField_ptr]
  have stay : (S.sd false).takes Q.opn v d = false → K (.tuple #[]) h := fun ht => by
    have : Q.reach S false v a d = S := by unfold Qs.reach; rw [ht]; rfl
    rw [this] at hK
    exact hK F h o
  have hlen := (H.si false).hlen
  refine o.load 1 rfl rfl (o.look 3 rfl ?_)
  rw [if_pos rfl]
  simp only [pExt0, pExt1, pUn_not]
  cases hop : Q.opn v with
  | false =>
    rw [Bool.not_false, ifV_true]
    exact stay (by unfold BS.takes; rw [hop]; rfl)
  | true =>
    rw [Bool.not_true, ifV_false]
    refine o.load 1 rfl rfl (o.look 5 rfl ?_)
    rw [if_neg (by decide)]
    by_cases hc : v ∈ (S.sd false).ord
    · rw [clo_in hc]
      rw [Option.getD_some, pBin_gtr, show decide ((0 : Int) < 1) = true from rfl, ifV_true]
      exact stay (by rw [Bool.eq_false_iff]; exact fun ht => (takes_iff.1 ht).2.1 hc)
    · rw [clo_out hc, Option.getD_none, pBin_gtr, show decide ((0 : Int) < 0) = false from rfl, ifV_false]
      have hpp := Qs.p_opn hop
      have key : (S.sd false).takes Q.opn v d = true → sh_both_search_reach_k1 Tryz.prog (ptr (b false)) (I v) (I d) (I a) (I (Q.p v)) (.bool (valM (S.sd false).lab (v : Int)).isSome) (ptr rs) K h := fun ht => by
        have hr : Q.reach S false v a d = Q.put S false v a d := by unfold Qs.reach; rw [if_pos ht]
        rw [hr] at hK
        unfold sh_both_search_reach_k1
        simp only [pNil_ptr, pField_ptr]
        refine o.load 1 rfl rfl (o.load 1 rfl rfl ?_)
        refine o.mapAsg (f' := valM ((S.sd false).put (Q.pot false) v a d).lab) 3 rfl valM_set fun h1 o1 => ?_
        refine o1.mapAsg (f' := valM ((S.sd false).put (Q.pot false) v a d).arc) 4 rfl valM_set fun h2 o2 => ?_
        rw [pBin_mul, w64 (by omega) (by omega)]
        refine o2.load 1 rfl rfl ?_
        have hsg : ∀ {K : Value → Prop}, K (I (Q.pot false v)) → pBin .mul (I (if false = true then -1 else 1)) (I (Q.p v)) K := fun hk => by
          rw [pBin_mul]
          have : (if false = true then (-1 : Int) else 1) * Q.p v = Q.pot false v := by unfold Qs.pot; simp
          rw [this, w64 (by unfold Qs.pot; simp; omega) (by unfold Qs.pot; simp; omega)]; exact hk
        have hpot : -far < Q.pot false v ∧ Q.pot false v < far := by unfold Qs.pot; simp; omega
        refine hsg ?_
        rw [pBin_add, w64 (by omega) (by omega)]
        -- behind the heap
        have k2 : ∀ F' hh, Own h0 hh (seaL Q rs r va vp b hp lm am cm fo fh F' { S with sd := upd1 S.sd false ((S.sd false).put (Q.pot false) v a d) } ve M) → sh_both_search_reach_k2 Tryz.prog (ptr (b false)) (ptr rs) (I v) (I d) K hh := fun F' hh o => by
          unfold sh_both_search_reach_k2
          simp only [pNil_ptr, pField_ptr]
          refine o.load 1 rfl rfl ?_
          rw [pBin_sub, show IntKind.i64.wrap (1 - sI false) = sI true from rfl, pIdxA_ptr]
          refine ⟨by decide, o.load 0 rfl rfl ?_⟩
          simp only [pNil_ptr, pField_ptr]
          refine o.load 6 rfl rfl (o.look 8 rfl ?_)
          rw [if_pos rfl]
          simp only [pExt0, pExt1]
          cases hm : (S.sd true).lab v with
          | none =>
            have hn : S.near false v d = none := by unfold BW.near; rw [show (!false) = true from rfl, hm]
            have : valM (S.sd true).lab (v : Int) = none := by unfold valM; rw [hm]; rfl
            show ifV (.bool (valM (S.sd true).lab (v : Int)).isSome) _ _
            rw [this, Option.isSome_none, ifV_false]
            refine hK F' hh ?_
            have hS : Q.put S false v a d = { S with sd := upd1 S.sd false ((S.sd false).put (Q.pot false) v a d) } := by unfold Qs.put; rw [hn]; rfl
            rw [hS]; exact o
          | some m =>
            have hm2 : valM (S.sd true).lab (v : Int) = some (I m) := by unfold valM; rw [hm]; rfl
            obtain ⟨_, _, _, _, m0, mB, _⟩ := (H.si true).lab _ _ hm
            have hBn := hB true
            show ifV (.bool (valM (S.sd true).lab (v : Int)).isSome) _ _
            rw [hm2, Option.isSome_some, ifV_true]
            show pBin .add (I d) ((valM (S.sd true).lab (v : Int)).getD (I 0)) _
            rw [hm2, Option.getD_some, pBin_add, w64 (by omega) (by omega)]
            refine o.load 0 rfl rfl ?_
            rw [pBin_lss, ifV_dec]
            refine ⟨fun hlt => ?_, fun hge => ?_⟩
            · have hn : S.near false v d = some (d + m) := by unfold BW.near; rw [show (!false) = true from rfl, hm]; exact if_pos hlt
              have hS : Q.put S false v a d = ⟨upd1 S.sd false ((S.sd false).put (Q.pot false) v a d), S.ev, d + m, (v : Int)⟩ := by unfold Qs.put; rw [hn]; rfl
              show pBin .add (I d) ((valM (S.sd true).lab (v : Int)).getD (I 0)) _
              rw [hm2, Option.getD_some, pBin_add, w64 (by omega) (by omega)]
              refine o.st1 0 rfl rfl rfl rfl rfl fun h9 o9 => o9.st1 0 rfl rfl rfl rfl rfl fun h10 o10 => hK F' h10 ?_
              rw [hS]; exact o10
            · have hn : S.near false v d = none := by unfold BW.near; rw [show (!false) = true from rfl, hm]; exact if_neg hge
              have hS : Q.put S false v a d = { S with sd := upd1 S.sd false ((S.sd false).put (Q.pot false) v a d) } := by unfold Qs.put; rw [hn]; rfl
              refine hK F' hh ?_
              rw [hS]; exact o
        cases hl : (S.sd false).lab v with
        | none =>
          have hlv : valM (S.sd false).lab (v : Int) = none := by unfold valM; rw [hl]; rfl
          rw [hlv, Option.isSome_none, ifV_false]
          refine o2.load 1 rfl rfl (ho_push o2 2 rfl (by omega) ((H.si false).notin hl) hv fun F' h5 o5 => ?_)
          refine k2 (fun y => if y = false then F' else F y) h5 ?_
          have hh : ((S.sd false).put (Q.pot false) v a d).hp = ((v : Int), 2 * d + Q.pot false v) :: (S.sd false).hp := by unfold BS.put; rw [hl]
          simp only [seaL, upd1_same, hh, show upd1 S.sd false ((S.sd false).put (Q.pot false) v a d) true = S.sd true from upd1_not (x := false)]
          exact o5
        | some was =>
          have hlv : valM (S.sd false).lab (v : Int) = some (I was) := by unfold valM; rw [hl]; rfl
          obtain ⟨_, e, _, _, _, _, hm⟩ := (H.si false).lab _ _ hl
          obtain rfl := Int.ofNat.inj e
          have hm := hm.resolve_left hc
          have hlow := (takes_iff.1 ht).2.2 was hl
          rw [hlv, Option.isSome_some, ifV_true]
          refine o2.load 1 rfl rfl (ho_lower o2 2 rfl hm (by omega) fun F' h5 o5 => ?_)
          refine k2 (fun y => if y = false then F' else F y) h5 ?_
          have hh : ((S.sd false).put (Q.pot false) v a d).hp = ((v : Int), 2 * d + Q.pot false v) :: (S.sd false).hp.erase ((v : Int), 2 * was + Q.pot false v) := by unfold BS.put; rw [hl]
          simp only [seaL, upd1_same, hh, show upd1 S.sd false ((S.sd false).put (Q.pot false) v a d) true = S.sd true from upd1_not (x := false)]
          exact o5
      cases hl : (S.sd false).lab v with
      | none =>
        have hlv : valM (S.sd false).lab (v : Int) = none := by unfold valM; rw [hl]; rfl
        have := key (takes_iff.2 ⟨hop, hc, fun w hw => by rw [hl] at hw; cases hw⟩)
        rw [hlv] at this
        show ifV (.bool (valM (S.sd false).lab (v : Int)).isSome) _ _
        rw [hlv]
        exact this
      | some was =>
        have hlv : valM (S.sd false).lab (v : Int) = some (I was) := by unfold valM; rw [hl]; rfl
        show ifV (.bool (valM (S.sd false).lab (v : Int)).isSome) _ _
        rw [hlv, Option.isSome_some, ifV_true]
        rw [Option.getD_some, pBin_leq, ifV_dec]
        refine ⟨fun hle => stay ?_, fun hgt => ?_⟩
        · rw [Bool.eq_false_iff]
          intro ht
          have := (takes_iff.1 ht).2.2 was hl
          omega
        · have := key (takes_iff.2 ⟨hop, hc, fun w hw => by rw [hl] at hw; rw [← Option.some.inj hw]; omega⟩)
          rw [hlv] at this
          exact this

theorem breach_true {v : Nat} {a d : Int} (hQ : Q.Ok) (H : BI Q S B) (hB : ∀ x, B x ≤ far) (o : Own h0 h (seaL Q rs r va vp b hp lm am cm fo fh F S ve M)) (Hp : Vw encI 1 h0 vp Q.pi) (hv : v < Q.g.n) (hd : 0 ≤ d ∧ d ≤ far)
    (hK : ∀ F' h', Own h0 h' (seaL Q rs r va vp b hp lm am cm fo fh F' (Q.reach S true v a d) ve M) → K (.tuple #[]) h') :
    callS Tryz.prog F_both_search_reach [ptr rs, ptr (b true), I v, I a, I d] h K := by
  have hmost := hQ.r.most
  have hfar : far = 72057594037927936 := rfl
  refine callS_of (lk_both_search_reach _ _ _ _ _ ?_)
  unfold sh_both_search_reach
  refine bpi_ok hQ o Hp hv ?_
  simp only [pExt0, pExt1, pNil_ptr, pField_ptr]
  have stay : (S.sd true).takes Q.opn v d = false → K (.tuple #[]) h := fun ht => by
    have : Q.reach S true v a d = S := by unfold Qs.reach; rw [ht]; rfl
    rw [this] at hK
    exact hK F h o
  have hlen := (H.si true).hlen
  refine o.load 6 rfl rfl (o.look 8 rfl ?_)
  rw [if_pos rfl]
  simp only [pExt0, pExt1, pUn_not]
  cases hop : Q.opn v with
  | false =>
    rw [Bool.not_false, ifV_true]
    exact stay (by unfold BS.takes; rw [hop]; rfl)
  | true =>
    rw [Bool.not_true, ifV_false]
    refine o.load 6 rfl rfl (o.look 10 rfl ?_)
    rw [if_neg (by decide)]
    by_cases hc : v ∈ (S.sd true).ord
    · rw [clo_in hc]
      rw [Option.getD_some, pBin_gtr, show decide ((0 : Int) < 1) = true from rfl, ifV_true]
      exact stay (by rw [Bool.eq_false_iff]; exact fun ht => (takes_iff.1 ht).2.1 hc)
    · rw [clo_out hc, Option.getD_none, pBin_gtr, show decide ((0 : Int) < 0) = false from rfl, ifV_false]
      have hpp := Qs.p_opn hop
      have key : (S.sd true).takes Q.opn v d = true → sh_both_search_reach_k1 Tryz.prog (ptr (b true)) (I v) (I d) (I a) (I (Q.p v)) (.bool (valM (S.sd true).lab (v : Int)).isSome) (ptr rs) K h := fun ht => by
        have hr : Q.reach S true v a d = Q.put S true v a d := by unfold Qs.reach; rw [if_pos ht]
        rw [hr] at hK
        unfold sh_both_search_reach_k1
        simp only [pNil_ptr, pField_ptr]
        refine o.load 6 rfl rfl (o.load 6 rfl rfl ?_)
        refine o.mapAsg (f' := valM ((S.sd true).put (Q.pot true) v a d).lab) 8 rfl valM_set fun h1 o1 => ?_
        refine o1.mapAsg (f' := valM ((S.sd true).put (Q.pot true) v a d).arc) 9 rfl valM_set fun h2 o2 => ?_
        rw [pBin_mul, w64 (by omega) (by omega)]
        refine o2.load 6 rfl rfl ?_
        have hsg : ∀ {K : Value → Prop}, K (I (Q.pot true v)) → pBin .mul (I (if true = true then -1 else 1)) (I (Q.p v)) K := fun hk => by
          rw [pBin_mul]
          have : (if true = true then (-1 : Int) else 1) * Q.p v = Q.pot true v := by unfold Qs.pot; simp
          rw [this, w64 (by unfold Qs.pot; simp; omega) (by unfold Qs.pot; simp; omega)]; exact hk
        have hpot : -far < Q.pot true v ∧ Q.pot true v < far := by unfold Qs.pot; simp; omega
        refine hsg ?_
        rw [pBin_add, w64 (by omega) (by omega)]
        -- behind the heap
        have k2 : ∀ F' hh, Own h0 hh (seaL Q rs r va vp b hp lm am cm fo fh F' { S with sd := upd1 S.sd true ((S.sd true).put (Q.pot true) v a d) } ve M) → sh_both_search_reach_k2 Tryz.prog (ptr (b true)) (ptr rs) (I v) (I d) K hh := fun F' hh o => by
          unfold sh_both_search_reach_k2
          simp only [pNil_ptr, pField_ptr]
          refine o.load 6 rfl rfl ?_
          rw [pBin_sub, show IntKind.i64.wrap (1 - sI true) = sI false from rfl, pIdxA_ptr]
          refine ⟨by decide, o.load 0 rfl rfl ?_⟩
          simp only [pNil_ptr, pField_ptr]
          refine o.load 1 rfl rfl (o.look 3 rfl ?_)
          rw [if_pos rfl]
          simp only [pExt0, pExt1]
          cases hm : (S.sd false).lab v with
          | none =>
            have hn : S.near true v d = none := by unfold BW.near; rw [show (!true) = false from rfl, hm]
            have : valM (S.sd false).lab (v : Int) = none := by unfold valM; rw [hm]; rfl
            show ifV (.bool (valM (S.sd false).lab (v : Int)).isSome) _ _
            rw [this, Option.isSome_none, ifV_false]
            refine hK F' hh ?_
            have hS : Q.put S true v a d = { S with sd := upd1 S.sd true ((S.sd true).put (Q.pot true) v a d) } := by unfold Qs.put; rw [hn]; rfl
            rw [hS]; exact o
          | some m =>
            have hm2 : valM (S.sd false).lab (v : Int) = some (I m) := by unfold valM; rw [hm]; rfl
            obtain ⟨_, _, _, _, m0, mB, _⟩ := (H.si false).lab _ _ hm
            have hBn := hB false
            show ifV (.bool (valM (S.sd false).lab (v : Int)).isSome) _ _
            rw [hm2, Option.isSome_some, ifV_true]
            show pBin .add (I d) ((valM (S.sd false).lab (v : Int)).getD (I 0)) _
            rw [hm2, Option.getD_some, pBin_add, w64 (by omega) (by omega)]
            refine o.load 0 rfl rfl ?_
            rw [pBin_lss, ifV_dec]
            refine ⟨fun hlt => ?_, fun hge => ?_⟩
            · have hn : S.near true v d = some (d + m) := by unfold BW.near; rw [show (!true) = false from rfl, hm]; exact if_pos hlt
              have hS : Q.put S true v a d = ⟨upd1 S.sd true ((S.sd true).put (Q.pot true) v a d), S.ev, d + m, (v : Int)⟩ := by unfold Qs.put; rw [hn]; rfl
              show pBin .add (I d) ((valM (S.sd false).lab (v : Int)).getD (I 0)) _
              rw [hm2, Option.getD_some, pBin_add, w64 (by omega) (by omega)]
              refine o.st1 0 rfl rfl rfl rfl rfl fun h9 o9 => o9.st1 0 rfl rfl rfl rfl rfl fun h10 o10 => hK F' h10 ?_
              rw [hS]; exact o10
            · have hn : S.near true v d = none := by unfold BW.near; rw [show (!true) = false from rfl, hm]; exact if_neg hge
              have hS : Q.put S true v a d = { S with sd := upd1 S.sd true ((S.sd true).put (Q.pot true) v a d) } := by unfold Qs.put; rw [hn]; rfl
              refine hK F' hh ?_
              rw [hS]; exact o
        cases hl : (S.sd true).lab v with
        | none =>
          have hlv : valM (S.sd true).lab (v : Int) = none := by unfold valM; rw [hl]; rfl
          rw [hlv, Option.isSome_none, ifV_false]
          refine o2.load 6 rfl rfl (ho_push o2 7 rfl (by omega) ((H.si true).notin hl) hv fun F' h5 o5 => ?_)
          refine k2 (fun y => if y = true then F' else F y) h5 ?_
          have hh : ((S.sd true).put (Q.pot true) v a d).hp = ((v : Int), 2 * d + Q.pot true v) :: (S.sd true).hp := by unfold BS.put; rw [hl]
          simp only [seaL, upd1_same, hh, show upd1 S.sd true ((S.sd true).put (Q.pot true) v a d) false = S.sd false from upd1_not (x := true)]
          exact o5
        | some was =>
          have hlv : valM (S.sd true).lab (v : Int) = some (I was) := by unfold valM; rw [hl]; rfl
          obtain ⟨_, e, _, _, _, _, hm⟩ := (H.si true).lab _ _ hl
          obtain rfl := Int.ofNat.inj e
          have hm := hm.resolve_left hc
          have hlow := (takes_iff.1 ht).2.2 was hl
          rw [hlv, Option.isSome_some, ifV_true]
          refine o2.load 6 rfl rfl (ho_lower o2 7 rfl hm (by omega) fun F' h5 o5 => ?_)
          refine k2 (fun y => if y = true then F' else F y) h5 ?_
          have hh : ((S.sd true).put (Q.pot true) v a d).hp = ((v : Int), 2 * d + Q.pot true v) :: (S.sd true).hp.erase ((v : Int), 2 * was + Q.pot true v) := by unfold BS.put; rw [hl]
          simp only [seaL, upd1_same, hh, show upd1 S.sd true ((S.sd true).put (Q.pot true) v a d) false = S.sd false from upd1_not (x := true)]
          exact o5
      cases hl : (S.sd true).lab v with
      | none =>
        have hlv : valM (S.sd true).lab (v : Int) = none := by unfold valM; rw [hl]; rfl
        have := key (takes_iff.2 ⟨hop, hc, fun w hw => by rw [hl] at hw; cases hw⟩)
        rw [hlv] at this
        show ifV (.bool (valM (S.sd true).lab (v : Int)).isSome) _ _
        rw [hlv]
        exact this
      | some was =>
        have hlv : valM (S.sd true).lab (v : Int) = some (I was) := by unfold valM; rw [hl]; rfl
        show ifV (.bool (valM (S.sd true).lab (v : Int)).isSome) _ _
        rw [hlv, Option.isSome_some, ifV_true]
        rw [Option.getD_some, pBin_leq, ifV_dec]
        refine ⟨fun hle => stay ?_, fun hgt => ?_⟩
        · rw [Bool.eq_false_iff]
          intro ht
          have := (takes_iff.1 ht).2.2 was hl
          omega
        · have := key (takes_iff.2 ⟨hop, hc, fun w hw => by rw [hl] at hw; rw [← Option.some.inj hw]; omega⟩)
          rw [hlv] at this
          exact this


theorem breach_ok {x : Bool} {v : Nat} {a d : Int} (hQ : Q.Ok) (H : BI Q S B) (hB : ∀ x, B x ≤ far) (o : Own h0 h (seaL Q rs r va vp b hp lm am cm fo fh F S ve M)) (Hp : Vw encI 1 h0 vp Q.pi) (hv : v < Q.g.n) (hd : 0 ≤ d ∧ d ≤ far)
    (hK : ∀ F' h', Own h0 h' (seaL Q rs r va vp b hp lm am cm fo fh F' (Q.reach S x v a d) ve M) → K (.tuple #[]) h') :
    callS Tryz.prog F_both_search_reach [ptr rs, ptr (b x), I v, I a, I d] h K := by
  cases x
  · exact breach_false hQ H hB o Hp hv hd hK
  · exact breach_true hQ H hB o Hp hv hd hK

end
end Go.Proofs.YtkeoponidgpfpaaGreatDoor

namespace Go.Proofs.YtkeoponidgpfpaaGreatDoor
open Go Go.Mh
set_option linter.unusedVariables false

section
variable {h0 h : Heap} {L M : List Res} {K : Value → Heap → Prop} {Q : Qs} {rs r : Nat} {va vp ve : Value} {b hp lm am cm : Bool → Nat} {fo fh : Bool → Value} {F : Bool → Nat → Prop} {S : BW} {B : Bool → Int}

/-- What is searched next. -/
def nextV (b : Bool → Nat) (S : BW) : Value := match S.next with
  | none => .pointer none
  | some x => ptr (b x)

theorem bnext_ok (H : BI Q S B) (hB : ∀ x, B x ≤ far) (o : Own h0 h (seaL Q rs r va vp b hp lm am cm fo fh F S ve M)) (hK : K (nextV b S) h) : callS Tryz.prog F_both_search_next [ptr rs] h K := by
  have hfar : far = 72057594037927936 := rfl
  refine callS_of (lk_both_search_next _ ?_)
  unfold sh_both_search_next sh_both_search_next_k1
  simp only [pNil_ptr, pField_ptr]
  have bnd : ∀ x p, p ∈ (S.sd x).hp → - (4 * far) ≤ p.2 ∧ p.2 ≤ 4 * far := fun x p hp => by
    obtain ⟨u, _, _, d, h1, h2⟩ := (H.si x).ent p hp
    obtain ⟨u', e, _, ho, d0, dB, _⟩ := (H.si x).lab _ _ h1
    obtain rfl := Int.ofNat.inj e
    have hp := Qs.p_opn ho
    have hb := hB x
    have hq : Q.pot x u = Q.p u ∨ Q.pot x u = - Q.p u := by cases x; exact .inl rfl; exact .inr rfl
    omega
  have hdist := H.c3
  have hd0 : -far ≤ S.dist := by
    rcases H.c2 with h | ⟨u, d0, d1, _, h2, h3, h4⟩
    · omega
    · obtain ⟨_, _, _, _, a1, _⟩ := (H.si false).lab _ _ h2
      obtain ⟨_, _, _, _, a2, _⟩ := (H.si true).lab _ _ h3
      omega
  rw [pIdxA_ptr]
  refine ⟨by decide, o.load 0 rfl rfl ?_⟩
  simp only [pNil_ptr, pField_ptr]
  refine o.load 1 rfl rfl (ho_least o 2 rfl (fun hl => ?_) fun p hl => ?_)
  · have hn : nextV b S = .pointer none := by unfold nextV BW.next; rw [hl]
    rw [hn] at hK
    simp only [pExt0, pExt1]
    rw [pIdxA_ptr]
    refine ⟨by decide, o.load 0 rfl rfl ?_⟩
    simp only [pNil_ptr, pField_ptr]
    refine o.load 6 rfl rfl (ho_least o 7 rfl (fun hl => ?_) fun p hl => ?_)
    · simp only [pExt0, pExt1]
      rw [pUn_not, Bool.not_false, ifV_true]; exact hK
    · simp only [pExt0, pExt1]
      rw [pUn_not, Bool.not_false, ifV_true]; exact hK
  · simp only [pExt0, pExt1]
    rw [pIdxA_ptr]
    refine ⟨by decide, o.load 0 rfl rfl ?_⟩
    simp only [pNil_ptr, pField_ptr]
    refine o.load 6 rfl rfl (ho_least o 7 rfl (fun hl2 => ?_) fun q hl2 => ?_)
    · have hn : nextV b S = .pointer none := by unfold nextV BW.next; rw [hl, hl2]
      rw [hn] at hK
      simp only [pExt0, pExt1]
      rw [pUn_not, Bool.not_true, ifV_false, pUn_not, Bool.not_false, ifV_true]; exact hK
    · have b1 := bnd false p (least_spec hl).1
      have b2 := bnd true q (least_spec hl2).1
      have hn : nextV b S = if 2 * S.dist ≤ p.2 + q.2 then .pointer none else if p.2 ≤ q.2 then ptr (b false) else ptr (b true) := by
        unfold nextV BW.next
        rw [hl, hl2]
        dsimp only
        by_cases c1 : 2 * S.dist ≤ p.2 + q.2
        · simp only [if_pos c1]
        · by_cases c2 : p.2 ≤ q.2
          · simp only [if_neg c1, if_pos c2]
          · simp only [if_neg c1, if_neg c2]
      rw [hn] at hK
      simp only [pExt0, pExt1]
      rw [pUn_not, Bool.not_true, ifV_false, pUn_not, Bool.not_true, ifV_false, pBin_add, w64 (by omega) (by omega)]
      refine o.load 0 rfl rfl ?_
      rw [pBin_mul, w64 (by omega) (by omega), pBin_geq, ifV_dec]
      refine ⟨fun c1 => by rw [if_pos c1] at hK; exact hK, fun c1 => ?_⟩
      rw [if_neg c1] at hK
      rw [pBin_leq, ifV_dec]
      refine ⟨fun c2 => ?_, fun c2 => ?_⟩
      · rw [if_pos c2] at hK
        rw [pIdxA_ptr]
        exact ⟨by decide, o.load 0 rfl rfl hK⟩
      · rw [if_neg c2] at hK
        rw [pIdxA_ptr]
        exact ⟨by decide, o.load 0 rfl rfl hK⟩

/-- A node popped, its arcs scanned. -/
theorem bstep_false {st : List Stp} (hQ : Q.Ok) (R : RunI Q S st) (hn : S.next = some false) (H : NetR h0 r Q.g) (hN : NextF (fo false) Q.g r (outG Q.g false)) (hE : EndF (fh false) (hdS false))
    (o : Own h0 h (seaL Q rs r va vp b hp lm am cm fo fh F S ve M)) (Hp : Vw encI 1 h0 vp Q.pi) (Ha : Vw encBo 1 h0 va Q.allow) (hev : S.ev.length ≤ 2 ^ 32)
    (hK : ∀ F' ve' h', Own h0 h' (seaL Q rs r va vp b hp lm am cm fo fh F' (Q.step false S) ve' M) → K (.tuple #[]) h') :
    callS Tryz.prog F_both_search_step [ptr rs, ptr (b false)] h K := by
  have hmost := hQ.r.most
  have hmany := hQ.r.many
  have hfar : far = 72057594037927936 := rfl
  obtain ⟨v, k, d, hle, hvn, hno, hlab, B, P⟩ := R.popped hQ hn
  have hstep : Q.step false S = Q.scan false v (Q.pop false ((v : Int), k) S) (outG Q.g false v) := by
    unfold Qs.step
    rw [hle]
    dsimp only
    rw [Int.toNat_natCast]
  rw [hstep] at hK
  refine callS_of (lk_both_search_step _ _ ?_)
  unfold sh_both_search_step
  simp only [pNil_ptr, pField_ptr]
  refine o.load 1 rfl rfl (ho_pop o 2 rfl (fun e => by rw [hle] at e; cases e) fun p hp2 F1 h1 o1 => ?_)
  rw [hle] at hp2
  obtain rfl := Option.some.inj hp2
  simp only [pExt0, pExt1, pExt2]
  refine o1.load 1 rfl rfl (o1.look 5 rfl ?_)
  rw [if_neg (by decide), clo_out hno, Option.getD_none, pBin_add, show IntKind.i64.wrap (0 + 1) = 1 from rfl]
  refine o1.mapPut (f' := clo ((S.sd false).ord ++ [v])) 5 rfl clo_add fun h2 o2 => ?_
  refine o2.load 0 rfl rfl (o2.load 1 rfl rfl (o2.load 1 rfl rfl (o2.look 3 rfl ?_)))
  rw [if_neg (by decide), show (valM (S.sd false).lab (v : Int)).getD (.int .i64 0) = I d by unfold valM; rw [hlab]; rfl]
  refine pBuild_ones (cs' := encE ⟨0, sI false, v, d⟩) (fun p hp => by simp at hp; rcases hp with rfl | rfl | rfl | rfl <;> rfl) rfl rfl ?_
  refine o2.app1 11 (popE ⟨false, v, d⟩) rfl rfl (sizesOk_of rfl) encE_len encE_plain rfl (by decide) (by omega) fun ve1 h3 o3 => ?_
  have hv1 := o3.vw 11 rfl
  refine o3.st1 0 rfl rfl rfl hv1.one hv1.plain fun h4 o4 => ?_
  have hS1 : Q.pop false ((v : Int), k) S = ⟨upd1 S.sd false ((S.sd false).pop v k), S.ev ++ [popE ⟨false, v, d⟩], S.dist, S.meet⟩ := by
    unfold Qs.pop
    rw [hlab]
    simp only [Int.toNat_natCast, Option.getD_some]
  have o5 : Own h0 h4 (seaL Q rs r va vp b hp lm am cm fo fh (fun y => if y = false then F1 else F y) (Q.pop false ((v : Int), k) S) ve1 M) := by
    rw [hS1]
    simp only [seaL, upd1_same, show upd1 S.sd false ((S.sd false).pop v k) true = S.sd true from upd1_not (x := false)]
    exact o4
  have hel : (Q.pop false ((v : Int), k) S).ev.length ≤ 2 ^ 32 + 1 := by rw [hS1]; simp; omega
  clear o1 o2 o3 o4 hv1 hS1
  generalize Q.pop false ((v : Int), k) S = S1 at P hK o5 hel
  refine o5.load 1 rfl rfl (hN h0 h4 _ _ v hvn (H.more o5.ext) o5 fun vl h6 o6 => ?_)
  refine (o6.vw 0 rfl).len ?_
  have hids : ∀ i ∈ outG Q.g false v, i < Q.g.arcs.length ∧ tlS false (arcAt Q.g.arcs i) = v := fun i hi => outG_ok.mem false v i hi
  have hil := @outG_len Q.g false v
  have o7 : Own h0 h6 (seaL Q rs r va vp b hp lm am cm fo fh (fun y => if y = false then F1 else F y) S1 ve1 (slR encN 1 T_int vl (outG Q.g false v) :: M)) := o6.front 13 [1, 2, 3, 4, 5, 6, 7, 8, 9, 10, 11, 12, 0] (by decide) (by decide)
  clear o6 o5
  generalize outG Q.g false v = ids at *
  refine LoopH_count ids.length (fun q y h' => y.1 = I q ∧ ∃ F' ve', Own h0 h' (seaL Q rs r va vp b hp lm am cm fo fh F' (Q.scan false v S1 (ids.take q)) ve' (slR encN 1 T_int vl ids :: M))) ⟨rfl, _, _, o7⟩ ?_
  clear o7
  rintro q ⟨y, ⟨⟩⟩ h7 Z hq ⟨hy, F', ve', o⟩ hZ
  dsimp only at hy hZ ⊢
  subst hy
  unfold sh_both_search_step_L1
  rw [pBin_lss, ifV_dec]
  refine ⟨fun hlt => ?_, fun hge => ?_⟩
  · have hlt : q < ids.length := by omega
    have P1 := P.scan hQ (ids := ids.take q) fun i hi => hids i (List.mem_of_mem_take hi)
    have hsn := scan_snoc (Q := Q) (x := false) (v := v) (S1 := S1) hlt
    have hel2 := scan_evlen (Q := Q) (x := false) (v := v) (ids := ids.take q) (S1 := S1)
    rw [List.length_take] at hel2
    have nxt : ∀ F' ve' h', Own h0 h' (seaL Q rs r va vp b hp lm am cm fo fh F' (Q.scan false v S1 (ids.take (q + 1))) ve' (slR encN 1 T_int vl ids :: M)) → sh_both_search_step_k2 Tryz.prog (I q) (fun a0 hz => Z (a0, ()) hz) h' := fun F' ve' h' o' => by
      unfold sh_both_search_step_k2
      rw [pBin_add, wI q (by omega)]
      exact hZ (_, ()) h' hlt ⟨rfl, F', ve', o'⟩
    obtain ⟨hi, ht⟩ := hids ids[q] (List.getElem_mem hlt)
    rw [hsn] at nxt
    have hread : ∀ {K : Value → Prop}, K (I ids[q]) → pIdx 1 vl (I q) (fun t => pLoad h7 t K) := fun hk => (o.vw 12 rfl).at1 (e := fun x : Nat => I x) (fun _ => rfl) hlt hk
    generalize ids[q] = i at hi ht nxt hsn hread
    generalize Q.scan false v S1 (ids.take q) = S2 at P1 nxt o hel2
    refine hread ?_
    simp only [pNil_ptr, pField_ptr]
    have k3 : Q.alw i = true → sh_both_search_step_k3 Tryz.prog (ptr rs) (ptr (b false)) (I i) (I v) (I q) (fun a0 hz => Z (a0, ()) hz) h7 := fun ha => by
      unfold sh_both_search_step_k3
      simp only [pNil_ptr, pField_ptr]
      refine o.load 0 rfl rfl (o.load 1 rfl rfl ?_)
      refine pBuild_ones (cs' := encE ⟨1, sI false, i, 0⟩) (fun p hp => by simp at hp; rcases hp with rfl | rfl | rfl <;> rfl) rfl rfl ?_
      refine o.app1 11 (scanE false i) rfl rfl (sizesOk_of rfl) encE_len encE_plain rfl (by decide) (by omega) fun ve1 h8 o8 => ?_
      have hv1 := o8.vw 11 rfl
      refine o8.st1 0 rfl rfl rfl hv1.one hv1.plain fun h9 o9 => ?_
      have o9 : Own h0 h9 (seaL Q rs r va vp b hp lm am cm fo fh F' { S2 with ev := S2.ev ++ [scanE false i] } ve1 (slR encN 1 T_int vl ids :: M)) := o9
      refine o9.load 0 rfl rfl (arc_ok (H.more o9.ext) hi fun h10 x10 => ?_)
      have o10 := o9.more x10
      have ea : Q.g.arcs[i] = arcAt Q.g.arcs i := by simp [arcAt, hi]
      rw [ea]
      simp only [pExt0, pExt1]
      refine o10.box fun a9 h11 o11 => o11.st 0 rfl rfl rfl rfl rfl (encA_plain _) fun h12 o12 => ?_
      have hw : ((arcAt Q.g.arcs i).w : Int) ≤ 2147483647 := by
        have := (hQ.r.ends _ (arcAt_mem hi)).2.2
        omega
      have hlv : (valM (S2.sd false).lab (v : Int)).getD (.int .i64 0) = I d := by unfold valM; rw [P1.lab]; rfl
      have hBx := P1.bd
      have hBf := P1.far false
      have hW : (W : Int) = 2147483647 := rfl
      have hd0 := P1.d0
      refine o12.load 2 rfl rfl (o12.ldN (cs' := encA (arcAt Q.g.arcs i)) 0 rfl rfl rfl (o12.load 2 rfl rfl (o12.look 4 rfl ?_)))
      rw [if_neg (by decide), hlv]
      refine o12.load 0 rfl rfl ?_
      rw [pBin_add, w64 (by omega) (by omega)]
      refine hE _ _ _ fun h13 x13 => ?_
      have o13 := o12.more x13
      refine ⟨o13.load 2 rfl rfl rfl, o13.look 4 rfl (by rw [if_neg (by decide), hlv]), o13.load 0 rfl rfl rfl, ?_⟩
      have hends : hdS false (arcAt Q.g.arcs i) < Q.g.n := by
        have := hQ.r.ends _ (arcAt_mem hi)
        exact this.2.1
      refine breach_false hQ (P1.bi.ev _) P1.far o13.tail Hp hends (by omega) fun F2 h14 o14 => ?_
      refine nxt F2 ve1 h14 ?_
      have hsc : Q.scan1 false v S2 i = Q.reach { S2 with ev := S2.ev ++ [scanE false i] } false (hdS false (arcAt Q.g.arcs i)) i (d + (arcAt Q.g.arcs i).w) := by
        unfold Qs.scan1
        rw [if_pos ha, P1.lab]; rfl
      rw [hsc]; exact o14
    have HA := Ha.more o.ext
    refine o.load 0 rfl rfl (HA.len ?_)
    rw [pBin_gtr, ifV_dec]
    refine ⟨fun hpos => ?_, fun hz => k3 ?_⟩
    · have hal : Q.allow.length = Q.g.arcs.length := hQ.allow.resolve_left fun e => by rw [e] at hpos; simp at hpos
      refine o.load 0 rfl rfl (HA.at1 (e := fun x : Bool => .bool x) (fun _ => rfl) (i := i) (by omega) ?_)
      have hai : Q.alw i = Q.allow[i] := by
        unfold Qs.alw
        rw [show Q.allow.isEmpty = false by cases hq : Q.allow with | nil => rw [hq] at hal; simp at hal; omega | cons => rfl]
        simp [List.getD_eq_getElem?_getD, show i < Q.allow.length by omega]
      rw [← hai, pUn_not]
      cases ha : Q.alw i with
      | true => rw [Bool.not_true, ifV_false]; exact k3 ha
      | false =>
        rw [Bool.not_false, ifV_true]
        refine nxt F' ve' h7 ?_
        rw [show Q.scan1 false v S2 i = S2 by unfold Qs.scan1; rw [ha]; rfl]
        exact o
    · have : Q.allow = [] := List.length_eq_zero_iff.1 (by omega)
      unfold Qs.alw
      rw [this]; rfl
  · have : q = ids.length := by omega
    subst this
    rw [List.take_length] at o
    exact hK F' ve' h7 (o.front 13 [0, 1, 2, 3, 4, 5, 6, 7, 8, 9, 10, 11] (by decide) (by decide))

/-- A node popped, its arcs scanned. -/
theorem bstep_true {st : List Stp} (hQ : Q.Ok) (R : RunI Q S st) (hn : S.next = some true) (H : NetR h0 r Q.g) (hN : NextF (fo true) Q.g r (outG Q.g true)) (hE : EndF (fh true) (hdS true))
    (o : Own h0 h (seaL Q rs r va vp b hp lm am cm fo fh F S ve M)) (Hp : Vw encI 1 h0 vp Q.pi) (Ha : Vw encBo 1 h0 va Q.allow) (hev : S.ev.length ≤ 2 ^ 32)
    (hK : ∀ F' ve' h', Own h0 h' (seaL Q rs r va vp b hp lm am cm fo fh F' (Q.step true S) ve' M) → K (.tuple #[]) h') :
    callS Tryz.prog F_both_search_step [ptr rs, ptr (b true)] h K := by
  have hmost := hQ.r.most
  have hmany := hQ.r.many
  have hfar : far = 72057594037927936 := rfl
  obtain ⟨v, k, d, hle, hvn, hno, hlab, B, P⟩ := R.popped hQ hn
  have hstep : Q.step true S = Q.scan true v (Q.pop true ((v : Int), k) S) (outG Q.g true v) := by
    unfold Qs.step
    rw [hle]
    dsimp only
    rw [Int.toNat_natCast]
  rw [hstep] at hK
  refine callS_of (lk_both_search_step _ _ ?_)
  unfold sh_both_search_step
  simp only [pNil_ptr, pField_ptr]
  refine o.load 6 rfl rfl (ho_pop o 7 rfl (fun e => by rw [hle] at e; cases e) fun p hp2 F1 h1 o1 => ?_)
  rw [hle] at hp2
  obtain rfl := Option.some.inj hp2
  simp only [pExt0, pExt1, pExt2]
  refine o1.load 6 rfl rfl (o1.look 10 rfl ?_)
  rw [if_neg (by decide), clo_out hno, Option.getD_none, pBin_add, show IntKind.i64.wrap (0 + 1) = 1 from rfl]
  refine o1.mapPut (f' := clo ((S.sd true).ord ++ [v])) 10 rfl clo_add fun h2 o2 => ?_
  refine o2.load 0 rfl rfl (o2.load 6 rfl rfl (o2.load 6 rfl rfl (o2.look 8 rfl ?_)))
  rw [if_neg (by decide), show (valM (S.sd true).lab (v : Int)).getD (.int .i64 0) = I d by unfold valM; rw [hlab]; rfl]
  refine pBuild_ones (cs' := encE ⟨0, sI true, v, d⟩) (fun p hp => by simp at hp; rcases hp with rfl | rfl | rfl | rfl <;> rfl) rfl rfl ?_
  refine o2.app1 11 (popE ⟨true, v, d⟩) rfl rfl (sizesOk_of rfl) encE_len encE_plain rfl (by decide) (by omega) fun ve1 h3 o3 => ?_
  have hv1 := o3.vw 11 rfl
  refine o3.st1 0 rfl rfl rfl hv1.one hv1.plain fun h4 o4 => ?_
  have hS1 : Q.pop true ((v : Int), k) S = ⟨upd1 S.sd true ((S.sd true).pop v k), S.ev ++ [popE ⟨true, v, d⟩], S.dist, S.meet⟩ := by
    unfold Qs.pop
    rw [hlab]
    simp only [Int.toNat_natCast, Option.getD_some]
  have o5 : Own h0 h4 (seaL Q rs r va vp b hp lm am cm fo fh (fun y => if y = true then F1 else F y) (Q.pop true ((v : Int), k) S) ve1 M) := by
    rw [hS1]
    simp only [seaL, upd1_same, show upd1 S.sd true ((S.sd true).pop v k) false = S.sd false from upd1_not (x := true)]
    exact o4
  have hel : (Q.pop true ((v : Int), k) S).ev.length ≤ 2 ^ 32 + 1 := by rw [hS1]; simp; omega
  clear o1 o2 o3 o4 hv1 hS1
  generalize Q.pop true ((v : Int), k) S = S1 at P hK o5 hel
  refine o5.load 6 rfl rfl (hN h0 h4 _ _ v hvn (H.more o5.ext) o5 fun vl h6 o6 => ?_)
  refine (o6.vw 0 rfl).len ?_
  have hids : ∀ i ∈ outG Q.g true v, i < Q.g.arcs.length ∧ tlS true (arcAt Q.g.arcs i) = v := fun i hi => outG_ok.mem true v i hi
  have hil := @outG_len Q.g true v
  have o7 : Own h0 h6 (seaL Q rs r va vp b hp lm am cm fo fh (fun y => if y = true then F1 else F y) S1 ve1 (slR encN 1 T_int vl (outG Q.g true v) :: M)) := o6.front 13 [1, 2, 3, 4, 5, 6, 7, 8, 9, 10, 11, 12, 0] (by decide) (by decide)
  clear o6 o5
  generalize outG Q.g true v = ids at *
  refine LoopH_count ids.length (fun q y h' => y.1 = I q ∧ ∃ F' ve', Own h0 h' (seaL Q rs r va vp b hp lm am cm fo fh F' (Q.scan true v S1 (ids.take q)) ve' (slR encN 1 T_int vl ids :: M))) ⟨rfl, _, _, o7⟩ ?_
  clear o7
  rintro q ⟨y, ⟨⟩⟩ h7 Z hq ⟨hy, F', ve', o⟩ hZ
  dsimp only at hy hZ ⊢
  subst hy
  unfold sh_both_search_step_L1
  rw [pBin_lss, ifV_dec]
  refine ⟨fun hlt => ?_, fun hge => ?_⟩
  · have hlt : q < ids.length := by omega
    have P1 := P.scan hQ (ids := ids.take q) fun i hi => hids i (List.mem_of_mem_take hi)
    have hsn := scan_snoc (Q := Q) (x := true) (v := v) (S1 := S1) hlt
    have hel2 := scan_evlen (Q := Q) (x := true) (v := v) (ids := ids.take q) (S1 := S1)
    rw [List.length_take] at hel2
    have nxt : ∀ F' ve' h', Own h0 h' (seaL Q rs r va vp b hp lm am cm fo fh F' (Q.scan true v S1 (ids.take (q + 1))) ve' (slR encN 1 T_int vl ids :: M)) → sh_both_search_step_k2 Tryz.prog (I q) (fun a0 hz => Z (a0, ()) hz) h' := fun F' ve' h' o' => by
      unfold sh_both_search_step_k2
      rw [pBin_add, wI q (by omega)]
      exact hZ (_, ()) h' hlt ⟨rfl, F', ve', o'⟩
    obtain ⟨hi, ht⟩ := hids ids[q] (List.getElem_mem hlt)
    rw [hsn] at nxt
    have hread : ∀ {K : Value → Prop}, K (I ids[q]) → pIdx 1 vl (I q) (fun t => pLoad h7 t K) := fun hk => (o.vw 12 rfl).at1 (e := fun x : Nat => I x) (fun _ => rfl) hlt hk
    generalize ids[q] = i at hi ht nxt hsn hread
    generalize Q.scan true v S1 (ids.take q) = S2 at P1 nxt o hel2
    refine hread ?_
    simp only [pNil_ptr, pField_ptr]
    have k3 : Q.alw i = true → sh_both_search_step_k3 Tryz.prog (ptr rs) (ptr (b true)) (I i) (I v) (I q) (fun a0 hz => Z (a0, ()) hz) h7 := fun ha => by
      unfold sh_both_search_step_k3
      simp only [pNil_ptr, pField_ptr]
      refine o.load 0 rfl rfl (o.load 6 rfl rfl ?_)
      refine pBuild_ones (cs' := encE ⟨1, sI true, i, 0⟩) (fun p hp => by simp at hp; rcases hp with rfl | rfl | rfl <;> rfl) rfl rfl ?_
      refine o.app1 11 (scanE true i) rfl rfl (sizesOk_of rfl) encE_len encE_plain rfl (by decide) (by omega) fun ve1 h8 o8 => ?_
      have hv1 := o8.vw 11 rfl
      refine o8.st1 0 rfl rfl rfl hv1.one hv1.plain fun h9 o9 => ?_
      have o9 : Own h0 h9 (seaL Q rs r va vp b hp lm am cm fo fh F' { S2 with ev := S2.ev ++ [scanE true i] } ve1 (slR encN 1 T_int vl ids :: M)) := o9
      refine o9.load 0 rfl rfl (arc_ok (H.more o9.ext) hi fun h10 x10 => ?_)
      have o10 := o9.more x10
      have ea : Q.g.arcs[i] = arcAt Q.g.arcs i := by simp [arcAt, hi]
      rw [ea]
      simp only [pExt0, pExt1]
      refine o10.box fun a9 h11 o11 => o11.st 0 rfl rfl rfl rfl rfl (encA_plain _) fun h12 o12 => ?_
      have hw : ((arcAt Q.g.arcs i).w : Int) ≤ 2147483647 := by
        have := (hQ.r.ends _ (arcAt_mem hi)).2.2
        omega
      have hlv : (valM (S2.sd true).lab (v : Int)).getD (.int .i64 0) = I d := by unfold valM; rw [P1.lab]; rfl
      have hBx := P1.bd
      have hBf := P1.far true
      have hW : (W : Int) = 2147483647 := rfl
      have hd0 := P1.d0
      refine o12.load 7 rfl rfl (o12.ldN (cs' := encA (arcAt Q.g.arcs i)) 0 rfl rfl rfl (o12.load 7 rfl rfl (o12.look 9 rfl ?_)))
      rw [if_neg (by decide), hlv]
      refine o12.load 0 rfl rfl ?_
      rw [pBin_add, w64 (by omega) (by omega)]
      refine hE _ _ _ fun h13 x13 => ?_
      have o13 := o12.more x13
      refine ⟨o13.load 7 rfl rfl rfl, o13.look 9 rfl (by rw [if_neg (by decide), hlv]), o13.load 0 rfl rfl rfl, ?_⟩
      have hends : hdS true (arcAt Q.g.arcs i) < Q.g.n := by
        have := hQ.r.ends _ (arcAt_mem hi)
        exact this.1
      refine breach_true hQ (P1.bi.ev _) P1.far o13.tail Hp hends (by omega) fun F2 h14 o14 => ?_
      refine nxt F2 ve1 h14 ?_
      have hsc : Q.scan1 true v S2 i = Q.reach { S2 with ev := S2.ev ++ [scanE true i] } true (hdS true (arcAt Q.g.arcs i)) i (d + (arcAt Q.g.arcs i).w) := by
        unfold Qs.scan1
        rw [if_pos ha, P1.lab]; rfl
      rw [hsc]; exact o14
    have HA := Ha.more o.ext
    refine o.load 0 rfl rfl (HA.len ?_)
    rw [pBin_gtr, ifV_dec]
    refine ⟨fun hpos => ?_, fun hz => k3 ?_⟩
    · have hal : Q.allow.length = Q.g.arcs.length := hQ.allow.resolve_left fun e => by rw [e] at hpos; simp at hpos
      refine o.load 0 rfl rfl (HA.at1 (e := fun x : Bool => .bool x) (fun _ => rfl) (i := i) (by omega) ?_)
      have hai : Q.alw i = Q.allow[i] := by
        unfold Qs.alw
        rw [show Q.allow.isEmpty = false by cases hq : Q.allow with | nil => rw [hq] at hal; simp at hal; omega | cons => rfl]
        simp [List.getD_eq_getElem?_getD, show i < Q.allow.length by omega]
      rw [← hai, pUn_not]
      cases ha : Q.alw i with
      | true => rw [Bool.not_true, ifV_false]; exact k3 ha
      | false =>
        rw [Bool.not_false, ifV_true]
        refine nxt F' ve' h7 ?_
        rw [show Q.scan1 true v S2 i = S2 by unfold Qs.scan1; rw [ha]; rfl]
        exact o
    · have : Q.allow = [] := List.length_eq_zero_iff.1 (by omega)
      unfold Qs.alw
      rw [this]; rfl
  · have : q = ids.length := by omega
    subst this
    rw [List.take_length] at o
    exact hK F' ve' h7 (o.front 13 [0, 1, 2, 3, 4, 5, 6, 7, 8, 9, 10, 11] (by decide) (by decide))

end
end Go.Proofs.YtkeoponidgpfpaaGreatDoor

namespace Go.Proofs.YtkeoponidgpfpaaGreatDoor
open Go Go.Mh
set_option linter.unusedVariables false

section
variable {h0 h : Heap} {L : List Res} {K : Value → Heap → Prop}

theorem reverse_ok {v : Value} {xs : List Int} (o : Own h0 h L) (i : Nat) (hi : L[i]? = some (slR encI 1 T_int v xs)) (hl : xs.length < 2 ^ 40)
    (hK : ∀ h', Own h0 h' (L.set i (slR encI 1 T_int v xs.reverse)) → K (.tuple #[]) h') : callS Tryz.prog F_slices_Reverse_sl_int_int [v] h K := by
  refine callS_of (lk_slices_Reverse_sl_int_int _ ?_)
  unfold sh_slices_Reverse_sl_int_int
  refine (o.vw i hi).len ?_
  rw [pBin_sub, w64 (by omega) (by omega)]
  have es : L.set i (slR encI 1 T_int v xs) = L := set_same hi
  refine LoopH_count xs.length (fun k x h' => x.1 = I k ∧ x.2.1 = I ((xs.length : Int) - 1 - k) ∧ Own h0 h' (L.set i (slR encI 1 T_int v (rv xs k)))) ⟨rfl, by simp, by rw [rv_zero, es]; exact o⟩ ?_
  rintro k ⟨x, y, ⟨⟩⟩ h Z hk ⟨hx, hy, o⟩ hZ
  dsimp only at hx hy hZ ⊢
  subst hx hy
  unfold sh_slices_Reverse_sl_int_int_L1
  have hi' : (L.set i (slR encI 1 T_int v (rv xs k)))[i]? = some (slR encI 1 T_int v (rv xs k)) := set_get hi
  simp only [pBin_lss, ifV_dec]
  refine ⟨fun hlt => ?_, fun hge => ?_⟩
  · have e : ((xs.length : Int) - 1 - k) = ((xs.length - 1 - k : Nat) : Int) := by omega
    rw [e]
    have hj : xs.length - 1 - k < (rv xs k).length := by rw [rv_len]; omega
    have hk' : k < (rv xs k).length := by rw [rv_len]; omega
    refine (o.vw i hi').atI hj ((o.vw i hi').atI hk' ?_)
    refine o.setI i hi' hk' fun h1 o1 => ?_
    rw [List.set_set] at o1
    refine o1.setI i (set_get hi) (by rw [List.length_set]; exact hj) fun h2 o2 => ?_
    rw [List.set_set, rv_step (by omega)] at o2
    rw [pBin_add, wI k (by omega), pBin_sub, w64 (by omega) (by omega)]
    exact hZ (I (k + 1 : Nat), I _, ()) h2 (by omega) ⟨rfl, congrArg (fun z : Int => I z) (by omega), o2⟩
  · rw [rv_done (by omega)] at o
    exact hK h o

end
end Go.Proofs.YtkeoponidgpfpaaGreatDoor

namespace Go.Proofs.YtkeoponidgpfpaaGreatDoor
open Go Go.Mh
set_option linter.unusedVariables false

section
variable {h0 h : Heap} {L M : List Res} {K : Value → Heap → Prop} {Q : Qs} {rs r : Nat} {va vp ve : Value} {b hp lm am cm : Bool → Nat} {fo fh : Bool → Value} {F : Bool → Nat → Prop} {S : BW} {B : Bool → Int}

/-- What the way back tells of a node. -/
def backT (Q : Qs) (x : Bool) : List Nat → Value
  | [] => .tuple #[I 0, I 0, .bool false]
  | i :: _ => .tuple #[I i, I (tlS x (arcAt Q.g.arcs i)), .bool true]

theorem back1_ok {x : Bool} {x3 s2 u : Nat} {rest : List Nat} {d : Int} {arc : Int → Option Int} {ord : List Nat} {cs : List Value} (hQ : Q.Ok) (H : NetR h r Q.g) (hE : EndF (fh x) (hdS x)) (hcs : cs[0]? = some (ptr r))
    (o : Own h0 h [cellR x3 [ptr (b x)] T_p_both_side, cellR s2 [ptr rs] T_p_both_search, cellR rs cs T_both_search, sideC (b x) (hp x) (lm x) (am x) (cm x) x (fo x) (fh x), mapR (am x) (valM arc)])
    (hb : Bk Q.g.arcs (tlS x) (hdS x) Q.ok arc ord (Q.src x) u rest d) (hK : ∀ h', Ext h h' → K (backT Q x rest) h') :
    callV Tryz.prog (.func (.func F_both_search_back_1) #[] #[ptr x3, ptr s2]) [I u].toArray h K := by
  refine callV_of (l := [I u, ptr x3, ptr s2]) rfl (lk_both_search_back_1 _ _ _ ?_)
  unfold sh_both_search_back_1
  refine o.load 0 rfl rfl ?_
  simp only [pNil_ptr, pField_ptr]
  refine o.load 3 rfl rfl (o.look 4 rfl ?_)
  rw [if_neg (by decide)]
  cases hb with
  | nil ha =>
    rw [show (valM arc (Q.src x : Int)).getD (.int .i64 0) = I (-1) by unfold valM; rw [ha]; rfl, pBin_lss, show decide ((-1 : Int) < 0) = true from rfl, ifV_true]
    exact hK h (.refl _ _)
  | @cons i rest d ha hi hok ho hb =>
    rw [show (valM arc (hdS x (arcAt Q.g.arcs i) : Int)).getD (.int .i64 0) = I i by unfold valM; rw [ha]; rfl, pBin_lss, show decide ((i : Int) < 0) = false from decide_eq_false (by omega), ifV_false]
    refine o.load 1 rfl rfl ?_
    simp only [pNil_ptr, pField_ptr]
    refine o.load 2 rfl hcs (arc_ok H hi fun h1 x1 => ?_)
    have ea : Q.g.arcs[i] = arcAt Q.g.arcs i := by simp [arcAt, hi]
    rw [ea]
    have o1 := o.more x1
    simp only [pExt0, pExt1]
    have he := hQ.r.ends _ (arcAt_mem hi)
    have hmost := hQ.r.most
    have S0 := Own.start h1
    refine S0.box fun a8 h2 s2' => s2'.st 0 rfl rfl rfl rfl rfl (encA_plain _) fun h3 s3 => ?_
    have o3 := o1.more s3.ext
    refine s3.load 0 rfl rfl (s3.load 0 rfl rfl ?_)
    rw [pBin_add, w64 (by omega) (by omega)]
    refine o3.load 0 rfl rfl ?_
    simp only [pNil_ptr, pField_ptr]
    refine o3.load 3 rfl rfl (s3.ldN (cs' := encA (arcAt Q.g.arcs i)) 0 rfl rfl rfl (hE _ _ _ fun h4 x4 => ?_))
    have s4 := s3.more x4
    refine ⟨s4.load 0 rfl rfl rfl, s4.load 0 rfl rfl rfl, ?_⟩
    have e : ((arcAt Q.g.arcs i).f : Int) + (arcAt Q.g.arcs i).t - hdS x (arcAt Q.g.arcs i) = tlS x (arcAt Q.g.arcs i) := by
      cases x
      · show ((arcAt Q.g.arcs i).f : Int) + (arcAt Q.g.arcs i).t - (arcAt Q.g.arcs i).t = (arcAt Q.g.arcs i).f
        omega
      · show ((arcAt Q.g.arcs i).f : Int) + (arcAt Q.g.arcs i).t - (arcAt Q.g.arcs i).f = (arcAt Q.g.arcs i).t
        omega
    rw [pBin_sub, e, w64 (by cases x <;> simp only [tlS] <;> simp <;> omega) (by cases x <;> simp only [tlS] <;> simp <;> omega)]
    exact hK h4 (x1.trans s4.ext fun _ h _ => h)

/-- The arcs by which a side came to where both meet. -/
theorem bback_false {u : Nat} {rr : List Nat} {d : Int} {wa : Value} {di : Int} (hQ : Q.Ok) (H : NetR h0 r Q.g) (hE : EndF (fh false) (hdS false)) (hm : S.meet = (u : Int)) (hrl : rr.length ≤ Q.g.n)
    (o : Own h0 h (cellR rs [ptr r, I Q.s, I Q.t, va, vp, ptr (b false), ptr (b true), I di, wa, ve, I S.meet] T_both_search :: (seaL Q rs r va vp b hp lm am cm fo fh F S ve M).tail))
    (hb : Bk Q.g.arcs (tlS false) (hdS false) Q.ok (S.sd false).arc (S.sd false).ord (Q.src false) u rr d)
    (hK : ∀ w h', Own h0 h' (slR encI 1 T_int w (nI rr) :: cellR rs [ptr r, I Q.s, I Q.t, va, vp, ptr (b false), ptr (b true), I di, wa, ve, I S.meet] T_both_search :: (seaL Q rs r va vp b hp lm am cm fo fh F S ve M).tail) → K w h') :
    callS Tryz.prog F_both_search_back [ptr rs, ptr (b false)] h K := by
  have hmost := hQ.r.most
  refine callS_of (lk_both_search_back _ _ ?_)
  unfold sh_both_search_back
  refine o.box fun s2 h1 o1 => o1.box fun x3 h2 o2 => o2.load 1 rfl rfl ?_
  simp only [pNil_ptr, pField_ptr]
  refine o2.load 2 rfl rfl ?_
  rw [hm]
  refine callS_of (lk_both_chain_int _ _ ?_)
  unfold sh_both_chain_int
  refine back1_ok (x := false) hQ (H.more o2.ext) hE rfl (o2.sel [0, 1, 2, 3, 6] (by decide)) hb fun h3 x3' => ?_
  have o3 := (o2.more x3').nilS (enc := encI) (n := 1) (T := T_int)
  have fin : ∀ w hh, Own h0 hh (slR encI 1 T_int w (nI rr) :: cellR x3 [ptr (b false)] T_p_both_side :: cellR s2 [ptr rs] T_p_both_search :: cellR rs [ptr r, I Q.s, I Q.t, va, vp, ptr (b false), ptr (b true), I di, wa, ve, I S.meet] T_both_search :: (seaL Q rs r va vp b hp lm am cm fo fh F S ve M).tail) → K w hh := fun w hh oo =>
    hK w hh (oo.front 4 [0, 3] (by decide) (by decide))
  have ext : ∀ (rest : List Nat), ∃ p q t, backT Q false rest = .tuple #[p, q, t] ∧ t = .bool (!rest.isEmpty) := fun rest => by cases rest <;> exact ⟨_, _, _, rfl, rfl⟩
  obtain ⟨p, q, t, e1, e2⟩ := ext rr
  rw [e1]
  simp only [pExt0, pExt1, pExt2]
  refine LoopH_down (k0 := rr.length) (fun k y h' => ∃ (acc rest : List Nat) (u' : Nat) (d' : Int), rest.length = k ∧ acc ++ rest = rr ∧ Bk Q.g.arcs (tlS false) (hdS false) Q.ok (S.sd false).arc (S.sd false).ord (Q.src false) u' rest d' ∧
      backT Q false rest = .tuple #[y.2.1, y.2.2.1, y.2.2.2.1] ∧ y.2.2.2.1 = .bool (!rest.isEmpty) ∧ Own h0 h' (slR encI 1 T_int y.1 (nI acc) :: cellR x3 [ptr (b false)] T_p_both_side :: cellR s2 [ptr rs] T_p_both_search :: cellR rs [ptr r, I Q.s, I Q.t, va, vp, ptr (b false), ptr (b true), I di, wa, ve, I S.meet] T_both_search :: (seaL Q rs r va vp b hp lm am cm fo fh F S ve M).tail))
    ⟨[], rr, u, d, rfl, rfl, hb, e1, e2, o3⟩ ?_
  clear o1 o2 o3 o x3' hb e1 e2 p q t
  rintro k ⟨l4, x5, w6, is7, ⟨⟩⟩ h4 Z ⟨acc, rest, u', d', hk, hrr, hb, e1, e2, o⟩ hZ
  dsimp only at e1 e2 o hZ ⊢
  unfold sh_both_chain_int_L1
  subst e2
  cases rest with
  | nil =>
    rw [show (!([] : List Nat).isEmpty) = false from rfl, ifV_false]
    rw [List.append_nil] at hrr
    subst hrr
    exact fin l4 h4 o
  | cons i rest =>
    rw [show (!(i :: rest).isEmpty) = true from rfl, ifV_true]
    simp only [backT, Value.tuple.injEq, Array.mk.injEq, List.cons.injEq, and_true] at e1
    obtain ⟨rfl, rfl, _⟩ := e1
    have hal : acc.length < 2 ^ 30 := by
      have := congrArg List.length hrr
      simp at this; omega
    refine o.app1 0 (i : Int) rfl rfl (sizesOk_of rfl) encI_len encI_plain rfl (by decide) (by rw [nI_len]; omega) fun w2 h5 o5 => ?_
    cases hb with
    | cons ha hi hok ho hb' =>
      refine back1_ok (x := false) hQ (H.more o5.ext) hE rfl (o5.sel [1, 2, 3, 4, 7] (by decide)) hb' fun h6 x6 => ?_
      have o6 := o5.more x6
      obtain ⟨p, q, t, e1, e2⟩ := ext rest
      rw [e1]
      simp only [pExt0, pExt1, pExt2]
      refine hZ (w2, (p, (q, (t, ())))) h6 rest.length (by rw [← hk]; simp) ⟨acc ++ [i], rest, _, _, rfl, by rw [← hrr]; simp, hb', e1, e2, ?_⟩
      rw [show nI (acc ++ [i]) = nI acc ++ [(i : Int)] by simp [nI]]
      exact o6

theorem bbegin_false {v : Value} {p5 p6 : Value} (H : NetR h0 r Q.g) (hfo : (fo false).cells = #[fo false]) (hfh : (fh false).cells = #[fh false]) (hpo : Mh.plainCell (fo false) = true) (hph : Mh.plainCell (fh false) = true)
    (o : Own h0 h (cellR rs [ptr r, I Q.s, I Q.t, va, vp, p5, p6, I far, sl0, sl0, I 0] T_both_search :: M))
    (hK : ∀ b hp lm am cm F h', Own h0 h' (sideC b hp lm am cm false (fo false) (fh false) :: hpR F hp [] Q.g.n :: mapR lm (fun _ => none) :: mapR am (fun _ => none) :: mapR cm (fun _ => none) :: cellR rs [ptr r, I Q.s, I Q.t, va, vp, ptr b, p6, I far, sl0, sl0, I 0] T_both_search :: M) → K (.tuple #[]) h') :
    callS Tryz.prog F_both_search_begin [ptr rs, I (sI false), v, I (if false = true then -1 else 1), fo false, fh false] h K := by
  refine callS_of (lk_both_search_begin _ _ _ _ _ _ ?_)
  unfold sh_both_search_begin
  simp only [pNil_ptr, pField_ptr]
  refine o.load 0 rfl rfl ?_
  have fin : ∀ hp lm am cm F hh, Own h0 hh (hpR F hp [] Q.g.n :: mapR lm (fun _ => none) :: mapR am (fun _ => none) :: mapR cm (fun _ => none) :: cellR rs [ptr r, I Q.s, I Q.t, va, vp, p5, p6, I far, sl0, sl0, I 0] T_both_search :: M) →
      (pBuild [(.pointer none), (.int .i64 0), (.int .i64 0), .nilFunc, .nilFunc, (.map none), (.map none), (.map none)] [(0, 1, ptr hp), (1, 1, I (sI false)), (2, 1, I (if false = true then -1 else 1)), (3, 1, fo false), (4, 1, fh false), (5, 1, .map (some lm)), (6, 1, .map (some am)), (7, 1, .map (some cm))] fun t27 =>
        pBox T_both_side t27 hh fun t28 h_6 => pIdxA 1 2 (.pointer (some ⟨rs, 0 + 5, none⟩)) (I (sI false)) fun t31 => pStore 1 t31 t28 h_6 fun u h_7 => K (.tuple #[]) h_7) := fun hp lm am cm F hh o => by
    refine pBuild_ones (cs' := [ptr hp, I (sI false), I (if false = true then -1 else 1), fo false, fh false, .map (some lm), .map (some am), .map (some cm)]) (fun p hp => by
      simp only [List.mem_cons, List.not_mem_nil, or_false] at hp
      rcases hp with rfl | rfl | rfl | rfl | rfl | rfl | rfl | rfl <;> first | rfl | exact hfo | exact hfh) rfl rfl ?_
    refine o.box fun bb h6 o6 => ?_
    rw [pIdxA_ptr]
    refine ⟨by decide, o6.st1 5 rfl rfl rfl rfl rfl fun h7 o7 => hK bb hp lm am cm F h7 ?_⟩
    exact o7
  repeat' (first
    | with_reducible apply And.intro
    | (with_reducible show pMakeMap _ _); refine o.mkMap fun m hh o => ?_
    | (with_reducible show callS _ F_net_Net_Nodes _ _ _); refine nodes_ok (H.more o.ext) ?_
    | (with_reducible show callS _ F_heap_New _ _ _); refine ho_new o fun FF hp hh o => ?_
    | (with_reducible show pBuild _ _ _)
      first
          | exact fin _ _ _ _ _ _ (o.front 5 [0, 1, 2, 3, 4] (by decide) (by decide))
          | exact fin _ _ _ _ _ _ (o.front 5 [0, 1, 3, 2, 4] (by decide) (by decide))
          | exact fin _ _ _ _ _ _ (o.front 5 [0, 2, 1, 3, 4] (by decide) (by decide))
          | exact fin _ _ _ _ _ _ (o.front 5 [0, 2, 3, 1, 4] (by decide) (by decide))
          | exact fin _ _ _ _ _ _ (o.front 5 [0, 3, 1, 2, 4] (by decide) (by decide))
          | exact fin _ _ _ _ _ _ (o.front 5 [0, 3, 2, 1, 4] (by decide) (by decide))
          | exact fin _ _ _ _ _ _ (o.front 5 [1, 0, 2, 3, 4] (by decide) (by decide))
          | exact fin _ _ _ _ _ _ (o.front 5 [1, 0, 3, 2, 4] (by decide) (by decide))
          | exact fin _ _ _ _ _ _ (o.front 5 [1, 2, 0, 3, 4] (by decide) (by decide))
          | exact fin _ _ _ _ _ _ (o.front 5 [1, 2, 3, 0, 4] (by decide) (by decide))
          | exact fin _ _ _ _ _ _ (o.front 5 [1, 3, 0, 2, 4] (by decide) (by decide))
          | exact fin _ _ _ _ _ _ (o.front 5 [1, 3, 2, 0, 4] (by decide) (by decide))
          | exact fin _ _ _ _ _ _ (o.front 5 [2, 0, 1, 3, 4] (by decide) (by decide))
          | exact fin _ _ _ _ _ _ (o.front 5 [2, 0, 3, 1, 4] (by decide) (by decide))
          | exact fin _ _ _ _ _ _ (o.front 5 [2, 1, 0, 3, 4] (by decide) (by decide))
          | exact fin _ _ _ _ _ _ (o.front 5 [2, 1, 3, 0, 4] (by decide) (by decide))
          | exact fin _ _ _ _ _ _ (o.front 5 [2, 3, 0, 1, 4] (by decide) (by decide))
          | exact fin _ _ _ _ _ _ (o.front 5 [2, 3, 1, 0, 4] (by decide) (by decide))
          | exact fin _ _ _ _ _ _ (o.front 5 [3, 0, 1, 2, 4] (by decide) (by decide))
          | exact fin _ _ _ _ _ _ (o.front 5 [3, 0, 2, 1, 4] (by decide) (by decide))
          | exact fin _ _ _ _ _ _ (o.front 5 [3, 1, 0, 2, 4] (by decide) (by decide))
          | exact fin _ _ _ _ _ _ (o.front 5 [3, 1, 2, 0, 4] (by decide) (by decide))
          | exact fin _ _ _ _ _ _ (o.front 5 [3, 2, 0, 1, 4] (by decide) (by decide))
          | exact fin _ _ _ _ _ _ (o.front 5 [3, 2, 1, 0, 4] (by decide) (by decide)))


/-- The arcs by which a side came to where both meet. -/
theorem bback_true {u : Nat} {rr : List Nat} {d : Int} {wa : Value} {di : Int} (hQ : Q.Ok) (H : NetR h0 r Q.g) (hE : EndF (fh true) (hdS true)) (hm : S.meet = (u : Int)) (hrl : rr.length ≤ Q.g.n)
    (o : Own h0 h (cellR rs [ptr r, I Q.s, I Q.t, va, vp, ptr (b false), ptr (b true), I di, wa, ve, I S.meet] T_both_search :: (seaL Q rs r va vp b hp lm am cm fo fh F S ve M).tail))
    (hb : Bk Q.g.arcs (tlS true) (hdS true) Q.ok (S.sd true).arc (S.sd true).ord (Q.src true) u rr d)
    (hK : ∀ w h', Own h0 h' (slR encI 1 T_int w (nI rr) :: cellR rs [ptr r, I Q.s, I Q.t, va, vp, ptr (b false), ptr (b true), I di, wa, ve, I S.meet] T_both_search :: (seaL Q rs r va vp b hp lm am cm fo fh F S ve M).tail) → K w h') :
    callS Tryz.prog F_both_search_back [ptr rs, ptr (b true)] h K := by
  have hmost := hQ.r.most
  refine callS_of (lk_both_search_back _ _ ?_)
  unfold sh_both_search_back
  refine o.box fun s2 h1 o1 => o1.box fun x3 h2 o2 => o2.load 1 rfl rfl ?_
  simp only [pNil_ptr, pField_ptr]
  refine o2.load 2 rfl rfl ?_
  rw [hm]
  refine callS_of (lk_both_chain_int _ _ ?_)
  unfold sh_both_chain_int
  refine back1_ok (x := true) hQ (H.more o2.ext) hE rfl (o2.sel [0, 1, 2, 8, 11] (by decide)) hb fun h3 x3' => ?_
  have o3 := (o2.more x3').nilS (enc := encI) (n := 1) (T := T_int)
  have fin : ∀ w hh, Own h0 hh (slR encI 1 T_int w (nI rr) :: cellR x3 [ptr (b true)] T_p_both_side :: cellR s2 [ptr rs] T_p_both_search :: cellR rs [ptr r, I Q.s, I Q.t, va, vp, ptr (b false), ptr (b true), I di, wa, ve, I S.meet] T_both_search :: (seaL Q rs r va vp b hp lm am cm fo fh F S ve M).tail) → K w hh := fun w hh oo =>
    hK w hh (oo.front 4 [0, 3] (by decide) (by decide))
  have ext : ∀ (rest : List Nat), ∃ p q t, backT Q true rest = .tuple #[p, q, t] ∧ t = .bool (!rest.isEmpty) := fun rest => by cases rest <;> exact ⟨_, _, _, rfl, rfl⟩
  obtain ⟨p, q, t, e1, e2⟩ := ext rr
  rw [e1]
  simp only [pExt0, pExt1, pExt2]
  refine LoopH_down (k0 := rr.length) (fun k y h' => ∃ (acc rest : List Nat) (u' : Nat) (d' : Int), rest.length = k ∧ acc ++ rest = rr ∧ Bk Q.g.arcs (tlS true) (hdS true) Q.ok (S.sd true).arc (S.sd true).ord (Q.src true) u' rest d' ∧
      backT Q true rest = .tuple #[y.2.1, y.2.2.1, y.2.2.2.1] ∧ y.2.2.2.1 = .bool (!rest.isEmpty) ∧ Own h0 h' (slR encI 1 T_int y.1 (nI acc) :: cellR x3 [ptr (b true)] T_p_both_side :: cellR s2 [ptr rs] T_p_both_search :: cellR rs [ptr r, I Q.s, I Q.t, va, vp, ptr (b false), ptr (b true), I di, wa, ve, I S.meet] T_both_search :: (seaL Q rs r va vp b hp lm am cm fo fh F S ve M).tail))
    ⟨[], rr, u, d, rfl, rfl, hb, e1, e2, o3⟩ ?_
  clear o1 o2 o3 o x3' hb e1 e2 p q t
  rintro k ⟨l4, x5, w6, is7, ⟨⟩⟩ h4 Z ⟨acc, rest, u', d', hk, hrr, hb, e1, e2, o⟩ hZ
  dsimp only at e1 e2 o hZ ⊢
  unfold sh_both_chain_int_L1
  subst e2
  cases rest with
  | nil =>
    rw [show (!([] : List Nat).isEmpty) = false from rfl, ifV_false]
    rw [List.append_nil] at hrr
    subst hrr
    exact fin l4 h4 o
  | cons i rest =>
    rw [show (!(i :: rest).isEmpty) = true from rfl, ifV_true]
    simp only [backT, Value.tuple.injEq, Array.mk.injEq, List.cons.injEq, and_true] at e1
    obtain ⟨rfl, rfl, _⟩ := e1
    have hal : acc.length < 2 ^ 30 := by
      have := congrArg List.length hrr
      simp at this; omega
    refine o.app1 0 (i : Int) rfl rfl (sizesOk_of rfl) encI_len encI_plain rfl (by decide) (by rw [nI_len]; omega) fun w2 h5 o5 => ?_
    cases hb with
    | cons ha hi hok ho hb' =>
      refine back1_ok (x := true) hQ (H.more o5.ext) hE rfl (o5.sel [1, 2, 3, 9, 12] (by decide)) hb' fun h6 x6 => ?_
      have o6 := o5.more x6
      obtain ⟨p, q, t, e1, e2⟩ := ext rest
      rw [e1]
      simp only [pExt0, pExt1, pExt2]
      refine hZ (w2, (p, (q, (t, ())))) h6 rest.length (by rw [← hk]; simp) ⟨acc ++ [i], rest, _, _, rfl, by rw [← hrr]; simp, hb', e1, e2, ?_⟩
      rw [show nI (acc ++ [i]) = nI acc ++ [(i : Int)] by simp [nI]]
      exact o6

theorem bbegin_true {v : Value} {p5 p6 : Value} (H : NetR h0 r Q.g) (hfo : (fo true).cells = #[fo true]) (hfh : (fh true).cells = #[fh true]) (hpo : Mh.plainCell (fo true) = true) (hph : Mh.plainCell (fh true) = true)
    (o : Own h0 h (cellR rs [ptr r, I Q.s, I Q.t, va, vp, p5, p6, I far, sl0, sl0, I 0] T_both_search :: M))
    (hK : ∀ b hp lm am cm F h', Own h0 h' (sideC b hp lm am cm true (fo true) (fh true) :: hpR F hp [] Q.g.n :: mapR lm (fun _ => none) :: mapR am (fun _ => none) :: mapR cm (fun _ => none) :: cellR rs [ptr r, I Q.s, I Q.t, va, vp, p5, ptr b, I far, sl0, sl0, I 0] T_both_search :: M) → K (.tuple #[]) h') :
    callS Tryz.prog F_both_search_begin [ptr rs, I (sI true), v, I (if true = true then -1 else 1), fo true, fh true] h K := by
  refine callS_of (lk_both_search_begin _ _ _ _ _ _ ?_)
  unfold sh_both_search_begin
  simp only [pNil_ptr, pField_ptr]
  refine o.load 0 rfl rfl ?_
  have fin : ∀ hp lm am cm F hh, Own h0 hh (hpR F hp [] Q.g.n :: mapR lm (fun _ => none) :: mapR am (fun _ => none) :: mapR cm (fun _ => none) :: cellR rs [ptr r, I Q.s, I Q.t, va, vp, p5, p6, I far, sl0, sl0, I 0] T_both_search :: M) →
      (pBuild [(.pointer none), (.int .i64 0), (.int .i64 0), .nilFunc, .nilFunc, (.map none), (.map none), (.map none)] [(0, 1, ptr hp), (1, 1, I (sI true)), (2, 1, I (if true = true then -1 else 1)), (3, 1, fo true), (4, 1, fh true), (5, 1, .map (some lm)), (6, 1, .map (some am)), (7, 1, .map (some cm))] fun t27 =>
        pBox T_both_side t27 hh fun t28 h_6 => pIdxA 1 2 (.pointer (some ⟨rs, 0 + 5, none⟩)) (I (sI true)) fun t31 => pStore 1 t31 t28 h_6 fun u h_7 => K (.tuple #[]) h_7) := fun hp lm am cm F hh o => by
    refine pBuild_ones (cs' := [ptr hp, I (sI true), I (if true = true then -1 else 1), fo true, fh true, .map (some lm), .map (some am), .map (some cm)]) (fun p hp => by
      simp only [List.mem_cons, List.not_mem_nil, or_false] at hp
      rcases hp with rfl | rfl | rfl | rfl | rfl | rfl | rfl | rfl <;> first | rfl | exact hfo | exact hfh) rfl rfl ?_
    refine o.box fun bb h6 o6 => ?_
    rw [pIdxA_ptr]
    refine ⟨by decide, o6.st1 5 rfl rfl rfl rfl rfl fun h7 o7 => hK bb hp lm am cm F h7 ?_⟩
    exact o7
  repeat' (first
    | with_reducible apply And.intro
    | (with_reducible show pMakeMap _ _); refine o.mkMap fun m hh o => ?_
    | (with_reducible show callS _ F_net_Net_Nodes _ _ _); refine nodes_ok (H.more o.ext) ?_
    | (with_reducible show callS _ F_heap_New _ _ _); refine ho_new o fun FF hp hh o => ?_
    | (with_reducible show pBuild _ _ _)
      first
          | exact fin _ _ _ _ _ _ (o.front 5 [0, 1, 2, 3, 4] (by decide) (by decide))
          | exact fin _ _ _ _ _ _ (o.front 5 [0, 1, 3, 2, 4] (by decide) (by decide))
          | exact fin _ _ _ _ _ _ (o.front 5 [0, 2, 1, 3, 4] (by decide) (by decide))
          | exact fin _ _ _ _ _ _ (o.front 5 [0, 2, 3, 1, 4] (by decide) (by decide))
          | exact fin _ _ _ _ _ _ (o.front 5 [0, 3, 1, 2, 4] (by decide) (by decide))
          | exact fin _ _ _ _ _ _ (o.front 5 [0, 3, 2, 1, 4] (by decide) (by decide))
          | exact fin _ _ _ _ _ _ (o.front 5 [1, 0, 2, 3, 4] (by decide) (by decide))
          | exact fin _ _ _ _ _ _ (o.front 5 [1, 0, 3, 2, 4] (by decide) (by decide))
          | exact fin _ _ _ _ _ _ (o.front 5 [1, 2, 0, 3, 4] (by decide) (by decide))
          | exact fin _ _ _ _ _ _ (o.front 5 [1, 2, 3, 0, 4] (by decide) (by decide))
          | exact fin _ _ _ _ _ _ (o.front 5 [1, 3, 0, 2, 4] (by decide) (by decide))
          | exact fin _ _ _ _ _ _ (o.front 5 [1, 3, 2, 0, 4] (by decide) (by decide))
          | exact fin _ _ _ _ _ _ (o.front 5 [2, 0, 1, 3, 4] (by decide) (by decide))
          | exact fin _ _ _ _ _ _ (o.front 5 [2, 0, 3, 1, 4] (by decide) (by decide))
          | exact fin _ _ _ _ _ _ (o.front 5 [2, 1, 0, 3, 4] (by decide) (by decide))
          | exact fin _ _ _ _ _ _ (o.front 5 [2, 1, 3, 0, 4] (by decide) (by decide))
          | exact fin _ _ _ _ _ _ (o.front 5 [2, 3, 0, 1, 4] (by decide) (by decide))
          | exact fin _ _ _ _ _ _ (o.front 5 [2, 3, 1, 0, 4] (by decide) (by decide))
          | exact fin _ _ _ _ _ _ (o.front 5 [3, 0, 1, 2, 4] (by decide) (by decide))
          | exact fin _ _ _ _ _ _ (o.front 5 [3, 0, 2, 1, 4] (by decide) (by decide))
          | exact fin _ _ _ _ _ _ (o.front 5 [3, 1, 0, 2, 4] (by decide) (by decide))
          | exact fin _ _ _ _ _ _ (o.front 5 [3, 1, 2, 0, 4] (by decide) (by decide))
          | exact fin _ _ _ _ _ _ (o.front 5 [3, 2, 0, 1, 4] (by decide) (by decide))
          | exact fin _ _ _ _ _ _ (o.front 5 [3, 2, 1, 0, 4] (by decide) (by decide)))

end
end Go.Proofs.YtkeoponidgpfpaaGreatDoor

namespace Go.Proofs.YtkeoponidgpfpaaGreatDoor
open Go Go.Mh
set_option linter.unusedVariables false

def rightP (g : G) (f t : Int) (la lp : Nat) : Prop := ((0 ≤ f ∧ f < g.n) ∧ (0 ≤ t ∧ t < g.n)) ∧ (la = 0 ∨ la = g.arcs.length) ∧ (lp = 0 ∨ lp = g.n)
instance {g : G} {f t : Int} {la lp : Nat} : Decidable (rightP g f t la lp) := by unfold rightP; infer_instance

section
variable {h0 h : Heap} {L M : List Res} {K : Value → Heap → Prop} {g : G} {r : Nat} {va vp : Value} {allow : List Bool} {pi : List Int} {f t : Int}

theorem bright1_ok {n2 : Nat} {z : Int} (H : NetR h r g) (hc : hcell h ⟨n2, 0, none⟩ = some (ptr r)) (hK : K (.bool (decide (0 ≤ z ∧ z < g.n))) h) : callV Tryz.prog (.func (.func F_both_right_1) #[] #[ptr n2]) [I z].toArray h K := by
  refine callV_of (l := [I z, ptr n2]) rfl (lk_both_right_1 _ _ ?_)
  unfold sh_both_right_1
  rw [pBin_geq, ifV_dec]
  refine ⟨fun h1 => pLoad_of rfl hc (nodes_ok H ?_), fun h1 => ?_⟩
  · rw [pBin_lss]
    rw [show decide (0 ≤ z ∧ z < g.n) = decide (z < g.n) by simp [h1]] at hK
    exact hK
  · rw [show decide (0 ≤ z ∧ z < g.n) = false from decide_eq_false fun h => h1 h.1] at hK
    exact hK
theorem bright2_ok {a c : Nat} (hK : K (.bool (decide (a = 0 ∨ a = c))) h) : callV Tryz.prog (.func (.func F_both_right_2) #[] #[]) [I a, I c].toArray h K := by
  refine callV_of (l := [I a, I c]) rfl (lk_both_right_2 _ _ ?_)
  unfold sh_both_right_2
  rw [pBin_eql, ifV_beq]
  refine ⟨fun h1 => ?_, fun h1 => ?_⟩
  · rw [show decide (a = 0 ∨ a = c) = true from decide_eq_true (.inl (by omega))] at hK
    exact hK
  · rw [pBin_eql]
    rw [show decide (a = 0 ∨ a = c) = ((a : Int) == (c : Int)) by
      rw [Bool.eq_iff_iff, decide_eq_true_eq, beq_iff_eq]
      omega] at hK
    exact hK

theorem bright_ok (H : NetR h r g) (Ha : Vw encBo 1 h va allow) (Hp : Vw encI 1 h vp pi) (hK : ∀ h', Ext h h' → K (.bool (decide (rightP g f t allow.length pi.length))) h') : callS Tryz.prog F_both_right [ptr r, .agg #[I f, I t, va, vp]] h K := by
  refine callS_of (lk_both_right _ _ ?_)
  unfold sh_both_right
  refine (Own.start h).box fun n2 h1 o1 => o1.box fun a3 h2 o2 => ?_
  have o : Own h h2 [cellR a3 [I f, I t, va, vp] T_api_Ask, cellR n2 [ptr r] T_p_net_Net] := o2
  refine cutP_of (fun y h'' => y.1 = .bool (decide (rightP g f t allow.length pi.length)) ∧ h'' = h2) (fun J hJ => ?_) ?_
  · have fin : ∀ b : Bool, (b = true ↔ rightP g f t allow.length pi.length) → J (.bool b, ()) h2 := fun b hb => hJ _ _ ⟨by
      show Value.bool b = _
      congr 1
      rw [Bool.eq_iff_iff, decide_eq_true_eq]; exact hb, rfl⟩
    have no : ¬ rightP g f t allow.length pi.length → J (.bool false, ()) h2 := fun hn => fin false ⟨fun h => (by cases h), fun h => absurd h hn⟩
    have cn : hcell h2 ⟨n2, 0, none⟩ = some (ptr r) := hcell_of (o.get 1 rfl) rfl
    simp only [pField_ptr]
    refine o.load 0 rfl rfl (bright1_ok (H.more o.ext) cn ?_)
    rw [ifV_dec]
    refine ⟨fun h1 => ?_, fun h1 => no fun h => h1 h.1.1⟩
    refine o.load 0 rfl rfl (bright1_ok (H.more o.ext) cn ?_)
    rw [ifV_dec]
    refine ⟨fun h2 => ?_, fun h2 => no fun h => h2 h.1.2⟩
    refine o.load 0 rfl rfl ((Ha.more o.ext).len (o.load 1 rfl rfl (arcs_ok (H.more o.ext) ⟨o.load 0 rfl rfl rfl, bright2_ok ?_⟩)))
    rw [ifV_dec]
    refine ⟨fun h3 => ?_, fun h3 => no fun h => h3 h.2.1⟩
    refine o.load 0 rfl rfl ((Hp.more o.ext).len (o.load 1 rfl rfl (nodes_ok (H.more o.ext) ⟨o.load 0 rfl rfl rfl, bright2_ok ?_⟩)))
    refine fin _ ?_
    rw [decide_eq_true_eq]
    exact ⟨fun h => ⟨⟨h1, h2⟩, h3, h⟩, fun h => h.2.2⟩
  · rintro ⟨y, ⟨⟩⟩ h3 ⟨hy, rfl⟩
    dsimp only at hy ⊢
    subst hy
    unfold sh_both_right_C1
    exact hK _ o.ext

def foV (r : Nat) (x : Bool) : Value := if x then .func (.func F_net_Net_In) #[ptr r] #[] else .func (.func F_net_Net_Out) #[ptr r] #[]
def fhV (x : Bool) : Value := if x then .func (.func F_both_Run_2) #[] #[] else .func (.func F_both_Run_1) #[] #[]

theorem run1_end : EndF (fhV false) (hdS false) := by
  intro a h K hK
  refine callV_of (l := [.agg (encA a).toArray]) rfl (lk_both_Run_1 _ ?_)
  unfold sh_both_Run_1
  refine (Own.start h).box fun b h1 o1 => ?_
  simp only [pField_ptr]
  exact o1.load 0 rfl rfl (hK _ o1.ext)
theorem run2_end : EndF (fhV true) (hdS true) := by
  intro a h K hK
  refine callV_of (l := [.agg (encA a).toArray]) rfl (lk_both_Run_2 _ ?_)
  unfold sh_both_Run_2
  refine (Own.start h).box fun b h1 o1 => ?_
  simp only [pField_ptr]
  exact o1.load 0 rfl rfl (hK _ o1.ext)
theorem fo_next (hR : g.Right) (x : Bool) : NextF (foV r x) g r (outG g x) := by
  cases x
  · exact out_next hR
  · exact in_next hR
theorem fh_end (x : Bool) : EndF (fhV x) (hdS x) := by
  cases x
  · exact run1_end
  · exact run2_end

/-- What is found. -/
def FoundB (Q : Qs) (arcs : List Nat) : Prop := (Q.fin.dist = far ∧ arcs = []) ∨ (Q.fin.dist ≠ far ∧ Trail Q.g.arcs Q.s arcs Q.t ∧ tsum Q.g.arcs arcs = Q.fin.dist ∧ arcs.length ≤ 2 * Q.g.n ∧ ∀ i ∈ arcs, i < Q.g.arcs.length ∧ Q.ok i = true)

theorem brun_ok (hR : g.Right) (H : NetR h r g) (Ha : Vw encBo 1 h va allow) (Hp : Vw encI 1 h vp pi)
    (hbad : ¬ rightP g f t allow.length pi.length → ∀ h', Ext h h' → K (.tuple #[.agg #[I 0, sl0, sl0], I 2]) h') (hsame : rightP g f t allow.length pi.length → f = t → ∀ h', Ext h h' → K (.tuple #[.agg #[I 0, sl0, sl0], I 0]) h')
    (hfound : ∀ s t', f = ((s : Nat) : Int) → t = ((t' : Nat) : Int) → (Qs.mk g s t' allow pi).Ok → s ≠ t' → ∀ wa we arcs h', FoundB ⟨g, s, t', allow, pi⟩ arcs → Own h h' [slR encI 1 T_int wa (nI arcs), slR encE 4 T_api_Event we (Qs.mk g s t' allow pi).fin.ev] →
      K (.tuple #[.agg #[I (Qs.mk g s t' allow pi).fin.dist, wa, we], I 0]) h') : callS Tryz.prog F_both_Run [ptr r, .agg #[I f, I t, va, vp]] h K := by
  refine callS_of (lk_both_Run _ _ ?_)
  unfold sh_both_Run
  refine (Own.start h).box fun a3 h1 o1 => o1.box fun t4 h2 o2 => ?_
  have o : Own h h2 [cellR t4 [I 0, sl0, sl0] T_api_Found, cellR a3 [I f, I t, va, vp] T_api_Ask] := o2
  clear o1 o2
  simp only [pEq_ptr_nil, Option.isNone_some, ifV_false]
  refine o.ldN (cs' := [I f, I t, va, vp]) 1 rfl rfl rfl (bright_ok (H.more o.ext) (Ha.more o.ext) (Hp.more o.ext) fun h3 x3 => ?_)
  replace o := o.more x3
  have pl0 : ∀ u ∈ [I 0, sl0, sl0], Mh.plainCell u = true := by intro u hu; simp at hu; rcases hu with rfl | rfl | rfl <;> rfl
  rw [pUn_not]
  by_cases hr : ¬ rightP g f t allow.length pi.length
  · rw [decide_eq_false hr, Bool.not_false, ifV_true]
    refine pBuild_ones (cs' := [I 0, sl0, sl0]) (fun p hp => by simp at hp) rfl rfl ?_
    exact o.st (cs' := [I 0, sl0, sl0]) 0 rfl rfl rfl rfl rfl pl0 fun h4 o4 => o4.ldN (cs' := [I 0, sl0, sl0]) 0 rfl rfl rfl (hbad hr _ o4.ext)
  replace hr := Decidable.not_not.1 hr
  rw [decide_eq_true hr, Bool.not_true, ifV_false]
  simp only [pField_ptr]
  refine o.load 1 rfl rfl (o.load 1 rfl rfl ?_)
  rw [pBin_eql, ifV_beq]
  refine ⟨fun he => ?_, fun hne => ?_⟩
  · refine pBuild_ones (cs' := [I 0, sl0, sl0]) (fun p hp => by simp at hp) rfl rfl ?_
    exact o.st (cs' := [I 0, sl0, sl0]) 0 rfl rfl rfl rfl rfl pl0 fun h4 o4 => o4.ldN (cs' := [I 0, sl0, sl0]) 0 rfl rfl rfl (hsame hr he _ o4.ext)
  obtain ⟨s, hs⟩ := Int.eq_ofNat_of_zero_le hr.1.1.1
  obtain ⟨t', ht⟩ := Int.eq_ofNat_of_zero_le hr.1.2.1
  subst hs ht
  have hr1 := hr.1.1.2
  have hr2 := hr.1.2.2
  have hQ : (Qs.mk g s t' allow pi).Ok := ⟨hR, by show s < g.n; omega, by show t' < g.n; omega, hr.2.1.imp List.length_eq_zero_iff.1 id, hr.2.2.imp List.length_eq_zero_iff.1 id⟩
  have hst : s ≠ t' := fun e => hne (by rw [e])
  have hfound := hfound s t' rfl rfl hQ hst
  obtain ⟨Q, hQd⟩ : ∃ Q : Qs, Q = Qs.mk g s t' allow pi := ⟨_, rfl⟩
  have eg : Q.g = g := by rw [hQd]
  have es : Q.s = s := by rw [hQd]
  have et : Q.t = t' := by rw [hQd]
  have ea : Q.allow = allow := by rw [hQd]
  have ep : Q.pi = pi := by rw [hQd]
  rw [← hQd] at hQ hfound
  rw [← eg] at H
  rw [← ea] at Ha
  rw [← ep] at Hp
  rw [← es, ← et] at o hst
  have hva := Ha.one
  have hvp := Hp.one
  have hval := Ha.plain
  have hvpl := Hp.plain
  refine o.ldN (cs' := [I Q.s, I Q.t, va, vp]) 1 rfl rfl rfl ?_
  refine pBuild_ones (cs' := [I far, sl0, sl0]) (fun p hp => by simp at hp; rcases hp with rfl; rfl) rfl rfl ?_
  refine ⟨sizesOk_of rfl, ?_⟩
  refine o.box fun rs h4 o4 => ?_
  have o4 : Own h h4 (cellR rs [ptr r, I Q.s, I Q.t, va, vp, .pointer none, .pointer none, I far, sl0, sl0, I 0] T_both_search :: [cellR t4 [I 0, sl0, sl0] T_api_Found, cellR a3 [I Q.s, I Q.t, va, vp] T_api_Ask]) := o4
  refine o4.load 2 rfl rfl ?_
  refine bbegin_false (Q := Q) (fo := foV r) (fh := fhV) H rfl rfl rfl rfl o4 fun b0 hp0 lm0 am0 cm0 F0 h5 o5 => ?_
  refine o5.load 7 rfl rfl ?_
  refine bbegin_true (Q := Q) (fo := foV r) (fh := fhV) H rfl rfl rfl rfl (o5.sel [5, 0, 1, 2, 3, 4, 6, 7] (by decide)) fun b1 hp1 lm1 am1 cm1 F1 h6 o6 => ?_
  have o7 := o6.nilS (enc := encE) (n := 4) (T := T_api_Event)
  obtain ⟨b, hb0, hb1⟩ : ∃ b : Bool → Nat, b false = b0 ∧ b true = b1 := ⟨fun x => if x then b1 else b0, rfl, rfl⟩
  obtain ⟨hp, hp0', hp1'⟩ : ∃ b : Bool → Nat, b false = hp0 ∧ b true = hp1 := ⟨fun x => if x then hp1 else hp0, rfl, rfl⟩
  obtain ⟨lm, hl0, hl1⟩ : ∃ b : Bool → Nat, b false = lm0 ∧ b true = lm1 := ⟨fun x => if x then lm1 else lm0, rfl, rfl⟩
  obtain ⟨am, ha0, ha1⟩ : ∃ b : Bool → Nat, b false = am0 ∧ b true = am1 := ⟨fun x => if x then am1 else am0, rfl, rfl⟩
  obtain ⟨cm, hc0, hc1⟩ : ∃ b : Bool → Nat, b false = cm0 ∧ b true = cm1 := ⟨fun x => if x then cm1 else cm0, rfl, rfl⟩
  obtain ⟨FF, hF0, hF1⟩ : ∃ b : Bool → Nat → Prop, b false = F0 ∧ b true = F1 := ⟨fun x => if x then F1 else F0, rfl, rfl⟩
  subst hb0 hb1 hp0' hp1' hl0 hl1 ha0 ha1 hc0 hc1 hF0 hF1
  have ecl : clo [] = fun _ => none := rfl
  have evm : valM (fun _ => none) = fun _ => none := rfl
  have o : Own h h6 (seaL Q rs r va vp b hp lm am cm (foV r) fhV FF BW.zero sl0 [cellR t4 [I 0, sl0, sl0] T_api_Found, cellR a3 [I Q.s, I Q.t, va, vp] T_api_Ask]) :=
    o7.sel [6, 7, 8, 9, 10, 11, 1, 2, 3, 4, 5, 0, 12, 13] (by decide)
  clear o4 o5 o6 o7
  have hz : ∀ x : Bool, (fun _ : Bool => (0 : Int)) x ≤ far := fun _ => by show (0 : Int) ≤ far; decide
  obtain ⟨z1, _, z3, _, _⟩ := BI.first (Q := Q) (S := BW.zero) BI.zero hQ (x := false) rfl
  simp only [pNil_ptr, pField_ptr]
  rw [pIdxA_ptr]
  refine ⟨by decide, o.load 0 rfl rfl (o.load 13 rfl rfl ?_)⟩
  refine breach_ok (x := false) hQ BI.zero hz o Hp hQ.s ⟨Int.le_refl _, by decide⟩ fun F2 h7 o7 => ?_
  rw [pIdxA_ptr]
  refine ⟨by decide, o7.load 0 rfl rfl (o7.load 13 rfl rfl ?_)⟩
  refine breach_ok (x := true) hQ z1 hz o7 Hp hQ.t ⟨Int.le_refl _, by decide⟩ fun F3 h8 o8 => ?_
  have o8 : Own h h8 (seaL Q rs r va vp b hp lm am cm (foV r) fhV F3 Q.start sl0 [cellR t4 [I 0, sl0, sl0] T_api_Found, cellR a3 [I Q.s, I Q.t, va, vp] T_api_Ask]) := o8
  have R0 := RunI.start hQ
  have hmost := hQ.r.most
  have hBf : ∀ {S : BW} {st : List Stp}, RunI Q S st → ∀ x, ((S.sd x).ord.length : Int) * W ≤ far := fun {S st} R x => by
    have h1 := (R.bi.si x).olen
    have h2 : ((S.sd x).ord.length : Int) * W ≤ 16777216 * W := Int.mul_le_mul_of_nonneg_right (by omega) (by decide)
    have h3 : (16777216 : Int) * W < far := by decide
    omega
  refine bnext_ok R0.bi (hBf R0) o8 ?_
  have o9 := o8
  refine LoopH_down (k0 := 2 * Q.g.n + 1) (fun k y h' => ∃ (S : BW) (st : List Stp) (F : Bool → Nat → Prop) (ve : Value), y.1 = nextV b S ∧ RunI Q S st ∧ Q.run k S = Q.fin ∧ 2 * Q.g.n < k + (S.sd false).ord.length + (S.sd true).ord.length ∧
      Own h h' (seaL Q rs r va vp b hp lm am cm (foV r) fhV F S ve [cellR t4 [I 0, sl0, sl0] T_api_Found, cellR a3 [I Q.s, I Q.t, va, vp] T_api_Ask])) ⟨Q.start, [], F3, sl0, rfl, R0, rfl, by omega, o9⟩ ?_
  clear o9 o8 o7 o z1 z3
  rintro k ⟨y, ⟨⟩⟩ h9 Z ⟨S, st, F, ve, hy, R, hrun, hk, o⟩ hZ
  dsimp only at hy hZ ⊢
  subst hy
  unfold sh_both_Run_L1
  cases hn : S.next with
  | some x =>
    have hv : nextV b S = ptr (b x) := by unfold nextV; rw [hn]
    rw [hv, pNe_ptr_nil, Option.isSome_some, ifV_true]
    obtain ⟨v, kk, d, _, _, _, _, R', e1, e2⟩ := R.step hQ hn
    cases k with
    | zero =>
      have h0 := (R.bi.si false).olen
      have h1 := (R.bi.si true).olen
      omega
    | succ k =>
      have hrun' : Q.run k (Q.step x S) = Q.fin := by rw [← hrun]; show _ = (match S.next with | none => S | some x => Q.run k (Q.step x S)); rw [hn]
      have nxt : ∀ F' ve' h', Own h h' (seaL Q rs r va vp b hp lm am cm (foV r) fhV F' (Q.step x S) ve' [cellR t4 [I 0, sl0, sl0] T_api_Found, cellR a3 [I Q.s, I Q.t, va, vp] T_api_Ask]) →
          callS Tryz.prog F_both_search_next [ptr rs] h' (fun t65 h_15 => Z (t65, ()) h_15) := fun F' ve' h' o' => by
        refine bnext_ok R'.bi (hBf R') o' ?_
        refine hZ (_, ()) h' k (by omega) ⟨_, _, F', ve', rfl, R', hrun', ?_, o'⟩
        cases x
        · rw [e1, show (true : Bool) = !false from rfl, e2, List.length_append, List.length_singleton]
          show _ < _ + _ + (S.sd true).ord.length
          omega
        · rw [e1, show (false : Bool) = !true from rfl, e2, List.length_append, List.length_singleton]
          show _ < k + (S.sd false).ord.length + _
          omega
      cases x
      · exact bstep_false hQ R hn H (fo_next hQ.r false) (fh_end false) o Hp Ha (R.evlen hQ) nxt
      · exact bstep_true hQ R hn H (fo_next hQ.r true) (fh_end true) o Hp Ha (R.evlen hQ) nxt
  | none =>
    have hv : nextV b S = .pointer none := by unfold nextV; rw [hn]
    have hS : S = Q.fin := by
      rw [← hrun]
      cases k with
      | zero => rfl
      | succ k => show S = (match S.next with | none => S | some x => Q.run k (Q.step x S)); rw [hn]
    rw [hv, pNe_ptr_nil, Option.isSome_none, ifV_false]
    simp only [pNil_ptr, pField_ptr]
    have k2 : ∀ (wa : Value) (arcs : List Nat) (hh : Heap), FoundB Q arcs → Own h hh (cellR rs [ptr r, I Q.s, I Q.t, va, vp, ptr (b false), ptr (b true), I S.dist, wa, ve, I S.meet] T_both_search :: slR encI 1 T_int wa (nI arcs) :: (seaL Q rs r va vp b hp lm am cm (foV r) fhV F S ve [cellR t4 [I 0, sl0, sl0] T_api_Found, cellR a3 [I Q.s, I Q.t, va, vp] T_api_Ask]).tail) →
        sh_both_Run_k2 Tryz.prog (ptr rs) (ptr t4) K hh := fun wa arcs hh hf oo => by
      unfold sh_both_Run_k2
      simp only [pNil_ptr, pField_ptr]
      have p1 := (oo.vw 1 rfl).plain
      have p2 := (oo.vw 12 rfl).plain
      refine oo.ldN (cs' := [I S.dist, wa, ve]) 0 rfl rfl rfl (oo.st (cs' := [I S.dist, wa, ve]) 13 rfl rfl rfl rfl rfl (by intro u hu; simp at hu; rcases hu with rfl | rfl | rfl <;> first | rfl | assumption) fun h10 o10 => o10.ldN (cs' := [I S.dist, wa, ve]) 13 rfl rfl rfl ?_)
      rw [hS] at o10 ⊢
      exact hfound wa ve arcs h10 hf (o10.sel [1, 12] (by decide))
    refine o.load 0 rfl rfl ?_
    rw [pBin_lss, ifV_dec]
    have hc3 := R.bi.c3
    have hfar : far = 72057594037927936 := rfl
    refine ⟨fun hlt => ?_, fun hge => ?_⟩
    · have hnf : S.dist ≠ far := fun e => by rw [e] at hlt; omega
      obtain ⟨u, r0, r1, d0, d1, m1, m2, m3, m4, m5, m6, m7, m8, m9, m10⟩ := R.found hnf
      rw [pIdxA_ptr]
      refine ⟨by decide, o.load 0 rfl rfl ?_⟩
      refine bback_false (fo := foV r) (fh := fhV) (S := S) hQ H (fh_end false) m1 m6 o m4 fun w0 h10 o10 => ?_
      have pw := (o10.vw 0 rfl).plain
      refine o10.st1 1 rfl rfl rfl (o10.vw 0 rfl).one pw fun h11 o11 => o11.load 1 rfl rfl ?_
      refine reverse_ok o11 0 rfl (by rw [nI_len]; omega) fun h12 o12 => ?_
      rw [nI_rev] at o12
      refine o12.load 1 rfl rfl ?_
      rw [pIdxA_ptr]
      refine ⟨by decide, o12.load 1 rfl rfl ?_⟩
      have o13 : Own h h12 (cellR rs [ptr r, I Q.s, I Q.t, va, vp, ptr (b false), ptr (b true), I S.dist, w0, ve, I S.meet] T_both_search :: (seaL Q rs r va vp b hp lm am cm (foV r) fhV F S ve [cellR t4 [I 0, sl0, sl0] T_api_Found, cellR a3 [I Q.s, I Q.t, va, vp] T_api_Ask, slR encI 1 T_int w0 (nI r0.reverse)]).tail) :=
        o12.sel [1, 2, 3, 4, 5, 6, 7, 8, 9, 10, 11, 12, 13, 14, 0] (by decide)
      refine bback_true (fo := foV r) (fh := fhV) (S := S) hQ H (fh_end true) m1 m7 o13 m5 fun w1 h13 o14 => ?_
      refine ⟨o14.load 1 rfl rfl rfl, ?_⟩
      refine o14.app 15 rfl encI_len encI_plain rfl (o14.vw 0 rfl) (by decide) (by rw [nI_len, nI_len, List.length_reverse]; omega) fun w2 h14 o15 => ?_
      have p2 := (o15.vw 15 rfl).plain
      refine o15.st1 1 rfl rfl rfl (o15.vw 15 rfl).one p2 fun h15 o16 => ?_
      refine k2 w2 (r0.reverse ++ r1) h15 (.inr ⟨by rw [← hS]; exact hnf, m8, by rw [m9, hS], by rw [List.length_append, List.length_reverse]; omega, m10⟩) ?_
      rw [show nI (r0.reverse ++ r1) = nI r0.reverse ++ nI r1 by simp [nI]]
      exact o16.sel [1, 15, 2, 3, 4, 5, 6, 7, 8, 9, 10, 11, 12, 13, 14] (by decide)
    · refine k2 sl0 [] h9 (.inl ⟨by rw [← hS]; omega, rfl⟩) ?_
      exact (o.nilS (enc := encI) (n := 1) (T := T_int)).swap

end
end Go.Proofs.YtkeoponidgpfpaaGreatDoor

namespace Go.Proofs.YtkeoponidgpfpaaGreatDoor
open Go Go.Mh
set_option linter.unusedVariables false

section
variable {h0 h : Heap} {L : List Res} {K : Value → Heap → Prop} {g : G} {vb v : Value} {bs : List Int}

theorem made14_ok (o : Own h0 h L) (hR : g.Right) (H : RawV h v g) (hK : ∀ r N h', netR N r g → Own h0 h' (N :: L) → K (ptr r) h') : callS Tryz.prog F_milestonelaw14_made [v] h K := by
  obtain ⟨vx, vy, va, rfl, H⟩ := H
  refine callS_of (lk_milestonelaw14_made _ ?_)
  unfold sh_milestonelaw14_made
  refine (Own.start h).box fun b h1 o1 => o1.ldN 0 rfl rfl rfl ?_
  refine new_net_ok o1 hR ⟨vx, vy, va, rfl, H.more o1.ext⟩ fun r N h2 hN o2 => ?_
  simp only [pExt0, pExt1, pNe_iface_nil, ifV_false]
  exact hK r N h2 hN (o.frame (o2.sel [0] (by decide)))

/-- A graph drawn, and its net. -/
theorem rawOf {vx vy va : Value} (o : Own h0 h L) (i j k : Nat) (hi : L[i]? = some (xR vx g.X)) (hj : L[j]? = some (xR vy g.Y)) (hk : L[k]? = some (aR va g.arcs)) : RawV h (.agg #[I g.n, vx, vy, va]) g :=
  ⟨vx, vy, va, rfl, o.vw i hi, o.vw j hj, o.vw k hk⟩

end
end Go.Proofs.YtkeoponidgpfpaaGreatDoor

namespace Go.Proofs.YtkeoponidgpfpaaGreatDoor
open Go Go.Mh
set_option linter.unusedVariables false

/-- What a search of any ends tells. -/
def ResB (Q : Qs) (d : Int) (arcs : List Nat) (evl : List Ev) : Prop := (Q.s = Q.t ∧ d = 0 ∧ arcs = [] ∧ evl = []) ∨ (Q.s ≠ Q.t ∧ d = Q.fin.dist ∧ FoundB Q arcs ∧ evl = Q.fin.ev)

/-- An ask in memory. -/
def AskV (h : Heap) (v : Value) (Q : Qs) : Prop := ∃ va vp, v = .agg #[I Q.s, I Q.t, va, vp] ∧ Vw encBo 1 h va Q.allow ∧ Vw encI 1 h vp Q.pi
theorem AskV.more {h h' : Heap} {v : Value} {Q : Qs} (H : AskV h v Q) (x : Ext h h') : AskV h' v Q := by
  obtain ⟨va, vp, e, a, b⟩ := H
  exact ⟨va, vp, e, a.more x, b.more x⟩

section
variable {h0 h : Heap} {L M : List Res} {K : Value → Heap → Prop} {Q : Qs} {r : Nat} {v w : Value}

theorem right_of (hQ : Q.Ok) : rightP Q.g Q.s Q.t Q.allow.length Q.pi.length :=
  ⟨⟨⟨by omega, by have := hQ.s; omega⟩, by omega, by have := hQ.t; omega⟩, hQ.allow.imp (fun e => by rw [e]; rfl) id, hQ.pi.imp (fun e => by rw [e]; rfl) id⟩

theorem brunQ_ok (hQ : Q.Ok) (H : NetR h r Q.g) (HA : AskV h w Q) (hK : ∀ d arcs evl wa we h', ResB Q d arcs evl → Own h h' [slR encI 1 T_int wa (nI arcs), slR encE 4 T_api_Event we evl] → K (.tuple #[.agg #[I d, wa, we], I 0]) h') :
    callS Tryz.prog F_both_Run [ptr r, w] h K := by
  obtain ⟨va, vp, rfl, Ha, Hp⟩ := HA
  refine brun_ok hQ.r H Ha Hp (fun hb => absurd (right_of hQ) hb) (fun _ he h' x => ?_) fun s t es et hQ' hne wa we arcs h' hf o => ?_
  · have : Q.s = Q.t := Int.ofNat.inj he
    exact hK 0 [] [] sl0 sl0 h' (.inl ⟨this, rfl, rfl, rfl⟩) (((Own.start h).more x).nilS.nilS)
  · obtain rfl := Int.ofNat.inj es
    obtain rfl := Int.ofNat.inj et
    exact hK _ arcs _ wa we h' (.inr ⟨hne, rfl, hf, rfl⟩) o

theorem ropen_ok {u : Nat} (hQ : Q.Ok) (HA : AskV h w Q) (hu : u < Q.g.n) (hK : ∀ h', Ext h h' → K (.bool (Q.opn u)) h') : callS Tryz.prog F_milestoneref14_Open [w, I u] h K := by
  obtain ⟨va, vp, rfl, Ha, Hp⟩ := HA
  refine callS_of (lk_milestoneref14_Open _ _ ?_)
  unfold sh_milestoneref14_Open
  refine (Own.start h).box fun a2 h1 o => ?_
  have o : Own h h1 [cellR a2 [I Q.s, I Q.t, va, vp] T_api_Ask] := o
  have HP := Hp.more o.ext
  simp only [pField_ptr]
  refine o.load 0 rfl rfl (HP.len ?_)
  rw [pBin_eql]
  rcases hQ.pi with hn | hl
  · rw [hn, show (((([] : List Int).length : Nat) : Int) == 0) = true from rfl, ifV_true]
    rw [show Q.opn u = true by unfold Qs.opn; rw [hn]; rfl] at hK
    exact hK _ o.ext
  · have hpos := hQ.r.pos
    rw [show ((Q.pi.length : Int) == 0) = false from beq_eq_false_iff_ne.2 (by omega), ifV_false]
    have e : Q.pi[u]'(by omega) = Q.p u := by unfold Qs.p; simp [List.getD_eq_getElem?_getD, show u < Q.pi.length by omega]
    have ho : Q.opn u = (decide (-far < Q.p u) && decide (Q.p u < far)) := by
      unfold Qs.opn
      rw [show Q.pi.isEmpty = false by cases hp : Q.pi with | nil => rw [hp] at hl; simp at hl; omega | cons => rfl]
      rfl
    rw [ho] at hK
    refine o.load 0 rfl rfl (HP.atI (i := u) (by omega) ?_)
    rw [e, pBin_gtr, ifV_dec]
    refine ⟨fun h1 => ?_, fun h1 => ?_⟩
    · refine o.load 0 rfl rfl (HP.atI (i := u) (by omega) ?_)
      rw [e, pBin_lss]
      rw [show decide (-far < Q.p u) = true from decide_eq_true h1, Bool.true_and] at hK
      exact hK _ o.ext
    · rw [show decide (-far < Q.p u) = false from decide_eq_false h1, Bool.false_and] at hK
      exact hK _ o.ext

theorem rpi_ok {u : Nat} (hQ : Q.Ok) (HA : AskV h w Q) (hu : u < Q.g.n) (hK : ∀ h', Ext h h' → K (I (Q.p u)) h') : callS Tryz.prog F_milestoneref14_pi [w, I u] h K := by
  obtain ⟨va, vp, rfl, Ha, Hp⟩ := HA
  refine callS_of (lk_milestoneref14_pi _ _ ?_)
  unfold sh_milestoneref14_pi
  refine (Own.start h).box fun a2 h1 o => ?_
  have o : Own h h1 [cellR a2 [I Q.s, I Q.t, va, vp] T_api_Ask] := o
  have HP := Hp.more o.ext
  simp only [pField_ptr]
  refine o.load 0 rfl rfl (HP.len ?_)
  rw [pBin_eql]
  rcases hQ.pi with hn | hl
  · rw [hn, show (((([] : List Int).length : Nat) : Int) == 0) = true from rfl, ifV_true]
    rw [show Q.p u = 0 by unfold Qs.p; rw [hn]; rfl] at hK
    exact hK _ o.ext
  · have hpos := hQ.r.pos
    rw [show ((Q.pi.length : Int) == 0) = false from beq_eq_false_iff_ne.2 (by omega), ifV_false]
    have e : Q.pi[u]'(by omega) = Q.p u := by unfold Qs.p; simp [List.getD_eq_getElem?_getD, show u < Q.pi.length by omega]
    refine o.load 0 rfl rfl (HP.atI (i := u) (by omega) ?_)
    rw [e]
    exact hK _ o.ext

theorem rin_ok {i : Nat} (hQ : Q.Ok) (HR : RawV h v Q.g) (HA : AskV h w Q) (hi : i < Q.g.arcs.length) (hK : ∀ h', Ext h h' → K (.bool (Q.ok i)) h') : callS Tryz.prog F_milestoneref14_In [v, w, I i] h K := by
  obtain ⟨vx, vy, vr, rfl, HR⟩ := HR
  have HA0 := HA
  obtain ⟨va, vp, rfl, Ha, Hp⟩ := HA
  refine callS_of (lk_milestoneref14_In _ _ _ ?_)
  unfold sh_milestoneref14_In
  refine (Own.start h).box fun g3 h1 o1 => o1.box fun a4 h2 o2 => ?_
  have o : Own h h2 [cellR a4 [I Q.s, I Q.t, va, vp] T_api_Ask, cellR g3 [I Q.g.n, vx, vy, vr] T_api_Raw] := o2
  clear o1 o2
  have he := hQ.r.ends _ (arcAt_mem hi)
  have ea : Q.g.arcs[i] = arcAt Q.g.arcs i := by simp [arcAt, hi]
  refine cutP_of (fun y h'' => y.1 = .bool (Q.ok i) ∧ Ext h h'') (fun J hJ => ?_) ?_
  · simp only [pField_ptr]
    have rest : Q.alw i = true → (pLoadN 4 h2 (ptr a4) fun t19 => pLoad h2 (.pointer (some ⟨g3, 0 + 3, none⟩)) fun t21 => pIdx 3 t21 (I i) fun t23 => pField 0 t23 fun t24 => pLoad h2 t24 fun t25 => callS Tryz.prog F_milestoneref14_Open [t19, t25] h2 fun t26 h_3 =>
        ifV t26 (pLoadN 4 h_3 (ptr a4) fun t29 => pLoad h_3 (.pointer (some ⟨g3, 0 + 3, none⟩)) fun t31 => pIdx 3 t31 (I i) fun t33 => pField 1 t33 fun t34 => pLoad h_3 t34 fun t35 => callS Tryz.prog F_milestoneref14_Open [t29, t35] h_3 fun t36 h_4 => J (t36, ()) h_4) (J ((.bool false), ()) h_3)) := fun ha => by
      have hok : Q.ok i = (Q.opn (arcAt Q.g.arcs i).f && Q.opn (arcAt Q.g.arcs i).t) := by unfold Qs.ok; rw [ha, Bool.true_and]
      refine o.ldN (cs' := [I Q.s, I Q.t, va, vp]) 0 rfl rfl rfl (o.load 1 rfl rfl ((HR.more o.ext).2.2.atF (u := I (arcAt Q.g.arcs i).f) encA_len hi (by decide) (by rw [ea]; rfl) ?_))
      refine ropen_ok hQ (HA0.more o.ext) he.1 fun h3 x3 => ?_
      have o3 := o.more x3
      cases h1 : Q.opn (arcAt Q.g.arcs i).f with
      | false =>
        rw [ifV_false]
        exact hJ _ _ ⟨by rw [hok, h1]; rfl, o3.ext⟩
      | true =>
        rw [ifV_true]
        refine o3.ldN (cs' := [I Q.s, I Q.t, va, vp]) 0 rfl rfl rfl (o3.load 1 rfl rfl ((HR.more o3.ext).2.2.atF (u := I (arcAt Q.g.arcs i).t) encA_len hi (by decide) (by rw [ea]; rfl) ?_))
        refine ropen_ok hQ (HA0.more o3.ext) he.2.1 fun h4 x4 => ?_
        exact hJ _ _ ⟨by rw [hok, h1]; rfl, (o3.more x4).ext⟩
    have HA := Ha.more o.ext
    refine o.load 0 rfl rfl (HA.len ?_)
    rw [pBin_eql]
    rcases hQ.allow with hn | hl
    · rw [hn, show (((([] : List Bool).length : Nat) : Int) == 0) = true from rfl, ifV_true]
      exact rest (by unfold Qs.alw; rw [hn]; rfl)
    · rw [show ((Q.allow.length : Int) == 0) = false from beq_eq_false_iff_ne.2 (by omega), ifV_false]
      have hai : Q.alw i = Q.allow[i]'(by omega) := by
        unfold Qs.alw
        rw [show Q.allow.isEmpty = false by cases hq : Q.allow with | nil => rw [hq] at hl; simp at hl; omega | cons => rfl]
        simp [List.getD_eq_getElem?_getD, show i < Q.allow.length by omega]
      refine o.load 0 rfl rfl (HA.at1 (e := fun x : Bool => .bool x) (fun _ => rfl) (i := i) (by omega) ?_)
      rw [← hai]
      cases ha : Q.alw i with
      | true => rw [ifV_true]; exact rest ha
      | false =>
        rw [ifV_false]
        exact hJ _ _ ⟨by unfold Qs.ok; rw [ha]; rfl, o.ext⟩
  · rintro ⟨y, ⟨⟩⟩ h3 ⟨hy, x⟩
    dsimp only at hy ⊢
    subst hy
    unfold sh_milestoneref14_In_C1
    exact hK _ x

/-- Potentials are feasible, as a flag. -/
def feasB (Q : Qs) : Bool := (List.range Q.g.arcs.length).all fun i => !Q.ok i || decide (Q.p (arcAt Q.g.arcs i).f ≤ Q.p (arcAt Q.g.arcs i).t + 2 * (arcAt Q.g.arcs i).w)
theorem feasB_iff : feasB Q = true ↔ Q.Feas := by
  unfold feasB Qs.Feas
  simp only [List.all_eq_true, List.mem_range, Bool.or_eq_true, Bool.not_eq_true', decide_eq_true_eq]
  exact ⟨fun h i hi ho => (h i hi).resolve_left (by rw [ho]; decide), fun h i hi => by
    cases ho : Q.ok i
    · exact .inl rfl
    · exact .inr (h i hi ho)⟩

theorem rfeas_ok (hQ : Q.Ok) (HR : RawV h v Q.g) (HA : AskV h w Q) (hK : ∀ h', Ext h h' → K (.bool (feasB Q)) h') : callS Tryz.prog F_milestoneref14_Feasible [v, w] h K := by
  have HR0 := HR
  obtain ⟨vx, vy, vr, rfl, HR⟩ := HR
  have HA0 := HA
  obtain ⟨va, vp, rfl, Ha, Hp⟩ := HA
  refine callS_of (lk_milestoneref14_Feasible _ _ ?_)
  unfold sh_milestoneref14_Feasible
  refine (Own.start h).box fun g2 h1 o1 => o1.box fun a3 h2 o2 => ?_
  have hmany := hQ.r.many
  have hfar : far = 72057594037927936 := rfl
  refine LoopH_count Q.g.arcs.length (fun i y h' => y.1 = I i ∧ Own h h' [cellR a3 [I Q.s, I Q.t, va, vp] T_api_Ask, cellR g2 [I Q.g.n, vx, vy, vr] T_api_Raw] ∧ ∀ j, j < i → Q.ok j = true → Q.p (arcAt Q.g.arcs j).f ≤ Q.p (arcAt Q.g.arcs j).t + 2 * (arcAt Q.g.arcs j).w) ⟨rfl, o2, fun j hj => by omega⟩ ?_
  clear o1 o2
  rintro i ⟨y, ⟨⟩⟩ h3 Z hi ⟨hy, o, hj⟩ hZ
  dsimp only at hy hZ ⊢
  subst hy
  unfold sh_milestoneref14_Feasible_L1
  simp only [pField_ptr]
  refine o.load 1 rfl rfl ((HR.more o.ext).2.2.len ?_)
  rw [pBin_lss, ifV_dec]
  refine ⟨fun hlt => ?_, fun hge => ?_⟩
  · have hlt : i < Q.g.arcs.length := by omega
    have he := hQ.r.ends _ (arcAt_mem hlt)
    have ea : Q.g.arcs[i] = arcAt Q.g.arcs i := by simp [arcAt, hlt]
    refine o.load 1 rfl rfl ((HR.more o.ext).2.2.atN encA_len hlt ?_)
    rw [ea]
    refine o.box fun a6 h4 o4 => o4.st (cs' := encA (arcAt Q.g.arcs i)) 0 rfl rfl rfl rfl rfl (encA_plain _) fun h5 o5 => ?_
    refine cutP_of (fun y h'' => (∃ b : Bool, y.1 = .bool b ∧ (b = false ↔ (Q.ok i = true → Q.p (arcAt Q.g.arcs i).f ≤ Q.p (arcAt Q.g.arcs i).t + 2 * (arcAt Q.g.arcs i).w))) ∧ Own h h'' [cellR a6 (encA (arcAt Q.g.arcs i)) T_api_Arc, cellR a3 [I Q.s, I Q.t, va, vp] T_api_Ask, cellR g2 [I Q.g.n, vx, vy, vr] T_api_Raw]) (fun J hJ => ?_) ?_
    · have o5 : Own h h5 [cellR a6 (encA (arcAt Q.g.arcs i)) T_api_Arc, cellR a3 [I Q.s, I Q.t, va, vp] T_api_Ask, cellR g2 [I Q.g.n, vx, vy, vr] T_api_Raw] := o5
      refine o5.ldN (cs' := [I Q.g.n, vx, vy, vr]) 2 rfl rfl rfl (o5.ldN (cs' := [I Q.s, I Q.t, va, vp]) 1 rfl rfl rfl ?_)
      refine rin_ok hQ (HR0.more o5.ext) (HA0.more o5.ext) hlt fun h6 x6 => ?_
      have o6 := o5.more x6
      cases hok : Q.ok i with
      | false =>
        rw [ifV_false]
        exact hJ _ _ ⟨⟨false, rfl, ⟨fun _ h => absurd (hok.symm.trans h) (by decide), fun _ => rfl⟩⟩, o6⟩
      | true =>
        rw [ifV_true]
        obtain ⟨_, q1, q2⟩ := (Qs.ok_end (x := false)).1 hok
        have q1 := Qs.p_opn q1
        have q2 := Qs.p_opn q2
        simp only [tlS, hdS, Bool.false_eq_true, if_false] at q1 q2
        refine o6.ldN (cs' := [I Q.s, I Q.t, va, vp]) 1 rfl rfl rfl (o6.load 0 rfl rfl (o6.ldN (cs' := [I Q.s, I Q.t, va, vp]) 1 rfl rfl rfl (o6.load 0 rfl rfl (o6.load 0 rfl rfl ?_))))
        rw [pBin_mul, w64 (by omega) (by omega)]
        refine rpi_ok hQ (HA0.more o6.ext) he.1 fun h7 x7 => ?_
        have o7 := o6.more x7
        refine ⟨o7.ldN (cs' := [I Q.s, I Q.t, va, vp]) 1 rfl rfl rfl rfl, o7.load 0 rfl rfl rfl, o7.load 0 rfl rfl rfl, ?_⟩
        refine rpi_ok hQ (HA0.more o7.ext) he.2.1 fun h8 x8 => ?_
        have o8 := o7.more x8
        refine ⟨o8.load 0 rfl rfl rfl, ?_⟩
        rw [pBin_add, w64 (by omega) (by omega), pBin_gtr]
        exact hJ _ _ ⟨⟨_, rfl, by rw [decide_eq_false_iff_not]; exact ⟨fun h _ => by omega, fun h => by have := h hok; omega⟩⟩, o8⟩
    · rintro ⟨y, ⟨⟩⟩ h6 ⟨⟨b, hy, hb⟩, o6⟩
      dsimp only at hy ⊢
      subst hy
      unfold sh_milestoneref14_Feasible_C2
      cases b with
      | true =>
        rw [ifV_true]
        have : feasB Q = false := by
          rw [Bool.eq_false_iff]
          intro h
          have := hb.2 (feasB_iff.1 h i hlt)
          cases this
        rw [this] at hK
        exact hK _ o6.ext
      | false =>
        rw [ifV_false, pBin_add, wI i (by omega)]
        refine hZ (_, ()) h6 hlt ⟨rfl, o6.tail, fun j hj' hok => ?_⟩
        rcases Nat.lt_succ_iff_lt_or_eq.1 hj' with h | rfl
        · exact hj j h hok
        · exact hb.1 rfl hok
  · have : i = Q.g.arcs.length := by omega
    subst this
    rw [feasB_iff.2 (fun j hj' hok => hj j hj' hok)] at hK
    exact hK _ o.ext

theorem within_ok {arcs : List Nat} {vl : Value} (hQ : Q.Ok) (HR : RawV h v Q.g) (HA : AskV h w Q) (Hl : Vw encI 1 h vl (nI arcs)) (hl : arcs.length < 2 ^ 40) (ha : ∀ i ∈ arcs, i < Q.g.arcs.length ∧ Q.ok i = true) (hK : ∀ h', Ext h h' → K (.bool true) h') :
    callS Tryz.prog F_milestonelaw14_within [v, w, vl] h K := by
  have HR0 := HR
  obtain ⟨vx, vy, vr, rfl, HR⟩ := HR
  have HA0 := HA
  obtain ⟨va, vp, rfl, Ha, Hp⟩ := HA
  refine callS_of (lk_milestonelaw14_within _ _ _ ?_)
  unfold sh_milestonelaw14_within
  refine (Own.start h).box fun g2 h1 o1 => o1.box fun a3 h2 o2 => ?_
  refine LoopH_count arcs.length (fun i y h' => y.1 = I i ∧ Own h h' [cellR a3 [I Q.s, I Q.t, va, vp] T_api_Ask, cellR g2 [I Q.g.n, vx, vy, vr] T_api_Raw]) ⟨rfl, o2⟩ ?_
  clear o1 o2
  rintro i ⟨y, ⟨⟩⟩ h3 Z hi ⟨hy, o⟩ hZ
  dsimp only at hy hZ ⊢
  subst hy
  unfold sh_milestonelaw14_within_L1
  refine (Hl.more o.ext).len ?_
  rw [nI_len, pBin_lss, ifV_dec]
  refine ⟨fun hlt => ?_, fun hge => hK _ o.ext⟩
  have hlt : i < arcs.length := by omega
  refine o.ldN (cs' := [I Q.g.n, vx, vy, vr]) 1 rfl rfl rfl (o.ldN (cs' := [I Q.s, I Q.t, va, vp]) 0 rfl rfl rfl ((Hl.more o.ext).atI (by rw [nI_len]; exact hlt) ?_))
  rw [show (nI arcs)[i]'(by rw [nI_len]; exact hlt) = ((arcs[i] : Nat) : Int) by simp [nI]]
  obtain ⟨a1, a2⟩ := ha _ (List.getElem_mem hlt)
  refine rin_ok hQ (HR0.more o.ext) (HA0.more o.ext) a1 fun h4 x4 => ?_
  rw [a2, pUn_not, Bool.not_true, ifV_false, pBin_add, wI i (by omega)]
  exact hZ (_, ()) h4 hlt ⟨rfl, o.more x4⟩

theorem less14_ok {a c : Int} (ha : 0 ≤ a ∧ a ≤ far) (hc : 0 ≤ c ∧ c ≤ far) (hK : K (I (lessI a c)) h) : callS Tryz.prog F_milestonelaw14_less [I a, I c] h K := by
  have hfar : far = 72057594037927936 := rfl
  refine callS_of (lk_milestonelaw14_less _ _ ?_)
  unfold sh_milestonelaw14_less
  unfold lessI at hK
  rw [hfar] at hK
  rw [pBin_geq, ifV_dec]
  refine ⟨fun h1 => by rw [if_pos h1] at hK; exact hK, fun h1 => ?_⟩
  rw [if_neg h1] at hK
  rw [pBin_geq, ifV_dec]
  refine ⟨fun h2 => by rw [if_pos h2] at hK; exact hK, fun h2 => ?_⟩
  rw [if_neg h2] at hK
  rw [pBin_sub, w64 (by omega) (by omega), pMax_int]
  exact hK

end
end Go.Proofs.YtkeoponidgpfpaaGreatDoor
