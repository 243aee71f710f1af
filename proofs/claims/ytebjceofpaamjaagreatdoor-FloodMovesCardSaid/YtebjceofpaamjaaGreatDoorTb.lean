/- Texts of the proofs of seat YtebjceofpaamjaaGreatDoor, joined: HpH, HpI, HoA, FlA, FlB, FlC, FlD, Lw10, F10A, GtA, F10B, GtB, F10G. They have no conditions of their own. -/
import Derived.Test.YtebjceofpaamjaaGreatDoorTa
import Derived.Test.YtebjceofpaamjaaGreatDoorMc
set_option linter.unusedVariables false
set_option linter.unusedSimpArgs false

namespace Go.Proofs.YtebjceofpaamjaaGreatDoor
open Go Go.Mh

theorem swapL_last {l : List HE} (hl : 0 < l.length) : swapL l 0 (l.length - 1) hl (by omega) = (swapL l 0 (l.length - 1) hl (by omega)).take (l.length - 1) ++ [l[0]] := by
  have hlen := swapL_length (l := l) hl (show l.length - 1 < l.length by omega)
  apply List.ext_getElem
  · simp [hlen]; omega
  · intro j h1 h2
    rw [hlen] at h1
    by_cases hj : j < l.length - 1
    · rw [List.getElem_append_left (by simp [hlen]; omega)]; simp
    · have : j = l.length - 1 := by omega
      subst this
      rw [swapL_get, if_pos rfl, List.getElem_append_right (by simp [hlen])]
      simp

theorem pos_del {l2 : List HE} {p : HE} (hn : ((l2 ++ [p]).map (·.1)).Nodup) (x : Int) : fdel (pos (l2 ++ [p])) p.1 x = pos l2 x := by
  unfold fdel
  by_cases hx : x = p.1
  · subst hx
    rw [if_pos rfl]
    refine (pos_none fun q hq e => ?_).symm
    rw [List.map_append, List.nodup_append] at hn
    exact hn.2.2 q.1 (List.mem_map.2 ⟨q, hq, rfl⟩) p.1 (by simp) e
  · rw [if_neg hx]
    unfold pos
    rw [List.findIdx?_append]
    have : [p].findIdx? (fun q => q.1 == x) = none := by
      rw [List.findIdx?_eq_none_iff]; intro q hq; simp at hq; subst hq; simpa using fun e => hx e.symm
    rw [this]; simp

theorem pop_ok {h : Heap} {F : Nat → Prop} {r : Nat} {l : List HE} {n : Int} {K : Value → Heap → Prop} (H : HV h F r l n)
    (h0 : l = [] → K (.tuple #[I 0, I 0, .bool false]) h)
    (h1 : ∀ p, Min l p → ∀ h' F' l', HV h' F' r l' n → l'.Perm (l.erase p) → Grow h F F' → Upd F h h' → K (.tuple #[I p.1, I p.2, .bool true]) h') :
    callS Tryz.prog F_heap_Heap_Pop [ptr r] h K := by
  refine callS_of (lk_heap_Heap_Pop _ ?_)
  unfold sh_heap_Heap_Pop
  refine len_ok H ?_
  obtain ⟨⟨m, bl, R, ho, f1, f2, f3⟩, hlow, hrg⟩ := H
  obtain ⟨v, hr, hs⟩ := R.slr
  obtain ⟨es, c, hm, him⟩ := R.map
  have c0 := hcell0 hr
  simp only [pBin_eql, ifV_beq, pNil_ptr, pField_ptr, pLoad_ptr, c0, Nat.zero_add]
  refine ⟨fun he => h0 (List.eq_nil_of_length_eq_zero (by omega)), fun he => ?_⟩
  have hl : 0 < l.length := by omega
  refine hs.idx (i := 0) (k := .i64) hl ?_
  simp only [pLoadN_ptr, Nat.zero_mul]
  have ca : cellsAt h bl 0 2 = some [I l[0].1, I l[0].2] := by
    obtain ⟨cap, rest, rfl, hb, _, _⟩ := hs.full hl
    have hlen := row_length encH_len l
    rw [cellsAt_of (i := 0) hb 2 0 (by simp [hlen]; omega)]
    have := row_slot encH_len hl rest
    rw [Nat.zero_mul] at this
    rw [this]; rfl
  simp only [ca]
  refine hs.lenK ?_
  have e1 : IntKind.i64.wrap ((l.length : Int) - 1) = ((l.length - 1 : Nat) : Int) := by
    have := R.small
    rw [w64 (by omega) (by omega)]; omega
  rw [pBin_sub, e1]
  refine pBox_of ?_
  refine pStore_of rfl push_new rfl (by simp) (by simp [Mh.plainCell]) ?_
  have x1 : Ext h (upd (h.push (.cells (Value.agg #[.int .i64 0, .int .i64 0]).cells T_heap_held (0, 0))) h.size (.cells (over [Value.int .i64 0, Value.int .i64 0] 0 (Value.agg [I l[0].1, I l[0].2].toArray).cells.toList).toArray T_heap_held (0, 0))) :=
    ((Upd.push _ _ _).trans (Upd.upd (S := fun b => b = h.size) _ _ rfl) (fun b hb hlt => by omega))
  have hf1 : (upd (h.push (.cells (Value.agg #[.int .i64 0, .int .i64 0]).cells T_heap_held (0, 0))) h.size (.cells (over [Value.int .i64 0, Value.int .i64 0] 0 (Value.agg [I l[0].1, I l[0].2].toArray).cells.toList).toArray T_heap_held (0, 0)))[h.size]? =
    some (.cells #[I l[0].1, I l[0].2] T_heap_held (0, 0)) := upd_self' push_new
  have hsz1 := get_lt hf1
  generalize (upd (h.push (.cells (Value.agg #[.int .i64 0, .int .i64 0]).cells T_heap_held (0, 0))) h.size (.cells (over [Value.int .i64 0, Value.int .i64 0] 0 (Value.agg [I l[0].1, I l[0].2].toArray).cells.toList).toArray T_heap_held (0, 0))) = hA at x1 hf1 hsz1
  have R1 := R.upd x1 id id id
  have hrA := x1.get hr
  have cA := hcell0 hrA
  simp only [cA, true_and]
  have hrs := hlow _ f1
  have hms := hlow _ f2
  have hbs := hlow _ f3
  refine swap_ok R1 (i := 0) (k := l.length - 1) hl (by omega) fun h2 R2 u2 => ?_
  obtain ⟨S, R2, hlen, hS, hnd, hperm, hgt⟩ : ∃ S : List HE, Rep h2 r m bl S n ∧ S.length = l.length ∧ S = S.take (l.length - 1) ++ [l[0]] ∧ (S.map (·.1)).Nodup ∧ S.Perm l ∧
      (∀ j, gt S j = if j = l.length - 1 then gt l 0 else if j = 0 then gt l (l.length - 1) else gt l j) :=
    ⟨_, R2, swapL_length _ _, swapL_last hl, R2.ids, swapL_perm _ _, swapL_gt _ _⟩
  obtain ⟨v2, hr2, hs2⟩ := R2.slr
  obtain ⟨es2, c2, hm2, him2⟩ := R2.map
  have d0 := hcell0 hr2
  have hf2 := u2.get hf1 (by omega)
  simp only [d0]
  refine hs2.pre encH_len (by rw [hlen]; omega) fun v3 hs3 => ?_
  have hcs3 : v3.cells.size = 1 ∧ (∀ u ∈ v3.cells.toList, Mh.plainCell u = true) ∧ v3.cells.toList = [v3] := by
    rcases hs3.len with ⟨_, _, rfl⟩; simp
  refine pStore_of rfl hr2 hcs3.1 (by rw [hcs3.1]; simp) hcs3.2.1 ?_
  have ec : over [v2, Value.map (some m), I n] 0 v3.cells.toList = [v3, Value.map (some m), I n] := by rw [hcs3.2.2]; rfl
  rw [ec]
  have u3 : Upd (fun b => b = r) h2 (upd h2 r (.cells [v3, Value.map (some m), I n].toArray tHeap (0, 0))) := Upd.upd _ _ rfl
  have hr3 : (upd h2 r (.cells [v3, Value.map (some m), I n].toArray tHeap (0, 0)))[r]? = _ := upd_self' hr2
  obtain ⟨hne1, hne2, hne3⟩ := R2.r_ne (by omega)
  have hm3 := u3.get hm2 (fun e => hne2 e.symm)
  have hs3' := hs3.upd u3 (fun e => hne1 e.symm)
  have hf3 := u3.get hf2 (by omega)
  generalize upd h2 r (.cells [v3, Value.map (some m), I n].toArray tHeap (0, 0)) = h3 at u3 hr3 hm3 hs3' hf3
  have g1 := hcell1 hr3
  have g2 := hcell0 hf3
  simp only [g1, g2, pField_ptr, pLoad_ptr, Nat.add_zero, Nat.zero_add]
  refine delete_of hm3 him2 fun es4 him4 => ?_
  have u4 : Upd (fun b => b = m) h3 (upd h3 m (.map es4 c2)) := Upd.upd _ _ rfl
  have hr4 := u4.get hr3 hne2
  have hm4 : (upd h3 m (.map es4 c2))[m]? = _ := upd_self' hm3
  have hs4 := hs3'.upd u4 hne3
  have hf4 := u4.get hf3 (by omega)
  generalize upd h3 m (.map es4 c2) = h4 at u4 hr4 hm4 hs4 hf4
  have hl2 : (S.take (l.length - 1)).length = l.length - 1 := by simp [hlen]
  have hpS : S.Perm (l[0] :: S.take (l.length - 1)) := by
    rw [hS]
    have : ((S.take (l.length - 1)) ++ [l[0]]).take (l.length - 1) = S.take (l.length - 1) := by rw [List.take_append_of_le_length (by rw [hl2]; exact Nat.le_refl _), List.take_take, Nat.min_self]
    rw [this]
    exact List.perm_append_comm
  have R4 : Rep h4 r m bl (S.take (l.length - 1)) n := by
    refine Rep.of hr4 hs4 hm4 (him4.congr fun x => ?_) ?_ (by rw [hl2]; have := R.small; omega)
    · have := pos_del (l2 := S.take (l.length - 1)) (p := l[0]) (by rw [← hS]; exact hnd) x
      rw [← hS] at this; exact this
    · have := (hpS.map (·.1)).nodup_iff.1 hnd
      rw [List.map_cons, List.nodup_cons] at this
      exact this.2
  have gtk : ∀ j, j < l.length - 1 → gt (S.take (l.length - 1)) j = gt S j := by
    intro j hj
    rw [← gt_eq (by rw [hl2]; exact hj), ← gt_eq (by rw [hlen]; omega)]
    simp
  have hbl4 : bl < h4.size := by
    have a := x1.size; have b := u2.size; have c := u3.size; have d := u4.size; omega
  have u14 : Upd F h h4 := (((x1.mono (S' := F) fun _ hf _ => hf.elim).trans u2 fun b hb _ => by rcases hb with rfl | rfl; exact f2; exact f3).trans u3 fun b hb _ => by subst hb; exact f1).trans u4 fun b hb _ => by subst hb; exact f2
  refine down_ok R4 (i := 0) (by decide) (by rcases Nat.eq_zero_or_pos (l.length - 1) with e | e; exact .inr (List.eq_nil_of_length_eq_zero (by rw [hl2]; exact e)); exact .inl (by rw [hl2]; exact e)) hbl4 ?_ fun h5 l5 R5 hp5 ho5 u5 => ?_
  · refine ⟨fun j j0 j1 j2 => ?_, fun i0 => absurd i0 (Nat.lt_irrefl 0)⟩
    rw [hl2] at j1
    have hj4 : (j - 1) / 4 < l.length - 1 := by omega
    rw [gtk j j1, gtk _ hj4, hgt, hgt, if_neg (by omega), if_neg (by omega), if_neg (by omega), if_neg (by omega)]
    exact ho j j0 (by omega)
  · have hf5 := u5.get hf4 (by omega)
    have k0 := hcell0 hf5
    have k1 := hcell1 hf5
    simp only [k0, k1, pField_ptr, pLoad_ptr, Nat.add_zero, Nat.zero_add]
    have u15 : Upd F h h5 := u14.trans u5 fun b hb _ => by rcases hb with rfl | rfl; exact f2; exact f3
    have hpe : l5.Perm (l.erase l[0]) := by
      have := (hperm.symm.trans hpS).erase l[0]
      simp only [List.erase_cons_head] at this
      exact hp5.trans this.symm
    refine h1 l[0] (ho.min hl) h5 F l5 ⟨⟨m, bl, R5, ho5, f1, f2, f3⟩, fun b hb => Nat.lt_of_lt_of_le (hlow b hb) u15.size, fun p hp => hrg p (List.mem_of_mem_erase (hpe.mem_iff.1 hp))⟩ hpe (fun b hb => .inl hb) u15

theorem pop_nil {h : Heap} {K : Value → Heap → Prop} (hK : K (.tuple #[I 0, I 0, .bool false]) h) : callS Tryz.prog F_heap_Heap_Pop [.pointer none] h K := by
  refine callS_of (lk_heap_Heap_Pop _ ?_)
  unfold sh_heap_Heap_Pop
  refine callS_of (lk_heap_Heap_Len _ ?_)
  unfold sh_heap_Heap_Len
  simpa using hK

end Go.Proofs.YtebjceofpaamjaaGreatDoor

namespace Go.Proofs.YtebjceofpaamjaaGreatDoor
open Go Go.Mh

instance (l : List HE) (p : HE) : Decidable (Min l p) := by unfold Min; exact inferInstance

/-- The same, where only what is held counts, not how it lies. -/
def PV (h : Heap) (F : Nat → Prop) (r : Nat) (L : List HE) (n : Int) : Prop := ∃ l, HV h F r l n ∧ l.Perm L

def Disj (F G : Nat → Prop) : Prop := ∀ b, F b → ¬ G b

section
variable {h h' : Heap} {F G S : Nat → Prop} {r : Nat} {L : List HE} {n id key : Int} {K : Value → Heap → Prop} {p : HE}

theorem PV.upd (H : PV h F r L n) (hu : Upd S h h') (hd : Disj F S) : PV h' F r L n := by
  obtain ⟨l, H, hp⟩ := H; exact ⟨l, H.upd hu hd, hp⟩
theorem PV.low (H : PV h F r L n) : ∀ b, F b → b < h.size := by obtain ⟨l, H, hp⟩ := H; exact H.low
theorem PV.rng (H : PV h F r L n) : ∀ p ∈ L, 0 ≤ p.1 ∧ p.1 < n := by obtain ⟨l, H, hp⟩ := H; exact fun p h => H.rng p (hp.mem_iff.2 h)
theorem PV.nodup (H : PV h F r L n) : (L.map (·.1)).Nodup := by obtain ⟨l, H, hp⟩ := H; exact (hp.map _).nodup_iff.1 H.nodup

theorem Min.perm {l l' : List HE} (hp : l.Perm l') (h : Min l p) : Min l' p := ⟨hp.mem_iff.1 h.1, fun q hq => h.2 q (hp.mem_iff.2 hq)⟩

theorem PV.perm {L' : List HE} (H : PV h F r L n) (hp : L.Perm L') : PV h F r L' n := by
  obtain ⟨l, H, hp'⟩ := H; exact ⟨l, H, hp'.trans hp⟩

theorem plen (H : PV h F r L n) (hK : K (I L.length) h) : callS Tryz.prog F_heap_Heap_Len [ptr r] h K := by
  obtain ⟨l, H, hp⟩ := H; exact len_ok H (by rw [hp.length_eq]; exact hK)
theorem pkey (H : PV h F r L n) (h0 : (∀ p ∈ L, p.1 ≠ id) → K (.tuple #[I 0, .bool false]) h) (h1 : ∀ p ∈ L, p.1 = id → K (.tuple #[I p.2, .bool true]) h) : callS Tryz.prog F_heap_Heap_Key [ptr r, I id] h K := by
  obtain ⟨l, H, hp⟩ := H
  exact key_ok H (fun e => h0 fun p hm => e p (hp.mem_iff.2 hm)) fun p hm => h1 p (hp.mem_iff.1 hm)
theorem pnew (hK : ∀ h' F r, PV h' F r [] (max n 0) → (∀ b, F b → h.size ≤ b) → Ext h h' → K (ptr r) h') : callS Tryz.prog F_heap_New [I n] h K :=
  new_ok fun h' F r H a b => hK h' F r ⟨[], H, .refl _⟩ a b
theorem ppush (H : PV h F r L n) (hsm : L.length + 1 < 2 ^ 40)
    (h2 : ((∃ p ∈ L, p.1 = id) ∨ id < 0 ∨ n ≤ id) → K (I 2) h)
    (h0 : (∀ p ∈ L, p.1 ≠ id) → 0 ≤ id → id < n → ∀ h' F', PV h' F' r ((id, key) :: L) n → Grow h F F' → Upd F h h' → K (I 0) h') :
    callS Tryz.prog F_heap_Heap_Push [ptr r, I id, I key] h K := by
  obtain ⟨l, H, hp⟩ := H
  refine push_ok H (by rw [hp.length_eq]; exact hsm) (fun e => h2 ?_) fun hno a b h' F' l' H' hp' hg hu => h0 (fun p hm => hno p (hp.mem_iff.2 hm)) a b h' F' ⟨l', H', hp'.trans (hp.cons _)⟩ hg hu
  rcases e with ⟨p, hm, e⟩ | e
  · exact .inl ⟨p, hp.mem_iff.1 hm, e⟩
  · exact .inr e
theorem ppush0 (H : PV h F r L n) (hsm : L.length + 1 < 2 ^ 40) (hno : ∀ p ∈ L, p.1 ≠ id) (h1 : 0 ≤ id) (h2 : id < n)
    (h0 : ∀ h' F', PV h' F' r ((id, key) :: L) n → Grow h F F' → Upd F h h' → K (I 0) h') : callS Tryz.prog F_heap_Heap_Push [ptr r, I id, I key] h K :=
  ppush H hsm (fun e => by
    rcases e with ⟨p, hm, e⟩ | e
    · exact (hno p hm e).elim
    · omega) fun _ _ _ => h0
theorem ppush2 (H : PV h F r L n) (hsm : L.length + 1 < 2 ^ 40) (hno : (∃ p ∈ L, p.1 = id) ∨ id < 0 ∨ n ≤ id) (h2 : K (I 2) h) : callS Tryz.prog F_heap_Heap_Push [ptr r, I id, I key] h K :=
  ppush H hsm (fun _ => h2) fun hn a b => by
    rcases hno with ⟨p, hm, e⟩ | e
    · exact (hn p hm e).elim
    · omega
theorem plower (H : PV h F r L n)
    (h2 : (id < 0 ∨ n ≤ id) → K (I 2) h) (h20 : 0 ≤ id → id < n → (∀ p ∈ L, p.1 ≠ id) → K (I 20) h) (h2' : ∀ p ∈ L, p.1 = id → p.2 < key → K (I 2) h)
    (h0 : ∀ p ∈ L, p.1 = id → ¬ p.2 < key → ∀ h' F', PV h' F' r ((id, key) :: L.erase p) n → Grow h F F' → Upd F h h' → K (I 0) h') :
    callS Tryz.prog F_heap_Heap_Lower [ptr r, I id, I key] h K := by
  obtain ⟨l, H, hp⟩ := H
  exact lower_ok H h2 (fun a b e => h20 a b fun p hm => e p (hp.mem_iff.2 hm)) (fun p hm => h2' p (hp.mem_iff.1 hm)) fun p hm e hk h' F' l' H' hp' hg hu =>
    h0 p (hp.mem_iff.1 hm) e hk h' F' ⟨l', H', hp'.trans ((hp.erase p).cons _)⟩ hg hu
theorem id_uniq (hn : (L.map (·.1)).Nodup) {q : HE} (hp : p ∈ L) (hq : q ∈ L) (he : p.1 = q.1) : p = q := by
  obtain ⟨i, hi, rfl⟩ := List.mem_iff_getElem.1 hp
  obtain ⟨j, hj, rfl⟩ := List.mem_iff_getElem.1 hq
  have := ids_inj hn hi hj he
  subst this; rfl
theorem plower0 (H : PV h F r L n) (hp : p ∈ L) (he : p.1 = id) (hk : ¬ p.2 < key)
    (h0 : ∀ h' F', PV h' F' r ((id, key) :: L.erase p) n → Grow h F F' → Upd F h h' → K (I 0) h') : callS Tryz.prog F_heap_Heap_Lower [ptr r, I id, I key] h K := by
  have hr := H.rng p hp
  refine plower H (fun e => by omega) (fun _ _ e => (e p hp he).elim) (fun q hq e hk' => ?_) fun q hq e hk' => ?_
  · have := id_uniq H.nodup hp hq (he.trans e.symm); subst this; exact (hk hk').elim
  · have := id_uniq H.nodup hp hq (he.trans e.symm); subst this; exact h0
theorem plower2 (H : PV h F r L n) (hp : (∃ p ∈ L, p.1 = id ∧ p.2 < key) ∨ id < 0 ∨ n ≤ id) (h2 : K (I 2) h) : callS Tryz.prog F_heap_Heap_Lower [ptr r, I id, I key] h K := by
  refine plower H (fun _ => h2) (fun a b e => ?_) (fun _ _ _ _ => h2) fun q hq e hk' => ?_
  · rcases hp with ⟨p, hm, e', _⟩ | e'
    · exact (e p hm e').elim
    · omega
  · rcases hp with ⟨p, hm, e', hk⟩ | e'
    · have := id_uniq H.nodup hm hq (e'.trans e.symm); subst this; exact (hk' hk).elim
    · have := H.rng q hq; omega
theorem plower20 (H : PV h F r L n) (h1 : 0 ≤ id) (h2 : id < n) (hp : ∀ p ∈ L, p.1 ≠ id) (hK : K (I 20) h) : callS Tryz.prog F_heap_Heap_Lower [ptr r, I id, I key] h K :=
  plower H (fun _ => by omega) (fun _ _ _ => hK) (fun q hq e => (hp q hq e).elim) fun q hq e => (hp q hq e).elim
theorem ppop (H : PV h F r L n) (h0 : L = [] → K (.tuple #[I 0, I 0, .bool false]) h)
    (h1 : ∀ p, Min L p → ∀ h' F', PV h' F' r (L.erase p) n → Grow h F F' → Upd F h h' → K (.tuple #[I p.1, I p.2, .bool true]) h') : callS Tryz.prog F_heap_Heap_Pop [ptr r] h K := by
  obtain ⟨l, H, hp⟩ := H
  exact pop_ok H (fun e => h0 (by subst e; exact hp.nil_eq.symm)) fun p hm h' F' l' H' hp' hg hu => h1 p (hm.perm hp) h' F' ⟨l', H', hp'.trans (hp.erase p)⟩ hg hu
theorem ppop1 (H : PV h F r L n) (hm : Min L p) (h1 : ∀ h' F', PV h' F' r (L.erase p) n → Grow h F F' → Upd F h h' → K (.tuple #[I p.1, I p.2, .bool true]) h') : callS Tryz.prog F_heap_Heap_Pop [ptr r] h K :=
  ppop H (fun e => by subst e; simp [Min] at hm) fun q hq => by
    have := hq.uniq hm (.refl _); subst this; exact h1

theorem Disj.step {F' : Nat → Prop} (d : Disj F G) (hg : Grow h F F') (hl : ∀ b, G b → b < h.size) : Disj F' G := fun b hb hG => by
  rcases hg b hb with hb | hb
  · exact d b hb hG
  · have := hl b hG; omega
theorem Disj.symm (d : Disj F G) : Disj G F := fun b h1 h2 => d b h2 h1
end

end Go.Proofs.YtebjceofpaamjaaGreatDoor

namespace Go.Proofs.YtebjceofpaamjaaGreatDoor
open Go Go.Mh
set_option linter.unusedVariables false

/-! ### A heap as a part of memory -/

theorem Rep.st {h h' : Heap} {r m bl : Nat} {l : List HE} {n : Int} (H : Rep h r m bl l n) (h1 : h'[r]? = h[r]?) (h2 : h'[m]? = h[m]?) (h3 : h'[bl]? = h[bl]?) : Rep h' r m bl l n := by
  obtain ⟨⟨sl, cap, rest, hr, hs⟩, ⟨es, c, hm, hi⟩, hn, hsm⟩ := H
  refine ⟨⟨sl, cap, rest, h1.trans hr, ?_⟩, ⟨es, c, h2.trans hm, hi⟩, hn, hsm⟩
  rcases hs with hs | ⟨a, b, c, d⟩
  · exact .inl hs
  · exact .inr ⟨a, h3.trans b, c, d⟩

def hpR (F : Nat → Prop) (r : Nat) (H : List HE) (n : Nat) : Res := ⟨F, fun h => ∃ l, (∃ m bl, Rep h r m bl l n ∧ HeapOrd l ∧ F r ∧ F m ∧ F bl) ∧ (∀ p ∈ l, 0 ≤ p.1 ∧ p.1 < n) ∧ l.Perm H, fun hs ⟨l, ⟨m, bl, R, ho, f1, f2, f3⟩, hr, hp⟩ =>
  ⟨l, ⟨m, bl, R.st (hs _ f1) (hs _ f2) (hs _ f3), ho, f1, f2, f3⟩, hr, hp⟩⟩

theorem PV.toR {h : Heap} {F : Nat → Prop} {r : Nat} {H : List HE} {n : Nat} (P : PV h F r H n) : (hpR F r H n).Q h := by
  obtain ⟨l, ⟨a, b, c⟩, d⟩ := P; exact ⟨l, a, c, d⟩

section
variable {h0 h : Heap} {L : List Res} {F : Nat → Prop} {r n : Nat} {H : List HE} {id key : Int} {K : Value → Heap → Prop}

theorem own_pv (o : Own h0 h L) (i : Nat) (hi : L[i]? = some (hpR F r H n)) : PV h F r H n := by
  obtain ⟨l, a, c, d⟩ := o.get i hi
  exact ⟨l, ⟨a, fun b hb => ((o.q hi).2 b hb).2, c⟩, d⟩

theorem min_iff {p : HE} : Min H p ↔ p ∈ H ∧ ∀ q ∈ H, ¬ hl q p = true := by
  unfold Min
  have : ∀ q : HE, hlt q p = hl q p := fun q => by
    have h1 := @hlt_iff q p
    have h2 := @hl_iff q p
    by_cases hx : hl q p = true
    · rw [hx]; exact h1.2 (h2.1 hx)
    · simp at hx; rw [hx]
      by_cases hy : hlt q p = true
      · rw [h2.2 (h1.1 hy)] at hx; cases hx
      · simpa using hy
  simp only [this]

theorem least_min {p : HE} (h : least H = some p) : Min H p := min_iff.2 (least_spec h)

theorem ho_new (o : Own h0 h L) (hK : ∀ F r h', Own h0 h' (hpR F r [] n :: L) → K (ptr r) h') : callS Tryz.prog F_heap_New [I n] h K := by
  refine pnew fun h' F r P hF x => hK F r h' (o.cons x ?_ fun b hb => ⟨hF b hb, P.low b hb⟩)
  rw [show max (n : Int) 0 = n by omega] at P
  exact P.toR

theorem own_hp {h' : Heap} {F' : Nat → Prop} {H' : List HE} (o : Own h0 h L) (i : Nat) (hi : L[i]? = some (hpR F r H n)) (P : PV h' F' r H' n) (g : Grow h F F') (u : Upd F h h') : Own h0 h' (L.set i (hpR F' r H' n)) :=
  o.set i hi u P.toR fun b hb => ⟨g b hb, P.low b hb⟩

theorem ho_push (o : Own h0 h L) (i : Nat) (hi : L[i]? = some (hpR F r H n)) (hsm : H.length + 1 < 2 ^ 40) {v : Nat} (hno : ∀ p ∈ H, p.1 ≠ v) (hv : v < n)
    (hK : ∀ F' h', Own h0 h' (L.set i (hpR F' r (((v : Int), key) :: H) n)) → K (I 0) h') : callS Tryz.prog F_heap_Heap_Push [ptr r, I v, I key] h K :=
  ppush0 (own_pv o i hi) hsm hno (by omega) (by omega) fun h' F' P g u => hK F' h' (own_hp o i hi P g u)

theorem ho_lower (o : Own h0 h L) (i : Nat) (hi : L[i]? = some (hpR F r H n)) {v : Nat} {was : Int} (hm : ((v : Int), was) ∈ H) (hk : ¬ was < key)
    (hK : ∀ F' h', Own h0 h' (L.set i (hpR F' r (((v : Int), key) :: H.erase ((v : Int), was)) n)) → K (I 0) h') : callS Tryz.prog F_heap_Heap_Lower [ptr r, I v, I key] h K :=
  plower0 (own_pv o i hi) hm rfl hk fun h' F' P g u => hK F' h' (own_hp o i hi P g u)

theorem ho_key (o : Own h0 h L) (i : Nat) (hi : L[i]? = some (hpR F r H n)) {v : Nat}
    (hK : K (.tuple #[I ((lookH H v).getD 0), .bool (lookH H v).isSome]) h) : callS Tryz.prog F_heap_Heap_Key [ptr r, I v] h K := by
  have P := own_pv o i hi
  refine pkey P (fun hno => ?_) fun p hp e => ?_
  · have : lookH H v = none := lookH_none.2 hno
    rw [this] at hK; exact hK
  · cases hl : lookH H v with
    | none => exact absurd e (lookH_none.1 hl p hp)
    | some k =>
      have hm := lookH_some hl
      have := id_uniq P.nodup hp hm e
      subst this
      rw [hl] at hK; exact hK

theorem ho_pop (o : Own h0 h L) (i : Nat) (hi : L[i]? = some (hpR F r H n)) (hz : least H = none → ∀ h', Own h0 h' L → K (.tuple #[I 0, I 0, .bool false]) h')
    (hK : ∀ p, least H = some p → ∀ F' h', Own h0 h' (L.set i (hpR F' r (H.erase p) n)) → K (.tuple #[I p.1, I p.2, .bool true]) h') : callS Tryz.prog F_heap_Heap_Pop [ptr r] h K := by
  cases hl : least H with
  | none =>
    have e := least_none.1 hl
    subst e
    exact ppop (own_pv o i hi) (fun _ => hz hl h o) fun p hm => by simp [Min] at hm
  | some p => exact ppop1 (own_pv o i hi) (least_min hl) fun h' F' P g u => hK p hl F' h' (own_hp o i hi P g u)

end
end Go.Proofs.YtebjceofpaamjaaGreatDoor

namespace Go.Proofs.YtebjceofpaamjaaGreatDoor
open Go Go.Mh
set_option linter.unusedVariables false

section
variable {h0 h : Heap} {L : List Res} {K : Value → Heap → Prop} {g : G} {r : Nat}

theorem from1_end : EndF (.func (.func F_flood_From_1) #[] #[]) A.t := by
  intro a h K hK
  refine callV_of (l := [.agg (encA a).toArray]) rfl (lk_flood_From_1 _ ?_)
  unfold sh_flood_From_1
  refine (Own.start h).box fun b h1 o1 => ?_
  simp only [pField_ptr]
  exact o1.load 0 rfl rfl (hK _ o1.ext)
theorem to1_end : EndF (.func (.func F_flood_To_1) #[] #[]) A.f := by
  intro a h K hK
  refine callV_of (l := [.agg (encA a).toArray]) rfl (lk_flood_To_1 _ ?_)
  unfold sh_flood_To_1
  refine (Own.start h).box fun b h1 o1 => ?_
  simp only [pField_ptr]
  exact o1.load 0 rfl rfl (hK _ o1.ext)

theorem farcs_iter {l4 n3 e5 : Nat} {vl endv : Value} {ids : List Nat} {head : A → Nat} {T1 T2 T3 : TypeId} (hids : ∀ i ∈ ids, i < g.arcs.length) (hmany : ids.length < 2 ^ 40) (hE : EndF endv head) :
    Iter Tryz.prog (.func (.func F_flood_arcs_1) #[] #[ptr l4, ptr n3, ptr e5])
      (fun h => h[l4]? = some (.cells #[vl] T1 (0, 0)) ∧ h[n3]? = some (.cells #[ptr r] T2 (0, 0)) ∧ h[e5]? = some (.cells #[endv] T3 (0, 0)) ∧ Vw encN 1 h vl ids ∧ NetR h r g) ids.length
      (fun i hi => [I ids[i], vA ⟨0, head (arcAt g.arcs ids[i]), (arcAt g.arcs ids[i]).w⟩]) := by
  rintro yv h0 h Rs K J E ⟨l, rfl⟩ o j0 hQ hY hK
  refine callF_of (l := [yieldV l, ptr l4, ptr n3, ptr e5]) rfl (lk_flood_arcs_1 _ _ _ _ ?_)
  unfold sh_flood_arcs_1
  obtain ⟨hb, _, _, hv, _⟩ := hQ _ _ _ j0 o
  have hc : hcell h ⟨l4, 0, none⟩ = some vl := hcell_of hb rfl
  simp only [pLoad_ptr, hc]
  refine hv.len ?_
  refine LoopH_count ids.length (fun i x h' => x.1 = I i ∧ ∃ Rs', J i Rs' ∧ Own h0 h' Rs') ⟨rfl, Rs, j0, o⟩ ?_
  rintro i ⟨x, ⟨⟩⟩ h Z hi ⟨hx, Rs', hj, o⟩ hZ
  dsimp only at hx hZ ⊢
  subst hx
  unfold sh_flood_arcs_1_L1
  simp only [pBin_lss, ifV_dec]
  refine ⟨fun hlt => ?_, fun hge => ?_⟩
  · have hlt : i < ids.length := by omega
    obtain ⟨_, hn, he, hv, hN⟩ := hQ _ _ _ hj o
    refine hv.at1 (e := fun x : Nat => I x) (fun _ => rfl) hlt ?_
    have hc : hcell h ⟨n3, 0, none⟩ = some (ptr r) := hcell_of hn rfl
    simp only [pLoad_ptr, hc]
    have hil := hids _ (List.getElem_mem hlt)
    refine arc_ok hN hil fun h1 x1 => ?_
    have ea : arcAt g.arcs ids[i] = g.arcs[ids[i]] := by simp [arcAt, hil]
    have o1 := o.more x1
    simp only [pExt0, pExt1]
    refine o1.box fun b h2 o2 => o2.st 0 rfl rfl rfl rfl rfl (encA_plain _) fun h3 o3 => ?_
    obtain ⟨_, _, he3, _, _⟩ := hQ _ _ _ hj o3.tail
    have hc : hcell h3 ⟨e5, 0, none⟩ = some endv := hcell_of he3 rfl
    simp only [pLoad_ptr, hc, pField_ptr]
    refine o3.ldN 0 rfl rfl rfl ?_
    have hl := fun {K} (hk : K (I (g.arcs[ids[i]]).w)) => o3.load (off := 2) (K := K) 0 rfl rfl hk
    simp only [pLoad_ptr] at hl
    refine hl (hE _ _ _ fun h4 x4 => ?_)
    have o4 := o3.more x4
    refine ⟨o4.load 0 rfl rfl rfl, sizesOk_of rfl, ?_⟩
    rw [← ea]
    refine hY i _ (i + 1) Rs' [] h4 _ ⟨⟨hlt, rfl⟩, rfl⟩ hj o4.tail.nilTail (fun Rs'' h'' hj' o' => ?_) fun Rs'' h'' he o' => ?_
    · rw [pUn_not, Bool.not_true, ifV_false, pBin_add, wI i (by omega)]
      exact hZ (I (i + 1 : Nat), ()) h'' hlt ⟨rfl, Rs'', hj', o'.toNil⟩
    · rw [pUn_not, Bool.not_false, ifV_true]
      exact hK _ _ (.inr he) o'.toNil
  · have : i = ids.length := by omega
    exact hK _ _ (.inl ⟨i, this, hj⟩) o

/-- Who is closed, as the program keeps it. -/
def clo (order : List Nat) : Int → Option Value := fun k => if order.any (fun v => (v : Int) == k) then some (I 1) else none
theorem clo_in {order : List Nat} {v : Nat} (h : v ∈ order) : clo order v = some (I 1) := by
  have : order.any (fun u => (u : Int) == (v : Int)) = true := List.any_eq_true.2 ⟨v, h, by simp⟩
  simp [clo, this]
theorem clo_out {order : List Nat} {v : Nat} (h : v ∉ order) : clo order v = none := by
  have : order.any (fun u => (u : Int) == (v : Int)) = false := by
    simp only [List.any_eq_false, beq_iff_eq]
    intro u hu e
    have : u = v := by omega
    exact h (this ▸ hu)
  simp [clo, this]
theorem clo_add {order : List Nat} {v : Nat} (x : Int) : clo (order ++ [v]) x = fset (clo order) v (I 1) x := by
  unfold fset
  by_cases h : x = v
  · subst h; rw [if_pos rfl, clo_in (by simp)]
  · rw [if_neg h]
    have : ((v : Int) == x) = false := by simpa using fun e => h e.symm
    simp [clo, this]

theorem set_set_same {α : Type} {l : List α} {i j : Nat} {a b : α} (hi : l[i]? = some a) (hj : l[j]? = some b) : (l.set i a).set j b = l := by
  have e1 : l.set i a = l := by
    apply List.ext_getElem?
    intro k
    by_cases e : i = k
    · subst e; rw [List.getElem?_set_self (List.getElem?_eq_some_iff.1 hi).1, hi]
    · rw [List.getElem?_set_ne e]
  rw [e1]
  apply List.ext_getElem?
  intro k
  by_cases e : j = k
  · subst e; rw [List.getElem?_set_self (List.getElem?_eq_some_iff.1 hj).1, hj]
  · rw [List.getElem?_set_ne e]

theorem reach_ok {rr hp n m : Nat} {F : Nat → Prop} {sd sa so : Value} {s : FS} {B : Int} {v a : Nat} {d : Int} (o : Own h0 h L) (i1 i2 i3 i4 : Nat)
    (h1 : L[i1]? = some (cellR rr [ptr hp, sd, sa, so, .map (some m)] T_flood_run)) (h2 : L[i2]? = some (hpR F hp s.hp n)) (h3 : L[i3]? = some (slR encI 1 T_int sa s.arc)) (h4 : L[i4]? = some (mapR m (clo s.order)))
    (n12 : i2 ≠ i1) (n23 : i2 ≠ i3) (n24 : i2 ≠ i4) (inv : FInv n B s) (hn : n ≤ 16777216) (hv : v < n)
    (hK : ∀ F' h', Own h0 h' ((L.set i2 (hpR F' hp (s.reach v a d).hp n)).set i3 (slR encI 1 T_int sa (s.reach v a d).arc)) → K (.tuple #[]) h') :
    callS Tryz.prog F_flood_run_reach [ptr rr, I v, I a, I d] h K := by
  refine callS_of (lk_flood_run_reach _ _ _ _ ?_)
  unfold sh_flood_run_reach
  simp only [pNil_ptr, pField_ptr]
  refine o.load i1 h1 rfl (ho_key o i2 h2 ?_)
  simp only [pExt0, pExt1]
  refine o.load i1 h1 rfl ?_
  refine o.look i4 h4 ?_
  simp only [Bool.false_eq_true, if_false]
  have hlen : s.hp.length ≤ n := by
    have : (s.hp.map (·.1.toNat)).length ≤ n := nodup_le (by
      have : s.hp.map (·.1.toNat) = (s.hp.map (·.1)).map Int.toNat := by simp
      rw [this, List.nodup_iff_pairwise_ne, List.pairwise_map]
      refine (List.nodup_iff_pairwise_ne.1 inv.ids).imp_of_mem fun {x y} hx hy hne e => hne ?_
      obtain ⟨p, hp, rfl⟩ := List.mem_map.1 hx
      obtain ⟨q, hq, rfl⟩ := List.mem_map.1 hy
      obtain ⟨u, e1, _⟩ := inv.ent p hp
      obtain ⟨w, e2, _⟩ := inv.ent q hq
      rw [e1, e2] at e ⊢
      have e' : u = w := by simpa using e
      rw [e']) (fun x hx => by
      obtain ⟨p, hp, rfl⟩ := List.mem_map.1 hx
      obtain ⟨u, e1, e2, _⟩ := inv.ent p hp
      rw [e1]; simpa using e2)
    simpa using this
  by_cases hc : v ∈ s.order
  · rw [clo_in hc]
    simp only [Option.getD_some]
    have : s.reach v a d = s := by simp [FS.reach, hc]
    rw [this, ] at hK
    have hk := fun h => hK F h
    rw [set_set_same h2 h3] at hk
    simpa using hk h o
  · rw [clo_out hc]
    simp only [Option.getD_none, pBin_gtr, ifV_dec]
    refine ⟨fun e => by omega, fun _ => ?_⟩
    cases hl : lookH s.hp v with
    | some was =>
      simp only [Option.isSome_some, ifV_true, Option.getD_some, pBin_leq, ifV_dec]
      refine ⟨fun hle => ?_, fun hgt => ?_⟩
      · have : s.reach v a d = s := by simp [FS.reach, hc, hl, hle]
        rw [this] at hK
        have hk := fun h => hK F h
        rw [set_set_same h2 h3] at hk
        exact hk h o
      · unfold sh_flood_run_reach_k1 sh_flood_run_reach_k2
        simp only [ifV_true, pNil_ptr, pField_ptr]
        refine o.load i1 h1 rfl (ho_lower o i2 h2 (lookH_some hl) (by omega) fun F' h5 o5 => ?_)
        refine o5.load i1 (by rw [List.getElem?_set_ne n12]; exact h1) rfl ?_
        refine o5.setI (z := a) i3 (by rw [List.getElem?_set_ne n23]; exact h3) (by rw [inv.al]; exact hv) fun h6 o6 => ?_
        have : s.reach v a d = { s with hp := ((v : Int), d) :: s.hp.erase ((v : Int), was), arc := s.arc.set v a } := by simp [FS.reach, hc, hl, hgt]
        rw [this] at hK
        exact hK F' h6 o6
    | none =>
      simp only [Option.isSome_none, ifV_false]
      unfold sh_flood_run_reach_k1 sh_flood_run_reach_k2
      simp only [ifV_false, pNil_ptr, pField_ptr]
      refine o.load i1 h1 rfl (ho_push o i2 h2 (by omega) (lookH_none.1 hl) hv fun F' h5 o5 => ?_)
      refine o5.load i1 (by rw [List.getElem?_set_ne n12]; exact h1) rfl ?_
      refine o5.setI (z := a) i3 (by rw [List.getElem?_set_ne n23]; exact h3) (by rw [inv.al]; exact hv) fun h6 o6 => ?_
      have : s.reach v a d = { s with hp := ((v : Int), d) :: s.hp, arc := s.arc.set v a } := by simp [FS.reach, hc, hl]
      rw [this] at hK
      exact hK F' h6 o6

end
end Go.Proofs.YtebjceofpaamjaaGreatDoor

namespace Go.Proofs.YtebjceofpaamjaaGreatDoor
open Go Go.Mh
set_option linter.unusedVariables false

/-- A tree in memory. -/
def TreeV (h : Heap) (v : Value) (t : Tr) : Prop := ∃ sd sa so, v = .agg #[sd, sa, so] ∧ Vw encI 1 h sd t.dist ∧ Vw encI 1 h sa t.arc ∧ Vw encN 1 h so t.order
theorem TreeV.more {h h' : Heap} {v : Value} {t : Tr} (H : TreeV h v t) (x : Ext h h') : TreeV h' v t := by
  obtain ⟨sd, sa, so, e, a, b, c⟩ := H
  exact ⟨sd, sa, so, e, a.more x, b.more x, c.more x⟩

theorem scan_take {l : List A} {head : A → Nat} {key : Int} {s : FS} {ids : List Nat} {i : Nat} (hi : i < ids.length) :
    s.scan l head key (ids.take (i + 1)) = (s.scan l head key (ids.take i)).reach (head (arcAt l ids[i])) ids[i] (key + (arcAt l ids[i]).w) := by
  unfold FS.scan
  rw [List.take_succ_eq_append_getElem hi, List.foldl_append]; rfl

section
variable {h0 h : Heap} {L : List Res} {K : Value → Heap → Prop} {g : G} {r : Nat} {outs : Nat → List Nat} {head : A → Nat} {nextv endv : Value}

/-- A closure that tells the arcs of a node. -/
def NextF (nextv : Value) (g : G) (r : Nat) (outs : Nat → List Nat) : Prop :=
  ∀ (h0 h : Heap) (L : List Res) (K : Value → Heap → Prop) (v : Nat), v < g.n → NetR h r g → Own h0 h L → (∀ v' h', Own h0 h' (slR encN 1 T_int v' (outs v) :: L) → K v' h') → callV Tryz.prog nextv [I v].toArray h K

theorem out_next (hR : g.Right) : NextF (.func (.func F_net_Net_Out) #[ptr r] #[]) g r g.out := by
  intro h0 h L K v hv H o hK
  refine callV_of (l := [ptr r, I v]) rfl ?_
  have := outI_ok (z := v) o hR H (K := K) (by rw [if_pos (by omega)]; exact hK)
  simpa [callS, callV] using this
theorem in_next (hR : g.Right) : NextF (.func (.func F_net_Net_In) #[ptr r] #[]) g r g.in := by
  intro h0 h L K v hv H o hK
  refine callV_of (l := [ptr r, I v]) rfl ?_
  have := inI_ok (z := v) o hR H (K := K) (by rw [if_pos (by omega)]; exact hK)
  simpa [callS, callV] using this

abbrev runL (r9 rr m hp t8 n : Nat) (sd sa : Value) (kb : Nat) (key : Int) (F : Nat → Prop) (H : List HE) (so : Value) (st : FS) (mm : List Nat) : List Res :=
  [cellR kb [I key] T_int64, cellR r9 [ptr rr] T_p_flood_run, cellR rr [ptr hp, sd, sa, so, .map (some m)] T_flood_run, hpR F hp H n, slR encI 1 T_int sa st.arc, mapR m (clo st.order), xR sd st.dist, slR encN 1 T_int so st.order,
    cellR t8 [sl0, sl0, sl0] T_flood_Tree, marksR mm]

/-- The rest of a flood, from a state on. -/
theorem flood_loop {r9 rr m hp t8 : Nat} {sd sa : Value} {fin : FS} {h' : Heap} {x : List Nat × Vals [10, 11, 12]} (hR : g.Right) (H : NetR h r g) (hN : NextF nextv g r outs) (hE : EndF endv head) (hev : endv.cells = #[endv]) (hhead : ∀ a ∈ g.arcs, head a < g.n)
    (hout : ∀ v, v < g.n → ∀ i ∈ outs v, i < g.arcs.length) (hol : ∀ v, (outs v).length ≤ g.arcs.length)
    (hK : ∀ so h', Own h h' [xR sd fin.dist, slR encI 1 T_int sa fin.arc, slR encN 1 T_int so fin.order] → K (.agg #[sd, sa, so]) h')
    (J : ∃ (st : FS) (kb : Nat) (key : Int) (so : Value) (F : Nat → Prop) (H : List HE), x.2.2.1 = ptr kb ∧ FS.run g.arcs outs head (g.n + 1 - st.order.length) st = fin ∧ FInv g.n (st.order.length * W) st ∧
      ((least st.hp = none ∧ x.2.2.2.1 = .bool false) ∨ ∃ p, least st.hp = some p ∧ x.2.1 = I p.1 ∧ key = p.2 ∧ x.2.2.2.1 = .bool true ∧ H = st.hp.erase p) ∧ Own h h' (runL r9 rr m hp t8 g.n sd sa kb key F H so st x.1)) :
    LoopH (σ := List Nat × Vals [10, 11, 12]) (fun x hh ZZ => sh_flood_flood_L2 Tryz.prog (ptr r9) nextv (ptr r) endv (ptr t8) K x.1 x.2.1 x.2.2.1 x.2.2.2.1 hh (fun mz a0 a1 a2 hz => ZZ (mz, (a0, (a1, (a2, ())))) hz)) x h' := by
  have hmost := hR.most
  have hmany := hR.many
  obtain ⟨st0, J⟩ := J
  refine LoopH_down (k0 := g.n + 1 - st0.order.length) (fun k x h' => ∃ (st : FS) (kb : Nat) (key : Int) (so : Value) (F : Nat → Prop) (H : List HE), k = g.n + 1 - st.order.length ∧ x.2.2.1 = ptr kb ∧ FS.run g.arcs outs head (g.n + 1 - st.order.length) st = fin ∧ FInv g.n (st.order.length * W) st ∧
      ((least st.hp = none ∧ x.2.2.2.1 = .bool false) ∨ ∃ p, least st.hp = some p ∧ x.2.1 = I p.1 ∧ key = p.2 ∧ x.2.2.2.1 = .bool true ∧ H = st.hp.erase p) ∧ Own h h' (runL r9 rr m hp t8 g.n sd sa kb key F H so st x.1))
    (by obtain ⟨kb, key, so, F, H, J⟩ := J; exact ⟨st0, kb, key, so, F, H, rfl, J⟩) ?_
  clear J st0 h' x
  rintro k ⟨mm, v, kv, is, ⟨⟩⟩ h' Z ⟨st, kb, key, so, F, Hp, hk, hkb, hrun, inv, hcase, o⟩ hZ
  dsimp only at hkb hcase o hZ ⊢
  subst hkb
  unfold sh_flood_flood_L2
  simp only [pNil_ptr, pField_ptr]
  rcases hcase with ⟨hl, rfl⟩ | ⟨p, hl, rfl, rfl, rfl, rfl⟩
  · rw [ifV_false]
    have hf : st = fin := by
      rw [← hrun]
      cases g.n + 1 - st.order.length with
      | zero => rfl
      | succ k => simp only [FS.run, hl]
    subst hf
    refine o.load 1 rfl rfl ?_
    simp only [pNil_ptr, pField_ptr]
    refine o.ldN 2 rfl rfl rfl ?_
    refine o.st 8 rfl rfl rfl rfl rfl ?_ fun h2 o2 => ?_
    · intro u hu
      simp at hu
      rcases hu with rfl | rfl | rfl
      · exact (o.vw 6 rfl).plain
      · exact (o.vw 4 rfl).plain
      · exact (o.vw 7 rfl).plain
    · refine o2.take 9 rfl fun h3 o3 => ?_
      exact o3.ldN 8 rfl rfl rfl (hK so h3 (o3.sel [6, 4, 7] (by decide)))
  · rw [ifV_true]
    have hm := (least_spec hl).1
    obtain ⟨u, hu, hun, hno, hk0, hkB⟩ := inv.ent p hm
    obtain ⟨pv, key⟩ := p
    dsimp only at hu hk0 hkB o ⊢
    subst hu
    have hroom := inv.room (by intro e; rw [e] at hm; cases hm)
    have hB : (st.order.length : Int) * W + W ≤ 16777216 * W := by
      have : (st.order.length : Int) + 1 ≤ 16777216 := by omega
      have := Int.mul_le_mul_of_nonneg_right this (show (0 : Int) ≤ W by decide)
      rw [Int.add_mul, Int.one_mul] at this
      exact this
    refine o.load 1 rfl rfl ?_
    simp only [pNil_ptr, pField_ptr]
    refine o.load 2 rfl rfl ?_
    refine o.look 5 rfl ?_
    rw [clo_out hno]
    simp only [Bool.false_eq_true, if_false, Option.getD_none, pBin_add]
    rw [show IntKind.i64.wrap (0 + 1) = 1 from rfl]
    refine o.mapPut (f' := clo (st.order ++ [u])) 5 rfl clo_add fun h1 o1 => ?_
    refine o1.load 1 rfl rfl ?_
    simp only [pNil_ptr, pField_ptr]
    refine o1.load 2 rfl rfl (o1.load 0 rfl rfl ?_)
    refine o1.setI 6 rfl (by rw [inv.dl]; exact hun) fun h2 o2 => ?_
    refine o2.load 1 rfl rfl (o2.load 1 rfl rfl ?_)
    simp only [pNil_ptr, pField_ptr]
    refine o2.load 2 rfl rfl ?_
    refine o2.app1 7 u rfl rfl (sizesOk_of rfl) encN_len encN_plain rfl (by decide) (by omega) fun so1 h3 o3 => ⟨o3.load 1 rfl rfl rfl, ?_⟩
    refine o3.st1 2 rfl rfl rfl (o3.vw 7 rfl).one (o3.vw 7 rfl).plain fun h4 o4 => ?_
    refine hN _ _ _ _ u hun (H.more o4.ext) o4 fun vl h5 o5 => ?_
    refine callS_of (lk_flood_arcs _ _ _ ?_)
    unfold sh_flood_arcs
    refine o5.box fun n3 h6 o6 => o6.box fun l4 h7 o7 => o7.box fun e5 h8 o8 => ?_
    have hvl := o5.vw 0 rfl
    obtain ⟨st1, hst1⟩ : ∃ st1, st1 = st.pop u key := ⟨_, rfl⟩
    have hW : (0 : Int) ≤ W := by decide
    have inv1 : FInv g.n (st.order.length * W + W) st1 := by subst hst1; exact (inv.popped hm).mono (by omega)
    have hord : st1.order.length = st.order.length + 1 := by subst hst1; simp [FS.pop]
    have hids := hout u hun
    have hscan : ∀ i, FInv g.n (st.order.length * W + W) (st1.scan g.arcs head key ((outs u).take i)) := fun i =>
      FInv.scan (fun a ha => ⟨hhead a ha, by have := (hR.ends a ha).2.2; show (a.w : Int) ≤ 2147483647; omega⟩) hk0 (by omega) (fun j hj => hids j (List.mem_of_mem_take hj)) inv1
    have L0 : Own h h8 (cellR e5 endv.cells.toList T_func_api_Arc_int :: cellR l4 vl.cells.toList T_sl_int :: cellR n3 [ptr r] T_p_net_Net :: slR encN 1 T_int vl (outs u) :: runL r9 rr m hp t8 g.n sd sa kb key F (st1.scan g.arcs head key ((outs u).take 0)).hp so1 (st1.scan g.arcs head key ((outs u).take 0)) mm) := by
      subst hst1; exact o8
    refine L0.range (farcs_iter (r := r) (T1 := T_sl_int) (T2 := T_p_net_Net) (T3 := T_func_api_Arc_int) (vl := vl) hids (by have := hol u; omega) hE) (fun i x i' ⟨⟨hi, e⟩, _⟩ => by rw [e]; rfl)
      (fun i Rs => ∃ F, Rs = cellR e5 endv.cells.toList T_func_api_Arc_int :: cellR l4 vl.cells.toList T_sl_int :: cellR n3 [ptr r] T_p_net_Net :: slR encN 1 T_int vl (outs u) :: runL r9 rr m hp t8 g.n sd sa kb key F (st1.scan g.arcs head key ((outs u).take i)).hp so1 (st1.scan g.arcs head key ((outs u).take i)) mm)
      (fun _ => False) (fun _ _ => False) ⟨F, rfl⟩ ?_ ?_ ?_ (fun _ _ h => h.elim) (fun _ _ _ h => h.elim)
    · rintro i Rs' h' ⟨F, rfl⟩ o'
      refine ⟨?_, o'.get 2 rfl, ?_, o'.vw 3 rfl, H.more o'.ext⟩
      · have := o'.get 1 rfl
        rw [show vl.cells.toList = [vl] by rw [hvl.one]] at this
        exact this
      · have := o'.get 0 rfl
        rw [show endv.cells.toList = [endv] by rw [hev]] at this
        exact this
    · rintro M i x i' Rs' Pr h9 R ⟨⟨hi, rfl⟩, rfl⟩ ⟨F, rfl⟩ o9 hN' _ _
      dsimp only [valsOf]
      unfold sh_flood_flood_B3
      refine o9.box fun a14 h10 o10 => o10.st 0 rfl rfl rfl rfl rfl (encA_plain _) fun h11 o11 => ?_
      refine o11.begin 1 rfl fun h12 o12 => ?_
      refine o12.load 8 rfl rfl ?_
      simp only [pField_ptr]
      refine o12.load 0 rfl rfl (o12.load 7 rfl rfl (o12.load 0 rfl rfl ?_))
      have hil := hids _ (List.getElem_mem hi)
      have ha : arcAt g.arcs (outs u)[i] ∈ g.arcs := by simp [arcAt, hil]
      have hw := (hR.ends _ ha).2.2
      have e1 : IntKind.i64.wrap (key + ((arcAt g.arcs (outs u)[i]).w : Int)) = key + (arcAt g.arcs (outs u)[i]).w := by
        have hW2 : (16777216 : Int) * W ≤ 2 ^ 62 := by decide
        exact w64 (by omega) (by have : (W : Int) = 2147483647 := rfl
                                 omega)
      rw [pBin_add, e1]
      refine reach_ok o12 9 10 11 12 rfl rfl rfl rfl (by decide) (by decide) (by decide) (hscan i) hmost (hhead _ ha) fun F' h13 o13 => ?_
      refine hN' _ _ ⟨F', rfl⟩ ?_
      have hsc := scan_take (l := g.arcs) (head := head) (key := key) (s := st1) hi
      have hro := @reach_order (st1.scan g.arcs head key ((outs u).take i)) (head (arcAt g.arcs (outs u)[i])) (outs u)[i] (key + (arcAt g.arcs (outs u)[i]).w)
      rw [← hsc] at hro
      have := o13.tail
      rw [← hsc] at this
      simp only [runL, hro.1, hro.2]
      exact this
    · rintro i h9 Rs' rfl ⟨F', rfl⟩ o9
      rw [List.take_length] at o9
      have hso := @scan_order g.arcs head key (outs u) st1
      refine o9.load 5 rfl rfl (o9.box fun kb2 h10 o10 => ?_)
      refine o10.st1 0 rfl rfl rfl rfl rfl fun h11 o11 => ?_
      refine o11.load 7 rfl rfl ?_
      simp only [pNil_ptr, pField_ptr]
      refine o11.load 8 rfl rfl ?_
      have inv2 : FInv g.n ((st1.scan g.arcs head key (outs u)).order.length * W) (st1.scan g.arcs head key (outs u)) := by
        have := hscan (outs u).length
        rw [List.take_length] at this
        refine this.mono ?_
        rw [hso.1, hord]
        have : ((st.order.length + 1 : Nat) : Int) * W = st.order.length * W + W := by
          rw [Int.natCast_add, Int.add_mul]; rfl
        omega
      have hrun2 : FS.run g.arcs outs head (g.n + 1 - (st1.scan g.arcs head key (outs u)).order.length) (st1.scan g.arcs head key (outs u)) = fin := by
        rw [← hrun, hso.1, hord]
        rw [show g.n + 1 - st.order.length = (g.n + 1 - (st.order.length + 1)) + 1 by omega]
        simp only [FS.run, hl, Int.toNat_natCast]
        rw [← hst1]
      have mark := fun {h'' : Heap} {A B : Res} {C : List Res} (o : Own h h'' (A :: B :: C)) => o
      refine ho_pop o11 9 rfl (fun hl2 h12 o12 => ?_) fun p hl2 F2 h12 o12 => ?_
      · simp only [pExt0, pExt1, pExt2]
        refine o12.st1 0 rfl rfl rfl rfl rfl fun h13 o13 => ?_
        have o14 := (o13.swap).addMark 14 rfl
        refine hZ (_ :: mm, (I 0, (ptr kb2, (.bool false, ())))) h13 _ (by rw [hso.1, hord]; omega) ⟨st1.scan g.arcs head key (outs u), kb2, 0, so1, F', (st1.scan g.arcs head key (outs u)).hp, rfl, rfl, hrun2, inv2, .inl ⟨hl2, rfl⟩, ?_⟩
        exact o14.sel [0, 6, 7, 8, 9, 10, 11, 12, 13, 14] (by decide)
      · simp only [pExt0, pExt1, pExt2]
        refine o12.st1 0 rfl rfl rfl rfl rfl fun h13 o13 => ?_
        have o14 := (o13.swap).addMark 14 rfl
        refine hZ (_ :: mm, (I p.1, (ptr kb2, (.bool true, ())))) h13 _ (by rw [hso.1, hord]; omega) ⟨st1.scan g.arcs head key (outs u), kb2, p.2, so1, F2, (st1.scan g.arcs head key (outs u)).hp.erase p, rfl, rfl, hrun2, inv2, .inr ⟨p, hl2, rfl, rfl, rfl, rfl⟩, ?_⟩
        exact o14.sel [0, 6, 7, 8, 9, 10, 11, 12, 13, 14] (by decide)

end
end Go.Proofs.YtebjceofpaamjaaGreatDoor

namespace Go.Proofs.YtebjceofpaamjaaGreatDoor
open Go Go.Mh
set_option linter.unusedVariables false

section
variable {h0 h : Heap} {L : List Res} {K : Value → Heap → Prop} {g : G} {r : Nat} {outs : Nat → List Nat} {head : A → Nat} {nextv endv : Value}

/-- A tree that was just made. -/
def TreeK (h : Heap) (t : Tr) (K : Value → Heap → Prop) : Prop :=
  ∀ sd sa so h', Own h h' [xR sd t.dist, slR encI 1 T_int sa t.arc, slR encN 1 T_int so t.order] → K (.agg #[sd, sa, so]) h'

theorem TreeK.of {t : Tr} (hK : ∀ v h', TreeV h' v t → Ext h h' → K v h') : TreeK h t K :=
  fun sd sa so h' o => hK _ h' ⟨sd, sa, so, rfl, o.vw 0 rfl, o.vw 1 rfl, o.vw 2 rfl⟩ o.ext

theorem flood_none {s : Int} {rv : Value} (hs : rv = .pointer none ∨ (rv = ptr r ∧ NetR h r g ∧ ¬ (0 ≤ s ∧ s < g.n))) (hK : TreeK h .none K) : callS Tryz.prog F_flood_flood [rv, I s, nextv, endv] h K := by
  refine callS_of (lk_flood_flood _ _ _ _ ?_)
  unfold sh_flood_flood sh_flood_flood_k1
  refine (Own.start h).box fun t8 h1 o1 => ?_
  have none : ∀ {h2 : Heap}, Own h h2 [cellR t8 [sl0, sl0, sl0] T_flood_Tree] → pBuild [(.slice none 0 0), (.slice none 0 0), (.slice none 0 0)] [] fun t27 => pStore 3 (ptr t8) t27 h2 fun u h_3 => pLoadN 3 h_3 (ptr t8) fun res => K res h_3 := fun o2 =>
    ⟨trivial, o2.st (cs' := [sl0, sl0, sl0]) 0 rfl (l := [sl0, sl0, sl0]) rfl rfl rfl rfl (by simp) fun h3 o3 => o3.ldN 0 rfl rfl rfl (hK sl0 sl0 sl0 h3 ((o3.nilS.nilS.nilS).sel [0, 1, 2] (by decide)))⟩
  rcases hs with rfl | ⟨rfl, H, hs⟩
  · simp only [pEq_ptr_nil, Option.isNone_none, ifV_true]
    exact none o1
  · simp only [pEq_ptr_nil, Option.isNone_some, ifV_false, pBin_lss, ifV_dec]
    refine ⟨fun _ => none o1, fun e => nodes_ok (H.more o1.ext) ?_⟩
    simp only [pBin_geq, ifV_dec]
    exact ⟨fun _ => none o1, fun e' => by omega⟩

theorem flood_ok {s : Nat} (hR : g.Right) (H : NetR h r g) (hs : s < g.n) (hN : NextF nextv g r outs) (hE : EndF endv head) (hev : endv.cells = #[endv]) (hhead : ∀ a ∈ g.arcs, head a < g.n)
    (hout : ∀ v, v < g.n → ∀ i ∈ outs v, i < g.arcs.length) (hol : ∀ v, (outs v).length ≤ g.arcs.length) (hK : TreeK h (floodP g.arcs g.n outs head s) K) : callS Tryz.prog F_flood_flood [ptr r, I s, nextv, endv] h K := by
  have hmost := hR.most
  refine callS_of (lk_flood_flood _ _ _ _ ?_)
  unfold sh_flood_flood
  refine (Own.start h).box fun t8 h1 o1 => ?_
  simp only [pEq_ptr_nil, Option.isNone_some, ifV_false, pBin_lss, ifV_dec]
  refine ⟨fun e => by omega, fun _ => nodes_ok (H.more o1.ext) ?_⟩
  simp only [pBin_geq, ifV_dec]
  refine ⟨fun e => by omega, fun _ => nodes_ok (H.more o1.ext) (ho_new o1 fun F hp h2 o2 => ?_)⟩
  refine o2.build (enc := encI) (n := 1) [far] rfl (sizesOk_of rfl) rfl fun wf h3 o3 => nodes_ok (H.more o3.ext) ?_
  refine repeat_int64 o3 (o3.vw 0 rfl) hmost fun sd h4 o4 => ?_
  refine o4.build (enc := encI) (n := 1) [-1] rfl (sizesOk_of rfl) rfl fun wm h5 o5 => nodes_ok (H.more o5.ext) ?_
  refine repeat_int o5 (o5.vw 0 rfl) hmost fun sa h6 o6 => ⟨sizesOk_of (by
    obtain ⟨b, c, e⟩ := (o6.vw 0 rfl).isSl
    obtain ⟨b', c', e'⟩ := (o6.vw 2 rfl).isSl
    subst e e'; rfl), ?_⟩
  have ead : sa.cells = #[sa] ∧ sd.cells = #[sd] := ⟨(o6.vw 0 rfl).one, (o6.vw 2 rfl).one⟩
  refine o6.mkMap fun m h7 o7 => ?_
  obtain ⟨ba, ca, ea⟩ := (o7.vw 1 rfl).isSl
  obtain ⟨bd, cd, ed⟩ := (o7.vw 3 rfl).isSl
  refine ⟨sizesOk_of (by subst ea ed; rfl), o7.box fun rr h8 o8 => o8.box fun r9 h9 o9 => o9.st1 0 rfl rfl rfl rfl rfl fun h10 o10 => ?_⟩
  have o11 : Own h h10 (cellR r9 [ptr rr] T_p_flood_run :: cellR rr [ptr hp, sd, sa, sl0, .map (some m)] T_flood_run :: mapR m (fun _ => none) :: slR encI 1 T_int sa (List.replicate g.n (-1)) :: slR encI 1 T_int wm [-1] :: xR sd (List.replicate g.n far) :: xR wf [far] :: hpR F hp [] g.n :: [cellR t8 [sl0, sl0, sl0] T_flood_Tree]) := by
    subst ea ed; exact o10
  clear o10 o9 o8 o7 o6
  refine o11.load 0 rfl rfl ?_
  simp only [pNil_ptr, pField_ptr]
  refine o11.load 1 rfl rfl (ho_push o11 7 rfl (by simp) (by simp) hs fun F1 h12 o12 => ?_)
  refine o12.load 0 rfl rfl ?_
  simp only [pNil_ptr, pField_ptr]
  refine o12.load 1 rfl rfl ?_
  refine ho_pop o12 7 rfl (fun e => by simp [least] at e) fun p hp' F2 h13 o13 => ?_
  have hp2 : p = ((s : Int), 0) := by simpa [least] using hp'.symm
  subst hp2
  simp only [pExt0, pExt1, pExt2]
  refine o13.box fun kb h14 o14 => o14.st1 0 rfl rfl rfl rfl rfl fun h15 o15 => ?_
  have o16 := (o15.noMarks).nilS (enc := encN) (n := 1) (T := T_int)
  refine flood_loop (fin := FS.run g.arcs outs head (g.n + 1) (FS.start g.n s)) (m := m) (sd := sd) (sa := sa) (rr := rr) (hp := hp) hR H hN hE hev hhead hout hol (fun so h' o' => hK sd sa so h' o') ?_
  refine ⟨FS.start g.n s, kb, 0, sl0, F2, _, rfl, rfl, (FInv.start hs).mono (by simp [FS.start]), .inr ⟨((s : Int), 0), hp', rfl, rfl, rfl, rfl⟩, ?_⟩
  have e : (fun _ => none : Int → Option Value) = clo (FS.start g.n s).order := by funext x; simp [clo, FS.start]
  have o17 := o16.sel [2, 3, 4, 10, 6, 5, 8, 0, 11, 1] (by decide)
  dsimp only [List.map, List.getD] at o17
  rw [e] at o17
  exact o17

end
end Go.Proofs.YtebjceofpaamjaaGreatDoor

namespace Go.Proofs.YtebjceofpaamjaaGreatDoor
open Go Go.Mh
set_option linter.unusedVariables false

section
variable {h0 h : Heap} {L : List Res} {K : Value → Heap → Prop} {g : G} {r : Nat} {s : Int}

theorem out_lt {g : G} {v i : Nat} (h : i ∈ g.out v) : i < g.arcs.length := by
  have := (outsP_mem.1 h).2.1; omega
theorem in_lt {g : G} {v i : Nat} (h : i ∈ g.in v) : i < g.arcs.length := by
  have := (outsP_mem.1 h).2.1; omega

theorem from_ok (hR : g.Right) (H : NetR h r g) (hK : TreeK h (g.fromI s) K) : callS Tryz.prog F_flood_From [ptr r, I s] h K := by
  refine callS_of (lk_flood_From _ _ ?_)
  unfold sh_flood_From
  refine (Own.start h).box fun t4 h1 o1 => ?_
  have fin : TreeK h1 (g.fromI s) fun t9 h_2 => pStore 3 (ptr t4) t9 h_2 fun u h_3 => pLoadN 3 h_3 (ptr t4) fun res => K res h_3 := by
    intro sd sa so h2 o2
    have o3 := o1.frame o2
    refine o3.st 3 rfl rfl rfl rfl rfl ?_ fun h3 o4 => o4.ldN 3 rfl rfl rfl (hK sd sa so h3 (o4.sel [0, 1, 2] (by decide)))
    intro u hu
    simp at hu
    rcases hu with rfl | rfl | rfl
    · exact (o3.vw 0 rfl).plain
    · exact (o3.vw 1 rfl).plain
    · exact (o3.vw 2 rfl).plain
  unfold G.fromI at fin
  split at fin <;> rename_i hs
  · obtain ⟨s, rfl⟩ := Int.eq_ofNat_of_zero_le hs.1
    exact flood_ok hR (H.more o1.ext) (by omega) (out_next hR) from1_end rfl (fun a ha => (hR.ends a ha).2.1) (fun v _ i => out_lt) (fun v => outsP_short) fin
  · exact flood_none (g := g) (.inr ⟨rfl, H.more o1.ext, hs⟩) fin

theorem to_ok (hR : g.Right) (H : NetR h r g) (hK : TreeK h (g.toI s) K) : callS Tryz.prog F_flood_To [ptr r, I s] h K := by
  refine callS_of (lk_flood_To _ _ ?_)
  unfold sh_flood_To
  refine (Own.start h).box fun t4 h1 o1 => ?_
  have fin : TreeK h1 (g.toI s) fun t9 h_2 => pStore 3 (ptr t4) t9 h_2 fun u h_3 => pLoadN 3 h_3 (ptr t4) fun res => K res h_3 := by
    intro sd sa so h2 o2
    have o3 := o1.frame o2
    refine o3.st 3 rfl rfl rfl rfl rfl ?_ fun h3 o4 => o4.ldN 3 rfl rfl rfl (hK sd sa so h3 (o4.sel [0, 1, 2] (by decide)))
    intro u hu
    simp at hu
    rcases hu with rfl | rfl | rfl
    · exact (o3.vw 0 rfl).plain
    · exact (o3.vw 1 rfl).plain
    · exact (o3.vw 2 rfl).plain
  unfold G.toI at fin
  split at fin <;> rename_i hs
  · obtain ⟨s, rfl⟩ := Int.eq_ofNat_of_zero_le hs.1
    exact flood_ok hR (H.more o1.ext) (by omega) (in_next hR) to1_end rfl (fun a ha => (hR.ends a ha).1) (fun v _ i => in_lt) (fun v => outsP_short) fin
  · exact flood_none (g := g) (.inr ⟨rfl, H.more o1.ext, hs⟩) fin

theorem from_nil (hK : TreeK h .none K) : callS Tryz.prog F_flood_From [.pointer none, I s] h K := by
  refine callS_of (lk_flood_From _ _ ?_)
  unfold sh_flood_From
  refine (Own.start h).box fun t4 h1 o1 => flood_none (g := ⟨0, [], [], []⟩) (r := 0) (.inl rfl) fun sd sa so h2 o2 => ?_
  have o3 := o1.frame o2
  refine o3.st 3 rfl rfl rfl rfl rfl ?_ fun h3 o4 => o4.ldN 3 rfl rfl rfl (hK sd sa so h3 (o4.sel [0, 1, 2] (by decide)))
  intro u hu
  simp at hu
  rcases hu with rfl | rfl | rfl
  · exact (o3.vw 0 rfl).plain
  · exact (o3.vw 1 rfl).plain
  · exact (o3.vw 2 rfl).plain
theorem to_nil (hK : TreeK h .none K) : callS Tryz.prog F_flood_To [.pointer none, I s] h K := by
  refine callS_of (lk_flood_To _ _ ?_)
  unfold sh_flood_To
  refine (Own.start h).box fun t4 h1 o1 => flood_none (g := ⟨0, [], [], []⟩) (r := 0) (.inl rfl) fun sd sa so h2 o2 => ?_
  have o3 := o1.frame o2
  refine o3.st 3 rfl rfl rfl rfl rfl ?_ fun h3 o4 => o4.ldN 3 rfl rfl rfl (hK sd sa so h3 (o4.sel [0, 1, 2] (by decide)))
  intro u hu
  simp at hu
  rcases hu with rfl | rfl | rfl
  · exact (o3.vw 0 rfl).plain
  · exact (o3.vw 1 rfl).plain
  · exact (o3.vw 2 rfl).plain

end
end Go.Proofs.YtebjceofpaamjaaGreatDoor

namespace Go.Proofs.YtebjceofpaamjaaGreatDoor
open Go Go.Mh
set_option linter.unusedVariables false

section
variable {h0 h : Heap} {L : List Res} {K : Value → Heap → Prop} {g : G} {vb v : Value} {bs : List Int}

theorem drawn10_ok (H : Vw encU8 1 h vb bs) (hK : ∀ (g : G) vx vy va h', Few g → Own h h' [xR vx g.X, xR vy g.Y, aR va g.arcs] → K (.agg #[I g.n, vx, vy, va]) h') : callS Tryz.prog F_milestonelaw10_drawn [vb] h K := by
  refine callS_of (lk_milestonelaw10_drawn _ ?_)
  unfold sh_milestonelaw10_drawn
  refine (Own.start h).box fun t2 h1 o1 => H.len ?_
  have e : (if (80 : Int) < bs.length then 80 else (bs.length : Int)) = ((min bs.length 80 : Nat) : Int) := by split <;> omega
  rw [pMin_int, e]
  refine H.sub (a := 0) (j := min bs.length 80) encU8_len rfl rfl (by omega) (by omega) fun vb' hb => ⟨sizesOk_of (by obtain ⟨b, c, e⟩ := hb.isSl; subst e; rfl), ?_⟩
  refine o1.box fun d h2 o2 => ?_
  have o3 : Own h h2 (dR d vb' 0 :: [cellR t2 [I 0, sl0, sl0, sl0] T_api_Raw]) := by obtain ⟨b, c, e⟩ := hb.isSl; subst e; exact o2
  refine raw_ok o3 hb fun g vx vy va a' h4 hg o4 => ?_
  have p0 := (o4.vw 0 rfl).plain
  have p1 := (o4.vw 1 rfl).plain
  have p2 := (o4.vw 2 rfl).plain
  refine o4.st 4 rfl rfl rfl rfl rfl ?_ fun h5 o5 => o5.ldN 4 rfl rfl rfl (hK g vx vy va h5 hg (o5.sel [0, 1, 2] (by decide)))
  intro u hu
  simp at hu
  rcases hu with rfl | rfl | rfl | rfl
  · rfl
  · exact p0
  · exact p1
  · exact p2

theorem made10_ok (o : Own h0 h L) (hR : g.Right) (H : RawV h v g) (hK : ∀ r N h', netR N r g → Own h0 h' (N :: L) → K (ptr r) h') : callS Tryz.prog F_milestonelaw10_made [v] h K := by
  obtain ⟨vx, vy, va, rfl, H⟩ := H
  refine callS_of (lk_milestonelaw10_made _ ?_)
  unfold sh_milestonelaw10_made
  refine (Own.start h).box fun b h1 o1 => o1.ldN 0 rfl rfl rfl ?_
  refine new_net_ok o1 hR ⟨vx, vy, va, rfl, H.more o1.ext⟩ fun r N h2 hN o2 => ?_
  simp only [pExt0, pExt1, pNe_iface_nil, ifV_false]
  exact hK r N h2 hN (o.frame (o2.sel [0] (by decide)))

/-- A graph drawn, and its net. -/
theorem rawOf {vx vy va : Value} (o : Own h0 h L) (i j k : Nat) (hi : L[i]? = some (xR vx g.X)) (hj : L[j]? = some (xR vy g.Y)) (hk : L[k]? = some (aR va g.arcs)) : RawV h (.agg #[I g.n, vx, vy, va]) g :=
  ⟨vx, vy, va, rfl, o.vw i hi, o.vw j hj, o.vw k hk⟩

end
end Go.Proofs.YtebjceofpaamjaaGreatDoor

namespace Go.Proofs.YtebjceofpaamjaaGreatDoor
open Go Go.Mh
set_option linter.unusedVariables false

section
variable {h0 h : Heap} {L : List Res} {K : Value → Heap → Prop} {g : G} {v vf va vo : Value} {t : Tr}

theorem is_ok (H : TreeV h v t) (Hf : Vw encI 1 h vf t.dist) (Ha : Vw encI 1 h va t.arc) (Ho : Vw encN 1 h vo t.order) (hl : t.arc.length = t.dist.length) (h1 : t.dist.length < 2 ^ 40) (h2 : t.order.length < 2 ^ 40) (hK : ∀ h', Ext h h' → K (.bool true) h') :
    callS Tryz.prog F_milestonelaw10_is [v, vf, va, vo] h K := by
  obtain ⟨sd, sa, so, rfl, D, R, O⟩ := H
  refine callS_of (lk_milestonelaw10_is _ _ _ _ ?_)
  unfold sh_milestonelaw10_is
  refine (Own.start h).box fun x h1' o1 => ?_
  simp only [pField_ptr]
  have D1 := D.more o1.ext
  have R1 := R.more o1.ext
  have O1 := O.more o1.ext
  have Hf1 := Hf.more o1.ext
  have Ha1 := Ha.more o1.ext
  have Ho1 := Ho.more o1.ext
  refine o1.load 0 rfl rfl (D1.len (Hf1.len ?_))
  simp only [pBin_neq, bne_self_eq_false, ifV_false]
  refine o1.load 0 rfl rfl (R1.len (Ha1.len ?_))
  simp only [pBin_neq, bne_self_eq_false, ifV_false]
  refine o1.load 0 rfl rfl (O1.len (Ho1.len ?_))
  simp only [pBin_neq, bne_self_eq_false, ifV_false]
  refine LoopH_count t.dist.length (fun i y h' => y.1 = I i ∧ h' = h1') ⟨rfl, rfl⟩ ?_
  rintro i ⟨y, ⟨⟩⟩ h' Z hi ⟨hy, rfl⟩ hZ
  dsimp only at hy hZ ⊢
  subst hy
  unfold sh_milestonelaw10_is_L2
  refine Hf1.len ?_
  simp only [pBin_lss, ifV_dec]
  refine ⟨fun hlt => ?_, fun _ => ?_⟩
  · have hlt : i < t.dist.length := by omega
    refine cutP_of (fun y h'' => y.1 = .bool false ∧ h'' = h') (fun J hJ => ?_) ?_
    · simp only [pField_ptr]
      refine o1.load 0 rfl rfl (D1.atI hlt (Hf1.atI hlt ?_))
      simp only [pBin_neq, bne_self_eq_false, ifV_false]
      refine o1.load 0 rfl rfl (R1.atI (by omega) (Ha1.atI (by omega) ?_))
      simp only [pBin_neq, bne_self_eq_false]
      exact hJ _ _ ⟨rfl, rfl⟩
    · rintro ⟨y, ⟨⟩⟩ h'' ⟨hy, rfl⟩
      dsimp only at hy ⊢
      subst hy
      unfold sh_milestonelaw10_is_C3
      rw [ifV_false, pBin_add, wI i (by omega)]
      exact hZ (I (i + 1 : Nat), ()) _ hlt ⟨rfl, rfl⟩
  · refine LoopH_count t.order.length (fun i y h'' => y.1 = I i ∧ h'' = h') ⟨rfl, rfl⟩ ?_
    rintro j ⟨y, ⟨⟩⟩ h'' Z2 hj ⟨hy, rfl⟩ hZ2
    dsimp only at hy hZ2 ⊢
    subst hy
    unfold sh_milestonelaw10_is_L4
    refine Ho1.len ?_
    simp only [pBin_lss, ifV_dec, pField_ptr]
    refine ⟨fun hlt => ?_, fun _ => hK _ o1.ext⟩
    have hlt : j < t.order.length := by omega
    refine o1.load 0 rfl rfl (O1.at1 (e := fun x : Nat => I x) (fun _ => rfl) hlt (Ho1.at1 (e := fun x : Nat => I x) (fun _ => rfl) hlt ?_))
    simp only [pBin_neq, bne_self_eq_false, ifV_false]
    rw [pBin_add, wI j (by omega)]
    exact hZ2 (I (j + 1 : Nat), ()) _ hlt ⟨rfl, rfl⟩

/-! ### The chapter's example -/

def g4 : G := ⟨4, [0, 0, 0, 0], [0, 0, 0, 0], [⟨0, 1, 4⟩, ⟨0, 2, 1⟩, ⟨2, 1, 2⟩, ⟨1, 0, 0⟩]⟩
theorem g4_right : g4.Right := by
  refine ⟨by decide, by decide, rfl, rfl, by decide, by decide, by decide, by decide⟩

theorem vw_tree (o : Own h0 h L) : True := trivial

theorem works10_ok (hK : ∀ h', Ext h h' → K (.bool true) h') : callS Tryz.prog F_milestonelaw10_works [] h K := by
  refine callS_of (lk_milestonelaw10_works ?_)
  unfold sh_milestonelaw10_works
  refine (Own.start h).build (enc := encI) (n := 1) [0, 0, 0, 0] rfl (sizesOk_of rfl) rfl fun w4 h1 o1 => ?_
  refine ⟨sizesOk_of rfl, sizesOk_of rfl, sizesOk_of rfl, sizesOk_of rfl, ?_⟩
  refine o1.build (enc := encA) (n := 3) g4.arcs (by kernel_rfl) (sizesOk_of rfl) rfl fun wa h2 o2 => ?_
  have e4 := (o2.vw 1 rfl).isSl
  have ea := (o2.vw 0 rfl).isSl
  refine ⟨sizesOk_of (by obtain ⟨_, _, e⟩ := e4; obtain ⟨_, _, e'⟩ := ea; subst e e'; rfl), ?_⟩
  have hraw : RawV h2 (.agg #[I g4.n, w4, w4, wa]) g4 := ⟨w4, w4, wa, rfl, o2.vw 1 rfl, o2.vw 1 rfl, o2.vw 0 rfl⟩
  have ev : (Value.agg (spliceAll [(.int .i64 0), (.slice none 0 0), (.slice none 0 0), (.slice none 0 0)] [(0, 1, (.int .i64 4)), (1, 1, w4), (2, 1, w4), (3, 1, wa)]).toArray) = .agg #[I g4.n, w4, w4, wa] := by
    obtain ⟨_, _, e⟩ := e4; obtain ⟨_, _, e'⟩ := ea; subst e e'; rfl
  rw [ev]
  refine made10_ok o2 g4_right hraw fun r N h3 hN o3 => ?_
  simp only [pNe_ptr_nil, Option.isSome_some, ifV_true]
  have hn3 := hN _ (o3.get 0 rfl)
  have f0 : g4.fromI 0 = ⟨[0, 3, 1, far], [-1, 2, 1, -1], [0, 2, 1]⟩ := by kernel_rfl
  have f1 : g4.toI 1 = ⟨[3, 0, 2, far], [1, -1, 2, -1], [1, 2, 0]⟩ := by kernel_rfl
  have f3 : g4.fromI 3 = ⟨[far, far, far, 0], [-1, -1, -1, -1], [3]⟩ := by kernel_rfl
  refine from_ok g4_right hn3 fun sd sa so h4 o4 => ?_
  replace o4 := o3.frame o4
  rw [f0] at o4
  refine o4.build (enc := encI) (n := 1) [0, 3, 1, far] rfl (sizesOk_of rfl) rfl fun wf h5 o5 => o5.build (enc := encI) (n := 1) [-1, 2, 1, -1] rfl (sizesOk_of rfl) rfl fun wr h6 o6 => o6.build (enc := encN) (n := 1) [0, 2, 1] rfl (sizesOk_of rfl) rfl fun wo h7 o7 => ?_
  refine is_ok (t := ⟨[0, 3, 1, far], [-1, 2, 1, -1], [0, 2, 1]⟩) ⟨sd, sa, so, rfl, o7.vw 3 rfl, o7.vw 4 rfl, o7.vw 5 rfl⟩ (o7.vw 2 rfl) (o7.vw 1 rfl) (o7.vw 0 rfl) rfl (by decide) (by decide) fun h8 x8 => ?_
  replace o7 := o7.more x8
  rw [ifV_true]
  refine to_ok g4_right (hN _ (o7.get 6 rfl)) fun sd sa so h4 o4 => ?_
  replace o4 := o7.frame o4
  rw [f1] at o4
  refine o4.build (enc := encI) (n := 1) [3, 0, 2, far] rfl (sizesOk_of rfl) rfl fun wf h5 o5 => o5.build (enc := encI) (n := 1) [1, -1, 2, -1] rfl (sizesOk_of rfl) rfl fun wr h6 o6 => o6.build (enc := encN) (n := 1) [1, 2, 0] rfl (sizesOk_of rfl) rfl fun wo h7 o7 => ?_
  refine is_ok (t := ⟨[3, 0, 2, far], [1, -1, 2, -1], [1, 2, 0]⟩) ⟨sd, sa, so, rfl, o7.vw 3 rfl, o7.vw 4 rfl, o7.vw 5 rfl⟩ (o7.vw 2 rfl) (o7.vw 1 rfl) (o7.vw 0 rfl) rfl (by decide) (by decide) fun h8 x8 => ?_
  replace o7 := o7.more x8
  rw [ifV_true]
  refine from_ok g4_right (hN _ (o7.get 12 rfl)) fun sd sa so h4 o4 => ?_
  replace o4 := o7.frame o4
  rw [f3] at o4
  refine o4.build (enc := encI) (n := 1) [far, far, far, 0] rfl (sizesOk_of rfl) rfl fun wf h5 o5 => o5.build (enc := encI) (n := 1) [-1, -1, -1, -1] rfl (sizesOk_of rfl) rfl fun wr h6 o6 => o6.build (enc := encN) (n := 1) [3] rfl (sizesOk_of rfl) rfl fun wo h7 o7 => ?_
  refine is_ok (t := ⟨[far, far, far, 0], [-1, -1, -1, -1], [3]⟩) ⟨sd, sa, so, rfl, o7.vw 3 rfl, o7.vw 4 rfl, o7.vw 5 rfl⟩ (o7.vw 2 rfl) (o7.vw 1 rfl) (o7.vw 0 rfl) rfl (by decide) (by decide) fun h8 x8 => ?_
  exact hK _ (o7.more x8).ext

end
end Go.Proofs.YtebjceofpaamjaaGreatDoor

namespace Go.Proofs.YtebjceofpaamjaaGreatDoor
open Go Go.Mh
set_option linter.unusedVariables false

section
variable {h0 h : Heap} {L : List Res} {K : Value → Heap → Prop} {g : G} {v : Value}

theorem copied_ok (o : Own h0 h L) (hR : g.Right) (H : RawV h v g) (hK : ∀ vx vy va h', Own h0 h' (xR vx g.X :: xR vy g.Y :: aR va g.arcs :: L) → K (.agg #[I g.n, vx, vy, va]) h') : callS Tryz.prog F_graph_copied [v] h K := by
  obtain ⟨vx, vy, va, rfl, H⟩ := H
  refine callS_of (lk_graph_copied _ ?_)
  unfold sh_graph_copied
  have hx := hR.x
  have hy := hR.y
  have hm := hR.most
  have hmany := hR.many
  refine (Own.start h).box fun r h1 o1 => o1.box fun e h2 o2 => ?_
  simp only [pField_ptr]
  refine o2.load 1 rfl rfl (o2.load 1 rfl rfl (o2.load 1 rfl rfl ?_))
  refine clone_int64 o2 (H.more o2.ext).1 (by omega) fun vx1 h3 o3 => ⟨o3.load 2 rfl rfl rfl, o3.load 2 rfl rfl rfl, ?_⟩
  refine clone_int64 o3 (H.more o3.ext).2.1 (by omega) fun vy1 h4 o4 => ⟨o4.load 3 rfl rfl rfl, ?_⟩
  refine clone_arc o4 (H.more o4.ext).2.2 (by omega) fun va1 h5 o5 => ?_
  have p0 := o5.vw 0 rfl
  have p1 := o5.vw 1 rfl
  have p2 := o5.vw 2 rfl
  refine o5.st1 4 rfl rfl rfl p2.one p2.plain fun h6 o6 => ?_
  refine o6.st1 4 rfl rfl rfl p1.one p1.plain fun h7 o7 => ?_
  refine o7.st1 (cs' := [I g.n, vx1, vy1, va1]) 4 rfl rfl rfl p0.one p0.plain fun h8 o8 => ?_
  refine o8.ldN 4 rfl rfl rfl ?_
  refine o8.st 3 rfl rfl rfl rfl rfl ?_ fun h9 o9 => ?_
  · intro u hu
    simp at hu
    rcases hu with rfl | rfl | rfl | rfl
    · rfl
    · exact p2.plain
    · exact p1.plain
    · exact p0.plain
  · refine o9.ldN 3 rfl rfl rfl ?_
    exact hK vx1 vy1 va1 h9 (o.frame (o9.sel [2, 1, 0] (by decide)))

theorem turned_step {l : List A} {i : Nat} (hi : i < l.length) : (((l.take i).map A.swap ++ l.drop i).set i (l[i]).swap) = (l.take (i + 1)).map A.swap ++ l.drop (i + 1) := by
  rw [List.set_append_right _ _ (by simp; omega)]
  have e : i - ((l.take i).map A.swap).length = 0 := by simp; omega
  rw [e, List.drop_eq_getElem_cons hi, List.set_cons_zero, List.take_succ_eq_append_getElem hi, List.map_append, List.append_assoc]; rfl

theorem gturned_ok (o : Own h0 h L) (hR : g.Right) (H : RawV h v g) (hK : ∀ vx vy va h', Own h0 h' (xR vx g.X :: xR vy g.Y :: aR va g.turned.arcs :: L) → K (.agg #[I g.n, vx, vy, va]) h') : callS Tryz.prog F_graph_Turned [v] h K := by
  obtain ⟨vx, vy, va, rfl, H⟩ := H
  refine callS_of (lk_graph_Turned _ ?_)
  unfold sh_graph_Turned
  have hmany := hR.many
  refine (Own.start h).box fun r h1 o1 => o1.box fun e h2 o2 => o2.ldN 1 rfl rfl rfl ?_
  refine copied_ok o2 hR ⟨vx, vy, va, rfl, H.more o2.ext⟩ fun vx1 vy1 va1 h3 o3 => ?_
  have p0 := (o3.vw 0 rfl).plain
  have p1 := (o3.vw 1 rfl).plain
  have p2 := (o3.vw 2 rfl).plain
  have pl : ∀ u ∈ [I g.n, vx1, vy1, va1], Mh.plainCell u = true := by
    intro u hu
    simp at hu
    rcases hu with rfl | rfl | rfl | rfl
    · rfl
    · exact p0
    · exact p1
    · exact p2
  refine o3.st 4 rfl rfl rfl rfl rfl pl fun h4 o4 => ?_
  simp only [pField_ptr]
  refine o4.load 4 rfl rfl ((o4.vw 2 rfl).len ?_)
  refine LoopH_count g.arcs.length (fun i x h' => x.1 = I i ∧ Own h h' [xR vx1 g.X, xR vy1 g.Y, aR va1 ((g.arcs.take i).map A.swap ++ g.arcs.drop i), cellR e [I 0, sl0, sl0, sl0] T_api_Raw, cellR r [I g.n, vx1, vy1, va1] T_api_Raw]) ⟨rfl, o4⟩ ?_
  clear o4 o3 o2 o1
  rintro i ⟨x, ⟨⟩⟩ h' Z hi ⟨hx, o'⟩ hZ
  dsimp only at hx hZ ⊢
  subst hx
  unfold sh_graph_Turned_L1
  simp only [pBin_lss, ifV_dec]
  refine ⟨fun hlt => ?_, fun hge => ?_⟩
  · have hlt : i < g.arcs.length := by omega
    have hll : i < ((g.arcs.take i).map A.swap ++ g.arcs.drop i).length := by simp; omega
    have hget : ((g.arcs.take i).map A.swap ++ g.arcs.drop i)[i] = g.arcs[i] := by
      rw [List.getElem_append_right (by simp; omega)]
      simp only [List.getElem_drop]
      congr 1; simp; omega
    refine (o'.vw 2 rfl).atN encA_len hll ?_
    rw [hget]
    refine o'.box fun a4 h1 o1 => o1.st 0 rfl rfl rfl rfl rfl (encA_plain _) fun h2 o2 => ?_
    simp only [pField_ptr]
    refine o2.load 5 rfl rfl (o2.load 5 rfl rfl (o2.load 0 rfl rfl (o2.load 0 rfl rfl ?_)))
    refine o2.setF (a := ⟨g.arcs[i].t, g.arcs[i].t, g.arcs[i].w⟩) 3 rfl encA_len hll (f := 0) (by decide) rfl rfl (by rw [hget]; rfl) fun h3 o3 => ⟨o3.load 5 rfl rfl rfl, o3.load 0 rfl rfl rfl, ?_⟩
    refine o3.setF (a := (g.arcs[i]).swap) 3 rfl encA_len (by simpa using hll) (f := 1) (by decide) rfl rfl (by simp [encA, A.swap]) fun h4 o4 => ?_
    rw [pBin_add, wI i (by omega)]
    refine hZ (I (i + 1 : Nat), ()) h4 hlt ⟨rfl, ?_⟩
    have o5 := o4.tail
    simp only [List.set_set] at o5
    rw [← turned_step hlt]
    exact o5
  · have : i = g.arcs.length := by omega
    subst this
    rw [List.take_length, List.drop_length, List.append_nil] at o'
    refine o'.ldN 4 rfl rfl rfl (o'.st 3 rfl rfl rfl rfl rfl pl fun h2 o2 => o2.ldN 3 rfl rfl rfl ?_)
    exact hK vx1 vy1 va1 h2 (o.frame (o2.sel [0, 1, 2] (by decide)))

end
end Go.Proofs.YtebjceofpaamjaaGreatDoor

namespace Go.Proofs.YtebjceofpaamjaaGreatDoor
open Go Go.Mh
set_option linter.unusedVariables false

section
variable {h0 h : Heap} {L : List Res} {K : Value → Heap → Prop} {g : G} {vb : Value} {bs : List Int}

theorem u8_i64 {z : Int} (h : 0 ≤ z ∧ z < 256) : IntKind.i64.wrap z = z := w64 (by omega) (by omega)

/-- A law's beginning: the examples, and a graph drawn, in a box. -/
theorem begin10 {K1 : Heap → Prop} {R : Value → Heap → Prop} (H : Vw encU8 1 h vb bs)
    (hK : ∀ (g : G) vx vy va b h', Few g → Own h h' [cellR b [I g.n, vx, vy, va] T_api_Raw, xR vx g.X, xR vy g.Y, aR va g.arcs] → R (ptr b) h') :
    callS Tryz.prog F_milestonelaw10_works [] h fun t13 h_1 => pUn .not t13 fun t14 => ifV t14 (K1 h_1) (callS Tryz.prog F_milestonelaw10_drawn [vb] h_1 fun t16 h_2 =>
      pBox T_api_Raw (.agg #[(.int .i64 0), (.slice none 0 0), (.slice none 0 0), (.slice none 0 0)]) h_2 fun g5 h_3 => pStore 4 g5 t16 h_3 fun u h_4 => R g5 h_4) := by
  refine works10_ok fun h1 x1 => ?_
  rw [pUn_not, Bool.not_true, ifV_false]
  have o1 := (Own.start h).more x1
  refine drawn10_ok (H.more o1.ext) fun g vx vy va h2 hg o2 => ?_
  have o3 := o1.frame o2
  refine o3.box fun b h4 o4 => ?_
  refine o4.st 0 rfl rfl rfl rfl rfl ?_ fun h5 o5 => hK g vx vy va b h5 hg o5
  intro u hu
  simp at hu
  rcases hu with rfl | rfl | rfl | rfl
  · rfl
  · exact (o3.vw 0 rfl).plain
  · exact (o3.vw 1 rfl).plain
  · exact (o3.vw 2 rfl).plain

theorem nodeOf {z : Int} {g : G} (hg : g.Right) (hz : 0 ≤ z ∧ z < 256) : ∃ v : Nat, z.tmod g.n = v ∧ v < g.n := by
  obtain ⟨u, rfl⟩ := Int.eq_ofNat_of_zero_le hz.1
  exact ⟨u % g.n, rfl, Nat.mod_lt _ (by have := hg.pos; omega)⟩

/-- A tree put into a box. -/
theorem boxTree {R : Value → Heap → Prop} {sd sa so : Value} {t : Tr} (o : Own h0 h (xR sd t.dist :: slR encI 1 T_int sa t.arc :: slR encN 1 T_int so t.order :: L))
    (hK : ∀ b h', Own h0 h' (cellR b [sd, sa, so] T_flood_Tree :: xR sd t.dist :: slR encI 1 T_int sa t.arc :: slR encN 1 T_int so t.order :: L) → R (ptr b) h') :
    pBox T_flood_Tree (.agg #[(.slice none 0 0), (.slice none 0 0), (.slice none 0 0)]) h fun x8 h_7 => pStore 3 x8 (.agg #[sd, sa, so]) h_7 fun u_1 h_8 => R x8 h_8 := by
  refine o.box fun b h1 o1 => o1.st 0 rfl rfl rfl rfl rfl ?_ fun h2 o2 => hK b h2 o2
  intro u hu
  simp at hu
  rcases hu with rfl | rfl | rfl
  · exact (o.vw 0 rfl).plain
  · exact (o.vw 1 rfl).plain
  · exact (o.vw 2 rfl).plain

theorem treePl {sd sa so : Value} {t : Tr} (o : Own h0 h L) (i j k : Nat) (hi : L[i]? = some (xR sd t.dist)) (hj : L[j]? = some (slR encI 1 T_int sa t.arc)) (hk : L[k]? = some (slR encN 1 T_int so t.order)) : ∀ u ∈ [sd, sa, so], Mh.plainCell u = true := by
  intro u hu
  simp at hu
  rcases hu with rfl | rfl | rfl
  · exact (o.vw i hi).plain
  · exact (o.vw j hj).plain
  · exact (o.vw k hk).plain

theorem floodTurned_ok {z : Int} (H : Vw encU8 1 h vb bs) (hz : 0 ≤ z ∧ z < 256) (hK : ∀ h', Ext h h' → K (.bool true) h') : CallsH Tryz.prog F_milestonelaw10_FloodTurned [vb, .int .u8 z].toArray h K := by
  refine lk_milestonelaw10_FloodTurned _ _ ?_
  unfold sh_milestonelaw10_FloodTurned
  refine begin10 H fun g vx vy va b h1 hg o1 => ?_
  have hR := hg.toRight
  refine o1.ldN 0 rfl rfl rfl (o1.ldN 0 rfl rfl rfl ?_)
  refine made10_ok o1 hR (rawOf o1 1 2 3 rfl rfl rfl) fun r N h2 hN o2 => ⟨o2.ldN 1 rfl rfl rfl rfl, ?_⟩
  refine gturned_ok o2 hR (rawOf o2 2 3 4 rfl rfl rfl) fun wx wy wa h3 o3 => ?_
  refine made10_ok o3 hR.turned (rawOf (g := g.turned) o3 0 1 2 rfl rfl rfl) fun r' N' h4 hN' o4 => ?_
  simp only [pEq_ptr_nil, Option.isNone_some, ifV_false, pConv_int, u8_i64 hz, pField_ptr]
  refine o4.load 5 rfl rfl ?_
  obtain ⟨v, hv, hvn⟩ := nodeOf hR hz
  rw [pBin_rem, hv]
  refine ⟨by have := hR.pos; omega, ?_⟩
  refine to_ok hR (hN _ (o4.get 4 rfl)) fun sd sa so h5 o5 => ?_
  replace o5 := o4.frame o5
  refine from_ok hR.turned (hN' _ (o5.get 3 rfl)) fun sd' sa' so' h6 o6 => ?_
  replace o6 := o5.frame o6
  rw [turned_from] at o6
  refine o6.box fun x9 h7 o7 => o7.box fun y10 h8 o8 => ?_
  refine o8.st 1 rfl rfl rfl rfl rfl (treePl (t := g.toI v) o6 3 4 5 rfl rfl rfl) fun h9 o9 => o9.st 0 rfl rfl rfl rfl rfl (treePl (t := g.toI v) o6 0 1 2 rfl rfl rfl) fun h10 o10 => ?_
  refine from_ok hR (hN _ (o10.get 12 rfl)) fun sd2 sa2 so2 h11 o11 => ?_
  replace o11 := o10.frame o11
  refine to_ok hR.turned (hN' _ (o11.get 11 rfl)) fun sd3 sa3 so3 h12 o12 => ?_
  replace o12 := o11.frame o12
  rw [turned_to] at o12
  refine o12.box fun z11 h13 o13 => o13.box fun w12 h14 o14 => ?_
  refine o14.st 1 rfl rfl rfl rfl rfl (treePl (t := g.fromI v) o12 3 4 5 rfl rfl rfl) fun h15 o15 => o15.st 0 rfl rfl rfl rfl rfl (treePl (t := g.fromI v) o12 0 1 2 rfl rfl rfl) fun h16 o16 => ?_
  have hl := tr_len hR (s := v)
  have hl' := tr_lenT hR (s := v)
  have hm := hR.most
  refine o16.ldN 9 rfl rfl rfl ?_
  simp only [pField_ptr]
  refine o16.load 8 rfl rfl (o16.load 8 rfl rfl (o16.load 8 rfl rfl ?_))
  refine is_ok (t := g.toI v) ⟨sd, sa, so, rfl, o16.vw 13 rfl, o16.vw 14 rfl, o16.vw 15 rfl⟩ (o16.vw 10 rfl) (o16.vw 11 rfl) (o16.vw 12 rfl) hl'.1 (by omega) (by omega) fun h17 x17 => ?_
  replace o16 := o16.more x17
  rw [ifV_true]
  refine o16.ldN 1 rfl rfl rfl ?_
  refine o16.load 0 rfl rfl (o16.load 0 rfl rfl (o16.load 0 rfl rfl ?_))
  refine is_ok (t := g.fromI v) ⟨sd2, sa2, so2, rfl, o16.vw 5 rfl, o16.vw 6 rfl, o16.vw 7 rfl⟩ (o16.vw 2 rfl) (o16.vw 3 rfl) (o16.vw 4 rfl) hl.1 (by omega) (by omega) fun h18 x18 => ?_
  exact hK _ (o16.more x18).ext

end
end Go.Proofs.YtebjceofpaamjaaGreatDoor

namespace Go.Proofs.YtebjceofpaamjaaGreatDoor
open Go Go.Mh
set_option linter.unusedVariables false

section
variable {h0 h : Heap} {L : List Res} {K : Value → Heap → Prop} {g : G} {v : Value}

theorem mvd1_ok {by3 r2 n u : Nat} {b : Int} {T1 T2 : TypeId} {vx vy va : Value} (hn : 0 < n) (hn2 : n ≤ 16777216) (hu : u < n) (hb : -128 ≤ b ∧ b ≤ 127)
    (h1 : h[by3]? = some (.cells #[I b] T1 (0, 0))) (h2 : h[r2]? = some (.cells #[I n, vx, vy, va] T2 (0, 0))) (hK : K (I (mv b n u)) h) :
    callV Tryz.prog (.func (.func F_graph_Moved_1) #[] #[ptr by3, ptr r2]) [I u].toArray h K := by
  refine callV_of (l := [I u, ptr by3, ptr r2]) rfl (lk_graph_Moved_1 _ _ _ ?_)
  unfold sh_graph_Moved_1
  have c0 : hcell h ⟨by3, 0, none⟩ = some (I b) := hcell_of h1 rfl
  have c1 : hcell h ⟨r2, 0, none⟩ = some (I n) := hcell_of h2 rfl
  have hn' : (0 : Int) < n := by omega
  have q1 := Int.lt_tmod_of_pos b hn'
  have q2 := Int.tmod_lt_of_pos b hn'
  simp only [pField_ptr, pLoad_ptr, c0, Nat.add_zero, c1, pBin_rem]
  refine ⟨by omega, ?_⟩
  rw [pBin_add, w64 (by omega) (by omega)]
  simp only [pBin_rem]
  refine ⟨by omega, ?_⟩
  have q3 := Int.lt_tmod_of_pos ((u : Int) + b.tmod n) hn'
  have q4 := Int.tmod_lt_of_pos ((u : Int) + b.tmod n) hn'
  rw [pBin_add, w64 (by omega) (by omega)]
  simp only [pBin_rem]
  refine ⟨by omega, ?_⟩
  rw [goMod hn]
  have e : ((u : Int) + b.tmod n) % n = ((u : Int) + b) % n := by
    have := Int.mul_tdiv_add_tmod b n
    rw [show (u : Int) + b = u + b.tmod n + n * b.tdiv n by omega, Int.add_mul_emod_self_left]
  rw [e, ← mv_val hn]
  exact hK

theorem mv_step {l : List A} {b : Int} {n i : Nat} (hi : i < l.length) : (((l.take i).map (A.mv b n) ++ l.drop i).set i ((l[i]).mv b n)) = (l.take (i + 1)).map (A.mv b n) ++ l.drop (i + 1) := by
  rw [List.set_append_right _ _ (by simp; omega)]
  have e : i - ((l.take i).map (A.mv b n)).length = 0 := by simp; omega
  rw [e, List.drop_eq_getElem_cons hi, List.set_cons_zero, List.take_succ_eq_append_getElem hi, List.map_append, List.append_assoc]; rfl

theorem gmoved_ok {b : Int} (oL : Own h0 h L) (hR : g.Right) (hb : -128 ≤ b ∧ b ≤ 127) (H : RawV h v g) (hK : ∀ vx vy va h', Own h0 h' (xR vx (g.moved b).X :: xR vy (g.moved b).Y :: aR va (g.moved b).arcs :: L) → K (.agg #[I g.n, vx, vy, va]) h') : callS Tryz.prog F_graph_Moved [v, I b] h K := by
  obtain ⟨vx, vy, va, rfl, H⟩ := H
  refine callS_of (lk_graph_Moved _ _ ?_)
  unfold sh_graph_Moved
  have hmany := hR.many
  have hmost := hR.most
  have hpos := hR.pos
  refine (Own.start h).box fun r2 h1 o1 => o1.box fun by3 h2 o2 => o2.box fun t4 h3 o3 => o3.ldN 2 rfl rfl rfl ?_
  refine copied_ok o3 hR ⟨vx, vy, va, rfl, H.more o3.ext⟩ fun vx1 vy1 va1 h4 o4 => ?_
  have p0 := (o4.vw 0 rfl).plain
  have p1 := (o4.vw 1 rfl).plain
  have p2 := (o4.vw 2 rfl).plain
  have pl : ∀ u ∈ [I g.n, vx1, vy1, va1], Mh.plainCell u = true := by
    intro u hu
    simp at hu
    rcases hu with rfl | rfl | rfl | rfl
    · rfl
    · exact p0
    · exact p1
    · exact p2
  refine o4.box fun w h5 o5 => o5.st 0 rfl rfl rfl rfl rfl pl fun h6 o6 => o6.ldN 6 rfl rfl rfl ?_
  refine check_ok hR ⟨vx, vy, va, rfl, H.more o6.ext⟩ fun h7 x7 => ?_
  replace o6 := o6.more x7
  simp only [pEq_iface_nil, ifV_false, pField_ptr]
  refine o6.load 6 rfl rfl ?_
  have hX : ∀ {h' : Heap}, Ext h h' → Vw encI 1 h' vx g.X := fun x => H.1.more x
  have hY : ∀ {h' : Heap}, Ext h h' → Vw encI 1 h' vy g.Y := fun x => H.2.1.more x
  have hA : ∀ {h' : Heap}, Ext h h' → Vw encA 3 h' va g.arcs := fun x => H.2.2.more x
  refine LoopH_count g.n (fun i x h' => x.1 = I i ∧ ∃ xs ys, MvTo b g.n g.X xs i ∧ MvTo b g.n g.Y ys i ∧ Own h h' [cellR w [I g.n, vx1, vy1, va1] T_api_Raw, xR vx1 xs, xR vy1 ys, aR va1 g.arcs, cellR t4 [I 0, sl0, sl0, sl0] T_api_Raw, cellR by3 [I b] T_int, cellR r2 [I g.n, vx, vy, va] T_api_Raw])
    ⟨rfl, g.X, g.Y, ⟨hR.x, fun _ h => absurd h (by omega)⟩, ⟨hR.y, fun _ h => absurd h (by omega)⟩, o6⟩ ?_
  clear o6 o5 o4 o3 o2 o1
  rintro i ⟨x, ⟨⟩⟩ h' Z hi ⟨hx, xs, ys, hxs, hys, o⟩ hZ
  dsimp only at hx hZ ⊢
  subst hx
  unfold sh_graph_Moved_L1
  simp only [pBin_lss, ifV_dec, pField_ptr]
  refine ⟨fun hlt => ?_, fun hge => ?_⟩
  · have hlt : i < g.n := by omega
    have hm := mv_lt (b := b) (v := i) (show 0 < g.n by omega)
    have lx : i < g.X.length := by rw [hR.x]; exact hlt
    have ly : i < g.Y.length := by rw [hR.y]; exact hlt
    refine o.load 0 rfl rfl (o.load 0 rfl rfl (o.load 6 rfl rfl ?_))
    refine (hX o.ext).idxI lx fun b1 f1 c1 => pLoad_of rfl c1 (o.load 6 rfl rfl ?_)
    refine (hY o.ext).idxI ly fun b2 f2 c2 => pLoad_of rfl c2 ?_
    refine mvd1_ok (by omega) hmost hlt hb (o.get 5 rfl) (o.get 6 rfl) ⟨o.load 0 rfl rfl rfl, o.load 0 rfl rfl rfl, o.load 6 rfl rfl rfl, pLoad_of rfl c1 rfl, o.load 6 rfl rfl rfl, pLoad_of rfl c2 rfl, ?_⟩
    refine mvd1_ok (by omega) hmost hlt hb (o.get 5 rfl) (o.get 6 rfl) ⟨o.load 0 rfl rfl rfl, o.load 0 rfl rfl rfl, o.load 6 rfl rfl rfl, pLoad_of rfl c1 rfl, o.load 6 rfl rfl rfl, pLoad_of rfl c2 rfl, ?_⟩
    refine o.setI 1 rfl (by rw [hxs.1]; exact hm) fun h2 o2 => ⟨o2.load 0 rfl rfl rfl, ?_⟩
    refine o2.setI 2 rfl (by rw [hys.1]; exact hm) fun h3 o3 => ?_
    rw [pBin_add, wI i (by omega)]
    rw [dAt_get, dAt_get] at o3
    exact hZ (I (i + 1 : Nat), ()) h3 hlt ⟨rfl, _, _, hxs.step hlt, hys.step hlt, o3⟩
  · have : i = g.n := by omega
    subst this
    rw [hxs.done, hys.done] at o
    refine o.load 6 rfl rfl ((hA o.ext).len ?_)
    refine LoopH_count g.arcs.length (fun i x h' => x.1 = I i ∧ Own h h' [cellR w [I g.n, vx1, vy1, va1] T_api_Raw, xR vx1 (g.moved b).X, xR vy1 (g.moved b).Y, aR va1 ((g.arcs.take i).map (A.mv b g.n) ++ g.arcs.drop i), cellR t4 [I 0, sl0, sl0, sl0] T_api_Raw, cellR by3 [I b] T_int, cellR r2 [I g.n, vx, vy, va] T_api_Raw])
      ⟨rfl, o⟩ ?_
    clear o
    rintro i ⟨x, ⟨⟩⟩ h' Z2 hi ⟨hx, o⟩ hZ2
    dsimp only at hx hZ2 ⊢
    subst hx
    unfold sh_graph_Moved_L2
    simp only [pBin_lss, ifV_dec, pField_ptr]
    refine ⟨fun hlt => ?_, fun hge => ?_⟩
    · have hlt : i < g.arcs.length := by omega
      have hll : i < ((g.arcs.take i).map (A.mv b g.n) ++ g.arcs.drop i).length := by simp; omega
      have hget : ((g.arcs.take i).map (A.mv b g.n) ++ g.arcs.drop i)[i] = g.arcs[i] := by
        rw [List.getElem_append_right (by simp; omega)]
        simp only [List.getElem_drop]
        congr 1; simp; omega
      have he := hR.ends _ (List.getElem_mem hlt)
      refine (hA o.ext).atN encA_len hlt ?_
      refine o.box fun a9 h2 o2 => o2.st 0 rfl rfl rfl rfl rfl (encA_plain _) fun h3 o3 => ?_
      refine o3.load 1 rfl rfl (o3.load 1 rfl rfl (o3.load 0 rfl rfl (o3.load 0 rfl rfl ?_)))
      refine mvd1_ok (by omega) hmost he.1 hb (o3.get 6 rfl) (o3.get 7 rfl) ⟨o3.load 1 rfl rfl rfl, o3.load 1 rfl rfl rfl, o3.load 0 rfl rfl rfl, ?_⟩
      refine mvd1_ok (by omega) hmost he.2.1 hb (o3.get 6 rfl) (o3.get 7 rfl) ⟨o3.load 1 rfl rfl rfl, o3.load 1 rfl rfl rfl, ?_⟩
      refine o3.setF (a := ⟨mv b g.n (g.arcs[i]).f, (g.arcs[i]).t, (g.arcs[i]).w⟩) 4 rfl encA_len hll (f := 0) (by decide) rfl rfl (by rw [hget]; rfl) fun h4 o4 => ⟨o4.load 1 rfl rfl rfl, ?_⟩
      refine o4.setF (a := (g.arcs[i]).mv b g.n) 4 rfl encA_len (by simpa using hll) (f := 1) (by decide) rfl rfl (by simp [encA, A.mv]) fun h5 o5 => ?_
      rw [pBin_add, wI i (by omega)]
      refine hZ2 (I (i + 1 : Nat), ()) h5 hlt ⟨rfl, ?_⟩
      have o6 := o5.tail
      simp only [List.set_set] at o6
      rw [← mv_step hlt]
      exact o6
    · have : i = g.arcs.length := by omega
      subst this
      rw [List.take_length, List.drop_length, List.append_nil] at o
      refine o.ldN 0 rfl rfl rfl (o.st 4 rfl rfl rfl rfl rfl pl fun h2 o2 => o2.ldN 4 rfl rfl rfl ?_)
      exact hK vx1 vy1 va1 h2 (oL.frame (o2.sel [1, 2, 3] (by decide)))

end
end Go.Proofs.YtebjceofpaamjaaGreatDoor

namespace Go.Proofs.YtebjceofpaamjaaGreatDoor
open Go Go.Mh
set_option linter.unusedVariables false

section
variable {h0 h : Heap} {L : List Res} {K : Value → Heap → Prop} {g : G} {vb : Value} {bs : List Int}

theorem moved10_ok {u n : Nat} {b : Int} (hn : 0 < n) (hn2 : n ≤ 16777216) (hu : u < n) (hb : -128 ≤ b ∧ b ≤ 127) (hK : K (I (mv b n u)) h) : callS Tryz.prog F_milestonelaw10_moved [I u, I b, I n] h K := by
  refine callS_of (lk_milestonelaw10_moved _ _ _ ?_)
  unfold sh_milestonelaw10_moved
  have hn' : (0 : Int) < n := by omega
  rw [pBin_add, w64 (by omega) (by omega)]
  simp only [pBin_rem]
  refine ⟨by omega, ?_⟩
  have q3 := Int.lt_tmod_of_pos ((u : Int) + b) hn'
  have q4 := Int.tmod_lt_of_pos ((u : Int) + b) hn'
  rw [pBin_add, w64 (by omega) (by omega)]
  simp only [pBin_rem]
  refine ⟨by omega, ?_⟩
  rw [goMod hn, ← mv_val hn]
  exact hK

/-- Weights as the law makes them. -/
def A.tm (a : A) : A := ⟨a.f, a.t, a.w % 268435456 * 7⟩

theorem tm_step {l : List A} {i : Nat} (hi : i < l.length) : (((l.take i).map A.tm ++ l.drop i).set i (A.tm l[i])) = (l.take (i + 1)).map A.tm ++ l.drop (i + 1) := by
  rw [List.set_append_right _ _ (by simp; omega)]
  have e : i - ((l.take i).map A.tm).length = 0 := by simp; omega
  rw [e, List.drop_eq_getElem_cons hi, List.set_cons_zero, List.take_succ_eq_append_getElem hi, List.map_append, List.append_assoc]; rfl

theorem rightMore {g : G} (hg : Few g) {a : A} (ha : a.f < g.n ∧ a.t < g.n ∧ a.w ≤ 2147483647) : G.Right { g with arcs := g.arcs ++ [a] } := by
  have hR := hg.toRight
  refine ⟨hR.pos, hR.most, hR.x, hR.y, hR.xr, hR.yr, by have := hg.short; simp; omega, fun b hb => ?_⟩
  rcases List.mem_append.1 hb with hb | hb
  · exact hR.ends b hb
  · simp at hb; subst hb; exact ha

theorem rightTm {g : G} (hR : g.Right) : G.Right { g with arcs := g.arcs.map A.tm } := by
  refine ⟨hR.pos, hR.most, hR.x, hR.y, hR.xr, hR.yr, by have := hR.many; simpa using this, fun b hb => ?_⟩
  obtain ⟨a, ha, rfl⟩ := List.mem_map.1 hb
  have := hR.ends a ha
  refine ⟨this.1, this.2.1, ?_⟩
  show a.w % 268435456 * 7 ≤ 2147483647
  omega

theorem few_far {g : G} (hg : Few g) {s : Nat} (hs : s < g.n) {v : Nat} (hv : v < g.n) : 0 ≤ dAt (g.from s).dist v ∧ dAt (g.from s).dist v ≤ far ∧ (dAt (g.from s).dist v < far → dAt (g.from s).dist v ≤ 12 * 2147483647) := by
  have hR := hg.toRight
  have T := from_tree hR hs
  refine ⟨T.ls.nonneg hv, T.ls.far_le hv, fun h => ?_⟩
  have hm := (T.reached v hv).2 h
  have := T.top (fun a ha => by have := (hR.ends a ha).2.2; show (a.w : Int) ≤ 2147483647; omega) v hm
  have h2 := List.idxOf_lt_length_of_mem hm
  have h3 := nodup_le T.nodup T.range
  have h4 := hg.few
  have h5 : (t : Nat) → (t : Int) * W ≤ 12 * 2147483647 ↔ t ≤ 12 := fun t => by have : W = 2147483647 := rfl; rw [this]; omega
  have := (h5 (List.idxOf v (g.from s).order)).2 (by omega)
  omega

theorem floodMoves_ok {a b c z : Int} (H : Vw encU8 1 h vb bs) (ha : 0 ≤ a ∧ a ≤ 255) (hb : 0 ≤ b ∧ b ≤ 255) (hc : 0 ≤ c ∧ c ≤ 255) (hz : -128 ≤ z ∧ z ≤ 127) (hK : ∀ h', Ext h h' → K (.bool true) h') :
    CallsH Tryz.prog F_milestonelaw10_FloodMoves [vb, .agg #[.int .u8 a, .int .u8 b, .int .u8 c], .int .i8 z].toArray h K := by
  refine lk_milestonelaw10_FloodMoves _ _ _ ?_
  unfold sh_milestonelaw10_FloodMoves
  refine (Own.start h).box fun m4 h1 o1 => works10_ok fun h2 x2 => ?_
  replace o1 := o1.more x2
  rw [pUn_not, Bool.not_true, ifV_false]
  refine drawn10_ok (H.more o1.ext) fun g vx vy va h3 hg o3 => ?_
  have hR := hg.toRight
  have hpos := hR.pos
  have hmost := hR.most
  have hfew := hg.few
  have hshort := hg.short
  replace o3 := o1.frame o3
  have p0 := (o3.vw 0 rfl).plain
  have p1 := (o3.vw 1 rfl).plain
  have p2 := (o3.vw 2 rfl).plain
  have pl : ∀ u ∈ [I g.n, vx, vy, va], Mh.plainCell u = true := by
    intro u hu
    simp at hu
    rcases hu with rfl | rfl | rfl | rfl
    · rfl
    · exact p0
    · exact p1
    · exact p2
  refine o3.box fun g7 h4 o4 => o4.st (cs' := [I g.n, vx, vy, va]) 0 rfl rfl rfl rfl rfl pl fun h5 o5 => ?_
  simp only [pIdxA_ptr, pField_ptr]
  refine ⟨by decide, o5.load 4 rfl rfl ?_⟩
  simp only [pConv_int]
  rw [w64 (by omega) (by omega)]
  refine o5.load 0 rfl rfl ?_
  obtain ⟨v, hv, hvn⟩ := nodeOf hR (z := a) (by omega)
  obtain ⟨af, haf, hafn⟩ := nodeOf hR (z := b) (by omega)
  obtain ⟨at', hat, hatn⟩ := nodeOf hR (z := c) (by omega)
  rw [pBin_rem, hv]
  refine ⟨by omega, o5.ldN 0 rfl rfl rfl ?_⟩
  refine o5.box fun f9 h6 o6 => o6.st (cs' := [I g.n, vx, vy, va]) 0 rfl rfl rfl rfl rfl pl fun h7 o7 => ?_
  obtain ⟨aw, haw, hawn⟩ : ∃ aw : Nat, a.tdiv 32 = aw ∧ aw ≤ 7 := by
    obtain ⟨u, rfl⟩ := Int.eq_ofNat_of_zero_le ha.1
    exact ⟨u / 32, rfl, by omega⟩
  -- the new arc
  refine cutP_of (fun _ h' => ∃ va', Own h h' [cellR f9 [I g.n, vx, vy, va'] T_api_Raw, aR va' (g.arcs ++ [A.mk af at' aw]), cellR g7 [I g.n, vx, vy, va] T_api_Raw, xR vx g.X, xR vy g.Y, aR va g.arcs]) (fun J hJ => ?_) ?_
  · simp only [pField_ptr]
    refine o7.load 1 rfl rfl ?_
    refine ⟨by decide, o7.load 5 rfl rfl ?_⟩
    rw [pConv_int, w64 (by omega) (by omega)]
    refine o7.load 1 rfl rfl ?_
    rw [pBin_rem, haf]
    refine ⟨by omega, ⟨by decide, o7.load 5 rfl rfl ?_⟩⟩
    rw [pConv_int, w64 (by omega) (by omega)]
    refine o7.load 1 rfl rfl ?_
    rw [pBin_rem, hat]
    refine ⟨by omega, ⟨by decide, o7.load 5 rfl rfl ?_⟩⟩
    rw [pBin_quo, haw]
    have e8 : IntKind.u8.wrap (aw : Int) = aw := wrap_in (by show (0 : Int) ≤ _; omega) (by show _ ≤ (255 : Int); omega)
    refine ⟨by decide, ?_⟩
    rw [e8, pConv_int, w64 (by omega) (by omega)]
    refine ⟨sizesOk_of rfl, ?_⟩
    refine ⟨?_, ?_⟩
    · refine o7.build (enc := encA) (n := 3) (T := T_api_Arc) ([] : List A) rfl (sizesOk_of rfl) rfl fun w1 h8 o8 => ⟨?_, ?_⟩
      · refine o8.app 0 rfl encA_len encA_plain rfl (o8.vw 5 rfl) (by decide) (by simp; omega) fun w2 h9 o9 => ?_
        refine ⟨o9.load 6 rfl rfl rfl, o9.load 2 rfl rfl rfl, o9.load 6 rfl rfl rfl, o9.load 2 rfl rfl rfl, o9.load 6 rfl rfl rfl, ?_⟩
        refine o9.app1 0 ⟨af, at', aw⟩ rfl rfl (sizesOk_of rfl) encA_len encA_plain rfl (by decide) (by simp; omega) fun w3 h10 o10 => ?_
        refine o10.st1 (off := 3) (cs' := [I g.n, vx, vy, w3]) 1 rfl rfl rfl (o10.vw 0 rfl).one (o10.vw 0 rfl).plain fun h11 o11 => ?_
        exact hJ _ _ ⟨w3, o11.sel [1, 0, 2, 3, 4, 5] (by decide)⟩
      · refine o8.build (enc := encA) (n := 3) (T := T_api_Arc) [⟨af, at', aw⟩] rfl (sizesOk_of rfl) rfl fun w2 h9 o9 => ?_
        refine o9.app 1 rfl encA_len encA_plain rfl (o9.vw 6 rfl) (by decide) (by simp; omega) fun w3 h10 o10 => ?_
        refine o10.app 1 rfl encA_len encA_plain rfl (o10.vw 0 rfl) (by decide) (by simp; omega) fun w4 h11 o11 => ?_
        refine o11.st1 (off := 3) (cs' := [I g.n, vx, vy, w4]) 2 rfl rfl rfl (o11.vw 1 rfl).one (o11.vw 1 rfl).plain fun h12 o12 => ?_
        exact hJ _ _ ⟨w4, o12.sel [2, 1, 3, 4, 5, 6] (by decide)⟩
    · refine o7.build (enc := encA) (n := 3) (T := T_api_Arc) [⟨af, at', aw⟩] rfl (sizesOk_of rfl) rfl fun w1 h8 o8 => ?_
      refine o8.build (enc := encA) (n := 3) (T := T_api_Arc) ([] : List A) rfl (sizesOk_of rfl) rfl fun w2 h9 o9 => ?_
      refine o9.app 0 rfl encA_len encA_plain rfl (o9.vw 6 rfl) (by decide) (by simp; omega) fun w3 h10 o10 => ?_
      refine o10.app 0 rfl encA_len encA_plain rfl (o10.vw 1 rfl) (by decide) (by simp; omega) fun w4 h11 o11 => ?_
      refine o11.st1 (off := 3) (cs' := [I g.n, vx, vy, w4]) 2 rfl rfl rfl (o11.vw 0 rfl).one (o11.vw 0 rfl).plain fun h12 o12 => ?_
      exact hJ _ _ ⟨w4, o12.sel [2, 0, 3, 4, 5, 6] (by decide)⟩
  rintro ⟨⟩ h8 ⟨va', o⟩
  clear o7 o6 o5 o4 o3 o1
  unfold sh_milestonelaw10_FloodMoves_C1
  refine o.ldN 2 rfl rfl rfl (o.box fun t10 h9 o9 => o9.st (cs' := [I g.n, vx, vy, va]) 0 rfl rfl rfl rfl rfl pl fun h10 o10 => ?_)
  refine o10.build (enc := encA) (n := 3) (T := T_api_Arc) ([] : List A) rfl (sizesOk_of rfl) rfl fun w1 h11 o11 => ?_
  simp only [pField_ptr]
  refine o11.load 4 rfl rfl (o11.app 0 rfl encA_len encA_plain rfl (o11.vw 7 rfl) (by decide) (by simp; omega) fun wt h12 o12 => ?_)
  refine o12.st1 (off := 3) (cs' := [I g.n, vx, vy, wt]) 1 rfl rfl rfl (o12.vw 0 rfl).one (o12.vw 0 rfl).plain fun h13 o13 => ?_
  refine LoopH_count g.arcs.length (fun i x h' => x.2.1 = I i ∧ (∃ sm : Bool, x.1 = .bool sm ∧ (sm = true → ∀ j (hj : j < g.arcs.length), j < i → (g.arcs[j]).w < 268435456)) ∧ Own h h' [aR wt ((g.arcs.take i).map A.tm ++ g.arcs.drop i), cellR t10 [I g.n, vx, vy, wt] T_api_Raw, cellR f9 [I g.n, vx, vy, va'] T_api_Raw, aR va' (g.arcs ++ [A.mk af at' aw]), cellR g7 [I g.n, vx, vy, va] T_api_Raw, xR vx g.X, xR vy g.Y, aR va g.arcs])
    ⟨rfl, ⟨true, rfl, fun _ j _ h => absurd h (by omega)⟩, o13⟩ ?_
  clear o13 o12 o11 o10 o9 o
  rintro i ⟨x1, x, ⟨⟩⟩ h' Z hi ⟨hx, ⟨sm, hsm, hsmall⟩, o⟩ hZ
  dsimp only at hx hsm hZ ⊢
  subst hx hsm
  unfold sh_milestonelaw10_FloodMoves_L2
  have hlen : ((g.arcs.take i).map A.tm ++ g.arcs.drop i).length = g.arcs.length := by simp; omega
  simp only [pField_ptr]
  refine o.load 1 rfl rfl ((o.vw 0 rfl).len ?_)
  rw [hlen]
  simp only [pBin_lss (b := (g.arcs.length : Int)), ifV_dec]
  refine ⟨fun hlt => ?_, fun hge => ?_⟩
  · have hlt : i < g.arcs.length := by omega
    have hll : i < ((g.arcs.take i).map A.tm ++ g.arcs.drop i).length := by omega
    have hget : ((g.arcs.take i).map A.tm ++ g.arcs.drop i)[i] = g.arcs[i] := by
      rw [List.getElem_append_right (by simp; omega)]
      simp only [List.getElem_drop]
      congr 1; simp; omega
    have hw := (hR.ends _ (List.getElem_mem hlt)).2.2
    have next : ∀ sm' : Bool, (sm' = true → sm = true ∧ (g.arcs[i]).w < 268435456) → sh_milestonelaw10_FloodMoves_k3 Tryz.prog (ptr t10) (I i) (fun a0 a1 hz => Z (a0, (a1, ())) hz) (.bool sm') h' := fun sm' hs => by
      unfold sh_milestonelaw10_FloodMoves_k3
      simp only [pField_ptr]
      refine o.load 1 rfl rfl (o.load 1 rfl rfl ?_)
      refine (o.vw 0 rfl).atF (j := 2) encA_len hll (by decide) rfl ?_
      rw [hget, pBin_rem]
      refine ⟨by decide, ?_⟩
      have e1 : ((g.arcs[i]).w : Int).tmod 268435456 = (((g.arcs[i]).w % 268435456 : Nat) : Int) := rfl
      rw [e1, pBin_mul, w64 (by omega) (by omega)]
      have e2 : (((g.arcs[i]).w % 268435456 : Nat) : Int) * 7 = (((g.arcs[i]).w % 268435456 * 7 : Nat) : Int) := by omega
      rw [e2]
      refine o.setF (a := A.tm g.arcs[i]) 0 rfl encA_len hll (f := 2) (by decide) rfl rfl (by rw [hget]; rfl) fun h2 o2 => ?_
      rw [pBin_add, wI i (by omega)]
      refine hZ (.bool sm', I (i + 1 : Nat), ()) h2 hlt ⟨rfl, ⟨sm', rfl, fun e j hj hji => ?_⟩, ?_⟩
      · obtain ⟨h1, h2⟩ := hs e
        by_cases ej : j = i
        · subst ej; exact h2
        · exact hsmall h1 j hj (by omega)
      · rw [← tm_step hlt]; exact o2
    cases sm with
    | false => rw [ifV_false]; exact next false (fun e => by cases e)
    | true =>
      rw [ifV_true]
      refine o.load 1 rfl rfl ((o.vw 0 rfl).atF (j := 2) encA_len hll (by decide) rfl ?_)
      rw [hget, pBin_lss]
      exact next _ fun e => ⟨rfl, by have := of_decide_eq_true e; omega⟩
  · have : i = g.arcs.length := by omega
    subst this
    rw [List.take_length, List.drop_length, List.append_nil] at o
    have hRf := rightMore hg (a := ⟨af, at', aw⟩) ⟨hafn, hatn, by show aw ≤ 2147483647; omega⟩
    have hRt := rightTm hR
    have hRm := hR.moved (b := z)
    have e0 : IntKind.i64.wrap z = z := w64 (by omega) (by omega)
    refine o.ldN 4 rfl rfl rfl (o.ldN 2 rfl rfl rfl (o.ldN 1 rfl rfl rfl (o.ldN 4 rfl rfl rfl ?_)))
    simp only [pConv_int, e0]
    refine made10_ok o hR (rawOf o 5 6 7 rfl rfl rfl) fun r1 N1 h2 hN1 o2 => ⟨o2.ldN 3 rfl rfl rfl rfl, o2.ldN 2 rfl rfl rfl rfl, o2.ldN 5 rfl rfl rfl rfl, ?_⟩
    refine made10_ok o2 hRf (rawOf (g := { g with arcs := g.arcs ++ [A.mk af at' aw] }) o2 6 7 4 rfl rfl rfl) fun r2 N2 h3 hN2 o3 => ⟨o3.ldN 3 rfl rfl rfl rfl, o3.ldN 6 rfl rfl rfl rfl, ?_⟩
    refine made10_ok o3 hRt (rawOf (g := { g with arcs := g.arcs.map A.tm }) o3 7 8 2 rfl rfl rfl) fun r3 N3 h4 hN3 o4 => ⟨o4.ldN 7 rfl rfl rfl rfl, ?_⟩
    refine gmoved_ok o4 hR hz (rawOf o4 8 9 10 rfl rfl rfl) fun wx wy wa h5 o5 => ?_
    refine made10_ok o5 hRm (rawOf (g := g.moved z) o5 0 1 2 rfl rfl rfl) fun r4 N4 h6 hN4 o6 => ?_
    simp only [pEq_ptr_nil, Option.isNone_some, ifV_false]
    refine from_ok hR (hN1 _ (o6.get 6 rfl)) fun sd1 sa1 so1 h7 o7 => ?_
    replace o7 := o6.frame o7
    refine from_ok hRf (hN2 _ (o7.get 8 rfl)) fun sd2 sa2 so2 h8 o8 => ?_
    replace o8 := o7.frame o8
    refine from_ok hRt (hN3 _ (o8.get 10 rfl)) fun sd3 sa3 so3 h9 o9 => ?_
    replace o9 := o8.frame o9
    have T1 := from_tree hR hvn
    have T2 := from_tree hRf hvn
    have T3 := from_tree hRt hvn
    have T4 : TreeOf (g.moved z).arcs A.f A.t g.n (mv z g.n v) (G.from (g.moved z) (mv z g.n v)) := from_tree (g := g.moved z) (s := mv z g.n v) hRm (mv_lt (b := z) (v := v) (show 0 < g.n by omega))
    rw [show G.fromI g v = g.from v by rw [G.fromI, if_pos (by omega)]; rfl] at o9
    rw [show G.fromI { g with arcs := g.arcs ++ [A.mk af at' aw] } v = G.from { g with arcs := g.arcs ++ [A.mk af at' aw] } v by rw [G.fromI, if_pos (by show 0 ≤ (v : Int) ∧ (v : Int) < g.n; omega)]; rfl] at o9
    rw [show G.fromI { g with arcs := g.arcs.map A.tm } v = G.from { g with arcs := g.arcs.map A.tm } v by rw [G.fromI, if_pos (by show 0 ≤ (v : Int) ∧ (v : Int) < g.n; omega)]; rfl] at o9
    refine o9.box fun x17 h10 o10 => o10.box fun y18 h11 o11 => o11.box fun z19 h12 o12 => ?_
    refine o12.st 2 rfl rfl rfl rfl rfl (treePl (t := g.from v) o12 9 10 11 rfl rfl rfl) fun h13 o13 => ?_
    refine o13.st 1 rfl rfl rfl rfl rfl (treePl (t := G.from { g with arcs := g.arcs ++ [A.mk af at' aw] } v) o13 6 7 8 rfl rfl rfl) fun h14 o14 => ?_
    refine o14.st 0 rfl rfl rfl rfl rfl (treePl (t := G.from { g with arcs := g.arcs.map A.tm } v) o14 3 4 5 rfl rfl rfl) fun h15 o15 => ?_
    refine o15.load 23 rfl rfl (moved10_ok (by omega) (by omega) hvn hz ?_)
    refine from_ok hRm (hN4 _ (o15.get 12 rfl)) fun sd4 sa4 so4 h16 o16 => ?_
    have hmn := mv_lt (b := z) (v := v) (show 0 < g.n by omega)
    rw [show G.fromI (g.moved z) (mv z g.n v : Nat) = G.from (g.moved z) (mv z g.n v) by rw [G.fromI, if_pos (by show 0 ≤ ((mv z g.n v : Nat) : Int) ∧ ((mv z g.n v : Nat) : Int) < g.n; omega)]; rfl] at o16
    replace o16 := o15.frame o16
    refine o16.box fun w20 h17 o17 => o17.st 0 rfl rfl rfl rfl rfl (treePl (t := G.from (g.moved z) (mv z g.n v)) o17 1 2 3 rfl rfl rfl) fun h18 o18 => ?_
    have o19 : Own h h18 [cellR x17 [sd1, sa1, so1] T_flood_Tree, xR sd1 (g.from v).dist, cellR y18 [sd2, sa2, so2] T_flood_Tree, xR sd2 (G.from { g with arcs := g.arcs ++ [A.mk af at' aw] } v).dist, cellR z19 [sd3, sa3, so3] T_flood_Tree, xR sd3 (G.from { g with arcs := g.arcs.map A.tm } v).dist,
        cellR w20 [sd4, sa4, so4] T_flood_Tree, xR sd4 (G.from (g.moved z) (mv z g.n v)).dist, cellR g7 [I g.n, vx, vy, va] T_api_Raw] := o18.sel [6, 13, 5, 10, 4, 7, 0, 1, 27] (by decide)
    clear o18 o17 o16 o15 o14 o13 o12 o11 o10 o9 o8 o7 o6 o5 o4 o3 o2 o
    have l1 := T1.ls.len
    have l2 : (G.from { g with arcs := g.arcs ++ [A.mk af at' aw] } v).dist.length = g.n := T2.ls.len
    have l3 : (G.from { g with arcs := g.arcs.map A.tm } v).dist.length = g.n := T3.ls.len
    have l4 : (G.from (g.moved z) (mv z g.n v)).dist.length = g.n := T4.ls.len
    have f2 : ∀ u, u < g.n → dAt (G.from { g with arcs := g.arcs ++ [A.mk af at' aw] } v).dist u ≤ dAt (g.from v).dist u := fun u hu => T1.ls.more T2.ls (fun a ha => List.mem_append_left _ ha) hu
    have f4 : ∀ u, u < g.n → dAt (G.from (g.moved z) (mv z g.n v)).dist (mv z g.n u) = dAt (g.from v).dist u := fun u hu => by
      have e := T4.ls.uniq (T1.ls.mv (b := z) hvn fun a ha => ⟨(hR.ends a ha).1, (hR.ends a ha).2.1⟩)
      rw [e, mvL_at hu]
    have f1 := fun u (hu : u < g.n) => few_far hg hvn hu
    have f3 : sm = true → ∀ u, u < g.n → dAt (G.from { g with arcs := g.arcs.map A.tm } v).dist u = x7 (dAt (g.from v).dist u) := fun hs u hu => by
      have el : g.arcs.map A.tm = g.arcs.map A.x7 := by
        refine List.map_congr_left fun a ha => ?_
        obtain ⟨j, hj, rfl⟩ := List.mem_iff_getElem.1 ha
        have := hsmall hs j hj hj
        simp only [A.tm, A.x7, Nat.mod_eq_of_lt this]
      have q : LS (g.arcs.map A.x7) A.f A.t g.n v ((g.from v).dist.map x7) := T1.ls.x7 hR.ends fun u hu hl => by
        have := (f1 u hu).2.2 hl
        omega
      have T3' : LS (g.arcs.map A.x7) A.f A.t g.n v (G.from { g with arcs := g.arcs.map A.tm } v).dist := el ▸ T3.ls
      rw [T3'.uniq q, dAt_map (by simp [x7])]
    clear T1 T2 T3 T4 hN1 hN2 hN3 hN4
    generalize (g.from v).dist = X at *
    generalize (G.from { g with arcs := g.arcs ++ [A.mk af at' aw] } v).dist = Y at *
    generalize (G.from { g with arcs := g.arcs.map A.tm } v).dist = ZZ at *
    generalize (G.from (g.moved z) (mv z g.n v)).dist = WW at *
    refine o19.load 0 rfl rfl ((o19.vw 1 rfl).len (o19.load 8 rfl rfl ?_))
    rw [pBin_neq, l1, bne_self_eq_false, ifV_false]
    refine o19.load 2 rfl rfl ((o19.vw 3 rfl).len (o19.load 8 rfl rfl ?_))
    rw [pBin_neq, l2, bne_self_eq_false, ifV_false]
    refine o19.load 4 rfl rfl ((o19.vw 5 rfl).len (o19.load 8 rfl rfl ?_))
    rw [pBin_neq, l3, bne_self_eq_false, ifV_false]
    refine o19.load 6 rfl rfl ((o19.vw 7 rfl).len (o19.load 8 rfl rfl ?_))
    rw [pBin_neq, l4, bne_self_eq_false, ifV_false]
    refine LoopH_count g.n (fun i x h' => x.1 = I i ∧ h' = h18) ⟨rfl, rfl⟩ ?_
    rintro i ⟨x, ⟨⟩⟩ h' Z2 hi ⟨hx, rfl⟩ hZ2
    dsimp only at hx hZ2 ⊢
    subst hx
    unfold sh_milestonelaw10_FloodMoves_L6
    simp only [pField_ptr]
    refine o19.load 8 rfl rfl ?_
    simp only [pBin_lss (b := (g.n : Int)), ifV_dec]
    refine ⟨fun hlt => ?_, fun hge => hK _ o19.ext⟩
    have hlt : i < g.n := by omega
    have hfar : far = 72057594037927936 := rfl
    have g1 := f1 i hlt
    have g2 := f2 i hlt
    have g4 := f4 i hlt
    have hmi := mv_lt (b := z) (v := i) (show 0 < g.n by omega)
    refine cutP_of (fun y h2 => y.1 = .bool false ∧ h2 = h') (fun J hJ => ?_) ?_
    · refine o19.load 2 rfl rfl ((o19.vw 3 rfl).atI (by omega) (o19.load 0 rfl rfl ((o19.vw 1 rfl).atI (by omega) ?_)))
      rw [dAt_get, dAt_get, pBin_gtr, show decide (dAt X i < dAt Y i) = false from decide_eq_false (by omega), ifV_false]
      refine o19.load 6 rfl rfl ?_
      simp only [pConv_int, e0]
      refine o19.load 8 rfl rfl (o19.load 0 rfl rfl ?_)
      refine (o19.vw 1 rfl).idxI (by omega) fun b1 f1 c1 => pLoad_of rfl c1 ?_
      refine moved10_ok (by omega) (by omega) hlt hz ⟨o19.load 6 rfl rfl rfl, o19.load 0 rfl rfl rfl, pLoad_of rfl c1 rfl, ?_⟩
      refine (o19.vw 7 rfl).atI (by omega) ?_
      rw [dAt_get, dAt_get, g4, pBin_neq, bne_self_eq_false]
      exact hJ _ _ ⟨rfl, rfl⟩
    · rintro ⟨y, ⟨⟩⟩ h'' ⟨hy, rfl⟩
      dsimp only at hy ⊢
      subst hy
      unfold sh_milestonelaw10_FloodMoves_C7
      rw [ifV_false]
      refine cutP_of (fun y h2 => y.1 = .bool false ∧ h2 = h'') (fun J hJ => ?_) ?_
      · cases sm with
        | false => simp only [ifV_false]; exact hJ _ _ ⟨rfl, rfl⟩
        | true =>
          have g3 := f3 rfl i hlt
          simp only [ifV_true, pField_ptr]
          refine o19.load 4 rfl rfl ((o19.vw 5 rfl).atI (by omega) ?_)
          rw [dAt_get, pBin_eql]
          refine o19.load 0 rfl rfl ((o19.vw 1 rfl).atI (by omega) ?_)
          rw [dAt_get, pBin_eql]
          have ee : (dAt ZZ i == 72057594037927936) = (dAt X i == 72057594037927936) := by
            rw [g3, x7, hfar]
            split
            · rename_i e; rw [e]
            · rename_i e
              rw [beq_false_of_ne e]
              have := g1.2.2 (by omega)
              exact beq_false_of_ne (by omega)
          have pe : ∀ {c : Bool} {K : Value → Prop}, K (.bool false) → pEq true .bool (.bool c) (.bool c) K := fun hk => by simpa [pEq] using hk
          rw [ee]
          refine pe ?_
          rw [ifV_false]
          refine o19.load 0 rfl rfl ((o19.vw 1 rfl).atI (by omega) ?_)
          rw [dAt_get]
          simp only [pBin_lss, ifV_dec]
          refine ⟨fun hlf => ?_, fun _ => hJ _ _ ⟨rfl, rfl⟩⟩
          refine o19.load 4 rfl rfl ((o19.vw 5 rfl).atI (by omega) (o19.load 0 rfl rfl ((o19.vw 1 rfl).atI (by omega) ?_)))
          have := g1.2.2 (by omega)
          rw [dAt_get, dAt_get, pBin_mul, w64 (by omega) (by omega), g3, x7, if_neg (by omega), pBin_neq, bne_self_eq_false]
          exact hJ _ _ ⟨rfl, rfl⟩
      · rintro ⟨y, ⟨⟩⟩ h3 ⟨hy, rfl⟩
        dsimp only at hy ⊢
        subst hy
        unfold sh_milestonelaw10_FloodMoves_C8
        rw [ifV_false, pBin_add, wI i (by omega)]
        exact hZ2 (I (i + 1 : Nat), ()) _ hlt ⟨rfl, rfl⟩

end
end Go.Proofs.YtebjceofpaamjaaGreatDoor
