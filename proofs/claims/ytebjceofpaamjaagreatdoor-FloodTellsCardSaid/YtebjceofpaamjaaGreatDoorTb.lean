/- Texts of the proofs of seat YtebjceofpaamjaaGreatDoor, joined: HpH, HpI, HoA, FlA, FlB, FlC, FlD, Lw10, F10A, GtA, F10B, HpQ, HpR, R8A, R7C, R7A, R7B, R10A, R10B, F10F. They have no conditions of their own. -/
import Derived.Test.YtebjceofpaamjaaGreatDoorTa
import Derived.Test.YtebjceofpaamjaaGreatDoorMc
set_option linter.unusedVariables false
set_option linter.unusedSimpArgs false

namespace Go.Proofs.YtebjceofpaamjaaGreatDoor
open Go Go.Mh

theorem swapL_last {l : List HE} (hl : 0 < l.length) : swapL l 0 (l.length - 1) hl (by omega) = (swapL l 0 (l.length - 1) hl (by omega)).take (l.length - 1) ++ [l[0]] := by
  have hlen := swapL_length (l := l) hl (show l.length - 1 < l.length by omega)
  apply List.ext_getElem
  · simp [hlen]; omega
  · intro j h1 h2
    rw [hlen] at h1
    by_cases hj : j < l.length - 1
    · rw [List.getElem_append_left (by simp [hlen]; omega)]; simp
    · have : j = l.length - 1 := by omega
      subst this
      rw [swapL_get, if_pos rfl, List.getElem_append_right (by simp [hlen])]
      simp

theorem pos_del {l2 : List HE} {p : HE} (hn : ((l2 ++ [p]).map (·.1)).Nodup) (x : Int) : fdel (pos (l2 ++ [p])) p.1 x = pos l2 x := by
  unfold fdel
  by_cases hx : x = p.1
  · subst hx
    rw [if_pos rfl]
    refine (pos_none fun q hq e => ?_).symm
    rw [List.map_append, List.nodup_append] at hn
    exact hn.2.2 q.1 (List.mem_map.2 ⟨q, hq, rfl⟩) p.1 (by simp) e
  · rw [if_neg hx]
    unfold pos
    rw [List.findIdx?_append]
    have : [p].findIdx? (fun q => q.1 == x) = none := by
      rw [List.findIdx?_eq_none_iff]; intro q hq; simp at hq; subst hq; simpa using fun e => hx e.symm
    rw [this]; simp

theorem pop_ok {h : Heap} {F : Nat → Prop} {r : Nat} {l : List HE} {n : Int} {K : Value → Heap → Prop} (H : HV h F r l n)
    (h0 : l = [] → K (.tuple #[I 0, I 0, .bool false]) h)
    (h1 : ∀ p, Min l p → ∀ h' F' l', HV h' F' r l' n → l'.Perm (l.erase p) → Grow h F F' → Upd F h h' → K (.tuple #[I p.1, I p.2, .bool true]) h') :
    callS Tryz.prog F_heap_Heap_Pop [ptr r] h K := by
  refine callS_of (lk_heap_Heap_Pop _ ?_)
  unfold sh_heap_Heap_Pop
  refine len_ok H ?_
  obtain ⟨⟨m, bl, R, ho, f1, f2, f3⟩, hlow, hrg⟩ := H
  obtain ⟨v, hr, hs⟩ := R.slr
  obtain ⟨es, c, hm, him⟩ := R.map
  have c0 := hcell0 hr
  simp only [pBin_eql, ifV_beq, pNil_ptr, pField_ptr, pLoad_ptr, c0, Nat.zero_add]
  refine ⟨fun he => h0 (List.eq_nil_of_length_eq_zero (by omega)), fun he => ?_⟩
  have hl : 0 < l.length := by omega
  refine hs.idx (i := 0) (k := .i64) hl ?_
  simp only [pLoadN_ptr, Nat.zero_mul]
  have ca : cellsAt h bl 0 2 = some [I l[0].1, I l[0].2] := by
    obtain ⟨cap, rest, rfl, hb, _, _⟩ := hs.full hl
    have hlen := row_length encH_len l
    rw [cellsAt_of (i := 0) hb 2 0 (by simp [hlen]; omega)]
    have := row_slot encH_len hl rest
    rw [Nat.zero_mul] at this
    rw [this]; rfl
  simp only [ca]
  refine hs.lenK ?_
  have e1 : IntKind.i64.wrap ((l.length : Int) - 1) = ((l.length - 1 : Nat) : Int) := by
    have := R.small
    rw [w64 (by omega) (by omega)]; omega
  rw [pBin_sub, e1]
  refine pBox_of ?_
  refine pStore_of rfl push_new rfl (by simp) (by simp [Mh.plainCell]) ?_
  have x1 : Ext h (upd (h.push (.cells (Value.agg #[.int .i64 0, .int .i64 0]).cells T_heap_held (0, 0))) h.size (.cells (over [Value.int .i64 0, Value.int .i64 0] 0 (Value.agg [I l[0].1, I l[0].2].toArray).cells.toList).toArray T_heap_held (0, 0))) :=
    ((Upd.push _ _ _).trans (Upd.upd (S := fun b => b = h.size) _ _ rfl) (fun b hb hlt => by omega))
  have hf1 : (upd (h.push (.cells (Value.agg #[.int .i64 0, .int .i64 0]).cells T_heap_held (0, 0))) h.size (.cells (over [Value.int .i64 0, Value.int .i64 0] 0 (Value.agg [I l[0].1, I l[0].2].toArray).cells.toList).toArray T_heap_held (0, 0)))[h.size]? =
    some (.cells #[I l[0].1, I l[0].2] T_heap_held (0, 0)) := upd_self' push_new
  have hsz1 := get_lt hf1
  generalize (upd (h.push (.cells (Value.agg #[.int .i64 0, .int .i64 0]).cells T_heap_held (0, 0))) h.size (.cells (over [Value.int .i64 0, Value.int .i64 0] 0 (Value.agg [I l[0].1, I l[0].2].toArray).cells.toList).toArray T_heap_held (0, 0))) = hA at x1 hf1 hsz1
  have R1 := R.upd x1 id id id
  have hrA := x1.get hr
  have cA := hcell0 hrA
  simp only [cA, true_and]
  have hrs := hlow _ f1
  have hms := hlow _ f2
  have hbs := hlow _ f3
  refine swap_ok R1 (i := 0) (k := l.length - 1) hl (by omega) fun h2 R2 u2 => ?_
  obtain ⟨S, R2, hlen, hS, hnd, hperm, hgt⟩ : ∃ S : List HE, Rep h2 r m bl S n ∧ S.length = l.length ∧ S = S.take (l.length - 1) ++ [l[0]] ∧ (S.map (·.1)).Nodup ∧ S.Perm l ∧
      (∀ j, gt S j = if j = l.length - 1 then gt l 0 else if j = 0 then gt l (l.length - 1) else gt l j) :=
    ⟨_, R2, swapL_length _ _, swapL_last hl, R2.ids, swapL_perm _ _, swapL_gt _ _⟩
  obtain ⟨v2, hr2, hs2⟩ := R2.slr
  obtain ⟨es2, c2, hm2, him2⟩ := R2.map
  have d0 := hcell0 hr2
  have hf2 := u2.get hf1 (by omega)
  simp only [d0]
  refine hs2.pre encH_len (by rw [hlen]; omega) fun v3 hs3 => ?_
  have hcs3 : v3.cells.size = 1 ∧ (∀ u ∈ v3.cells.toList, Mh.plainCell u = true) ∧ v3.cells.toList = [v3] := by
    rcases hs3.len with ⟨_, _, rfl⟩; simp
  refine pStore_of rfl hr2 hcs3.1 (by rw [hcs3.1]; simp) hcs3.2.1 ?_
  have ec : over [v2, Value.map (some m), I n] 0 v3.cells.toList = [v3, Value.map (some m), I n] := by rw [hcs3.2.2]; rfl
  rw [ec]
  have u3 : Upd (fun b => b = r) h2 (upd h2 r (.cells [v3, Value.map (some m), I n].toArray tHeap (0, 0))) := Upd.upd _ _ rfl
  have hr3 : (upd h2 r (.cells [v3, Value.map (some m), I n].toArray tHeap (0, 0)))[r]? = _ := upd_self' hr2
  obtain ⟨hne1, hne2, hne3⟩ := R2.r_ne (by omega)
  have hm3 := u3.get hm2 (fun e => hne2 e.symm)
  have hs3' := hs3.upd u3 (fun e => hne1 e.symm)
  have hf3 := u3.get hf2 (by omega)
  generalize upd h2 r (.cells [v3, Value.map (some m), I n].toArray tHeap (0, 0)) = h3 at u3 hr3 hm3 hs3' hf3
  have g1 := hcell1 hr3
  have g2 := hcell0 hf3
  simp only [g1, g2, pField_ptr, pLoad_ptr, Nat.add_zero, Nat.zero_add]
  refine delete_of hm3 him2 fun es4 him4 => ?_
  have u4 : Upd (fun b => b = m) h3 (upd h3 m (.map es4 c2)) := Upd.upd _ _ rfl
  have hr4 := u4.get hr3 hne2
  have hm4 : (upd h3 m (.map es4 c2))[m]? = _ := upd_self' hm3
  have hs4 := hs3'.upd u4 hne3
  have hf4 := u4.get hf3 (by omega)
  generalize upd h3 m (.map es4 c2) = h4 at u4 hr4 hm4 hs4 hf4
  have hl2 : (S.take (l.length - 1)).length = l.length - 1 := by simp [hlen]
  have hpS : S.Perm (l[0] :: S.take (l.length - 1)) := by
    rw [hS]
    have : ((S.take (l.length - 1)) ++ [l[0]]).take (l.length - 1) = S.take (l.length - 1) := by rw [List.take_append_of_le_length (by rw [hl2]; exact Nat.le_refl _), List.take_take, Nat.min_self]
    rw [this]
    exact List.perm_append_comm
  have R4 : Rep h4 r m bl (S.take (l.length - 1)) n := by
    refine Rep.of hr4 hs4 hm4 (him4.congr fun x => ?_) ?_ (by rw [hl2]; have := R.small; omega)
    · have := pos_del (l2 := S.take (l.length - 1)) (p := l[0]) (by rw [← hS]; exact hnd) x
      rw [← hS] at this; exact this
    · have := (hpS.map (·.1)).nodup_iff.1 hnd
      rw [List.map_cons, List.nodup_cons] at this
      exact this.2
  have gtk : ∀ j, j < l.length - 1 → gt (S.take (l.length - 1)) j = gt S j := by
    intro j hj
    rw [← gt_eq (by rw [hl2]; exact hj), ← gt_eq (by rw [hlen]; omega)]
    simp
  have hbl4 : bl < h4.size := by
    have a := x1.size; have b := u2.size; have c := u3.size; have d := u4.size; omega
  have u14 : Upd F h h4 := (((x1.mono (S' := F) fun _ hf _ => hf.elim).trans u2 fun b hb _ => by rcases hb with rfl | rfl; exact f2; exact f3).trans u3 fun b hb _ => by subst hb; exact f1).trans u4 fun b hb _ => by subst hb; exact f2
  refine down_ok R4 (i := 0) (by decide) (by rcases Nat.eq_zero_or_pos (l.length - 1) with e | e; exact .inr (List.eq_nil_of_length_eq_zero (by rw [hl2]; exact e)); exact .inl (by rw [hl2]; exact e)) hbl4 ?_ fun h5 l5 R5 hp5 ho5 u5 => ?_
  · refine ⟨fun j j0 j1 j2 => ?_, fun i0 => absurd i0 (Nat.lt_irrefl 0)⟩
    rw [hl2] at j1
    have hj4 : (j - 1) / 4 < l.length - 1 := by omega
    rw [gtk j j1, gtk _ hj4, hgt, hgt, if_neg (by omega), if_neg (by omega), if_neg (by omega), if_neg (by omega)]
    exact ho j j0 (by omega)
  · have hf5 := u5.get hf4 (by omega)
    have k0 := hcell0 hf5
    have k1 := hcell1 hf5
    simp only [k0, k1, pField_ptr, pLoad_ptr, Nat.add_zero, Nat.zero_add]
    have u15 : Upd F h h5 := u14.trans u5 fun b hb _ => by rcases hb with rfl | rfl; exact f2; exact f3
    have hpe : l5.Perm (l.erase l[0]) := by
      have := (hperm.symm.trans hpS).erase l[0]
      simp only [List.erase_cons_head] at this
      exact hp5.trans this.symm
    refine h1 l[0] (ho.min hl) h5 F l5 ⟨⟨m, bl, R5, ho5, f1, f2, f3⟩, fun b hb => Nat.lt_of_lt_of_le (hlow b hb) u15.size, fun p hp => hrg p (List.mem_of_mem_erase (hpe.mem_iff.1 hp))⟩ hpe (fun b hb => .inl hb) u15

theorem pop_nil {h : Heap} {K : Value → Heap → Prop} (hK : K (.tuple #[I 0, I 0, .bool false]) h) : callS Tryz.prog F_heap_Heap_Pop [.pointer none] h K := by
  refine callS_of (lk_heap_Heap_Pop _ ?_)
  unfold sh_heap_Heap_Pop
  refine callS_of (lk_heap_Heap_Len _ ?_)
  unfold sh_heap_Heap_Len
  simpa using hK

end Go.Proofs.YtebjceofpaamjaaGreatDoor

namespace Go.Proofs.YtebjceofpaamjaaGreatDoor
open Go Go.Mh

instance (l : List HE) (p : HE) : Decidable (Min l p) := by unfold Min; exact inferInstance

/-- The same, where only what is held counts, not how it lies. -/
def PV (h : Heap) (F : Nat → Prop) (r : Nat) (L : List HE) (n : Int) : Prop := ∃ l, HV h F r l n ∧ l.Perm L

def Disj (F G : Nat → Prop) : Prop := ∀ b, F b → ¬ G b

section
variable {h h' : Heap} {F G S : Nat → Prop} {r : Nat} {L : List HE} {n id key : Int} {K : Value → Heap → Prop} {p : HE}

theorem PV.upd (H : PV h F r L n) (hu : Upd S h h') (hd : Disj F S) : PV h' F r L n := by
  obtain ⟨l, H, hp⟩ := H; exact ⟨l, H.upd hu hd, hp⟩
theorem PV.low (H : PV h F r L n) : ∀ b, F b → b < h.size := by obtain ⟨l, H, hp⟩ := H; exact H.low
theorem PV.rng (H : PV h F r L n) : ∀ p ∈ L, 0 ≤ p.1 ∧ p.1 < n := by obtain ⟨l, H, hp⟩ := H; exact fun p h => H.rng p (hp.mem_iff.2 h)
theorem PV.nodup (H : PV h F r L n) : (L.map (·.1)).Nodup := by obtain ⟨l, H, hp⟩ := H; exact (hp.map _).nodup_iff.1 H.nodup

theorem Min.perm {l l' : List HE} (hp : l.Perm l') (h : Min l p) : Min l' p := ⟨hp.mem_iff.1 h.1, fun q hq => h.2 q (hp.mem_iff.2 hq)⟩

theorem PV.perm {L' : List HE} (H : PV h F r L n) (hp : L.Perm L') : PV h F r L' n := by
  obtain ⟨l, H, hp'⟩ := H; exact ⟨l, H, hp'.trans hp⟩

theorem plen (H : PV h F r L n) (hK : K (I L.length) h) : callS Tryz.prog F_heap_Heap_Len [ptr r] h K := by
  obtain ⟨l, H, hp⟩ := H; exact len_ok H (by rw [hp.length_eq]; exact hK)
theorem pkey (H : PV h F r L n) (h0 : (∀ p ∈ L, p.1 ≠ id) → K (.tuple #[I 0, .bool false]) h) (h1 : ∀ p ∈ L, p.1 = id → K (.tuple #[I p.2, .bool true]) h) : callS Tryz.prog F_heap_Heap_Key [ptr r, I id] h K := by
  obtain ⟨l, H, hp⟩ := H
  exact key_ok H (fun e => h0 fun p hm => e p (hp.mem_iff.2 hm)) fun p hm => h1 p (hp.mem_iff.1 hm)
theorem pnew (hK : ∀ h' F r, PV h' F r [] (max n 0) → (∀ b, F b → h.size ≤ b) → Ext h h' → K (ptr r) h') : callS Tryz.prog F_heap_New [I n] h K :=
  new_ok fun h' F r H a b => hK h' F r ⟨[], H, .refl _⟩ a b
theorem ppush (H : PV h F r L n) (hsm : L.length + 1 < 2 ^ 40)
    (h2 : ((∃ p ∈ L, p.1 = id) ∨ id < 0 ∨ n ≤ id) → K (I 2) h)
    (h0 : (∀ p ∈ L, p.1 ≠ id) → 0 ≤ id → id < n → ∀ h' F', PV h' F' r ((id, key) :: L) n → Grow h F F' → Upd F h h' → K (I 0) h') :
    callS Tryz.prog F_heap_Heap_Push [ptr r, I id, I key] h K := by
  obtain ⟨l, H, hp⟩ := H
  refine push_ok H (by rw [hp.length_eq]; exact hsm) (fun e => h2 ?_) fun hno a b h' F' l' H' hp' hg hu => h0 (fun p hm => hno p (hp.mem_iff.2 hm)) a b h' F' ⟨l', H', hp'.trans (hp.cons _)⟩ hg hu
  rcases e with ⟨p, hm, e⟩ | e
  · exact .inl ⟨p, hp.mem_iff.1 hm, e⟩
  · exact .inr e
theorem ppush0 (H : PV h F r L n) (hsm : L.length + 1 < 2 ^ 40) (hno : ∀ p ∈ L, p.1 ≠ id) (h1 : 0 ≤ id) (h2 : id < n)
    (h0 : ∀ h' F', PV h' F' r ((id, key) :: L) n → Grow h F F' → Upd F h h' → K (I 0) h') : callS Tryz.prog F_heap_Heap_Push [ptr r, I id, I key] h K :=
  ppush H hsm (fun e => by
    rcases e with ⟨p, hm, e⟩ | e
    · exact (hno p hm e).elim
    · omega) fun _ _ _ => h0
theorem ppush2 (H : PV h F r L n) (hsm : L.length + 1 < 2 ^ 40) (hno : (∃ p ∈ L, p.1 = id) ∨ id < 0 ∨ n ≤ id) (h2 : K (I 2) h) : callS Tryz.prog F_heap_Heap_Push [ptr r, I id, I key] h K :=
  ppush H hsm (fun _ => h2) fun hn a b => by
    rcases hno with ⟨p, hm, e⟩ | e
    · exact (hn p hm e).elim
    · omega
theorem plower (H : PV h F r L n)
    (h2 : (id < 0 ∨ n ≤ id) → K (I 2) h) (h20 : 0 ≤ id → id < n → (∀ p ∈ L, p.1 ≠ id) → K (I 20) h) (h2' : ∀ p ∈ L, p.1 = id → p.2 < key → K (I 2) h)
    (h0 : ∀ p ∈ L, p.1 = id → ¬ p.2 < key → ∀ h' F', PV h' F' r ((id, key) :: L.erase p) n → Grow h F F' → Upd F h h' → K (I 0) h') :
    callS Tryz.prog F_heap_Heap_Lower [ptr r, I id, I key] h K := by
  obtain ⟨l, H, hp⟩ := H
  exact lower_ok H h2 (fun a b e => h20 a b fun p hm => e p (hp.mem_iff.2 hm)) (fun p hm => h2' p (hp.mem_iff.1 hm)) fun p hm e hk h' F' l' H' hp' hg hu =>
    h0 p (hp.mem_iff.1 hm) e hk h' F' ⟨l', H', hp'.trans ((hp.erase p).cons _)⟩ hg hu
theorem id_uniq (hn : (L.map (·.1)).Nodup) {q : HE} (hp : p ∈ L) (hq : q ∈ L) (he : p.1 = q.1) : p = q := by
  obtain ⟨i, hi, rfl⟩ := List.mem_iff_getElem.1 hp
  obtain ⟨j, hj, rfl⟩ := List.mem_iff_getElem.1 hq
  have := ids_inj hn hi hj he
  subst this; rfl
theorem plower0 (H : PV h F r L n) (hp : p ∈ L) (he : p.1 = id) (hk : ¬ p.2 < key)
    (h0 : ∀ h' F', PV h' F' r ((id, key) :: L.erase p) n → Grow h F F' → Upd F h h' → K (I 0) h') : callS Tryz.prog F_heap_Heap_Lower [ptr r, I id, I key] h K := by
  have hr := H.rng p hp
  refine plower H (fun e => by omega) (fun _ _ e => (e p hp he).elim) (fun q hq e hk' => ?_) fun q hq e hk' => ?_
  · have := id_uniq H.nodup hp hq (he.trans e.symm); subst this; exact (hk hk').elim
  · have := id_uniq H.nodup hp hq (he.trans e.symm); subst this; exact h0
theorem plower2 (H : PV h F r L n) (hp : (∃ p ∈ L, p.1 = id ∧ p.2 < key) ∨ id < 0 ∨ n ≤ id) (h2 : K (I 2) h) : callS Tryz.prog F_heap_Heap_Lower [ptr r, I id, I key] h K := by
  refine plower H (fun _ => h2) (fun a b e => ?_) (fun _ _ _ _ => h2) fun q hq e hk' => ?_
  · rcases hp with ⟨p, hm, e', _⟩ | e'
    · exact (e p hm e').elim
    · omega
  · rcases hp with ⟨p, hm, e', hk⟩ | e'
    · have := id_uniq H.nodup hm hq (e'.trans e.symm); subst this; exact (hk' hk).elim
    · have := H.rng q hq; omega
theorem plower20 (H : PV h F r L n) (h1 : 0 ≤ id) (h2 : id < n) (hp : ∀ p ∈ L, p.1 ≠ id) (hK : K (I 20) h) : callS Tryz.prog F_heap_Heap_Lower [ptr r, I id, I key] h K :=
  plower H (fun _ => by omega) (fun _ _ _ => hK) (fun q hq e => (hp q hq e).elim) fun q hq e => (hp q hq e).elim
theorem ppop (H : PV h F r L n) (h0 : L = [] → K (.tuple #[I 0, I 0, .bool false]) h)
    (h1 : ∀ p, Min L p → ∀ h' F', PV h' F' r (L.erase p) n → Grow h F F' → Upd F h h' → K (.tuple #[I p.1, I p.2, .bool true]) h') : callS Tryz.prog F_heap_Heap_Pop [ptr r] h K := by
  obtain ⟨l, H, hp⟩ := H
  exact pop_ok H (fun e => h0 (by subst e; exact hp.nil_eq.symm)) fun p hm h' F' l' H' hp' hg hu => h1 p (hm.perm hp) h' F' ⟨l', H', hp'.trans (hp.erase p)⟩ hg hu
theorem ppop1 (H : PV h F r L n) (hm : Min L p) (h1 : ∀ h' F', PV h' F' r (L.erase p) n → Grow h F F' → Upd F h h' → K (.tuple #[I p.1, I p.2, .bool true]) h') : callS Tryz.prog F_heap_Heap_Pop [ptr r] h K :=
  ppop H (fun e => by subst e; simp [Min] at hm) fun q hq => by
    have := hq.uniq hm (.refl _); subst this; exact h1

theorem Disj.step {F' : Nat → Prop} (d : Disj F G) (hg : Grow h F F') (hl : ∀ b, G b → b < h.size) : Disj F' G := fun b hb hG => by
  rcases hg b hb with hb | hb
  · exact d b hb hG
  · have := hl b hG; omega
theorem Disj.symm (d : Disj F G) : Disj G F := fun b h1 h2 => d b h2 h1
end

end Go.Proofs.YtebjceofpaamjaaGreatDoor

namespace Go.Proofs.YtebjceofpaamjaaGreatDoor
open Go Go.Mh
set_option linter.unusedVariables false

/-! ### A heap as a part of memory -/

theorem Rep.st {h h' : Heap} {r m bl : Nat} {l : List HE} {n : Int} (H : Rep h r m bl l n) (h1 : h'[r]? = h[r]?) (h2 : h'[m]? = h[m]?) (h3 : h'[bl]? = h[bl]?) : Rep h' r m bl l n := by
  obtain ⟨⟨sl, cap, rest, hr, hs⟩, ⟨es, c, hm, hi⟩, hn, hsm⟩ := H
  refine ⟨⟨sl, cap, rest, h1.trans hr, ?_⟩, ⟨es, c, h2.trans hm, hi⟩, hn, hsm⟩
  rcases hs with hs | ⟨a, b, c, d⟩
  · exact .inl hs
  · exact .inr ⟨a, h3.trans b, c, d⟩

def hpR (F : Nat → Prop) (r : Nat) (H : List HE) (n : Nat) : Res := ⟨F, fun h => ∃ l, (∃ m bl, Rep h r m bl l n ∧ HeapOrd l ∧ F r ∧ F m ∧ F bl) ∧ (∀ p ∈ l, 0 ≤ p.1 ∧ p.1 < n) ∧ l.Perm H, fun hs ⟨l, ⟨m, bl, R, ho, f1, f2, f3⟩, hr, hp⟩ =>
  ⟨l, ⟨m, bl, R.st (hs _ f1) (hs _ f2) (hs _ f3), ho, f1, f2, f3⟩, hr, hp⟩⟩

theorem PV.toR {h : Heap} {F : Nat → Prop} {r : Nat} {H : List HE} {n : Nat} (P : PV h F r H n) : (hpR F r H n).Q h := by
  obtain ⟨l, ⟨a, b, c⟩, d⟩ := P; exact ⟨l, a, c, d⟩

section
variable {h0 h : Heap} {L : List Res} {F : Nat → Prop} {r n : Nat} {H : List HE} {id key : Int} {K : Value → Heap → Prop}

theorem own_pv (o : Own h0 h L) (i : Nat) (hi : L[i]? = some (hpR F r H n)) : PV h F r H n := by
  obtain ⟨l, a, c, d⟩ := o.get i hi
  exact ⟨l, ⟨a, fun b hb => ((o.q hi).2 b hb).2, c⟩, d⟩

theorem min_iff {p : HE} : Min H p ↔ p ∈ H ∧ ∀ q ∈ H, ¬ hl q p = true := by
  unfold Min
  have : ∀ q : HE, hlt q p = hl q p := fun q => by
    have h1 := @hlt_iff q p
    have h2 := @hl_iff q p
    by_cases hx : hl q p = true
    · rw [hx]; exact h1.2 (h2.1 hx)
    · simp at hx; rw [hx]
      by_cases hy : hlt q p = true
      · rw [h2.2 (h1.1 hy)] at hx; cases hx
      · simpa using hy
  simp only [this]

theorem least_min {p : HE} (h : least H = some p) : Min H p := min_iff.2 (least_spec h)

theorem ho_new (o : Own h0 h L) (hK : ∀ F r h', Own h0 h' (hpR F r [] n :: L) → K (ptr r) h') : callS Tryz.prog F_heap_New [I n] h K := by
  refine pnew fun h' F r P hF x => hK F r h' (o.cons x ?_ fun b hb => ⟨hF b hb, P.low b hb⟩)
  rw [show max (n : Int) 0 = n by omega] at P
  exact P.toR

theorem own_hp {h' : Heap} {F' : Nat → Prop} {H' : List HE} (o : Own h0 h L) (i : Nat) (hi : L[i]? = some (hpR F r H n)) (P : PV h' F' r H' n) (g : Grow h F F') (u : Upd F h h') : Own h0 h' (L.set i (hpR F' r H' n)) :=
  o.set i hi u P.toR fun b hb => ⟨g b hb, P.low b hb⟩

theorem ho_push (o : Own h0 h L) (i : Nat) (hi : L[i]? = some (hpR F r H n)) (hsm : H.length + 1 < 2 ^ 40) {v : Nat} (hno : ∀ p ∈ H, p.1 ≠ v) (hv : v < n)
    (hK : ∀ F' h', Own h0 h' (L.set i (hpR F' r (((v : Int), key) :: H) n)) → K (I 0) h') : callS Tryz.prog F_heap_Heap_Push [ptr r, I v, I key] h K :=
  ppush0 (own_pv o i hi) hsm hno (by omega) (by omega) fun h' F' P g u => hK F' h' (own_hp o i hi P g u)

theorem ho_lower (o : Own h0 h L) (i : Nat) (hi : L[i]? = some (hpR F r H n)) {v : Nat} {was : Int} (hm : ((v : Int), was) ∈ H) (hk : ¬ was < key)
    (hK : ∀ F' h', Own h0 h' (L.set i (hpR F' r (((v : Int), key) :: H.erase ((v : Int), was)) n)) → K (I 0) h') : callS Tryz.prog F_heap_Heap_Lower [ptr r, I v, I key] h K :=
  plower0 (own_pv o i hi) hm rfl hk fun h' F' P g u => hK F' h' (own_hp o i hi P g u)

theorem ho_key (o : Own h0 h L) (i : Nat) (hi : L[i]? = some (hpR F r H n)) {v : Nat}
    (hK : K (.tuple #[I ((lookH H v).getD 0), .bool (lookH H v).isSome]) h) : callS Tryz.prog F_heap_Heap_Key [ptr r, I v] h K := by
  have P := own_pv o i hi
  refine pkey P (fun hno => ?_) fun p hp e => ?_
  · have : lookH H v = none := lookH_none.2 hno
    rw [this] at hK; exact hK
  · cases hl : lookH H v with
    | none => exact absurd e (lookH_none.1 hl p hp)
    | some k =>
      have hm := lookH_some hl
      have := id_uniq P.nodup hp hm e
      subst this
      rw [hl] at hK; exact hK

theorem ho_pop (o : Own h0 h L) (i : Nat) (hi : L[i]? = some (hpR F r H n)) (hz : least H = none → ∀ h', Own h0 h' L → K (.tuple #[I 0, I 0, .bool false]) h')
    (hK : ∀ p, least H = some p → ∀ F' h', Own h0 h' (L.set i (hpR F' r (H.erase p) n)) → K (.tuple #[I p.1, I p.2, .bool true]) h') : callS Tryz.prog F_heap_Heap_Pop [ptr r] h K := by
  cases hl : least H with
  | none =>
    have e := least_none.1 hl
    subst e
    exact ppop (own_pv o i hi) (fun _ => hz hl h o) fun p hm => by simp [Min] at hm
  | some p => exact ppop1 (own_pv o i hi) (least_min hl) fun h' F' P g u => hK p hl F' h' (own_hp o i hi P g u)

end
end Go.Proofs.YtebjceofpaamjaaGreatDoor

namespace Go.Proofs.YtebjceofpaamjaaGreatDoor
open Go Go.Mh
set_option linter.unusedVariables false

section
variable {h0 h : Heap} {L : List Res} {K : Value → Heap → Prop} {g : G} {r : Nat}

theorem from1_end : EndF (.func (.func F_flood_From_1) #[] #[]) A.t := by
  intro a h K hK
  refine callV_of (l := [.agg (encA a).toArray]) rfl (lk_flood_From_1 _ ?_)
  unfold sh_flood_From_1
  refine (Own.start h).box fun b h1 o1 => ?_
  simp only [pField_ptr]
  exact o1.load 0 rfl rfl (hK _ o1.ext)
theorem to1_end : EndF (.func (.func F_flood_To_1) #[] #[]) A.f := by
  intro a h K hK
  refine callV_of (l := [.agg (encA a).toArray]) rfl (lk_flood_To_1 _ ?_)
  unfold sh_flood_To_1
  refine (Own.start h).box fun b h1 o1 => ?_
  simp only [pField_ptr]
  exact o1.load 0 rfl rfl (hK _ o1.ext)

theorem farcs_iter {l4 n3 e5 : Nat} {vl endv : Value} {ids : List Nat} {head : A → Nat} {T1 T2 T3 : TypeId} (hids : ∀ i ∈ ids, i < g.arcs.length) (hmany : ids.length < 2 ^ 40) (hE : EndF endv head) :
    Iter Tryz.prog (.func (.func F_flood_arcs_1) #[] #[ptr l4, ptr n3, ptr e5])
      (fun h => h[l4]? = some (.cells #[vl] T1 (0, 0)) ∧ h[n3]? = some (.cells #[ptr r] T2 (0, 0)) ∧ h[e5]? = some (.cells #[endv] T3 (0, 0)) ∧ Vw encN 1 h vl ids ∧ NetR h r g) ids.length
      (fun i hi => [I ids[i], vA ⟨0, head (arcAt g.arcs ids[i]), (arcAt g.arcs ids[i]).w⟩]) := by
  rintro yv h0 h Rs K J E ⟨l, rfl⟩ o j0 hQ hY hK
  refine callF_of (l := [yieldV l, ptr l4, ptr n3, ptr e5]) rfl (lk_flood_arcs_1 _ _ _ _ ?_)
  unfold sh_flood_arcs_1
  obtain ⟨hb, _, _, hv, _⟩ := hQ _ _ _ j0 o
  have hc : hcell h ⟨l4, 0, none⟩ = some vl := hcell_of hb rfl
  simp only [pLoad_ptr, hc]
  refine hv.len ?_
  refine LoopH_count ids.length (fun i x h' => x.1 = I i ∧ ∃ Rs', J i Rs' ∧ Own h0 h' Rs') ⟨rfl, Rs, j0, o⟩ ?_
  rintro i ⟨x, ⟨⟩⟩ h Z hi ⟨hx, Rs', hj, o⟩ hZ
  dsimp only at hx hZ ⊢
  subst hx
  unfold sh_flood_arcs_1_L1
  simp only [pBin_lss, ifV_dec]
  refine ⟨fun hlt => ?_, fun hge => ?_⟩
  · have hlt : i < ids.length := by omega
    obtain ⟨_, hn, he, hv, hN⟩ := hQ _ _ _ hj o
    refine hv.at1 (e := fun x : Nat => I x) (fun _ => rfl) hlt ?_
    have hc : hcell h ⟨n3, 0, none⟩ = some (ptr r) := hcell_of hn rfl
    simp only [pLoad_ptr, hc]
    have hil := hids _ (List.getElem_mem hlt)
    refine arc_ok hN hil fun h1 x1 => ?_
    have ea : arcAt g.arcs ids[i] = g.arcs[ids[i]] := by simp [arcAt, hil]
    have o1 := o.more x1
    simp only [pExt0, pExt1]
    refine o1.box fun b h2 o2 => o2.st 0 rfl rfl rfl rfl rfl (encA_plain _) fun h3 o3 => ?_
    obtain ⟨_, _, he3, _, _⟩ := hQ _ _ _ hj o3.tail
    have hc : hcell h3 ⟨e5, 0, none⟩ = some endv := hcell_of he3 rfl
    simp only [pLoad_ptr, hc, pField_ptr]
    refine o3.ldN 0 rfl rfl rfl ?_
    have hl := fun {K} (hk : K (I (g.arcs[ids[i]]).w)) => o3.load (off := 2) (K := K) 0 rfl rfl hk
    simp only [pLoad_ptr] at hl
    refine hl (hE _ _ _ fun h4 x4 => ?_)
    have o4 := o3.more x4
    refine ⟨o4.load 0 rfl rfl rfl, sizesOk_of rfl, ?_⟩
    rw [← ea]
    refine hY i _ (i + 1) Rs' [] h4 _ ⟨⟨hlt, rfl⟩, rfl⟩ hj o4.tail.nilTail (fun Rs'' h'' hj' o' => ?_) fun Rs'' h'' he o' => ?_
    · rw [pUn_not, Bool.not_true, ifV_false, pBin_add, wI i (by omega)]
      exact hZ (I (i + 1 : Nat), ()) h'' hlt ⟨rfl, Rs'', hj', o'.toNil⟩
    · rw [pUn_not, Bool.not_false, ifV_true]
      exact hK _ _ (.inr he) o'.toNil
  · have : i = ids.length := by omega
    exact hK _ _ (.inl ⟨i, this, hj⟩) o

/-- Who is closed, as the program keeps it. -/
def clo (order : List Nat) : Int → Option Value := fun k => if order.any (fun v => (v : Int) == k) then some (I 1) else none
theorem clo_in {order : List Nat} {v : Nat} (h : v ∈ order) : clo order v = some (I 1) := by
  have : order.any (fun u => (u : Int) == (v : Int)) = true := List.any_eq_true.2 ⟨v, h, by simp⟩
  simp [clo, this]
theorem clo_out {order : List Nat} {v : Nat} (h : v ∉ order) : clo order v = none := by
  have : order.any (fun u => (u : Int) == (v : Int)) = false := by
    simp only [List.any_eq_false, beq_iff_eq]
    intro u hu e
    have : u = v := by omega
    exact h (this ▸ hu)
  simp [clo, this]
theorem clo_add {order : List Nat} {v : Nat} (x : Int) : clo (order ++ [v]) x = fset (clo order) v (I 1) x := by
  unfold fset
  by_cases h : x = v
  · subst h; rw [if_pos rfl, clo_in (by simp)]
  · rw [if_neg h]
    have : ((v : Int) == x) = false := by simpa using fun e => h e.symm
    simp [clo, this]

theorem set_set_same {α : Type} {l : List α} {i j : Nat} {a b : α} (hi : l[i]? = some a) (hj : l[j]? = some b) : (l.set i a).set j b = l := by
  have e1 : l.set i a = l := by
    apply List.ext_getElem?
    intro k
    by_cases e : i = k
    · subst e; rw [List.getElem?_set_self (List.getElem?_eq_some_iff.1 hi).1, hi]
    · rw [List.getElem?_set_ne e]
  rw [e1]
  apply List.ext_getElem?
  intro k
  by_cases e : j = k
  · subst e; rw [List.getElem?_set_self (List.getElem?_eq_some_iff.1 hj).1, hj]
  · rw [List.getElem?_set_ne e]

theorem reach_ok {rr hp n m : Nat} {F : Nat → Prop} {sd sa so : Value} {s : FS} {B : Int} {v a : Nat} {d : Int} (o : Own h0 h L) (i1 i2 i3 i4 : Nat)
    (h1 : L[i1]? = some (cellR rr [ptr hp, sd, sa, so, .map (some m)] T_flood_run)) (h2 : L[i2]? = some (hpR F hp s.hp n)) (h3 : L[i3]? = some (slR encI 1 T_int sa s.arc)) (h4 : L[i4]? = some (mapR m (clo s.order)))
    (n12 : i2 ≠ i1) (n23 : i2 ≠ i3) (n24 : i2 ≠ i4) (inv : FInv n B s) (hn : n ≤ 16777216) (hv : v < n)
    (hK : ∀ F' h', Own h0 h' ((L.set i2 (hpR F' hp (s.reach v a d).hp n)).set i3 (slR encI 1 T_int sa (s.reach v a d).arc)) → K (.tuple #[]) h') :
    callS Tryz.prog F_flood_run_reach [ptr rr, I v, I a, I d] h K := by
  refine callS_of (lk_flood_run_reach _ _ _ _ ?_)
  unfold sh_flood_run_reach
  simp only [pNil_ptr, pField_ptr]
  refine o.load i1 h1 rfl (ho_key o i2 h2 ?_)
  simp only [pExt0, pExt1]
  refine o.load i1 h1 rfl ?_
  refine o.look i4 h4 ?_
  simp only [Bool.false_eq_true, if_false]
  have hlen : s.hp.length ≤ n := by
    have : (s.hp.map (·.1.toNat)).length ≤ n := nodup_le (by
      have : s.hp.map (·.1.toNat) = (s.hp.map (·.1)).map Int.toNat := by simp
      rw [this, List.nodup_iff_pairwise_ne, List.pairwise_map]
      refine (List.nodup_iff_pairwise_ne.1 inv.ids).imp_of_mem fun {x y} hx hy hne e => hne ?_
      obtain ⟨p, hp, rfl⟩ := List.mem_map.1 hx
      obtain ⟨q, hq, rfl⟩ := List.mem_map.1 hy
      obtain ⟨u, e1, _⟩ := inv.ent p hp
      obtain ⟨w, e2, _⟩ := inv.ent q hq
      rw [e1, e2] at e ⊢
      have e' : u = w := by simpa using e
      rw [e']) (fun x hx => by
      obtain ⟨p, hp, rfl⟩ := List.mem_map.1 hx
      obtain ⟨u, e1, e2, _⟩ := inv.ent p hp
      rw [e1]; simpa using e2)
    simpa using this
  by_cases hc : v ∈ s.order
  · rw [clo_in hc]
    simp only [Option.getD_some]
    have : s.reach v a d = s := by simp [FS.reach, hc]
    rw [this, ] at hK
    have hk := fun h => hK F h
    rw [set_set_same h2 h3] at hk
    simpa using hk h o
  · rw [clo_out hc]
    simp only [Option.getD_none, pBin_gtr, ifV_dec]
    refine ⟨fun e => by omega, fun _ => ?_⟩
    cases hl : lookH s.hp v with
    | some was =>
      simp only [Option.isSome_some, ifV_true, Option.getD_some, pBin_leq, ifV_dec]
      refine ⟨fun hle => ?_, fun hgt => ?_⟩
      · have : s.reach v a d = s := by simp [FS.reach, hc, hl, hle]
        rw [this] at hK
        have hk := fun h => hK F h
        rw [set_set_same h2 h3] at hk
        exact hk h o
      · unfold sh_flood_run_reach_k1 sh_flood_run_reach_k2
        simp only [ifV_true, pNil_ptr, pField_ptr]
        refine o.load i1 h1 rfl (ho_lower o i2 h2 (lookH_some hl) (by omega) fun F' h5 o5 => ?_)
        refine o5.load i1 (by rw [List.getElem?_set_ne n12]; exact h1) rfl ?_
        refine o5.setI (z := a) i3 (by rw [List.getElem?_set_ne n23]; exact h3) (by rw [inv.al]; exact hv) fun h6 o6 => ?_
        have : s.reach v a d = { s with hp := ((v : Int), d) :: s.hp.erase ((v : Int), was), arc := s.arc.set v a } := by simp [FS.reach, hc, hl, hgt]
        rw [this] at hK
        exact hK F' h6 o6
    | none =>
      simp only [Option.isSome_none, ifV_false]
      unfold sh_flood_run_reach_k1 sh_flood_run_reach_k2
      simp only [ifV_false, pNil_ptr, pField_ptr]
      refine o.load i1 h1 rfl (ho_push o i2 h2 (by omega) (lookH_none.1 hl) hv fun F' h5 o5 => ?_)
      refine o5.load i1 (by rw [List.getElem?_set_ne n12]; exact h1) rfl ?_
      refine o5.setI (z := a) i3 (by rw [List.getElem?_set_ne n23]; exact h3) (by rw [inv.al]; exact hv) fun h6 o6 => ?_
      have : s.reach v a d = { s with hp := ((v : Int), d) :: s.hp, arc := s.arc.set v a } := by simp [FS.reach, hc, hl]
      rw [this] at hK
      exact hK F' h6 o6

end
end Go.Proofs.YtebjceofpaamjaaGreatDoor

namespace Go.Proofs.YtebjceofpaamjaaGreatDoor
open Go Go.Mh
set_option linter.unusedVariables false

/-- A tree in memory. -/
def TreeV (h : Heap) (v : Value) (t : Tr) : Prop := ∃ sd sa so, v = .agg #[sd, sa, so] ∧ Vw encI 1 h sd t.dist ∧ Vw encI 1 h sa t.arc ∧ Vw encN 1 h so t.order
theorem TreeV.more {h h' : Heap} {v : Value} {t : Tr} (H : TreeV h v t) (x : Ext h h') : TreeV h' v t := by
  obtain ⟨sd, sa, so, e, a, b, c⟩ := H
  exact ⟨sd, sa, so, e, a.more x, b.more x, c.more x⟩

theorem scan_take {l : List A} {head : A → Nat} {key : Int} {s : FS} {ids : List Nat} {i : Nat} (hi : i < ids.length) :
    s.scan l head key (ids.take (i + 1)) = (s.scan l head key (ids.take i)).reach (head (arcAt l ids[i])) ids[i] (key + (arcAt l ids[i]).w) := by
  unfold FS.scan
  rw [List.take_succ_eq_append_getElem hi, List.foldl_append]; rfl

section
variable {h0 h : Heap} {L : List Res} {K : Value → Heap → Prop} {g : G} {r : Nat} {outs : Nat → List Nat} {head : A → Nat} {nextv endv : Value}

/-- A closure that tells the arcs of a node. -/
def NextF (nextv : Value) (g : G) (r : Nat) (outs : Nat → List Nat) : Prop :=
  ∀ (h0 h : Heap) (L : List Res) (K : Value → Heap → Prop) (v : Nat), v < g.n → NetR h r g → Own h0 h L → (∀ v' h', Own h0 h' (slR encN 1 T_int v' (outs v) :: L) → K v' h') → callV Tryz.prog nextv [I v].toArray h K

theorem out_next (hR : g.Right) : NextF (.func (.func F_net_Net_Out) #[ptr r] #[]) g r g.out := by
  intro h0 h L K v hv H o hK
  refine callV_of (l := [ptr r, I v]) rfl ?_
  have := outI_ok (z := v) o hR H (K := K) (by rw [if_pos (by omega)]; exact hK)
  simpa [callS, callV] using this
theorem in_next (hR : g.Right) : NextF (.func (.func F_net_Net_In) #[ptr r] #[]) g r g.in := by
  intro h0 h L K v hv H o hK
  refine callV_of (l := [ptr r, I v]) rfl ?_
  have := inI_ok (z := v) o hR H (K := K) (by rw [if_pos (by omega)]; exact hK)
  simpa [callS, callV] using this

abbrev runL (r9 rr m hp t8 n : Nat) (sd sa : Value) (kb : Nat) (key : Int) (F : Nat → Prop) (H : List HE) (so : Value) (st : FS) (mm : List Nat) : List Res :=
  [cellR kb [I key] T_int64, cellR r9 [ptr rr] T_p_flood_run, cellR rr [ptr hp, sd, sa, so, .map (some m)] T_flood_run, hpR F hp H n, slR encI 1 T_int sa st.arc, mapR m (clo st.order), xR sd st.dist, slR encN 1 T_int so st.order,
    cellR t8 [sl0, sl0, sl0] T_flood_Tree, marksR mm]

/-- The rest of a flood, from a state on. -/
theorem flood_loop {r9 rr m hp t8 : Nat} {sd sa : Value} {fin : FS} {h' : Heap} {x : List Nat × Vals [10, 11, 12]} (hR : g.Right) (H : NetR h r g) (hN : NextF nextv g r outs) (hE : EndF endv head) (hev : endv.cells = #[endv]) (hhead : ∀ a ∈ g.arcs, head a < g.n)
    (hout : ∀ v, v < g.n → ∀ i ∈ outs v, i < g.arcs.length) (hol : ∀ v, (outs v).length ≤ g.arcs.length)
    (hK : ∀ so h', Own h h' [xR sd fin.dist, slR encI 1 T_int sa fin.arc, slR encN 1 T_int so fin.order] → K (.agg #[sd, sa, so]) h')
    (J : ∃ (st : FS) (kb : Nat) (key : Int) (so : Value) (F : Nat → Prop) (H : List HE), x.2.2.1 = ptr kb ∧ FS.run g.arcs outs head (g.n + 1 - st.order.length) st = fin ∧ FInv g.n (st.order.length * W) st ∧
      ((least st.hp = none ∧ x.2.2.2.1 = .bool false) ∨ ∃ p, least st.hp = some p ∧ x.2.1 = I p.1 ∧ key = p.2 ∧ x.2.2.2.1 = .bool true ∧ H = st.hp.erase p) ∧ Own h h' (runL r9 rr m hp t8 g.n sd sa kb key F H so st x.1)) :
    LoopH (σ := List Nat × Vals [10, 11, 12]) (fun x hh ZZ => sh_flood_flood_L2 Tryz.prog (ptr r9) nextv (ptr r) endv (ptr t8) K x.1 x.2.1 x.2.2.1 x.2.2.2.1 hh (fun mz a0 a1 a2 hz => ZZ (mz, (a0, (a1, (a2, ())))) hz)) x h' := by
  have hmost := hR.most
  have hmany := hR.many
  obtain ⟨st0, J⟩ := J
  refine LoopH_down (k0 := g.n + 1 - st0.order.length) (fun k x h' => ∃ (st : FS) (kb : Nat) (key : Int) (so : Value) (F : Nat → Prop) (H : List HE), k = g.n + 1 - st.order.length ∧ x.2.2.1 = ptr kb ∧ FS.run g.arcs outs head (g.n + 1 - st.order.length) st = fin ∧ FInv g.n (st.order.length * W) st ∧
      ((least st.hp = none ∧ x.2.2.2.1 = .bool false) ∨ ∃ p, least st.hp = some p ∧ x.2.1 = I p.1 ∧ key = p.2 ∧ x.2.2.2.1 = .bool true ∧ H = st.hp.erase p) ∧ Own h h' (runL r9 rr m hp t8 g.n sd sa kb key F H so st x.1))
    (by obtain ⟨kb, key, so, F, H, J⟩ := J; exact ⟨st0, kb, key, so, F, H, rfl, J⟩) ?_
  clear J st0 h' x
  rintro k ⟨mm, v, kv, is, ⟨⟩⟩ h' Z ⟨st, kb, key, so, F, Hp, hk, hkb, hrun, inv, hcase, o⟩ hZ
  dsimp only at hkb hcase o hZ ⊢
  subst hkb
  unfold sh_flood_flood_L2
  simp only [pNil_ptr, pField_ptr]
  rcases hcase with ⟨hl, rfl⟩ | ⟨p, hl, rfl, rfl, rfl, rfl⟩
  · rw [ifV_false]
    have hf : st = fin := by
      rw [← hrun]
      cases g.n + 1 - st.order.length with
      | zero => rfl
      | succ k => simp only [FS.run, hl]
    subst hf
    refine o.load 1 rfl rfl ?_
    simp only [pNil_ptr, pField_ptr]
    refine o.ldN 2 rfl rfl rfl ?_
    refine o.st 8 rfl rfl rfl rfl rfl ?_ fun h2 o2 => ?_
    · intro u hu
      simp at hu
      rcases hu with rfl | rfl | rfl
      · exact (o.vw 6 rfl).plain
      · exact (o.vw 4 rfl).plain
      · exact (o.vw 7 rfl).plain
    · refine o2.take 9 rfl fun h3 o3 => ?_
      exact o3.ldN 8 rfl rfl rfl (hK so h3 (o3.sel [6, 4, 7] (by decide)))
  · rw [ifV_true]
    have hm := (least_spec hl).1
    obtain ⟨u, hu, hun, hno, hk0, hkB⟩ := inv.ent p hm
    obtain ⟨pv, key⟩ := p
    dsimp only at hu hk0 hkB o ⊢
    subst hu
    have hroom := inv.room (by intro e; rw [e] at hm; cases hm)
    have hB : (st.order.length : Int) * W + W ≤ 16777216 * W := by
      have : (st.order.length : Int) + 1 ≤ 16777216 := by omega
      have := Int.mul_le_mul_of_nonneg_right this (show (0 : Int) ≤ W by decide)
      rw [Int.add_mul, Int.one_mul] at this
      exact this
    refine o.load 1 rfl rfl ?_
    simp only [pNil_ptr, pField_ptr]
    refine o.load 2 rfl rfl ?_
    refine o.look 5 rfl ?_
    rw [clo_out hno]
    simp only [Bool.false_eq_true, if_false, Option.getD_none, pBin_add]
    rw [show IntKind.i64.wrap (0 + 1) = 1 from rfl]
    refine o.mapPut (f' := clo (st.order ++ [u])) 5 rfl clo_add fun h1 o1 => ?_
    refine o1.load 1 rfl rfl ?_
    simp only [pNil_ptr, pField_ptr]
    refine o1.load 2 rfl rfl (o1.load 0 rfl rfl ?_)
    refine o1.setI 6 rfl (by rw [inv.dl]; exact hun) fun h2 o2 => ?_
    refine o2.load 1 rfl rfl (o2.load 1 rfl rfl ?_)
    simp only [pNil_ptr, pField_ptr]
    refine o2.load 2 rfl rfl ?_
    refine o2.app1 7 u rfl rfl (sizesOk_of rfl) encN_len encN_plain rfl (by decide) (by omega) fun so1 h3 o3 => ⟨o3.load 1 rfl rfl rfl, ?_⟩
    refine o3.st1 2 rfl rfl rfl (o3.vw 7 rfl).one (o3.vw 7 rfl).plain fun h4 o4 => ?_
    refine hN _ _ _ _ u hun (H.more o4.ext) o4 fun vl h5 o5 => ?_
    refine callS_of (lk_flood_arcs _ _ _ ?_)
    unfold sh_flood_arcs
    refine o5.box fun n3 h6 o6 => o6.box fun l4 h7 o7 => o7.box fun e5 h8 o8 => ?_
    have hvl := o5.vw 0 rfl
    obtain ⟨st1, hst1⟩ : ∃ st1, st1 = st.pop u key := ⟨_, rfl⟩
    have hW : (0 : Int) ≤ W := by decide
    have inv1 : FInv g.n (st.order.length * W + W) st1 := by subst hst1; exact (inv.popped hm).mono (by omega)
    have hord : st1.order.length = st.order.length + 1 := by subst hst1; simp [FS.pop]
    have hids := hout u hun
    have hscan : ∀ i, FInv g.n (st.order.length * W + W) (st1.scan g.arcs head key ((outs u).take i)) := fun i =>
      FInv.scan (fun a ha => ⟨hhead a ha, by have := (hR.ends a ha).2.2; show (a.w : Int) ≤ 2147483647; omega⟩) hk0 (by omega) (fun j hj => hids j (List.mem_of_mem_take hj)) inv1
    have L0 : Own h h8 (cellR e5 endv.cells.toList T_func_api_Arc_int :: cellR l4 vl.cells.toList T_sl_int :: cellR n3 [ptr r] T_p_net_Net :: slR encN 1 T_int vl (outs u) :: runL r9 rr m hp t8 g.n sd sa kb key F (st1.scan g.arcs head key ((outs u).take 0)).hp so1 (st1.scan g.arcs head key ((outs u).take 0)) mm) := by
      subst hst1; exact o8
    refine L0.range (farcs_iter (r := r) (T1 := T_sl_int) (T2 := T_p_net_Net) (T3 := T_func_api_Arc_int) (vl := vl) hids (by have := hol u; omega) hE) (fun i x i' ⟨⟨hi, e⟩, _⟩ => by rw [e]; rfl)
      (fun i Rs => ∃ F, Rs = cellR e5 endv.cells.toList T_func_api_Arc_int :: cellR l4 vl.cells.toList T_sl_int :: cellR n3 [ptr r] T_p_net_Net :: slR encN 1 T_int vl (outs u) :: runL r9 rr m hp t8 g.n sd sa kb key F (st1.scan g.arcs head key ((outs u).take i)).hp so1 (st1.scan g.arcs head key ((outs u).take i)) mm)
      (fun _ => False) (fun _ _ => False) ⟨F, rfl⟩ ?_ ?_ ?_ (fun _ _ h => h.elim) (fun _ _ _ h => h.elim)
    · rintro i Rs' h' ⟨F, rfl⟩ o'
      refine ⟨?_, o'.get 2 rfl, ?_, o'.vw 3 rfl, H.more o'.ext⟩
      · have := o'.get 1 rfl
        rw [show vl.cells.toList = [vl] by rw [hvl.one]] at this
        exact this
      · have := o'.get 0 rfl
        rw [show endv.cells.toList = [endv] by rw [hev]] at this
        exact this
    · rintro M i x i' Rs' Pr h9 R ⟨⟨hi, rfl⟩, rfl⟩ ⟨F, rfl⟩ o9 hN' _ _
      dsimp only [valsOf]
      unfold sh_flood_flood_B3
      refine o9.box fun a14 h10 o10 => o10.st 0 rfl rfl rfl rfl rfl (encA_plain _) fun h11 o11 => ?_
      refine o11.begin 1 rfl fun h12 o12 => ?_
      refine o12.load 8 rfl rfl ?_
      simp only [pField_ptr]
      refine o12.load 0 rfl rfl (o12.load 7 rfl rfl (o12.load 0 rfl rfl ?_))
      have hil := hids _ (List.getElem_mem hi)
      have ha : arcAt g.arcs (outs u)[i] ∈ g.arcs := by simp [arcAt, hil]
      have hw := (hR.ends _ ha).2.2
      have e1 : IntKind.i64.wrap (key + ((arcAt g.arcs (outs u)[i]).w : Int)) = key + (arcAt g.arcs (outs u)[i]).w := by
        have hW2 : (16777216 : Int) * W ≤ 2 ^ 62 := by decide
        exact w64 (by omega) (by have : (W : Int) = 2147483647 := rfl
                                 omega)
      rw [pBin_add, e1]
      refine reach_ok o12 9 10 11 12 rfl rfl rfl rfl (by decide) (by decide) (by decide) (hscan i) hmost (hhead _ ha) fun F' h13 o13 => ?_
      refine hN' _ _ ⟨F', rfl⟩ ?_
      have hsc := scan_take (l := g.arcs) (head := head) (key := key) (s := st1) hi
      have hro := @reach_order (st1.scan g.arcs head key ((outs u).take i)) (head (arcAt g.arcs (outs u)[i])) (outs u)[i] (key + (arcAt g.arcs (outs u)[i]).w)
      rw [← hsc] at hro
      have := o13.tail
      rw [← hsc] at this
      simp only [runL, hro.1, hro.2]
      exact this
    · rintro i h9 Rs' rfl ⟨F', rfl⟩ o9
      rw [List.take_length] at o9
      have hso := @scan_order g.arcs head key (outs u) st1
      refine o9.load 5 rfl rfl (o9.box fun kb2 h10 o10 => ?_)
      refine o10.st1 0 rfl rfl rfl rfl rfl fun h11 o11 => ?_
      refine o11.load 7 rfl rfl ?_
      simp only [pNil_ptr, pField_ptr]
      refine o11.load 8 rfl rfl ?_
      have inv2 : FInv g.n ((st1.scan g.arcs head key (outs u)).order.length * W) (st1.scan g.arcs head key (outs u)) := by
        have := hscan (outs u).length
        rw [List.take_length] at this
        refine this.mono ?_
        rw [hso.1, hord]
        have : ((st.order.length + 1 : Nat) : Int) * W = st.order.length * W + W := by
          rw [Int.natCast_add, Int.add_mul]; rfl
        omega
      have hrun2 : FS.run g.arcs outs head (g.n + 1 - (st1.scan g.arcs head key (outs u)).order.length) (st1.scan g.arcs head key (outs u)) = fin := by
        rw [← hrun, hso.1, hord]
        rw [show g.n + 1 - st.order.length = (g.n + 1 - (st.order.length + 1)) + 1 by omega]
        simp only [FS.run, hl, Int.toNat_natCast]
        rw [← hst1]
      have mark := fun {h'' : Heap} {A B : Res} {C : List Res} (o : Own h h'' (A :: B :: C)) => o
      refine ho_pop o11 9 rfl (fun hl2 h12 o12 => ?_) fun p hl2 F2 h12 o12 => ?_
      · simp only [pExt0, pExt1, pExt2]
        refine o12.st1 0 rfl rfl rfl rfl rfl fun h13 o13 => ?_
        have o14 := (o13.swap).addMark 14 rfl
        refine hZ (_ :: mm, (I 0, (ptr kb2, (.bool false, ())))) h13 _ (by rw [hso.1, hord]; omega) ⟨st1.scan g.arcs head key (outs u), kb2, 0, so1, F', (st1.scan g.arcs head key (outs u)).hp, rfl, rfl, hrun2, inv2, .inl ⟨hl2, rfl⟩, ?_⟩
        exact o14.sel [0, 6, 7, 8, 9, 10, 11, 12, 13, 14] (by decide)
      · simp only [pExt0, pExt1, pExt2]
        refine o12.st1 0 rfl rfl rfl rfl rfl fun h13 o13 => ?_
        have o14 := (o13.swap).addMark 14 rfl
        refine hZ (_ :: mm, (I p.1, (ptr kb2, (.bool true, ())))) h13 _ (by rw [hso.1, hord]; omega) ⟨st1.scan g.arcs head key (outs u), kb2, p.2, so1, F2, (st1.scan g.arcs head key (outs u)).hp.erase p, rfl, rfl, hrun2, inv2, .inr ⟨p, hl2, rfl, rfl, rfl, rfl⟩, ?_⟩
        exact o14.sel [0, 6, 7, 8, 9, 10, 11, 12, 13, 14] (by decide)

end
end Go.Proofs.YtebjceofpaamjaaGreatDoor

namespace Go.Proofs.YtebjceofpaamjaaGreatDoor
open Go Go.Mh
set_option linter.unusedVariables false

section
variable {h0 h : Heap} {L : List Res} {K : Value → Heap → Prop} {g : G} {r : Nat} {outs : Nat → List Nat} {head : A → Nat} {nextv endv : Value}

/-- A tree that was just made. -/
def TreeK (h : Heap) (t : Tr) (K : Value → Heap → Prop) : Prop :=
  ∀ sd sa so h', Own h h' [xR sd t.dist, slR encI 1 T_int sa t.arc, slR encN 1 T_int so t.order] → K (.agg #[sd, sa, so]) h'

theorem TreeK.of {t : Tr} (hK : ∀ v h', TreeV h' v t → Ext h h' → K v h') : TreeK h t K :=
  fun sd sa so h' o => hK _ h' ⟨sd, sa, so, rfl, o.vw 0 rfl, o.vw 1 rfl, o.vw 2 rfl⟩ o.ext

theorem flood_none {s : Int} {rv : Value} (hs : rv = .pointer none ∨ (rv = ptr r ∧ NetR h r g ∧ ¬ (0 ≤ s ∧ s < g.n))) (hK : TreeK h .none K) : callS Tryz.prog F_flood_flood [rv, I s, nextv, endv] h K := by
  refine callS_of (lk_flood_flood _ _ _ _ ?_)
  unfold sh_flood_flood sh_flood_flood_k1
  refine (Own.start h).box fun t8 h1 o1 => ?_
  have none : ∀ {h2 : Heap}, Own h h2 [cellR t8 [sl0, sl0, sl0] T_flood_Tree] → pBuild [(.slice none 0 0), (.slice none 0 0), (.slice none 0 0)] [] fun t27 => pStore 3 (ptr t8) t27 h2 fun u h_3 => pLoadN 3 h_3 (ptr t8) fun res => K res h_3 := fun o2 =>
    ⟨trivial, o2.st (cs' := [sl0, sl0, sl0]) 0 rfl (l := [sl0, sl0, sl0]) rfl rfl rfl rfl (by simp) fun h3 o3 => o3.ldN 0 rfl rfl rfl (hK sl0 sl0 sl0 h3 ((o3.nilS.nilS.nilS).sel [0, 1, 2] (by decide)))⟩
  rcases hs with rfl | ⟨rfl, H, hs⟩
  · simp only [pEq_ptr_nil, Option.isNone_none, ifV_true]
    exact none o1
  · simp only [pEq_ptr_nil, Option.isNone_some, ifV_false, pBin_lss, ifV_dec]
    refine ⟨fun _ => none o1, fun e => nodes_ok (H.more o1.ext) ?_⟩
    simp only [pBin_geq, ifV_dec]
    exact ⟨fun _ => none o1, fun e' => by omega⟩

theorem flood_ok {s : Nat} (hR : g.Right) (H : NetR h r g) (hs : s < g.n) (hN : NextF nextv g r outs) (hE : EndF endv head) (hev : endv.cells = #[endv]) (hhead : ∀ a ∈ g.arcs, head a < g.n)
    (hout : ∀ v, v < g.n → ∀ i ∈ outs v, i < g.arcs.length) (hol : ∀ v, (outs v).length ≤ g.arcs.length) (hK : TreeK h (floodP g.arcs g.n outs head s) K) : callS Tryz.prog F_flood_flood [ptr r, I s, nextv, endv] h K := by
  have hmost := hR.most
  refine callS_of (lk_flood_flood _ _ _ _ ?_)
  unfold sh_flood_flood
  refine (Own.start h).box fun t8 h1 o1 => ?_
  simp only [pEq_ptr_nil, Option.isNone_some, ifV_false, pBin_lss, ifV_dec]
  refine ⟨fun e => by omega, fun _ => nodes_ok (H.more o1.ext) ?_⟩
  simp only [pBin_geq, ifV_dec]
  refine ⟨fun e => by omega, fun _ => nodes_ok (H.more o1.ext) (ho_new o1 fun F hp h2 o2 => ?_)⟩
  refine o2.build (enc := encI) (n := 1) [far] rfl (sizesOk_of rfl) rfl fun wf h3 o3 => nodes_ok (H.more o3.ext) ?_
  refine repeat_int64 o3 (o3.vw 0 rfl) hmost fun sd h4 o4 => ?_
  refine o4.build (enc := encI) (n := 1) [-1] rfl (sizesOk_of rfl) rfl fun wm h5 o5 => nodes_ok (H.more o5.ext) ?_
  refine repeat_int o5 (o5.vw 0 rfl) hmost fun sa h6 o6 => ⟨sizesOk_of (by
    obtain ⟨b, c, e⟩ := (o6.vw 0 rfl).isSl
    obtain ⟨b', c', e'⟩ := (o6.vw 2 rfl).isSl
    subst e e'; rfl), ?_⟩
  have ead : sa.cells = #[sa] ∧ sd.cells = #[sd] := ⟨(o6.vw 0 rfl).one, (o6.vw 2 rfl).one⟩
  refine o6.mkMap fun m h7 o7 => ?_
  obtain ⟨ba, ca, ea⟩ := (o7.vw 1 rfl).isSl
  obtain ⟨bd, cd, ed⟩ := (o7.vw 3 rfl).isSl
  refine ⟨sizesOk_of (by subst ea ed; rfl), o7.box fun rr h8 o8 => o8.box fun r9 h9 o9 => o9.st1 0 rfl rfl rfl rfl rfl fun h10 o10 => ?_⟩
  have o11 : Own h h10 (cellR r9 [ptr rr] T_p_flood_run :: cellR rr [ptr hp, sd, sa, sl0, .map (some m)] T_flood_run :: mapR m (fun _ => none) :: slR encI 1 T_int sa (List.replicate g.n (-1)) :: slR encI 1 T_int wm [-1] :: xR sd (List.replicate g.n far) :: xR wf [far] :: hpR F hp [] g.n :: [cellR t8 [sl0, sl0, sl0] T_flood_Tree]) := by
    subst ea ed; exact o10
  clear o10 o9 o8 o7 o6
  refine o11.load 0 rfl rfl ?_
  simp only [pNil_ptr, pField_ptr]
  refine o11.load 1 rfl rfl (ho_push o11 7 rfl (by simp) (by simp) hs fun F1 h12 o12 => ?_)
  refine o12.load 0 rfl rfl ?_
  simp only [pNil_ptr, pField_ptr]
  refine o12.load 1 rfl rfl ?_
  refine ho_pop o12 7 rfl (fun e => by simp [least] at e) fun p hp' F2 h13 o13 => ?_
  have hp2 : p = ((s : Int), 0) := by simpa [least] using hp'.symm
  subst hp2
  simp only [pExt0, pExt1, pExt2]
  refine o13.box fun kb h14 o14 => o14.st1 0 rfl rfl rfl rfl rfl fun h15 o15 => ?_
  have o16 := (o15.noMarks).nilS (enc := encN) (n := 1) (T := T_int)
  refine flood_loop (fin := FS.run g.arcs outs head (g.n + 1) (FS.start g.n s)) (m := m) (sd := sd) (sa := sa) (rr := rr) (hp := hp) hR H hN hE hev hhead hout hol (fun so h' o' => hK sd sa so h' o') ?_
  refine ⟨FS.start g.n s, kb, 0, sl0, F2, _, rfl, rfl, (FInv.start hs).mono (by simp [FS.start]), .inr ⟨((s : Int), 0), hp', rfl, rfl, rfl, rfl⟩, ?_⟩
  have e : (fun _ => none : Int → Option Value) = clo (FS.start g.n s).order := by funext x; simp [clo, FS.start]
  have o17 := o16.sel [2, 3, 4, 10, 6, 5, 8, 0, 11, 1] (by decide)
  dsimp only [List.map, List.getD] at o17
  rw [e] at o17
  exact o17

end
end Go.Proofs.YtebjceofpaamjaaGreatDoor

namespace Go.Proofs.YtebjceofpaamjaaGreatDoor
open Go Go.Mh
set_option linter.unusedVariables false

section
variable {h0 h : Heap} {L : List Res} {K : Value → Heap → Prop} {g : G} {r : Nat} {s : Int}

theorem out_lt {g : G} {v i : Nat} (h : i ∈ g.out v) : i < g.arcs.length := by
  have := (outsP_mem.1 h).2.1; omega
theorem in_lt {g : G} {v i : Nat} (h : i ∈ g.in v) : i < g.arcs.length := by
  have := (outsP_mem.1 h).2.1; omega

theorem from_ok (hR : g.Right) (H : NetR h r g) (hK : TreeK h (g.fromI s) K) : callS Tryz.prog F_flood_From [ptr r, I s] h K := by
  refine callS_of (lk_flood_From _ _ ?_)
  unfold sh_flood_From
  refine (Own.start h).box fun t4 h1 o1 => ?_
  have fin : TreeK h1 (g.fromI s) fun t9 h_2 => pStore 3 (ptr t4) t9 h_2 fun u h_3 => pLoadN 3 h_3 (ptr t4) fun res => K res h_3 := by
    intro sd sa so h2 o2
    have o3 := o1.frame o2
    refine o3.st 3 rfl rfl rfl rfl rfl ?_ fun h3 o4 => o4.ldN 3 rfl rfl rfl (hK sd sa so h3 (o4.sel [0, 1, 2] (by decide)))
    intro u hu
    simp at hu
    rcases hu with rfl | rfl | rfl
    · exact (o3.vw 0 rfl).plain
    · exact (o3.vw 1 rfl).plain
    · exact (o3.vw 2 rfl).plain
  unfold G.fromI at fin
  split at fin <;> rename_i hs
  · obtain ⟨s, rfl⟩ := Int.eq_ofNat_of_zero_le hs.1
    exact flood_ok hR (H.more o1.ext) (by omega) (out_next hR) from1_end rfl (fun a ha => (hR.ends a ha).2.1) (fun v _ i => out_lt) (fun v => outsP_short) fin
  · exact flood_none (g := g) (.inr ⟨rfl, H.more o1.ext, hs⟩) fin

theorem to_ok (hR : g.Right) (H : NetR h r g) (hK : TreeK h (g.toI s) K) : callS Tryz.prog F_flood_To [ptr r, I s] h K := by
  refine callS_of (lk_flood_To _ _ ?_)
  unfold sh_flood_To
  refine (Own.start h).box fun t4 h1 o1 => ?_
  have fin : TreeK h1 (g.toI s) fun t9 h_2 => pStore 3 (ptr t4) t9 h_2 fun u h_3 => pLoadN 3 h_3 (ptr t4) fun res => K res h_3 := by
    intro sd sa so h2 o2
    have o3 := o1.frame o2
    refine o3.st 3 rfl rfl rfl rfl rfl ?_ fun h3 o4 => o4.ldN 3 rfl rfl rfl (hK sd sa so h3 (o4.sel [0, 1, 2] (by decide)))
    intro u hu
    simp at hu
    rcases hu with rfl | rfl | rfl
    · exact (o3.vw 0 rfl).plain
    · exact (o3.vw 1 rfl).plain
    · exact (o3.vw 2 rfl).plain
  unfold G.toI at fin
  split at fin <;> rename_i hs
  · obtain ⟨s, rfl⟩ := Int.eq_ofNat_of_zero_le hs.1
    exact flood_ok hR (H.more o1.ext) (by omega) (in_next hR) to1_end rfl (fun a ha => (hR.ends a ha).1) (fun v _ i => in_lt) (fun v => outsP_short) fin
  · exact flood_none (g := g) (.inr ⟨rfl, H.more o1.ext, hs⟩) fin

theorem from_nil (hK : TreeK h .none K) : callS Tryz.prog F_flood_From [.pointer none, I s] h K := by
  refine callS_of (lk_flood_From _ _ ?_)
  unfold sh_flood_From
  refine (Own.start h).box fun t4 h1 o1 => flood_none (g := ⟨0, [], [], []⟩) (r := 0) (.inl rfl) fun sd sa so h2 o2 => ?_
  have o3 := o1.frame o2
  refine o3.st 3 rfl rfl rfl rfl rfl ?_ fun h3 o4 => o4.ldN 3 rfl rfl rfl (hK sd sa so h3 (o4.sel [0, 1, 2] (by decide)))
  intro u hu
  simp at hu
  rcases hu with rfl | rfl | rfl
  · exact (o3.vw 0 rfl).plain
  · exact (o3.vw 1 rfl).plain
  · exact (o3.vw 2 rfl).plain
theorem to_nil (hK : TreeK h .none K) : callS Tryz.prog F_flood_To [.pointer none, I s] h K := by
  refine callS_of (lk_flood_To _ _ ?_)
  unfold sh_flood_To
  refine (Own.start h).box fun t4 h1 o1 => flood_none (g := ⟨0, [], [], []⟩) (r := 0) (.inl rfl) fun sd sa so h2 o2 => ?_
  have o3 := o1.frame o2
  refine o3.st 3 rfl rfl rfl rfl rfl ?_ fun h3 o4 => o4.ldN 3 rfl rfl rfl (hK sd sa so h3 (o4.sel [0, 1, 2] (by decide)))
  intro u hu
  simp at hu
  rcases hu with rfl | rfl | rfl
  · exact (o3.vw 0 rfl).plain
  · exact (o3.vw 1 rfl).plain
  · exact (o3.vw 2 rfl).plain

end
end Go.Proofs.YtebjceofpaamjaaGreatDoor

namespace Go.Proofs.YtebjceofpaamjaaGreatDoor
open Go Go.Mh
set_option linter.unusedVariables false

section
variable {h0 h : Heap} {L : List Res} {K : Value → Heap → Prop} {g : G} {vb v : Value} {bs : List Int}

theorem drawn10_ok (H : Vw encU8 1 h vb bs) (hK : ∀ (g : G) vx vy va h', Few g → Own h h' [xR vx g.X, xR vy g.Y, aR va g.arcs] → K (.agg #[I g.n, vx, vy, va]) h') : callS Tryz.prog F_milestonelaw10_drawn [vb] h K := by
  refine callS_of (lk_milestonelaw10_drawn _ ?_)
  unfold sh_milestonelaw10_drawn
  refine (Own.start h).box fun t2 h1 o1 => H.len ?_
  have e : (if (80 : Int) < bs.length then 80 else (bs.length : Int)) = ((min bs.length 80 : Nat) : Int) := by split <;> omega
  rw [pMin_int, e]
  refine H.sub (a := 0) (j := min bs.length 80) encU8_len rfl rfl (by omega) (by omega) fun vb' hb => ⟨sizesOk_of (by obtain ⟨b, c, e⟩ := hb.isSl; subst e; rfl), ?_⟩
  refine o1.box fun d h2 o2 => ?_
  have o3 : Own h h2 (dR d vb' 0 :: [cellR t2 [I 0, sl0, sl0, sl0] T_api_Raw]) := by obtain ⟨b, c, e⟩ := hb.isSl; subst e; exact o2
  refine raw_ok o3 hb fun g vx vy va a' h4 hg o4 => ?_
  have p0 := (o4.vw 0 rfl).plain
  have p1 := (o4.vw 1 rfl).plain
  have p2 := (o4.vw 2 rfl).plain
  refine o4.st 4 rfl rfl rfl rfl rfl ?_ fun h5 o5 => o5.ldN 4 rfl rfl rfl (hK g vx vy va h5 hg (o5.sel [0, 1, 2] (by decide)))
  intro u hu
  simp at hu
  rcases hu with rfl | rfl | rfl | rfl
  · rfl
  · exact p0
  · exact p1
  · exact p2

theorem made10_ok (o : Own h0 h L) (hR : g.Right) (H : RawV h v g) (hK : ∀ r N h', netR N r g → Own h0 h' (N :: L) → K (ptr r) h') : callS Tryz.prog F_milestonelaw10_made [v] h K := by
  obtain ⟨vx, vy, va, rfl, H⟩ := H
  refine callS_of (lk_milestonelaw10_made _ ?_)
  unfold sh_milestonelaw10_made
  refine (Own.start h).box fun b h1 o1 => o1.ldN 0 rfl rfl rfl ?_
  refine new_net_ok o1 hR ⟨vx, vy, va, rfl, H.more o1.ext⟩ fun r N h2 hN o2 => ?_
  simp only [pExt0, pExt1, pNe_iface_nil, ifV_false]
  exact hK r N h2 hN (o.frame (o2.sel [0] (by decide)))

/-- A graph drawn, and its net. -/
theorem rawOf {vx vy va : Value} (o : Own h0 h L) (i j k : Nat) (hi : L[i]? = some (xR vx g.X)) (hj : L[j]? = some (xR vy g.Y)) (hk : L[k]? = some (aR va g.arcs)) : RawV h (.agg #[I g.n, vx, vy, va]) g :=
  ⟨vx, vy, va, rfl, o.vw i hi, o.vw j hj, o.vw k hk⟩

end
end Go.Proofs.YtebjceofpaamjaaGreatDoor

namespace Go.Proofs.YtebjceofpaamjaaGreatDoor
open Go Go.Mh
set_option linter.unusedVariables false

section
variable {h0 h : Heap} {L : List Res} {K : Value → Heap → Prop} {g : G} {v vf va vo : Value} {t : Tr}

theorem is_ok (H : TreeV h v t) (Hf : Vw encI 1 h vf t.dist) (Ha : Vw encI 1 h va t.arc) (Ho : Vw encN 1 h vo t.order) (hl : t.arc.length = t.dist.length) (h1 : t.dist.length < 2 ^ 40) (h2 : t.order.length < 2 ^ 40) (hK : ∀ h', Ext h h' → K (.bool true) h') :
    callS Tryz.prog F_milestonelaw10_is [v, vf, va, vo] h K := by
  obtain ⟨sd, sa, so, rfl, D, R, O⟩ := H
  refine callS_of (lk_milestonelaw10_is _ _ _ _ ?_)
  unfold sh_milestonelaw10_is
  refine (Own.start h).box fun x h1' o1 => ?_
  simp only [pField_ptr]
  have D1 := D.more o1.ext
  have R1 := R.more o1.ext
  have O1 := O.more o1.ext
  have Hf1 := Hf.more o1.ext
  have Ha1 := Ha.more o1.ext
  have Ho1 := Ho.more o1.ext
  refine o1.load 0 rfl rfl (D1.len (Hf1.len ?_))
  simp only [pBin_neq, bne_self_eq_false, ifV_false]
  refine o1.load 0 rfl rfl (R1.len (Ha1.len ?_))
  simp only [pBin_neq, bne_self_eq_false, ifV_false]
  refine o1.load 0 rfl rfl (O1.len (Ho1.len ?_))
  simp only [pBin_neq, bne_self_eq_false, ifV_false]
  refine LoopH_count t.dist.length (fun i y h' => y.1 = I i ∧ h' = h1') ⟨rfl, rfl⟩ ?_
  rintro i ⟨y, ⟨⟩⟩ h' Z hi ⟨hy, rfl⟩ hZ
  dsimp only at hy hZ ⊢
  subst hy
  unfold sh_milestonelaw10_is_L2
  refine Hf1.len ?_
  simp only [pBin_lss, ifV_dec]
  refine ⟨fun hlt => ?_, fun _ => ?_⟩
  · have hlt : i < t.dist.length := by omega
    refine cutP_of (fun y h'' => y.1 = .bool false ∧ h'' = h') (fun J hJ => ?_) ?_
    · simp only [pField_ptr]
      refine o1.load 0 rfl rfl (D1.atI hlt (Hf1.atI hlt ?_))
      simp only [pBin_neq, bne_self_eq_false, ifV_false]
      refine o1.load 0 rfl rfl (R1.atI (by omega) (Ha1.atI (by omega) ?_))
      simp only [pBin_neq, bne_self_eq_false]
      exact hJ _ _ ⟨rfl, rfl⟩
    · rintro ⟨y, ⟨⟩⟩ h'' ⟨hy, rfl⟩
      dsimp only at hy ⊢
      subst hy
      unfold sh_milestonelaw10_is_C3
      rw [ifV_false, pBin_add, wI i (by omega)]
      exact hZ (I (i + 1 : Nat), ()) _ hlt ⟨rfl, rfl⟩
  · refine LoopH_count t.order.length (fun i y h'' => y.1 = I i ∧ h'' = h') ⟨rfl, rfl⟩ ?_
    rintro j ⟨y, ⟨⟩⟩ h'' Z2 hj ⟨hy, rfl⟩ hZ2
    dsimp only at hy hZ2 ⊢
    subst hy
    unfold sh_milestonelaw10_is_L4
    refine Ho1.len ?_
    simp only [pBin_lss, ifV_dec, pField_ptr]
    refine ⟨fun hlt => ?_, fun _ => hK _ o1.ext⟩
    have hlt : j < t.order.length := by omega
    refine o1.load 0 rfl rfl (O1.at1 (e := fun x : Nat => I x) (fun _ => rfl) hlt (Ho1.at1 (e := fun x : Nat => I x) (fun _ => rfl) hlt ?_))
    simp only [pBin_neq, bne_self_eq_false, ifV_false]
    rw [pBin_add, wI j (by omega)]
    exact hZ2 (I (j + 1 : Nat), ()) _ hlt ⟨rfl, rfl⟩

/-! ### The chapter's example -/

def g4 : G := ⟨4, [0, 0, 0, 0], [0, 0, 0, 0], [⟨0, 1, 4⟩, ⟨0, 2, 1⟩, ⟨2, 1, 2⟩, ⟨1, 0, 0⟩]⟩
theorem g4_right : g4.Right := by
  refine ⟨by decide, by decide, rfl, rfl, by decide, by decide, by decide, by decide⟩

theorem vw_tree (o : Own h0 h L) : True := trivial

theorem works10_ok (hK : ∀ h', Ext h h' → K (.bool true) h') : callS Tryz.prog F_milestonelaw10_works [] h K := by
  refine callS_of (lk_milestonelaw10_works ?_)
  unfold sh_milestonelaw10_works
  refine (Own.start h).build (enc := encI) (n := 1) [0, 0, 0, 0] rfl (sizesOk_of rfl) rfl fun w4 h1 o1 => ?_
  refine ⟨sizesOk_of rfl, sizesOk_of rfl, sizesOk_of rfl, sizesOk_of rfl, ?_⟩
  refine o1.build (enc := encA) (n := 3) g4.arcs (by kernel_rfl) (sizesOk_of rfl) rfl fun wa h2 o2 => ?_
  have e4 := (o2.vw 1 rfl).isSl
  have ea := (o2.vw 0 rfl).isSl
  refine ⟨sizesOk_of (by obtain ⟨_, _, e⟩ := e4; obtain ⟨_, _, e'⟩ := ea; subst e e'; rfl), ?_⟩
  have hraw : RawV h2 (.agg #[I g4.n, w4, w4, wa]) g4 := ⟨w4, w4, wa, rfl, o2.vw 1 rfl, o2.vw 1 rfl, o2.vw 0 rfl⟩
  have ev : (Value.agg (spliceAll [(.int .i64 0), (.slice none 0 0), (.slice none 0 0), (.slice none 0 0)] [(0, 1, (.int .i64 4)), (1, 1, w4), (2, 1, w4), (3, 1, wa)]).toArray) = .agg #[I g4.n, w4, w4, wa] := by
    obtain ⟨_, _, e⟩ := e4; obtain ⟨_, _, e'⟩ := ea; subst e e'; rfl
  rw [ev]
  refine made10_ok o2 g4_right hraw fun r N h3 hN o3 => ?_
  simp only [pNe_ptr_nil, Option.isSome_some, ifV_true]
  have hn3 := hN _ (o3.get 0 rfl)
  have f0 : g4.fromI 0 = ⟨[0, 3, 1, far], [-1, 2, 1, -1], [0, 2, 1]⟩ := by kernel_rfl
  have f1 : g4.toI 1 = ⟨[3, 0, 2, far], [1, -1, 2, -1], [1, 2, 0]⟩ := by kernel_rfl
  have f3 : g4.fromI 3 = ⟨[far, far, far, 0], [-1, -1, -1, -1], [3]⟩ := by kernel_rfl
  refine from_ok g4_right hn3 fun sd sa so h4 o4 => ?_
  replace o4 := o3.frame o4
  rw [f0] at o4
  refine o4.build (enc := encI) (n := 1) [0, 3, 1, far] rfl (sizesOk_of rfl) rfl fun wf h5 o5 => o5.build (enc := encI) (n := 1) [-1, 2, 1, -1] rfl (sizesOk_of rfl) rfl fun wr h6 o6 => o6.build (enc := encN) (n := 1) [0, 2, 1] rfl (sizesOk_of rfl) rfl fun wo h7 o7 => ?_
  refine is_ok (t := ⟨[0, 3, 1, far], [-1, 2, 1, -1], [0, 2, 1]⟩) ⟨sd, sa, so, rfl, o7.vw 3 rfl, o7.vw 4 rfl, o7.vw 5 rfl⟩ (o7.vw 2 rfl) (o7.vw 1 rfl) (o7.vw 0 rfl) rfl (by decide) (by decide) fun h8 x8 => ?_
  replace o7 := o7.more x8
  rw [ifV_true]
  refine to_ok g4_right (hN _ (o7.get 6 rfl)) fun sd sa so h4 o4 => ?_
  replace o4 := o7.frame o4
  rw [f1] at o4
  refine o4.build (enc := encI) (n := 1) [3, 0, 2, far] rfl (sizesOk_of rfl) rfl fun wf h5 o5 => o5.build (enc := encI) (n := 1) [1, -1, 2, -1] rfl (sizesOk_of rfl) rfl fun wr h6 o6 => o6.build (enc := encN) (n := 1) [1, 2, 0] rfl (sizesOk_of rfl) rfl fun wo h7 o7 => ?_
  refine is_ok (t := ⟨[3, 0, 2, far], [1, -1, 2, -1], [1, 2, 0]⟩) ⟨sd, sa, so, rfl, o7.vw 3 rfl, o7.vw 4 rfl, o7.vw 5 rfl⟩ (o7.vw 2 rfl) (o7.vw 1 rfl) (o7.vw 0 rfl) rfl (by decide) (by decide) fun h8 x8 => ?_
  replace o7 := o7.more x8
  rw [ifV_true]
  refine from_ok g4_right (hN _ (o7.get 12 rfl)) fun sd sa so h4 o4 => ?_
  replace o4 := o7.frame o4
  rw [f3] at o4
  refine o4.build (enc := encI) (n := 1) [far, far, far, 0] rfl (sizesOk_of rfl) rfl fun wf h5 o5 => o5.build (enc := encI) (n := 1) [-1, -1, -1, -1] rfl (sizesOk_of rfl) rfl fun wr h6 o6 => o6.build (enc := encN) (n := 1) [3] rfl (sizesOk_of rfl) rfl fun wo h7 o7 => ?_
  refine is_ok (t := ⟨[far, far, far, 0], [-1, -1, -1, -1], [3]⟩) ⟨sd, sa, so, rfl, o7.vw 3 rfl, o7.vw 4 rfl, o7.vw 5 rfl⟩ (o7.vw 2 rfl) (o7.vw 1 rfl) (o7.vw 0 rfl) rfl (by decide) (by decide) fun h8 x8 => ?_
  exact hK _ (o7.more x8).ext

end
end Go.Proofs.YtebjceofpaamjaaGreatDoor

namespace Go.Proofs.YtebjceofpaamjaaGreatDoor
open Go Go.Mh
set_option linter.unusedVariables false

section
variable {h0 h : Heap} {L : List Res} {K : Value → Heap → Prop} {g : G} {v : Value}

theorem copied_ok (o : Own h0 h L) (hR : g.Right) (H : RawV h v g) (hK : ∀ vx vy va h', Own h0 h' (xR vx g.X :: xR vy g.Y :: aR va g.arcs :: L) → K (.agg #[I g.n, vx, vy, va]) h') : callS Tryz.prog F_graph_copied [v] h K := by
  obtain ⟨vx, vy, va, rfl, H⟩ := H
  refine callS_of (lk_graph_copied _ ?_)
  unfold sh_graph_copied
  have hx := hR.x
  have hy := hR.y
  have hm := hR.most
  have hmany := hR.many
  refine (Own.start h).box fun r h1 o1 => o1.box fun e h2 o2 => ?_
  simp only [pField_ptr]
  refine o2.load 1 rfl rfl (o2.load 1 rfl rfl (o2.load 1 rfl rfl ?_))
  refine clone_int64 o2 (H.more o2.ext).1 (by omega) fun vx1 h3 o3 => ⟨o3.load 2 rfl rfl rfl, o3.load 2 rfl rfl rfl, ?_⟩
  refine clone_int64 o3 (H.more o3.ext).2.1 (by omega) fun vy1 h4 o4 => ⟨o4.load 3 rfl rfl rfl, ?_⟩
  refine clone_arc o4 (H.more o4.ext).2.2 (by omega) fun va1 h5 o5 => ?_
  have p0 := o5.vw 0 rfl
  have p1 := o5.vw 1 rfl
  have p2 := o5.vw 2 rfl
  refine o5.st1 4 rfl rfl rfl p2.one p2.plain fun h6 o6 => ?_
  refine o6.st1 4 rfl rfl rfl p1.one p1.plain fun h7 o7 => ?_
  refine o7.st1 (cs' := [I g.n, vx1, vy1, va1]) 4 rfl rfl rfl p0.one p0.plain fun h8 o8 => ?_
  refine o8.ldN 4 rfl rfl rfl ?_
  refine o8.st 3 rfl rfl rfl rfl rfl ?_ fun h9 o9 => ?_
  · intro u hu
    simp at hu
    rcases hu with rfl | rfl | rfl | rfl
    · rfl
    · exact p2.plain
    · exact p1.plain
    · exact p0.plain
  · refine o9.ldN 3 rfl rfl rfl ?_
    exact hK vx1 vy1 va1 h9 (o.frame (o9.sel [2, 1, 0] (by decide)))

theorem turned_step {l : List A} {i : Nat} (hi : i < l.length) : (((l.take i).map A.swap ++ l.drop i).set i (l[i]).swap) = (l.take (i + 1)).map A.swap ++ l.drop (i + 1) := by
  rw [List.set_append_right _ _ (by simp; omega)]
  have e : i - ((l.take i).map A.swap).length = 0 := by simp; omega
  rw [e, List.drop_eq_getElem_cons hi, List.set_cons_zero, List.take_succ_eq_append_getElem hi, List.map_append, List.append_assoc]; rfl

theorem gturned_ok (o : Own h0 h L) (hR : g.Right) (H : RawV h v g) (hK : ∀ vx vy va h', Own h0 h' (xR vx g.X :: xR vy g.Y :: aR va g.turned.arcs :: L) → K (.agg #[I g.n, vx, vy, va]) h') : callS Tryz.prog F_graph_Turned [v] h K := by
  obtain ⟨vx, vy, va, rfl, H⟩ := H
  refine callS_of (lk_graph_Turned _ ?_)
  unfold sh_graph_Turned
  have hmany := hR.many
  refine (Own.start h).box fun r h1 o1 => o1.box fun e h2 o2 => o2.ldN 1 rfl rfl rfl ?_
  refine copied_ok o2 hR ⟨vx, vy, va, rfl, H.more o2.ext⟩ fun vx1 vy1 va1 h3 o3 => ?_
  have p0 := (o3.vw 0 rfl).plain
  have p1 := (o3.vw 1 rfl).plain
  have p2 := (o3.vw 2 rfl).plain
  have pl : ∀ u ∈ [I g.n, vx1, vy1, va1], Mh.plainCell u = true := by
    intro u hu
    simp at hu
    rcases hu with rfl | rfl | rfl | rfl
    · rfl
    · exact p0
    · exact p1
    · exact p2
  refine o3.st 4 rfl rfl rfl rfl rfl pl fun h4 o4 => ?_
  simp only [pField_ptr]
  refine o4.load 4 rfl rfl ((o4.vw 2 rfl).len ?_)
  refine LoopH_count g.arcs.length (fun i x h' => x.1 = I i ∧ Own h h' [xR vx1 g.X, xR vy1 g.Y, aR va1 ((g.arcs.take i).map A.swap ++ g.arcs.drop i), cellR e [I 0, sl0, sl0, sl0] T_api_Raw, cellR r [I g.n, vx1, vy1, va1] T_api_Raw]) ⟨rfl, o4⟩ ?_
  clear o4 o3 o2 o1
  rintro i ⟨x, ⟨⟩⟩ h' Z hi ⟨hx, o'⟩ hZ
  dsimp only at hx hZ ⊢
  subst hx
  unfold sh_graph_Turned_L1
  simp only [pBin_lss, ifV_dec]
  refine ⟨fun hlt => ?_, fun hge => ?_⟩
  · have hlt : i < g.arcs.length := by omega
    have hll : i < ((g.arcs.take i).map A.swap ++ g.arcs.drop i).length := by simp; omega
    have hget : ((g.arcs.take i).map A.swap ++ g.arcs.drop i)[i] = g.arcs[i] := by
      rw [List.getElem_append_right (by simp; omega)]
      simp only [List.getElem_drop]
      congr 1; simp; omega
    refine (o'.vw 2 rfl).atN encA_len hll ?_
    rw [hget]
    refine o'.box fun a4 h1 o1 => o1.st 0 rfl rfl rfl rfl rfl (encA_plain _) fun h2 o2 => ?_
    simp only [pField_ptr]
    refine o2.load 5 rfl rfl (o2.load 5 rfl rfl (o2.load 0 rfl rfl (o2.load 0 rfl rfl ?_)))
    refine o2.setF (a := ⟨g.arcs[i].t, g.arcs[i].t, g.arcs[i].w⟩) 3 rfl encA_len hll (f := 0) (by decide) rfl rfl (by rw [hget]; rfl) fun h3 o3 => ⟨o3.load 5 rfl rfl rfl, o3.load 0 rfl rfl rfl, ?_⟩
    refine o3.setF (a := (g.arcs[i]).swap) 3 rfl encA_len (by simpa using hll) (f := 1) (by decide) rfl rfl (by simp [encA, A.swap]) fun h4 o4 => ?_
    rw [pBin_add, wI i (by omega)]
    refine hZ (I (i + 1 : Nat), ()) h4 hlt ⟨rfl, ?_⟩
    have o5 := o4.tail
    simp only [List.set_set] at o5
    rw [← turned_step hlt]
    exact o5
  · have : i = g.arcs.length := by omega
    subst this
    rw [List.take_length, List.drop_length, List.append_nil] at o'
    refine o'.ldN 4 rfl rfl rfl (o'.st 3 rfl rfl rfl rfl rfl pl fun h2 o2 => o2.ldN 3 rfl rfl rfl ?_)
    exact hK vx1 vy1 va1 h2 (o.frame (o2.sel [0, 1, 2] (by decide)))

end
end Go.Proofs.YtebjceofpaamjaaGreatDoor

namespace Go.Proofs.YtebjceofpaamjaaGreatDoor
open Go Go.Mh
set_option linter.unusedVariables false

section
variable {h0 h : Heap} {L : List Res} {K : Value → Heap → Prop} {g : G} {vb : Value} {bs : List Int}

theorem u8_i64 {z : Int} (h : 0 ≤ z ∧ z < 256) : IntKind.i64.wrap z = z := w64 (by omega) (by omega)

/-- A law's beginning: the examples, and a graph drawn, in a box. -/
theorem begin10 {K1 : Heap → Prop} {R : Value → Heap → Prop} (H : Vw encU8 1 h vb bs)
    (hK : ∀ (g : G) vx vy va b h', Few g → Own h h' [cellR b [I g.n, vx, vy, va] T_api_Raw, xR vx g.X, xR vy g.Y, aR va g.arcs] → R (ptr b) h') :
    callS Tryz.prog F_milestonelaw10_works [] h fun t13 h_1 => pUn .not t13 fun t14 => ifV t14 (K1 h_1) (callS Tryz.prog F_milestonelaw10_drawn [vb] h_1 fun t16 h_2 =>
      pBox T_api_Raw (.agg #[(.int .i64 0), (.slice none 0 0), (.slice none 0 0), (.slice none 0 0)]) h_2 fun g5 h_3 => pStore 4 g5 t16 h_3 fun u h_4 => R g5 h_4) := by
  refine works10_ok fun h1 x1 => ?_
  rw [pUn_not, Bool.not_true, ifV_false]
  have o1 := (Own.start h).more x1
  refine drawn10_ok (H.more o1.ext) fun g vx vy va h2 hg o2 => ?_
  have o3 := o1.frame o2
  refine o3.box fun b h4 o4 => ?_
  refine o4.st 0 rfl rfl rfl rfl rfl ?_ fun h5 o5 => hK g vx vy va b h5 hg o5
  intro u hu
  simp at hu
  rcases hu with rfl | rfl | rfl | rfl
  · rfl
  · exact (o3.vw 0 rfl).plain
  · exact (o3.vw 1 rfl).plain
  · exact (o3.vw 2 rfl).plain

theorem nodeOf {z : Int} {g : G} (hg : g.Right) (hz : 0 ≤ z ∧ z < 256) : ∃ v : Nat, z.tmod g.n = v ∧ v < g.n := by
  obtain ⟨u, rfl⟩ := Int.eq_ofNat_of_zero_le hz.1
  exact ⟨u % g.n, rfl, Nat.mod_lt _ (by have := hg.pos; omega)⟩

/-- A tree put into a box. -/
theorem boxTree {R : Value → Heap → Prop} {sd sa so : Value} {t : Tr} (o : Own h0 h (xR sd t.dist :: slR encI 1 T_int sa t.arc :: slR encN 1 T_int so t.order :: L))
    (hK : ∀ b h', Own h0 h' (cellR b [sd, sa, so] T_flood_Tree :: xR sd t.dist :: slR encI 1 T_int sa t.arc :: slR encN 1 T_int so t.order :: L) → R (ptr b) h') :
    pBox T_flood_Tree (.agg #[(.slice none 0 0), (.slice none 0 0), (.slice none 0 0)]) h fun x8 h_7 => pStore 3 x8 (.agg #[sd, sa, so]) h_7 fun u_1 h_8 => R x8 h_8 := by
  refine o.box fun b h1 o1 => o1.st 0 rfl rfl rfl rfl rfl ?_ fun h2 o2 => hK b h2 o2
  intro u hu
  simp at hu
  rcases hu with rfl | rfl | rfl
  · exact (o.vw 0 rfl).plain
  · exact (o.vw 1 rfl).plain
  · exact (o.vw 2 rfl).plain

theorem treePl {sd sa so : Value} {t : Tr} (o : Own h0 h L) (i j k : Nat) (hi : L[i]? = some (xR sd t.dist)) (hj : L[j]? = some (slR encI 1 T_int sa t.arc)) (hk : L[k]? = some (slR encN 1 T_int so t.order)) : ∀ u ∈ [sd, sa, so], Mh.plainCell u = true := by
  intro u hu
  simp at hu
  rcases hu with rfl | rfl | rfl
  · exact (o.vw i hi).plain
  · exact (o.vw j hj).plain
  · exact (o.vw k hk).plain

theorem floodTurned_ok {z : Int} (H : Vw encU8 1 h vb bs) (hz : 0 ≤ z ∧ z < 256) (hK : ∀ h', Ext h h' → K (.bool true) h') : CallsH Tryz.prog F_milestonelaw10_FloodTurned [vb, .int .u8 z].toArray h K := by
  refine lk_milestonelaw10_FloodTurned _ _ ?_
  unfold sh_milestonelaw10_FloodTurned
  refine begin10 H fun g vx vy va b h1 hg o1 => ?_
  have hR := hg.toRight
  refine o1.ldN 0 rfl rfl rfl (o1.ldN 0 rfl rfl rfl ?_)
  refine made10_ok o1 hR (rawOf o1 1 2 3 rfl rfl rfl) fun r N h2 hN o2 => ⟨o2.ldN 1 rfl rfl rfl rfl, ?_⟩
  refine gturned_ok o2 hR (rawOf o2 2 3 4 rfl rfl rfl) fun wx wy wa h3 o3 => ?_
  refine made10_ok o3 hR.turned (rawOf (g := g.turned) o3 0 1 2 rfl rfl rfl) fun r' N' h4 hN' o4 => ?_
  simp only [pEq_ptr_nil, Option.isNone_some, ifV_false, pConv_int, u8_i64 hz, pField_ptr]
  refine o4.load 5 rfl rfl ?_
  obtain ⟨v, hv, hvn⟩ := nodeOf hR hz
  rw [pBin_rem, hv]
  refine ⟨by have := hR.pos; omega, ?_⟩
  refine to_ok hR (hN _ (o4.get 4 rfl)) fun sd sa so h5 o5 => ?_
  replace o5 := o4.frame o5
  refine from_ok hR.turned (hN' _ (o5.get 3 rfl)) fun sd' sa' so' h6 o6 => ?_
  replace o6 := o5.frame o6
  rw [turned_from] at o6
  refine o6.box fun x9 h7 o7 => o7.box fun y10 h8 o8 => ?_
  refine o8.st 1 rfl rfl rfl rfl rfl (treePl (t := g.toI v) o6 3 4 5 rfl rfl rfl) fun h9 o9 => o9.st 0 rfl rfl rfl rfl rfl (treePl (t := g.toI v) o6 0 1 2 rfl rfl rfl) fun h10 o10 => ?_
  refine from_ok hR (hN _ (o10.get 12 rfl)) fun sd2 sa2 so2 h11 o11 => ?_
  replace o11 := o10.frame o11
  refine to_ok hR.turned (hN' _ (o11.get 11 rfl)) fun sd3 sa3 so3 h12 o12 => ?_
  replace o12 := o11.frame o12
  rw [turned_to] at o12
  refine o12.box fun z11 h13 o13 => o13.box fun w12 h14 o14 => ?_
  refine o14.st 1 rfl rfl rfl rfl rfl (treePl (t := g.fromI v) o12 3 4 5 rfl rfl rfl) fun h15 o15 => o15.st 0 rfl rfl rfl rfl rfl (treePl (t := g.fromI v) o12 0 1 2 rfl rfl rfl) fun h16 o16 => ?_
  have hl := tr_len hR (s := v)
  have hl' := tr_lenT hR (s := v)
  have hm := hR.most
  refine o16.ldN 9 rfl rfl rfl ?_
  simp only [pField_ptr]
  refine o16.load 8 rfl rfl (o16.load 8 rfl rfl (o16.load 8 rfl rfl ?_))
  refine is_ok (t := g.toI v) ⟨sd, sa, so, rfl, o16.vw 13 rfl, o16.vw 14 rfl, o16.vw 15 rfl⟩ (o16.vw 10 rfl) (o16.vw 11 rfl) (o16.vw 12 rfl) hl'.1 (by omega) (by omega) fun h17 x17 => ?_
  replace o16 := o16.more x17
  rw [ifV_true]
  refine o16.ldN 1 rfl rfl rfl ?_
  refine o16.load 0 rfl rfl (o16.load 0 rfl rfl (o16.load 0 rfl rfl ?_))
  refine is_ok (t := g.fromI v) ⟨sd2, sa2, so2, rfl, o16.vw 5 rfl, o16.vw 6 rfl, o16.vw 7 rfl⟩ (o16.vw 2 rfl) (o16.vw 3 rfl) (o16.vw 4 rfl) hl.1 (by omega) (by omega) fun h18 x18 => ?_
  exact hK _ (o16.more x18).ext

end
end Go.Proofs.YtebjceofpaamjaaGreatDoor

namespace Go.Proofs.YtebjceofpaamjaaGreatDoor
open Go Go.Mh

/-! ### The document's heap -/

structure RV (h : Heap) (F : Nat → Prop) (r : Nat) (l : List HE) (n : Int) : Prop where
  rep : ∃ v bl, h[r]? = some (.cells #[I n, v] T_milestoneref08_Heap (0, 0)) ∧ SlR encH 2 T_milestoneref08_Held h v bl l ∧ F r ∧ F bl
  low : ∀ b, F b → b < h.size
  ids : (l.map (·.1)).Nodup
  small : l.length < 2 ^ 40

section
variable {h h' : Heap} {F G S : Nat → Prop} {r : Nat} {l L : List HE} {n id key : Int} {K : Value → Heap → Prop} {p : HE}

theorem RV.upd (H : RV h F r l n) (hu : Upd S h h') (hd : Disj F S) : RV h' F r l n := by
  obtain ⟨⟨v, bl, a, b, f1, f2⟩, hlow, hid, hs⟩ := H
  exact ⟨⟨v, bl, hu.get a (hd _ f1), b.upd hu (hd _ f2), f1, f2⟩, fun b hb => Nat.lt_of_lt_of_le (hlow b hb) hu.size, hid, hs⟩

theorem rnew (hK : ∀ h' F r, RV h' F r [] (max n 0) → (∀ b, F b → h.size ≤ b) → Ext h h' → K (ptr r) h') : callS Tryz.prog F_milestoneref08_New [I n] h K := by
  refine callS_of (lk_milestoneref08_New _ ?_)
  unfold sh_milestoneref08_New
  rw [pMax_int]
  have e : (if (0 : Int) > n then 0 else n) = max n 0 := by omega
  rw [e]
  refine ⟨by simp [sizesOk], ?_⟩
  refine pBox_of ?_
  exact hK _ (fun b => b = h.size) h.size ⟨⟨_, h.size, push_new, .inl ⟨rfl, rfl⟩, rfl, rfl⟩, fun b hb => by subst hb; simp, by simp, by simp⟩ (fun b hb => by omega) (Upd.push _ _ _)

theorem rat (H : RV h F r l n) (h1 : ∀ i (hi : i < l.length), l[i].1 = id → K (I i) h) (h0 : (∀ p ∈ l, p.1 ≠ id) → K (I (-1)) h) : callS Tryz.prog F_milestoneref08_Heap_at [ptr r, I id] h K := by
  refine callS_of (lk_milestoneref08_Heap_at _ _ ?_)
  obtain ⟨⟨v, bl, hr, hs, f1, f2⟩, hlow, hid, hsm⟩ := H
  have c1 := hcell1 hr
  unfold sh_milestoneref08_Heap_at
  refine LoopH_intro (fun x h' => h' = h ∧ ∃ i : Nat, x.1 = I i ∧ i ≤ l.length ∧ ∀ j (hj : j < i) (hjl : j < l.length), l[j].1 ≠ id) (fun x _ => match x.1 with | .int _ k => ((l.length : Int) - k).toNat | _ => 0)
    ⟨rfl, 0, rfl, Nat.zero_le _, fun j hj => by omega⟩ ?_
  rintro ⟨x, ⟨⟩⟩ hh Z ⟨rfl, i, hx, hi, hno⟩ hZ
  dsimp only at hx
  subst hx
  dsimp only at hZ ⊢
  unfold sh_milestoneref08_Heap_at_L1
  simp only [pNil_ptr, pField_ptr, pLoad_ptr, Nat.zero_add, c1]
  refine hs.lenK ?_
  simp only [pBin_lss, ifV_dec]
  refine ⟨fun hlt => ?_, fun hge => ?_⟩
  · have hil : i < l.length := by omega
    refine hs.idx hil ?_
    have hc := hs.slot encH_len hil (j := 0) (by omega)
    rw [show (encH l[i])[0]? = some (I l[i].1) from rfl] at hc
    simp only [pField_ptr, pLoad_ptr, hc, pBin_eql, ifV_beq]
    refine ⟨fun e => h1 i hil e, fun e => ?_⟩
    have e3 : IntKind.i64.wrap ((i : Int) + 1) = ((i + 1 : Nat) : Int) := by rw [w64 (by omega) (by omega)]; rfl
    rw [pBin_add, e3]
    refine hZ _ _ ⟨rfl, i + 1, rfl, by omega, fun j hj hjl => ?_⟩ (by dsimp only; omega)
    by_cases e' : j = i
    · subst e'; exact e
    · exact hno j (by omega) hjl
  · refine h0 fun p hp => ?_
    obtain ⟨j, hj, rfl⟩ := List.mem_iff_getElem.1 hp
    exact hno j (by omega) hj

theorem slr_upd {α : Type} {enc : α → List Value} {m : Nat} {T : TypeId} {v : Value} {bl : Nat} {xs : List α} (H : SlR enc m T h v bl xs) (hu : Upd S h h') (hn : ∀ cs, h[bl]? = some (.cells cs T (0, 0)) → ¬ S bl) : SlR enc m T h' v bl xs := by
  rcases H with H | ⟨cap, rest, a, b, c, d⟩
  · exact .inl H
  · exact .inr ⟨cap, rest, a, hu.get b (hn _ b), c, d⟩

theorem rleast (H : RV h F r l n) (h0 : l = [] → K (I (-1)) h) (h1 : ∀ i (hi : i < l.length), Min l l[i] → K (I i) h) : callS Tryz.prog F_milestoneref08_Heap_least [ptr r] h K := by
  refine callS_of (lk_milestoneref08_Heap_least _ ?_)
  obtain ⟨⟨v, bl, hr, hs, f1, f2⟩, hlow, hid, hsm⟩ := H
  have c1 := hcell1 hr
  unfold sh_milestoneref08_Heap_least
  refine LoopH_intro (fun x h' => h' = h ∧ ∃ i : Nat, x.2.1 = I i ∧ i ≤ l.length ∧ ((x.1 = I (-1) ∧ i = 0) ∨ ∃ b : Nat, x.1 = I b ∧ b < i ∧ ∀ j, j < i → j < l.length → ¬ hlt (gt l j) (gt l b) = true))
    (fun x _ => match x.2.1 with | .int _ k => ((l.length : Int) - k).toNat | _ => 0)
    ⟨rfl, 0, rfl, Nat.zero_le _, .inl ⟨rfl, rfl⟩⟩ ?_
  rintro ⟨x, y, ⟨⟩⟩ hh Z ⟨rfl, i, hx, hi, hb⟩ hZ
  dsimp only at hx hb
  subst hx
  dsimp only at hZ ⊢
  unfold sh_milestoneref08_Heap_least_L1
  simp only [pNil_ptr, pField_ptr, pLoad_ptr, Nat.zero_add, c1]
  refine hs.lenK ?_
  simp only [pBin_lss, ifV_dec]
  have e3 : i < l.length → IntKind.i64.wrap ((i : Int) + 1) = ((i + 1 : Nat) : Int) := fun _ => by rw [w64 (by omega) (by omega)]; rfl
  refine ⟨fun hlt' => ?_, fun hge => ?_⟩
  · have hil : i < l.length := by omega
    have take : (∀ j, j < i + 1 → j < l.length → ¬ hlt (gt l j) (gt l i) = true) → sh_milestoneref08_Heap_least_k2 Tryz.prog (I i) (fun a0 a1 hz => Z (a0, (a1, ())) hz) hh := by
      intro ht
      unfold sh_milestoneref08_Heap_least_k2 sh_milestoneref08_Heap_least_k3
      rw [pBin_add, e3 hil]
      exact hZ _ _ ⟨rfl, i + 1, rfl, by omega, .inr ⟨i, rfl, by omega, ht⟩⟩ (by dsimp only; omega)
    rcases hb with ⟨rfl, rfl⟩ | ⟨b, rfl, hbi, hmin⟩
    · simp only [pBin_lss, ifV_dec]
      refine ⟨fun _ => take fun j hj hjl => ?_, fun e => by omega⟩
      have : j = 0 := by omega
      subst this
      exact fun e => hlt_asymm e e
    · simp only [pBin_lss, ifV_dec]
      refine ⟨fun e => by omega, fun _ => ?_⟩
      have hbl' : b < l.length := by omega
      have keep : ¬ hlt (gt l i) (gt l b) = true → sh_milestoneref08_Heap_least_k3 Tryz.prog (I i) (fun a0 a1 hz => Z (a0, (a1, ())) hz) (I b) hh := by
        intro hn
        unfold sh_milestoneref08_Heap_least_k3
        rw [pBin_add, e3 hil]
        refine hZ _ _ ⟨rfl, i + 1, rfl, by omega, .inr ⟨b, rfl, by omega, fun j hj hjl => ?_⟩⟩ (by dsimp only; omega)
        by_cases e' : j = i
        · subst e'; exact hn
        · exact hmin j (by omega) hjl
      have take' : hlt (gt l i) (gt l b) = true → sh_milestoneref08_Heap_least_k2 Tryz.prog (I i) (fun a0 a1 hz => Z (a0, (a1, ())) hz) hh := by
        intro hn
        refine take fun j hj hjl => ?_
        by_cases e' : j = i
        · subst e'; exact fun e => hlt_asymm e e
        · exact hlt_lt (hmin j (by omega) hjl) hn
      have ci0 := hs.slot encH_len hil (j := 0) (by omega)
      have ci1 := hs.slot encH_len hil (j := 1) (by omega)
      have cb0 := hs.slot encH_len hbl' (j := 0) (by omega)
      have cb1 := hs.slot encH_len hbl' (j := 1) (by omega)
      rw [show (encH l[i])[0]? = some (I l[i].1) from rfl] at ci0
      rw [show (encH l[i])[1]? = some (I l[i].2) from rfl] at ci1
      rw [show (encH l[b])[0]? = some (I l[b].1) from rfl] at cb0
      rw [show (encH l[b])[1]? = some (I l[b].2) from rfl] at cb1
      rw [← gt_eq hil, ← gt_eq hbl', hlt_iff] at keep take'
      refine hs.idx hil ?_
      simp only [pField_ptr, pLoad_ptr, ci1]
      refine hs.idx hbl' ?_
      simp only [pField_ptr, pLoad_ptr, cb1, pBin_lss, ifV_dec]
      refine ⟨fun e => take' (.inl e), fun e => ?_⟩
      refine hs.idx hil ?_
      simp only [pField_ptr, pLoad_ptr, ci1]
      refine hs.idx hbl' ?_
      simp only [pField_ptr, pLoad_ptr, cb1, pBin_eql, ifV_beq]
      refine ⟨fun e2 => ?_, fun e2 => keep (by omega)⟩
      refine hs.idx hil ?_
      simp only [pField_ptr, pLoad_ptr, ci0]
      refine hs.idx hbl' ?_
      simp only [pField_ptr, pLoad_ptr, cb0, pBin_lss, ifV_dec]
      exact ⟨fun e3 => take' (.inr ⟨e2, e3⟩), fun e3 => keep (by omega)⟩
  · rcases hb with ⟨rfl, rfl⟩ | ⟨b, rfl, hbi, hmin⟩
    · exact h0 (List.eq_nil_of_length_eq_zero (by omega))
    · have hbl' : b < l.length := by omega
      refine h1 b hbl' ⟨List.getElem_mem hbl', fun q hq => ?_⟩
      obtain ⟨j, hj, rfl⟩ := List.mem_iff_getElem.1 hq
      rw [gt_eq hj, gt_eq hbl']
      exact hmin j (by omega) hj

end
end Go.Proofs.YtebjceofpaamjaaGreatDoor

namespace Go.Proofs.YtebjceofpaamjaaGreatDoor
open Go Go.Mh

def QV (h : Heap) (F : Nat → Prop) (r : Nat) (L : List HE) (n : Int) : Prop := ∃ l, RV h F r l n ∧ l.Perm L

section
variable {h h' : Heap} {F G S : Nat → Prop} {r : Nat} {l L : List HE} {n id key : Int} {K : Value → Heap → Prop} {p : HE}

theorem QV.upd (H : QV h F r L n) (hu : Upd S h h') (hd : Disj F S) : QV h' F r L n := by
  obtain ⟨l, H, hp⟩ := H; exact ⟨l, H.upd hu hd, hp⟩
theorem QV.low (H : QV h F r L n) : ∀ b, F b → b < h.size := by obtain ⟨l, H, hp⟩ := H; exact H.low
theorem QV.nodup (H : QV h F r L n) : (L.map (·.1)).Nodup := by obtain ⟨l, H, hp⟩ := H; exact (hp.map _).nodup_iff.1 H.ids

theorem qnew (hK : ∀ h' F r, QV h' F r [] (max n 0) → (∀ b, F b → h.size ≤ b) → Ext h h' → K (ptr r) h') : callS Tryz.prog F_milestoneref08_New [I n] h K :=
  rnew fun h' F r H a b => hK h' F r ⟨[], H, .refl _⟩ a b

theorem qkey (H : QV h F r L n) (h0 : (∀ p ∈ L, p.1 ≠ id) → K (.tuple #[I 0, .bool false]) h) (h1 : ∀ p ∈ L, p.1 = id → K (.tuple #[I p.2, .bool true]) h) : callS Tryz.prog F_milestoneref08_Heap_Key [ptr r, I id] h K := by
  obtain ⟨l, H, hp⟩ := H
  refine callS_of (lk_milestoneref08_Heap_Key _ _ ?_)
  unfold sh_milestoneref08_Heap_Key
  refine rat H (fun i hi e => ?_) fun hno => ?_
  · obtain ⟨⟨v, bl, hr, hs, f1, f2⟩, hlow, hid, hsm⟩ := H
    have c1 := hcell1 hr
    have ck := hs.slot encH_len hi (j := 1) (by omega)
    rw [show (encH l[i])[1]? = some (I l[i].2) from rfl] at ck
    simp only [pBin_lss, ifV_dec, pNil_ptr, pField_ptr, pLoad_ptr, Nat.zero_add, c1]
    refine ⟨fun e => by omega, fun _ => hs.idx hi ?_⟩
    simp only [pField_ptr, pLoad_ptr, ck]
    exact h1 _ (hp.mem_iff.1 (List.getElem_mem hi)) e
  · simp only [pBin_lss]
    rw [show decide ((-1 : Int) < 0) = true from rfl]
    exact h0 fun p hm => hno p (hp.mem_iff.2 hm)

/-- The new row put in. -/
theorem rput {v v' : Value} {bl' : Nat} {l' : List HE} {h2 : Heap} (hr : h2[r]? = some (.cells #[I n, v] T_milestoneref08_Heap (0, 0))) (hs : SlR encH 2 T_milestoneref08_Held h2 v' bl' l') (fr : F r) (hb : F bl' ∨ h.size ≤ bl') (hbl : bl' < h2.size)
    (hlow : ∀ b, F b → b < h.size) (u : Upd F h h2) (hid : (l'.map (·.1)).Nodup) (hsm : l'.length < 2 ^ 40) {KH : Value → Heap → Prop}
    (hK : ∀ h3 F', RV h3 F' r l' n → Grow h F F' → Upd F h h3 → Upd (fun b => b = r) h2 h3 → KH undef h3) : pStore 1 (.pointer (some ⟨r, 1, none⟩)) v' h2 KH := by
  have hv : v'.cells.size = 1 ∧ (∀ u ∈ v'.cells.toList, Mh.plainCell u = true) ∧ v'.cells.toList = [v'] := by
    rcases hs.len with ⟨_, _, rfl⟩; simp
  refine pStore_of rfl hr hv.1 (by rw [hv.1]; simp) hv.2.1 ?_
  have ec : over [I n, v] 1 v'.cells.toList = [I n, v'] := by rw [hv.2.2]; rfl
  rw [ec]
  have u4 : Upd (fun b => b = r) h2 (upd h2 r (.cells [I n, v'].toArray T_milestoneref08_Heap (0, 0))) := Upd.upd _ _ rfl
  refine hK _ (fun b => F b ∨ b = bl') ⟨⟨v', bl', upd_self' hr, slr_upd hs u4 (fun cs hcs e => ?_), .inl fr, .inr rfl⟩, ?_, hid, hsm⟩ ?_ (u.trans u4 fun b hb _ => by subst hb; exact fr) u4
  · subst e; rw [hr] at hcs; simp at hcs; exact absurd hcs.2 (by decide)
  · rintro b (hb' | rfl)
    · exact Nat.lt_of_lt_of_le (hlow b hb') (Nat.le_trans u.size u4.size)
    · exact Nat.lt_of_lt_of_le hbl u4.size
  · rintro b (hb' | rfl)
    · exact .inl hb'
    · exact hb

theorem qpush (H : QV h F r L n) (hsm : L.length + 1 < 2 ^ 40)
    (h2 : ((∃ p ∈ L, p.1 = id) ∨ id < 0 ∨ n ≤ id) → K (I 2) h)
    (h0 : (∀ p ∈ L, p.1 ≠ id) → 0 ≤ id → id < n → ∀ h' F', QV h' F' r ((id, key) :: L) n → Grow h F F' → Upd F h h' → K (I 0) h') :
    callS Tryz.prog F_milestoneref08_Heap_Push [ptr r, I id, I key] h K := by
  obtain ⟨l, H, hp⟩ := H
  refine callS_of (lk_milestoneref08_Heap_Push _ _ _ ?_)
  unfold sh_milestoneref08_Heap_Push
  have HR := H
  obtain ⟨⟨v, bl, hr, hs, f1, f2⟩, hlow, hid, hsm'⟩ := H
  have c0 := hcell0 hr
  have c1 := hcell1 hr
  simp only [pBin_lss, ifV_dec, pNil_ptr, pField_ptr, pLoad_ptr, Nat.add_zero, Nat.zero_add, c0, c1, pBin_geq]
  refine ⟨fun e => h2 (.inr (.inl e)), fun hlt => ⟨fun e => h2 (.inr (.inr e)), fun hge => ?_⟩⟩
  refine rat HR (fun i hi e => ?_) fun hno => ?_
  · simp only [pBin_geq, ifV_dec]
    exact ⟨fun _ => h2 (.inl ⟨_, hp.mem_iff.1 (List.getElem_mem hi), e⟩), fun e => by omega⟩
  · simp only [pBin_geq]
    rw [show decide ((0 : Int) ≤ -1) = false from rfl]
    simp only [ifV_false, c1]
    refine ⟨by simp [sizesOk], ?_⟩
    refine ⟨by simp [sizesOk, spliceAll, zerosL, Value.cells], ?_⟩
    have hnew : (h.push (.cells (spliceAll (zerosL [Value.int .i64 0, Value.int .i64 0] 1) [(0, 2, .agg (spliceAll [Value.int .i64 0, Value.int .i64 0] [(0, 1, I id), (1, 1, I key)]).toArray)]).toArray T_milestoneref08_Held (0, 0)))[h.size]? =
      some (.cells #[I id, I key] T_milestoneref08_Held (0, 0)) := by rw [push_new]; rfl
    have u2 := Upd.push (fun _ => False) h (.cells (spliceAll (zerosL [Value.int .i64 0, Value.int .i64 0] 1) [(0, 2, .agg (spliceAll [Value.int .i64 0, Value.int .i64 0] [(0, 1, I id), (1, 1, I key)]).toArray)]).toArray T_milestoneref08_Held (0, 0))
    have hsz2 : (h.push (.cells (spliceAll (zerosL [Value.int .i64 0, Value.int .i64 0] 1) [(0, 2, .agg (spliceAll [Value.int .i64 0, Value.int .i64 0] [(0, 1, I id), (1, 1, I key)]).toArray)]).toArray T_milestoneref08_Held (0, 0))).size = h.size + 1 := push_size
    generalize (h.push (.cells (spliceAll (zerosL [Value.int .i64 0, Value.int .i64 0] 1) [(0, 2, .agg (spliceAll [Value.int .i64 0, Value.int .i64 0] [(0, 1, I id), (1, 1, I key)]).toArray)]).toArray T_milestoneref08_Held (0, 0))) = h2' at hnew u2 hsz2
    have hll := hp.length_eq
    refine append_of (ys := [(id, key)]) encH_len encH_plain rfl (hs.upd u2 (fun f => f)) rfl ?_ (by decide) (by simp; omega) fun v' bl' h3 hs3 hbl' u3 hlt3 => ?_
    · simp only [cellsOfSl, Nat.one_mul]
      rw [cellsAt_of (i := 0) (cs := [I id, I key]) hnew _ 0 (by simp)]; rfl
    have hr3 : h3[r]? = _ := u3.get (u2.get hr (fun f => f)) (by
      rintro ⟨rfl, cs, hcs⟩
      rw [u2.get hr (fun f => f)] at hcs; simp at hcs; exact absurd hcs.2 (by decide))
    refine rput (h := h) (F := F) hr3 hs3 f1 ?_ (hlt3 (by have := hlow _ f2; omega)) hlow ((u2.mono fun _ hf _ => hf.elim).trans u3 fun b hb _ => hb.1 ▸ f2) ?_ (by simp; omega) fun h5 F' H5 g5 u5 _ => ?_
    · rcases hbl' with e | e
      · exact .inl (e ▸ f2)
      · exact .inr (by omega)
    · rw [List.map_append, List.nodup_append]
      refine ⟨hid, by simp, ?_⟩
      intro a ha b hb
      simp at hb; subst hb
      obtain ⟨p, hp', rfl⟩ := List.mem_map.1 ha
      exact hno p hp'
    · exact h0 (fun p hm => hno p (hp.mem_iff.2 hm)) (by omega) (by omega) h5 F' ⟨_, H5, (List.perm_append_comm (l₁ := l) (l₂ := [(id, key)])).trans (hp.cons _)⟩ g5 u5

theorem qlower (H : QV h F r L n)
    (h2 : (id < 0 ∨ n ≤ id) → K (I 2) h) (h20 : 0 ≤ id → id < n → (∀ p ∈ L, p.1 ≠ id) → K (I 20) h) (h2' : ∀ p ∈ L, 0 ≤ id → id < n → p.1 = id → p.2 < key → K (I 2) h)
    (h0 : ∀ p ∈ L, p.1 = id → 0 ≤ id → id < n → ¬ p.2 < key → ∀ h' F', QV h' F' r ((id, key) :: L.erase p) n → Grow h F F' → Upd F h h' → K (I 0) h') :
    callS Tryz.prog F_milestoneref08_Heap_Lower [ptr r, I id, I key] h K := by
  obtain ⟨l, H, hp⟩ := H
  refine callS_of (lk_milestoneref08_Heap_Lower _ _ _ ?_)
  unfold sh_milestoneref08_Heap_Lower
  have HR := H
  obtain ⟨⟨v, bl, hr, hs, f1, f2⟩, hlow, hid, hsm'⟩ := H
  have c0 := hcell0 hr
  have c1 := hcell1 hr
  simp only [pBin_lss, ifV_dec, pNil_ptr, pField_ptr, pLoad_ptr, Nat.add_zero, Nat.zero_add, c0, c1, pBin_geq]
  refine ⟨fun e => h2 (.inl e), fun hlt => ⟨fun e => h2 (.inr e), fun hge => ?_⟩⟩
  refine rat HR (fun i hi e => ?_) fun hno => ?_
  · simp only [pBin_lss, ifV_dec]
    refine ⟨fun e => by omega, fun _ => ?_⟩
    have hm := hp.mem_iff.1 (List.getElem_mem hi)
    have ck := hs.slot encH_len hi (j := 1) (by omega)
    rw [show (encH l[i])[1]? = some (I l[i].2) from rfl] at ck
    simp only [c1]
    refine hs.idx hi ?_
    simp only [pField_ptr, pLoad_ptr, ck, pBin_lss, ifV_dec]
    refine ⟨fun hk => h2' _ hm (by omega) (by omega) e hk, fun hk => ?_⟩
    refine hs.idx hi ?_
    obtain ⟨cap, rest, rfl, hb, hrest, hcap⟩ := hs.full (by omega)
    have hlen := row_length encH_len l
    simp only [pField_ptr]
    refine pStore_of rfl hb rfl (by simp [hlen]; omega) (by simp) ?_
    have eo : over (Mh.row encH l ++ rest) (i * 2 + 1) (I key).cells.toList = Mh.row encH (l.set i (l[i].1, key)) ++ rest := by
      have o := row_over encH_len hi (l[i].1, key) rest
      rw [← o]
      have hlt' : i * 2 < (Mh.row encH l ++ rest).length := by simp [hlen]; omega
      have hg := row_get encH_len hi (j := 0) (by omega) rest
      rw [Nat.add_zero, List.getElem?_eq_getElem hlt'] at hg
      have ht : (Mh.row encH l ++ rest).take (i * 2 + 1) = (Mh.row encH l ++ rest).take (i * 2) ++ [I l[i].1] := by
        rw [List.take_succ_eq_append_getElem hlt']
        congr 2
        simpa [encH] using hg
      unfold over
      rw [ht]
      simp [encH]
    rw [eo]
    have hne : bl ≠ r := by rintro rfl; rw [hr] at hb; simp at hb; exact absurd hb.2 (by decide)
    have u1 : Upd F h (upd h bl (.cells (Mh.row encH (l.set i (l[i].1, key)) ++ rest).toArray T_milestoneref08_Held (0, 0))) := Upd.upd _ _ f2
    have hl1 : (l.set i (l[i].1, key)).length = l.length := List.length_set
    refine h0 _ hm e (by omega) (by omega) hk _ F ⟨l.set i (l[i].1, key), ⟨⟨_, bl, (upd_ne hne).trans hr, .inr ⟨cap, rest, by rw [hl1], upd_self' hb, by rw [hl1]; exact hrest, by rw [hl1]; exact hcap⟩, f1, f2⟩,
      fun b hb => Nat.lt_of_lt_of_le (hlow b hb) u1.size, by rw [ids_set hi]; exact hid, by rw [hl1]; exact hsm'⟩, ?_⟩ (fun b hb => .inl hb) u1
    refine (set_perm (l := l) (i := i) (a := (l[i].1, key)) hi).trans ?_
    rw [e]
    exact (hp.erase l[i]).cons _
  · simp only [pBin_lss]
    rw [show decide ((-1 : Int) < 0) = true from rfl]
    simp only [ifV_true]
    exact h20 (by omega) (by omega) fun p hm => hno p (hp.mem_iff.2 hm)

theorem erase_split {i : Nat} (hi : i < l.length) : (l.take i ++ l.drop (i + 1)).Perm (l.erase l[i]) := by
  have h1 : l.Perm (l[i] :: (l.take i ++ l.drop (i + 1))) := by
    have : l = l.take i ++ l[i] :: l.drop (i + 1) := by rw [← List.drop_eq_getElem_cons hi, List.take_append_drop]
    exact (List.Perm.of_eq this).trans List.perm_middle
  have := h1.erase l[i]
  simp only [List.erase_cons_head] at this
  exact this.symm

theorem qpop (H : QV h F r L n) (h0 : L = [] → K (.tuple #[I 0, I 0, .bool false]) h)
    (h1 : ∀ p, Min L p → ∀ h' F', QV h' F' r (L.erase p) n → Grow h F F' → Upd F h h' → K (.tuple #[I p.1, I p.2, .bool true]) h') : callS Tryz.prog F_milestoneref08_Heap_Pop [ptr r] h K := by
  obtain ⟨l, H, hp⟩ := H
  refine callS_of (lk_milestoneref08_Heap_Pop _ ?_)
  unfold sh_milestoneref08_Heap_Pop
  refine rleast H (fun e => ?_) fun i hi hm => ?_
  · simp only [pBin_lss]
    rw [show decide ((-1 : Int) < 0) = true from rfl]
    exact h0 (by subst e; exact hp.nil_eq.symm)
  · obtain ⟨⟨v, bl, hr, hs, f1, f2⟩, hlow, hid, hsm⟩ := H
    have c1 := hcell1 hr
    have ck0 := hs.slot encH_len hi (j := 0) (by omega)
    have ck1 := hs.slot encH_len hi (j := 1) (by omega)
    rw [show (encH l[i])[0]? = some (I l[i].1) from rfl] at ck0
    rw [show (encH l[i])[1]? = some (I l[i].2) from rfl] at ck1
    simp only [pBin_lss, ifV_dec, pNil_ptr, pField_ptr, pLoad_ptr, Nat.zero_add, c1]
    refine ⟨fun e => by omega, fun _ => hs.idx hi ?_⟩
    rw [Nat.add_zero] at ck0
    have ca : cellsAt h bl (i * 2) 2 = some [I l[i].1, I l[i].2] := by simp [cellsAt, ck0, ck1]
    simp only [pLoadN_ptr, ca]
    refine pBox_of ?_
    refine pStore_of rfl push_new rfl (by simp) (by simp [Mh.plainCell]) ?_
    have x1 : Ext h (upd (h.push (.cells (Value.agg #[.int .i64 0, .int .i64 0]).cells T_milestoneref08_Held (0, 0))) h.size (.cells (over [Value.int .i64 0, Value.int .i64 0] 0 (Value.agg [I l[i].1, I l[i].2].toArray).cells.toList).toArray T_milestoneref08_Held (0, 0))) :=
      ((Upd.push _ _ _).trans (Upd.upd (S := fun b => b = h.size) _ _ rfl) (fun b hb hlt => by omega))
    have hf1 : (upd (h.push (.cells (Value.agg #[.int .i64 0, .int .i64 0]).cells T_milestoneref08_Held (0, 0))) h.size (.cells (over [Value.int .i64 0, Value.int .i64 0] 0 (Value.agg [I l[i].1, I l[i].2].toArray).cells.toList).toArray T_milestoneref08_Held (0, 0)))[h.size]? =
      some (.cells #[I l[i].1, I l[i].2] T_milestoneref08_Held (0, 0)) := upd_self' push_new
    have hsz1 := get_lt hf1
    generalize (upd (h.push (.cells (Value.agg #[.int .i64 0, .int .i64 0]).cells T_milestoneref08_Held (0, 0))) h.size (.cells (over [Value.int .i64 0, Value.int .i64 0] 0 (Value.agg [I l[i].1, I l[i].2].toArray).cells.toList).toArray T_milestoneref08_Held (0, 0))) = hA at x1 hf1 hsz1
    have hrA := x1.get hr
    have cA := hcell1 hrA
    have hsA := hs.upd x1 (fun f => f)
    simp only [cA]
    refine hsA.view.sub (i := 0) (j := i) encH_len rfl rfl (by omega) (by omega) fun va hva => ?_
    have e3 : IntKind.i64.wrap ((i : Int) + 1) = ((i + 1 : Nat) : Int) := by rw [w64 (by omega) (by omega)]; rfl
    simp only [pBin_add, e3]
    refine hsA.view.sub (i := i + 1) (j := l.length) encH_len rfl rfl (by omega) (by omega) fun vb hvb => ?_
    rw [List.drop_zero, Nat.sub_zero] at hva
    have hdl : (l.drop (i + 1)).take (l.length - (i + 1)) = l.drop (i + 1) := by rw [List.take_of_length_le]; simp
    rw [hdl] at hvb
    refine ⟨by simp [sizesOk], ?_⟩
    have hE : (hA.push (.cells (spliceAll (zerosL [Value.int .i64 0, Value.int .i64 0] 0) []).toArray T_milestoneref08_Held (0, 0)))[hA.size]? = some (.cells #[] T_milestoneref08_Held (0, 0)) := by rw [push_new]; rfl
    have xE := Upd.push (fun _ => False) hA (.cells (spliceAll (zerosL [Value.int .i64 0, Value.int .i64 0] 0) []).toArray T_milestoneref08_Held (0, 0))
    have hszE : (hA.push (.cells (spliceAll (zerosL [Value.int .i64 0, Value.int .i64 0] 0) []).toArray T_milestoneref08_Held (0, 0))).size = hA.size + 1 := push_size
    generalize (hA.push (.cells (spliceAll (zerosL [Value.int .i64 0, Value.int .i64 0] 0) []).toArray T_milestoneref08_Held (0, 0))) = hB at hE xE hszE
    have hse : SlR encH 2 T_milestoneref08_Held hB (.slice (some ⟨hA.size, 0, none⟩) 0 0) hA.size ([] : List HE) := .inr ⟨0, [], rfl, by rw [hE]; rfl, by simp, by simp⟩
    have hvaB := hva.upd xE (fun f => f)
    have hvbB := hvb.upd xE (fun f => f)
    obtain ⟨ba, capa, rfl, hca⟩ := hvaB.cells encH_len
    have hrB := xE.get hrA (fun f => f)
    have hfB := xE.get hf1 (fun f => f)
    have hrlt := hlow _ f1
    have hblt := hlow _ f2
    refine append_of (ys := l.take i) encH_len encH_plain rfl hse rfl hca (by decide) (by simp; omega) fun v1 b1 hC hs1 hb1 u1 hl1 => ?_
    have hb1' : hA.size ≤ b1 := by rcases hb1 with e | e <;> omega
    have hrC := u1.get hrB (fun e => by omega)
    have hfC := u1.get hfB (fun e => by omega)
    have hvbC := hvbB.upd u1 (fun e => by omega)
    have cC := hcell1 hrC
    simp only [cC, true_and]
    obtain ⟨bb, capb, rfl, hcb⟩ := hvbC.cells encH_len
    refine append_of (ys := l.drop (i + 1)) encH_len encH_plain rfl hs1 rfl hcb (by decide) (by simp; omega) fun v2 b2 hD hs2 hb2 u2 hl2 => ?_
    have hCs := u1.size
    have hb2' : hA.size ≤ b2 := by rcases hb2 with e | e <;> omega
    have hrD := u2.get hrC (fun e => by omega)
    have hfD := u2.get hfC (fun e => by omega)
    have uD : Upd F h hD := (((x1.mono (S' := F) fun _ hf _ => hf.elim).trans xE fun _ hf _ => hf.elim).trans u1 fun b hb hlt => by omega).trans u2 fun b hb hlt => by omega
    rw [List.nil_append] at hs2
    have hperm := erase_split hi
    refine rput (h := h) (F := F) hrD hs2 f1 (.inr (by omega)) (hl2 (hl1 (by omega))) hlow uD ?_ ?_ fun h5 F' H5 g5 u5 ur => ?_
    · rw [(hperm.map _).nodup_iff]
      exact (List.Sublist.map _ List.erase_sublist).nodup hid
    · rw [hperm.length_eq, List.length_erase_of_mem (List.getElem_mem hi)]; omega
    · have hf5 := ur.get hfD (fun e => by omega)
      have k0 := hcell0 hf5
      have k1 := hcell1 hf5
      simp only [pField_ptr, pLoad_ptr, Nat.add_zero, Nat.zero_add, k0, k1]
      exact h1 _ (hm.perm hp) h5 F' ⟨_, H5, hperm.trans (hp.erase _)⟩ g5 u5

end
end Go.Proofs.YtebjceofpaamjaaGreatDoor

namespace Go.Proofs.YtebjceofpaamjaaGreatDoor
open Go Go.Mh
set_option linter.unusedVariables false

/-! ### The document's heap as a part of memory -/

theorem RV.st {h h' : Heap} {F : Nat → Prop} {r : Nat} {l : List HE} {n : Int} (hs : ∀ b, F b → h'[b]? = h[b]?)
    (H : (∃ v bl, h[r]? = some (.cells #[I n, v] T_milestoneref08_Heap (0, 0)) ∧ SlR encH 2 T_milestoneref08_Held h v bl l ∧ F r ∧ F bl)) :
    (∃ v bl, h'[r]? = some (.cells #[I n, v] T_milestoneref08_Heap (0, 0)) ∧ SlR encH 2 T_milestoneref08_Held h' v bl l ∧ F r ∧ F bl) := by
  obtain ⟨v, bl, a, b, f1, f2⟩ := H
  refine ⟨v, bl, (hs _ f1).trans a, ?_, f1, f2⟩
  rcases b with b | ⟨c, rest, e, b, d⟩
  · exact .inl b
  · exact .inr ⟨c, rest, e, (hs _ f2).trans b, d⟩

def qR (F : Nat → Prop) (r : Nat) (H : List HE) (n : Nat) : Res :=
  ⟨F, fun h => ∃ l, (∃ v bl, h[r]? = some (.cells #[I n, v] T_milestoneref08_Heap (0, 0)) ∧ SlR encH 2 T_milestoneref08_Held h v bl l ∧ F r ∧ F bl) ∧ (l.map fun p : HE => p.1).Nodup ∧ l.length < 2 ^ 40 ∧ l.Perm H,
   fun hs ⟨l, R, a, b, c⟩ => ⟨l, RV.st hs R, a, b, c⟩⟩

section
variable {h0 h : Heap} {L : List Res} {F : Nat → Prop} {r n : Nat} {H : List HE} {id key : Int} {K : Value → Heap → Prop}

theorem QV.toR (P : QV h F r H n) : (qR F r H n).Q h := by
  obtain ⟨l, P, hp⟩ := P; exact ⟨l, P.rep, P.ids, P.small, hp⟩

theorem own_qv (o : Own h0 h L) (i : Nat) (hi : L[i]? = some (qR F r H n)) : QV h F r H n := by
  obtain ⟨l, a, b, c, d⟩ := o.get i hi
  exact ⟨l, ⟨a, fun x hx => ((o.q hi).2 x hx).2, b, c⟩, d⟩

theorem own_q {h' : Heap} {F' : Nat → Prop} {H' : List HE} (o : Own h0 h L) (i : Nat) (hi : L[i]? = some (qR F r H n)) (P : QV h' F' r H' n) (g : Grow h F F') (u : Upd F h h') : Own h0 h' (L.set i (qR F' r H' n)) :=
  o.set i hi u P.toR fun b hb => ⟨g b hb, P.low b hb⟩

theorem qo_new (o : Own h0 h L) (hK : ∀ F r h', Own h0 h' (qR F r [] n :: L) → K (ptr r) h') : callS Tryz.prog F_milestoneref08_New [I n] h K := by
  refine qnew fun h' F r P hF x => hK F r h' (o.cons x ?_ fun b hb => ⟨hF b hb, P.low b hb⟩)
  rw [show max (n : Int) 0 = n by omega] at P
  exact P.toR

theorem qo_push (o : Own h0 h L) (i : Nat) (hi : L[i]? = some (qR F r H n)) (hsm : H.length + 1 < 2 ^ 40) {v : Nat} (hno : ∀ p ∈ H, p.1 ≠ v) (hv : v < n)
    (hK : ∀ F' h', Own h0 h' (L.set i (qR F' r (((v : Int), key) :: H) n)) → K (I 0) h') : callS Tryz.prog F_milestoneref08_Heap_Push [ptr r, I v, I key] h K :=
  qpush (own_qv o i hi) hsm (fun h => by rcases h with ⟨p, hp, e⟩ | h | h
                                         · exact absurd e (hno p hp)
                                         · omega
                                         · omega) fun _ _ _ h' F' P g u => hK F' h' (own_q o i hi P g u)

theorem qo_lower (o : Own h0 h L) (i : Nat) (hi : L[i]? = some (qR F r H n)) {v : Nat} {was : Int} (hm : ((v : Int), was) ∈ H) (hv : v < n) (hk : ¬ was < key)
    (hK : ∀ F' h', Own h0 h' (L.set i (qR F' r (((v : Int), key) :: H.erase ((v : Int), was)) n)) → K (I 0) h') : callS Tryz.prog F_milestoneref08_Heap_Lower [ptr r, I v, I key] h K := by
  have P := own_qv o i hi
  refine qlower P (fun h => by omega) (fun _ _ h => absurd rfl (h _ hm)) (fun p hp _ _ e hlt => ?_) fun p hp e _ _ _ h' F' P' g u => ?_
  · have := id_uniq P.nodup hp hm e
    subst this
    exact absurd hlt hk
  · have := id_uniq P.nodup hp hm e
    subst this
    exact hK F' h' (own_q o i hi P' g u)

theorem qo_key (o : Own h0 h L) (i : Nat) (hi : L[i]? = some (qR F r H n)) {v : Nat}
    (hK : K (.tuple #[I ((lookH H v).getD 0), .bool (lookH H v).isSome]) h) : callS Tryz.prog F_milestoneref08_Heap_Key [ptr r, I v] h K := by
  have P := own_qv o i hi
  refine qkey P (fun hno => ?_) fun p hp e => ?_
  · have : lookH H v = none := lookH_none.2 hno
    rw [this] at hK; exact hK
  · cases hl : lookH H v with
    | none => exact absurd e (lookH_none.1 hl p hp)
    | some k =>
      have hm := lookH_some hl
      have := id_uniq P.nodup hp hm e
      subst this
      rw [hl] at hK; exact hK

theorem qo_pop (o : Own h0 h L) (i : Nat) (hi : L[i]? = some (qR F r H n)) (hne : H ≠ [])
    (hK : ∀ p, least H = some p → ∀ F' h', Own h0 h' (L.set i (qR F' r (H.erase p) n)) → K (.tuple #[I p.1, I p.2, .bool true]) h') : callS Tryz.prog F_milestoneref08_Heap_Pop [ptr r] h K := by
  refine qpop (own_qv o i hi) (fun e => absurd e hne) fun p hm h' F' P g u => hK p ?_ F' h' (own_q o i hi P g u)
  cases hl : least H with
  | none => exact absurd (least_none.1 hl) hne
  | some q =>
    have h1 := (min_iff.1 (least_min hl))
    have h2 := min_iff.1 hm
    have a := h1.2 p h2.1
    have b := h2.2 q h1.1
    rw [hl_iff] at a b
    rw [show q = p from Prod.ext (by omega) (by omega)]

theorem qo_len (o : Own h0 h L) (i : Nat) (hi : L[i]? = some (qR F r H n)) {K : Value → Prop} (hK : K (I H.length)) : pNil (ptr r) fun t52 => pField 1 t52 fun t53 => pLoad h t53 fun t54 => pLen t54 K := by
  obtain ⟨l, ⟨⟨v, bl, hr, hs, _⟩, _⟩, hp⟩ := own_qv o i hi
  have c1 := hcell1 hr
  simp only [pNil_ptr, pField_ptr, pLoad_ptr, Nat.zero_add, c1]
  refine hs.lenK ?_
  rw [hp.length_eq]; exact hK

end
end Go.Proofs.YtebjceofpaamjaaGreatDoor

namespace Go.Proofs.YtebjceofpaamjaaGreatDoor
open Go Go.Mh
set_option linter.unusedVariables false

section
variable {h0 h : Heap} {L : List Res} {K : Value → Heap → Prop} {g : G} {v : Value}

theorem outsP_take {q : A → Bool} {l : List A} {i : Nat} (hi : i < l.length) : outsP q (l.take (i + 1)) 0 = outsP q (l.take i) 0 ++ (if q l[i] then [i] else []) := by
  rw [List.take_succ_eq_append_getElem hi, outsP_append]
  simp only [outsP, List.length_take, Nat.zero_add, Nat.min_eq_left (Nat.le_of_lt hi)]

/-- The arcs that go out of a node. -/
theorem rout_ok {u : Nat} (o : Own h0 h L) (hR : g.Right) (H : RawV h v g) (hK : ∀ v' h', Own h0 h' (slR encN 1 T_int v' (g.out u) :: L) → K v' h') : callS Tryz.prog F_milestoneref07_Out [v, I u] h K := by
  obtain ⟨vx, vy, va, rfl, H⟩ := H
  refine callS_of (lk_milestoneref07_Out _ _ ?_)
  unfold sh_milestoneref07_Out
  have hmany := hR.many
  have hv : ∀ {h' : Heap}, Ext h h' → Vw encA 3 h' va g.arcs := fun x => H.2.2.more x
  refine (Own.start h).box fun r h1 o1 => ?_
  refine LoopH_count g.arcs.length (fun i x h' => x.2.1 = I i ∧ Own h h' [slR encN 1 T_int x.1 (outsP (fun a => a.f == u) (g.arcs.take i) 0), cellR r [I g.n, vx, vy, va] T_api_Raw]) ⟨rfl, o1.nilS⟩ ?_
  clear o1
  rintro i ⟨vl, x, ⟨⟩⟩ h' Z hi ⟨hx, o'⟩ hZ
  dsimp only at hx hZ o' ⊢
  subst hx
  unfold sh_milestoneref07_Out_L1
  simp only [pField_ptr]
  refine o'.load 1 rfl rfl ((hv o'.ext).len ?_)
  simp only [pBin_lss, ifV_dec]
  refine ⟨fun hlt => ?_, fun hge => ?_⟩
  · have hlt : i < g.arcs.length := by omega
    have ht := outsP_take (q := fun a => a.f == u) hlt
    have hol : (outsP (fun a => a.f == u) (g.arcs.take i) 0).length ≤ g.arcs.length := by
      rw [outsP_length]; exact Nat.le_trans List.countP_le_length (by simp; omega)
    refine o'.load 1 rfl rfl ((hv o'.ext).atF (j := 0) encA_len hlt (by decide) rfl ?_)
    simp only [pBin_eql, ifV_beq]
    refine ⟨fun e => ?_, fun e => ?_⟩
    · have e : (g.arcs[i]).f = u := by omega
      refine o'.app1 0 i rfl rfl (sizesOk_of rfl) encN_len encN_plain rfl (by decide) (by omega) fun v' h2 o2 => ?_
      unfold sh_milestoneref07_Out_k2
      rw [pBin_add, wI i (by omega)]
      refine hZ (v', I (i + 1 : Nat), ()) h2 hlt ⟨rfl, ?_⟩
      rw [ht, e, if_pos (by simp)]
      exact o2
    · have e : ¬ (g.arcs[i]).f = u := by omega
      unfold sh_milestoneref07_Out_k2
      rw [pBin_add, wI i (by omega)]
      refine hZ (vl, I (i + 1 : Nat), ()) h' hlt ⟨rfl, ?_⟩
      rw [ht, if_neg (by simpa using e), List.append_nil]
      exact o'
  · have : i = g.arcs.length := by omega
    subst this
    rw [List.take_length] at o'
    exact hK vl h' (o.frame (o'.sel [0] (by decide)))

/-- Are both rows alike? -/
theorem rints_ok {α : Type} {enc : α → List Value} {e : α → Int} {xs : List α} {va vb : Value} (he : ∀ a, enc a = [I (e a)]) (Ha : Vw enc 1 h va xs) (Hb : Vw enc 1 h vb xs) (hl : xs.length < 2 ^ 40) (hK : K (.bool true) h) : callS Tryz.prog F_milestoneref07_Ints [va, vb] h K := by
  refine callS_of (lk_milestoneref07_Ints _ _ ?_)
  unfold sh_milestoneref07_Ints
  refine Ha.len (Hb.len ?_)
  rw [pBin_neq, bne_self_eq_false, ifV_false]
  refine LoopH_count xs.length (fun i x h' => x.1 = I i ∧ h' = h) ⟨rfl, rfl⟩ ?_
  rintro i ⟨x, ⟨⟩⟩ h' Z hi ⟨hx, rfl⟩ hZ
  dsimp only at hx hZ ⊢
  subst hx
  unfold sh_milestoneref07_Ints_L1
  refine Ha.len ?_
  simp only [pBin_lss, ifV_dec]
  refine ⟨fun hlt => ?_, fun hge => hK⟩
  have hlt : i < xs.length := by omega
  refine Ha.at1 (e := fun a => I (e a)) he hlt (Hb.at1 (e := fun a => I (e a)) he hlt ?_)
  rw [pBin_neq, bne_self_eq_false, ifV_false, pBin_add, wI i (by omega)]
  exact hZ (I (i + 1 : Nat), ()) _ hlt ⟨rfl, rfl⟩

end
end Go.Proofs.YtebjceofpaamjaaGreatDoor

namespace Go.Proofs.YtebjceofpaamjaaGreatDoor
open Go Go.Mh
set_option linter.unusedVariables false

section
variable {h0 h : Heap} {L : List Res} {K : Value → Heap → Prop} {g : G} {v : Value}

set_option maxHeartbeats 4000000 in
theorem rcopy_ok (oL : Own h0 h L) (hR : g.Right) (H : RawV h v g) (hK : ∀ vx vy va h', Own h0 h' (xR vx g.X :: xR vy g.Y :: aR va g.arcs :: L) → K (.agg #[I g.n, vx, vy, va]) h') : callS Tryz.prog F_milestoneref07_Copy [v] h K := by
  obtain ⟨vx, vy, va, rfl, H⟩ := H
  refine callS_of (lk_milestoneref07_Copy _ ?_)
  unfold sh_milestoneref07_Copy
  have hx := hR.x
  have hy := hR.y
  have hm := hR.most
  have hmany := hR.many
  refine (Own.start h).box fun g1 h1 og => og.box fun t2 h2 o => ?_
  refine cutP_of (fun _ h' => ∃ vx' vy' va', Own h h' [cellR t2 [I g.n, vx', vy', va'] T_api_Raw, xR vx' g.X, xR vy' g.Y, aR va' g.arcs]) (fun J hJ => ?_) ?_
  · simp only [pField_ptr]
    have v1 := fun h' (x : Ext h h') => H.1.more x
    have v2 := fun h' (x : Ext h h') => H.2.1.more x
    have v3 := fun h' (x : Ext h h') => H.2.2.more x
    refine o.load 1 rfl rfl (o.load 1 rfl rfl (o.load 1 rfl rfl (o.load 1 rfl rfl ?_)))
    have fin : ∀ {h' : Heap} {vx' vy' va' : Value} (is : List Nat) {L' : List Res}, Own h h' L' → is.Nodup → (is.map fun i => L'.getD i nilR) = [cellR t2 [I g.n, vx', vy', va'] T_api_Raw, xR vx' g.X, xR vy' g.Y, aR va' g.arcs] → J () h' := by
      intro h' vx' vy' va' is L' o hn he
      exact hJ _ _ ⟨vx', vy', va', he ▸ o.sel is hn⟩
    clear hJ
    repeat' (first
      | rfl
      | refine o.load 1 rfl rfl ?_
      | refine o.load 2 rfl rfl ?_
      | refine o.load 3 rfl rfl ?_
      | refine o.load 4 rfl rfl ?_
      | refine o.build (enc := encI) (n := 1) (T := T_int64) ([] : List Int) rfl (sizesOk_of rfl) rfl fun w hh o => ?_
      | refine o.build (enc := encA) (n := 3) (T := T_api_Arc) ([] : List A) rfl (sizesOk_of rfl) rfl fun w hh o => ?_
      | refine o.app 0 rfl encI_len encI_plain rfl (v1 _ o.ext) (by decide) (by simp; omega) fun w hh o => ?_
      | refine o.app 1 rfl encI_len encI_plain rfl (v1 _ o.ext) (by decide) (by simp; omega) fun w hh o => ?_
      | refine o.app 2 rfl encI_len encI_plain rfl (v1 _ o.ext) (by decide) (by simp; omega) fun w hh o => ?_
      | refine o.app 0 rfl encI_len encI_plain rfl (v2 _ o.ext) (by decide) (by simp; omega) fun w hh o => ?_
      | refine o.app 1 rfl encI_len encI_plain rfl (v2 _ o.ext) (by decide) (by simp; omega) fun w hh o => ?_
      | refine o.app 2 rfl encI_len encI_plain rfl (v2 _ o.ext) (by decide) (by simp; omega) fun w hh o => ?_
      | refine o.app 0 rfl encA_len encA_plain rfl (v3 _ o.ext) (by decide) (by simp; omega) fun w hh o => ?_
      | refine o.app 1 rfl encA_len encA_plain rfl (v3 _ o.ext) (by decide) (by simp; omega) fun w hh o => ?_
      | refine o.app 2 rfl encA_len encA_plain rfl (v3 _ o.ext) (by decide) (by simp; omega) fun w hh o => ?_
      | with_reducible apply And.intro)
    all_goals (
      refine pBuild_ones (cs' := [_, _, _, _]) ?_ rfl rfl ?_
      · intro p hp
        simp at hp
        rcases hp with rfl | rfl | rfl | rfl
        · rfl
        all_goals first | exact (o.vw 0 rfl).one | exact (o.vw 1 rfl).one | exact (o.vw 2 rfl).one
      · refine o.st (l := [_, _, _, _]) 3 rfl rfl rfl rfl rfl ?_ fun hh o => ?_
        · intro u hu
          simp at hu
          rcases hu with rfl | rfl | rfl | rfl
          · rfl
          all_goals first | exact (o.vw 0 rfl).plain | exact (o.vw 1 rfl).plain | exact (o.vw 2 rfl).plain
        · first
            | exact fin [3, 0, 1, 2] o (by decide) rfl
            | exact fin [3, 0, 2, 1] o (by decide) rfl
            | exact fin [3, 1, 0, 2] o (by decide) rfl
            | exact fin [3, 1, 2, 0] o (by decide) rfl
            | exact fin [3, 2, 0, 1] o (by decide) rfl
            | exact fin [3, 2, 1, 0] o (by decide) rfl)
  · rintro ⟨⟩ h' ⟨vx', vy', va', o'⟩
    exact o'.ldN 0 rfl rfl rfl (hK vx' vy' va' h' (oL.frame (o'.sel [1, 2, 3] (by decide))))

end
end Go.Proofs.YtebjceofpaamjaaGreatDoor

namespace Go.Proofs.YtebjceofpaamjaaGreatDoor
open Go Go.Mh
set_option linter.unusedVariables false

section
variable {h0 h : Heap} {L : List Res} {K : Value → Heap → Prop} {g : G} {v : Value}

theorem turned2_step {l : List A} {i : Nat} (hi : i < l.length) : (((l.take i).map A.swap ++ l.drop i).set i (l[i]).swap) = (l.take (i + 1)).map A.swap ++ l.drop (i + 1) := by
  rw [List.set_append_right _ _ (by simp; omega)]
  have e : i - ((l.take i).map A.swap).length = 0 := by simp; omega
  rw [e, List.drop_eq_getElem_cons hi, List.set_cons_zero, List.take_succ_eq_append_getElem hi, List.map_append, List.append_assoc]; rfl

/-- The reference's graph turned round. -/
theorem rturned_ok (o : Own h0 h L) (hR : g.Right) (H : RawV h v g) (hK : ∀ vx vy va h', Own h0 h' (xR vx g.X :: xR vy g.Y :: aR va g.turned.arcs :: L) → K (.agg #[I g.n, vx, vy, va]) h') : callS Tryz.prog F_milestoneref07_Turned [v] h K := by
  obtain ⟨vx, vy, va, rfl, H⟩ := H
  refine callS_of (lk_milestoneref07_Turned _ ?_)
  unfold sh_milestoneref07_Turned
  have hmany := hR.many
  refine (Own.start h).box fun r h1 o1 => o1.box fun e h2 o2 => o2.ldN 1 rfl rfl rfl ?_
  refine rcopy_ok o2 hR ⟨vx, vy, va, rfl, H.more o2.ext⟩ fun vx1 vy1 va1 h3 o3 => ?_
  have p0 := (o3.vw 0 rfl).plain
  have p1 := (o3.vw 1 rfl).plain
  have p2 := (o3.vw 2 rfl).plain
  have pl : ∀ u ∈ [I g.n, vx1, vy1, va1], Mh.plainCell u = true := by
    intro u hu
    simp at hu
    rcases hu with rfl | rfl | rfl | rfl
    · rfl
    · exact p0
    · exact p1
    · exact p2
  refine o3.box fun w hb ob => ob.st 0 rfl rfl rfl rfl rfl pl fun h4 o4 => ?_
  have hv : ∀ {h' : Heap}, Ext h h' → Vw encA 3 h' va g.arcs := fun x => H.2.2.more x
  refine LoopH_count g.arcs.length (fun i x h' => x.1 = I i ∧ Own h h' [cellR w [I g.n, vx1, vy1, va1] T_api_Raw, xR vx1 g.X, xR vy1 g.Y, aR va1 ((g.arcs.take i).map A.swap ++ g.arcs.drop i), cellR e [I 0, sl0, sl0, sl0] T_api_Raw, cellR r [I g.n, vx, vy, va] T_api_Raw]) ⟨rfl, o4⟩ ?_
  clear o4 ob o3 o2 o1
  rintro i ⟨x, ⟨⟩⟩ h' Z hi ⟨hx, o'⟩ hZ
  dsimp only at hx hZ ⊢
  subst hx
  unfold sh_milestoneref07_Turned_L1
  simp only [pField_ptr]
  have hlen : ((g.arcs.take i).map A.swap ++ g.arcs.drop i).length = g.arcs.length := by simp; omega
  refine o'.load 0 rfl rfl ((o'.vw 3 rfl).len ?_)
  rw [hlen]
  simp only [pBin_lss, ifV_dec]
  refine ⟨fun hlt => ?_, fun hge => ?_⟩
  · have hlt : i < g.arcs.length := by omega
    have hll : i < ((g.arcs.take i).map A.swap ++ g.arcs.drop i).length := by omega
    have hget : ((g.arcs.take i).map A.swap ++ g.arcs.drop i)[i] = g.arcs[i] := by
      rw [List.getElem_append_right (by simp; omega)]
      simp only [List.getElem_drop]
      congr 1; simp; omega
    refine o'.load 0 rfl rfl (o'.load 5 rfl rfl ?_)
    refine (hv o'.ext).atF (j := 1) encA_len hlt (by decide) rfl ?_
    refine o'.setF (a := ⟨g.arcs[i].t, g.arcs[i].t, g.arcs[i].w⟩) 3 rfl encA_len hll (f := 0) (by decide) rfl rfl (by rw [hget]; rfl) fun h3 o3 => ?_
    refine o3.load 0 rfl rfl (o3.load 5 rfl rfl ?_)
    refine (hv o3.ext).atF (j := 0) encA_len hlt (by decide) rfl ?_
    refine o3.setF (a := (g.arcs[i]).swap) 3 rfl encA_len (by simpa using hll) (f := 1) (by decide) rfl rfl (by simp [encA, A.swap]) fun h4 o4 => ?_
    rw [pBin_add, wI i (by omega)]
    refine hZ (I (i + 1 : Nat), ()) h4 hlt ⟨rfl, ?_⟩
    simp only [List.set_set] at o4
    rw [← turned2_step hlt]
    exact o4
  · have : i = g.arcs.length := by omega
    subst this
    rw [List.take_length, List.drop_length, List.append_nil] at o'
    refine o'.ldN 0 rfl rfl rfl (o'.st 4 rfl rfl rfl rfl rfl pl fun h2 o2 => o2.ldN 4 rfl rfl rfl ?_)
    exact hK vx1 vy1 va1 h2 (o.frame (o2.sel [1, 2, 3] (by decide)))

/-- The reference's least distances. -/
theorem bell_ok {s : Nat} (o : Own h0 h L) (hR : g.Right) (H : RawV h v g) (hs : s < g.n) (hK : ∀ d vd h', LS g.arcs A.f A.t g.n s d → Own h0 h' (xR vd d :: L) → K vd h') : callS Tryz.prog F_milestoneref10_Least [v, I s] h K := by
  obtain ⟨vx, vy, va, rfl, H⟩ := H
  refine callS_of (lk_milestoneref10_Least _ _ ?_)
  unfold sh_milestoneref10_Least
  have hmany := hR.many
  have hmost := hR.most
  have hv : ∀ {h' : Heap}, Ext h h' → Vw encA 3 h' va g.arcs := fun x => H.2.2.more x
  refine (Own.start h).box fun r h1 o1 => ?_
  refine LoopH_count g.n (fun i x h' => x.2.1 = I i ∧ Own h h' [xR x.1 (List.replicate i far), cellR r [I g.n, vx, vy, va] T_api_Raw]) ⟨rfl, o1.nilS⟩ ?_
  clear o1
  rintro i ⟨vl, x, ⟨⟩⟩ h' Z hi ⟨hx, o'⟩ hZ
  dsimp only at hx hZ o' ⊢
  subst hx
  unfold sh_milestoneref10_Least_L1
  simp only [pField_ptr]
  refine o'.load 1 rfl rfl ?_
  simp only [pBin_lss, ifV_dec]
  refine ⟨fun hlt => ?_, fun hge => ⟨fun h => absurd h (by omega), fun _ => ?_⟩⟩
  · refine o'.app1 0 far rfl rfl (sizesOk_of rfl) encI_len encI_plain rfl (by decide) (by simp; omega) fun v' h2 o2 => ?_
    rw [pBin_add, wI i (by omega)]
    refine hZ (v', I (i + 1 : Nat), ()) h2 (by omega) ⟨rfl, ?_⟩
    rw [List.replicate_succ']
    exact o2
  · have : i = g.n := by omega
    subst this
    refine o'.load 1 rfl rfl ?_
    rw [pBin_geq, show decide ((g.n : Int) ≤ s) = false from decide_eq_false (by omega), ifV_false]
    refine o'.setI 0 rfl (by simpa using hs) fun h2 o2 => ?_
    refine LoopH_down (fun k x h' => ∃ d, BInv g.arcs g.n s d ∧ Own h h' [xR vl d, cellR r [I g.n, vx, vy, va] T_api_Raw] ∧ ((x.1 = .bool true ∧ k = dsum d + 1) ∨ (x.1 = .bool false ∧ k = 0 ∧ LS g.arcs A.f A.t g.n s d)))
      (k0 := dsum ((List.replicate g.n far).set s 0) + 1) ⟨_, BInv.start hs, o2, .inl ⟨rfl, rfl⟩⟩ ?_
    clear o2 o' hZ
    rintro k ⟨x, ⟨⟩⟩ h' Z1 ⟨d, B, o', hm⟩ hZ1
    dsimp only at hm hZ1 ⊢
    unfold sh_milestoneref10_Least_L3
    rcases hm with ⟨rfl, rfl⟩ | ⟨rfl, rfl, hl⟩
    · rw [ifV_true]
      refine LoopH_count g.arcs.length (fun i x h' => x.2.1 = I i ∧ ∃ d', BInv g.arcs g.n s d' ∧ Own h h' [xR vl d', cellR r [I g.n, vx, vy, va] T_api_Raw] ∧
        ((x.1 = .bool true ∧ dsum d' < dsum d) ∨ (x.1 = .bool false ∧ d' = d ∧ ∀ j (hj : j < g.arcs.length), j < i → dAt d (g.arcs[j]).f < far → dAt d (g.arcs[j]).t ≤ dAt d (g.arcs[j]).f + (g.arcs[j]).w))) ⟨rfl, d, B, o', .inr ⟨rfl, rfl, fun j _ h => absurd h (by omega)⟩⟩ ?_
      clear o'
      rintro i ⟨m, x, ⟨⟩⟩ h' Z2 hi ⟨hx, d', B', o', hm⟩ hZ2
      dsimp only at hx hm hZ2 ⊢
      subst hx
      unfold sh_milestoneref10_Least_L4
      simp only [pField_ptr]
      refine o'.load 1 rfl rfl ((hv o'.ext).len ?_)
      simp only [pBin_lss (b := (g.arcs.length : Int)), ifV_dec]
      refine ⟨fun hlt => ?_, fun hge => ?_⟩
      · have hlt : i < g.arcs.length := by omega
        refine o'.load 1 rfl rfl ((hv o'.ext).atN encA_len hlt ?_)
        have ha := hR.ends _ (List.getElem_mem hlt)
        have hmem := List.getElem_mem hlt
        have hai : ∀ j (hj : j < g.arcs.length), j < i + 1 → g.arcs[j] = g.arcs[i] ∨ j < i := fun j hj h => by
          by_cases e : j = i
          · subst e; exact .inl rfl
          · exact .inr (by omega)
        generalize g.arcs[i] = a at ha hmem hai
        have rf := B'.rng ha.1
        have rt := B'.rng ha.2.1
        have lf : a.f < d'.length := by rw [B'.len]; exact ha.1
        have lt : a.t < d'.length := by rw [B'.len]; exact ha.2.1
        have hfar : far = 72057594037927936 := rfl
        refine o'.box fun b h2 o2 => o2.st 0 rfl rfl rfl rfl rfl (encA_plain _) fun h3 o3 => ?_
        refine cutP_of (fun y h'' => y.1 = .bool (decide (dAt d' a.f < far) && decide (dAt d' a.f + a.w < dAt d' a.t)) ∧ h'' = h3) (fun J hJ => ?_) ?_
        · refine o3.load 0 rfl rfl ((o3.vw 1 rfl).atI lf ?_)
          rw [dAt_get]
          simp only [pBin_lss, ifV_dec]
          refine ⟨fun h => ?_, fun h => ?_⟩
          · refine o3.load 0 rfl rfl ((o3.vw 1 rfl).atI lf (o3.load 0 rfl rfl ?_))
            rw [dAt_get, pBin_add, w64 (by omega) (by omega)]
            refine o3.load 0 rfl rfl ((o3.vw 1 rfl).atI lt ?_)
            rw [dAt_get, pBin_lss]
            refine hJ _ _ ⟨?_, rfl⟩
            rw [show decide (dAt d' a.f < far) = true from decide_eq_true h, Bool.true_and]
          · refine hJ _ _ ⟨?_, rfl⟩
            rw [show decide (dAt d' a.f < far) = false from decide_eq_false h, Bool.false_and]
        · rintro ⟨y, ⟨⟩⟩ h'' ⟨hy, rfl⟩
          dsimp only at hy ⊢
          subst hy
          unfold sh_milestoneref10_Least_C5 sh_milestoneref10_Least_k6
          by_cases hc : dAt d' a.f < far ∧ dAt d' a.f + a.w < dAt d' a.t
          · rw [show (decide (dAt d' a.f < far) && decide (dAt d' a.f + a.w < dAt d' a.t)) = true by rw [decide_eq_true hc.1, decide_eq_true hc.2]; rfl, ifV_true]
            simp only [pField_ptr]
            refine o3.load 0 rfl rfl (o3.load 0 rfl rfl ((o3.vw 1 rfl).atI lf (o3.load 0 rfl rfl ?_)))
            rw [dAt_get, pBin_add, w64 (by omega) (by omega)]
            refine o3.setI 1 rfl lt fun h4 o4 => ?_
            rw [pBin_add, wI i (by omega)]
            have R := B'.relax hmem ha.1 ha.2.1 hc.1 hc.2
            refine hZ2 (.bool true, I (i + 1 : Nat), ()) h4 hlt ⟨rfl, _, R.1, o4.sel [1, 2] (by decide), .inl ⟨rfl, ?_⟩⟩
            have := R.2
            rcases hm with ⟨_, h⟩ | ⟨_, h, _⟩
            · omega
            · rw [← h]; exact this
          · rw [show (decide (dAt d' a.f < far) && decide (dAt d' a.f + a.w < dAt d' a.t)) = false by
              rw [Bool.and_eq_false_imp]; intro h; simp only [decide_eq_true_eq] at h; exact decide_eq_false fun h' => hc ⟨h, h'⟩, ifV_false]
            rw [pBin_add, wI i (by omega)]
            refine hZ2 (m, I (i + 1 : Nat), ()) _ hlt ⟨rfl, d', B', o3.sel [1, 2] (by decide), ?_⟩
            rcases hm with h | ⟨h1, h2, h3⟩
            · exact .inl h
            · refine .inr ⟨h1, h2, fun j hj hji => ?_⟩
              rcases hai j hj hji with e | e
              · rw [e]; intro hf
                rw [← h2] at hf ⊢
                omega
              · exact h3 j hj e
      · have : i = g.arcs.length := by omega
        subst this
        rcases hm with ⟨h1, h2⟩ | ⟨h1, h2, h3⟩
        · exact hZ1 (m, ()) h' (dsum d' + 1) (by omega) ⟨d', B', o', .inl ⟨h1, rfl⟩⟩
        · refine hZ1 (m, ()) h' 0 (by omega) ⟨d', B', o', .inr ⟨h1, rfl, ?_⟩⟩
          subst h2
          refine B'.ls fun a ha => ?_
          obtain ⟨j, hj, rfl⟩ := List.mem_iff_getElem.1 ha
          exact h3 j hj hj
    · rw [ifV_false]
      exact hK d vl h' hl (o.frame (o'.sel [0] (by decide)))

end
end Go.Proofs.YtebjceofpaamjaaGreatDoor

namespace Go.Proofs.YtebjceofpaamjaaGreatDoor
open Go Go.Mh
set_option linter.unusedVariables false

def encB (x : Bool) : List Value := [.bool x]
theorem encB_len (x : Bool) : (encB x).length = 1 := rfl
/-- Which nodes are closed. -/
def clB (order : List Nat) (n : Nat) : List Bool := (List.range n).map fun v => order.contains v
theorem clB_len {order : List Nat} {n : Nat} : (clB order n).length = n := by simp [clB]
theorem clB_get {order : List Nat} {n v : Nat} (hv : v < n) : (clB order n)[v]'(by rw [clB_len]; exact hv) = order.contains v := by simp [clB]
theorem clB_set {order : List Nat} {n v : Nat} (hv : v < n) : (clB order n).set v true = clB (order ++ [v]) n := by
  apply List.ext_getElem (by simp [clB])
  intro i h1 h2
  have hi : i < n := by rw [clB_len] at h2; exact h2
  rw [clB_get hi, List.getElem_set]
  split
  · rename_i e; subst e; simp
  · rename_i e; rw [clB_get hi]; simp; intro e'; exact absurd e'.symm e
theorem clB_nil {n : Nat} : clB [] n = List.replicate n false := by
  apply List.ext_getElem (by simp [clB]) fun i h1 h2 => by simp [clB]

section
variable {h0 h : Heap} {L : List Res} {K : Value → Heap → Prop} {g : G} {v : Value}

abbrev refL (x5 t4 g2 : Nat) (F : Nat → Prop) (r n : Nat) (sd sa so vc vx vy va : Value) (hp : List HE) (st : FS) : List Res :=
  [cellR x5 [sd, sa, so] T_milestoneref10_Tree, xR sd st.dist, slR encI 1 T_int sa st.arc, slR encN 1 T_int so st.order, qR F r hp n, slR encB 1 T_bool vc (clB st.order n), cellR t4 [sl0, sl0, sl0] T_milestoneref10_Tree, cellR g2 [I n, vx, vy, va] T_api_Raw]

theorem rscan_hp {n : Nat} {B : Int} {s : FS} (inv : FInv n B s) : s.hp.length ≤ n := by
  have : (s.hp.map (·.1.toNat)).length ≤ n := nodup_le (by
    have : s.hp.map (·.1.toNat) = (s.hp.map (·.1)).map Int.toNat := by simp
    rw [this, List.nodup_iff_pairwise_ne, List.pairwise_map]
    refine (List.nodup_iff_pairwise_ne.1 inv.ids).imp_of_mem fun {x y} hx hy hne e => hne ?_
    obtain ⟨p, hp, rfl⟩ := List.mem_map.1 hx
    obtain ⟨q, hq, rfl⟩ := List.mem_map.1 hy
    obtain ⟨u, e1, _⟩ := inv.ent p hp
    obtain ⟨w, e2, _⟩ := inv.ent q hq
    rw [e1, e2] at e ⊢
    have e' : u = w := by simpa using e
    rw [e']) (fun x hx => by
    obtain ⟨p, hp, rfl⟩ := List.mem_map.1 hx
    obtain ⟨u, e1, e2, _⟩ := inv.ent p hp
    rw [e1]; simpa using e2)
  simpa using this

theorem rloop_ok {x5 t4 g2 r : Nat} {sd sa vc vx vy va : Value} {fin : FS} {h' : Heap} (hR : g.Right) (H : RawL h vx vy va g)
    (hK : ∀ so h', Own h h' [xR sd fin.dist, slR encI 1 T_int sa fin.arc, slR encN 1 T_int so fin.order] → K (.agg #[sd, sa, so]) h')
    (J : ∃ (st : FS) (so : Value) (F : Nat → Prop), FS.run g.arcs g.out A.t (g.n + 1 - st.order.length) st = fin ∧ FInv g.n (st.order.length * W) st ∧ Own h h' (refL x5 t4 g2 F r g.n sd sa so vc vx vy va st.hp st)) :
    LoopH (σ := Vals []) (fun x hh ZZ => sh_milestoneref10_From_L3 Tryz.prog (ptr r) vc (ptr x5) (ptr g2) (ptr t4) K hh (fun hz => ZZ () hz)) () h' := by
  have hmost := hR.most
  have hmany := hR.many
  have hv : ∀ {h' : Heap}, Ext h h' → Vw encA 3 h' va g.arcs := fun x => H.2.2.more x
  obtain ⟨st0, J⟩ := J
  refine LoopH_down (k0 := g.n + 1 - st0.order.length) (fun k x h' => ∃ (st : FS) (so : Value) (F : Nat → Prop), k = g.n + 1 - st.order.length ∧ FS.run g.arcs g.out A.t (g.n + 1 - st.order.length) st = fin ∧ FInv g.n (st.order.length * W) st ∧ Own h h' (refL x5 t4 g2 F r g.n sd sa so vc vx vy va st.hp st))
    (by obtain ⟨so, F, J⟩ := J; exact ⟨st0, so, F, rfl, J⟩) ?_
  clear J st0 h'
  rintro k ⟨⟩ h' Z ⟨st, so, F, hk, hrun, inv, o⟩ hZ

  unfold sh_milestoneref10_From_L3
  refine qo_len o 4 rfl ?_
  rw [pBin_gtr]
  have hhp := rscan_hp inv
  by_cases hne : st.hp = []
  · rw [hne, show decide ((0 : Int) < ([] : List HE).length) = false from rfl, ifV_false]
    have hf : st = fin := by
      rw [← hrun]
      cases g.n + 1 - st.order.length with
      | zero => rfl
      | succ k => simp only [FS.run, hne, least]
    subst hf
    refine o.ldN 0 rfl rfl rfl (o.st 6 rfl rfl rfl rfl rfl ?_ fun h2 o2 => o2.ldN 6 rfl rfl rfl (hK so h2 (o2.sel [1, 2, 3] (by decide))))
    intro u hu
    simp at hu
    rcases hu with rfl | rfl | rfl
    · exact (o.vw 1 rfl).plain
    · exact (o.vw 2 rfl).plain
    · exact (o.vw 3 rfl).plain
  · have hpos : 0 < st.hp.length := List.length_pos_iff.2 hne
    rw [show decide ((0 : Int) < st.hp.length) = true from decide_eq_true (by omega), ifV_true]
    refine qo_pop o 4 rfl hne fun p hl F1 h1 o1 => ?_
    simp only [pExt0, pExt1, pExt2]
    have hm := (least_spec hl).1
    obtain ⟨u, hu, hun, hno, hk0, hkB⟩ := inv.ent p hm
    obtain ⟨pv, key⟩ := p
    dsimp only at hu hk0 hkB o1 ⊢
    subst hu
    have hroom := inv.room hne
    have hB : (st.order.length : Int) * W + W ≤ 16777216 * W := by
      have : (st.order.length : Int) + 1 ≤ 16777216 := by omega
      have := Int.mul_le_mul_of_nonneg_right this (show (0 : Int) ≤ W by decide)
      rw [Int.add_mul, Int.one_mul] at this
      exact this
    refine o1.setAt (a := true) 5 rfl encB_len (by simp [encB, Mh.plainCell]) (by rw [clB_len]; exact hun) rfl fun h2 o2 => ?_
    rw [clB_set hun] at o2
    simp only [pField_ptr]
    refine o2.load 0 rfl rfl (o2.setI 1 rfl (by rw [inv.dl]; exact hun) fun h3 o3 => o3.load 0 rfl rfl ?_)
    refine o3.app1 3 u rfl rfl (sizesOk_of rfl) encN_len encN_plain rfl (by decide) (by omega) fun so1 h4 o4 => ?_
    refine o4.st1 0 rfl rfl rfl (o4.vw 3 rfl).one (o4.vw 3 rfl).plain fun h5 o5 => o5.ldN 7 rfl rfl rfl ?_
    refine rout_ok o5 hR ⟨vx, vy, va, rfl, H.more o5.ext⟩ fun vl h6 o6 => ?_
    obtain ⟨st1, hst1⟩ : ∃ st1, st1 = st.pop u key := ⟨_, rfl⟩
    have hW : (0 : Int) ≤ W := by decide
    have inv1 : FInv g.n (st.order.length * W + W) st1 := by subst hst1; exact (inv.popped hm).mono (by omega)
    have hord : st1.order.length = st.order.length + 1 := by subst hst1; simp [FS.pop]
    have hids : ∀ i ∈ g.out u, i < g.arcs.length := fun i => out_lt
    have hscan : ∀ i, FInv g.n (st.order.length * W + W) (st1.scan g.arcs A.t key ((g.out u).take i)) := fun i =>
      FInv.scan (fun a ha => ⟨(hR.ends a ha).2.1, by have := (hR.ends a ha).2.2; show (a.w : Int) ≤ 2147483647; omega⟩) hk0 (by omega) (fun j hj => hids j (List.mem_of_mem_take hj)) inv1
    have hol : (g.out u).length ≤ g.arcs.length := outsP_short
    refine LoopH_count (g.out u).length (fun i x h' => x.1 = I i ∧ ∃ F, Own h h' (slR encN 1 T_int vl (g.out u) :: refL x5 t4 g2 F r g.n sd sa so1 vc vx vy va (st1.scan g.arcs A.t key ((g.out u).take i)).hp (st1.scan g.arcs A.t key ((g.out u).take i)))) ⟨rfl, F1, by subst hst1; exact o6⟩ ?_
    clear o6 o5 o4 o3 o2 o1 o F1 F
    rintro i ⟨x, ⟨⟩⟩ h' Z2 hi ⟨hx, F, o⟩ hZ2
    dsimp only at hx hZ2 ⊢
    subst hx
    unfold sh_milestoneref10_From_L4
    refine (o.vw 0 rfl).len ?_
    simp only [pBin_lss, ifV_dec]
    refine ⟨fun hlt => ?_, fun hge => ?_⟩
    · have hlt : i < (g.out u).length := by omega
      have hil := hids _ (List.getElem_mem hlt)
      simp only [pField_ptr]
      refine o.load 8 rfl rfl ((o.vw 0 rfl).at1 (e := fun x : Nat => I x) (fun _ => rfl) hlt ((hv o.ext).atN encA_len hil ?_))
      have ea : arcAt g.arcs (g.out u)[i] = g.arcs[(g.out u)[i]] := by simp [arcAt, hil]
      have hsc := scan_take (l := g.arcs) (head := A.t) (key := key) (s := st1) hlt
      rw [ea] at hsc
      have ha := hR.ends _ (List.getElem_mem hil)
      have invs := hscan i
      generalize st1.scan g.arcs A.t key ((g.out u).take i) = s at o hsc invs
      have hps := rscan_hp invs
      generalize g.arcs[(g.out u)[i]] = a at ha hsc
      have e1 : IntKind.i64.wrap (key + (a.w : Int)) = key + a.w := by
        have hW2 : (16777216 : Int) * W ≤ 2 ^ 62 := by decide
        exact w64 (by omega) (by have : (W : Int) = 2147483647 := rfl
                                 omega)
      have hcl : (clB s.order g.n)[a.t]'(by rw [clB_len]; exact ha.2.1) = s.order.contains a.t := clB_get ha.2.1
      have next : ∀ {h2 : Heap} {F : Nat → Prop} {b : Nat} {cs : List Value}, Own h h2 (cellR b cs T_api_Arc :: slR encN 1 T_int vl (g.out u) :: refL x5 t4 g2 F r g.n sd sa so1 vc vx vy va (s.reach a.t (g.out u)[i] (key + a.w)).hp (s.reach a.t (g.out u)[i] (key + a.w))) →
          sh_milestoneref10_From_k5 Tryz.prog (I i) (fun a0 hz => Z2 (a0, ()) hz) h2 := fun {h2 F b cs} o2 => by
        unfold sh_milestoneref10_From_k5
        rw [pBin_add, wI i (by omega)]
        exact hZ2 (I (i + 1 : Nat), ()) _ hlt ⟨rfl, F, by rw [hsc]; exact o2.tail⟩
      refine o.box fun b h1 o1 => o1.st 0 rfl rfl rfl rfl rfl (encA_plain _) fun h2 o2 => o2.load 0 rfl rfl ?_
      refine (o2.vw 7 rfl).at1 (e := fun x : Bool => .bool x) (fun _ => rfl) (by rw [clB_len]; exact ha.2.1) ?_
      rw [hcl]
      by_cases hc : a.t ∈ s.order
      · rw [show s.order.contains a.t = true by simpa using hc, ifV_true]
        have : s.reach a.t (g.out u)[i] (key + a.w) = s := by simp [FS.reach, hc]
        rw [this] at next
        exact next o2
      · rw [show s.order.contains a.t = false by simpa using hc, ifV_false]
        refine o2.load 0 rfl rfl (qo_key o2 6 rfl ?_)
        simp only [pExt0, pExt1]
        cases hl : lookH s.hp a.t with
        | none =>
          have : s.reach a.t (g.out u)[i] (key + a.w) = { s with hp := ((a.t : Int), key + (a.w : Int)) :: s.hp, arc := s.arc.set a.t ((g.out u)[i] : Nat) } := by simp [FS.reach, hc, hl]
          rw [this] at next
          rw [Option.isSome_none, pUn_not, Bool.not_false, ifV_true]
          refine o2.load 0 rfl rfl (o2.load 0 rfl rfl ?_)
          rw [pBin_add, e1]
          refine qo_push o2 6 rfl (by omega) (lookH_none.1 hl) ha.2.1 fun F' h3 o3 => ?_
          refine o3.load 2 rfl rfl (o3.load 0 rfl rfl ((o3.vw 1 rfl).at1 (e := fun x : Nat => I x) (fun _ => rfl) hlt ?_))
          refine o3.setI 4 rfl (by rw [invs.al]; exact ha.2.1) fun h4 o4 => ?_
          exact next o4
        | some was =>
          rw [Option.isSome_some, pUn_not, Bool.not_true, ifV_false]
          refine o2.load 0 rfl rfl ?_
          rw [pBin_add, e1, pBin_gtr]
          simp only [Option.getD_some, ifV_dec]
          refine ⟨fun hlt' => ?_, fun hge => ?_⟩
          · have : s.reach a.t (g.out u)[i] (key + a.w) = { s with hp := ((a.t : Int), key + (a.w : Int)) :: s.hp.erase ((a.t : Int), was), arc := s.arc.set a.t ((g.out u)[i] : Nat) } := by
              simp only [FS.reach, hc, if_false, hl]; rw [if_neg (by omega)]
            rw [this] at next
            refine o2.load 0 rfl rfl (o2.load 0 rfl rfl ?_)
            rw [pBin_add, e1]
            refine qo_lower o2 6 rfl (lookH_some hl) ha.2.1 (by omega) fun F' h3 o3 => ?_
            refine o3.load 2 rfl rfl (o3.load 0 rfl rfl ((o3.vw 1 rfl).at1 (e := fun x : Nat => I x) (fun _ => rfl) hlt ?_))
            refine o3.setI 4 rfl (by rw [invs.al]; exact ha.2.1) fun h4 o4 => ?_
            exact next o4
          · have : s.reach a.t (g.out u)[i] (key + a.w) = s := by
              simp only [FS.reach, hc, if_false, hl]; rw [if_pos (by omega)]
            rw [this] at next
            exact next o2
    · have : i = (g.out u).length := by omega
      subst this
      rw [List.take_length] at o
      have hso := @scan_order g.arcs A.t key (g.out u) st1
      have inv2 : FInv g.n ((st1.scan g.arcs A.t key (g.out u)).order.length * W) (st1.scan g.arcs A.t key (g.out u)) := by
        have := hscan (g.out u).length
        rw [List.take_length] at this
        refine this.mono ?_
        rw [hso.1, hord]
        have : ((st.order.length + 1 : Nat) : Int) * W = st.order.length * W + W := by
          rw [Int.natCast_add, Int.add_mul]; rfl
        omega
      have hrun2 : FS.run g.arcs g.out A.t (g.n + 1 - (st1.scan g.arcs A.t key (g.out u)).order.length) (st1.scan g.arcs A.t key (g.out u)) = fin := by
        rw [← hrun, hso.1, hord]
        rw [show g.n + 1 - st.order.length = (g.n + 1 - (st.order.length + 1)) + 1 by omega]
        simp only [FS.run, hl, Int.toNat_natCast]
        rw [← hst1]
      exact hZ () h' _ (by rw [hso.1, hord]; omega) ⟨_, so1, F, rfl, hrun2, inv2, o.tail⟩

end
end Go.Proofs.YtebjceofpaamjaaGreatDoor

namespace Go.Proofs.YtebjceofpaamjaaGreatDoor
open Go Go.Mh
set_option linter.unusedVariables false

section
variable {h0 h : Heap} {L : List Res} {K : Value → Heap → Prop} {g : G} {v : Value}

theorem rfrom_ok {s : Int} (hR : g.Right) (H : RawV h v g) (hK : TreeK h (g.fromI s) K) : callS Tryz.prog F_milestoneref10_From [v, I s] h K := by
  obtain ⟨vx, vy, va, rfl, H⟩ := H
  refine callS_of (lk_milestoneref10_From _ _ ?_)
  unfold sh_milestoneref10_From
  have hmost := hR.most
  refine (Own.start h).box fun g2 h1 o1 => o1.box fun t4 h2 o2 => o2.box fun x5 h3 o3 => ?_
  have none : ¬ (0 ≤ s ∧ s < g.n) → sh_milestoneref10_From_k1 Tryz.prog (ptr x5) (ptr t4) K h3 := fun hs => by
    unfold sh_milestoneref10_From_k1
    rw [G.fromI, if_neg hs] at hK
    exact o3.ldN 0 rfl rfl rfl (o3.st (l := [sl0, sl0, sl0]) 1 rfl rfl rfl rfl rfl (by simp) fun h4 o4 => o4.ldN 1 rfl rfl rfl (hK sl0 sl0 sl0 h4 ((o4.nilS.nilS.nilS).sel [0, 1, 2] (by decide))))
  simp only [pBin_lss, ifV_dec, pField_ptr]
  refine ⟨fun e => none (by omega), fun h0 => o3.load 2 rfl rfl ?_⟩
  simp only [pBin_geq, ifV_dec]
  refine ⟨fun e => none (by omega), fun h1' => o3.load 2 rfl rfl ?_⟩
  obtain ⟨s, rfl⟩ := Int.eq_ofNat_of_zero_le (show 0 ≤ s by omega)
  have hs : s < g.n := by omega
  have hK : TreeK h (g.from s) K := by rw [G.fromI, if_pos (by omega)] at hK; exact hK
  refine o3.make (enc := encB) (n := 1) (a := false) rfl (by omega) (by omega) fun vc h4 o4 => ?_
  refine LoopH_count g.n (fun i x h' => x.1 = I i ∧ ∃ sd sa, Own h h' [cellR x5 [sd, sa, sl0] T_milestoneref10_Tree, xR sd (List.replicate i far), slR encI 1 T_int sa (List.replicate i (-1)), slR encB 1 T_bool vc (List.replicate g.n false), cellR t4 [sl0, sl0, sl0] T_milestoneref10_Tree, cellR g2 [I g.n, vx, vy, va] T_api_Raw])
    ⟨rfl, sl0, sl0, (o4.nilS (enc := encI) (n := 1) (T := T_int64)).nilS (enc := encI) (n := 1) (T := T_int) |>.sel [3, 1, 0, 2, 4, 5] (by decide)⟩ ?_
  clear none o4 o3 o2 o1
  rintro i ⟨x, ⟨⟩⟩ h' Z hi ⟨hx, sd, sa, o⟩ hZ
  dsimp only at hx hZ ⊢
  subst hx
  unfold sh_milestoneref10_From_L2
  simp only [pField_ptr]
  refine o.load 5 rfl rfl ?_
  simp only [pBin_lss, ifV_dec]
  refine ⟨fun hlt => o.load 0 rfl rfl ?_, fun hge => o.load 5 rfl rfl ?_⟩
  · refine o.app1 1 far rfl rfl (sizesOk_of rfl) encI_len encI_plain rfl (by decide) (by simp; omega) fun sd' h2 o2 => ?_
    refine o2.st1 0 rfl rfl rfl (o2.vw 1 rfl).one (o2.vw 1 rfl).plain fun h3 o3 => o3.load 0 rfl rfl ?_
    refine o3.app1 2 (-1) rfl rfl (sizesOk_of rfl) encI_len encI_plain rfl (by decide) (by simp; omega) fun sa' h4 o4 => ?_
    refine o4.st1 0 rfl rfl rfl (o4.vw 2 rfl).one (o4.vw 2 rfl).plain fun h5 o5 => ?_
    rw [pBin_add, wI i (by omega)]
    refine hZ (I (i + 1 : Nat), ()) h5 (by omega) ⟨rfl, sd', sa', ?_⟩
    rw [List.replicate_succ', List.replicate_succ']
    exact o5
  · have : i = g.n := by omega
    subst this
    refine qo_new o fun F r h2 o2 => ?_
    refine qo_push o2 0 rfl (by simp) (by simp) hs fun F' h3 o3 => ?_
    refine rloop_ok (fin := FS.run g.arcs g.out A.t (g.n + 1) (FS.start g.n s)) hR H (fun so h' o' => hK sd sa so h' o') ⟨FS.start g.n s, sl0, F', rfl, (FInv.start hs).mono (by simp [FS.start]), ?_⟩
    have o4 := ((o3.nilS (enc := encN) (n := 1) (T := T_int)).sel [2, 3, 4, 0, 1, 5, 6, 7] (by decide))
    rw [show List.replicate g.n false = clB (FS.start g.n s).order g.n from clB_nil.symm] at o4
    exact o4

theorem rto_ok {s : Int} (hR : g.Right) (H : RawV h v g) (hK : TreeK h (g.toI s) K) : callS Tryz.prog F_milestoneref10_To [v, I s] h K := by
  obtain ⟨vx, vy, va, rfl, H⟩ := H
  refine callS_of (lk_milestoneref10_To _ _ ?_)
  unfold sh_milestoneref10_To
  refine (Own.start h).box fun g2 h1 o1 => o1.box fun t4 h2 o2 => o2.ldN 1 rfl rfl rfl ?_
  refine rturned_ok o2 hR ⟨vx, vy, va, rfl, H.more o2.ext⟩ fun wx wy wa h3 o3 => ?_
  refine rfrom_ok (g := g.turned) (s := s) hR.turned ⟨wx, wy, wa, rfl, o3.vw 0 rfl, o3.vw 1 rfl, o3.vw 2 rfl⟩ fun sd sa so h4 o4 => ?_
  rw [turned_from] at o4
  have o5 := o3.frame o4
  refine o5.st 6 rfl rfl rfl rfl rfl ?_ fun h6 o6 => o6.ldN 6 rfl rfl rfl (hK sd sa so h6 (o6.sel [0, 1, 2] (by decide)))
  intro u hu
  simp at hu
  rcases hu with rfl | rfl | rfl
  · exact (o5.vw 0 rfl).plain
  · exact (o5.vw 1 rfl).plain
  · exact (o5.vw 2 rfl).plain

theorem rsame_ok {va vb : Value} {t : Tr} (Ha : TreeV h va t) (Hb : TreeV h vb t) (h1 : t.dist.length < 2 ^ 40) (h2 : t.arc.length < 2 ^ 40) (h3 : t.order.length < 2 ^ 40) (hK : ∀ h', Ext h h' → K (.bool true) h') : callS Tryz.prog F_milestoneref10_Same [va, vb] h K := by
  obtain ⟨sd, sa, so, rfl, a1, a2, a3⟩ := Ha
  obtain ⟨sd', sa', so', rfl, b1, b2, b3⟩ := Hb
  refine callS_of (lk_milestoneref10_Same _ _ ?_)
  unfold sh_milestoneref10_Same
  refine (Own.start h).box fun x h4 o4 => o4.box fun y h5 o5 => ?_
  simp only [pField_ptr]
  replace a1 := a1.more o5.ext
  replace b1 := b1.more o5.ext
  refine o5.load 1 rfl rfl (a1.len (o5.load 0 rfl rfl (b1.len ?_)))
  rw [pBin_neq, bne_self_eq_false, ifV_false]
  refine LoopH_count t.dist.length (fun i x h' => x.1 = I i ∧ h' = h5) ⟨rfl, rfl⟩ ?_
  rintro i ⟨x, ⟨⟩⟩ h' Z hi ⟨hx, rfl⟩ hZ
  dsimp only at hx hZ ⊢
  subst hx
  unfold sh_milestoneref10_Same_L1
  simp only [pField_ptr]
  refine o5.load 1 rfl rfl (a1.len ?_)
  simp only [pBin_lss, ifV_dec]
  refine ⟨fun hlt => ?_, fun hge => ?_⟩
  · have hlt : i < t.dist.length := by omega
    refine o5.load 1 rfl rfl (a1.atI hlt (o5.load 0 rfl rfl (b1.atI hlt ?_)))
    rw [pBin_neq, bne_self_eq_false, ifV_false, pBin_add, wI i (by omega)]
    exact hZ (I (i + 1 : Nat), ()) _ hlt ⟨rfl, rfl⟩
  · refine o5.load 1 rfl rfl (o5.load 0 rfl rfl ?_)
    refine rints_ok (e := id) (fun _ => rfl) (a2.more o5.ext) (b2.more o5.ext) h2 ?_
    rw [ifV_true]
    refine o5.load 1 rfl rfl (o5.load 0 rfl rfl ?_)
    exact rints_ok (e := fun n : Nat => (n : Int)) (fun _ => rfl) (a3.more o5.ext) (b3.more o5.ext) h3 (hK _ o5.ext)

end
end Go.Proofs.YtebjceofpaamjaaGreatDoor

namespace Go.Proofs.YtebjceofpaamjaaGreatDoor
open Go Go.Mh
set_option linter.unusedVariables false

section
variable {h0 h : Heap} {L : List Res} {K : Value → Heap → Prop} {g : G} {vb : Value} {bs : List Int}

theorem tree10_ok {v : Value} {t : Tr} (H : TreeV h v t) (hK : ∀ h', Ext h h' → K v h') : callS Tryz.prog F_milestonelaw10_tree [v] h K := by
  obtain ⟨sd, sa, so, rfl, a1, a2, a3⟩ := H
  refine callS_of (lk_milestonelaw10_tree _ ?_)
  unfold sh_milestonelaw10_tree
  refine (Own.start h).box fun x h4 o4 => o4.box fun y h5 o5 => ?_
  simp only [pField_ptr]
  refine o5.load 1 rfl rfl (o5.load 1 rfl rfl (o5.load 1 rfl rfl ?_))
  refine pBuild_ones (cs' := [_, _, _]) ?_ rfl rfl ?_
  · intro p hp
    simp at hp
    rcases hp with rfl | rfl | rfl
    · exact a1.one
    · exact a2.one
    · exact a3.one
  · refine o5.st (l := [_, _, _]) 0 rfl rfl rfl rfl rfl ?_ fun h6 o6 => o6.ldN 0 rfl rfl rfl (hK h6 o6.ext)
    intro u hu
    simp at hu
    rcases hu with rfl | rfl | rfl
    · exact a1.plain
    · exact a2.plain
    · exact a3.plain

/-- One of the comparisons. -/
theorem told10 {x y : Value} {t : Tr} {h2 h3 : Heap} (o : Own h0 h L) (Ha : TreeV h x t) (x2 : Ext h h2) (hb : TreeK h2 t K) : TreeK h2 t K := hb

theorem tr_short {g : G} (hR : g.Right) {s : Int} : (g.fromI s).dist.length < 2 ^ 40 ∧ (g.fromI s).arc.length < 2 ^ 40 ∧ (g.fromI s).order.length < 2 ^ 40 := by
  have := tr_len hR (s := s)
  have := hR.most
  omega
theorem tr_shortT {g : G} (hR : g.Right) {s : Int} : (g.toI s).dist.length < 2 ^ 40 ∧ (g.toI s).arc.length < 2 ^ 40 ∧ (g.toI s).order.length < 2 ^ 40 := by
  have := tr_lenT hR (s := s)
  have := hR.most
  omega

theorem floodTells_ok {z : Int} (H : Vw encU8 1 h vb bs) (hK : ∀ h', Ext h h' → K (.bool true) h') : CallsH Tryz.prog F_milestonelaw10_FloodTells [vb, I z].toArray h K := by
  refine lk_milestonelaw10_FloodTells _ _ ?_
  unfold sh_milestonelaw10_FloodTells
  refine drawn10_ok H fun g vx vy va h1 hg o1 => ?_
  have hR := hg.toRight
  have hm := hR.most
  refine o1.box fun b h2 o2 => ?_
  refine o2.st 0 rfl rfl rfl rfl rfl ?_ fun h3 o3 => ?_
  · intro u hu
    simp at hu
    rcases hu with rfl | rfl | rfl | rfl
    · rfl
    · exact (o2.vw 1 rfl).plain
    · exact (o2.vw 2 rfl).plain
    · exact (o2.vw 3 rfl).plain
  refine o3.ldN 0 rfl rfl rfl ?_
  refine new_net_ok o3 hR (rawOf o3 1 2 3 rfl rfl rfl) fun r N h4 hN o4 => ?_
  simp only [pExt0, pExt1, pEq_iface_nil, pEq_ptr_nil, Option.isNone_some, ifV_false]
  refine LoopH_count (g.n + 2) (fun i x h' => x.1 = I ((i : Int) - 1) ∧ Own h h' [N, cellR b [I g.n, vx, vy, va] T_api_Raw, xR vx g.X, xR vy g.Y, aR va g.arcs]) ⟨rfl, o4⟩ ?_
  clear o4 o3 o2 o1
  rintro i ⟨x, ⟨⟩⟩ h' Z hi ⟨hx, o⟩ hZ
  dsimp only at hx hZ ⊢
  subst hx
  unfold sh_milestonelaw10_FloodTells_L2
  simp only [pField_ptr]
  refine o.load 1 rfl rfl ?_
  simp only [pBin_leq (b := (g.n : Int)), ifV_dec]
  refine ⟨fun hlt => ?_, fun _ => ?_⟩
  · refine cutP_of (fun y h'' => y.1 = .bool false ∧ Own h h'' [N, cellR b [I g.n, vx, vy, va] T_api_Raw, xR vx g.X, xR vy g.Y, aR va g.arcs]) (fun J hJ => ?_) ?_
    · refine o.ldN 1 rfl rfl rfl ?_
      have S := tr_short hR (s := (i : Int) - 1)
      have S' := tr_shortT hR (s := (i : Int) - 1)
      refine from_ok hR (hN _ (o.get 0 rfl)) (TreeK.of fun vt h2 hv x2 => ?_)
      replace o := o.more x2
      refine ⟨o.ldN 1 rfl rfl rfl rfl, tree10_ok hv fun h3 x3 => ?_⟩
      replace o := o.more x3
      replace hv := hv.more x3
      refine ⟨o.ldN 1 rfl rfl rfl rfl, ?_⟩
      refine rfrom_ok hR (rawOf o 2 3 4 rfl rfl rfl) (TreeK.of fun vt' h4 hv' x4 => ?_)
      replace o := o.more x4
      refine rsame_ok (hv.more x4) hv' S.1 S.2.1 S.2.2 fun h5 x5 => ?_
      replace o := o.more x5
      rw [pUn_not, Bool.not_true, ifV_false]
      refine o.ldN 1 rfl rfl rfl ?_
      refine to_ok hR (hN _ (o.get 0 rfl)) (TreeK.of fun vt h6 hv x6 => ?_)
      replace o := o.more x6
      refine ⟨o.ldN 1 rfl rfl rfl rfl, tree10_ok hv fun h7 x7 => ?_⟩
      replace o := o.more x7
      replace hv := hv.more x7
      refine ⟨o.ldN 1 rfl rfl rfl rfl, ?_⟩
      refine rto_ok hR (rawOf o 2 3 4 rfl rfl rfl) (TreeK.of fun vt' h8 hv' x8 => ?_)
      replace o := o.more x8
      refine rsame_ok (hv.more x8) hv' S'.1 S'.2.1 S'.2.2 fun h9 x9 => ?_
      replace o := o.more x9
      rw [pUn_not, Bool.not_true]
      exact hJ _ _ ⟨rfl, o⟩
    · rintro ⟨y, ⟨⟩⟩ h'' ⟨hy, o⟩
      dsimp only at hy ⊢
      subst hy
      unfold sh_milestonelaw10_FloodTells_C3
      rw [ifV_false, pBin_add, w64 (by omega) (by omega)]
      refine hZ (I _, ()) _ (by omega) ⟨?_, o⟩
      show I ((i : Int) - 1 + 1) = I (((i + 1 : Nat) : Int) - 1)
      rw [show (i : Int) - 1 + 1 = ((i + 1 : Nat) : Int) - 1 by omega]
  · refine cutP_of (fun y h'' => y.1 = .bool true ∧ Ext h h'') (fun J hJ => ?_) ?_
    · refine o.ldN 1 rfl rfl rfl ?_
      have S := tr_short hR (s := z)
      refine from_ok hR (hN _ (o.get 0 rfl)) (TreeK.of fun vt h2 hv x2 => ?_)
      replace o := o.more x2
      refine ⟨o.ldN 1 rfl rfl rfl rfl, tree10_ok hv fun h3 x3 => ?_⟩
      replace o := o.more x3
      replace hv := hv.more x3
      refine ⟨o.ldN 1 rfl rfl rfl rfl, ?_⟩
      refine rfrom_ok hR (rawOf o 2 3 4 rfl rfl rfl) (TreeK.of fun vt' h4 hv' x4 => ?_)
      replace o := o.more x4
      refine rsame_ok (hv.more x4) hv' S.1 S.2.1 S.2.2 fun h5 x5 => ?_
      replace o := o.more x5
      rw [ifV_true]
      exact works10_ok fun h6 x6 => hJ _ _ ⟨rfl, (o.more x6).ext⟩
    · rintro ⟨y, ⟨⟩⟩ h'' ⟨hy, x⟩
      dsimp only at hy ⊢
      subst hy
      unfold sh_milestonelaw10_FloodTells_C4
      exact hK _ x

end
end Go.Proofs.YtebjceofpaamjaaGreatDoor
