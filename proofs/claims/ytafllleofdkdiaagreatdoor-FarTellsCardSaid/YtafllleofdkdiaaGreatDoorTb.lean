/- Texts of the proofs of seat YtafllleofdkdiaaGreatDoor, joined: HpH, HpI, HoA, FlA, FlB, FlC, FlD, FaA, FaB, FaC, FaD, R7C, F15A, F15B, R7A, R7B, R15A, F15D. They have no conditions of their own. -/
import Derived.Test.YtafllleofdkdiaaGreatDoorTa
import Derived.Test.YtafllleofdkdiaaGreatDoorMc
import Derived.Test.YtafllleofdkdiaaGreatDoorMd
set_option linter.unusedVariables false
set_option linter.unusedSimpArgs false

namespace Go.Proofs.YtafllleofdkdiaaGreatDoor
open Go Go.Mh

theorem swapL_last {l : List HE} (hl : 0 < l.length) : swapL l 0 (l.length - 1) hl (by omega) = (swapL l 0 (l.length - 1) hl (by omega)).take (l.length - 1) ++ [l[0]] := by
  have hlen := swapL_length (l := l) hl (show l.length - 1 < l.length by omega)
  apply List.ext_getElem
  · simp [hlen]; omega
  · intro j h1 h2
    rw [hlen] at h1
    by_cases hj : j < l.length - 1
    · rw [List.getElem_append_left (by simp [hlen]; omega)]; simp
    · have : j = l.length - 1 := by omega
      subst this
      rw [swapL_get, if_pos rfl, List.getElem_append_right (by simp [hlen])]
      simp

theorem pos_del {l2 : List HE} {p : HE} (hn : ((l2 ++ [p]).map (·.1)).Nodup) (x : Int) : fdel (pos (l2 ++ [p])) p.1 x = pos l2 x := by
  unfold fdel
  by_cases hx : x = p.1
  · subst hx
    rw [if_pos rfl]
    refine (pos_none fun q hq e => ?_).symm
    rw [List.map_append, List.nodup_append] at hn
    exact hn.2.2 q.1 (List.mem_map.2 ⟨q, hq, rfl⟩) p.1 (by simp) e
  · rw [if_neg hx]
    unfold pos
    rw [List.findIdx?_append]
    have : [p].findIdx? (fun q => q.1 == x) = none := by
      rw [List.findIdx?_eq_none_iff]; intro q hq; simp at hq; subst hq; simpa using fun e => hx e.symm
    rw [this]; simp

theorem pop_ok {h : Heap} {F : Nat → Prop} {r : Nat} {l : List HE} {n : Int} {K : Value → Heap → Prop} (H : HV h F r l n)
    (h0 : l = [] → K (.tuple #[I 0, I 0, .bool false]) h)
    (h1 : ∀ p, Min l p → ∀ h' F' l', HV h' F' r l' n → l'.Perm (l.erase p) → Grow h F F' → Upd F h h' → K (.tuple #[I p.1, I p.2, .bool true]) h') :
    callS Tryz.prog F_heap_Heap_Pop [ptr r] h K := by
  refine callS_of (lk_heap_Heap_Pop _ ?_)
  unfold sh_heap_Heap_Pop
  refine len_ok H ?_
  obtain ⟨⟨m, bl, R, ho, f1, f2, f3⟩, hlow, hrg⟩ := H
  obtain ⟨v, hr, hs⟩ := R.slr
  obtain ⟨es, c, hm, him⟩ := R.map
  have c0 := hcell0 hr
  simp only [pBin_eql, ifV_beq, pNil_ptr, pField_ptr, pLoad_ptr, c0, Nat.zero_add]
  refine ⟨fun he => h0 (List.eq_nil_of_length_eq_zero (by omega)), fun he => ?_⟩
  have hl : 0 < l.length := by omega
  refine hs.idx (i := 0) (k := .i64) hl ?_
  simp only [pLoadN_ptr, Nat.zero_mul]
  have ca : cellsAt h bl 0 2 = some [I l[0].1, I l[0].2] := by
    obtain ⟨cap, rest, rfl, hb, _, _⟩ := hs.full hl
    have hlen := row_length encH_len l
    rw [cellsAt_of (i := 0) hb 2 0 (by simp [hlen]; omega)]
    have := row_slot encH_len hl rest
    rw [Nat.zero_mul] at this
    rw [this]; rfl
  simp only [ca]
  refine hs.lenK ?_
  have e1 : IntKind.i64.wrap ((l.length : Int) - 1) = ((l.length - 1 : Nat) : Int) := by
    have := R.small
    rw [w64 (by omega) (by omega)]; omega
  rw [pBin_sub, e1]
  refine pBox_of ?_
  refine pStore_of rfl push_new rfl (by simp) (by simp [Mh.plainCell]) ?_
  have x1 : Ext h (upd (h.push (.cells (Value.agg #[.int .i64 0, .int .i64 0]).cells T_heap_held (0, 0))) h.size (.cells (over [Value.int .i64 0, Value.int .i64 0] 0 (Value.agg [I l[0].1, I l[0].2].toArray).cells.toList).toArray T_heap_held (0, 0))) :=
    ((Upd.push _ _ _).trans (Upd.upd (S := fun b => b = h.size) _ _ rfl) (fun b hb hlt => by omega))
  have hf1 : (upd (h.push (.cells (Value.agg #[.int .i64 0, .int .i64 0]).cells T_heap_held (0, 0))) h.size (.cells (over [Value.int .i64 0, Value.int .i64 0] 0 (Value.agg [I l[0].1, I l[0].2].toArray).cells.toList).toArray T_heap_held (0, 0)))[h.size]? =
    some (.cells #[I l[0].1, I l[0].2] T_heap_held (0, 0)) := upd_self' push_new
  have hsz1 := get_lt hf1
  generalize (upd (h.push (.cells (Value.agg #[.int .i64 0, .int .i64 0]).cells T_heap_held (0, 0))) h.size (.cells (over [Value.int .i64 0, Value.int .i64 0] 0 (Value.agg [I l[0].1, I l[0].2].toArray).cells.toList).toArray T_heap_held (0, 0))) = hA at x1 hf1 hsz1
  have R1 := R.upd x1 id id id
  have hrA := x1.get hr
  have cA := hcell0 hrA
  simp only [cA, true_and]
  have hrs := hlow _ f1
  have hms := hlow _ f2
  have hbs := hlow _ f3
  refine swap_ok R1 (i := 0) (k := l.length - 1) hl (by omega) fun h2 R2 u2 => ?_
  obtain ⟨S, R2, hlen, hS, hnd, hperm, hgt⟩ : ∃ S : List HE, Rep h2 r m bl S n ∧ S.length = l.length ∧ S = S.take (l.length - 1) ++ [l[0]] ∧ (S.map (·.1)).Nodup ∧ S.Perm l ∧
      (∀ j, gt S j = if j = l.length - 1 then gt l 0 else if j = 0 then gt l (l.length - 1) else gt l j) :=
    ⟨_, R2, swapL_length _ _, swapL_last hl, R2.ids, swapL_perm _ _, swapL_gt _ _⟩
  obtain ⟨v2, hr2, hs2⟩ := R2.slr
  obtain ⟨es2, c2, hm2, him2⟩ := R2.map
  have d0 := hcell0 hr2
  have hf2 := u2.get hf1 (by omega)
  simp only [d0]
  refine hs2.pre encH_len (by rw [hlen]; omega) fun v3 hs3 => ?_
  have hcs3 : v3.cells.size = 1 ∧ (∀ u ∈ v3.cells.toList, Mh.plainCell u = true) ∧ v3.cells.toList = [v3] := by
    rcases hs3.len with ⟨_, _, rfl⟩; simp
  refine pStore_of rfl hr2 hcs3.1 (by rw [hcs3.1]; simp) hcs3.2.1 ?_
  have ec : over [v2, Value.map (some m), I n] 0 v3.cells.toList = [v3, Value.map (some m), I n] := by rw [hcs3.2.2]; rfl
  rw [ec]
  have u3 : Upd (fun b => b = r) h2 (upd h2 r (.cells [v3, Value.map (some m), I n].toArray tHeap (0, 0))) := Upd.upd _ _ rfl
  have hr3 : (upd h2 r (.cells [v3, Value.map (some m), I n].toArray tHeap (0, 0)))[r]? = _ := upd_self' hr2
  obtain ⟨hne1, hne2, hne3⟩ := R2.r_ne (by omega)
  have hm3 := u3.get hm2 (fun e => hne2 e.symm)
  have hs3' := hs3.upd u3 (fun e => hne1 e.symm)
  have hf3 := u3.get hf2 (by omega)
  generalize upd h2 r (.cells [v3, Value.map (some m), I n].toArray tHeap (0, 0)) = h3 at u3 hr3 hm3 hs3' hf3
  have g1 := hcell1 hr3
  have g2 := hcell0 hf3
  simp only [g1, g2, pField_ptr, pLoad_ptr, Nat.add_zero, Nat.zero_add]
  refine delete_of hm3 him2 fun es4 him4 => ?_
  have u4 : Upd (fun b => b = m) h3 (upd h3 m (.map es4 c2)) := Upd.upd _ _ rfl
  have hr4 := u4.get hr3 hne2
  have hm4 : (upd h3 m (.map es4 c2))[m]? = _ := upd_self' hm3
  have hs4 := hs3'.upd u4 hne3
  have hf4 := u4.get hf3 (by omega)
  generalize upd h3 m (.map es4 c2) = h4 at u4 hr4 hm4 hs4 hf4
  have hl2 : (S.take (l.length - 1)).length = l.length - 1 := by simp [hlen]
  have hpS : S.Perm (l[0] :: S.take (l.length - 1)) := by
    rw [hS]
    have : ((S.take (l.length - 1)) ++ [l[0]]).take (l.length - 1) = S.take (l.length - 1) := by rw [List.take_append_of_le_length (by rw [hl2]; exact Nat.le_refl _), List.take_take, Nat.min_self]
    rw [this]
    exact List.perm_append_comm
  have R4 : Rep h4 r m bl (S.take (l.length - 1)) n := by
    refine Rep.of hr4 hs4 hm4 (him4.congr fun x => ?_) ?_ (by rw [hl2]; have := R.small; omega)
    · have := pos_del (l2 := S.take (l.length - 1)) (p := l[0]) (by rw [← hS]; exact hnd) x
      rw [← hS] at this; exact this
    · have := (hpS.map (·.1)).nodup_iff.1 hnd
      rw [List.map_cons, List.nodup_cons] at this
      exact this.2
  have gtk : ∀ j, j < l.length - 1 → gt (S.take (l.length - 1)) j = gt S j := by
    intro j hj
    rw [← gt_eq (by rw [hl2]; exact hj), ← gt_eq (by rw [hlen]; omega)]
    simp
  have hbl4 : bl < h4.size := by
    have a := x1.size; have b := u2.size; have c := u3.size; have d := u4.size; omega
  have u14 : Upd F h h4 := (((x1.mono (S' := F) fun _ hf _ => hf.elim).trans u2 fun b hb _ => by rcases hb with rfl | rfl; exact f2; exact f3).trans u3 fun b hb _ => by subst hb; exact f1).trans u4 fun b hb _ => by subst hb; exact f2
  refine down_ok R4 (i := 0) (by decide) (by rcases Nat.eq_zero_or_pos (l.length - 1) with e | e; exact .inr (List.eq_nil_of_length_eq_zero (by rw [hl2]; exact e)); exact .inl (by rw [hl2]; exact e)) hbl4 ?_ fun h5 l5 R5 hp5 ho5 u5 => ?_
  · refine ⟨fun j j0 j1 j2 => ?_, fun i0 => absurd i0 (Nat.lt_irrefl 0)⟩
    rw [hl2] at j1
    have hj4 : (j - 1) / 4 < l.length - 1 := by omega
    rw [gtk j j1, gtk _ hj4, hgt, hgt, if_neg (by omega), if_neg (by omega), if_neg (by omega), if_neg (by omega)]
    exact ho j j0 (by omega)
  · have hf5 := u5.get hf4 (by omega)
    have k0 := hcell0 hf5
    have k1 := hcell1 hf5
    simp only [k0, k1, pField_ptr, pLoad_ptr, Nat.add_zero, Nat.zero_add]
    have u15 : Upd F h h5 := u14.trans u5 fun b hb _ => by rcases hb with rfl | rfl; exact f2; exact f3
    have hpe : l5.Perm (l.erase l[0]) := by
      have := (hperm.symm.trans hpS).erase l[0]
      simp only [List.erase_cons_head] at this
      exact hp5.trans this.symm
    refine h1 l[0] (ho.min hl) h5 F l5 ⟨⟨m, bl, R5, ho5, f1, f2, f3⟩, fun b hb => Nat.lt_of_lt_of_le (hlow b hb) u15.size, fun p hp => hrg p (List.mem_of_mem_erase (hpe.mem_iff.1 hp))⟩ hpe (fun b hb => .inl hb) u15

theorem pop_nil {h : Heap} {K : Value → Heap → Prop} (hK : K (.tuple #[I 0, I 0, .bool false]) h) : callS Tryz.prog F_heap_Heap_Pop [.pointer none] h K := by
  refine callS_of (lk_heap_Heap_Pop _ ?_)
  unfold sh_heap_Heap_Pop
  refine callS_of (lk_heap_Heap_Len _ ?_)
  unfold sh_heap_Heap_Len
  simpa using hK

end Go.Proofs.YtafllleofdkdiaaGreatDoor

namespace Go.Proofs.YtafllleofdkdiaaGreatDoor
open Go Go.Mh

instance (l : List HE) (p : HE) : Decidable (Min l p) := by unfold Min; exact inferInstance

/-- The same, where only what is held counts, not how it lies. -/
def PV (h : Heap) (F : Nat → Prop) (r : Nat) (L : List HE) (n : Int) : Prop := ∃ l, HV h F r l n ∧ l.Perm L

def Disj (F G : Nat → Prop) : Prop := ∀ b, F b → ¬ G b

section
variable {h h' : Heap} {F G S : Nat → Prop} {r : Nat} {L : List HE} {n id key : Int} {K : Value → Heap → Prop} {p : HE}

theorem PV.upd (H : PV h F r L n) (hu : Upd S h h') (hd : Disj F S) : PV h' F r L n := by
  obtain ⟨l, H, hp⟩ := H; exact ⟨l, H.upd hu hd, hp⟩
theorem PV.low (H : PV h F r L n) : ∀ b, F b → b < h.size := by obtain ⟨l, H, hp⟩ := H; exact H.low
theorem PV.rng (H : PV h F r L n) : ∀ p ∈ L, 0 ≤ p.1 ∧ p.1 < n := by obtain ⟨l, H, hp⟩ := H; exact fun p h => H.rng p (hp.mem_iff.2 h)
theorem PV.nodup (H : PV h F r L n) : (L.map (·.1)).Nodup := by obtain ⟨l, H, hp⟩ := H; exact (hp.map _).nodup_iff.1 H.nodup

theorem Min.perm {l l' : List HE} (hp : l.Perm l') (h : Min l p) : Min l' p := ⟨hp.mem_iff.1 h.1, fun q hq => h.2 q (hp.mem_iff.2 hq)⟩

theorem PV.perm {L' : List HE} (H : PV h F r L n) (hp : L.Perm L') : PV h F r L' n := by
  obtain ⟨l, H, hp'⟩ := H; exact ⟨l, H, hp'.trans hp⟩

theorem plen (H : PV h F r L n) (hK : K (I L.length) h) : callS Tryz.prog F_heap_Heap_Len [ptr r] h K := by
  obtain ⟨l, H, hp⟩ := H; exact len_ok H (by rw [hp.length_eq]; exact hK)
theorem pkey (H : PV h F r L n) (h0 : (∀ p ∈ L, p.1 ≠ id) → K (.tuple #[I 0, .bool false]) h) (h1 : ∀ p ∈ L, p.1 = id → K (.tuple #[I p.2, .bool true]) h) : callS Tryz.prog F_heap_Heap_Key [ptr r, I id] h K := by
  obtain ⟨l, H, hp⟩ := H
  exact key_ok H (fun e => h0 fun p hm => e p (hp.mem_iff.2 hm)) fun p hm => h1 p (hp.mem_iff.1 hm)
theorem pnew (hK : ∀ h' F r, PV h' F r [] (max n 0) → (∀ b, F b → h.size ≤ b) → Ext h h' → K (ptr r) h') : callS Tryz.prog F_heap_New [I n] h K :=
  new_ok fun h' F r H a b => hK h' F r ⟨[], H, .refl _⟩ a b
theorem ppush (H : PV h F r L n) (hsm : L.length + 1 < 2 ^ 40)
    (h2 : ((∃ p ∈ L, p.1 = id) ∨ id < 0 ∨ n ≤ id) → K (I 2) h)
    (h0 : (∀ p ∈ L, p.1 ≠ id) → 0 ≤ id → id < n → ∀ h' F', PV h' F' r ((id, key) :: L) n → Grow h F F' → Upd F h h' → K (I 0) h') :
    callS Tryz.prog F_heap_Heap_Push [ptr r, I id, I key] h K := by
  obtain ⟨l, H, hp⟩ := H
  refine push_ok H (by rw [hp.length_eq]; exact hsm) (fun e => h2 ?_) fun hno a b h' F' l' H' hp' hg hu => h0 (fun p hm => hno p (hp.mem_iff.2 hm)) a b h' F' ⟨l', H', hp'.trans (hp.cons _)⟩ hg hu
  rcases e with ⟨p, hm, e⟩ | e
  · exact .inl ⟨p, hp.mem_iff.1 hm, e⟩
  · exact .inr e
theorem ppush0 (H : PV h F r L n) (hsm : L.length + 1 < 2 ^ 40) (hno : ∀ p ∈ L, p.1 ≠ id) (h1 : 0 ≤ id) (h2 : id < n)
    (h0 : ∀ h' F', PV h' F' r ((id, key) :: L) n → Grow h F F' → Upd F h h' → K (I 0) h') : callS Tryz.prog F_heap_Heap_Push [ptr r, I id, I key] h K :=
  ppush H hsm (fun e => by
    rcases e with ⟨p, hm, e⟩ | e
    · exact (hno p hm e).elim
    · omega) fun _ _ _ => h0
theorem ppush2 (H : PV h F r L n) (hsm : L.length + 1 < 2 ^ 40) (hno : (∃ p ∈ L, p.1 = id) ∨ id < 0 ∨ n ≤ id) (h2 : K (I 2) h) : callS Tryz.prog F_heap_Heap_Push [ptr r, I id, I key] h K :=
  ppush H hsm (fun _ => h2) fun hn a b => by
    rcases hno with ⟨p, hm, e⟩ | e
    · exact (hn p hm e).elim
    · omega
theorem plower (H : PV h F r L n)
    (h2 : (id < 0 ∨ n ≤ id) → K (I 2) h) (h20 : 0 ≤ id → id < n → (∀ p ∈ L, p.1 ≠ id) → K (I 20) h) (h2' : ∀ p ∈ L, p.1 = id → p.2 < key → K (I 2) h)
    (h0 : ∀ p ∈ L, p.1 = id → ¬ p.2 < key → ∀ h' F', PV h' F' r ((id, key) :: L.erase p) n → Grow h F F' → Upd F h h' → K (I 0) h') :
    callS Tryz.prog F_heap_Heap_Lower [ptr r, I id, I key] h K := by
  obtain ⟨l, H, hp⟩ := H
  exact lower_ok H h2 (fun a b e => h20 a b fun p hm => e p (hp.mem_iff.2 hm)) (fun p hm => h2' p (hp.mem_iff.1 hm)) fun p hm e hk h' F' l' H' hp' hg hu =>
    h0 p (hp.mem_iff.1 hm) e hk h' F' ⟨l', H', hp'.trans ((hp.erase p).cons _)⟩ hg hu
theorem id_uniq (hn : (L.map (·.1)).Nodup) {q : HE} (hp : p ∈ L) (hq : q ∈ L) (he : p.1 = q.1) : p = q := by
  obtain ⟨i, hi, rfl⟩ := List.mem_iff_getElem.1 hp
  obtain ⟨j, hj, rfl⟩ := List.mem_iff_getElem.1 hq
  have := ids_inj hn hi hj he
  subst this; rfl
theorem plower0 (H : PV h F r L n) (hp : p ∈ L) (he : p.1 = id) (hk : ¬ p.2 < key)
    (h0 : ∀ h' F', PV h' F' r ((id, key) :: L.erase p) n → Grow h F F' → Upd F h h' → K (I 0) h') : callS Tryz.prog F_heap_Heap_Lower [ptr r, I id, I key] h K := by
  have hr := H.rng p hp
  refine plower H (fun e => by omega) (fun _ _ e => (e p hp he).elim) (fun q hq e hk' => ?_) fun q hq e hk' => ?_
  · have := id_uniq H.nodup hp hq (he.trans e.symm); subst this; exact (hk hk').elim
  · have := id_uniq H.nodup hp hq (he.trans e.symm); subst this; exact h0
theorem plower2 (H : PV h F r L n) (hp : (∃ p ∈ L, p.1 = id ∧ p.2 < key) ∨ id < 0 ∨ n ≤ id) (h2 : K (I 2) h) : callS Tryz.prog F_heap_Heap_Lower [ptr r, I id, I key] h K := by
  refine plower H (fun _ => h2) (fun a b e => ?_) (fun _ _ _ _ => h2) fun q hq e hk' => ?_
  · rcases hp with ⟨p, hm, e', _⟩ | e'
    · exact (e p hm e').elim
    · omega
  · rcases hp with ⟨p, hm, e', hk⟩ | e'
    · have := id_uniq H.nodup hm hq (e'.trans e.symm); subst this; exact (hk' hk).elim
    · have := H.rng q hq; omega
theorem plower20 (H : PV h F r L n) (h1 : 0 ≤ id) (h2 : id < n) (hp : ∀ p ∈ L, p.1 ≠ id) (hK : K (I 20) h) : callS Tryz.prog F_heap_Heap_Lower [ptr r, I id, I key] h K :=
  plower H (fun _ => by omega) (fun _ _ _ => hK) (fun q hq e => (hp q hq e).elim) fun q hq e => (hp q hq e).elim
theorem ppop (H : PV h F r L n) (h0 : L = [] → K (.tuple #[I 0, I 0, .bool false]) h)
    (h1 : ∀ p, Min L p → ∀ h' F', PV h' F' r (L.erase p) n → Grow h F F' → Upd F h h' → K (.tuple #[I p.1, I p.2, .bool true]) h') : callS Tryz.prog F_heap_Heap_Pop [ptr r] h K := by
  obtain ⟨l, H, hp⟩ := H
  exact pop_ok H (fun e => h0 (by subst e; exact hp.nil_eq.symm)) fun p hm h' F' l' H' hp' hg hu => h1 p (hm.perm hp) h' F' ⟨l', H', hp'.trans (hp.erase p)⟩ hg hu
theorem ppop1 (H : PV h F r L n) (hm : Min L p) (h1 : ∀ h' F', PV h' F' r (L.erase p) n → Grow h F F' → Upd F h h' → K (.tuple #[I p.1, I p.2, .bool true]) h') : callS Tryz.prog F_heap_Heap_Pop [ptr r] h K :=
  ppop H (fun e => by subst e; simp [Min] at hm) fun q hq => by
    have := hq.uniq hm (.refl _); subst this; exact h1

theorem Disj.step {F' : Nat → Prop} (d : Disj F G) (hg : Grow h F F') (hl : ∀ b, G b → b < h.size) : Disj F' G := fun b hb hG => by
  rcases hg b hb with hb | hb
  · exact d b hb hG
  · have := hl b hG; omega
theorem Disj.symm (d : Disj F G) : Disj G F := fun b h1 h2 => d b h2 h1
end

end Go.Proofs.YtafllleofdkdiaaGreatDoor

namespace Go.Proofs.YtafllleofdkdiaaGreatDoor
open Go Go.Mh
set_option linter.unusedVariables false

/-! ### A heap as a part of memory -/

theorem Rep.st {h h' : Heap} {r m bl : Nat} {l : List HE} {n : Int} (H : Rep h r m bl l n) (h1 : h'[r]? = h[r]?) (h2 : h'[m]? = h[m]?) (h3 : h'[bl]? = h[bl]?) : Rep h' r m bl l n := by
  obtain ⟨⟨sl, cap, rest, hr, hs⟩, ⟨es, c, hm, hi⟩, hn, hsm⟩ := H
  refine ⟨⟨sl, cap, rest, h1.trans hr, ?_⟩, ⟨es, c, h2.trans hm, hi⟩, hn, hsm⟩
  rcases hs with hs | ⟨a, b, c, d⟩
  · exact .inl hs
  · exact .inr ⟨a, h3.trans b, c, d⟩

def hpR (F : Nat → Prop) (r : Nat) (H : List HE) (n : Nat) : Res := ⟨F, fun h => ∃ l, (∃ m bl, Rep h r m bl l n ∧ HeapOrd l ∧ F r ∧ F m ∧ F bl) ∧ (∀ p ∈ l, 0 ≤ p.1 ∧ p.1 < n) ∧ l.Perm H, fun hs ⟨l, ⟨m, bl, R, ho, f1, f2, f3⟩, hr, hp⟩ =>
  ⟨l, ⟨m, bl, R.st (hs _ f1) (hs _ f2) (hs _ f3), ho, f1, f2, f3⟩, hr, hp⟩⟩

theorem PV.toR {h : Heap} {F : Nat → Prop} {r : Nat} {H : List HE} {n : Nat} (P : PV h F r H n) : (hpR F r H n).Q h := by
  obtain ⟨l, ⟨a, b, c⟩, d⟩ := P; exact ⟨l, a, c, d⟩

section
variable {h0 h : Heap} {L : List Res} {F : Nat → Prop} {r n : Nat} {H : List HE} {id key : Int} {K : Value → Heap → Prop}

theorem own_pv (o : Own h0 h L) (i : Nat) (hi : L[i]? = some (hpR F r H n)) : PV h F r H n := by
  obtain ⟨l, a, c, d⟩ := o.get i hi
  exact ⟨l, ⟨a, fun b hb => ((o.q hi).2 b hb).2, c⟩, d⟩

theorem min_iff {p : HE} : Min H p ↔ p ∈ H ∧ ∀ q ∈ H, ¬ hl q p = true := by
  unfold Min
  have : ∀ q : HE, hlt q p = hl q p := fun q => by
    have h1 := @hlt_iff q p
    have h2 := @hl_iff q p
    by_cases hx : hl q p = true
    · rw [hx]; exact h1.2 (h2.1 hx)
    · simp at hx; rw [hx]
      by_cases hy : hlt q p = true
      · rw [h2.2 (h1.1 hy)] at hx; cases hx
      · simpa using hy
  simp only [this]

theorem least_min {p : HE} (h : least H = some p) : Min H p := min_iff.2 (least_spec h)

theorem ho_new (o : Own h0 h L) (hK : ∀ F r h', Own h0 h' (hpR F r [] n :: L) → K (ptr r) h') : callS Tryz.prog F_heap_New [I n] h K := by
  refine pnew fun h' F r P hF x => hK F r h' (o.cons x ?_ fun b hb => ⟨hF b hb, P.low b hb⟩)
  rw [show max (n : Int) 0 = n by omega] at P
  exact P.toR

theorem own_hp {h' : Heap} {F' : Nat → Prop} {H' : List HE} (o : Own h0 h L) (i : Nat) (hi : L[i]? = some (hpR F r H n)) (P : PV h' F' r H' n) (g : Grow h F F') (u : Upd F h h') : Own h0 h' (L.set i (hpR F' r H' n)) :=
  o.set i hi u P.toR fun b hb => ⟨g b hb, P.low b hb⟩

theorem ho_push (o : Own h0 h L) (i : Nat) (hi : L[i]? = some (hpR F r H n)) (hsm : H.length + 1 < 2 ^ 40) {v : Nat} (hno : ∀ p ∈ H, p.1 ≠ v) (hv : v < n)
    (hK : ∀ F' h', Own h0 h' (L.set i (hpR F' r (((v : Int), key) :: H) n)) → K (I 0) h') : callS Tryz.prog F_heap_Heap_Push [ptr r, I v, I key] h K :=
  ppush0 (own_pv o i hi) hsm hno (by omega) (by omega) fun h' F' P g u => hK F' h' (own_hp o i hi P g u)

theorem ho_lower (o : Own h0 h L) (i : Nat) (hi : L[i]? = some (hpR F r H n)) {v : Nat} {was : Int} (hm : ((v : Int), was) ∈ H) (hk : ¬ was < key)
    (hK : ∀ F' h', Own h0 h' (L.set i (hpR F' r (((v : Int), key) :: H.erase ((v : Int), was)) n)) → K (I 0) h') : callS Tryz.prog F_heap_Heap_Lower [ptr r, I v, I key] h K :=
  plower0 (own_pv o i hi) hm rfl hk fun h' F' P g u => hK F' h' (own_hp o i hi P g u)

theorem ho_key (o : Own h0 h L) (i : Nat) (hi : L[i]? = some (hpR F r H n)) {v : Nat}
    (hK : K (.tuple #[I ((lookH H v).getD 0), .bool (lookH H v).isSome]) h) : callS Tryz.prog F_heap_Heap_Key [ptr r, I v] h K := by
  have P := own_pv o i hi
  refine pkey P (fun hno => ?_) fun p hp e => ?_
  · have : lookH H v = none := lookH_none.2 hno
    rw [this] at hK; exact hK
  · cases hl : lookH H v with
    | none => exact absurd e (lookH_none.1 hl p hp)
    | some k =>
      have hm := lookH_some hl
      have := id_uniq P.nodup hp hm e
      subst this
      rw [hl] at hK; exact hK

theorem ho_pop (o : Own h0 h L) (i : Nat) (hi : L[i]? = some (hpR F r H n)) (hz : least H = none → ∀ h', Own h0 h' L → K (.tuple #[I 0, I 0, .bool false]) h')
    (hK : ∀ p, least H = some p → ∀ F' h', Own h0 h' (L.set i (hpR F' r (H.erase p) n)) → K (.tuple #[I p.1, I p.2, .bool true]) h') : callS Tryz.prog F_heap_Heap_Pop [ptr r] h K := by
  cases hl : least H with
  | none =>
    have e := least_none.1 hl
    subst e
    exact ppop (own_pv o i hi) (fun _ => hz hl h o) fun p hm => by simp [Min] at hm
  | some p => exact ppop1 (own_pv o i hi) (least_min hl) fun h' F' P g u => hK p hl F' h' (own_hp o i hi P g u)

end
end Go.Proofs.YtafllleofdkdiaaGreatDoor

namespace Go.Proofs.YtafllleofdkdiaaGreatDoor
open Go Go.Mh
set_option linter.unusedVariables false

section
variable {h0 h : Heap} {L : List Res} {K : Value → Heap → Prop} {g : G} {r : Nat}

theorem from1_end : EndF (.func (.func F_flood_From_1) #[] #[]) A.t := by
  intro a h K hK
  refine callV_of (l := [.agg (encA a).toArray]) rfl (lk_flood_From_1 _ ?_)
  unfold sh_flood_From_1
  refine (Own.start h).box fun b h1 o1 => ?_
  simp only [pField_ptr]
  exact o1.load 0 rfl rfl (hK _ o1.ext)
theorem farcs_iter {l4 n3 e5 : Nat} {vl endv : Value} {ids : List Nat} {head : A → Nat} {T1 T2 T3 : TypeId} (hids : ∀ i ∈ ids, i < g.arcs.length) (hmany : ids.length < 2 ^ 40) (hE : EndF endv head) :
    Iter Tryz.prog (.func (.func F_flood_arcs_1) #[] #[ptr l4, ptr n3, ptr e5])
      (fun h => h[l4]? = some (.cells #[vl] T1 (0, 0)) ∧ h[n3]? = some (.cells #[ptr r] T2 (0, 0)) ∧ h[e5]? = some (.cells #[endv] T3 (0, 0)) ∧ Vw encN 1 h vl ids ∧ NetR h r g) ids.length
      (fun i hi => [I ids[i], vA ⟨0, head (arcAt g.arcs ids[i]), (arcAt g.arcs ids[i]).w⟩]) := by
  rintro yv h0 h Rs K J E ⟨l, rfl⟩ o j0 hQ hY hK
  refine callF_of (l := [yieldV l, ptr l4, ptr n3, ptr e5]) rfl (lk_flood_arcs_1 _ _ _ _ ?_)
  unfold sh_flood_arcs_1
  obtain ⟨hb, _, _, hv, _⟩ := hQ _ _ _ j0 o
  have hc : hcell h ⟨l4, 0, none⟩ = some vl := hcell_of hb rfl
  simp only [pLoad_ptr, hc]
  refine hv.len ?_
  refine LoopH_count ids.length (fun i x h' => x.1 = I i ∧ ∃ Rs', J i Rs' ∧ Own h0 h' Rs') ⟨rfl, Rs, j0, o⟩ ?_
  rintro i ⟨x, ⟨⟩⟩ h Z hi ⟨hx, Rs', hj, o⟩ hZ
  dsimp only at hx hZ ⊢
  subst hx
  unfold sh_flood_arcs_1_L1
  simp only [pBin_lss, ifV_dec]
  refine ⟨fun hlt => ?_, fun hge => ?_⟩
  · have hlt : i < ids.length := by omega
    obtain ⟨_, hn, he, hv, hN⟩ := hQ _ _ _ hj o
    refine hv.at1 (e := fun x : Nat => I x) (fun _ => rfl) hlt ?_
    have hc : hcell h ⟨n3, 0, none⟩ = some (ptr r) := hcell_of hn rfl
    simp only [pLoad_ptr, hc]
    have hil := hids _ (List.getElem_mem hlt)
    refine arc_ok hN hil fun h1 x1 => ?_
    have ea : arcAt g.arcs ids[i] = g.arcs[ids[i]] := by simp [arcAt, hil]
    have o1 := o.more x1
    simp only [pExt0, pExt1]
    refine o1.box fun b h2 o2 => o2.st 0 rfl rfl rfl rfl rfl (encA_plain _) fun h3 o3 => ?_
    obtain ⟨_, _, he3, _, _⟩ := hQ _ _ _ hj o3.tail
    have hc : hcell h3 ⟨e5, 0, none⟩ = some endv := hcell_of he3 rfl
    simp only [pLoad_ptr, hc, pField_ptr]
    refine o3.ldN 0 rfl rfl rfl ?_
    have hl := fun {K} (hk : K (I (g.arcs[ids[i]]).w)) => o3.load (off := 2) (K := K) 0 rfl rfl hk
    simp only [pLoad_ptr] at hl
    refine hl (hE _ _ _ fun h4 x4 => ?_)
    have o4 := o3.more x4
    refine ⟨o4.load 0 rfl rfl rfl, sizesOk_of rfl, ?_⟩
    rw [← ea]
    refine hY i _ (i + 1) Rs' [] h4 _ ⟨⟨hlt, rfl⟩, rfl⟩ hj o4.tail.nilTail (fun Rs'' h'' hj' o' => ?_) fun Rs'' h'' he o' => ?_
    · rw [pUn_not, Bool.not_true, ifV_false, pBin_add, wI i (by omega)]
      exact hZ (I (i + 1 : Nat), ()) h'' hlt ⟨rfl, Rs'', hj', o'.toNil⟩
    · rw [pUn_not, Bool.not_false, ifV_true]
      exact hK _ _ (.inr he) o'.toNil
  · have : i = ids.length := by omega
    exact hK _ _ (.inl ⟨i, this, hj⟩) o

/-- Who is closed, as the program keeps it. -/
def clo (order : List Nat) : Int → Option Value := fun k => if order.any (fun v => (v : Int) == k) then some (I 1) else none
theorem clo_in {order : List Nat} {v : Nat} (h : v ∈ order) : clo order v = some (I 1) := by
  have : order.any (fun u => (u : Int) == (v : Int)) = true := List.any_eq_true.2 ⟨v, h, by simp⟩
  simp [clo, this]
theorem clo_out {order : List Nat} {v : Nat} (h : v ∉ order) : clo order v = none := by
  have : order.any (fun u => (u : Int) == (v : Int)) = false := by
    simp only [List.any_eq_false, beq_iff_eq]
    intro u hu e
    have : u = v := by omega
    exact h (this ▸ hu)
  simp [clo, this]
theorem clo_add {order : List Nat} {v : Nat} (x : Int) : clo (order ++ [v]) x = fset (clo order) v (I 1) x := by
  unfold fset
  by_cases h : x = v
  · subst h; rw [if_pos rfl, clo_in (by simp)]
  · rw [if_neg h]
    have : ((v : Int) == x) = false := by simpa using fun e => h e.symm
    simp [clo, this]

theorem set_set_same {α : Type} {l : List α} {i j : Nat} {a b : α} (hi : l[i]? = some a) (hj : l[j]? = some b) : (l.set i a).set j b = l := by
  have e1 : l.set i a = l := by
    apply List.ext_getElem?
    intro k
    by_cases e : i = k
    · subst e; rw [List.getElem?_set_self (List.getElem?_eq_some_iff.1 hi).1, hi]
    · rw [List.getElem?_set_ne e]
  rw [e1]
  apply List.ext_getElem?
  intro k
  by_cases e : j = k
  · subst e; rw [List.getElem?_set_self (List.getElem?_eq_some_iff.1 hj).1, hj]
  · rw [List.getElem?_set_ne e]

theorem reach_ok {rr hp n m : Nat} {F : Nat → Prop} {sd sa so : Value} {s : FS} {B : Int} {v a : Nat} {d : Int} (o : Own h0 h L) (i1 i2 i3 i4 : Nat)
    (h1 : L[i1]? = some (cellR rr [ptr hp, sd, sa, so, .map (some m)] T_flood_run)) (h2 : L[i2]? = some (hpR F hp s.hp n)) (h3 : L[i3]? = some (slR encI 1 T_int sa s.arc)) (h4 : L[i4]? = some (mapR m (clo s.order)))
    (n12 : i2 ≠ i1) (n23 : i2 ≠ i3) (n24 : i2 ≠ i4) (inv : FInv n B s) (hn : n ≤ 16777216) (hv : v < n)
    (hK : ∀ F' h', Own h0 h' ((L.set i2 (hpR F' hp (s.reach v a d).hp n)).set i3 (slR encI 1 T_int sa (s.reach v a d).arc)) → K (.tuple #[]) h') :
    callS Tryz.prog F_flood_run_reach [ptr rr, I v, I a, I d] h K := by
  refine callS_of (lk_flood_run_reach _ _ _ _ ?_)
  unfold sh_flood_run_reach
  simp only [pNil_ptr, pField_ptr]
  refine o.load i1 h1 rfl (ho_key o i2 h2 ?_)
  simp only [pExt0, pExt1]
  refine o.load i1 h1 rfl ?_
  refine o.look i4 h4 ?_
  simp only [Bool.false_eq_true, if_false]
  have hlen : s.hp.length ≤ n := by
    have : (s.hp.map (·.1.toNat)).length ≤ n := nodup_le (by
      have : s.hp.map (·.1.toNat) = (s.hp.map (·.1)).map Int.toNat := by simp
      rw [this, List.nodup_iff_pairwise_ne, List.pairwise_map]
      refine (List.nodup_iff_pairwise_ne.1 inv.ids).imp_of_mem fun {x y} hx hy hne e => hne ?_
      obtain ⟨p, hp, rfl⟩ := List.mem_map.1 hx
      obtain ⟨q, hq, rfl⟩ := List.mem_map.1 hy
      obtain ⟨u, e1, _⟩ := inv.ent p hp
      obtain ⟨w, e2, _⟩ := inv.ent q hq
      rw [e1, e2] at e ⊢
      have e' : u = w := by simpa using e
      rw [e']) (fun x hx => by
      obtain ⟨p, hp, rfl⟩ := List.mem_map.1 hx
      obtain ⟨u, e1, e2, _⟩ := inv.ent p hp
      rw [e1]; simpa using e2)
    simpa using this
  by_cases hc : v ∈ s.order
  · rw [clo_in hc]
    simp only [Option.getD_some]
    have : s.reach v a d = s := by simp [FS.reach, hc]
    rw [this, ] at hK
    have hk := fun h => hK F h
    rw [set_set_same h2 h3] at hk
    simpa using hk h o
  · rw [clo_out hc]
    simp only [Option.getD_none, pBin_gtr, ifV_dec]
    refine ⟨fun e => by omega, fun _ => ?_⟩
    cases hl : lookH s.hp v with
    | some was =>
      simp only [Option.isSome_some, ifV_true, Option.getD_some, pBin_leq, ifV_dec]
      refine ⟨fun hle => ?_, fun hgt => ?_⟩
      · have : s.reach v a d = s := by simp [FS.reach, hc, hl, hle]
        rw [this] at hK
        have hk := fun h => hK F h
        rw [set_set_same h2 h3] at hk
        exact hk h o
      · unfold sh_flood_run_reach_k1 sh_flood_run_reach_k2
        simp only [ifV_true, pNil_ptr, pField_ptr]
        refine o.load i1 h1 rfl (ho_lower o i2 h2 (lookH_some hl) (by omega) fun F' h5 o5 => ?_)
        refine o5.load i1 (by rw [List.getElem?_set_ne n12]; exact h1) rfl ?_
        refine o5.setI (z := a) i3 (by rw [List.getElem?_set_ne n23]; exact h3) (by rw [inv.al]; exact hv) fun h6 o6 => ?_
        have : s.reach v a d = { s with hp := ((v : Int), d) :: s.hp.erase ((v : Int), was), arc := s.arc.set v a } := by simp [FS.reach, hc, hl, hgt]
        rw [this] at hK
        exact hK F' h6 o6
    | none =>
      simp only [Option.isSome_none, ifV_false]
      unfold sh_flood_run_reach_k1 sh_flood_run_reach_k2
      simp only [ifV_false, pNil_ptr, pField_ptr]
      refine o.load i1 h1 rfl (ho_push o i2 h2 (by omega) (lookH_none.1 hl) hv fun F' h5 o5 => ?_)
      refine o5.load i1 (by rw [List.getElem?_set_ne n12]; exact h1) rfl ?_
      refine o5.setI (z := a) i3 (by rw [List.getElem?_set_ne n23]; exact h3) (by rw [inv.al]; exact hv) fun h6 o6 => ?_
      have : s.reach v a d = { s with hp := ((v : Int), d) :: s.hp, arc := s.arc.set v a } := by simp [FS.reach, hc, hl]
      rw [this] at hK
      exact hK F' h6 o6

end
end Go.Proofs.YtafllleofdkdiaaGreatDoor

namespace Go.Proofs.YtafllleofdkdiaaGreatDoor
open Go Go.Mh
set_option linter.unusedVariables false

/-- A tree in memory. -/
def TreeV (h : Heap) (v : Value) (t : Tr) : Prop := ∃ sd sa so, v = .agg #[sd, sa, so] ∧ Vw encI 1 h sd t.dist ∧ Vw encI 1 h sa t.arc ∧ Vw encN 1 h so t.order
theorem TreeV.more {h h' : Heap} {v : Value} {t : Tr} (H : TreeV h v t) (x : Ext h h') : TreeV h' v t := by
  obtain ⟨sd, sa, so, e, a, b, c⟩ := H
  exact ⟨sd, sa, so, e, a.more x, b.more x, c.more x⟩

theorem scan_take {l : List A} {head : A → Nat} {key : Int} {s : FS} {ids : List Nat} {i : Nat} (hi : i < ids.length) :
    s.scan l head key (ids.take (i + 1)) = (s.scan l head key (ids.take i)).reach (head (arcAt l ids[i])) ids[i] (key + (arcAt l ids[i]).w) := by
  unfold FS.scan
  rw [List.take_succ_eq_append_getElem hi, List.foldl_append]; rfl

section
variable {h0 h : Heap} {L : List Res} {K : Value → Heap → Prop} {g : G} {r : Nat} {outs : Nat → List Nat} {head : A → Nat} {nextv endv : Value}

/-- A closure that tells the arcs of a node. -/
def NextF (nextv : Value) (g : G) (r : Nat) (outs : Nat → List Nat) : Prop :=
  ∀ (h0 h : Heap) (L : List Res) (K : Value → Heap → Prop) (v : Nat), v < g.n → NetR h r g → Own h0 h L → (∀ v' h', Own h0 h' (slR encN 1 T_int v' (outs v) :: L) → K v' h') → callV Tryz.prog nextv [I v].toArray h K

theorem out_next (hR : g.Right) : NextF (.func (.func F_net_Net_Out) #[ptr r] #[]) g r g.out := by
  intro h0 h L K v hv H o hK
  refine callV_of (l := [ptr r, I v]) rfl ?_
  have := outI_ok (z := v) o hR H (K := K) (by rw [if_pos (by omega)]; exact hK)
  simpa [callS, callV] using this
abbrev runL (r9 rr m hp t8 n : Nat) (sd sa : Value) (kb : Nat) (key : Int) (F : Nat → Prop) (H : List HE) (so : Value) (st : FS) (mm : List Nat) : List Res :=
  [cellR kb [I key] T_int64, cellR r9 [ptr rr] T_p_flood_run, cellR rr [ptr hp, sd, sa, so, .map (some m)] T_flood_run, hpR F hp H n, slR encI 1 T_int sa st.arc, mapR m (clo st.order), xR sd st.dist, slR encN 1 T_int so st.order,
    cellR t8 [sl0, sl0, sl0] T_flood_Tree, marksR mm]

/-- The rest of a flood, from a state on. -/
theorem flood_loop {r9 rr m hp t8 : Nat} {sd sa : Value} {fin : FS} {h' : Heap} {x : List Nat × Vals [10, 11, 12]} (hR : g.Right) (H : NetR h r g) (hN : NextF nextv g r outs) (hE : EndF endv head) (hev : endv.cells = #[endv]) (hhead : ∀ a ∈ g.arcs, head a < g.n)
    (hout : ∀ v, v < g.n → ∀ i ∈ outs v, i < g.arcs.length) (hol : ∀ v, (outs v).length ≤ g.arcs.length)
    (hK : ∀ so h', Own h h' [xR sd fin.dist, slR encI 1 T_int sa fin.arc, slR encN 1 T_int so fin.order] → K (.agg #[sd, sa, so]) h')
    (J : ∃ (st : FS) (kb : Nat) (key : Int) (so : Value) (F : Nat → Prop) (H : List HE), x.2.2.1 = ptr kb ∧ FS.run g.arcs outs head (g.n + 1 - st.order.length) st = fin ∧ FInv g.n (st.order.length * W) st ∧
      ((least st.hp = none ∧ x.2.2.2.1 = .bool false) ∨ ∃ p, least st.hp = some p ∧ x.2.1 = I p.1 ∧ key = p.2 ∧ x.2.2.2.1 = .bool true ∧ H = st.hp.erase p) ∧ Own h h' (runL r9 rr m hp t8 g.n sd sa kb key F H so st x.1)) :
    LoopH (σ := List Nat × Vals [10, 11, 12]) (fun x hh ZZ => sh_flood_flood_L2 Tryz.prog (ptr r9) nextv (ptr r) endv (ptr t8) K x.1 x.2.1 x.2.2.1 x.2.2.2.1 hh (fun mz a0 a1 a2 hz => ZZ (mz, (a0, (a1, (a2, ())))) hz)) x h' := by
  have hmost := hR.most
  have hmany := hR.many
  obtain ⟨st0, J⟩ := J
  refine LoopH_down (k0 := g.n + 1 - st0.order.length) (fun k x h' => ∃ (st : FS) (kb : Nat) (key : Int) (so : Value) (F : Nat → Prop) (H : List HE), k = g.n + 1 - st.order.length ∧ x.2.2.1 = ptr kb ∧ FS.run g.arcs outs head (g.n + 1 - st.order.length) st = fin ∧ FInv g.n (st.order.length * W) st ∧
      ((least st.hp = none ∧ x.2.2.2.1 = .bool false) ∨ ∃ p, least st.hp = some p ∧ x.2.1 = I p.1 ∧ key = p.2 ∧ x.2.2.2.1 = .bool true ∧ H = st.hp.erase p) ∧ Own h h' (runL r9 rr m hp t8 g.n sd sa kb key F H so st x.1))
    (by obtain ⟨kb, key, so, F, H, J⟩ := J; exact ⟨st0, kb, key, so, F, H, rfl, J⟩) ?_
  clear J st0 h' x
  rintro k ⟨mm, v, kv, is, ⟨⟩⟩ h' Z ⟨st, kb, key, so, F, Hp, hk, hkb, hrun, inv, hcase, o⟩ hZ
  dsimp only at hkb hcase o hZ ⊢
  subst hkb
  unfold sh_flood_flood_L2
  simp only [pNil_ptr, pField_ptr]
  rcases hcase with ⟨hl, rfl⟩ | ⟨p, hl, rfl, rfl, rfl, rfl⟩
  · rw [ifV_false]
    have hf : st = fin := by
      rw [← hrun]
      cases g.n + 1 - st.order.length with
      | zero => rfl
      | succ k => simp only [FS.run, hl]
    subst hf
    refine o.load 1 rfl rfl ?_
    simp only [pNil_ptr, pField_ptr]
    refine o.ldN 2 rfl rfl rfl ?_
    refine o.st 8 rfl rfl rfl rfl rfl ?_ fun h2 o2 => ?_
    · intro u hu
      simp at hu
      rcases hu with rfl | rfl | rfl
      · exact (o.vw 6 rfl).plain
      · exact (o.vw 4 rfl).plain
      · exact (o.vw 7 rfl).plain
    · refine o2.take 9 rfl fun h3 o3 => ?_
      exact o3.ldN 8 rfl rfl rfl (hK so h3 (o3.sel [6, 4, 7] (by decide)))
  · rw [ifV_true]
    have hm := (least_spec hl).1
    obtain ⟨u, hu, hun, hno, hk0, hkB⟩ := inv.ent p hm
    obtain ⟨pv, key⟩ := p
    dsimp only at hu hk0 hkB o ⊢
    subst hu
    have hroom := inv.room (by intro e; rw [e] at hm; cases hm)
    have hB : (st.order.length : Int) * W + W ≤ 16777216 * W := by
      have : (st.order.length : Int) + 1 ≤ 16777216 := by omega
      have := Int.mul_le_mul_of_nonneg_right this (show (0 : Int) ≤ W by decide)
      rw [Int.add_mul, Int.one_mul] at this
      exact this
    refine o.load 1 rfl rfl ?_
    simp only [pNil_ptr, pField_ptr]
    refine o.load 2 rfl rfl ?_
    refine o.look 5 rfl ?_
    rw [clo_out hno]
    simp only [Bool.false_eq_true, if_false, Option.getD_none, pBin_add]
    rw [show IntKind.i64.wrap (0 + 1) = 1 from rfl]
    refine o.mapPut (f' := clo (st.order ++ [u])) 5 rfl clo_add fun h1 o1 => ?_
    refine o1.load 1 rfl rfl ?_
    simp only [pNil_ptr, pField_ptr]
    refine o1.load 2 rfl rfl (o1.load 0 rfl rfl ?_)
    refine o1.setI 6 rfl (by rw [inv.dl]; exact hun) fun h2 o2 => ?_
    refine o2.load 1 rfl rfl (o2.load 1 rfl rfl ?_)
    simp only [pNil_ptr, pField_ptr]
    refine o2.load 2 rfl rfl ?_
    refine o2.app1 7 u rfl rfl (sizesOk_of rfl) encN_len encN_plain rfl (by decide) (by omega) fun so1 h3 o3 => ⟨o3.load 1 rfl rfl rfl, ?_⟩
    refine o3.st1 2 rfl rfl rfl (o3.vw 7 rfl).one (o3.vw 7 rfl).plain fun h4 o4 => ?_
    refine hN _ _ _ _ u hun (H.more o4.ext) o4 fun vl h5 o5 => ?_
    refine callS_of (lk_flood_arcs _ _ _ ?_)
    unfold sh_flood_arcs
    refine o5.box fun n3 h6 o6 => o6.box fun l4 h7 o7 => o7.box fun e5 h8 o8 => ?_
    have hvl := o5.vw 0 rfl
    obtain ⟨st1, hst1⟩ : ∃ st1, st1 = st.pop u key := ⟨_, rfl⟩
    have hW : (0 : Int) ≤ W := by decide
    have inv1 : FInv g.n (st.order.length * W + W) st1 := by subst hst1; exact (inv.popped hm).mono (by omega)
    have hord : st1.order.length = st.order.length + 1 := by subst hst1; simp [FS.pop]
    have hids := hout u hun
    have hscan : ∀ i, FInv g.n (st.order.length * W + W) (st1.scan g.arcs head key ((outs u).take i)) := fun i =>
      FInv.scan (fun a ha => ⟨hhead a ha, by have := (hR.ends a ha).2.2; show (a.w : Int) ≤ 2147483647; omega⟩) hk0 (by omega) (fun j hj => hids j (List.mem_of_mem_take hj)) inv1
    have L0 : Own h h8 (cellR e5 endv.cells.toList T_func_api_Arc_int :: cellR l4 vl.cells.toList T_sl_int :: cellR n3 [ptr r] T_p_net_Net :: slR encN 1 T_int vl (outs u) :: runL r9 rr m hp t8 g.n sd sa kb key F (st1.scan g.arcs head key ((outs u).take 0)).hp so1 (st1.scan g.arcs head key ((outs u).take 0)) mm) := by
      subst hst1; exact o8
    refine L0.range (farcs_iter (r := r) (T1 := T_sl_int) (T2 := T_p_net_Net) (T3 := T_func_api_Arc_int) (vl := vl) hids (by have := hol u; omega) hE) (fun i x i' ⟨⟨hi, e⟩, _⟩ => by rw [e]; rfl)
      (fun i Rs => ∃ F, Rs = cellR e5 endv.cells.toList T_func_api_Arc_int :: cellR l4 vl.cells.toList T_sl_int :: cellR n3 [ptr r] T_p_net_Net :: slR encN 1 T_int vl (outs u) :: runL r9 rr m hp t8 g.n sd sa kb key F (st1.scan g.arcs head key ((outs u).take i)).hp so1 (st1.scan g.arcs head key ((outs u).take i)) mm)
      (fun _ => False) (fun _ _ => False) ⟨F, rfl⟩ ?_ ?_ ?_ (fun _ _ h => h.elim) (fun _ _ _ h => h.elim)
    · rintro i Rs' h' ⟨F, rfl⟩ o'
      refine ⟨?_, o'.get 2 rfl, ?_, o'.vw 3 rfl, H.more o'.ext⟩
      · have := o'.get 1 rfl
        rw [show vl.cells.toList = [vl] by rw [hvl.one]] at this
        exact this
      · have := o'.get 0 rfl
        rw [show endv.cells.toList = [endv] by rw [hev]] at this
        exact this
    · rintro M i x i' Rs' Pr h9 R ⟨⟨hi, rfl⟩, rfl⟩ ⟨F, rfl⟩ o9 hN' _ _
      dsimp only [valsOf]
      unfold sh_flood_flood_B3
      refine o9.box fun a14 h10 o10 => o10.st 0 rfl rfl rfl rfl rfl (encA_plain _) fun h11 o11 => ?_
      refine o11.begin 1 rfl fun h12 o12 => ?_
      refine o12.load 8 rfl rfl ?_
      simp only [pField_ptr]
      refine o12.load 0 rfl rfl (o12.load 7 rfl rfl (o12.load 0 rfl rfl ?_))
      have hil := hids _ (List.getElem_mem hi)
      have ha : arcAt g.arcs (outs u)[i] ∈ g.arcs := by simp [arcAt, hil]
      have hw := (hR.ends _ ha).2.2
      have e1 : IntKind.i64.wrap (key + ((arcAt g.arcs (outs u)[i]).w : Int)) = key + (arcAt g.arcs (outs u)[i]).w := by
        have hW2 : (16777216 : Int) * W ≤ 2 ^ 62 := by decide
        exact w64 (by omega) (by have : (W : Int) = 2147483647 := rfl
                                 omega)
      rw [pBin_add, e1]
      refine reach_ok o12 9 10 11 12 rfl rfl rfl rfl (by decide) (by decide) (by decide) (hscan i) hmost (hhead _ ha) fun F' h13 o13 => ?_
      refine hN' _ _ ⟨F', rfl⟩ ?_
      have hsc := scan_take (l := g.arcs) (head := head) (key := key) (s := st1) hi
      have hro := @reach_order (st1.scan g.arcs head key ((outs u).take i)) (head (arcAt g.arcs (outs u)[i])) (outs u)[i] (key + (arcAt g.arcs (outs u)[i]).w)
      rw [← hsc] at hro
      have := o13.tail
      rw [← hsc] at this
      simp only [runL, hro.1, hro.2]
      exact this
    · rintro i h9 Rs' rfl ⟨F', rfl⟩ o9
      rw [List.take_length] at o9
      have hso := @scan_order g.arcs head key (outs u) st1
      refine o9.load 5 rfl rfl (o9.box fun kb2 h10 o10 => ?_)
      refine o10.st1 0 rfl rfl rfl rfl rfl fun h11 o11 => ?_
      refine o11.load 7 rfl rfl ?_
      simp only [pNil_ptr, pField_ptr]
      refine o11.load 8 rfl rfl ?_
      have inv2 : FInv g.n ((st1.scan g.arcs head key (outs u)).order.length * W) (st1.scan g.arcs head key (outs u)) := by
        have := hscan (outs u).length
        rw [List.take_length] at this
        refine this.mono ?_
        rw [hso.1, hord]
        have : ((st.order.length + 1 : Nat) : Int) * W = st.order.length * W + W := by
          rw [Int.natCast_add, Int.add_mul]; rfl
        omega
      have hrun2 : FS.run g.arcs outs head (g.n + 1 - (st1.scan g.arcs head key (outs u)).order.length) (st1.scan g.arcs head key (outs u)) = fin := by
        rw [← hrun, hso.1, hord]
        rw [show g.n + 1 - st.order.length = (g.n + 1 - (st.order.length + 1)) + 1 by omega]
        simp only [FS.run, hl, Int.toNat_natCast]
        rw [← hst1]
      have mark := fun {h'' : Heap} {A B : Res} {C : List Res} (o : Own h h'' (A :: B :: C)) => o
      refine ho_pop o11 9 rfl (fun hl2 h12 o12 => ?_) fun p hl2 F2 h12 o12 => ?_
      · simp only [pExt0, pExt1, pExt2]
        refine o12.st1 0 rfl rfl rfl rfl rfl fun h13 o13 => ?_
        have o14 := (o13.swap).addMark 14 rfl
        refine hZ (_ :: mm, (I 0, (ptr kb2, (.bool false, ())))) h13 _ (by rw [hso.1, hord]; omega) ⟨st1.scan g.arcs head key (outs u), kb2, 0, so1, F', (st1.scan g.arcs head key (outs u)).hp, rfl, rfl, hrun2, inv2, .inl ⟨hl2, rfl⟩, ?_⟩
        exact o14.sel [0, 6, 7, 8, 9, 10, 11, 12, 13, 14] (by decide)
      · simp only [pExt0, pExt1, pExt2]
        refine o12.st1 0 rfl rfl rfl rfl rfl fun h13 o13 => ?_
        have o14 := (o13.swap).addMark 14 rfl
        refine hZ (_ :: mm, (I p.1, (ptr kb2, (.bool true, ())))) h13 _ (by rw [hso.1, hord]; omega) ⟨st1.scan g.arcs head key (outs u), kb2, p.2, so1, F2, (st1.scan g.arcs head key (outs u)).hp.erase p, rfl, rfl, hrun2, inv2, .inr ⟨p, hl2, rfl, rfl, rfl, rfl⟩, ?_⟩
        exact o14.sel [0, 6, 7, 8, 9, 10, 11, 12, 13, 14] (by decide)

end
end Go.Proofs.YtafllleofdkdiaaGreatDoor

namespace Go.Proofs.YtafllleofdkdiaaGreatDoor
open Go Go.Mh
set_option linter.unusedVariables false

section
variable {h0 h : Heap} {L : List Res} {K : Value → Heap → Prop} {g : G} {r : Nat} {outs : Nat → List Nat} {head : A → Nat} {nextv endv : Value}

/-- A tree that was just made. -/
def TreeK (h : Heap) (t : Tr) (K : Value → Heap → Prop) : Prop :=
  ∀ sd sa so h', Own h h' [xR sd t.dist, slR encI 1 T_int sa t.arc, slR encN 1 T_int so t.order] → K (.agg #[sd, sa, so]) h'

theorem TreeK.of {t : Tr} (hK : ∀ v h', TreeV h' v t → Ext h h' → K v h') : TreeK h t K :=
  fun sd sa so h' o => hK _ h' ⟨sd, sa, so, rfl, o.vw 0 rfl, o.vw 1 rfl, o.vw 2 rfl⟩ o.ext

theorem flood_none {s : Int} {rv : Value} (hs : rv = .pointer none ∨ (rv = ptr r ∧ NetR h r g ∧ ¬ (0 ≤ s ∧ s < g.n))) (hK : TreeK h .none K) : callS Tryz.prog F_flood_flood [rv, I s, nextv, endv] h K := by
  refine callS_of (lk_flood_flood _ _ _ _ ?_)
  unfold sh_flood_flood sh_flood_flood_k1
  refine (Own.start h).box fun t8 h1 o1 => ?_
  have none : ∀ {h2 : Heap}, Own h h2 [cellR t8 [sl0, sl0, sl0] T_flood_Tree] → pBuild [(.slice none 0 0), (.slice none 0 0), (.slice none 0 0)] [] fun t27 => pStore 3 (ptr t8) t27 h2 fun u h_3 => pLoadN 3 h_3 (ptr t8) fun res => K res h_3 := fun o2 =>
    ⟨trivial, o2.st (cs' := [sl0, sl0, sl0]) 0 rfl (l := [sl0, sl0, sl0]) rfl rfl rfl rfl (by simp) fun h3 o3 => o3.ldN 0 rfl rfl rfl (hK sl0 sl0 sl0 h3 ((o3.nilS.nilS.nilS).sel [0, 1, 2] (by decide)))⟩
  rcases hs with rfl | ⟨rfl, H, hs⟩
  · simp only [pEq_ptr_nil, Option.isNone_none, ifV_true]
    exact none o1
  · simp only [pEq_ptr_nil, Option.isNone_some, ifV_false, pBin_lss, ifV_dec]
    refine ⟨fun _ => none o1, fun e => nodes_ok (H.more o1.ext) ?_⟩
    simp only [pBin_geq, ifV_dec]
    exact ⟨fun _ => none o1, fun e' => by omega⟩

theorem flood_ok {s : Nat} (hR : g.Right) (H : NetR h r g) (hs : s < g.n) (hN : NextF nextv g r outs) (hE : EndF endv head) (hev : endv.cells = #[endv]) (hhead : ∀ a ∈ g.arcs, head a < g.n)
    (hout : ∀ v, v < g.n → ∀ i ∈ outs v, i < g.arcs.length) (hol : ∀ v, (outs v).length ≤ g.arcs.length) (hK : TreeK h (floodP g.arcs g.n outs head s) K) : callS Tryz.prog F_flood_flood [ptr r, I s, nextv, endv] h K := by
  have hmost := hR.most
  refine callS_of (lk_flood_flood _ _ _ _ ?_)
  unfold sh_flood_flood
  refine (Own.start h).box fun t8 h1 o1 => ?_
  simp only [pEq_ptr_nil, Option.isNone_some, ifV_false, pBin_lss, ifV_dec]
  refine ⟨fun e => by omega, fun _ => nodes_ok (H.more o1.ext) ?_⟩
  simp only [pBin_geq, ifV_dec]
  refine ⟨fun e => by omega, fun _ => nodes_ok (H.more o1.ext) (ho_new o1 fun F hp h2 o2 => ?_)⟩
  refine o2.build (enc := encI) (n := 1) [far] rfl (sizesOk_of rfl) rfl fun wf h3 o3 => nodes_ok (H.more o3.ext) ?_
  refine repeat_int64 o3 (o3.vw 0 rfl) hmost fun sd h4 o4 => ?_
  refine o4.build (enc := encI) (n := 1) [-1] rfl (sizesOk_of rfl) rfl fun wm h5 o5 => nodes_ok (H.more o5.ext) ?_
  refine repeat_int o5 (o5.vw 0 rfl) hmost fun sa h6 o6 => ⟨sizesOk_of (by
    obtain ⟨b, c, e⟩ := (o6.vw 0 rfl).isSl
    obtain ⟨b', c', e'⟩ := (o6.vw 2 rfl).isSl
    subst e e'; rfl), ?_⟩
  have ead : sa.cells = #[sa] ∧ sd.cells = #[sd] := ⟨(o6.vw 0 rfl).one, (o6.vw 2 rfl).one⟩
  refine o6.mkMap fun m h7 o7 => ?_
  obtain ⟨ba, ca, ea⟩ := (o7.vw 1 rfl).isSl
  obtain ⟨bd, cd, ed⟩ := (o7.vw 3 rfl).isSl
  refine ⟨sizesOk_of (by subst ea ed; rfl), o7.box fun rr h8 o8 => o8.box fun r9 h9 o9 => o9.st1 0 rfl rfl rfl rfl rfl fun h10 o10 => ?_⟩
  have o11 : Own h h10 (cellR r9 [ptr rr] T_p_flood_run :: cellR rr [ptr hp, sd, sa, sl0, .map (some m)] T_flood_run :: mapR m (fun _ => none) :: slR encI 1 T_int sa (List.replicate g.n (-1)) :: slR encI 1 T_int wm [-1] :: xR sd (List.replicate g.n far) :: xR wf [far] :: hpR F hp [] g.n :: [cellR t8 [sl0, sl0, sl0] T_flood_Tree]) := by
    subst ea ed; exact o10
  clear o10 o9 o8 o7 o6
  refine o11.load 0 rfl rfl ?_
  simp only [pNil_ptr, pField_ptr]
  refine o11.load 1 rfl rfl (ho_push o11 7 rfl (by simp) (by simp) hs fun F1 h12 o12 => ?_)
  refine o12.load 0 rfl rfl ?_
  simp only [pNil_ptr, pField_ptr]
  refine o12.load 1 rfl rfl ?_
  refine ho_pop o12 7 rfl (fun e => by simp [least] at e) fun p hp' F2 h13 o13 => ?_
  have hp2 : p = ((s : Int), 0) := by simpa [least] using hp'.symm
  subst hp2
  simp only [pExt0, pExt1, pExt2]
  refine o13.box fun kb h14 o14 => o14.st1 0 rfl rfl rfl rfl rfl fun h15 o15 => ?_
  have o16 := (o15.noMarks).nilS (enc := encN) (n := 1) (T := T_int)
  refine flood_loop (fin := FS.run g.arcs outs head (g.n + 1) (FS.start g.n s)) (m := m) (sd := sd) (sa := sa) (rr := rr) (hp := hp) hR H hN hE hev hhead hout hol (fun so h' o' => hK sd sa so h' o') ?_
  refine ⟨FS.start g.n s, kb, 0, sl0, F2, _, rfl, rfl, (FInv.start hs).mono (by simp [FS.start]), .inr ⟨((s : Int), 0), hp', rfl, rfl, rfl, rfl⟩, ?_⟩
  have e : (fun _ => none : Int → Option Value) = clo (FS.start g.n s).order := by funext x; simp [clo, FS.start]
  have o17 := o16.sel [2, 3, 4, 10, 6, 5, 8, 0, 11, 1] (by decide)
  dsimp only [List.map, List.getD] at o17
  rw [e] at o17
  exact o17

end
end Go.Proofs.YtafllleofdkdiaaGreatDoor

namespace Go.Proofs.YtafllleofdkdiaaGreatDoor
open Go Go.Mh
set_option linter.unusedVariables false

section
variable {h0 h : Heap} {L : List Res} {K : Value → Heap → Prop} {g : G} {r : Nat} {s : Int}

theorem out_lt {g : G} {v i : Nat} (h : i ∈ g.out v) : i < g.arcs.length := by
  have := (outsP_mem.1 h).2.1; omega
theorem in_lt {g : G} {v i : Nat} (h : i ∈ g.in v) : i < g.arcs.length := by
  have := (outsP_mem.1 h).2.1; omega

theorem from_ok (hR : g.Right) (H : NetR h r g) (hK : TreeK h (g.fromI s) K) : callS Tryz.prog F_flood_From [ptr r, I s] h K := by
  refine callS_of (lk_flood_From _ _ ?_)
  unfold sh_flood_From
  refine (Own.start h).box fun t4 h1 o1 => ?_
  have fin : TreeK h1 (g.fromI s) fun t9 h_2 => pStore 3 (ptr t4) t9 h_2 fun u h_3 => pLoadN 3 h_3 (ptr t4) fun res => K res h_3 := by
    intro sd sa so h2 o2
    have o3 := o1.frame o2
    refine o3.st 3 rfl rfl rfl rfl rfl ?_ fun h3 o4 => o4.ldN 3 rfl rfl rfl (hK sd sa so h3 (o4.sel [0, 1, 2] (by decide)))
    intro u hu
    simp at hu
    rcases hu with rfl | rfl | rfl
    · exact (o3.vw 0 rfl).plain
    · exact (o3.vw 1 rfl).plain
    · exact (o3.vw 2 rfl).plain
  unfold G.fromI at fin
  split at fin <;> rename_i hs
  · obtain ⟨s, rfl⟩ := Int.eq_ofNat_of_zero_le hs.1
    exact flood_ok hR (H.more o1.ext) (by omega) (out_next hR) from1_end rfl (fun a ha => (hR.ends a ha).2.1) (fun v _ i => out_lt) (fun v => outsP_short) fin
  · exact flood_none (g := g) (.inr ⟨rfl, H.more o1.ext, hs⟩) fin

theorem from_nil (hK : TreeK h .none K) : callS Tryz.prog F_flood_From [.pointer none, I s] h K := by
  refine callS_of (lk_flood_From _ _ ?_)
  unfold sh_flood_From
  refine (Own.start h).box fun t4 h1 o1 => flood_none (g := ⟨0, [], [], []⟩) (r := 0) (.inl rfl) fun sd sa so h2 o2 => ?_
  have o3 := o1.frame o2
  refine o3.st 3 rfl rfl rfl rfl rfl ?_ fun h3 o4 => o4.ldN 3 rfl rfl rfl (hK sd sa so h3 (o4.sel [0, 1, 2] (by decide)))
  intro u hu
  simp at hu
  rcases hu with rfl | rfl | rfl
  · exact (o3.vw 0 rfl).plain
  · exact (o3.vw 1 rfl).plain
  · exact (o3.vw 2 rfl).plain
end
end Go.Proofs.YtafllleofdkdiaaGreatDoor

namespace Go.Proofs.YtafllleofdkdiaaGreatDoor
open Go Go.Mh
set_option linter.unusedVariables false

section
variable {h0 h : Heap} {L : List Res} {K : Value → Heap → Prop} {g : G} {r : Nat} {vc vm : Value} {c : List Int} {ms : List Int}

theorem pPart1_0 {a b c : Value} {K : Value → Prop} (hk : K a) : pPart1 0 (.agg #[a, b, c]) K := hk
theorem takeNe {l : List Nat} {i : Nat} (h0 : i ≠ 0) (hi : i < l.length) : l.take i ≠ [] := by
  intro e
  rw [List.take_eq_nil_iff] at e
  rcases e with e | e
  · exact h0 e
  · subst e; cases hi

theorem minE {a b : Int} : (if b < a then b else a) = min a b := by split <;> omega

/-- Covers by one more node. -/
theorem closer_ok {m : Int} (o : Own h0 h L) (p : Nat) (hp : L[p]? = some (xR vc c)) (hc : c.length = g.n) (hR : g.Right) (H : NetR h r g) (hK : ∀ h', Own h0 h' (L.set p (xR vc (cl c (g.fromI m).dist))) → K (.tuple #[]) h') :
    callS Tryz.prog F_far_closer [ptr r, vc, I m] h K := by
  refine callS_of (lk_far_closer _ _ _ ?_)
  unfold sh_far_closer
  have hmost := hR.most
  refine from_ok hR H fun sd sa so h1 o1 => ?_
  replace o1 := o.frame o1
  have hd : (g.fromI m).dist.length ≤ g.n := by
    have := tr_len hR (s := m)
    omega
  refine pPart1_0 ?_
  refine (o1.vw 0 rfl).len ?_
  refine LoopH_count (g.fromI m).dist.length (fun i x h' => x.1 = I i ∧ Own h0 h' ([xR sd (g.fromI m).dist, slR encI 1 T_int sa (g.fromI m).arc, slR encN 1 T_int so (g.fromI m).order] ++ L.set p (xR vc (clp c (g.fromI m).dist i)))) ⟨rfl, by rw [clp_zero, set_same hp]; exact o1⟩ ?_
  clear o1
  rintro i ⟨x, ⟨⟩⟩ h' Z hi ⟨hx, o1⟩ hZ
  dsimp only at hx hZ ⊢
  subst hx
  unfold sh_far_closer_L1
  simp only [pBin_lss, ifV_dec]
  refine ⟨fun hlt => ?_, fun hge => ?_⟩
  · have hlt : i < (g.fromI m).dist.length := by omega
    have hic : i < c.length := by omega
    have hq : ([xR sd (g.fromI m).dist, slR encI 1 T_int sa (g.fromI m).arc, slR encN 1 T_int so (g.fromI m).order] ++ L.set p (xR vc (clp c (g.fromI m).dist i)))[p + 3]? = some (xR vc (clp c (g.fromI m).dist i)) := by
      rw [List.getElem?_append_right (by simp)]
      exact set_get hp
    have hi2 : i < (clp c (g.fromI m).dist i).length := by rw [clp_len]; exact hic
    refine (o1.vw 0 rfl).atI hlt ?_
    rw [dAt_get hlt]
    refine (o1.vw (p + 3) hq).atI hi2 ?_
    rw [clp_at hic, pMin_int, minE]
    refine o1.setI (p + 3) hq hi2 fun h2 o2 => ?_
    rw [clp_step hic] at o2
    rw [pBin_add, wI i (by omega)]
    refine hZ (I (i + 1 : Nat), ()) h2 hlt ⟨rfl, ?_⟩
    rw [List.set_append_right _ _ (by simp)] at o2
    simp only [List.length_cons, List.length_nil, Nat.add_sub_cancel, List.set_set] at o2
    exact o2
  · have : i = (g.fromI m).dist.length := by omega
    subst this
    exact hK h' o1.tail.tail.tail

/-- Each node's cover. -/
theorem cover_ok (o : Own h0 h L) (hR : g.Right) (H : NetR h r g) (hm : Vw encI 1 h vm ms) (hml : ms.length < 2 ^ 40) (hK : ∀ w h', Own h0 h' (xR w (cov g ms) :: L) → K w h') : callS Tryz.prog F_far_Cover [ptr r, vm] h K := by
  refine callS_of (lk_far_Cover _ _ ?_)
  unfold sh_far_Cover
  have hmost := hR.most
  refine (Own.start h).build (enc := encI) (n := 1) [far] rfl (sizesOk_of rfl) rfl fun w1 h1 o1 => ?_
  refine nodes_ok (H.more o1.ext) (repeat_int64 o1 (o1.vw 0 rfl) (by omega) fun w h2 o2 => ?_)
  refine hm.len ?_
  refine LoopH_count ms.length (fun i x h' => x.1 = I i ∧ Own h h' [xR w (cov g (ms.take i))]) ⟨rfl, o2.sel [0] (by decide)⟩ ?_
  clear o2 o1
  rintro i ⟨x, ⟨⟩⟩ h' Z hi ⟨hx, o1⟩ hZ
  dsimp only at hx hZ ⊢
  subst hx
  unfold sh_far_Cover_L1
  simp only [pBin_lss, ifV_dec]
  refine ⟨fun hlt => ?_, fun hge => ?_⟩
  · have hlt : i < ms.length := by omega
    have htk : ms.take (i + 1) = ms.take i ++ [ms[i]] := List.take_succ_eq_append_getElem hlt
    refine (hm.more o1.ext).atI hlt ?_
    generalize ms[i] = m at htk
    refine closer_ok o1 0 rfl cov_len hR (H.more o1.ext) fun h2 o2 => ?_
    rw [pBin_add, wI i (by omega)]
    refine hZ (I (i + 1 : Nat), ()) h2 hlt ⟨rfl, ?_⟩
    rw [htk, cov_snoc]
    exact o2
  · have : i = ms.length := by omega
    subst this
    rw [List.take_length] at o1
    exact hK w h' (o.frame o1)

/-- Which of some has the greatest cover. -/
theorem best_ok {left : List Nat} {vl : Value} {c6 : Nat} {T1 : TypeId} (Hl : Vw encI 1 h vl (nI left)) (hc6 : h[c6]? = some (.cells #[vc] T1 (0, 0))) (Hc : Vw encI 1 h vc c) (hr : ∀ v ∈ left, v < c.length) (hll : left.length < 2 ^ 40)
    (hK : K (I (bst c left)) h) : callS Tryz.prog F_far_best_int [vl, .func (.func F_far_marks_1_1) #[] #[ptr c6]] h K := by
  refine callS_of (lk_far_best_int _ _ ?_)
  unfold sh_far_best_int
  refine Hl.len ?_
  rw [nI_len]
  refine LoopH_count left.length (fun i x h' => x.2.1 = I i ∧ x.1 = I (bst c (left.take i)) ∧ h' = h) ⟨rfl, rfl, rfl⟩ ?_
  rintro i ⟨x, y, ⟨⟩⟩ h' Z hi ⟨hy, hx, rfl⟩ hZ
  dsimp only at hx hy hZ ⊢
  subst hx hy
  unfold sh_far_best_int_L1
  simp only [pBin_lss, ifV_dec]
  refine ⟨fun hlt => ?_, fun hge => ?_⟩
  · have hlt : i < left.length := by omega
    have hq : (nI left)[i]? = some ((left[i] : Nat) : Int) := by simp [nI, hlt]
    have htk : left.take (i + 1) = left.take i ++ [left[i]] := List.take_succ_eq_append_getElem hlt
    have hvr := hr _ (List.getElem_mem hlt)
    have hbm : i ≠ 0 → bst c (left.take i) < c.length := fun h0 => hr _ (List.mem_of_mem_take (bst_mem (c := c) (takeNe h0 hlt)))
    refine Hl.atQ hq ?_
    generalize left[i] = v at hvr htk
    have k3 : ∀ b : Nat, b = bst c (left.take (i + 1)) → sh_far_best_int_k3 Tryz.prog (I i) (fun a0 a1 hz => Z (a0, (a1, ())) hz) (I b) h' := by
      intro b e
      unfold sh_far_best_int_k3
      rw [pBin_add, wI i (by omega)]
      exact hZ (_, I (i + 1 : Nat), ()) h' hlt ⟨rfl, by rw [e], rfl⟩
    unfold sh_far_best_int_k2
    rw [pBin_eql]
    by_cases h0 : i = 0
    · subst h0
      show ifV (.bool true) _ _
      rw [ifV_true]
      exact k3 v (by rw [htk]; rfl)
    · rw [show ((i : Int) == 0) = false by simpa using h0, ifV_false]
      have hb := hbm h0
      have ne : left.take i ≠ [] := takeNe h0 hlt
      have bs := bst_snoc (c := c) (y := v) ne
      rw [← htk] at bs
      generalize bst c (left.take i) = b at hb bs
      refine callV_of (l := [I v, I b, ptr c6]) rfl (lk_far_marks_1_1 _ _ _ ?_)
      unfold sh_far_marks_1_1
      have cc : hcell h' ⟨c6, 0, none⟩ = some vc := hcell_of hc6 rfl
      refine pLoad_of rfl cc (Hc.atI hvr (pLoad_of rfl cc (Hc.atI hb ?_)))
      have g1 : c[v] = c.getD v 0 := by simp [List.getD_eq_getElem?_getD, hvr]
      have g2 : c[b] = c.getD b 0 := by simp [List.getD_eq_getElem?_getD, hb]
      rw [g1, g2, pBin_gtr]
      show ifV (.bool (decide (c.getD b 0 < c.getD v 0))) _ _
      rw [ifV_dec]
      exact ⟨fun h => k3 v (by rw [bs, if_pos h]), fun h => k3 b (by rw [bs, if_neg h])⟩
  · have : i = left.length := by omega
    subst this
    rw [List.take_length]
    exact hK

end
end Go.Proofs.YtafllleofdkdiaaGreatDoor

namespace Go.Proofs.YtafllleofdkdiaaGreatDoor
open Go Go.Mh
set_option linter.unusedVariables false

section
variable {h0 h : Heap} {L : List Res} {K : Value → Heap → Prop} {g : G} {r : Nat} {vl : Value} {left : List Nat} {m m8 : Nat} {T1 : TypeId}

/-- Is it the one that was yielded? -/
theorem isM_ok {v : Nat} (hm : h[m8]? = some (.cells #[I m] T1 (0, 0))) (hK : K (.bool (decide (v = m))) h) : callV Tryz.prog (.func (.func F_far_marks_1_2) #[] #[ptr m8]) [I v].toArray h K := by
  refine callV_of (l := [I v, ptr m8]) rfl (lk_far_marks_1_2 _ _ ?_)
  unfold sh_far_marks_1_2
  have cm : hcell h ⟨m8, 0, none⟩ = some (I m) := hcell_of hm rfl
  refine pLoad_of rfl cm ?_
  rw [pBin_eql]
  have : ((v : Int) == (m : Int)) = decide (v = m) := Bool.eq_iff_iff.2 (by simp; omega)
  rw [this]; exact hK

theorem idx_ok (Hl : Vw encI 1 h vl (nI left)) (hm : h[m8]? = some (.cells #[I m] T1 (0, 0))) (hll : left.length < 2 ^ 40) (hin : m ∈ left)
    (hK : ∀ i (hi : i < left.length), left[i] = m → m ∉ left.take i → K (I i) h) : callS Tryz.prog F_slices_IndexFunc_sl_int_int [vl, .func (.func F_far_marks_1_2) #[] #[ptr m8]] h K := by
  refine callS_of (lk_slices_IndexFunc_sl_int_int _ _ ?_)
  unfold sh_slices_IndexFunc_sl_int_int
  refine Hl.len ?_
  rw [nI_len]
  refine LoopH_count left.length (fun i x h' => x.1 = I i ∧ m ∉ left.take i ∧ h' = h) ⟨rfl, by simp, rfl⟩ ?_
  rintro i ⟨x, ⟨⟩⟩ h' Z hi ⟨hx, hn, rfl⟩ hZ
  dsimp only at hx hZ ⊢
  subst hx
  unfold sh_slices_IndexFunc_sl_int_int_L1
  simp only [pBin_lss, ifV_dec]
  refine ⟨fun hlt => ?_, fun hge => ?_⟩
  · have hlt : i < left.length := by omega
    have hq : (nI left)[i]? = some ((left[i] : Nat) : Int) := by simp [nI, hlt]
    refine Hl.atQ hq (isM_ok hm ?_)
    show ifV (.bool (decide (left[i] = m))) _ _
    rw [ifV_dec]
    refine ⟨fun e => hK i hlt e hn, fun e => ?_⟩
    rw [pBin_add, wI i (by omega)]
    refine hZ (I (i + 1 : Nat), ()) _ hlt ⟨rfl, ?_, rfl⟩
    rw [List.take_succ_eq_append_getElem hlt, List.mem_append, not_or]
    exact ⟨hn, by simpa using fun h => e h.symm⟩
  · have : i = left.length := by omega
    subst this
    rw [List.take_length] at hn
    exact absurd hin hn

theorem filter_no {l : List Nat} (h : m ∉ l) : l.filter (· != m) = l := by
  rw [List.filter_eq_self]
  intro a ha
  simp only [bne_iff_ne]
  intro e; subst e; exact h ha

theorem delete_ok {p q : Nat} (o : Own h0 h L) (hp : L[p]? = some (slR encI 1 T_int vl (nI left))) (hq : L[q]? = some (cellR m8 [I m] T1)) (hpq : p ≠ q) (hll : left.length < 2 ^ 40) (hin : m ∈ left)
    (hK : ∀ v' h', Own h0 h' (L.set p (slR encI 1 T_int v' (nI (left.filter (· != m))))) → K v' h') : callS Tryz.prog F_slices_DeleteFunc_sl_int_int [vl, .func (.func F_far_marks_1_2) #[] #[ptr m8]] h K := by
  refine callS_of (lk_slices_DeleteFunc_sl_int_int _ _ ?_)
  unfold sh_slices_DeleteFunc_sl_int_int
  refine idx_ok (o.vw p hp) (o.get q hq) hll hin fun i0 hi0 e0 n0 => ?_
  rw [pBin_eql, show ((i0 : Int) == -1) = false by simp, ifV_false, pBin_add, wI i0 (by omega)]
  have hset : ∀ {ys : List Int}, (L.set p (slR encI 1 T_int vl ys))[p]? = some (slR encI 1 T_int vl ys) := set_get hp
  have hqs : ∀ {r : Res}, (L.set p r)[q]? = some (cellR m8 [I m] T1) := fun {r} => by rw [List.getElem?_set_ne hpq]; exact hq
  have f0 : (left.take (i0 + 1)).filter (· != m) = left.take i0 := by
    rw [List.take_succ_eq_append_getElem hi0, List.filter_append, filter_no n0, e0]
    simp
  refine LoopH_count (left.length - (i0 + 1)) (fun k x h' => ∃ (ys : List Int) (a : Nat), x.1 = I a ∧ x.2.1 = I ((i0 + 1 + k : Nat) : Int) ∧ a < i0 + 1 + k ∧ ys.length = left.length ∧ ys.take a = nI ((left.take (i0 + 1 + k)).filter (· != m)) ∧ ys.drop (i0 + 1 + k) = (nI left).drop (i0 + 1 + k) ∧ Own h0 h' (L.set p (slR encI 1 T_int vl ys)))
    ⟨nI left, i0, rfl, rfl, by omega, nI_len, by rw [Nat.add_zero, f0]; simp [nI, List.map_take], rfl, by rw [set_same hp]; exact o⟩ ?_
  clear o
  rintro k ⟨x, y, ⟨⟩⟩ h' Z hk ⟨ys, a, hx, hy, haj, hyl, hta, hdr, o⟩ hZ
  dsimp only at hx hy hZ ⊢
  subst hx hy
  generalize hj : i0 + 1 + k = j at haj hta hdr hZ
  unfold sh_slices_DeleteFunc_sl_int_int_L1
  refine (o.vw p hset).len ?_
  rw [hyl]
  simp only [pBin_lss, ifV_dec]
  refine ⟨fun hlt => ?_, fun hge => ?_⟩
  · have hlt : j < left.length := by omega
    have hyq : ys[j]? = some ((left[j] : Nat) : Int) := by
      have := congrArg (fun l : List Int => l[0]?) hdr
      simp only [List.getElem?_drop, Nat.add_zero] at this
      rw [this]; simp [nI, hlt]
    have htk : left.take (j + 1) = left.take j ++ [left[j]] := List.take_succ_eq_append_getElem hlt
    refine (o.vw p hset).atQ hyq (isM_ok (o.get q hqs) ?_)
    generalize left[j] = v at hyq htk
    have next : ∀ (zs : List Int) (b : Nat) h2, b < j + 1 → zs.length = left.length → zs.take b = nI ((left.take (j + 1)).filter (· != m)) → zs.drop (j + 1) = (nI left).drop (j + 1) → Own h0 h2 (L.set p (slR encI 1 T_int vl zs)) → sh_slices_DeleteFunc_sl_int_int_k2 Tryz.prog (I j) (fun a0 a1 hz => Z (a0, (a1, ())) hz) (I b) h2 := by
      intro zs b h2 hb hzl hzt hzd oz
      unfold sh_slices_DeleteFunc_sl_int_int_k2
      rw [pBin_add, wI j (by omega)]
      have ej : i0 + 1 + (k + 1) = j + 1 := by omega
      exact hZ (I b, I (j + 1 : Nat), ()) h2 (by omega) ⟨zs, b, rfl, by rw [ej], by omega, hzl, by rw [ej]; exact hzt, by rw [ej]; exact hzd, oz⟩
    have dropS : ys.drop (j + 1) = (nI left).drop (j + 1) := by
      have := congrArg (List.drop 1) hdr
      simpa [List.drop_drop, Nat.add_comm] using this
    rw [pUn_not]
    by_cases hv : v = m
    · rw [decide_eq_true hv, Bool.not_true, ifV_false]
      refine next ys a h' (by omega) hyl ?_ dropS o
      rw [htk, List.filter_append, hv, hta]; simp
    · rw [decide_eq_false hv, Bool.not_false, ifV_true]
      refine o.setI p hset (by omega) fun h2 o2 => ?_
      rw [List.set_set] at o2
      rw [pBin_add, wI a (by omega)]
      refine next (ys.set a v) (a + 1) h2 (by omega) (by rw [List.length_set]; exact hyl) ?_ ?_ o2
      · rw [htk, List.filter_append]
        have : [v].filter (· != m) = [v] := by simp [hv]
        rw [this]
        have e1 : (ys.set a (v : Int)).take (a + 1) = ys.take a ++ [(v : Int)] := by
          rw [List.take_succ_eq_append_getElem (by rw [List.length_set]; omega), List.getElem_set_self, List.take_set_of_le (Nat.le_refl _)]
        rw [e1, hta]; simp [nI]
      · rw [List.drop_set_of_lt (by omega)]; exact dropS
  · have hjl : j = left.length := by omega
    subst hjl
    have hal : a ≤ ys.length := by omega
    refine o.clearTail p hset hal fun h2 o2 => ?_
    rw [List.set_set] at o2
    refine o2.pre encI_len p (set_get hp) (by simp; omega) fun v' o3 => ?_
    rw [List.set_set] at o3
    rw [List.take_length] at hta
    have e : (ys.take a ++ List.replicate (ys.length - a) (0 : Int)).take a = nI (left.filter (· != m)) := by
      rw [List.take_append_of_le_length (by simp; omega), List.take_take, Nat.min_self]
      exact hta
    rw [e] at o3
    exact hK v' h2 o3

end
end Go.Proofs.YtafllleofdkdiaaGreatDoor

namespace Go.Proofs.YtafllleofdkdiaaGreatDoor
open Go Go.Mh
set_option linter.unusedVariables false

section
variable {h0 h : Heap} {L : List Res} {K : Value → Heap → Prop} {g : G} {r : Nat}

/-- Numbers from 0 to n, of which i were set. -/
def upto (n i : Nat) : List Int := nI (List.range i) ++ List.replicate (n - i) 0
theorem upto_step {n i : Nat} (h : i < n) : (upto n i).set i (i : Int) = upto n (i + 1) := by
  unfold upto
  have hl : (nI (List.range i)).length = i := by rw [nI_len, List.length_range]
  rw [List.set_append_right _ _ (by omega), hl, Nat.sub_self, show n - i = (n - (i + 1)) + 1 by omega, List.replicate_succ, List.set_cons_zero, List.range_succ]
  simp [nI]

theorem fmarks_iter {n2 f3 : Nat} {first : Int} {T1 T2 : TypeId} (hR : g.Right) :
    IterG Tryz.prog (.func (.func F_far_marks_1) #[] #[ptr n2, ptr f3]) (fun h => h[n2]? = some (.cells #[ptr r] T1 (0, 0)) ∧ h[f3]? = some (.cells #[I first] T2 (0, 0)) ∧ NetR h r g) (σ := Nat × List Nat × List Int)
      (0, List.range g.n, cov g [first]) (mNext g) (fun p => p.2.1 = []) := by
  rintro yv h0 h Rs K J E ⟨l, rfl⟩ o j0 hQ hY hK
  refine callF_of (l := [yieldV l, ptr n2, ptr f3]) rfl (lk_far_marks_1 _ _ _ ?_)
  unfold sh_far_marks_1
  have hmost := hR.most
  obtain ⟨hn, hf, hN⟩ := hQ _ _ _ j0 o
  have cn : hcell h ⟨n2, 0, none⟩ = some (ptr r) := hcell_of hn rfl
  have cf : hcell h ⟨f3, 0, none⟩ = some (I first) := hcell_of hf rfl
  refine pLoad_of rfl cn (nodes_ok hN ?_)
  refine (Own.start h).make (enc := encI) (n := 1) (a := 0) rfl (by omega) (by omega) fun vl h1 o1 => ?_
  refine (o1.vw 0 rfl).len ?_
  rw [List.length_replicate]
  refine LoopH_count g.n (fun i x h' => x.1 = I i ∧ Own h h' [slR encI 1 T_int vl (upto g.n i)]) ⟨rfl, by simpa [upto, nI] using o1⟩ ?_
  clear o1
  rintro i ⟨x, ⟨⟩⟩ h1 Z hi ⟨hx, o1⟩ hZ
  dsimp only at hx hZ ⊢
  subst hx
  unfold sh_far_marks_1_L1
  have hul : (upto g.n i).length = g.n := by unfold upto; rw [List.length_append, nI_len, List.length_range, List.length_replicate]; omega
  simp only [pBin_lss, ifV_dec]
  refine ⟨fun hlt => ?_, fun hge => ?_⟩
  · have hlt : i < g.n := by omega
    refine o1.setI 0 rfl (by omega) fun h2 o2 => ?_
    rw [upto_step hlt] at o2
    rw [pBin_add, wI i (by omega)]
    exact hZ (I (i + 1 : Nat), ()) h2 hlt ⟨rfl, o2⟩
  · have : i = g.n := by omega
    subst this
    have eu : upto g.n g.n = nI (List.range g.n) := by unfold upto; rw [Nat.sub_self, List.replicate_zero, List.append_nil]
    rw [eu] at o1
    refine pLoad_of rfl (hcell_more o1.ext cn) (pLoad_of rfl (hcell_more o1.ext cf) ?_)
    refine o1.build (enc := encI) (n := 1) [first] rfl (sizesOk_of rfl) rfl fun wf h2 o2 => ?_
    refine cover_ok o2 hR (hN.more o2.ext) (o2.vw 0 rfl) (by simp) fun vc h3 o3 => ?_
    have hvc := o3.vw 0 rfl
    refine o3.box fun c6 h4 o4 => o4.st1 0 (cs' := [vc]) rfl rfl rfl hvc.one hvc.plain fun h5 o5 => ?_
    have o6 : Own h0 h5 ([slR encI 1 T_int vl (nI (List.range g.n)), cellR c6 [vc] T_sl_int64, xR vc (cov g [first])] ++ Rs) := o.frame (o5.sel [3, 0, 1] (by decide))
    clear o5 o4 o3 o2 o1 hZ eu hul
    refine LoopH_down (fun k x h' => ∃ (left : List Nat) (i : Nat) (c : List Int) (vc : Value) (Rs' : List Res), k = left.length ∧ x.2.1 = I i ∧ i + left.length ≤ g.n ∧ c.length = g.n ∧ (∀ v ∈ left, v < g.n) ∧ left.Nodup ∧ J (i, left, c) Rs' ∧
      Own h0 h' ([slR encI 1 T_int x.1 (nI left), cellR c6 [vc] T_sl_int64, xR vc c] ++ Rs')) (k0 := g.n) ⟨List.range g.n, 0, cov g [first], vc, Rs, by simp, rfl, by simp, cov_len, by simp, List.nodup_range, j0, o6⟩ ?_
    clear o6 hvc hn hf hN cn cf o j0
    rintro k ⟨vl, y, ⟨⟩⟩ h6 Z2 ⟨left, i, c, vc, Rs', rfl, hy, hil, hcl, hlr, hnd, hj, o⟩ hZ2
    dsimp only at hy o hZ2 ⊢
    subst hy
    unfold sh_far_marks_1_L2
    refine (o.vw 0 rfl).len ?_
    rw [nI_len]
    simp only [pBin_gtr, ifV_dec]
    refine ⟨fun hpos => ?_, fun hz => ?_⟩
    · have hne : left ≠ [] := fun e => by subst e; simp at hpos
      obtain ⟨hn, hf, hN⟩ := hQ _ _ _ hj o.tail.tail.tail
      have hm := bst_mem (c := c) hne
      have hmn := hlr _ hm
      refine best_ok (o.vw 0 rfl) (o.get 1 rfl) (o.vw 2 rfl) (fun v hv => by rw [hcl]; exact hlr v hv) (by omega) ?_
      have nx : mNext g (i, left, c) [I (bst c left)] (i + 1, left.filter (· != bst c left), cl (if i = 0 then List.replicate g.n far else c) (g.fromI (bst c left)).dist) := ⟨hne, rfl, rfl⟩
      have hfl : (left.filter (· != bst c left)).length < left.length := by
        have := List.length_filter_lt_length_iff_exists (l := left) (p := (· != bst c left))
        exact this.2 ⟨_, hm, by simp⟩
      generalize bst c left = m at hm hmn nx hfl
      refine o.box fun m8 h7 o7 => o7.st1 0 (cs' := [I m]) rfl rfl rfl rfl rfl fun h8 o8 => o8.load 0 rfl rfl ?_
      have o9 : Own h0 h8 (Rs' ++ [cellR m8 [I m] T_int, slR encI 1 T_int vl (nI left), cellR c6 [vc] T_sl_int64, xR vc c]) := Own.comm (L := [cellR m8 [I m] T_int, slR encI 1 T_int vl (nI left), cellR c6 [vc] T_sl_int64, xR vc c]) o8
      refine hY _ _ _ Rs' _ h8 _ nx hj o9 (fun Rs'' h9 hj' o' => ?_) fun Rs'' h9 he o' => ?_
      · rw [pUn_not, Bool.not_true, ifV_false]
        have o10 : Own h0 h9 ([cellR m8 [I m] T_int, slR encI 1 T_int vl (nI left), cellR c6 [vc] T_sl_int64, xR vc c] ++ Rs'') := Own.comm o'
        refine delete_ok o10 (p := 1) (q := 0) rfl rfl (by decide) (by omega) hm fun vl' h10 o11 => ?_
        obtain ⟨hn', hf', hN'⟩ := hQ _ _ _ hj' o11.tail.tail.tail.tail
        have cn' : hcell h10 ⟨n2, 0, none⟩ = some (ptr r) := hcell_of hn' rfl
        have k3 : ∀ (vc' : Value) (c' : List Int) h11, c'.length = g.n → c' = (if i = 0 then List.replicate g.n far else c) → Own h0 h11 ([cellR m8 [I m] T_int, slR encI 1 T_int vl' (nI (left.filter (· != m))), cellR c6 [vc'] T_sl_int64, xR vc' c'] ++ Rs'') →
            sh_far_marks_1_k3 Tryz.prog (ptr n2) (ptr c6) (ptr m8) (I i) (fun a0 a1 hz => Z2 (a0, (a1, ())) hz) vl' h11 := by
          intro vc' c' h11 hcl' hc' o12
          unfold sh_far_marks_1_k3
          obtain ⟨hn', hf', hN'⟩ := hQ _ _ _ hj' o12.tail.tail.tail.tail
          have cn' : hcell h11 ⟨n2, 0, none⟩ = some (ptr r) := hcell_of hn' rfl
          refine pLoad_of rfl cn' (o12.load 2 rfl rfl (o12.load 0 rfl rfl ?_))
          refine closer_ok o12 3 rfl hcl' hR hN' fun h12 o13 => ?_
          rw [pBin_add, wI i (by omega)]
          refine hZ2 (vl', I (i + 1 : Nat), ()) h12 (left.filter (· != m)).length hfl ⟨left.filter (· != m), i + 1, cl c' (g.fromI m).dist, vc', Rs'', rfl, rfl, by omega, by rw [cl_len]; exact hcl', fun v hv => hlr v (List.mem_filter.1 hv).1, hnd.filter _, by rw [hc']; exact hj', o13.tail⟩
        rw [pBin_eql]
        by_cases h0 : i = 0
        · subst h0
          show ifV (.bool true) _ _
          rw [ifV_true]
          refine pLoad_of rfl cn' (cover_ok o11 hR hN' .nil (by decide) fun vc' h11 o12 => ?_)
          have hvc' := o12.vw 0 rfl
          refine o12.st1 3 (cs' := [vc']) rfl rfl rfl hvc'.one hvc'.plain fun h12 o13 => ?_
          refine k3 vc' (cov g []) h12 cov_len rfl ?_
          exact o13.front 5 [1, 2, 3, 0] (by decide) (by decide)
        · rw [show ((i : Int) == 0) = false by simpa using h0, ifV_false]
          exact k3 vc c h10 hcl (by rw [if_neg h0]) o11
      · rw [pUn_not, Bool.not_false, ifV_true]
        exact hK _ _ (.inr he) o'.left
    · have hle : left = [] := List.eq_nil_of_length_eq_zero (by omega)
      exact hK _ _ (.inl ⟨_, hle, hj⟩) o.tail.tail.tail

end
end Go.Proofs.YtafllleofdkdiaaGreatDoor

namespace Go.Proofs.YtafllleofdkdiaaGreatDoor
open Go Go.Mh
set_option linter.unusedVariables false

section
variable {h0 h : Heap} {L : List Res} {K : Value → Heap → Prop} {g : G} {r : Nat}

abbrev encU (x : Int) : List Value := encK .u32 x
theorem encU_plain (x : Int) : ∀ u ∈ encU x, Mh.plainCell u = true := by intro u hu; simp [encK] at hu; subst hu; rfl

/-- The first number below n of some that were drawn, and the others. -/
def drawP : List Int → Nat → Int × List Int
  | [], _ => (0, [])
  | x :: r, n => (x.tmod n, r)

theorem dnew_ok {vl : Value} {xs : List Int} (o : Own h0 h L) (Hl : Vw encU 1 h vl xs) (hb : (xs.length : Int) * 4 ≤ 2 ^ 48) (hK : ∀ pd w h', Own h0 h' (cellR pd [w] T_draw_Draws :: quR encU 1 T_uint32 w xs :: L) → K (ptr pd) h') : callS Tryz.prog F_draw_New [vl] h K := by
  refine callS_of (lk_draw_New _ ?_)
  unfold sh_draw_New
  refine Hl.len ?_
  refine (Own.start h).make (enc := encU) (n := 1) (a := 0) (m := xs.length) rfl (by omega) (by omega) fun w h1 o1 => ?_
  refine o1.copyAll (ys := xs) 0 rfl (fun _ => rfl) encU_plain (Hl.more o1.ext) (by simp) fun h2 o2 => ?_
  have hw := o2.vw 0 rfl
  refine pBuild_ones (cs' := [w]) (fun p hp => by simp at hp; subst hp; exact hw.one) rfl rfl ?_
  refine o2.box fun pd h3 o3 => ?_
  have o4 := o3.que 1 rfl
  exact hK pd w h3 (o.frame o4)

theorem dleft_ok {pd : Nat} {vl : Value} {xs : List Int} (o : Own h0 h L) (p q : Nat) (hp : L[p]? = some (cellR pd [vl] T_draw_Draws)) (hq : L[q]? = some (quR encU 1 T_uint32 vl xs)) (hK : K (I xs.length) h) : callS Tryz.prog F_draw_Draws_Left [ptr pd] h K := by
  refine callS_of (lk_draw_Draws_Left _ ?_)
  unfold sh_draw_Draws_Left
  simp only [pEq_ptr_nil, Option.isNone_some, ifV_false]
  simp only [pNil_ptr, pField_ptr]
  exact o.load p hp rfl ((o.qvw q hq).len hK)

theorem dleftN_ok (hK : K (I 0) h) : callS Tryz.prog F_draw_Draws_Left [.pointer none] h K := by
  refine callS_of (lk_draw_Draws_Left _ ?_)
  unfold sh_draw_Draws_Left
  simp only [pEq_ptr_nil, Option.isNone_none, ifV_true]
  exact hK

theorem dnextN_ok {n : Int} (hn : 1 ≤ n) (hK : K (I 0) h) : callS Tryz.prog F_draw_Draws_Next [.pointer none, I n] h K := by
  refine callS_of (lk_draw_Draws_Next _ _ ?_)
  unfold sh_draw_Draws_Next
  rw [pBin_lss, decide_eq_false (by omega), ifV_false]
  refine dleftN_ok ?_
  rw [pBin_eql]
  show ifV (.bool true) _ _
  rw [ifV_true]
  exact hK

theorem dnext_ok {pd n : Nat} {vl : Value} {xs : List Int} (o : Own h0 h L) (p q : Nat) (hp : L[p]? = some (cellR pd [vl] T_draw_Draws)) (hq : L[q]? = some (quR encU 1 T_uint32 vl xs)) (hpq : p ≠ q) (hn : 1 ≤ n) (hn2 : n < 2 ^ 40) (hxl : xs.length < 2 ^ 62) (hr : ∀ x ∈ xs, 0 ≤ x ∧ x ≤ 4294967295)
    (hK : ∀ vl' h', Own h0 h' ((L.set p (cellR pd [vl'] T_draw_Draws)).set q (quR encU 1 T_uint32 vl' (drawP xs n).2)) → K (I (drawP xs n).1) h') : callS Tryz.prog F_draw_Draws_Next [ptr pd, I n] h K := by
  refine callS_of (lk_draw_Draws_Next _ _ ?_)
  unfold sh_draw_Draws_Next
  rw [pBin_lss, decide_eq_false (by omega), ifV_false]
  refine dleft_ok o p q hp hq ?_
  rw [pBin_eql]
  cases xs with
  | nil =>
    show ifV (.bool true) _ _
    rw [ifV_true]
    unfold sh_draw_Draws_Next_k1
    refine hK vl h ?_
    rw [set_same hp]
    have : L.set q (quR encU 1 T_uint32 vl (drawP [] n).2) = L := set_same hq
    rw [this]; exact o
  | cons x r =>
    rw [show (((x :: r).length : Int) == 0) = false by simp; omega, ifV_false]
    simp only [pNil_ptr, pField_ptr]
    refine o.load p hp rfl ?_
    refine callS_of (lk_draw_first_uint32 _ ?_)
    unfold sh_draw_first_uint32
    have hx := hr x (List.mem_cons_self ..)
    refine (o.qvw q hq).at1 (e := fun x : Int => .int .u32 x) (fun _ => rfl) (i := 0) (by simp) ?_
    refine (o.qvw q hq).len ((o.qvw q hq).len ?_)
    refine o.qtail3 (fun _ => rfl) q hq (by simp) fun v' o1 => ?_
    simp only [pExt0, pExt1]
    try simp only [pNil_ptr, pField_ptr]
    have hp1 : (L.set q (quR encU 1 T_uint32 v' r))[p]? = some (cellR pd [vl] T_draw_Draws) := by rw [List.getElem?_set_ne (Ne.symm hpq)]; exact hp
    have hv' := o1.qvw q (set_get hq)
    refine o1.st1 p hp1 (cs' := [v']) rfl rfl hv'.one hv'.plain fun h2 o2 => ?_
    simp only [pConv_int]
    rw [show ((x :: r)[0]'(by simp)) = x from rfl, w64 (by omega) (by omega), pBin_rem]
    refine ⟨by omega, hK v' h2 ?_⟩
    rw [List.set_comm _ _ (Ne.symm hpq)] at o2
    exact o2

/-- Landmarks. -/
theorem fmarks_ok {k : Nat} {PL : List Res → Prop} {first : Int} {d : Value} (hR : g.Right) (H0 : ∀ {h' L'}, PL L' → Own h0 h' L' → NetR h' r g) (hk : 1 ≤ k) (hkl : k < 2 ^ 40)
    (hd : ∀ {K' : Value → Heap → Prop} {h1 : Heap} {A : List Res}, Own h h1 A → (∀ h2 L', PL L' → Own h0 h2 (A ++ L') → K' (I first) h2) → callS Tryz.prog F_draw_Draws_Next [d, I g.n] h1 K') (H1 : NetR h r g)
    (hK : ∀ w h' L', PL L' → Own h0 h' (slR encI 1 T_int w (nI (mgo g k 0 (List.range g.n) (cov g [first]))) :: L') → K w h') : callS Tryz.prog F_far_Marks [ptr r, I k, d] h K := by
  refine callS_of (lk_far_Marks _ _ _ ?_)
  unfold sh_far_Marks
  have hmost := hR.most
  refine (Own.start h).box fun k4 h1 o1 => o1.box fun l6 h2 o2 => ?_
  simp only [pEq_ptr_nil, Option.isNone_some, ifV_false]
  refine o2.load 1 rfl rfl ?_
  rw [pBin_lss, decide_eq_false (by omega), ifV_false]
  refine nodes_ok (H1.more o2.ext) (hd o2 fun h3 L' hPL o3 => ?_)
  have H : ∀ {h'}, Own h0 h' L' → NetR h' r g := fun o => H0 hPL o
  refine callS_of (lk_far_marks _ _ ?_)
  unfold sh_far_marks
  refine o3.box fun n2 h4 o4 => o4.box fun f3 h5 o5 => ?_
  have o5 : Own h0 h5 ([cellR f3 [I first] T_int, cellR n2 [ptr r] T_p_net_Net, cellR l6 [.slice none 0 0] T_sl_int, cellR k4 [I k] T_int] ++ L') := o5
  have o6 : Own h0 h5 ([cellR f3 [I first] T_int, cellR n2 [ptr r] T_p_net_Net, slR encI 1 T_int (.slice none 0 0) (nI []), cellR l6 [.slice none 0 0] T_sl_int, cellR k4 [I k] T_int] ++ L') := (o5.nilS (enc := encI) (n := 1) (T := T_int)).front 5 [1, 2, 0, 3, 4] (by decide) (by decide)
  generalize hall : mgo g k 0 (List.range g.n) (cov g [first]) = all at hK
  refine o6.range (fmarks_iter (r := r) (T1 := T_p_net_Net) (T2 := T_int) hR) (by rintro p x p' ⟨_, rfl, _⟩; rfl)
    (fun p Rs => ∃ acc vl, acc.length = p.1 ∧ p.1 < k ∧ all = acc ++ mgo g (k - p.1) p.1 p.2.1 p.2.2 ∧ Rs = [cellR f3 [I first] T_int, cellR n2 [ptr r] T_p_net_Net, slR encI 1 T_int vl (nI acc), cellR l6 [vl] T_sl_int, cellR k4 [I k] T_int] ++ L')
    (fun _ => False)
    (fun id Rs => id = 0 ∧ ∃ vl, Rs = [cellR f3 [I first] T_int, cellR n2 [ptr r] T_p_net_Net, slR encI 1 T_int vl (nI all), cellR l6 [vl] T_sl_int, cellR k4 [I k] T_int] ++ L')
    ⟨[], .slice none 0 0, rfl, by omega, hall.symm, rfl⟩ ?_ ?_ ?_ (fun _ _ h => h.elim) ?_
  · rintro p Rs' h' ⟨acc, vl, _, _, _, rfl⟩ o'
    exact ⟨o'.get 1 rfl, o'.get 0 rfl, H o'.tail.tail.tail.tail.tail⟩
  · rintro M ⟨i, left, c⟩ x p' Rs' Pr h' R ⟨hne, rfl, rfl⟩ ⟨acc, vl, hacc, hik, hch, rfl⟩ o' hN _ hX
    dsimp only [valsOf] at hne hacc hik hch ⊢
    rw [show k - i = (k - (i + 1)) + 1 by omega, mgo_next hne] at hch
    generalize bst c left = m at hch hN
    unfold sh_far_Marks_B2
    refine o'.begin 0 rfl fun h9 o9 => ?_
    have o9 : Own h0 h9 (loopR _ _ :: markR _ :: cellR f3 [I first] T_int :: cellR n2 [ptr r] T_p_net_Net :: slR encI 1 T_int vl (nI acc) :: cellR l6 [vl] T_sl_int :: cellR k4 [I k] T_int :: (L' ++ Pr)) := o9
    refine o9.load 5 rfl rfl ?_
    refine o9.app1 4 (m : Int) rfl rfl (sizesOk_of rfl) encI_len encI_plain rfl (by decide) (by rw [nI_len]; omega) fun vl' h10 o10 => ?_
    have e1 : nI acc ++ [(m : Int)] = nI (acc ++ [m]) := by simp [nI]
    rw [e1] at o10
    have hv' := o10.vw 4 rfl
    refine o10.st1 5 (cs' := [vl']) rfl rfl rfl hv'.one hv'.plain fun h11 o11 => o11.load 5 rfl rfl ?_
    refine (o11.vw 4 rfl).len (o11.load 6 rfl rfl ?_)
    rw [nI_len, List.length_append, List.length_singleton, pBin_eql]
    by_cases hik2 : i + 1 = k
    · rw [show (((acc.length + 1 : Nat) : Int) == (k : Int)) = true by simp; omega, ifV_true]
      refine hX 0 ([cellR f3 [I first] T_int, cellR n2 [ptr r] T_p_net_Net, slR encI 1 T_int vl' (nI all), cellR l6 [vl'] T_sl_int, cellR k4 [I k] T_int] ++ L') h11 ⟨rfl, vl', rfl⟩ ?_
      have : all = acc ++ [m] := by rw [hch, show k - (i + 1) = 0 by omega]; rfl
      rw [this]
      exact o11
    · rw [show (((acc.length + 1 : Nat) : Int) == (k : Int)) = false by simp; omega, ifV_false]
      refine hN ([cellR f3 [I first] T_int, cellR n2 [ptr r] T_p_net_Net, slR encI 1 T_int vl' (nI (acc ++ [m])), cellR l6 [vl'] T_sl_int, cellR k4 [I k] T_int] ++ L') h11 ⟨acc ++ [m], vl', by simp [hacc], by omega, by rw [hch]; simp, rfl⟩ ?_
      exact o11
  · rintro ⟨i, left, c⟩ h' Rs' hst ⟨acc, vl, hacc, hik, hch, rfl⟩ o'
    dsimp only at hst hch
    subst hst
    have : all = acc := by
      rw [hch, show k - i = (k - (i + 1)) + 1 by dsimp only at hik; omega]; simp [mgo]
    subst this
    unfold sh_far_Marks_k3
    have o' : Own h0 h' (markR _ :: cellR f3 [I first] T_int :: cellR n2 [ptr r] T_p_net_Net :: slR encI 1 T_int vl (nI all) :: cellR l6 [vl] T_sl_int :: cellR k4 [I k] T_int :: L') := o'
    have hv := o'.vw 3 rfl
    refine o'.load 4 rfl rfl (o'.st1 4 (cs' := [vl]) rfl rfl rfl hv.one hv.plain fun h9 o9 => o9.take1 0 rfl fun h10 o10 => o10.load 4 rfl rfl (hK vl h10 L' hPL ?_))
    exact o10.front 6 [3] (by decide) (by decide)
  · rintro id h' Rs' ⟨rfl, vl, rfl⟩ o'
    show sh_far_Marks_k3 Tryz.prog (ptr l6) h5 K h'
    unfold sh_far_Marks_k3
    have o' : Own h0 h' (markR _ :: cellR f3 [I first] T_int :: cellR n2 [ptr r] T_p_net_Net :: slR encI 1 T_int vl (nI all) :: cellR l6 [vl] T_sl_int :: cellR k4 [I k] T_int :: L') := o'
    have hv := o'.vw 3 rfl
    refine o'.load 4 rfl rfl (o'.st1 4 (cs' := [vl]) rfl rfl rfl hv.one hv.plain fun h9 o9 => o9.take1 0 rfl fun h10 o10 => o10.load 4 rfl rfl (hK vl h10 L' hPL ?_))
    exact o10.front 6 [3] (by decide) (by decide)

/-- Landmarks, by numbers that were drawn. -/
theorem fmarksD_ok {k pd : Nat} {vl : Value} {xs : List Int} {N : Res} (o : Own h0 h (cellR pd [vl] T_draw_Draws :: quR encU 1 T_uint32 vl xs :: L)) (p : Nat) (hp : L[p]? = some N) (hR : g.Right) (hN : netR N r g) (hk : 1 ≤ k) (hkl : k < 2 ^ 40) (hxl : xs.length < 2 ^ 62) (hr : ∀ x ∈ xs, 0 ≤ x ∧ x ≤ 4294967295)
    (hK : ∀ w vl' h', Own h0 h' (slR encI 1 T_int w (nI (mgo g k 0 (List.range g.n) (cov g [(drawP xs g.n).1]))) :: cellR pd [vl'] T_draw_Draws :: quR encU 1 T_uint32 vl' (drawP xs g.n).2 :: L) → K w h') : callS Tryz.prog F_far_Marks [ptr r, I k, ptr pd] h K := by
  have hpos := hR.pos
  have hmost := hR.most
  refine fmarks_ok (PL := fun L2 => ∃ vl', L2 = cellR pd [vl'] T_draw_Draws :: quR encU 1 T_uint32 vl' (drawP xs g.n).2 :: L) (first := (drawP xs g.n).1) hR ?_ hk hkl ?_ (hN _ (o.get (p + 2) hp)) fun w h' L' ⟨vl', e⟩ o' => hK w vl' h' (by subst e; exact o')
  · rintro h' L' ⟨vl', rfl⟩ o'
    exact hN _ (o'.get (p + 2) hp)
  · intro K' h1 A oA hk'
    have o1 := o.frame oA
    refine dnext_ok o1 A.length (A.length + 1) (by rw [List.getElem?_append_right (Nat.le_refl _), Nat.sub_self]; rfl) (by rw [List.getElem?_append_right (by omega), Nat.add_sub_cancel_left]; rfl) (by omega) hpos (by omega) hxl hr fun vl' h2 o2 => hk' h2 _ ⟨vl', rfl⟩ ?_
    rw [List.set_append_right _ _ (Nat.le_refl _), Nat.sub_self, List.set_cons_zero, List.set_append_right _ _ (by omega), Nat.add_sub_cancel_left] at o2
    exact o2

/-- None, if none is asked for, or there is no net. -/
theorem fmarks0_ok {k : Int} {d : Value} (hk : k < 1) (hK : ∀ h', Ext h h' → K (.slice none 0 0) h') : callS Tryz.prog F_far_Marks [ptr r, I k, d] h K := by
  refine callS_of (lk_far_Marks _ _ _ ?_)
  unfold sh_far_Marks
  refine (Own.start h).box fun k4 h1 o1 => o1.box fun l6 h2 o2 => ?_
  simp only [pEq_ptr_nil, Option.isNone_some, ifV_false]
  refine o2.load 1 rfl rfl ?_
  rw [pBin_lss, decide_eq_true hk, ifV_true]
  unfold sh_far_Marks_k1
  exact o2.st1 0 (cs' := [.slice none 0 0]) rfl rfl rfl rfl rfl fun h3 o3 => o3.load 0 rfl rfl (hK h3 o3.ext)

theorem fmarksN_ok {k : Int} {d : Value} (hK : ∀ h', Ext h h' → K (.slice none 0 0) h') : callS Tryz.prog F_far_Marks [.pointer none, I k, d] h K := by
  refine callS_of (lk_far_Marks _ _ _ ?_)
  unfold sh_far_Marks
  refine (Own.start h).box fun k4 h1 o1 => o1.box fun l6 h2 o2 => ?_
  simp only [pEq_ptr_nil, Option.isNone_none, ifV_true]
  unfold sh_far_Marks_k1
  exact o2.st1 0 (cs' := [.slice none 0 0]) rfl rfl rfl rfl rfl fun h3 o3 => o3.load 0 rfl rfl (hK h3 o3.ext)

end
end Go.Proofs.YtafllleofdkdiaaGreatDoor

namespace Go.Proofs.YtafllleofdkdiaaGreatDoor
open Go Go.Mh
set_option linter.unusedVariables false

section
variable {h0 h : Heap} {L : List Res} {K : Value → Heap → Prop} {g : G} {v : Value}

theorem outsP_take {q : A → Bool} {l : List A} {i : Nat} (hi : i < l.length) : outsP q (l.take (i + 1)) 0 = outsP q (l.take i) 0 ++ (if q l[i] then [i] else []) := by
  rw [List.take_succ_eq_append_getElem hi, outsP_append]
  simp only [outsP, List.length_take, Nat.zero_add, Nat.min_eq_left (Nat.le_of_lt hi)]

/-- Are both rows alike? -/
theorem rints_ok {α : Type} {enc : α → List Value} {e : α → Int} {xs : List α} {va vb : Value} (he : ∀ a, enc a = [I (e a)]) (Ha : Vw enc 1 h va xs) (Hb : Vw enc 1 h vb xs) (hl : xs.length < 2 ^ 40) (hK : K (.bool true) h) : callS Tryz.prog F_milestoneref07_Ints [va, vb] h K := by
  refine callS_of (lk_milestoneref07_Ints _ _ ?_)
  unfold sh_milestoneref07_Ints
  refine Ha.len (Hb.len ?_)
  rw [pBin_neq, bne_self_eq_false, ifV_false]
  refine LoopH_count xs.length (fun i x h' => x.1 = I i ∧ h' = h) ⟨rfl, rfl⟩ ?_
  rintro i ⟨x, ⟨⟩⟩ h' Z hi ⟨hx, rfl⟩ hZ
  dsimp only at hx hZ ⊢
  subst hx
  unfold sh_milestoneref07_Ints_L1
  refine Ha.len ?_
  simp only [pBin_lss, ifV_dec]
  refine ⟨fun hlt => ?_, fun hge => hK⟩
  have hlt : i < xs.length := by omega
  refine Ha.at1 (e := fun a => I (e a)) he hlt (Hb.at1 (e := fun a => I (e a)) he hlt ?_)
  rw [pBin_neq, bne_self_eq_false, ifV_false, pBin_add, wI i (by omega)]
  exact hZ (I (i + 1 : Nat), ()) _ hlt ⟨rfl, rfl⟩

end
end Go.Proofs.YtafllleofdkdiaaGreatDoor

namespace Go.Proofs.YtafllleofdkdiaaGreatDoor
open Go Go.Mh
set_option linter.unusedVariables false

section
variable {h0 h : Heap} {L : List Res} {K : Value → Heap → Prop} {g : G} {r : Nat}

def gR15 : G := ⟨5, [0, 0, 0, 0, 0], [0, 0, 0, 0, 0], [⟨0, 1, 1⟩, ⟨1, 0, 1⟩, ⟨1, 2, 2⟩, ⟨2, 1, 2⟩, ⟨2, 3, 5⟩, ⟨3, 2, 5⟩]⟩
theorem gR15_right : gR15.Right := by
  refine ⟨by decide, by decide, rfl, rfl, by decide, by decide, by decide, by decide⟩

theorem raw15 {w w2 : Value} {K : Value → Prop} {l l2 : List Int} (Hw : Vw encI 1 h w l) (Hw2 : Vw encI 1 h w2 l2) (hK : K (.agg #[I 5, w, w2, .slice none 0 0])) :
    pBuild [(.int .i64 0), (.slice none 0 0), (.slice none 0 0), (.slice none 0 0)] [(0, 1, (.int .i64 5)), (1, 1, w), (2, 1, w2)] K :=
  pBuild_ones (cs' := [I 5, w, w2, .slice none 0 0]) (fun p hp => by
    simp at hp
    rcases hp with rfl | rfl | rfl
    · rfl
    · exact Hw.one
    · exact Hw2.one) rfl rfl hK

theorem row15_ok (hK : ∀ vx vy va h', Own h h' [xR vx gR15.X, xR vy gR15.Y, aR va gR15.arcs] → K (.agg #[I gR15.n, vx, vy, va]) h') : callS Tryz.prog F_milestonelaw15_row [] h K := by
  refine callS_of (lk_milestonelaw15_row ?_)
  unfold sh_milestonelaw15_row
  refine (Own.start h).box fun t0 h1 o1 => ?_
  have o : Own h h1 [cellR t0 [I 0, .slice none 0 0, .slice none 0 0, .slice none 0 0] T_api_Raw] := o1
  clear o1
  refine cutP_of (fun y h' => ∃ g1 vx vy, y.1 = ptr g1 ∧ Own h h' [cellR g1 [I 5, vx, vy, .slice none 0 0] T_api_Raw, xR vx gR15.X, xR vy gR15.Y, cellR t0 [I 0, .slice none 0 0, .slice none 0 0, .slice none 0 0] T_api_Raw]) (fun J hJ => ?_) ?_
  · have fin : ∀ {hh : Heap} {g1 : Nat} {vx vy : Value}, Own h hh [cellR g1 [I 0, .slice none 0 0, .slice none 0 0, .slice none 0 0] T_api_Raw, xR vx gR15.X, xR vy gR15.Y, cellR t0 [I 0, .slice none 0 0, .slice none 0 0, .slice none 0 0] T_api_Raw] →
        pStore 4 (ptr g1) (.agg #[I 5, vx, vy, .slice none 0 0]) hh fun u h' => J (ptr g1, ()) h' := by
      intro hh g1 vx vy o
      refine o.st (cs' := [I 5, vx, vy, .slice none 0 0]) 0 rfl rfl rfl rfl rfl ?_ fun h9 o9 => hJ _ _ ⟨g1, vx, vy, rfl, o9⟩
      intro u hu
      simp at hu
      rcases hu with rfl | rfl | rfl | rfl
      · rfl
      · exact (o.vw 1 rfl).plain
      · exact (o.vw 2 rfl).plain
      · rfl
    repeat' (first
      | with_reducible apply And.intro
      | refine o.box fun g1 hh o => ?_
      | refine o.make (enc := encI) (n := 1) (a := 0) (m := 5) rfl (by decide) (by decide) fun w hh o => ?_
      | refine raw15 (o.vw 0 rfl) (o.vw 1 rfl) ?_
      | refine raw15 (o.vw 1 rfl) (o.vw 0 rfl) ?_
      | refine raw15 (o.vw 0 rfl) (o.vw 2 rfl) ?_
      | refine raw15 (o.vw 2 rfl) (o.vw 0 rfl) ?_
      | exact fin (o.sel [0, 1, 2, 3] (by decide))
      | exact fin (o.sel [0, 2, 1, 3] (by decide))
      | exact fin (o.sel [1, 0, 2, 3] (by decide))
      | exact fin (o.sel [1, 2, 0, 3] (by decide))
      | exact fin (o.sel [2, 0, 1, 3] (by decide))
      | exact fin (o.sel [2, 1, 0, 3] (by decide)))
  · rintro ⟨y, ⟨⟩⟩ h2 ⟨g1, vx, vy, hy, o⟩
    dsimp only at hy ⊢
    subst hy
    unfold sh_milestonelaw15_row_C1
    refine o.build (enc := encI) (n := 1) [1, 2, 5] rfl (sizesOk_of rfl) rfl fun w7 h3 o3 => ?_
    refine (o3.vw 0 rfl).len ?_
    refine LoopH_count 3 (fun i x h' => x.1 = I i ∧ ∃ va, Own h h' [slR encI 1 T_int64 w7 [1, 2, 5], cellR g1 [I 5, vx, vy, va] T_api_Raw, aR va (gR15.arcs.take (2 * i)), xR vx gR15.X, xR vy gR15.Y, cellR t0 [I 0, .slice none 0 0, .slice none 0 0, .slice none 0 0] T_api_Raw]) ⟨rfl, .slice none 0 0, (o3.nilS (enc := encA) (n := 3) (T := T_api_Arc)).sel [1, 2, 0, 3, 4, 5] (by decide)⟩ ?_
    clear o3 o
    rintro i ⟨x, ⟨⟩⟩ h' Z hi ⟨hx, va, o⟩ hZ
    dsimp only at hx hZ ⊢
    subst hx
    unfold sh_milestonelaw15_row_L2
    simp only [pField_ptr]
    have step : ∀ (j : Nat) (w : Int) (a b : A), j < 3 → ([1, 2, 5] : List Int)[j]? = some w → [encA a, encA b].flatten = [I j, I (j + 1), I w, I (j + 1), I j, I w] → (gR15.arcs.take (2 * j)).length ≤ 4 → gR15.arcs.take (2 * j) ++ [a, b] = gR15.arcs.take (2 * (j + 1)) →
        Own h h' [slR encI 1 T_int64 w7 [1, 2, 5], cellR g1 [I 5, vx, vy, va] T_api_Raw, aR va (gR15.arcs.take (2 * j)), xR vx gR15.X, xR vy gR15.Y, cellR t0 [I 0, .slice none 0 0, .slice none 0 0, .slice none 0 0] T_api_Raw] →
        (∀ va' h'', Own h h'' [slR encI 1 T_int64 w7 [1, 2, 5], cellR g1 [I 5, vx, vy, va'] T_api_Raw, aR va' (gR15.arcs.take (2 * (j + 1))), xR vx gR15.X, xR vy gR15.Y, cellR t0 [I 0, .slice none 0 0, .slice none 0 0, .slice none 0 0] T_api_Raw] → Z (I ((j : Int) + 1), ()) h'') →
        pIdx 1 w7 (I j) fun t12 => pLoad h' t12 fun t13 => pLoad h' (.pointer (some ⟨g1, 0 + 3, none⟩)) fun t15 => pBin .add (I j) (.int .i64 1) fun t18 => pBuild [(.int .i64 0), (.int .i64 0), (.int .i64 0)] [(0, 1, I j), (1, 1, t18), (2, 1, t13)] fun t20 =>
          pBin .add (I j) (.int .i64 1) fun t22 => pBuild [(.int .i64 0), (.int .i64 0), (.int .i64 0)] [(0, 1, t22), (1, 1, I j), (2, 1, t13)] fun t25 =>
          pBuildSlice T_api_Arc (zerosL [(.int .i64 0), (.int .i64 0), (.int .i64 0)] 2) [(0, 3, t20), (3, 3, t25)] 2 h' fun t26 h_26 => pAppend T_api_Arc 3 24 [(.int .i64 0), (.int .i64 0), (.int .i64 0)] t15 t26 h_26 fun t27 h_27 =>
          pStore 1 (.pointer (some ⟨g1, 0 + 3, none⟩)) t27 h_27 fun u_6 h_28 => pBin .add (I j) (.int .i64 1) fun t29 => Z (t29, ()) h_28 := by
      intro j w a b hj hw he hlen happ o hz
      refine (o.vw 0 rfl).atQ hw (o.load 1 rfl rfl ?_)
      have hadd : IntKind.i64.wrap ((j : Int) + 1) = (j : Int) + 1 := w64 (by omega) (by omega)
      rw [pBin_add, hadd]
      refine ⟨sizesOk_of rfl, ?_⟩
      show pBin .add (I j) (.int .i64 1) _
      rw [pBin_add, hadd]
      refine ⟨sizesOk_of rfl, ?_⟩
      refine o.build (enc := encA) (n := 3) [a, b] (by
        show [I j, I (j + 1), I w, I (j + 1), I j, I w] = [encA a, encA b].flatten
        exact he.symm) (sizesOk_of rfl) rfl fun w26 h4 o4 => ?_
      refine o4.app 3 rfl encA_len encA_plain rfl (o4.vw 0 rfl) (by decide) (by simp only [List.length_cons, List.length_nil]; omega) fun va' h5 o5 => ?_
      rw [happ] at o5
      have hva := o5.vw 3 rfl
      refine o5.st1 2 (cs' := [I 5, vx, vy, va']) rfl rfl rfl hva.one hva.plain fun h6 o6 => ?_
      rw [pBin_add, hadd]
      exact hz va' h6 o6.tail
    have fin : i = 3 → Own h h' [slR encI 1 T_int64 w7 [1, 2, 5], cellR g1 [I 5, vx, vy, va] T_api_Raw, aR va gR15.arcs, xR vx gR15.X, xR vy gR15.Y, cellR t0 [I 0, .slice none 0 0, .slice none 0 0, .slice none 0 0] T_api_Raw] →
        pLoadN 4 h' (ptr g1) fun t30 => pStore 4 (ptr t0) t30 h' fun u_7 h_29 => pLoadN 4 h_29 (ptr t0) fun res => K res h_29 := by
      intro _ o
      refine o.ldN (cs' := [I 5, vx, vy, va]) 1 rfl rfl rfl (o.st (cs' := [I 5, vx, vy, va]) 5 rfl rfl rfl rfl rfl ?_ fun h9 o9 => o9.ldN (cs' := [I 5, vx, vy, va]) 5 rfl rfl rfl (hK vx vy va h9 (o9.sel [3, 4, 2] (by decide))))
      intro u hu
      simp at hu
      rcases hu with rfl | rfl | rfl | rfl
      · rfl
      · exact (o.vw 3 rfl).plain
      · exact (o.vw 4 rfl).plain
      · exact (o.vw 2 rfl).plain
    rw [pBin_lss]
    match i, hi, o, hZ with
    | 0, _, o, hZ =>
      show ifV (.bool true) _ _
      rw [ifV_true]
      exact step 0 1 ⟨0, 1, 1⟩ ⟨1, 0, 1⟩ (by decide) rfl rfl (by decide) rfl o fun va' h'' o'' => hZ (I 1, ()) h'' (by decide) ⟨rfl, va', o''⟩
    | 1, _, o, hZ =>
      show ifV (.bool true) _ _
      rw [ifV_true]
      exact step 1 2 ⟨1, 2, 2⟩ ⟨2, 1, 2⟩ (by decide) rfl rfl (by decide) rfl o fun va' h'' o'' => hZ (I 2, ()) h'' (by decide) ⟨rfl, va', o''⟩
    | 2, _, o, hZ =>
      show ifV (.bool true) _ _
      rw [ifV_true]
      exact step 2 5 ⟨2, 3, 5⟩ ⟨3, 2, 5⟩ (by decide) rfl rfl (by decide) rfl o fun va' h'' o'' => hZ (I 3, ()) h'' (by decide) ⟨rfl, va', o''⟩
    | 3, _, o, hZ =>
      show ifV (.bool false) _ _
      rw [ifV_false]
      exact fin rfl o

/-- Are both rows alike? -/
theorem sums15_ok {xs : List Int} {va vb : Value} (Ha : Vw encI 1 h va xs) (Hb : Vw encI 1 h vb xs) (hl : xs.length < 2 ^ 40) (hK : K (.bool true) h) : callS Tryz.prog F_milestonelaw15_sums [va, vb] h K := by
  refine callS_of (lk_milestonelaw15_sums _ _ ?_)
  unfold sh_milestonelaw15_sums
  refine Ha.len (Hb.len ?_)
  rw [pBin_neq, bne_self_eq_false, ifV_false]
  refine LoopH_count xs.length (fun i x h' => x.1 = I i ∧ h' = h) ⟨rfl, rfl⟩ ?_
  rintro i ⟨x, ⟨⟩⟩ h' Z hi ⟨hx, rfl⟩ hZ
  dsimp only at hx hZ ⊢
  subst hx
  unfold sh_milestonelaw15_sums_L1
  refine Ha.len ?_
  simp only [pBin_lss, ifV_dec]
  refine ⟨fun hlt => ?_, fun hge => hK⟩
  have hlt : i < xs.length := by omega
  refine Ha.atI hlt (Hb.atI hlt ?_)
  rw [pBin_neq, bne_self_eq_false, ifV_false, pBin_add, wI i (by omega)]
  exact hZ (I (i + 1 : Nat), ()) _ hlt ⟨rfl, rfl⟩

theorem mR1 : mgo gR15 3 0 (List.range gR15.n) (cov gR15 [(drawP [6] gR15.n).1]) = [4, 0, 3] := by kernel_rfl
theorem mR2 : mgo gR15 9 0 (List.range gR15.n) (cov gR15 [(drawP [4] gR15.n).1]) = [0, 4, 3, 2, 1] := by kernel_rfl
theorem cR1 : cov gR15 [0, 3] = [0, 1, 3, 0, 72057594037927936] := by kernel_rfl
theorem cR2 : cov gR15 [] = [72057594037927936, 72057594037927936, 72057594037927936, 72057594037927936, 72057594037927936] := by kernel_rfl

theorem works15_ok (hK : ∀ h', Ext h h' → K (.bool true) h') : callS Tryz.prog F_milestonelaw15_works [] h K := by
  refine callS_of (lk_milestonelaw15_works ?_)
  unfold sh_milestonelaw15_works
  refine row15_ok fun vx vy va h1 o1 => ?_
  refine new_net_ok o1 gR15_right ⟨vx, vy, va, rfl, o1.vw 0 rfl, o1.vw 1 rfl, o1.vw 2 rfl⟩ fun r N h2 hN o2 => ?_
  simp only [pExt0, pExt1, pNe_iface_nil, ifV_false, pEq_ptr_nil, Option.isNone_some]
  have o := o2.sel [0] (by decide)
  clear o2 o1
  refine o.build (enc := encU) (n := 1) [6] rfl (sizesOk_of rfl) rfl fun w1 h3 o => ?_
  refine dnew_ok o (o.vw 0 rfl) (by decide) fun pd w h4 o => ?_
  refine fmarksD_ok (k := 3) o 1 rfl gR15_right hN (by decide) (by decide) (by decide) (by decide) fun wm vl' h5 o => ?_
  rw [mR1] at o
  refine o.build (enc := encI) (n := 1) [4, 0, 3] rfl (sizesOk_of rfl) rfl fun w2 h6 o => ?_
  refine rints_ok (e := fun x => x) (fun _ => rfl) (o.vw 1 rfl) (o.vw 0 rfl) (by decide) ?_
  rw [ifV_true]
  replace o := o.sel [5] (by decide)
  refine o.build (enc := encU) (n := 1) [4] rfl (sizesOk_of rfl) rfl fun w1 h3 o => ?_
  refine dnew_ok o (o.vw 0 rfl) (by decide) fun pd w h4 o => ?_
  refine fmarksD_ok (k := 9) o 1 rfl gR15_right hN (by decide) (by decide) (by decide) (by decide) fun wm vl' h5 o => ?_
  rw [mR2] at o
  refine o.build (enc := encI) (n := 1) [0, 4, 3, 2, 1] rfl (sizesOk_of rfl) rfl fun w2 h6 o => ?_
  refine rints_ok (e := fun x => x) (fun _ => rfl) (o.vw 1 rfl) (o.vw 0 rfl) (by decide) ?_
  rw [ifV_true]
  replace o := o.sel [5] (by decide)
  refine o.build (enc := encI) (n := 1) [0, 3] rfl (sizesOk_of rfl) rfl fun w3 h7 o => ?_
  refine cover_ok o gR15_right (hN _ (o.get 1 rfl)) (o.vw 0 rfl) (by decide) fun wc h8 o => ?_
  rw [cR1] at o
  refine o.build (enc := encI) (n := 1) [0, 1, 3, 0, 72057594037927936] rfl (sizesOk_of rfl) rfl fun w4 h9 o => ?_
  refine sums15_ok (o.vw 1 rfl) (o.vw 0 rfl) (by decide) ?_
  rw [ifV_true]
  refine cover_ok o gR15_right (hN _ (o.get 3 rfl)) .nil (by decide) fun wc h8 o => ?_
  rw [cR2] at o
  refine o.build (enc := encI) (n := 1) [72057594037927936, 72057594037927936, 72057594037927936, 72057594037927936, 72057594037927936] rfl (sizesOk_of rfl) rfl fun w4 h9 o => ?_
  exact sums15_ok (o.vw 1 rfl) (o.vw 0 rfl) (by decide) (hK _ o.ext)

end
end Go.Proofs.YtafllleofdkdiaaGreatDoor

namespace Go.Proofs.YtafllleofdkdiaaGreatDoor
open Go Go.Mh
set_option linter.unusedVariables false

section
variable {h0 h : Heap} {L : List Res} {K : Value → Heap → Prop} {g : G} {vb vd : Value} {bs ds : List Int}

/-- A graph drawn, and its net. -/
theorem graph15_ok {k : Int} (H : Vw encU8 1 h vb bs) (Hd : Vw encU 1 h vd ds)
    (hK : ∀ (g : G) vx vy va r N h', Few g → netR N r g → Own h h' [N, xR vx g.X, xR vy g.Y, aR va g.arcs] → K (.tuple #[.agg #[I g.n, vx, vy, va], ptr r]) h') :
    callS Tryz.prog F_milestonelaw15_Drawn_graph [.agg #[vb, .int .i8 k, vd]] h K := by
  refine callS_of (lk_milestonelaw15_Drawn_graph _ ?_)
  unfold sh_milestonelaw15_Drawn_graph
  have hvb := H.one
  refine (Own.start h).box fun d1 h1 o1 => ?_
  have ec : (Value.cells (.agg #[vb, .int .i8 k, vd])).toList = [vb, .int .i8 k, vd] := rfl
  rw [ec] at o1
  refine o1.box fun t2 h2 o2 => ?_
  simp only [pField_ptr]
  refine o2.load 1 rfl rfl (o2.load 1 rfl rfl ((H.more o2.ext).len ?_))
  have e : (if (60 : Int) < bs.length then 60 else (bs.length : Int)) = ((min bs.length 60 : Nat) : Int) := by split <;> omega
  rw [pMin_int, e]
  refine H.sub (a := 0) (j := min bs.length 60) encU8_len rfl rfl (by omega) (by omega) fun vb' hb => ⟨sizesOk_of (by obtain ⟨b, c, e⟩ := hb.isSl; subst e; rfl), ?_⟩
  refine o2.box fun d h3 o3 => ?_
  have o4 : Own h h3 (dR d vb' 0 :: [cellR t2 [I 0, sl0, sl0, sl0] T_api_Raw, cellR d1 [vb, .int .i8 k, vd] T_milestonelaw15_Drawn]) := by obtain ⟨b, c, e⟩ := hb.isSl; subst e; exact o3
  refine raw_ok o4 hb fun g vx vy va a' h4 hg o5 => ?_
  have hR := hg.toRight
  have raw4 : ∀ {h' : Heap} {L' : List Res} {u : Value}, Own h h' (xR vx g.X :: xR vy g.Y :: aR va g.arcs :: L') → u ∈ [I g.n, vx, vy, va] → Mh.plainCell u = true := by
    intro h' L' u o hu
    simp at hu
    rcases hu with rfl | rfl | rfl | rfl
    · rfl
    · exact (o.vw 0 rfl).plain
    · exact (o.vw 1 rfl).plain
    · exact (o.vw 2 rfl).plain
  refine o5.box fun g7 h5 o6 => o6.st (cs' := [I g.n, vx, vy, va]) 0 rfl rfl rfl rfl rfl (fun u hu => raw4 o5 hu) fun h6 o7 => o7.ldN 0 rfl rfl rfl ?_
  refine new_net_ok o7 hR ⟨vx, vy, va, rfl, o7.vw 1 rfl, o7.vw 2 rfl, o7.vw 3 rfl⟩ fun r N h7 hN o8 => ?_
  simp only [pExt0, pExt1]
  refine o8.ldN 1 rfl rfl rfl ?_
  refine o8.st (cs' := [I g.n, vx, vy, va]) 6 rfl rfl rfl rfl rfl (fun u hu => raw4 o5 hu) fun h8 o9 => o9.ldN 6 rfl rfl rfl ?_
  exact hK g vx vy va r N h8 hg hN (o9.sel [0, 2, 3, 4] (by decide))

/-- Marks of any number. -/
theorem fmarksAny_ok {k pd r : Nat} {vl : Value} {xs : List Int} {N : Res} (o : Own h0 h (cellR pd [vl] T_draw_Draws :: quR encU 1 T_uint32 vl xs :: L)) (p : Nat) (hp : L[p]? = some N) (hR : g.Right) (hN : netR N r g) (hkl : k < 2 ^ 40) (hxl : xs.length < 2 ^ 62) (hr : ∀ x ∈ xs, 0 ≤ x ∧ x ≤ 4294967295)
    (hK : ∀ w h', Own h0 h' (slR encI 1 T_int w (nI (mgo g k 0 (List.range g.n) (cov g [(drawP xs g.n).1]))) :: L) → K w h') : callS Tryz.prog F_far_Marks [ptr r, I k, ptr pd] h K := by
  by_cases hk : 1 ≤ k
  · exact fmarksD_ok o p hp hR hN hk hkl hxl hr fun w vl' h' o' => hK w h' (o'.front 3 [0] (by decide) (by decide))
  · have : k = 0 := by omega
    subst this
    refine fmarks0_ok (by decide) fun h' x => hK _ h' ?_
    exact ((o.more x).tail.tail).nilS

theorem farFewer_ok {k z : Int} (H : Vw encU8 1 h vb bs) (Hd : Vw encU 1 h vd ds) (hr : ∀ x ∈ ds, 0 ≤ x ∧ x ≤ 4294967295) (hs : ds.length * 4 ≤ reachBytes) (hz : 0 ≤ z ∧ z < 256) (hK : ∀ h', Ext h h' → K (.bool true) h') :
    CallsH Tryz.prog F_milestonelaw15_FarFewer [.agg #[vb, .int .i8 k, vd], .int .u8 z].toArray h K := by
  refine lk_milestonelaw15_FarFewer _ _ ?_
  unfold sh_milestonelaw15_FarFewer
  have hrb : reachBytes = 140737488351232 := rfl
  have hvb := H.one
  have hvd := Hd.one
  refine (Own.start h).box fun d2 h1 o1 => ?_
  have ec : (Value.cells (.agg #[vb, .int .i8 k, vd])).toList = [vb, .int .i8 k, vd] := rfl
  rw [ec] at o1
  refine works15_ok fun h2 x2 => ?_
  rw [pUn_not, Bool.not_true, ifV_false]
  have o2 := o1.more x2
  refine o2.ldN (cs' := [vb, .int .i8 k, vd]) 0 rfl rfl rfl (graph15_ok (H.more o2.ext) (Hd.more o2.ext) fun g vx vy va r N h3 hg hN o3 => ?_)
  simp only [pExt0, pExt1]
  have hR := hg.toRight
  have hmost := hR.most
  have hpos := hR.pos
  replace o3 := o2.frame o3
  refine o3.box fun g5 h4 o4 => o4.st (cs' := [I g.n, vx, vy, va]) 0 rfl rfl rfl rfl rfl ?_ fun h5 o5 => ?_
  · intro u hu
    simp at hu
    rcases hu with rfl | rfl | rfl | rfl
    · rfl
    · exact (o3.vw 1 rfl).plain
    · exact (o3.vw 2 rfl).plain
    · exact (o3.vw 3 rfl).plain
  simp only [pEq_ptr_nil, Option.isNone_some, ifV_false, pField_ptr]
  have o6 : Own h h5 [cellR g5 [I g.n, vx, vy, va] T_api_Raw, N, cellR d2 [vb, .int .i8 k, vd] T_milestonelaw15_Drawn] := o5.sel [0, 1, 5] (by decide)
  clear o5 o4 o3 o2 o1
  refine o6.load 0 rfl rfl (o6.load 2 rfl rfl ?_)
  refine dnew_ok o6 (Hd.more o6.ext) (by omega) fun pd w h6 o7 => ⟨o7.load 2 rfl rfl rfl, ?_⟩
  refine fmarksAny_ok (k := g.n) o7 1 rfl hR hN (by omega) (by omega) hr fun wa h7 o8 => ?_
  have f0 : ∀ first : Int, (mgo g g.n 0 (List.range g.n) (cov g [first])).length = g.n := fun first => by rw [mgo_len List.nodup_range, List.length_range, Nat.min_self]
  have fall : ∀ first : Int, ∀ v, v < g.n → v ∈ mgo g g.n 0 (List.range g.n) (cov g [first]) := fun first v hv => mgo_all List.nodup_range (by rw [List.length_range]; exact Nat.le_refl _) v (List.mem_range.2 hv)
  have ftk : ∀ first : Int, ∀ q, q ≤ g.n → mgo g q 0 (List.range g.n) (cov g [first]) = (mgo g g.n 0 (List.range g.n) (cov g [first])).take q := fun first q hq => by
    have := mgo_take (g := g) (k := q) (j := g.n - q) (i := 0) (left := List.range g.n) (c := cov g [first])
    rw [show q + (g.n - q) = g.n by omega] at this
    exact this.symm
  have fsub : ∀ first : Int, ∀ v ∈ mgo g g.n 0 (List.range g.n) (cov g [first]), v < g.n := fun first v hv => List.mem_range.1 (mgo_sub v hv)
  have f0 := f0 (drawP ds g.n).1
  have fall := fall (drawP ds g.n).1
  have ftk := ftk (drawP ds g.n).1
  have fsub := fsub (drawP ds g.n).1
  simp only [pConv_int]
  rw [w64 (by omega) (by omega)]
  refine o8.load 1 rfl rfl ?_
  rw [pBin_add, w64 (by omega) (by omega), pBin_rem]
  refine ⟨by omega, ?_⟩
  obtain ⟨u, rfl⟩ := Int.eq_ofNat_of_zero_le hz.1
  have hq : (u : Int).tmod ((g.n : Int) + 1) = ((u % (g.n + 1) : Nat) : Int) := rfl
  rw [hq]
  have hqn : u % (g.n + 1) ≤ g.n := by
    have := Nat.mod_lt u (show 0 < g.n + 1 by omega)
    omega
  generalize u % (g.n + 1) = q at hqn
  refine o8.load 3 rfl rfl ?_
  refine dnew_ok o8 (Hd.more o8.ext) (by omega) fun pd2 w2 h8 o9 => ?_
  refine fmarksAny_ok (k := q) o9 2 rfl hR hN (by omega) (by omega) hr fun ws h9 o10 => ?_
  rw [ftk q hqn] at o10
  generalize mgo g g.n 0 (List.range g.n) (cov g [(drawP ds g.n).1]) = all at f0 fall fsub o10
  refine (o10.vw 1 rfl).len (o10.load 2 rfl rfl ?_)
  rw [nI_len, f0, pBin_neq, bne_self_eq_false, ifV_false]
  refine (o10.vw 1 rfl).sub (a := 0) (j := q) encI_len rfl rfl (by omega) (by rw [nI_len, f0]; exact hqn) fun wt hwt => ?_
  have et : ((nI all).drop 0).take (q - 0) = nI (all.take q) := by rw [List.drop_zero, Nat.sub_zero]; simp [nI, List.map_take]
  rw [et] at hwt
  have htl : (all.take q).length = q := by rw [List.length_take, f0]; omega
  refine rints_ok (e := fun x => x) (fun _ => rfl) (o10.vw 0 rfl) hwt (by rw [nI_len, htl]; omega) ?_
  rw [pUn_not, Bool.not_true, ifV_false]
  refine cover_ok o10 hR (hN _ (o10.get 3 rfl)) (o10.vw 0 rfl) (by rw [nI_len, htl]; omega) fun wca h10 o11 => ?_
  refine cover_ok o11 hR (hN _ (o11.get 4 rfl)) (o11.vw 2 rfl) (by rw [nI_len, f0]; omega) fun wcb h11 o12 => ?_
  have mem1 : ∀ {v : Nat} {l : List Nat}, v ∈ l → (v : Int) ∈ nI l := fun {v l} h => List.mem_map.2 ⟨v, h, rfl⟩
  have cb0 : ∀ v, v < g.n → dAt (cov g (nI all)) v = 0 := fun v hv => cov_own hR (mem1 (fall v hv)) hv
  have cars : ∀ v, v < g.n → 0 ≤ dAt (cov g (nI (all.take q))) v ∧ dAt (cov g (nI (all.take q))) v ≤ far := fun v hv => cov_rng hR hv
  have ca0 : ∀ v ∈ all.take q, dAt (cov g (nI (all.take q))) v = 0 := fun v hv => cov_own hR (mem1 hv) (fsub v (List.mem_of_mem_take hv))
  have hfar : far = 72057594037927936 := rfl
  have l1 : (cov g (nI all)).length = g.n := cov_len
  have l2 : (cov g (nI (all.take q))).length = g.n := cov_len
  generalize cov g (nI all) = cb at cb0 l1 o12
  generalize hca : cov g (nI (all.take q)) = ca at cars ca0 l2 o12
  clear hca
  refine LoopH_count g.n (fun i x h' => x.1 = I i ∧ h' = h11) ⟨rfl, rfl⟩ ?_
  rintro v ⟨x, ⟨⟩⟩ h' Z hi ⟨hx, rfl⟩ hZ
  dsimp only at hx hZ ⊢
  subst hx
  unfold sh_milestonelaw15_FarFewer_L2
  simp only [pField_ptr]
  refine o12.load 4 rfl rfl ?_
  simp only [pBin_lss (b := (g.n : Int)), ifV_dec]
  refine ⟨fun hlt => ?_, fun hge => ?_⟩
  · have hlt : v < g.n := by omega
    refine (o12.vw 0 rfl).atI (by omega) ?_
    rw [dAt_get (by omega), cb0 v hlt, pBin_neq, bne_self_eq_false, ifV_false]
    refine (o12.vw 1 rfl).atI (by omega) ?_
    have := cars v hlt
    rw [dAt_get (by omega), pBin_lss, decide_eq_false (by omega), ifV_false]
    refine (o12.vw 1 rfl).atI (by omega) ?_
    rw [dAt_get (by omega), pBin_gtr, decide_eq_false (by omega), ifV_false, pBin_add, wI v (by omega)]
    exact hZ (I (v + 1 : Nat), ()) _ hlt ⟨rfl, rfl⟩
  · refine LoopH_count q (fun i x h2 => x.1 = I i ∧ h2 = h') ⟨rfl, rfl⟩ ?_
    rintro i ⟨x, ⟨⟩⟩ h2 Z2 hi2 ⟨hx, rfl⟩ hZ2
    dsimp only at hx hZ2 ⊢
    subst hx
    unfold sh_milestonelaw15_FarFewer_L4
    refine (o12.vw 2 rfl).len ?_
    rw [nI_len, htl]
    simp only [pBin_lss, ifV_dec]
    refine ⟨fun hlt => ?_, fun hge => hK _ o12.ext⟩
    have hlt : i < q := by omega
    have hit : i < (all.take q).length := by rw [htl]; exact hlt
    have hq2 : (nI (all.take q))[i]? = some (((all.take q)[i] : Nat) : Int) := by
      simp only [nI, List.getElem?_map, List.getElem?_eq_getElem hit, Option.map_some]
    have hm := List.getElem_mem hit
    generalize (all.take q)[i] = m at hq2 hm
    have hmn := fsub m (List.mem_of_mem_take hm)
    refine (o12.vw 2 rfl).atQ hq2 ((o12.vw 1 rfl).atI (by omega) ?_)
    rw [dAt_get (by omega), ca0 m hm, pBin_neq, bne_self_eq_false, ifV_false, pBin_add, wI i (by omega)]
    exact hZ2 (I (i + 1 : Nat), ()) _ hlt ⟨rfl, rfl⟩

end
end Go.Proofs.YtafllleofdkdiaaGreatDoor

namespace Go.Proofs.YtafllleofdkdiaaGreatDoor
open Go Go.Mh
set_option linter.unusedVariables false

section
variable {h0 h : Heap} {L : List Res} {K : Value → Heap → Prop} {g : G} {v : Value}

end
end Go.Proofs.YtafllleofdkdiaaGreatDoor

namespace Go.Proofs.YtafllleofdkdiaaGreatDoor
open Go Go.Mh
set_option linter.unusedVariables false

section
variable {h0 h : Heap} {L : List Res} {K : Value → Heap → Prop} {g : G} {v : Value}

theorem turned2_step {l : List A} {i : Nat} (hi : i < l.length) : (((l.take i).map A.swap ++ l.drop i).set i (l[i]).swap) = (l.take (i + 1)).map A.swap ++ l.drop (i + 1) := by
  rw [List.set_append_right _ _ (by simp; omega)]
  have e : i - ((l.take i).map A.swap).length = 0 := by simp; omega
  rw [e, List.drop_eq_getElem_cons hi, List.set_cons_zero, List.take_succ_eq_append_getElem hi, List.map_append, List.append_assoc]; rfl

/-- The reference's least distances. -/
theorem bell_ok {s : Nat} (o : Own h0 h L) (hR : g.Right) (H : RawV h v g) (hs : s < g.n) (hK : ∀ d vd h', LS g.arcs A.f A.t g.n s d → Own h0 h' (xR vd d :: L) → K vd h') : callS Tryz.prog F_milestoneref10_Least [v, I s] h K := by
  obtain ⟨vx, vy, va, rfl, H⟩ := H
  refine callS_of (lk_milestoneref10_Least _ _ ?_)
  unfold sh_milestoneref10_Least
  have hmany := hR.many
  have hmost := hR.most
  have hv : ∀ {h' : Heap}, Ext h h' → Vw encA 3 h' va g.arcs := fun x => H.2.2.more x
  refine (Own.start h).box fun r h1 o1 => ?_
  refine LoopH_count g.n (fun i x h' => x.2.1 = I i ∧ Own h h' [xR x.1 (List.replicate i far), cellR r [I g.n, vx, vy, va] T_api_Raw]) ⟨rfl, o1.nilS⟩ ?_
  clear o1
  rintro i ⟨vl, x, ⟨⟩⟩ h' Z hi ⟨hx, o'⟩ hZ
  dsimp only at hx hZ o' ⊢
  subst hx
  unfold sh_milestoneref10_Least_L1
  simp only [pField_ptr]
  refine o'.load 1 rfl rfl ?_
  simp only [pBin_lss, ifV_dec]
  refine ⟨fun hlt => ?_, fun hge => ⟨fun h => absurd h (by omega), fun _ => ?_⟩⟩
  · refine o'.app1 0 far rfl rfl (sizesOk_of rfl) encI_len encI_plain rfl (by decide) (by simp; omega) fun v' h2 o2 => ?_
    rw [pBin_add, wI i (by omega)]
    refine hZ (v', I (i + 1 : Nat), ()) h2 (by omega) ⟨rfl, ?_⟩
    rw [List.replicate_succ']
    exact o2
  · have : i = g.n := by omega
    subst this
    refine o'.load 1 rfl rfl ?_
    rw [pBin_geq, show decide ((g.n : Int) ≤ s) = false from decide_eq_false (by omega), ifV_false]
    refine o'.setI 0 rfl (by simpa using hs) fun h2 o2 => ?_
    refine LoopH_down (fun k x h' => ∃ d, BInv g.arcs g.n s d ∧ Own h h' [xR vl d, cellR r [I g.n, vx, vy, va] T_api_Raw] ∧ ((x.1 = .bool true ∧ k = dsum d + 1) ∨ (x.1 = .bool false ∧ k = 0 ∧ LS g.arcs A.f A.t g.n s d)))
      (k0 := dsum ((List.replicate g.n far).set s 0) + 1) ⟨_, BInv.start hs, o2, .inl ⟨rfl, rfl⟩⟩ ?_
    clear o2 o' hZ
    rintro k ⟨x, ⟨⟩⟩ h' Z1 ⟨d, B, o', hm⟩ hZ1
    dsimp only at hm hZ1 ⊢
    unfold sh_milestoneref10_Least_L3
    rcases hm with ⟨rfl, rfl⟩ | ⟨rfl, rfl, hl⟩
    · rw [ifV_true]
      refine LoopH_count g.arcs.length (fun i x h' => x.2.1 = I i ∧ ∃ d', BInv g.arcs g.n s d' ∧ Own h h' [xR vl d', cellR r [I g.n, vx, vy, va] T_api_Raw] ∧
        ((x.1 = .bool true ∧ dsum d' < dsum d) ∨ (x.1 = .bool false ∧ d' = d ∧ ∀ j (hj : j < g.arcs.length), j < i → dAt d (g.arcs[j]).f < far → dAt d (g.arcs[j]).t ≤ dAt d (g.arcs[j]).f + (g.arcs[j]).w))) ⟨rfl, d, B, o', .inr ⟨rfl, rfl, fun j _ h => absurd h (by omega)⟩⟩ ?_
      clear o'
      rintro i ⟨m, x, ⟨⟩⟩ h' Z2 hi ⟨hx, d', B', o', hm⟩ hZ2
      dsimp only at hx hm hZ2 ⊢
      subst hx
      unfold sh_milestoneref10_Least_L4
      simp only [pField_ptr]
      refine o'.load 1 rfl rfl ((hv o'.ext).len ?_)
      simp only [pBin_lss (b := (g.arcs.length : Int)), ifV_dec]
      refine ⟨fun hlt => ?_, fun hge => ?_⟩
      · have hlt : i < g.arcs.length := by omega
        refine o'.load 1 rfl rfl ((hv o'.ext).atN encA_len hlt ?_)
        have ha := hR.ends _ (List.getElem_mem hlt)
        have hmem := List.getElem_mem hlt
        have hai : ∀ j (hj : j < g.arcs.length), j < i + 1 → g.arcs[j] = g.arcs[i] ∨ j < i := fun j hj h => by
          by_cases e : j = i
          · subst e; exact .inl rfl
          · exact .inr (by omega)
        generalize g.arcs[i] = a at ha hmem hai
        have rf := B'.rng ha.1
        have rt := B'.rng ha.2.1
        have lf : a.f < d'.length := by rw [B'.len]; exact ha.1
        have lt : a.t < d'.length := by rw [B'.len]; exact ha.2.1
        have hfar : far = 72057594037927936 := rfl
        refine o'.box fun b h2 o2 => o2.st 0 rfl rfl rfl rfl rfl (encA_plain _) fun h3 o3 => ?_
        refine cutP_of (fun y h'' => y.1 = .bool (decide (dAt d' a.f < far) && decide (dAt d' a.f + a.w < dAt d' a.t)) ∧ h'' = h3) (fun J hJ => ?_) ?_
        · refine o3.load 0 rfl rfl ((o3.vw 1 rfl).atI lf ?_)
          rw [dAt_get]
          simp only [pBin_lss, ifV_dec]
          refine ⟨fun h => ?_, fun h => ?_⟩
          · refine o3.load 0 rfl rfl ((o3.vw 1 rfl).atI lf (o3.load 0 rfl rfl ?_))
            rw [dAt_get, pBin_add, w64 (by omega) (by omega)]
            refine o3.load 0 rfl rfl ((o3.vw 1 rfl).atI lt ?_)
            rw [dAt_get, pBin_lss]
            refine hJ _ _ ⟨?_, rfl⟩
            rw [show decide (dAt d' a.f < far) = true from decide_eq_true h, Bool.true_and]
          · refine hJ _ _ ⟨?_, rfl⟩
            rw [show decide (dAt d' a.f < far) = false from decide_eq_false h, Bool.false_and]
        · rintro ⟨y, ⟨⟩⟩ h'' ⟨hy, rfl⟩
          dsimp only at hy ⊢
          subst hy
          unfold sh_milestoneref10_Least_C5 sh_milestoneref10_Least_k6
          by_cases hc : dAt d' a.f < far ∧ dAt d' a.f + a.w < dAt d' a.t
          · rw [show (decide (dAt d' a.f < far) && decide (dAt d' a.f + a.w < dAt d' a.t)) = true by rw [decide_eq_true hc.1, decide_eq_true hc.2]; rfl, ifV_true]
            simp only [pField_ptr]
            refine o3.load 0 rfl rfl (o3.load 0 rfl rfl ((o3.vw 1 rfl).atI lf (o3.load 0 rfl rfl ?_)))
            rw [dAt_get, pBin_add, w64 (by omega) (by omega)]
            refine o3.setI 1 rfl lt fun h4 o4 => ?_
            rw [pBin_add, wI i (by omega)]
            have R := B'.relax hmem ha.1 ha.2.1 hc.1 hc.2
            refine hZ2 (.bool true, I (i + 1 : Nat), ()) h4 hlt ⟨rfl, _, R.1, o4.sel [1, 2] (by decide), .inl ⟨rfl, ?_⟩⟩
            have := R.2
            rcases hm with ⟨_, h⟩ | ⟨_, h, _⟩
            · omega
            · rw [← h]; exact this
          · rw [show (decide (dAt d' a.f < far) && decide (dAt d' a.f + a.w < dAt d' a.t)) = false by
              rw [Bool.and_eq_false_imp]; intro h; simp only [decide_eq_true_eq] at h; exact decide_eq_false fun h' => hc ⟨h, h'⟩, ifV_false]
            rw [pBin_add, wI i (by omega)]
            refine hZ2 (m, I (i + 1 : Nat), ()) _ hlt ⟨rfl, d', B', o3.sel [1, 2] (by decide), ?_⟩
            rcases hm with h | ⟨h1, h2, h3⟩
            · exact .inl h
            · refine .inr ⟨h1, h2, fun j hj hji => ?_⟩
              rcases hai j hj hji with e | e
              · rw [e]; intro hf
                rw [← h2] at hf ⊢
                omega
              · exact h3 j hj e
      · have : i = g.arcs.length := by omega
        subst this
        rcases hm with ⟨h1, h2⟩ | ⟨h1, h2, h3⟩
        · exact hZ1 (m, ()) h' (dsum d' + 1) (by omega) ⟨d', B', o', .inl ⟨h1, rfl⟩⟩
        · refine hZ1 (m, ()) h' 0 (by omega) ⟨d', B', o', .inr ⟨h1, rfl, ?_⟩⟩
          subst h2
          refine B'.ls fun a ha => ?_
          obtain ⟨j, hj, rfl⟩ := List.mem_iff_getElem.1 ha
          exact h3 j hj hj
    · rw [ifV_false]
      exact hK d vl h' hl (o.frame (o'.sel [0] (by decide)))

/-- Of no node there is none. -/
theorem bellO_ok {z : Int} (o : Own h0 h L) (hR : g.Right) (H : RawV h v g) (hz : ¬ (0 ≤ z ∧ z < g.n)) (hK : ∀ h', Own h0 h' L → K (.slice none 0 0) h') : callS Tryz.prog F_milestoneref10_Least [v, I z] h K := by
  obtain ⟨vx, vy, va, rfl, H⟩ := H
  refine callS_of (lk_milestoneref10_Least _ _ ?_)
  unfold sh_milestoneref10_Least
  have hmost := hR.most
  refine (Own.start h).box fun r h1 o1 => ?_
  refine LoopH_count g.n (fun i x h' => x.2.1 = I i ∧ Own h h' [xR x.1 (List.replicate i far), cellR r [I g.n, vx, vy, va] T_api_Raw]) ⟨rfl, o1.nilS⟩ ?_
  clear o1
  rintro i ⟨vl, x, ⟨⟩⟩ h' Z hi ⟨hx, o'⟩ hZ
  dsimp only at hx hZ o' ⊢
  subst hx
  unfold sh_milestoneref10_Least_L1
  simp only [pField_ptr]
  refine o'.load 1 rfl rfl ?_
  simp only [pBin_lss, ifV_dec]
  refine ⟨fun hlt => ?_, fun hge => ?_⟩
  · refine o'.app1 0 far rfl rfl (sizesOk_of rfl) encI_len encI_plain rfl (by decide) (by simp; omega) fun v' h2 o2 => ?_
    rw [pBin_add, wI i (by omega)]
    refine hZ (v', I (i + 1 : Nat), ()) h2 (by omega) ⟨rfl, ?_⟩
    rw [List.replicate_succ']
    exact o2
  · have : i = g.n := by omega
    subst this
    have fin : sh_milestoneref10_Least_k2 Tryz.prog K h' := hK h' (o.more o'.ext)
    refine ⟨fun _ => fin, fun h => o'.load 1 rfl rfl ?_⟩
    rw [pBin_geq, show decide ((g.n : Int) ≤ z) = true from decide_eq_true (by omega), ifV_true]
    exact fin

end
end Go.Proofs.YtafllleofdkdiaaGreatDoor

namespace Go.Proofs.YtafllleofdkdiaaGreatDoor
open Go Go.Mh
set_option linter.unusedVariables false

section
variable {h0 h : Heap} {L : List Res} {K : Value → Heap → Prop} {g : G} {v vc vb vm vd : Value} {c ms but ds : List Int}

theorem rgreat_ok (Hc : Vw encI 1 h vc c) (Hb : Vw encI 1 h vb but) (hcl : c.length < 2 ^ 40) (hbl : but.length < 2 ^ 40) (hK : K (I (grGo c but c.length)) h) : callS Tryz.prog F_milestoneref15_greatest [vc, vb] h K := by
  refine callS_of (lk_milestoneref15_greatest _ _ ?_)
  unfold sh_milestoneref15_greatest
  refine LoopH_count c.length (fun i x h' => x.1 = I (grGo c but i) ∧ x.2.1 = I i ∧ h' = h) ⟨rfl, rfl, rfl⟩ ?_
  rintro i ⟨x, y, ⟨⟩⟩ h' Z hi ⟨hx, hy, rfl⟩ hZ
  dsimp only at hx hy hZ ⊢
  subst hx hy
  unfold sh_milestoneref15_greatest_L1
  refine Hc.len ?_
  simp only [pBin_lss, ifV_dec]
  refine ⟨fun hlt => ?_, fun hge => by have : i = c.length := by omega
                                       subst this; exact hK⟩
  have hlt : i < c.length := by omega
  have step : grGo c but (i + 1) = if ¬ ((i : Int) ∈ but) ∧ (grGo c but i < 0 ∨ dAt c (grGo c but i).toNat < dAt c i) then (i : Int) else grGo c but i := rfl
  have hsp := grGo_spec (c := c) (but := but) i
  generalize grGo c but i = b at step hsp
  refine LoopH_count but.length (fun q x h2 => x.1 = .bool (decide ((i : Int) ∈ but.take q)) ∧ x.2.1 = I q ∧ h2 = h') ⟨by simp, rfl, rfl⟩ ?_
  rintro q ⟨x, y, ⟨⟩⟩ h2 Z2 hq ⟨hx, hy, rfl⟩ hZ2
  dsimp only at hx hy hZ2 ⊢
  subst hx hy
  unfold sh_milestoneref15_greatest_L2
  refine Hb.len ?_
  simp only [pBin_lss, ifV_dec]
  refine ⟨fun hql => ?_, fun hqg => ?_⟩
  · have hql : q < but.length := by omega
    have htk : but.take (q + 1) = but.take q ++ [but[q]] := List.take_succ_eq_append_getElem hql
    have k3 : ∀ c' : Bool, c' = decide ((i : Int) ∈ but.take (q + 1)) → sh_milestoneref15_greatest_k3 Tryz.prog (I q) (fun a0 a1 hz => Z2 (a0, (a1, ())) hz) (.bool c') h2 := by
      intro c' e
      unfold sh_milestoneref15_greatest_k3
      rw [pBin_add, wI q (by omega)]
      exact hZ2 (.bool c', I (q + 1 : Nat), ()) _ hql ⟨by rw [e], rfl, rfl⟩
    refine ⟨fun hin => k3 true ?_, fun hin => Hb.atI hql ?_⟩
    · rw [htk]; exact (decide_eq_true (List.mem_append_left _ hin)).symm
    · rw [pBin_eql]
      refine k3 _ ?_
      rw [htk, Bool.eq_iff_iff, decide_eq_true_eq, beq_iff_eq, List.mem_append, List.mem_singleton]
      exact ⟨fun e => .inr e.symm, fun e => (e.resolve_left hin).symm⟩
  · have : q = but.length := by omega
    subst this
    rw [List.take_length]
    refine cutP_of (fun y h3 => y.1 = .bool (decide (¬ ((i : Int) ∈ but) ∧ (b < 0 ∨ dAt c b.toNat < dAt c i))) ∧ h3 = h2) (fun J hJ => ?_) ?_
    · rw [pUn_not]
      cases hin : decide ((i : Int) ∈ but) with
      | true =>
        rw [Bool.not_true, ifV_false]
        exact hJ _ _ ⟨by rw [decide_eq_false fun e => e.1 (of_decide_eq_true hin)], rfl⟩
      | false =>
        have hn := of_decide_eq_false hin
        rw [Bool.not_false, ifV_true]
        try simp only [pBin_lss, ifV_dec]
        refine ⟨fun hb => hJ _ _ ⟨by rw [decide_eq_true ⟨hn, Or.inl hb⟩], rfl⟩, fun hb => ?_⟩
        obtain ⟨bn, rfl⟩ := Int.eq_ofNat_of_zero_le (show 0 ≤ b by omega)
        have hbl' : bn < c.length := by
          rcases hsp with ⟨h1, _⟩ | ⟨b', h1, h2, _⟩
          · omega
          · omega
        refine Hc.atI hlt (Hc.atI hbl' ?_)
        rw [dAt_get hlt, dAt_get hbl', pBin_gtr]
        refine hJ _ _ ⟨?_, rfl⟩
        rw [Int.toNat_natCast]
        exact congrArg _ (decide_eq_decide.2 ⟨fun h => ⟨hn, .inr h⟩, fun h => h.2.resolve_left hb⟩)
    · rintro ⟨y, ⟨⟩⟩ h3 ⟨hy, rfl⟩
      dsimp only at hy ⊢
      subst hy
      unfold sh_milestoneref15_greatest_C4 sh_milestoneref15_greatest_k5
      rw [ifV_dec]
      refine ⟨fun hp => ?_, fun hp => ?_⟩
      · rw [pBin_add, wI i (by omega)]
        exact hZ (I i, I (i + 1 : Nat), ()) _ hlt ⟨by rw [step, if_pos hp], rfl, rfl⟩
      · rw [pBin_add, wI i (by omega)]
        exact hZ (I b, I (i + 1 : Nat), ()) _ hlt ⟨by rw [step, if_neg hp], rfl, rfl⟩

/-- The reference's covers. -/
theorem rcover15_ok (o : Own h0 h L) (hR : g.Right) (H : RawV h v g) (hm : Vw encI 1 h vm ms) (hml : ms.length < 2 ^ 40) (hK : ∀ w h', Own h0 h' (xR w (cov g ms) :: L) → K w h') : callS Tryz.prog F_milestoneref15_Cover [v, vm] h K := by
  obtain ⟨vx, vy, va, rfl, H⟩ := H
  refine callS_of (lk_milestoneref15_Cover _ _ ?_)
  unfold sh_milestoneref15_Cover
  have hmost := hR.most
  have oo := o
  refine (Own.start h).box fun g2 h1 o1 => ?_
  refine LoopH_count g.n (fun i x h' => x.2.1 = I i ∧ Own h h' [xR x.1 (List.replicate i far), cellR g2 [I g.n, vx, vy, va] T_api_Raw]) ⟨rfl, o1.nilS⟩ ?_
  clear o1
  rintro i ⟨vl, x, ⟨⟩⟩ h' Z hi ⟨hx, o'⟩ hZ
  dsimp only at hx hZ o' ⊢
  subst hx
  unfold sh_milestoneref15_Cover_L1
  simp only [pField_ptr]
  refine o'.load 1 rfl rfl ?_
  simp only [pBin_lss, ifV_dec]
  refine ⟨fun hlt => ?_, fun hge => ?_⟩
  · refine o'.app1 0 far rfl rfl (sizesOk_of rfl) encI_len encI_plain rfl (by decide) (by simp; omega) fun v' h2 o2 => ?_
    rw [pBin_add, wI i (by omega)]
    refine hZ (v', I (i + 1 : Nat), ()) h2 (by omega) ⟨rfl, ?_⟩
    rw [List.replicate_succ']
    exact o2
  · have : i = g.n := by omega
    subst this
    refine LoopH_count ms.length (fun i x h' => x.1 = I i ∧ Own h h' [xR vl (cov g (ms.take i)), cellR g2 [I g.n, vx, vy, va] T_api_Raw]) ⟨rfl, o'⟩ ?_
    clear o'
    rintro i ⟨x, ⟨⟩⟩ h2 Z2 hi2 ⟨hx, o⟩ hZ2
    dsimp only at hx hZ2 ⊢
    subst hx
    unfold sh_milestoneref15_Cover_L2
    refine (hm.more o.ext).len ?_
    simp only [pBin_lss (b := (ms.length : Int)), ifV_dec]
    refine ⟨fun hlt => ?_, fun hge' => ?_⟩
    · have hlt : i < ms.length := by omega
      have htk : ms.take (i + 1) = ms.take i ++ [ms[i]] := List.take_succ_eq_append_getElem hlt
      have rdm : ∀ {h' : Heap} {L' : List Res} {K : Value → Prop}, Own h h' L' → K (I ms[i]) → pIdx 1 vm (I i) fun t => pLoad h' t K := fun o hk => (hm.more o.ext).atI hlt hk
      generalize ms[i] = m at htk rdm
      have k4 : ∀ h', Own h h' [xR vl (cov g (ms.take (i + 1))), cellR g2 [I g.n, vx, vy, va] T_api_Raw] → sh_milestoneref15_Cover_k4 Tryz.prog (I i) (fun a0 hz => Z2 (a0, ()) hz) h' := by
        intro h' o'
        unfold sh_milestoneref15_Cover_k4
        rw [pBin_add, wI i (by omega)]
        exact hZ2 (I (i + 1 : Nat), ()) h' hlt ⟨rfl, o'⟩
      rw [htk, cov_snoc] at k4
      have lc : (cov g (ms.take i)).length = g.n := cov_len
      generalize cov g (ms.take i) = cv at k4 lc o
      refine cutP_of (fun y h' => y.1 = .bool (!(decide (0 ≤ m) && decide (m < g.n))) ∧ h' = h2) (fun J hJ => ?_) ?_
      · refine rdm o ?_
        simp only [pBin_lss, ifV_dec]
        refine ⟨fun hneg => hJ _ _ ⟨by rw [decide_eq_false (show ¬ 0 ≤ m by omega)]; rfl, rfl⟩, fun hpos => rdm o ?_⟩
        simp only [pField_ptr]
        refine o.load 1 rfl rfl ?_
        rw [pBin_geq]
        refine hJ _ _ ⟨?_, rfl⟩
        rw [decide_eq_true (show 0 ≤ m by omega), Bool.true_and]
        by_cases hm2 : m < g.n
        · rw [decide_eq_true hm2, decide_eq_false (by omega)]; rfl
        · rw [decide_eq_false hm2, decide_eq_true (by omega)]; rfl
      · rintro ⟨y, ⟨⟩⟩ h3 ⟨hy, rfl⟩
        dsimp only at hy ⊢
        subst hy
        unfold sh_milestoneref15_Cover_C3
        by_cases hmr : 0 ≤ m ∧ m < g.n
        · rw [decide_eq_true hmr.1, decide_eq_true hmr.2]
          show ifV (.bool false) _ _
          rw [ifV_false]
          obtain ⟨m, rfl⟩ := Int.eq_ofNat_of_zero_le hmr.1
          have hmn : m < g.n := by omega
          have T := from_tree hR hmn
          have ef : g.fromI (m : Int) = g.from m := by rw [G.fromI, if_pos (by omega)]; rfl
          refine o.ldN (cs' := [I g.n, vx, vy, va]) 1 rfl rfl rfl (rdm o ?_)
          refine bell_ok o hR ⟨vx, vy, va, rfl, H.more o.ext⟩ hmn fun d w h4 hl o4 => ?_
          have ed : d = (g.from m).dist := hl.uniq T.ls
          subst ed
          have ld := T.ls.len
          refine LoopH_count g.n (fun u x h' => x.1 = I u ∧ Own h h' [xR w (g.from m).dist, xR vl (clp cv (g.from m).dist u), cellR g2 [I g.n, vx, vy, va] T_api_Raw]) ⟨rfl, by rw [clp_zero]; exact o4⟩ ?_
          clear o4 o
          rintro u ⟨x, ⟨⟩⟩ h5 Z3 hu ⟨hx, o⟩ hZ3
          dsimp only at hx hZ3 ⊢
          subst hx
          unfold sh_milestoneref15_Cover_L5
          simp only [pField_ptr]
          refine o.load 2 rfl rfl ?_
          simp only [pBin_lss (b := (g.n : Int)), ifV_dec]
          refine ⟨fun hul => ?_, fun hug => ?_⟩
          · have hul : u < g.n := by omega
            have huc : u < cv.length := by omega
            have hu2 : u < (clp cv (g.from m).dist u).length := by rw [clp_len]; exact huc
            refine (o.vw 1 rfl).atI hu2 ((o.vw 0 rfl).atI (by omega) ?_)
            rw [clp_at huc, dAt_get (d := (g.from m).dist) (by omega), pMin_int, minE]
            refine o.setI 1 rfl hu2 fun h6 o6 => ?_
            rw [clp_step huc] at o6
            rw [pBin_add, wI u (by omega)]
            exact hZ3 (I (u + 1 : Nat), ()) h6 hul ⟨rfl, o6⟩
          · have : u = g.n := by omega
            subst this
            refine k4 h5 ?_
            have e : clp cv (g.from m).dist g.n = cl cv (g.fromI (m : Int)).dist := by rw [ef, cl, ld]
            rw [← e]
            exact o.tail
        · have hc : (decide (0 ≤ m) && decide (m < (g.n : Int))) = false := by
            rw [Bool.and_eq_false_imp]; intro h1; exact decide_eq_false fun h2 => hmr ⟨of_decide_eq_true h1, h2⟩
          rw [hc]
          show ifV (.bool true) _ _
          rw [ifV_true]
          refine k4 h3 ?_
          have ef : (g.fromI m).dist = [] := by rw [G.fromI, if_neg hmr]; rfl
          have : cl cv (g.fromI m).dist = cv := by rw [ef]; exact clp_zero
          rw [this]
          exact o
    · have : i = ms.length := by omega
      subst this
      rw [List.take_length] at o
      exact hK vl h2 (oo.frame (o.sel [0] (by decide)))

theorem cov_one (hR : g.Right) {first : Nat} (hf : first < g.n) : cov g [(first : Int)] = (g.from first).dist := by
  have T := from_tree hR hf
  have ef : g.fromI (first : Int) = g.from first := by rw [G.fromI, if_pos (by omega)]; rfl
  apply List.ext_getElem (by rw [cov_len, T.ls.len])
  intro u h1 h2
  rw [cov_len] at h1
  have e1 : (cov g [(first : Int)])[u]'(by rw [cov_len]; exact h1) = dAt (cov g [(first : Int)]) u := dAt_get (by rw [cov_len]; exact h1)
  rw [e1, dAt_get h2]
  show dAt (cl (List.replicate g.n far) (g.fromI (first : Int)).dist) u = _
  rw [cl_at (by simpa using h1), ef, if_pos h2, rep_rng h1]
  have := T.ls.far_le h1
  omega

/-- The reference's landmarks. -/
theorem rmarks15_ok {k first : Nat} (o : Own h0 h L) (hR : g.Right) (H : RawV h v g) (hf : first < g.n) (hkl : k < 2 ^ 40)
    (hK : ∀ w h', Own h0 h' (slR encI 1 T_int w (nI (mgo g k 0 (List.range g.n) (cov g [(first : Int)]))) :: L) → K w h') : callS Tryz.prog F_milestoneref15_Marks [v, I k, I first] h K := by
  obtain ⟨vx, vy, va, rfl, H⟩ := H
  refine callS_of (lk_milestoneref15_Marks _ _ _ ?_)
  unfold sh_milestoneref15_Marks
  have hmost := hR.most
  have hpos := hR.pos
  have hlen : (mgo g k 0 (List.range g.n) (cov g [(first : Int)])).length = min k g.n := by rw [mgo_len List.nodup_range, List.length_range]
  have T := from_tree hR hf
  have hat : ∀ (i m : Nat), (mgo g k 0 (List.range g.n) (cov g [(first : Int)]))[i]? = some m → (i = 0 → (m : Int) = grGo (g.from first).dist [] g.n) ∧ (1 ≤ i → (m : Int) = grGo (cov g (nI ((mgo g k 0 (List.range g.n) (cov g [(first : Int)])).take i))) (nI ((mgo g k 0 (List.range g.n) (cov g [(first : Int)])).take i)) g.n) := by
    intro i m hm
    obtain ⟨h1, h2⟩ := marks_at hm
    refine ⟨fun e => ?_, fun hi => ?_⟩
    · subst e
      have hk : k ≠ 0 := fun e => by subst e; simp [mgo] at hm
      obtain ⟨k', rfl⟩ : ∃ k', k = k' + 1 := ⟨k - 1, by omega⟩
      have hne : List.range g.n ≠ [] := by
        intro e
        have := congrArg List.length e
        simp at this
        omega
      rw [mgo_next hne] at hm
      simp at hm
      have er : restOf g.n [] = List.range g.n := by
        unfold restOf
        exact List.filter_eq_self.2 fun a _ => rfl
      have := grGo_bst (c := (g.from first).dist) (pre := []) T.ls.len (by rw [er]; exact hne)
      rw [er] at this
      rw [show ([] : List Int) = nI [] from rfl, this, ← hm, cov_one hR hf]
    · have h2 := h2 hi
      rw [grGo_bst cov_len (List.ne_nil_of_mem h1), ← h2]
  generalize mgo g k 0 (List.range g.n) (cov g [(first : Int)]) = all at hlen hat hK
  refine (Own.start h).box fun g3 h1 o1 => ?_
  refine LoopH_count all.length (fun i x h' => Own h h' [slR encI 1 T_int x.1 (nI (all.take i)), cellR g3 [I g.n, vx, vy, va] T_api_Raw]) o1.nilS ?_
  clear o1
  rintro i ⟨out, ⟨⟩⟩ h2 Z hi o2 hZ
  dsimp only at o2 hZ ⊢
  unfold sh_milestoneref15_Marks_L1
  have htl : (nI (all.take i)).length = i := by rw [nI_len, List.length_take]; omega
  have stop : ¬ i < all.length → sh_milestoneref15_Marks_k2 Tryz.prog K out h2 := fun hn => by
    have : i = all.length := by omega
    subst this
    rw [List.take_length] at o2
    unfold sh_milestoneref15_Marks_k2
    exact hK out h2 (o.frame (o2.sel [0] (by decide)))
  refine (o2.vw 0 rfl).len ?_
  rw [htl]
  simp only [pBin_lss, ifV_dec]
  refine ⟨fun h1' => (o2.vw 0 rfl).len ?_, fun h1' => stop (by omega)⟩
  rw [htl]
  simp only [pField_ptr]
  refine o2.load 1 rfl rfl ?_
  simp only [pBin_lss, ifV_dec]
  refine ⟨fun h2' => ?_, fun h2' => stop (by omega)⟩
  have hlt : i < all.length := by omega
  have htk : all.take (i + 1) = all.take i ++ [all[i]] := List.take_succ_eq_append_getElem hlt
  obtain ⟨q0, q1⟩ := hat i all[i] (List.getElem?_eq_getElem hlt)
  generalize all[i] = m at htk q0 q1
  have e1 : nI (all.take i) ++ [(m : Int)] = nI (all.take (i + 1)) := by rw [htk]; simp [nI]
  refine (o2.vw 0 rfl).len ?_
  rw [htl, pBin_eql]
  by_cases hi0 : i = 0
  · subst hi0
    show ifV (.bool true) _ _
    rw [ifV_true]
    refine o2.ldN (cs' := [I g.n, vx, vy, va]) 1 rfl rfl rfl ?_
    refine bell_ok o2 hR ⟨vx, vy, va, rfl, H.more o2.ext⟩ hf fun d w h4 hl o4 => ?_
    have ed : d = (g.from first).dist := hl.uniq T.ls
    subst ed
    refine rgreat_ok (o4.vw 0 rfl) .nil (by rw [T.ls.len]; omega) (by simp) ?_
    rw [T.ls.len, ← q0 rfl]
    refine o4.app1 1 (m : Int) rfl rfl (sizesOk_of rfl) encI_len encI_plain rfl (by decide) (by rw [htl]; decide) fun v' h5 o5 => ?_
    rw [e1] at o5
    exact hZ (v', ()) h5 hlt o5.tail
  · rw [show ((i : Int) == 0) = false by simpa using hi0, ifV_false]
    refine o2.ldN (cs' := [I g.n, vx, vy, va]) 1 rfl rfl rfl ?_
    refine rcover15_ok o2 hR ⟨vx, vy, va, rfl, H.more o2.ext⟩ (o2.vw 0 rfl) (by rw [htl]; omega) fun w h4 o4 => ?_
    refine rgreat_ok (o4.vw 0 rfl) (o4.vw 1 rfl) (by rw [cov_len]; omega) (by rw [htl]; omega) ?_
    rw [cov_len, ← q1 (by omega)]
    refine o4.app1 1 (m : Int) rfl rfl (sizesOk_of rfl) encI_len encI_plain rfl (by decide) (by rw [htl]; omega) fun v' h5 o5 => ?_
    rw [e1] at o5
    exact hZ (v', ()) h5 hlt o5.tail

end
end Go.Proofs.YtafllleofdkdiaaGreatDoor

namespace Go.Proofs.YtafllleofdkdiaaGreatDoor
open Go Go.Mh
set_option linter.unusedVariables false

section
variable {h0 h : Heap} {L : List Res} {K : Value → Heap → Prop} {g : G} {vb vd vo : Value} {bs ds os : List Int}

/-- The reference's draws. -/
theorem rnext05_ok {p a n : Nat} (o : Own h0 h L) (i : Nat) (hi : L[i]? = some (cellR p [vd, I a] T_milestoneref05_Draws)) (Hd : Vw encU 1 h0 vd ds) (ha : a ≤ ds.length) (hn : 1 ≤ n) (hn2 : n < 2 ^ 40) (hxl : ds.length < 2 ^ 62) (hr : ∀ x ∈ ds, 0 ≤ x ∧ x ≤ 4294967295)
    (hK : ∀ h', Own h0 h' (L.set i (cellR p [vd, I (ds.length - (drawP (ds.drop a) n).2.length : Nat)] T_milestoneref05_Draws)) → K (I (drawP (ds.drop a) n).1) h') : callS Tryz.prog F_milestoneref05_Draws_Next [ptr p, I n] h K := by
  refine callS_of (lk_milestoneref05_Draws_Next _ _ ?_)
  unfold sh_milestoneref05_Draws_Next
  refine cutP_of (fun y h' => y.1 = .bool (decide (ds.length ≤ a)) ∧ h' = h) (fun J hJ => ?_) ?_
  · rw [pBin_lss, decide_eq_false (by omega), ifV_false]
    simp only [pNil_ptr, pField_ptr]
    refine o.load i hi rfl (o.load i hi rfl ((Hd.more o.ext).len ?_))
    rw [pBin_geq]
    exact hJ _ _ ⟨by congr 2; simp, rfl⟩
  · rintro ⟨y, ⟨⟩⟩ h1 ⟨hy, rfl⟩
    dsimp only at hy ⊢
    subst hy
    unfold sh_milestoneref05_Draws_Next_C1
    rw [ifV_dec]
    refine ⟨fun hge => ?_, fun hlt => ?_⟩
    · have e : ds.drop a = [] := List.drop_eq_nil_of_le hge
      rw [e] at hK
      refine hK h1 ?_
      have : ds.length - (drawP [] n).2.length = a := by show ds.length - 0 = a; omega
      rw [this, set_same hi]
      exact o
    · have hlt : a < ds.length := by omega
      have e : ds.drop a = ds[a] :: ds.drop (a + 1) := List.drop_eq_getElem_cons hlt
      rw [e] at hK
      have hx := hr ds[a] (List.getElem_mem hlt)
      simp only [pNil_ptr, pField_ptr]
      refine o.load i hi rfl ?_
      rw [pBin_add, wI a (by omega)]
      refine o.st1 i hi (cs' := [vd, I (a + 1 : Nat)]) rfl rfl rfl rfl fun h2 o2 => ?_
      refine o2.load i (set_get hi) rfl (o2.load i (set_get hi) rfl ?_)
      rw [pBin_sub, w64 (by omega) (by omega), show ((a + 1 : Nat) : Int) - 1 = (a : Int) by omega]
      refine (Hd.more o2.ext).at1 (e := fun x : Int => .int .u32 x) (fun _ => rfl) hlt ?_
      simp only [pConv_int]
      rw [w64 (by omega) (by omega), pBin_rem]
      refine ⟨by omega, hK h2 ?_⟩
      have : ds.length - (drawP (ds[a] :: ds.drop (a + 1)) n).2.length = a + 1 := by
        show ds.length - (ds.drop (a + 1)).length = a + 1
        rw [List.length_drop]; omega
      rw [this]
      exact o2

theorem farTells_ok {k : Int} (H : Vw encU8 1 h vb bs) (Hd : Vw encU 1 h vd ds) (hr : ∀ x ∈ ds, 0 ≤ x ∧ x ≤ 4294967295) (hs : ds.length * 4 ≤ reachBytes) (hk : -128 ≤ k ∧ k ≤ 127) (Ho : Vw encI 1 h vo os) (hK : ∀ h', Ext h h' → K (.bool true) h') :
    CallsH Tryz.prog F_milestonelaw15_FarTells [.agg #[vb, .int .i8 k, vd], vo].toArray h K := by
  refine lk_milestonelaw15_FarTells _ _ ?_
  unfold sh_milestonelaw15_FarTells
  have hrb : reachBytes = 140737488351232 := rfl
  have hvb := H.one
  have hvd := Hd.one
  refine (Own.start h).box fun d2 h1 o1 => ?_
  have ec : (Value.cells (.agg #[vb, .int .i8 k, vd])).toList = [vb, .int .i8 k, vd] := rfl
  rw [ec] at o1
  refine o1.ldN (cs' := [vb, .int .i8 k, vd]) 0 rfl rfl rfl (graph15_ok (H.more o1.ext) (Hd.more o1.ext) fun g vx vy va r N h3 hg hN o3 => ?_)
  simp only [pExt0, pExt1]
  have hR := hg.toRight
  have hmost := hR.most
  have hpos := hR.pos
  replace o3 := o1.frame o3
  refine o3.box fun g5 h4 o4 => o4.st (cs' := [I g.n, vx, vy, va]) 0 rfl rfl rfl rfl rfl ?_ fun h5 o5 => ?_
  · intro u hu
    simp at hu
    rcases hu with rfl | rfl | rfl | rfl
    · rfl
    · exact (o3.vw 1 rfl).plain
    · exact (o3.vw 2 rfl).plain
    · exact (o3.vw 3 rfl).plain
  simp only [pEq_ptr_nil, Option.isNone_some, ifV_false, pField_ptr]
  refine works15_ok fun h5' x5 => ?_
  rw [pUn_not, Bool.not_true, ifV_false]
  replace o5 := o5.more x5
  have o6 : Own h h5' [cellR d2 [vb, .int .i8 k, vd] T_milestonelaw15_Drawn, cellR g5 [I g.n, vx, vy, va] T_api_Raw, N, xR vx g.X, xR vy g.Y, aR va g.arcs] := o5.sel [5, 0, 1, 2, 3, 4] (by decide)
  clear o5 o4 o3 o1
  refine o6.load 0 rfl rfl ?_
  refine dnew_ok o6 (Hd.more o6.ext) (by omega) fun pd w h6 o7 => ?_
  try simp only [pField_ptr]
  refine o7.load 2 rfl rfl ?_
  refine pBuild_ones (cs' := [vd, I 0]) (fun p hp => by simp at hp; subst hp; exact hvd) rfl rfl ?_
  refine o7.box fun p29 h8 o8 => ?_
  refine o8.load 3 rfl rfl ?_
  simp only [pConv_int]
  rw [w64 (by omega) (by omega), pBin_geq, ifV_dec]
  have e29 : (Value.cells (.agg [vd, I 0].toArray)).toList = [vd, I 0] := by simp [Value.cells, hvd]
  have k2 : ∀ (all : List Nat) (a : Nat) (rest : List Int) (wr : Value) (h9 : Heap), all.length ≤ g.n → a ≤ ds.length → rest.length = ds.length - a →
      (∀ K' : Value → Heap → Prop, (∀ wl vl' h', Own h h' [slR encI 1 T_int wl (nI all), cellR pd [vl'] T_draw_Draws, quR encU 1 T_uint32 vl' rest, slR encI 1 T_int wr (nI all), cellR p29 [vd, I a] T_milestoneref05_Draws, cellR g5 [I g.n, vx, vy, va] T_api_Raw, N, xR vx g.X, xR vy g.Y, aR va g.arcs] → K' wl h') → callS Tryz.prog F_far_Marks [ptr r, I k, ptr pd] h9 K') →
      sh_milestonelaw15_FarTells_k2 Tryz.prog vo (ptr r) (I k) (ptr pd) (ptr p29) (ptr g5) K wr h9 := by
    intro all a rest wr h9 hal ha hrest hM
    unfold sh_milestonelaw15_FarTells_k2
    refine Ho.len ?_
    rw [pMin_int]
    have e6 : (if (6 : Int) < (os.length : Int) then (6 : Int) else (os.length : Int)) = ((min os.length 6 : Nat) : Int) := by split <;> omega
    rw [e6]
    refine Ho.sub (a := 0) (j := min os.length 6) encI_len rfl rfl (by omega) (by omega) fun wt hwt => ?_
    have hwl : ((os.drop 0).take (min os.length 6 - 0)).length < 2 ^ 40 := by rw [List.length_take]; omega
    generalize (os.drop 0).take (min os.length 6 - 0) = ot at hwt hwl
    refine hM _ fun wl vl' h10 o => ?_
    refine cutP_of (fun y h' => y.1 = .bool true ∧ Ext h h') (fun J hJ => ?_) ?_
    · refine rints_ok (e := fun x : Int => x) (fun _ => rfl) (o.vw 0 rfl) (o.vw 3 rfl) (by rw [nI_len]; omega) ?_
      rw [ifV_true]
      refine dleft_ok o 1 2 rfl rfl ?_
      refine callS_of (lk_milestoneref05_Draws_Left _ ?_)
      unfold sh_milestoneref05_Draws_Left
      simp only [pNil_ptr, pField_ptr]
      refine o.load 4 rfl rfl ((Hd.more o.ext).len (o.load 4 rfl rfl ?_))
      rw [pBin_sub, w64 (by omega) (by omega), pBin_eql, show ((rest.length : Int) == (ds.length : Int) - (a : Int)) = true by rw [beq_iff_eq]; omega, ifV_true]
      refine o.ldN (cs' := [I g.n, vx, vy, va]) 5 rfl rfl rfl ?_
      refine cover_ok o hR (hN _ (o.get 6 rfl)) (o.vw 0 rfl) (by rw [nI_len]; omega) fun w1 h11 o11 => ⟨o11.ldN (cs' := [I g.n, vx, vy, va]) 6 rfl rfl rfl rfl, ?_⟩
      refine rcover15_ok o11 hR ⟨vx, vy, va, rfl, o11.vw 8 rfl, o11.vw 9 rfl, o11.vw 10 rfl⟩ (o11.vw 4 rfl) (by rw [nI_len]; omega) fun w2 h12 o12 => ?_
      refine sums15_ok (o12.vw 1 rfl) (o12.vw 0 rfl) (by rw [cov_len]; omega) ?_
      rw [ifV_true]
      refine o12.ldN (cs' := [I g.n, vx, vy, va]) 7 rfl rfl rfl ?_
      refine cover_ok o12 hR (hN _ (o12.get 8 rfl)) (hwt.more o12.ext) hwl fun w3 h13 o13 => ⟨o13.ldN (cs' := [I g.n, vx, vy, va]) 8 rfl rfl rfl rfl, ?_⟩
      refine rcover15_ok o13 hR ⟨vx, vy, va, rfl, o13.vw 10 rfl, o13.vw 11 rfl, o13.vw 12 rfl⟩ (hwt.more o13.ext) hwl fun w4 h14 o14 => ?_
      refine sums15_ok (o14.vw 1 rfl) (o14.vw 0 rfl) (by rw [cov_len]; omega) ?_
      exact hJ _ _ ⟨rfl, o14.ext⟩
    · rintro ⟨y, ⟨⟩⟩ h11 ⟨hy, hx⟩
      dsimp only at hy ⊢
      subst hy
      unfold sh_milestonelaw15_FarTells_C3
      exact hK _ hx
  rw [e29] at o8
  refine ⟨fun hk1 => ?_, fun hk1 => ?_⟩
  · obtain ⟨k, rfl⟩ := Int.eq_ofNat_of_zero_le (show 0 ≤ k by omega)
    refine o8.ldN (cs' := [I g.n, vx, vy, va]) 4 rfl rfl rfl ?_
    try simp only [pField_ptr]
    refine o8.load 4 rfl rfl ?_
    refine rnext05_ok (a := 0) o8 0 rfl Hd (by omega) (by omega) (by omega) (by omega) hr fun h9 o9 => ⟨o9.ldN (cs' := [I g.n, vx, vy, va]) 4 rfl rfl rfl rfl, ?_⟩
    rw [List.drop_zero] at o9 ⊢
    have hfr : ∃ first : Nat, (drawP ds g.n).1 = (first : Int) ∧ first < g.n := by
      cases ds with
      | nil => exact ⟨0, rfl, by omega⟩
      | cons x t =>
        have h1 := hr x (List.mem_cons_self ..)
        have h2 := Int.tmod_nonneg (g.n : Int) h1.1
        have h3 := Int.tmod_lt_of_pos x (show (0 : Int) < g.n by omega)
        exact ⟨(x.tmod g.n).toNat, by show x.tmod g.n = _; omega, by omega⟩
    have hrl : (drawP ds g.n).2.length ≤ ds.length := by cases ds <;> simp [drawP]
    obtain ⟨first, ef, hfl⟩ := hfr
    rw [ef]
    refine rmarks15_ok o9 hR ⟨vx, vy, va, rfl, o9.vw 6 rfl, o9.vw 7 rfl, o9.vw 8 rfl⟩ hfl (by omega) fun wr h10 o10 => ?_
    refine k2 (mgo g k 0 (List.range g.n) (cov g [(first : Int)])) (ds.length - (drawP ds g.n).2.length) (drawP ds g.n).2 wr h10 (by rw [mgo_len List.nodup_range, List.length_range]; omega) (by omega) (by omega) fun K' hK' => ?_
    refine fmarksD_ok (L := [slR encI 1 T_int wr (nI (mgo g k 0 (List.range g.n) (cov g [(first : Int)]))), cellR p29 [vd, I (ds.length - (drawP ds g.n).2.length : Nat)] T_milestoneref05_Draws, cellR g5 [I g.n, vx, vy, va] T_api_Raw, N, xR vx g.X, xR vy g.Y, aR va g.arcs])
      (o10.sel [2, 3, 0, 1, 5, 6, 7, 8, 9] (by decide)) 3 rfl hR hN (by omega) (by omega) (by omega) hr fun wl vl' h11 o11 => ?_
    rw [ef] at o11
    exact hK' wl vl' h11 o11
  · refine k2 [] 0 ds _ h8 (by simp) (by omega) (by omega) fun K' hK' => ?_
    refine fmarks0_ok (by omega) fun h9 x9 => ?_
    have o9 := ((o8.more x9).nilS (enc := encI) (n := 1) (T := T_int)).nilS (enc := encI) (n := 1) (T := T_int)
    exact hK' _ w h9 (o9.sel [0, 3, 4, 1, 2, 6, 7, 8, 9, 10] (by decide))

end
end Go.Proofs.YtafllleofdkdiaaGreatDoor
