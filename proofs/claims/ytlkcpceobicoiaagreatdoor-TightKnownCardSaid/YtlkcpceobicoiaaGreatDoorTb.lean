/- Texts of the proofs of seat YtlkcpceobicoiaaGreatDoor, joined: HpG, HpH, HpI, HoA, FlA, FlB, FlC, FlD, Lw24, GtA, TiA, TiB, RvA, WkA, TiC, L24E. They have no conditions of their own. -/
import Derived.Test.YtlkcpceobicoiaaGreatDoorTa
import Derived.Test.YtlkcpceobicoiaaGreatDoorMc
set_option linter.unusedVariables false
set_option linter.unusedSimpArgs false

namespace Go.Proofs.YtlkcpceobicoiaaGreatDoor
open Go Go.Mh

theorem gt_set {l : List HE} {i j : Nat} {a : HE} (hi : i < l.length) : gt (l.set i a) j = if j = i then a else gt l j := by
  by_cases e : j = i
  · subst e; simp [gt, hi]
  · by_cases hj : j < l.length
    · simp [gt, hj, e, List.getElem_set, show ¬ i = j from fun h => e h.symm]
    · simp [gt, hj, e]

theorem ids_set {l : List HE} {i : Nat} {k : Int} (hi : i < l.length) : (l.set i (l[i].1, k)).map (·.1) = l.map (·.1) := by
  apply List.ext_getElem
  · simp
  · intro j h1 h2
    simp only [List.getElem_map, List.getElem_set]
    split
    · rename_i e; subst e; rfl
    · rfl

theorem pos_ids {l l' : List HE} (h : l.map (·.1) = l'.map (·.1)) (x : Int) : pos l x = pos l' x := by
  have key : ∀ l : List HE, pos l x = ((l.map (·.1)).findIdx? (· == x)).map fun i => I i := by
    intro l; unfold pos; rw [List.findIdx?_map]; rfl
  rw [key, key, h]

theorem set_perm {l : List HE} {i : Nat} {a : HE} (hi : i < l.length) : (l.set i a).Perm (a :: l.erase l[i]) := by
  rw [List.perm_iff_count]
  intro x
  rw [List.count_set hi, List.count_cons, List.count_erase]

theorem lower_ok {h : Heap} {F : Nat → Prop} {r : Nat} {l : List HE} {n id key : Int} {K : Value → Heap → Prop} (H : HV h F r l n)
    (h2 : (id < 0 ∨ n ≤ id) → K (I 2) h)
    (h20 : 0 ≤ id → id < n → (∀ p ∈ l, p.1 ≠ id) → K (I 20) h)
    (h2' : ∀ p ∈ l, p.1 = id → p.2 < key → K (I 2) h)
    (h0 : ∀ p ∈ l, p.1 = id → ¬ p.2 < key → ∀ h' F' l', HV h' F' r l' n → l'.Perm ((id, key) :: l.erase p) → Grow h F F' → Upd F h h' → K (I 0) h') :
    callS Tryz.prog F_heap_Heap_Lower [ptr r, I id, I key] h K := by
  refine callS_of (lk_heap_Heap_Lower _ _ _ ?_)
  unfold sh_heap_Heap_Lower
  obtain ⟨⟨m, bl, R, ho, f1, f2, f3⟩, hlow, hrg⟩ := H
  obtain ⟨v, hr, hs⟩ := R.slr
  obtain ⟨es, c, hm, him⟩ := R.map
  have c0 := hcell0 hr
  have c1 := hcell1 hr
  have c2 := hcell2 hr
  simp only [pEq_ptr_nil, Option.isNone_some, ifV_false, pNil_ptr, pField_ptr, pLoad_ptr, c0, c1, c2, Nat.zero_add]
  refine look_of hm him ?_
  rcases pos_cases l id with ⟨i, hi, rfl⟩ | hno
  · have hrg' := hrg _ (List.getElem_mem hi)
    simp only [pos_get R.ids hi, if_true, Option.getD_some, Option.isSome_some]
    simp only [pExt_tuple]
    show pBin .lss _ _ _
    simp only [pBin_lss, pBin_geq, ifV_dec]
    refine ⟨fun hlt => by omega, fun _ => ⟨fun hge => by omega, fun _ => ?_⟩⟩
    show pUn .not (.bool true) _
    simp only [pUn_not, Bool.not_true, ifV_false]
    refine hs.idx hi ?_
    have ck := hs.slot encH_len hi (j := 1) (by omega)
    have ck' : hcell h ⟨bl, i * 2 + 1, none⟩ = some (I l[i].2) := ck
    simp only [pField_ptr, pLoad_ptr, ck']
    simp only [pBin_lss, ifV_dec]
    refine ⟨fun hk => h2' _ (List.getElem_mem hi) rfl hk, fun hk => ?_⟩
    refine hs.idx hi ?_
    obtain ⟨cap, rest, rfl, hb, hrest, hcap⟩ := hs.full (by omega)
    have hlen := row_length encH_len l
    simp only [pField_ptr]
    refine pStore_of rfl hb rfl (by simp [hlen]; omega) (by simp) ?_
    have eo : over (Mh.row encH l ++ rest) (i * 2 + 1) (I key).cells.toList = Mh.row encH (l.set i (l[i].1, key)) ++ rest := by
      have o := row_over encH_len hi (l[i].1, key) rest
      rw [← o]
      have hsl := row_slot encH_len hi rest
      have hd : (Mh.row encH l ++ rest).drop (i * 2) = I l[i].1 :: (Mh.row encH l ++ rest).drop (i * 2 + 1) := by
        have hg := row_get encH_len hi (j := 0) (by omega) rest
        have hlt' : i * 2 < (Mh.row encH l ++ rest).length := by simp [hlen]; omega
        rw [List.drop_eq_getElem_cons hlt']
        congr 1
        rw [Nat.add_zero, List.getElem?_eq_getElem hlt'] at hg
        simpa [encH] using hg
      have ht : (Mh.row encH l ++ rest).take (i * 2 + 1) = (Mh.row encH l ++ rest).take (i * 2) ++ [I l[i].1] := by
        have hlt' : i * 2 < (Mh.row encH l ++ rest).length := by simp [hlen]; omega
        rw [List.take_succ_eq_append_getElem hlt']
        congr 2
        have hg := row_get encH_len hi (j := 0) (by omega) rest
        rw [Nat.add_zero, List.getElem?_eq_getElem hlt'] at hg
        simpa [encH] using hg
      unfold over
      rw [ht]
      simp [encH]
    rw [eo]
    obtain ⟨hne1, hne2, hne3⟩ := R.r_ne (by omega)
    have hb1 : (upd h bl (.cells (Mh.row encH (l.set i (l[i].1, key)) ++ rest).toArray tHeld (0, 0)))[bl]? = _ := upd_self' hb
    have hr1 := (upd_ne (o := .cells (Mh.row encH (l.set i (l[i].1, key)) ++ rest).toArray tHeld (0, 0)) hne1.symm).trans hr
    have hm1 := (upd_ne (o := .cells (Mh.row encH (l.set i (l[i].1, key)) ++ rest).toArray tHeld (0, 0)) hne3).trans hm
    have u1 : Upd F h (upd h bl (.cells (Mh.row encH (l.set i (l[i].1, key)) ++ rest).toArray tHeld (0, 0))) := Upd.upd _ _ f3
    generalize upd h bl (.cells (Mh.row encH (l.set i (l[i].1, key)) ++ rest).toArray tHeld (0, 0)) = h1 at hb1 hr1 hm1 u1
    have hl1 : (l.set i (l[i].1, key)).length = l.length := List.length_set
    have R1 : Rep h1 r m bl (l.set i (l[i].1, key)) n := Rep.of hr1 (.inr ⟨cap, rest, by rw [hl1], hb1, by rw [hl1]; exact hrest, by rw [hl1]; exact hcap⟩) hm1
      (him.congr (pos_ids (ids_set hi).symm)) (by rw [ids_set hi]; exact R.ids) (by rw [hl1]; exact R.small)
    have hnew : ¬ hlt l[i] (l[i].1, key) = true := by rw [hlt_iff]; simp only; omega
    refine up_ok R1 (i := i) (by rw [hl1]; exact hi) ?_ fun h5 l5 R5 hp5 ho5 u5 => ?_
    · refine ⟨fun j j0 j1 j2 => ?_, fun i0 j j0 j1 j2 => ?_⟩
      · rw [hl1] at j1
        rw [gt_set hi, gt_set hi, if_neg j2]
        have := ho j j0 j1
        split
        · rename_i e; rw [e, ← gt_eq hi] at this; exact hlt_trans this hnew
        · exact this
      · rw [hl1] at j1
        rw [gt_set hi, gt_set hi, if_neg (by omega), if_neg (by omega)]
        have a := ho j j0 j1
        have b := ho i i0 hi
        rw [j2] at a
        exact hlt_trans a b
    · refine h0 _ (List.getElem_mem hi) rfl hk h5 F l5 ⟨⟨m, bl, R5, ho5, f1, f2, f3⟩, ?_, ?_⟩ ?_ (fun b hb => .inl hb) ?_
      · exact fun b hb => Nat.lt_of_lt_of_le (hlow b hb) (Nat.le_trans u1.size u5.size)
      · intro p hp
        have := hp5.mem_iff.1 hp
        have hm' : p.1 ∈ (l.set i (l[i].1, key)).map (·.1) := List.mem_map.2 ⟨p, this, rfl⟩
        rw [ids_set hi] at hm'
        obtain ⟨q, hq, hqe⟩ := List.mem_map.1 hm'
        rw [← hqe]; exact hrg q hq
      · exact hp5.trans (set_perm hi)
      · exact u1.trans u5 fun b hb hlt => by rcases hb with rfl | rfl; exact f2; exact f3
  · simp only [pos_none hno, if_true, Option.getD_none, Option.isSome_none, pExt_tuple]
    show pBin .lss _ _ _
    simp only [pBin_lss, pBin_geq, ifV_dec]
    refine ⟨fun hlt => h2 (.inl hlt), fun hlt => ⟨fun hge => h2 (.inr hge), fun hge => ?_⟩⟩
    show pUn .not (.bool false) _
    simp only [pUn_not, Bool.not_false, ifV_true]
    exact h20 (by omega) (by omega) hno

end Go.Proofs.YtlkcpceobicoiaaGreatDoor

namespace Go.Proofs.YtlkcpceobicoiaaGreatDoor
open Go Go.Mh

theorem swapL_last {l : List HE} (hl : 0 < l.length) : swapL l 0 (l.length - 1) hl (by omega) = (swapL l 0 (l.length - 1) hl (by omega)).take (l.length - 1) ++ [l[0]] := by
  have hlen := swapL_length (l := l) hl (show l.length - 1 < l.length by omega)
  apply List.ext_getElem
  · simp [hlen]; omega
  · intro j h1 h2
    rw [hlen] at h1
    by_cases hj : j < l.length - 1
    · rw [List.getElem_append_left (by simp [hlen]; omega)]; simp
    · have : j = l.length - 1 := by omega
      subst this
      rw [swapL_get, if_pos rfl, List.getElem_append_right (by simp [hlen])]
      simp

theorem pos_del {l2 : List HE} {p : HE} (hn : ((l2 ++ [p]).map (·.1)).Nodup) (x : Int) : fdel (pos (l2 ++ [p])) p.1 x = pos l2 x := by
  unfold fdel
  by_cases hx : x = p.1
  · subst hx
    rw [if_pos rfl]
    refine (pos_none fun q hq e => ?_).symm
    rw [List.map_append, List.nodup_append] at hn
    exact hn.2.2 q.1 (List.mem_map.2 ⟨q, hq, rfl⟩) p.1 (by simp) e
  · rw [if_neg hx]
    unfold pos
    rw [List.findIdx?_append]
    have : [p].findIdx? (fun q => q.1 == x) = none := by
      rw [List.findIdx?_eq_none_iff]; intro q hq; simp at hq; subst hq; simpa using fun e => hx e.symm
    rw [this]; simp

theorem pop_ok {h : Heap} {F : Nat → Prop} {r : Nat} {l : List HE} {n : Int} {K : Value → Heap → Prop} (H : HV h F r l n)
    (h0 : l = [] → K (.tuple #[I 0, I 0, .bool false]) h)
    (h1 : ∀ p, Min l p → ∀ h' F' l', HV h' F' r l' n → l'.Perm (l.erase p) → Grow h F F' → Upd F h h' → K (.tuple #[I p.1, I p.2, .bool true]) h') :
    callS Tryz.prog F_heap_Heap_Pop [ptr r] h K := by
  refine callS_of (lk_heap_Heap_Pop _ ?_)
  unfold sh_heap_Heap_Pop
  refine len_ok H ?_
  obtain ⟨⟨m, bl, R, ho, f1, f2, f3⟩, hlow, hrg⟩ := H
  obtain ⟨v, hr, hs⟩ := R.slr
  obtain ⟨es, c, hm, him⟩ := R.map
  have c0 := hcell0 hr
  simp only [pBin_eql, ifV_beq, pNil_ptr, pField_ptr, pLoad_ptr, c0, Nat.zero_add]
  refine ⟨fun he => h0 (List.eq_nil_of_length_eq_zero (by omega)), fun he => ?_⟩
  have hl : 0 < l.length := by omega
  refine hs.idx (i := 0) (k := .i64) hl ?_
  simp only [pLoadN_ptr, Nat.zero_mul]
  have ca : cellsAt h bl 0 2 = some [I l[0].1, I l[0].2] := by
    obtain ⟨cap, rest, rfl, hb, _, _⟩ := hs.full hl
    have hlen := row_length encH_len l
    rw [cellsAt_of (i := 0) hb 2 0 (by simp [hlen]; omega)]
    have := row_slot encH_len hl rest
    rw [Nat.zero_mul] at this
    rw [this]; rfl
  simp only [ca]
  refine hs.lenK ?_
  have e1 : IntKind.i64.wrap ((l.length : Int) - 1) = ((l.length - 1 : Nat) : Int) := by
    have := R.small
    rw [w64 (by omega) (by omega)]; omega
  rw [pBin_sub, e1]
  refine pBox_of ?_
  refine pStore_of rfl push_new rfl (by simp) (by simp [Mh.plainCell]) ?_
  have x1 : Ext h (upd (h.push (.cells (Value.agg #[.int .i64 0, .int .i64 0]).cells T_heap_held (0, 0))) h.size (.cells (over [Value.int .i64 0, Value.int .i64 0] 0 (Value.agg [I l[0].1, I l[0].2].toArray).cells.toList).toArray T_heap_held (0, 0))) :=
    ((Upd.push _ _ _).trans (Upd.upd (S := fun b => b = h.size) _ _ rfl) (fun b hb hlt => by omega))
  have hf1 : (upd (h.push (.cells (Value.agg #[.int .i64 0, .int .i64 0]).cells T_heap_held (0, 0))) h.size (.cells (over [Value.int .i64 0, Value.int .i64 0] 0 (Value.agg [I l[0].1, I l[0].2].toArray).cells.toList).toArray T_heap_held (0, 0)))[h.size]? =
    some (.cells #[I l[0].1, I l[0].2] T_heap_held (0, 0)) := upd_self' push_new
  have hsz1 := get_lt hf1
  generalize (upd (h.push (.cells (Value.agg #[.int .i64 0, .int .i64 0]).cells T_heap_held (0, 0))) h.size (.cells (over [Value.int .i64 0, Value.int .i64 0] 0 (Value.agg [I l[0].1, I l[0].2].toArray).cells.toList).toArray T_heap_held (0, 0))) = hA at x1 hf1 hsz1
  have R1 := R.upd x1 id id id
  have hrA := x1.get hr
  have cA := hcell0 hrA
  simp only [cA, true_and]
  have hrs := hlow _ f1
  have hms := hlow _ f2
  have hbs := hlow _ f3
  refine swap_ok R1 (i := 0) (k := l.length - 1) hl (by omega) fun h2 R2 u2 => ?_
  obtain ⟨S, R2, hlen, hS, hnd, hperm, hgt⟩ : ∃ S : List HE, Rep h2 r m bl S n ∧ S.length = l.length ∧ S = S.take (l.length - 1) ++ [l[0]] ∧ (S.map (·.1)).Nodup ∧ S.Perm l ∧
      (∀ j, gt S j = if j = l.length - 1 then gt l 0 else if j = 0 then gt l (l.length - 1) else gt l j) :=
    ⟨_, R2, swapL_length _ _, swapL_last hl, R2.ids, swapL_perm _ _, swapL_gt _ _⟩
  obtain ⟨v2, hr2, hs2⟩ := R2.slr
  obtain ⟨es2, c2, hm2, him2⟩ := R2.map
  have d0 := hcell0 hr2
  have hf2 := u2.get hf1 (by omega)
  simp only [d0]
  refine hs2.pre encH_len (by rw [hlen]; omega) fun v3 hs3 => ?_
  have hcs3 : v3.cells.size = 1 ∧ (∀ u ∈ v3.cells.toList, Mh.plainCell u = true) ∧ v3.cells.toList = [v3] := by
    rcases hs3.len with ⟨_, _, rfl⟩; simp
  refine pStore_of rfl hr2 hcs3.1 (by rw [hcs3.1]; simp) hcs3.2.1 ?_
  have ec : over [v2, Value.map (some m), I n] 0 v3.cells.toList = [v3, Value.map (some m), I n] := by rw [hcs3.2.2]; rfl
  rw [ec]
  have u3 : Upd (fun b => b = r) h2 (upd h2 r (.cells [v3, Value.map (some m), I n].toArray tHeap (0, 0))) := Upd.upd _ _ rfl
  have hr3 : (upd h2 r (.cells [v3, Value.map (some m), I n].toArray tHeap (0, 0)))[r]? = _ := upd_self' hr2
  obtain ⟨hne1, hne2, hne3⟩ := R2.r_ne (by omega)
  have hm3 := u3.get hm2 (fun e => hne2 e.symm)
  have hs3' := hs3.upd u3 (fun e => hne1 e.symm)
  have hf3 := u3.get hf2 (by omega)
  generalize upd h2 r (.cells [v3, Value.map (some m), I n].toArray tHeap (0, 0)) = h3 at u3 hr3 hm3 hs3' hf3
  have g1 := hcell1 hr3
  have g2 := hcell0 hf3
  simp only [g1, g2, pField_ptr, pLoad_ptr, Nat.add_zero, Nat.zero_add]
  refine delete_of hm3 him2 fun es4 him4 => ?_
  have u4 : Upd (fun b => b = m) h3 (upd h3 m (.map es4 c2)) := Upd.upd _ _ rfl
  have hr4 := u4.get hr3 hne2
  have hm4 : (upd h3 m (.map es4 c2))[m]? = _ := upd_self' hm3
  have hs4 := hs3'.upd u4 hne3
  have hf4 := u4.get hf3 (by omega)
  generalize upd h3 m (.map es4 c2) = h4 at u4 hr4 hm4 hs4 hf4
  have hl2 : (S.take (l.length - 1)).length = l.length - 1 := by simp [hlen]
  have hpS : S.Perm (l[0] :: S.take (l.length - 1)) := by
    rw [hS]
    have : ((S.take (l.length - 1)) ++ [l[0]]).take (l.length - 1) = S.take (l.length - 1) := by rw [List.take_append_of_le_length (by rw [hl2]; exact Nat.le_refl _), List.take_take, Nat.min_self]
    rw [this]
    exact List.perm_append_comm
  have R4 : Rep h4 r m bl (S.take (l.length - 1)) n := by
    refine Rep.of hr4 hs4 hm4 (him4.congr fun x => ?_) ?_ (by rw [hl2]; have := R.small; omega)
    · have := pos_del (l2 := S.take (l.length - 1)) (p := l[0]) (by rw [← hS]; exact hnd) x
      rw [← hS] at this; exact this
    · have := (hpS.map (·.1)).nodup_iff.1 hnd
      rw [List.map_cons, List.nodup_cons] at this
      exact this.2
  have gtk : ∀ j, j < l.length - 1 → gt (S.take (l.length - 1)) j = gt S j := by
    intro j hj
    rw [← gt_eq (by rw [hl2]; exact hj), ← gt_eq (by rw [hlen]; omega)]
    simp
  have hbl4 : bl < h4.size := by
    have a := x1.size; have b := u2.size; have c := u3.size; have d := u4.size; omega
  have u14 : Upd F h h4 := (((x1.mono (S' := F) fun _ hf _ => hf.elim).trans u2 fun b hb _ => by rcases hb with rfl | rfl; exact f2; exact f3).trans u3 fun b hb _ => by subst hb; exact f1).trans u4 fun b hb _ => by subst hb; exact f2
  refine down_ok R4 (i := 0) (by decide) (by rcases Nat.eq_zero_or_pos (l.length - 1) with e | e; exact .inr (List.eq_nil_of_length_eq_zero (by rw [hl2]; exact e)); exact .inl (by rw [hl2]; exact e)) hbl4 ?_ fun h5 l5 R5 hp5 ho5 u5 => ?_
  · refine ⟨fun j j0 j1 j2 => ?_, fun i0 => absurd i0 (Nat.lt_irrefl 0)⟩
    rw [hl2] at j1
    have hj4 : (j - 1) / 4 < l.length - 1 := by omega
    rw [gtk j j1, gtk _ hj4, hgt, hgt, if_neg (by omega), if_neg (by omega), if_neg (by omega), if_neg (by omega)]
    exact ho j j0 (by omega)
  · have hf5 := u5.get hf4 (by omega)
    have k0 := hcell0 hf5
    have k1 := hcell1 hf5
    simp only [k0, k1, pField_ptr, pLoad_ptr, Nat.add_zero, Nat.zero_add]
    have u15 : Upd F h h5 := u14.trans u5 fun b hb _ => by rcases hb with rfl | rfl; exact f2; exact f3
    have hpe : l5.Perm (l.erase l[0]) := by
      have := (hperm.symm.trans hpS).erase l[0]
      simp only [List.erase_cons_head] at this
      exact hp5.trans this.symm
    refine h1 l[0] (ho.min hl) h5 F l5 ⟨⟨m, bl, R5, ho5, f1, f2, f3⟩, fun b hb => Nat.lt_of_lt_of_le (hlow b hb) u15.size, fun p hp => hrg p (List.mem_of_mem_erase (hpe.mem_iff.1 hp))⟩ hpe (fun b hb => .inl hb) u15

theorem pop_nil {h : Heap} {K : Value → Heap → Prop} (hK : K (.tuple #[I 0, I 0, .bool false]) h) : callS Tryz.prog F_heap_Heap_Pop [.pointer none] h K := by
  refine callS_of (lk_heap_Heap_Pop _ ?_)
  unfold sh_heap_Heap_Pop
  refine callS_of (lk_heap_Heap_Len _ ?_)
  unfold sh_heap_Heap_Len
  simpa using hK

end Go.Proofs.YtlkcpceobicoiaaGreatDoor

namespace Go.Proofs.YtlkcpceobicoiaaGreatDoor
open Go Go.Mh

instance (l : List HE) (p : HE) : Decidable (Min l p) := by unfold Min; exact inferInstance

/-- The same, where only what is held counts, not how it lies. -/
def PV (h : Heap) (F : Nat → Prop) (r : Nat) (L : List HE) (n : Int) : Prop := ∃ l, HV h F r l n ∧ l.Perm L

def Disj (F G : Nat → Prop) : Prop := ∀ b, F b → ¬ G b

section
variable {h h' : Heap} {F G S : Nat → Prop} {r : Nat} {L : List HE} {n id key : Int} {K : Value → Heap → Prop} {p : HE}

theorem PV.upd (H : PV h F r L n) (hu : Upd S h h') (hd : Disj F S) : PV h' F r L n := by
  obtain ⟨l, H, hp⟩ := H; exact ⟨l, H.upd hu hd, hp⟩
theorem PV.low (H : PV h F r L n) : ∀ b, F b → b < h.size := by obtain ⟨l, H, hp⟩ := H; exact H.low
theorem PV.rng (H : PV h F r L n) : ∀ p ∈ L, 0 ≤ p.1 ∧ p.1 < n := by obtain ⟨l, H, hp⟩ := H; exact fun p h => H.rng p (hp.mem_iff.2 h)
theorem PV.nodup (H : PV h F r L n) : (L.map (·.1)).Nodup := by obtain ⟨l, H, hp⟩ := H; exact (hp.map _).nodup_iff.1 H.nodup

theorem Min.perm {l l' : List HE} (hp : l.Perm l') (h : Min l p) : Min l' p := ⟨hp.mem_iff.1 h.1, fun q hq => h.2 q (hp.mem_iff.2 hq)⟩

theorem PV.perm {L' : List HE} (H : PV h F r L n) (hp : L.Perm L') : PV h F r L' n := by
  obtain ⟨l, H, hp'⟩ := H; exact ⟨l, H, hp'.trans hp⟩

theorem plen (H : PV h F r L n) (hK : K (I L.length) h) : callS Tryz.prog F_heap_Heap_Len [ptr r] h K := by
  obtain ⟨l, H, hp⟩ := H; exact len_ok H (by rw [hp.length_eq]; exact hK)
theorem pkey (H : PV h F r L n) (h0 : (∀ p ∈ L, p.1 ≠ id) → K (.tuple #[I 0, .bool false]) h) (h1 : ∀ p ∈ L, p.1 = id → K (.tuple #[I p.2, .bool true]) h) : callS Tryz.prog F_heap_Heap_Key [ptr r, I id] h K := by
  obtain ⟨l, H, hp⟩ := H
  exact key_ok H (fun e => h0 fun p hm => e p (hp.mem_iff.2 hm)) fun p hm => h1 p (hp.mem_iff.1 hm)
theorem pnew (hK : ∀ h' F r, PV h' F r [] (max n 0) → (∀ b, F b → h.size ≤ b) → Ext h h' → K (ptr r) h') : callS Tryz.prog F_heap_New [I n] h K :=
  new_ok fun h' F r H a b => hK h' F r ⟨[], H, .refl _⟩ a b
theorem ppush (H : PV h F r L n) (hsm : L.length + 1 < 2 ^ 40)
    (h2 : ((∃ p ∈ L, p.1 = id) ∨ id < 0 ∨ n ≤ id) → K (I 2) h)
    (h0 : (∀ p ∈ L, p.1 ≠ id) → 0 ≤ id → id < n → ∀ h' F', PV h' F' r ((id, key) :: L) n → Grow h F F' → Upd F h h' → K (I 0) h') :
    callS Tryz.prog F_heap_Heap_Push [ptr r, I id, I key] h K := by
  obtain ⟨l, H, hp⟩ := H
  refine push_ok H (by rw [hp.length_eq]; exact hsm) (fun e => h2 ?_) fun hno a b h' F' l' H' hp' hg hu => h0 (fun p hm => hno p (hp.mem_iff.2 hm)) a b h' F' ⟨l', H', hp'.trans (hp.cons _)⟩ hg hu
  rcases e with ⟨p, hm, e⟩ | e
  · exact .inl ⟨p, hp.mem_iff.1 hm, e⟩
  · exact .inr e
theorem ppush0 (H : PV h F r L n) (hsm : L.length + 1 < 2 ^ 40) (hno : ∀ p ∈ L, p.1 ≠ id) (h1 : 0 ≤ id) (h2 : id < n)
    (h0 : ∀ h' F', PV h' F' r ((id, key) :: L) n → Grow h F F' → Upd F h h' → K (I 0) h') : callS Tryz.prog F_heap_Heap_Push [ptr r, I id, I key] h K :=
  ppush H hsm (fun e => by
    rcases e with ⟨p, hm, e⟩ | e
    · exact (hno p hm e).elim
    · omega) fun _ _ _ => h0
theorem ppush2 (H : PV h F r L n) (hsm : L.length + 1 < 2 ^ 40) (hno : (∃ p ∈ L, p.1 = id) ∨ id < 0 ∨ n ≤ id) (h2 : K (I 2) h) : callS Tryz.prog F_heap_Heap_Push [ptr r, I id, I key] h K :=
  ppush H hsm (fun _ => h2) fun hn a b => by
    rcases hno with ⟨p, hm, e⟩ | e
    · exact (hn p hm e).elim
    · omega
theorem plower (H : PV h F r L n)
    (h2 : (id < 0 ∨ n ≤ id) → K (I 2) h) (h20 : 0 ≤ id → id < n → (∀ p ∈ L, p.1 ≠ id) → K (I 20) h) (h2' : ∀ p ∈ L, p.1 = id → p.2 < key → K (I 2) h)
    (h0 : ∀ p ∈ L, p.1 = id → ¬ p.2 < key → ∀ h' F', PV h' F' r ((id, key) :: L.erase p) n → Grow h F F' → Upd F h h' → K (I 0) h') :
    callS Tryz.prog F_heap_Heap_Lower [ptr r, I id, I key] h K := by
  obtain ⟨l, H, hp⟩ := H
  exact lower_ok H h2 (fun a b e => h20 a b fun p hm => e p (hp.mem_iff.2 hm)) (fun p hm => h2' p (hp.mem_iff.1 hm)) fun p hm e hk h' F' l' H' hp' hg hu =>
    h0 p (hp.mem_iff.1 hm) e hk h' F' ⟨l', H', hp'.trans ((hp.erase p).cons _)⟩ hg hu
theorem id_uniq (hn : (L.map (·.1)).Nodup) {q : HE} (hp : p ∈ L) (hq : q ∈ L) (he : p.1 = q.1) : p = q := by
  obtain ⟨i, hi, rfl⟩ := List.mem_iff_getElem.1 hp
  obtain ⟨j, hj, rfl⟩ := List.mem_iff_getElem.1 hq
  have := ids_inj hn hi hj he
  subst this; rfl
theorem plower0 (H : PV h F r L n) (hp : p ∈ L) (he : p.1 = id) (hk : ¬ p.2 < key)
    (h0 : ∀ h' F', PV h' F' r ((id, key) :: L.erase p) n → Grow h F F' → Upd F h h' → K (I 0) h') : callS Tryz.prog F_heap_Heap_Lower [ptr r, I id, I key] h K := by
  have hr := H.rng p hp
  refine plower H (fun e => by omega) (fun _ _ e => (e p hp he).elim) (fun q hq e hk' => ?_) fun q hq e hk' => ?_
  · have := id_uniq H.nodup hp hq (he.trans e.symm); subst this; exact (hk hk').elim
  · have := id_uniq H.nodup hp hq (he.trans e.symm); subst this; exact h0
theorem plower2 (H : PV h F r L n) (hp : (∃ p ∈ L, p.1 = id ∧ p.2 < key) ∨ id < 0 ∨ n ≤ id) (h2 : K (I 2) h) : callS Tryz.prog F_heap_Heap_Lower [ptr r, I id, I key] h K := by
  refine plower H (fun _ => h2) (fun a b e => ?_) (fun _ _ _ _ => h2) fun q hq e hk' => ?_
  · rcases hp with ⟨p, hm, e', _⟩ | e'
    · exact (e p hm e').elim
    · omega
  · rcases hp with ⟨p, hm, e', hk⟩ | e'
    · have := id_uniq H.nodup hm hq (e'.trans e.symm); subst this; exact (hk' hk).elim
    · have := H.rng q hq; omega
theorem plower20 (H : PV h F r L n) (h1 : 0 ≤ id) (h2 : id < n) (hp : ∀ p ∈ L, p.1 ≠ id) (hK : K (I 20) h) : callS Tryz.prog F_heap_Heap_Lower [ptr r, I id, I key] h K :=
  plower H (fun _ => by omega) (fun _ _ _ => hK) (fun q hq e => (hp q hq e).elim) fun q hq e => (hp q hq e).elim
theorem ppop (H : PV h F r L n) (h0 : L = [] → K (.tuple #[I 0, I 0, .bool false]) h)
    (h1 : ∀ p, Min L p → ∀ h' F', PV h' F' r (L.erase p) n → Grow h F F' → Upd F h h' → K (.tuple #[I p.1, I p.2, .bool true]) h') : callS Tryz.prog F_heap_Heap_Pop [ptr r] h K := by
  obtain ⟨l, H, hp⟩ := H
  exact pop_ok H (fun e => h0 (by subst e; exact hp.nil_eq.symm)) fun p hm h' F' l' H' hp' hg hu => h1 p (hm.perm hp) h' F' ⟨l', H', hp'.trans (hp.erase p)⟩ hg hu
theorem ppop1 (H : PV h F r L n) (hm : Min L p) (h1 : ∀ h' F', PV h' F' r (L.erase p) n → Grow h F F' → Upd F h h' → K (.tuple #[I p.1, I p.2, .bool true]) h') : callS Tryz.prog F_heap_Heap_Pop [ptr r] h K :=
  ppop H (fun e => by subst e; simp [Min] at hm) fun q hq => by
    have := hq.uniq hm (.refl _); subst this; exact h1

theorem Disj.step {F' : Nat → Prop} (d : Disj F G) (hg : Grow h F F') (hl : ∀ b, G b → b < h.size) : Disj F' G := fun b hb hG => by
  rcases hg b hb with hb | hb
  · exact d b hb hG
  · have := hl b hG; omega
theorem Disj.symm (d : Disj F G) : Disj G F := fun b h1 h2 => d b h2 h1
end

end Go.Proofs.YtlkcpceobicoiaaGreatDoor

namespace Go.Proofs.YtlkcpceobicoiaaGreatDoor
open Go Go.Mh
set_option linter.unusedVariables false

/-! ### A heap as a part of memory -/

theorem Rep.st {h h' : Heap} {r m bl : Nat} {l : List HE} {n : Int} (H : Rep h r m bl l n) (h1 : h'[r]? = h[r]?) (h2 : h'[m]? = h[m]?) (h3 : h'[bl]? = h[bl]?) : Rep h' r m bl l n := by
  obtain ⟨⟨sl, cap, rest, hr, hs⟩, ⟨es, c, hm, hi⟩, hn, hsm⟩ := H
  refine ⟨⟨sl, cap, rest, h1.trans hr, ?_⟩, ⟨es, c, h2.trans hm, hi⟩, hn, hsm⟩
  rcases hs with hs | ⟨a, b, c, d⟩
  · exact .inl hs
  · exact .inr ⟨a, h3.trans b, c, d⟩

def hpR (F : Nat → Prop) (r : Nat) (H : List HE) (n : Nat) : Res := ⟨F, fun h => ∃ l, (∃ m bl, Rep h r m bl l n ∧ HeapOrd l ∧ F r ∧ F m ∧ F bl) ∧ (∀ p ∈ l, 0 ≤ p.1 ∧ p.1 < n) ∧ l.Perm H, fun hs ⟨l, ⟨m, bl, R, ho, f1, f2, f3⟩, hr, hp⟩ =>
  ⟨l, ⟨m, bl, R.st (hs _ f1) (hs _ f2) (hs _ f3), ho, f1, f2, f3⟩, hr, hp⟩⟩

theorem PV.toR {h : Heap} {F : Nat → Prop} {r : Nat} {H : List HE} {n : Nat} (P : PV h F r H n) : (hpR F r H n).Q h := by
  obtain ⟨l, ⟨a, b, c⟩, d⟩ := P; exact ⟨l, a, c, d⟩

section
variable {h0 h : Heap} {L : List Res} {F : Nat → Prop} {r n : Nat} {H : List HE} {id key : Int} {K : Value → Heap → Prop}

theorem own_pv (o : Own h0 h L) (i : Nat) (hi : L[i]? = some (hpR F r H n)) : PV h F r H n := by
  obtain ⟨l, a, c, d⟩ := o.get i hi
  exact ⟨l, ⟨a, fun b hb => ((o.q hi).2 b hb).2, c⟩, d⟩

theorem min_iff {p : HE} : Min H p ↔ p ∈ H ∧ ∀ q ∈ H, ¬ hl q p = true := by
  unfold Min
  have : ∀ q : HE, hlt q p = hl q p := fun q => by
    have h1 := @hlt_iff q p
    have h2 := @hl_iff q p
    by_cases hx : hl q p = true
    · rw [hx]; exact h1.2 (h2.1 hx)
    · simp at hx; rw [hx]
      by_cases hy : hlt q p = true
      · rw [h2.2 (h1.1 hy)] at hx; cases hx
      · simpa using hy
  simp only [this]

theorem least_min {p : HE} (h : least H = some p) : Min H p := min_iff.2 (least_spec h)

theorem ho_new (o : Own h0 h L) (hK : ∀ F r h', Own h0 h' (hpR F r [] n :: L) → K (ptr r) h') : callS Tryz.prog F_heap_New [I n] h K := by
  refine pnew fun h' F r P hF x => hK F r h' (o.cons x ?_ fun b hb => ⟨hF b hb, P.low b hb⟩)
  rw [show max (n : Int) 0 = n by omega] at P
  exact P.toR

theorem own_hp {h' : Heap} {F' : Nat → Prop} {H' : List HE} (o : Own h0 h L) (i : Nat) (hi : L[i]? = some (hpR F r H n)) (P : PV h' F' r H' n) (g : Grow h F F') (u : Upd F h h') : Own h0 h' (L.set i (hpR F' r H' n)) :=
  o.set i hi u P.toR fun b hb => ⟨g b hb, P.low b hb⟩

theorem ho_push (o : Own h0 h L) (i : Nat) (hi : L[i]? = some (hpR F r H n)) (hsm : H.length + 1 < 2 ^ 40) {v : Nat} (hno : ∀ p ∈ H, p.1 ≠ v) (hv : v < n)
    (hK : ∀ F' h', Own h0 h' (L.set i (hpR F' r (((v : Int), key) :: H) n)) → K (I 0) h') : callS Tryz.prog F_heap_Heap_Push [ptr r, I v, I key] h K :=
  ppush0 (own_pv o i hi) hsm hno (by omega) (by omega) fun h' F' P g u => hK F' h' (own_hp o i hi P g u)

theorem ho_lower (o : Own h0 h L) (i : Nat) (hi : L[i]? = some (hpR F r H n)) {v : Nat} {was : Int} (hm : ((v : Int), was) ∈ H) (hk : ¬ was < key)
    (hK : ∀ F' h', Own h0 h' (L.set i (hpR F' r (((v : Int), key) :: H.erase ((v : Int), was)) n)) → K (I 0) h') : callS Tryz.prog F_heap_Heap_Lower [ptr r, I v, I key] h K :=
  plower0 (own_pv o i hi) hm rfl hk fun h' F' P g u => hK F' h' (own_hp o i hi P g u)

theorem ho_key (o : Own h0 h L) (i : Nat) (hi : L[i]? = some (hpR F r H n)) {v : Nat}
    (hK : K (.tuple #[I ((lookH H v).getD 0), .bool (lookH H v).isSome]) h) : callS Tryz.prog F_heap_Heap_Key [ptr r, I v] h K := by
  have P := own_pv o i hi
  refine pkey P (fun hno => ?_) fun p hp e => ?_
  · have : lookH H v = none := lookH_none.2 hno
    rw [this] at hK; exact hK
  · cases hl : lookH H v with
    | none => exact absurd e (lookH_none.1 hl p hp)
    | some k =>
      have hm := lookH_some hl
      have := id_uniq P.nodup hp hm e
      subst this
      rw [hl] at hK; exact hK

theorem ho_pop (o : Own h0 h L) (i : Nat) (hi : L[i]? = some (hpR F r H n)) (hz : least H = none → ∀ h', Own h0 h' L → K (.tuple #[I 0, I 0, .bool false]) h')
    (hK : ∀ p, least H = some p → ∀ F' h', Own h0 h' (L.set i (hpR F' r (H.erase p) n)) → K (.tuple #[I p.1, I p.2, .bool true]) h') : callS Tryz.prog F_heap_Heap_Pop [ptr r] h K := by
  cases hl : least H with
  | none =>
    have e := least_none.1 hl
    subst e
    exact ppop (own_pv o i hi) (fun _ => hz hl h o) fun p hm => by simp [Min] at hm
  | some p => exact ppop1 (own_pv o i hi) (least_min hl) fun h' F' P g u => hK p hl F' h' (own_hp o i hi P g u)

end
end Go.Proofs.YtlkcpceobicoiaaGreatDoor

namespace Go.Proofs.YtlkcpceobicoiaaGreatDoor
open Go Go.Mh
set_option linter.unusedVariables false

section
variable {h0 h : Heap} {L : List Res} {K : Value → Heap → Prop} {g : G} {r : Nat}

theorem to1_end : EndF (.func (.func F_flood_To_1) #[] #[]) A.f := by
  intro a h K hK
  refine callV_of (l := [.agg (encA a).toArray]) rfl (lk_flood_To_1 _ ?_)
  unfold sh_flood_To_1
  refine (Own.start h).box fun b h1 o1 => ?_
  simp only [pField_ptr]
  exact o1.load 0 rfl rfl (hK _ o1.ext)

theorem farcs_iter {l4 n3 e5 : Nat} {vl endv : Value} {ids : List Nat} {head : A → Nat} {T1 T2 T3 : TypeId} (hids : ∀ i ∈ ids, i < g.arcs.length) (hmany : ids.length < 2 ^ 40) (hE : EndF endv head) :
    Iter Tryz.prog (.func (.func F_flood_arcs_1) #[] #[ptr l4, ptr n3, ptr e5])
      (fun h => h[l4]? = some (.cells #[vl] T1 (0, 0)) ∧ h[n3]? = some (.cells #[ptr r] T2 (0, 0)) ∧ h[e5]? = some (.cells #[endv] T3 (0, 0)) ∧ Vw encN 1 h vl ids ∧ NetR h r g) ids.length
      (fun i hi => [I ids[i], vA ⟨0, head (arcAt g.arcs ids[i]), (arcAt g.arcs ids[i]).w⟩]) := by
  rintro yv h0 h Rs K J E ⟨l, rfl⟩ o j0 hQ hY hK
  refine callF_of (l := [yieldV l, ptr l4, ptr n3, ptr e5]) rfl (lk_flood_arcs_1 _ _ _ _ ?_)
  unfold sh_flood_arcs_1
  obtain ⟨hb, _, _, hv, _⟩ := hQ _ _ _ j0 o
  have hc : hcell h ⟨l4, 0, none⟩ = some vl := hcell_of hb rfl
  simp only [pLoad_ptr, hc]
  refine hv.len ?_
  refine LoopH_count ids.length (fun i x h' => x.1 = I i ∧ ∃ Rs', J i Rs' ∧ Own h0 h' Rs') ⟨rfl, Rs, j0, o⟩ ?_
  rintro i ⟨x, ⟨⟩⟩ h Z hi ⟨hx, Rs', hj, o⟩ hZ
  dsimp only at hx hZ ⊢
  subst hx
  unfold sh_flood_arcs_1_L1
  simp only [pBin_lss, ifV_dec]
  refine ⟨fun hlt => ?_, fun hge => ?_⟩
  · have hlt : i < ids.length := by omega
    obtain ⟨_, hn, he, hv, hN⟩ := hQ _ _ _ hj o
    refine hv.at1 (e := fun x : Nat => I x) (fun _ => rfl) hlt ?_
    have hc : hcell h ⟨n3, 0, none⟩ = some (ptr r) := hcell_of hn rfl
    simp only [pLoad_ptr, hc]
    have hil := hids _ (List.getElem_mem hlt)
    refine arc_ok hN hil fun h1 x1 => ?_
    have ea : arcAt g.arcs ids[i] = g.arcs[ids[i]] := by simp [arcAt, hil]
    have o1 := o.more x1
    simp only [pExt0, pExt1]
    refine o1.box fun b h2 o2 => o2.st 0 rfl rfl rfl rfl rfl (encA_plain _) fun h3 o3 => ?_
    obtain ⟨_, _, he3, _, _⟩ := hQ _ _ _ hj o3.tail
    have hc : hcell h3 ⟨e5, 0, none⟩ = some endv := hcell_of he3 rfl
    simp only [pLoad_ptr, hc, pField_ptr]
    refine o3.ldN 0 rfl rfl rfl ?_
    have hl := fun {K} (hk : K (I (g.arcs[ids[i]]).w)) => o3.load (off := 2) (K := K) 0 rfl rfl hk
    simp only [pLoad_ptr] at hl
    refine hl (hE _ _ _ fun h4 x4 => ?_)
    have o4 := o3.more x4
    refine ⟨o4.load 0 rfl rfl rfl, sizesOk_of rfl, ?_⟩
    rw [← ea]
    refine hY i _ (i + 1) Rs' [] h4 _ ⟨⟨hlt, rfl⟩, rfl⟩ hj o4.tail.nilTail (fun Rs'' h'' hj' o' => ?_) fun Rs'' h'' he o' => ?_
    · rw [pUn_not, Bool.not_true, ifV_false, pBin_add, wI i (by omega)]
      exact hZ (I (i + 1 : Nat), ()) h'' hlt ⟨rfl, Rs'', hj', o'.toNil⟩
    · rw [pUn_not, Bool.not_false, ifV_true]
      exact hK _ _ (.inr he) o'.toNil
  · have : i = ids.length := by omega
    exact hK _ _ (.inl ⟨i, this, hj⟩) o

/-- Who is closed, as the program keeps it. -/
def clo (order : List Nat) : Int → Option Value := fun k => if order.any (fun v => (v : Int) == k) then some (I 1) else none
theorem clo_in {order : List Nat} {v : Nat} (h : v ∈ order) : clo order v = some (I 1) := by
  have : order.any (fun u => (u : Int) == (v : Int)) = true := List.any_eq_true.2 ⟨v, h, by simp⟩
  simp [clo, this]
theorem clo_out {order : List Nat} {v : Nat} (h : v ∉ order) : clo order v = none := by
  have : order.any (fun u => (u : Int) == (v : Int)) = false := by
    simp only [List.any_eq_false, beq_iff_eq]
    intro u hu e
    have : u = v := by omega
    exact h (this ▸ hu)
  simp [clo, this]
theorem clo_add {order : List Nat} {v : Nat} (x : Int) : clo (order ++ [v]) x = fset (clo order) v (I 1) x := by
  unfold fset
  by_cases h : x = v
  · subst h; rw [if_pos rfl, clo_in (by simp)]
  · rw [if_neg h]
    have : ((v : Int) == x) = false := by simpa using fun e => h e.symm
    simp [clo, this]

theorem set_set_same {α : Type} {l : List α} {i j : Nat} {a b : α} (hi : l[i]? = some a) (hj : l[j]? = some b) : (l.set i a).set j b = l := by
  have e1 : l.set i a = l := by
    apply List.ext_getElem?
    intro k
    by_cases e : i = k
    · subst e; rw [List.getElem?_set_self (List.getElem?_eq_some_iff.1 hi).1, hi]
    · rw [List.getElem?_set_ne e]
  rw [e1]
  apply List.ext_getElem?
  intro k
  by_cases e : j = k
  · subst e; rw [List.getElem?_set_self (List.getElem?_eq_some_iff.1 hj).1, hj]
  · rw [List.getElem?_set_ne e]

theorem reach_ok {rr hp n m : Nat} {F : Nat → Prop} {sd sa so : Value} {s : FS} {B : Int} {v a : Nat} {d : Int} (o : Own h0 h L) (i1 i2 i3 i4 : Nat)
    (h1 : L[i1]? = some (cellR rr [ptr hp, sd, sa, so, .map (some m)] T_flood_run)) (h2 : L[i2]? = some (hpR F hp s.hp n)) (h3 : L[i3]? = some (slR encI 1 T_int sa s.arc)) (h4 : L[i4]? = some (mapR m (clo s.order)))
    (n12 : i2 ≠ i1) (n23 : i2 ≠ i3) (n24 : i2 ≠ i4) (inv : FInv n B s) (hn : n ≤ 16777216) (hv : v < n)
    (hK : ∀ F' h', Own h0 h' ((L.set i2 (hpR F' hp (s.reach v a d).hp n)).set i3 (slR encI 1 T_int sa (s.reach v a d).arc)) → K (.tuple #[]) h') :
    callS Tryz.prog F_flood_run_reach [ptr rr, I v, I a, I d] h K := by
  refine callS_of (lk_flood_run_reach _ _ _ _ ?_)
  unfold sh_flood_run_reach
  simp only [pNil_ptr, pField_ptr]
  refine o.load i1 h1 rfl (ho_key o i2 h2 ?_)
  simp only [pExt0, pExt1]
  refine o.load i1 h1 rfl ?_
  refine o.look i4 h4 ?_
  simp only [Bool.false_eq_true, if_false]
  have hlen : s.hp.length ≤ n := by
    have : (s.hp.map (·.1.toNat)).length ≤ n := nodup_le (by
      have : s.hp.map (·.1.toNat) = (s.hp.map (·.1)).map Int.toNat := by simp
      rw [this, List.nodup_iff_pairwise_ne, List.pairwise_map]
      refine (List.nodup_iff_pairwise_ne.1 inv.ids).imp_of_mem fun {x y} hx hy hne e => hne ?_
      obtain ⟨p, hp, rfl⟩ := List.mem_map.1 hx
      obtain ⟨q, hq, rfl⟩ := List.mem_map.1 hy
      obtain ⟨u, e1, _⟩ := inv.ent p hp
      obtain ⟨w, e2, _⟩ := inv.ent q hq
      rw [e1, e2] at e ⊢
      have e' : u = w := by simpa using e
      rw [e']) (fun x hx => by
      obtain ⟨p, hp, rfl⟩ := List.mem_map.1 hx
      obtain ⟨u, e1, e2, _⟩ := inv.ent p hp
      rw [e1]; simpa using e2)
    simpa using this
  by_cases hc : v ∈ s.order
  · rw [clo_in hc]
    simp only [Option.getD_some]
    have : s.reach v a d = s := by simp [FS.reach, hc]
    rw [this, ] at hK
    have hk := fun h => hK F h
    rw [set_set_same h2 h3] at hk
    simpa using hk h o
  · rw [clo_out hc]
    simp only [Option.getD_none, pBin_gtr, ifV_dec]
    refine ⟨fun e => by omega, fun _ => ?_⟩
    cases hl : lookH s.hp v with
    | some was =>
      simp only [Option.isSome_some, ifV_true, Option.getD_some, pBin_leq, ifV_dec]
      refine ⟨fun hle => ?_, fun hgt => ?_⟩
      · have : s.reach v a d = s := by simp [FS.reach, hc, hl, hle]
        rw [this] at hK
        have hk := fun h => hK F h
        rw [set_set_same h2 h3] at hk
        exact hk h o
      · unfold sh_flood_run_reach_k1 sh_flood_run_reach_k2
        simp only [ifV_true, pNil_ptr, pField_ptr]
        refine o.load i1 h1 rfl (ho_lower o i2 h2 (lookH_some hl) (by omega) fun F' h5 o5 => ?_)
        refine o5.load i1 (by rw [List.getElem?_set_ne n12]; exact h1) rfl ?_
        refine o5.setI (z := a) i3 (by rw [List.getElem?_set_ne n23]; exact h3) (by rw [inv.al]; exact hv) fun h6 o6 => ?_
        have : s.reach v a d = { s with hp := ((v : Int), d) :: s.hp.erase ((v : Int), was), arc := s.arc.set v a } := by simp [FS.reach, hc, hl, hgt]
        rw [this] at hK
        exact hK F' h6 o6
    | none =>
      simp only [Option.isSome_none, ifV_false]
      unfold sh_flood_run_reach_k1 sh_flood_run_reach_k2
      simp only [ifV_false, pNil_ptr, pField_ptr]
      refine o.load i1 h1 rfl (ho_push o i2 h2 (by omega) (lookH_none.1 hl) hv fun F' h5 o5 => ?_)
      refine o5.load i1 (by rw [List.getElem?_set_ne n12]; exact h1) rfl ?_
      refine o5.setI (z := a) i3 (by rw [List.getElem?_set_ne n23]; exact h3) (by rw [inv.al]; exact hv) fun h6 o6 => ?_
      have : s.reach v a d = { s with hp := ((v : Int), d) :: s.hp, arc := s.arc.set v a } := by simp [FS.reach, hc, hl]
      rw [this] at hK
      exact hK F' h6 o6

end
end Go.Proofs.YtlkcpceobicoiaaGreatDoor

namespace Go.Proofs.YtlkcpceobicoiaaGreatDoor
open Go Go.Mh
set_option linter.unusedVariables false

/-- A tree in memory. -/
def TreeV (h : Heap) (v : Value) (t : Tr) : Prop := ∃ sd sa so, v = .agg #[sd, sa, so] ∧ Vw encI 1 h sd t.dist ∧ Vw encI 1 h sa t.arc ∧ Vw encN 1 h so t.order
theorem TreeV.more {h h' : Heap} {v : Value} {t : Tr} (H : TreeV h v t) (x : Ext h h') : TreeV h' v t := by
  obtain ⟨sd, sa, so, e, a, b, c⟩ := H
  exact ⟨sd, sa, so, e, a.more x, b.more x, c.more x⟩

theorem scan_take {l : List A} {head : A → Nat} {key : Int} {s : FS} {ids : List Nat} {i : Nat} (hi : i < ids.length) :
    s.scan l head key (ids.take (i + 1)) = (s.scan l head key (ids.take i)).reach (head (arcAt l ids[i])) ids[i] (key + (arcAt l ids[i]).w) := by
  unfold FS.scan
  rw [List.take_succ_eq_append_getElem hi, List.foldl_append]; rfl

section
variable {h0 h : Heap} {L : List Res} {K : Value → Heap → Prop} {g : G} {r : Nat} {outs : Nat → List Nat} {head : A → Nat} {nextv endv : Value}

/-- A closure that tells the arcs of a node. -/
def NextF (nextv : Value) (g : G) (r : Nat) (outs : Nat → List Nat) : Prop :=
  ∀ (h0 h : Heap) (L : List Res) (K : Value → Heap → Prop) (v : Nat), v < g.n → NetR h r g → Own h0 h L → (∀ v' h', Own h0 h' (slR encN 1 T_int v' (outs v) :: L) → K v' h') → callV Tryz.prog nextv [I v].toArray h K

theorem out_next (hR : g.Right) : NextF (.func (.func F_net_Net_Out) #[ptr r] #[]) g r g.out := by
  intro h0 h L K v hv H o hK
  refine callV_of (l := [ptr r, I v]) rfl ?_
  have := outI_ok (z := v) o hR H (K := K) (by rw [if_pos (by omega)]; exact hK)
  simpa [callS, callV] using this
theorem in_next (hR : g.Right) : NextF (.func (.func F_net_Net_In) #[ptr r] #[]) g r g.in := by
  intro h0 h L K v hv H o hK
  refine callV_of (l := [ptr r, I v]) rfl ?_
  have := inI_ok (z := v) o hR H (K := K) (by rw [if_pos (by omega)]; exact hK)
  simpa [callS, callV] using this

abbrev runL (r9 rr m hp t8 n : Nat) (sd sa : Value) (kb : Nat) (key : Int) (F : Nat → Prop) (H : List HE) (so : Value) (st : FS) (mm : List Nat) : List Res :=
  [cellR kb [I key] T_int64, cellR r9 [ptr rr] T_p_flood_run, cellR rr [ptr hp, sd, sa, so, .map (some m)] T_flood_run, hpR F hp H n, slR encI 1 T_int sa st.arc, mapR m (clo st.order), xR sd st.dist, slR encN 1 T_int so st.order,
    cellR t8 [sl0, sl0, sl0] T_flood_Tree, marksR mm]

/-- The rest of a flood, from a state on. -/
theorem flood_loop {r9 rr m hp t8 : Nat} {sd sa : Value} {fin : FS} {h' : Heap} {x : List Nat × Vals [10, 11, 12]} (hR : g.Right) (H : NetR h r g) (hN : NextF nextv g r outs) (hE : EndF endv head) (hev : endv.cells = #[endv]) (hhead : ∀ a ∈ g.arcs, head a < g.n)
    (hout : ∀ v, v < g.n → ∀ i ∈ outs v, i < g.arcs.length) (hol : ∀ v, (outs v).length ≤ g.arcs.length)
    (hK : ∀ so h', Own h h' [xR sd fin.dist, slR encI 1 T_int sa fin.arc, slR encN 1 T_int so fin.order] → K (.agg #[sd, sa, so]) h')
    (J : ∃ (st : FS) (kb : Nat) (key : Int) (so : Value) (F : Nat → Prop) (H : List HE), x.2.2.1 = ptr kb ∧ FS.run g.arcs outs head (g.n + 1 - st.order.length) st = fin ∧ FInv g.n (st.order.length * W) st ∧
      ((least st.hp = none ∧ x.2.2.2.1 = .bool false) ∨ ∃ p, least st.hp = some p ∧ x.2.1 = I p.1 ∧ key = p.2 ∧ x.2.2.2.1 = .bool true ∧ H = st.hp.erase p) ∧ Own h h' (runL r9 rr m hp t8 g.n sd sa kb key F H so st x.1)) :
    LoopH (σ := List Nat × Vals [10, 11, 12]) (fun x hh ZZ => sh_flood_flood_L2 Tryz.prog (ptr r9) nextv (ptr r) endv (ptr t8) K x.1 x.2.1 x.2.2.1 x.2.2.2.1 hh (fun mz a0 a1 a2 hz => ZZ (mz, (a0, (a1, (a2, ())))) hz)) x h' := by
  have hmost := hR.most
  have hmany := hR.many
  obtain ⟨st0, J⟩ := J
  refine LoopH_down (k0 := g.n + 1 - st0.order.length) (fun k x h' => ∃ (st : FS) (kb : Nat) (key : Int) (so : Value) (F : Nat → Prop) (H : List HE), k = g.n + 1 - st.order.length ∧ x.2.2.1 = ptr kb ∧ FS.run g.arcs outs head (g.n + 1 - st.order.length) st = fin ∧ FInv g.n (st.order.length * W) st ∧
      ((least st.hp = none ∧ x.2.2.2.1 = .bool false) ∨ ∃ p, least st.hp = some p ∧ x.2.1 = I p.1 ∧ key = p.2 ∧ x.2.2.2.1 = .bool true ∧ H = st.hp.erase p) ∧ Own h h' (runL r9 rr m hp t8 g.n sd sa kb key F H so st x.1))
    (by obtain ⟨kb, key, so, F, H, J⟩ := J; exact ⟨st0, kb, key, so, F, H, rfl, J⟩) ?_
  clear J st0 h' x
  rintro k ⟨mm, v, kv, is, ⟨⟩⟩ h' Z ⟨st, kb, key, so, F, Hp, hk, hkb, hrun, inv, hcase, o⟩ hZ
  dsimp only at hkb hcase o hZ ⊢
  subst hkb
  unfold sh_flood_flood_L2
  simp only [pNil_ptr, pField_ptr]
  rcases hcase with ⟨hl, rfl⟩ | ⟨p, hl, rfl, rfl, rfl, rfl⟩
  · rw [ifV_false]
    have hf : st = fin := by
      rw [← hrun]
      cases g.n + 1 - st.order.length with
      | zero => rfl
      | succ k => simp only [FS.run, hl]
    subst hf
    refine o.load 1 rfl rfl ?_
    simp only [pNil_ptr, pField_ptr]
    refine o.ldN 2 rfl rfl rfl ?_
    refine o.st 8 rfl rfl rfl rfl rfl ?_ fun h2 o2 => ?_
    · intro u hu
      simp at hu
      rcases hu with rfl | rfl | rfl
      · exact (o.vw 6 rfl).plain
      · exact (o.vw 4 rfl).plain
      · exact (o.vw 7 rfl).plain
    · refine o2.take 9 rfl fun h3 o3 => ?_
      exact o3.ldN 8 rfl rfl rfl (hK so h3 (o3.sel [6, 4, 7] (by decide)))
  · rw [ifV_true]
    have hm := (least_spec hl).1
    obtain ⟨u, hu, hun, hno, hk0, hkB⟩ := inv.ent p hm
    obtain ⟨pv, key⟩ := p
    dsimp only at hu hk0 hkB o ⊢
    subst hu
    have hroom := inv.room (by intro e; rw [e] at hm; cases hm)
    have hB : (st.order.length : Int) * W + W ≤ 16777216 * W := by
      have : (st.order.length : Int) + 1 ≤ 16777216 := by omega
      have := Int.mul_le_mul_of_nonneg_right this (show (0 : Int) ≤ W by decide)
      rw [Int.add_mul, Int.one_mul] at this
      exact this
    refine o.load 1 rfl rfl ?_
    simp only [pNil_ptr, pField_ptr]
    refine o.load 2 rfl rfl ?_
    refine o.look 5 rfl ?_
    rw [clo_out hno]
    simp only [Bool.false_eq_true, if_false, Option.getD_none, pBin_add]
    rw [show IntKind.i64.wrap (0 + 1) = 1 from rfl]
    refine o.mapPut (f' := clo (st.order ++ [u])) 5 rfl clo_add fun h1 o1 => ?_
    refine o1.load 1 rfl rfl ?_
    simp only [pNil_ptr, pField_ptr]
    refine o1.load 2 rfl rfl (o1.load 0 rfl rfl ?_)
    refine o1.setI 6 rfl (by rw [inv.dl]; exact hun) fun h2 o2 => ?_
    refine o2.load 1 rfl rfl (o2.load 1 rfl rfl ?_)
    simp only [pNil_ptr, pField_ptr]
    refine o2.load 2 rfl rfl ?_
    refine o2.app1 7 u rfl rfl (sizesOk_of rfl) encN_len encN_plain rfl (by decide) (by omega) fun so1 h3 o3 => ⟨o3.load 1 rfl rfl rfl, ?_⟩
    refine o3.st1 2 rfl rfl rfl (o3.vw 7 rfl).one (o3.vw 7 rfl).plain fun h4 o4 => ?_
    refine hN _ _ _ _ u hun (H.more o4.ext) o4 fun vl h5 o5 => ?_
    refine callS_of (lk_flood_arcs _ _ _ ?_)
    unfold sh_flood_arcs
    refine o5.box fun n3 h6 o6 => o6.box fun l4 h7 o7 => o7.box fun e5 h8 o8 => ?_
    have hvl := o5.vw 0 rfl
    obtain ⟨st1, hst1⟩ : ∃ st1, st1 = st.pop u key := ⟨_, rfl⟩
    have hW : (0 : Int) ≤ W := by decide
    have inv1 : FInv g.n (st.order.length * W + W) st1 := by subst hst1; exact (inv.popped hm).mono (by omega)
    have hord : st1.order.length = st.order.length + 1 := by subst hst1; simp [FS.pop]
    have hids := hout u hun
    have hscan : ∀ i, FInv g.n (st.order.length * W + W) (st1.scan g.arcs head key ((outs u).take i)) := fun i =>
      FInv.scan (fun a ha => ⟨hhead a ha, by have := (hR.ends a ha).2.2; show (a.w : Int) ≤ 2147483647; omega⟩) hk0 (by omega) (fun j hj => hids j (List.mem_of_mem_take hj)) inv1
    have L0 : Own h h8 (cellR e5 endv.cells.toList T_func_api_Arc_int :: cellR l4 vl.cells.toList T_sl_int :: cellR n3 [ptr r] T_p_net_Net :: slR encN 1 T_int vl (outs u) :: runL r9 rr m hp t8 g.n sd sa kb key F (st1.scan g.arcs head key ((outs u).take 0)).hp so1 (st1.scan g.arcs head key ((outs u).take 0)) mm) := by
      subst hst1; exact o8
    refine L0.range (farcs_iter (r := r) (T1 := T_sl_int) (T2 := T_p_net_Net) (T3 := T_func_api_Arc_int) (vl := vl) hids (by have := hol u; omega) hE) (fun i x i' ⟨⟨hi, e⟩, _⟩ => by rw [e]; rfl)
      (fun i Rs => ∃ F, Rs = cellR e5 endv.cells.toList T_func_api_Arc_int :: cellR l4 vl.cells.toList T_sl_int :: cellR n3 [ptr r] T_p_net_Net :: slR encN 1 T_int vl (outs u) :: runL r9 rr m hp t8 g.n sd sa kb key F (st1.scan g.arcs head key ((outs u).take i)).hp so1 (st1.scan g.arcs head key ((outs u).take i)) mm)
      (fun _ => False) (fun _ _ => False) ⟨F, rfl⟩ ?_ ?_ ?_ (fun _ _ h => h.elim) (fun _ _ _ h => h.elim)
    · rintro i Rs' h' ⟨F, rfl⟩ o'
      refine ⟨?_, o'.get 2 rfl, ?_, o'.vw 3 rfl, H.more o'.ext⟩
      · have := o'.get 1 rfl
        rw [show vl.cells.toList = [vl] by rw [hvl.one]] at this
        exact this
      · have := o'.get 0 rfl
        rw [show endv.cells.toList = [endv] by rw [hev]] at this
        exact this
    · rintro M i x i' Rs' Pr h9 R ⟨⟨hi, rfl⟩, rfl⟩ ⟨F, rfl⟩ o9 hN' _ _
      dsimp only [valsOf]
      unfold sh_flood_flood_B3
      refine o9.box fun a14 h10 o10 => o10.st 0 rfl rfl rfl rfl rfl (encA_plain _) fun h11 o11 => ?_
      refine o11.begin 1 rfl fun h12 o12 => ?_
      refine o12.load 8 rfl rfl ?_
      simp only [pField_ptr]
      refine o12.load 0 rfl rfl (o12.load 7 rfl rfl (o12.load 0 rfl rfl ?_))
      have hil := hids _ (List.getElem_mem hi)
      have ha : arcAt g.arcs (outs u)[i] ∈ g.arcs := by simp [arcAt, hil]
      have hw := (hR.ends _ ha).2.2
      have e1 : IntKind.i64.wrap (key + ((arcAt g.arcs (outs u)[i]).w : Int)) = key + (arcAt g.arcs (outs u)[i]).w := by
        have hW2 : (16777216 : Int) * W ≤ 2 ^ 62 := by decide
        exact w64 (by omega) (by have : (W : Int) = 2147483647 := rfl
                                 omega)
      rw [pBin_add, e1]
      refine reach_ok o12 9 10 11 12 rfl rfl rfl rfl (by decide) (by decide) (by decide) (hscan i) hmost (hhead _ ha) fun F' h13 o13 => ?_
      refine hN' _ _ ⟨F', rfl⟩ ?_
      have hsc := scan_take (l := g.arcs) (head := head) (key := key) (s := st1) hi
      have hro := @reach_order (st1.scan g.arcs head key ((outs u).take i)) (head (arcAt g.arcs (outs u)[i])) (outs u)[i] (key + (arcAt g.arcs (outs u)[i]).w)
      rw [← hsc] at hro
      have := o13.tail
      rw [← hsc] at this
      simp only [runL, hro.1, hro.2]
      exact this
    · rintro i h9 Rs' rfl ⟨F', rfl⟩ o9
      rw [List.take_length] at o9
      have hso := @scan_order g.arcs head key (outs u) st1
      refine o9.load 5 rfl rfl (o9.box fun kb2 h10 o10 => ?_)
      refine o10.st1 0 rfl rfl rfl rfl rfl fun h11 o11 => ?_
      refine o11.load 7 rfl rfl ?_
      simp only [pNil_ptr, pField_ptr]
      refine o11.load 8 rfl rfl ?_
      have inv2 : FInv g.n ((st1.scan g.arcs head key (outs u)).order.length * W) (st1.scan g.arcs head key (outs u)) := by
        have := hscan (outs u).length
        rw [List.take_length] at this
        refine this.mono ?_
        rw [hso.1, hord]
        have : ((st.order.length + 1 : Nat) : Int) * W = st.order.length * W + W := by
          rw [Int.natCast_add, Int.add_mul]; rfl
        omega
      have hrun2 : FS.run g.arcs outs head (g.n + 1 - (st1.scan g.arcs head key (outs u)).order.length) (st1.scan g.arcs head key (outs u)) = fin := by
        rw [← hrun, hso.1, hord]
        rw [show g.n + 1 - st.order.length = (g.n + 1 - (st.order.length + 1)) + 1 by omega]
        simp only [FS.run, hl, Int.toNat_natCast]
        rw [← hst1]
      have mark := fun {h'' : Heap} {A B : Res} {C : List Res} (o : Own h h'' (A :: B :: C)) => o
      refine ho_pop o11 9 rfl (fun hl2 h12 o12 => ?_) fun p hl2 F2 h12 o12 => ?_
      · simp only [pExt0, pExt1, pExt2]
        refine o12.st1 0 rfl rfl rfl rfl rfl fun h13 o13 => ?_
        have o14 := (o13.swap).addMark 14 rfl
        refine hZ (_ :: mm, (I 0, (ptr kb2, (.bool false, ())))) h13 _ (by rw [hso.1, hord]; omega) ⟨st1.scan g.arcs head key (outs u), kb2, 0, so1, F', (st1.scan g.arcs head key (outs u)).hp, rfl, rfl, hrun2, inv2, .inl ⟨hl2, rfl⟩, ?_⟩
        exact o14.sel [0, 6, 7, 8, 9, 10, 11, 12, 13, 14] (by decide)
      · simp only [pExt0, pExt1, pExt2]
        refine o12.st1 0 rfl rfl rfl rfl rfl fun h13 o13 => ?_
        have o14 := (o13.swap).addMark 14 rfl
        refine hZ (_ :: mm, (I p.1, (ptr kb2, (.bool true, ())))) h13 _ (by rw [hso.1, hord]; omega) ⟨st1.scan g.arcs head key (outs u), kb2, p.2, so1, F2, (st1.scan g.arcs head key (outs u)).hp.erase p, rfl, rfl, hrun2, inv2, .inr ⟨p, hl2, rfl, rfl, rfl, rfl⟩, ?_⟩
        exact o14.sel [0, 6, 7, 8, 9, 10, 11, 12, 13, 14] (by decide)

end
end Go.Proofs.YtlkcpceobicoiaaGreatDoor

namespace Go.Proofs.YtlkcpceobicoiaaGreatDoor
open Go Go.Mh
set_option linter.unusedVariables false

section
variable {h0 h : Heap} {L : List Res} {K : Value → Heap → Prop} {g : G} {r : Nat} {outs : Nat → List Nat} {head : A → Nat} {nextv endv : Value}

/-- A tree that was just made. -/
def TreeK (h : Heap) (t : Tr) (K : Value → Heap → Prop) : Prop :=
  ∀ sd sa so h', Own h h' [xR sd t.dist, slR encI 1 T_int sa t.arc, slR encN 1 T_int so t.order] → K (.agg #[sd, sa, so]) h'

theorem TreeK.of {t : Tr} (hK : ∀ v h', TreeV h' v t → Ext h h' → K v h') : TreeK h t K :=
  fun sd sa so h' o => hK _ h' ⟨sd, sa, so, rfl, o.vw 0 rfl, o.vw 1 rfl, o.vw 2 rfl⟩ o.ext

theorem flood_none {s : Int} {rv : Value} (hs : rv = .pointer none ∨ (rv = ptr r ∧ NetR h r g ∧ ¬ (0 ≤ s ∧ s < g.n))) (hK : TreeK h .none K) : callS Tryz.prog F_flood_flood [rv, I s, nextv, endv] h K := by
  refine callS_of (lk_flood_flood _ _ _ _ ?_)
  unfold sh_flood_flood sh_flood_flood_k1
  refine (Own.start h).box fun t8 h1 o1 => ?_
  have none : ∀ {h2 : Heap}, Own h h2 [cellR t8 [sl0, sl0, sl0] T_flood_Tree] → pBuild [(.slice none 0 0), (.slice none 0 0), (.slice none 0 0)] [] fun t27 => pStore 3 (ptr t8) t27 h2 fun u h_3 => pLoadN 3 h_3 (ptr t8) fun res => K res h_3 := fun o2 =>
    ⟨trivial, o2.st (cs' := [sl0, sl0, sl0]) 0 rfl (l := [sl0, sl0, sl0]) rfl rfl rfl rfl (by simp) fun h3 o3 => o3.ldN 0 rfl rfl rfl (hK sl0 sl0 sl0 h3 ((o3.nilS.nilS.nilS).sel [0, 1, 2] (by decide)))⟩
  rcases hs with rfl | ⟨rfl, H, hs⟩
  · simp only [pEq_ptr_nil, Option.isNone_none, ifV_true]
    exact none o1
  · simp only [pEq_ptr_nil, Option.isNone_some, ifV_false, pBin_lss, ifV_dec]
    refine ⟨fun _ => none o1, fun e => nodes_ok (H.more o1.ext) ?_⟩
    simp only [pBin_geq, ifV_dec]
    exact ⟨fun _ => none o1, fun e' => by omega⟩

theorem flood_ok {s : Nat} (hR : g.Right) (H : NetR h r g) (hs : s < g.n) (hN : NextF nextv g r outs) (hE : EndF endv head) (hev : endv.cells = #[endv]) (hhead : ∀ a ∈ g.arcs, head a < g.n)
    (hout : ∀ v, v < g.n → ∀ i ∈ outs v, i < g.arcs.length) (hol : ∀ v, (outs v).length ≤ g.arcs.length) (hK : TreeK h (floodP g.arcs g.n outs head s) K) : callS Tryz.prog F_flood_flood [ptr r, I s, nextv, endv] h K := by
  have hmost := hR.most
  refine callS_of (lk_flood_flood _ _ _ _ ?_)
  unfold sh_flood_flood
  refine (Own.start h).box fun t8 h1 o1 => ?_
  simp only [pEq_ptr_nil, Option.isNone_some, ifV_false, pBin_lss, ifV_dec]
  refine ⟨fun e => by omega, fun _ => nodes_ok (H.more o1.ext) ?_⟩
  simp only [pBin_geq, ifV_dec]
  refine ⟨fun e => by omega, fun _ => nodes_ok (H.more o1.ext) (ho_new o1 fun F hp h2 o2 => ?_)⟩
  refine o2.build (enc := encI) (n := 1) [far] rfl (sizesOk_of rfl) rfl fun wf h3 o3 => nodes_ok (H.more o3.ext) ?_
  refine repeat_int64 o3 (o3.vw 0 rfl) hmost fun sd h4 o4 => ?_
  refine o4.build (enc := encI) (n := 1) [-1] rfl (sizesOk_of rfl) rfl fun wm h5 o5 => nodes_ok (H.more o5.ext) ?_
  refine repeat_int o5 (o5.vw 0 rfl) hmost fun sa h6 o6 => ⟨sizesOk_of (by
    obtain ⟨b, c, e⟩ := (o6.vw 0 rfl).isSl
    obtain ⟨b', c', e'⟩ := (o6.vw 2 rfl).isSl
    subst e e'; rfl), ?_⟩
  have ead : sa.cells = #[sa] ∧ sd.cells = #[sd] := ⟨(o6.vw 0 rfl).one, (o6.vw 2 rfl).one⟩
  refine o6.mkMap fun m h7 o7 => ?_
  obtain ⟨ba, ca, ea⟩ := (o7.vw 1 rfl).isSl
  obtain ⟨bd, cd, ed⟩ := (o7.vw 3 rfl).isSl
  refine ⟨sizesOk_of (by subst ea ed; rfl), o7.box fun rr h8 o8 => o8.box fun r9 h9 o9 => o9.st1 0 rfl rfl rfl rfl rfl fun h10 o10 => ?_⟩
  have o11 : Own h h10 (cellR r9 [ptr rr] T_p_flood_run :: cellR rr [ptr hp, sd, sa, sl0, .map (some m)] T_flood_run :: mapR m (fun _ => none) :: slR encI 1 T_int sa (List.replicate g.n (-1)) :: slR encI 1 T_int wm [-1] :: xR sd (List.replicate g.n far) :: xR wf [far] :: hpR F hp [] g.n :: [cellR t8 [sl0, sl0, sl0] T_flood_Tree]) := by
    subst ea ed; exact o10
  clear o10 o9 o8 o7 o6
  refine o11.load 0 rfl rfl ?_
  simp only [pNil_ptr, pField_ptr]
  refine o11.load 1 rfl rfl (ho_push o11 7 rfl (by simp) (by simp) hs fun F1 h12 o12 => ?_)
  refine o12.load 0 rfl rfl ?_
  simp only [pNil_ptr, pField_ptr]
  refine o12.load 1 rfl rfl ?_
  refine ho_pop o12 7 rfl (fun e => by simp [least] at e) fun p hp' F2 h13 o13 => ?_
  have hp2 : p = ((s : Int), 0) := by simpa [least] using hp'.symm
  subst hp2
  simp only [pExt0, pExt1, pExt2]
  refine o13.box fun kb h14 o14 => o14.st1 0 rfl rfl rfl rfl rfl fun h15 o15 => ?_
  have o16 := (o15.noMarks).nilS (enc := encN) (n := 1) (T := T_int)
  refine flood_loop (fin := FS.run g.arcs outs head (g.n + 1) (FS.start g.n s)) (m := m) (sd := sd) (sa := sa) (rr := rr) (hp := hp) hR H hN hE hev hhead hout hol (fun so h' o' => hK sd sa so h' o') ?_
  refine ⟨FS.start g.n s, kb, 0, sl0, F2, _, rfl, rfl, (FInv.start hs).mono (by simp [FS.start]), .inr ⟨((s : Int), 0), hp', rfl, rfl, rfl, rfl⟩, ?_⟩
  have e : (fun _ => none : Int → Option Value) = clo (FS.start g.n s).order := by funext x; simp [clo, FS.start]
  have o17 := o16.sel [2, 3, 4, 10, 6, 5, 8, 0, 11, 1] (by decide)
  dsimp only [List.map, List.getD] at o17
  rw [e] at o17
  exact o17

end
end Go.Proofs.YtlkcpceobicoiaaGreatDoor

namespace Go.Proofs.YtlkcpceobicoiaaGreatDoor
open Go Go.Mh
set_option linter.unusedVariables false

section
variable {h0 h : Heap} {L : List Res} {K : Value → Heap → Prop} {g : G} {r : Nat} {s : Int}

theorem out_lt {g : G} {v i : Nat} (h : i ∈ g.out v) : i < g.arcs.length := by
  have := (outsP_mem.1 h).2.1; omega
theorem in_lt {g : G} {v i : Nat} (h : i ∈ g.in v) : i < g.arcs.length := by
  have := (outsP_mem.1 h).2.1; omega

theorem to_ok (hR : g.Right) (H : NetR h r g) (hK : TreeK h (g.toI s) K) : callS Tryz.prog F_flood_To [ptr r, I s] h K := by
  refine callS_of (lk_flood_To _ _ ?_)
  unfold sh_flood_To
  refine (Own.start h).box fun t4 h1 o1 => ?_
  have fin : TreeK h1 (g.toI s) fun t9 h_2 => pStore 3 (ptr t4) t9 h_2 fun u h_3 => pLoadN 3 h_3 (ptr t4) fun res => K res h_3 := by
    intro sd sa so h2 o2
    have o3 := o1.frame o2
    refine o3.st 3 rfl rfl rfl rfl rfl ?_ fun h3 o4 => o4.ldN 3 rfl rfl rfl (hK sd sa so h3 (o4.sel [0, 1, 2] (by decide)))
    intro u hu
    simp at hu
    rcases hu with rfl | rfl | rfl
    · exact (o3.vw 0 rfl).plain
    · exact (o3.vw 1 rfl).plain
    · exact (o3.vw 2 rfl).plain
  unfold G.toI at fin
  split at fin <;> rename_i hs
  · obtain ⟨s, rfl⟩ := Int.eq_ofNat_of_zero_le hs.1
    exact flood_ok hR (H.more o1.ext) (by omega) (in_next hR) to1_end rfl (fun a ha => (hR.ends a ha).1) (fun v _ i => in_lt) (fun v => outsP_short) fin
  · exact flood_none (g := g) (.inr ⟨rfl, H.more o1.ext, hs⟩) fin

theorem to_nil (hK : TreeK h .none K) : callS Tryz.prog F_flood_To [.pointer none, I s] h K := by
  refine callS_of (lk_flood_To _ _ ?_)
  unfold sh_flood_To
  refine (Own.start h).box fun t4 h1 o1 => flood_none (g := ⟨0, [], [], []⟩) (r := 0) (.inl rfl) fun sd sa so h2 o2 => ?_
  have o3 := o1.frame o2
  refine o3.st 3 rfl rfl rfl rfl rfl ?_ fun h3 o4 => o4.ldN 3 rfl rfl rfl (hK sd sa so h3 (o4.sel [0, 1, 2] (by decide)))
  intro u hu
  simp at hu
  rcases hu with rfl | rfl | rfl
  · exact (o3.vw 0 rfl).plain
  · exact (o3.vw 1 rfl).plain
  · exact (o3.vw 2 rfl).plain

end
end Go.Proofs.YtlkcpceobicoiaaGreatDoor

namespace Go.Proofs.YtlkcpceobicoiaaGreatDoor
open Go Go.Mh
set_option linter.unusedVariables false

section
variable {h0 h : Heap} {L : List Res} {K : Value → Heap → Prop} {g : G} {vb v : Value} {bs : List Int}

theorem drawn24_ok (H : Vw encU8 1 h vb bs) (hK : ∀ (g : G) vx vy va h', Few g → Own h h' [xR vx g.X, xR vy g.Y, aR va g.arcs] → K (.agg #[I g.n, vx, vy, va]) h') : callS Tryz.prog F_milestonelaw24_drawn [vb] h K := by
  refine callS_of (lk_milestonelaw24_drawn _ ?_)
  unfold sh_milestonelaw24_drawn
  refine (Own.start h).box fun t2 h1 o1 => H.len ?_
  have e : (if (80 : Int) < bs.length then 80 else (bs.length : Int)) = ((min bs.length 80 : Nat) : Int) := by split <;> omega
  rw [pMin_int, e]
  refine H.sub (a := 0) (j := min bs.length 80) encU8_len rfl rfl (by omega) (by omega) fun vb' hb => ⟨sizesOk_of (by obtain ⟨b, c, e⟩ := hb.isSl; subst e; rfl), ?_⟩
  refine o1.box fun d h2 o2 => ?_
  have o3 : Own h h2 (dR d vb' 0 :: [cellR t2 [I 0, sl0, sl0, sl0] T_api_Raw]) := by obtain ⟨b, c, e⟩ := hb.isSl; subst e; exact o2
  refine raw_ok o3 hb fun g vx vy va a' h4 hg o4 => ?_
  have p0 := (o4.vw 0 rfl).plain
  have p1 := (o4.vw 1 rfl).plain
  have p2 := (o4.vw 2 rfl).plain
  refine o4.st 4 rfl rfl rfl rfl rfl ?_ fun h5 o5 => o5.ldN 4 rfl rfl rfl (hK g vx vy va h5 hg (o5.sel [0, 1, 2] (by decide)))
  intro u hu
  simp at hu
  rcases hu with rfl | rfl | rfl | rfl
  · rfl
  · exact p0
  · exact p1
  · exact p2

theorem made24_ok (o : Own h0 h L) (hR : g.Right) (H : RawV h v g) (hK : ∀ r N h', netR N r g → Own h0 h' (N :: L) → K (ptr r) h') : callS Tryz.prog F_milestonelaw24_made [v] h K := by
  obtain ⟨vx, vy, va, rfl, H⟩ := H
  refine callS_of (lk_milestonelaw24_made _ ?_)
  unfold sh_milestonelaw24_made
  refine (Own.start h).box fun b h1 o1 => o1.ldN 0 rfl rfl rfl ?_
  refine new_net_ok o1 hR ⟨vx, vy, va, rfl, H.more o1.ext⟩ fun r N h2 hN o2 => ?_
  simp only [pExt0, pExt1, pNe_iface_nil, ifV_false]
  exact hK r N h2 hN (o.frame (o2.sel [0] (by decide)))

/-- A graph drawn, and its net. -/
theorem rawOf {vx vy va : Value} (o : Own h0 h L) (i j k : Nat) (hi : L[i]? = some (xR vx g.X)) (hj : L[j]? = some (xR vy g.Y)) (hk : L[k]? = some (aR va g.arcs)) : RawV h (.agg #[I g.n, vx, vy, va]) g :=
  ⟨vx, vy, va, rfl, o.vw i hi, o.vw j hj, o.vw k hk⟩

end
end Go.Proofs.YtlkcpceobicoiaaGreatDoor

namespace Go.Proofs.YtlkcpceobicoiaaGreatDoor
open Go Go.Mh
set_option linter.unusedVariables false

section
variable {h0 h : Heap} {L : List Res} {K : Value → Heap → Prop} {g : G} {v : Value}

theorem turned_step {l : List A} {i : Nat} (hi : i < l.length) : (((l.take i).map A.swap ++ l.drop i).set i (l[i]).swap) = (l.take (i + 1)).map A.swap ++ l.drop (i + 1) := by
  rw [List.set_append_right _ _ (by simp; omega)]
  have e : i - ((l.take i).map A.swap).length = 0 := by simp; omega
  rw [e, List.drop_eq_getElem_cons hi, List.set_cons_zero, List.take_succ_eq_append_getElem hi, List.map_append, List.append_assoc]; rfl

end
end Go.Proofs.YtlkcpceobicoiaaGreatDoor

namespace Go.Proofs.YtlkcpceobicoiaaGreatDoor
open Go Go.Mh
set_option linter.unusedVariables false

def encT (x : Bool) : List Value := [.bool x]
theorem encT_len (x : Bool) : (encT x).length = 1 := rfl
theorem encT_plain (x : Bool) : ∀ u ∈ encT x, Mh.plainCell u = true := by intro u hu; simp [encT] at hu; subst hu; rfl

section
variable {h0 h : Heap} {L : List Res} {K : Value → Heap → Prop} {g : G} {r : Nat} {d : List Int} {v : Value} {n : Nat} {f : Nat → Bool}

/-- Is an arc tight: the closure. -/
theorem tells1_ok {n2 x5 i : Nat} {sd sa so : Value} {T1 T2 : TypeId} (hR : g.Right) (hd : d.length = g.n) (hrg : ∀ u, u < g.n → 0 ≤ dAt d u ∧ dAt d u ≤ far) (hi : i < g.arcs.length)
    (h1 : h[n2]? = some (.cells #[ptr r] T1 (0, 0))) (h2 : h[x5]? = some (.cells #[sd, sa, so] T2 (0, 0))) (hN : NetR h r g) (hv : Vw encI 1 h sd d)
    (hK : ∀ h', Ext h h' → K (.bool (tgt d g.arcs[i])) h') : callV Tryz.prog (.func (.func F_tight_tells_1) #[] #[ptr n2, ptr x5]) [I i].toArray h K := by
  refine callV_of (l := [I i, ptr n2, ptr x5]) rfl (lk_tight_tells_1 _ _ _ ?_)
  unfold sh_tight_tells_1
  have c0 : hcell h ⟨n2, 0, none⟩ = some (ptr r) := hcell_of h1 rfl
  have c1 : hcell h ⟨x5, 0, none⟩ = some sd := hcell_of h2 rfl
  refine pLoad_of rfl c0 (arc_ok hN hi fun h3 x3 => ?_)
  simp only [pExt0, pExt1]
  have he := hR.ends _ (List.getElem_mem hi)
  generalize g.arcs[i] = a at he hK
  have hW : (a.w : Int) ≤ 2147483647 := by omega
  have hf : far = 72057594037927936 := rfl
  have q1 := hrg _ he.1
  have q2 := hrg _ he.2.1
  have o3 := (Own.start h).more x3
  refine o3.box fun b h4 o4 => o4.st 0 rfl rfl rfl rfl rfl (encA_plain _) fun h5 o5 => ?_
  simp only [pField_ptr]
  refine pLoad_of rfl (hcell_more o5.ext c1) (o5.load 0 rfl rfl ((hv.more o5.ext).atI (by omega) (o5.load 0 rfl rfl ?_)))
  rw [dAt_get]
  refine dadd_ok q2.1 q2.2 (by omega) (by omega) fun h6 x6 => ?_
  have o6 := o5.more x6
  refine dfin_ok (by omega) (by omega) fun h7 x7 => ?_
  have o7 := o6.more x7
  unfold tgt at hK
  simp only [ifV_dec]
  refine ⟨fun hlt => ?_, fun hge => ?_⟩
  · refine pLoad_of rfl (hcell_more o7.ext c1) (o7.load 0 rfl rfl ((hv.more o7.ext).atI (by omega) ?_))
    rw [dAt_get, pBin_eql]
    have := hK h7 o7.ext
    rw [decide_eq_true hlt, Bool.true_and] at this
    exact this
  · have := hK h7 o7.ext
    rw [decide_eq_false hge, Bool.false_and] at this
    exact this

/-- A closure that tells what holds of a place. -/
def HoldF (hv : Value) (n : Nat) (f : Nat → Bool) (Q : Heap → Prop) : Prop :=
  ∀ (h : Heap) (K : Value → Heap → Prop) (i : Nat), i < n → Q h → (∀ h', Ext h h' → K (.bool (f i)) h') → callV Tryz.prog hv [I i].toArray h K

theorem marked_iter {m2 h3 : Nat} {hv : Value} {Q : Heap → Prop} {T1 T2 : TypeId} (hn : n < 2 ^ 40) (hF : HoldF hv n f Q) :
    IterG Tryz.prog (.func (.func F_tight_marked_1) #[] #[ptr m2, ptr h3]) (fun h => h[m2]? = some (.cells #[I n] T1 (0, 0)) ∧ h[h3]? = some (.cells #[hv] T2 (0, 0)) ∧ Q h) (σ := Nat) 0 (mkNext n f) (mkStop n f) := by
  rintro yv h0 h Rs K J E ⟨l, rfl⟩ o j0 hQ hY hK
  refine callF_of (l := [yieldV l, ptr m2, ptr h3]) rfl (lk_tight_marked_1 _ _ _ ?_)
  unfold sh_tight_marked_1
  obtain ⟨hm, _, _⟩ := hQ _ _ _ j0 o
  have cm : hcell h ⟨m2, 0, none⟩ = some (I n) := hcell_of hm rfl
  refine pLoad_of rfl cm ?_
  refine LoopH_count n (fun i x h' => x.1 = I i ∧ ∃ s Rs', s ≤ i ∧ (∀ k, s ≤ k → k < i → f k = false) ∧ J s Rs' ∧ Own h0 h' Rs') ⟨rfl, 0, Rs, Nat.le_refl _, fun k _ h => absurd h (by omega), j0, o⟩ ?_
  rintro i ⟨x, ⟨⟩⟩ h Z hi ⟨hx, s, Rs', hs, hno, hj, o⟩ hZ
  dsimp only at hx hZ ⊢
  subst hx
  unfold sh_tight_marked_1_L1
  simp only [pBin_lss, ifV_dec]
  refine ⟨fun hlt => ?_, fun hge => ?_⟩
  · have hlt : i < n := by omega
    obtain ⟨_, hh, hq⟩ := hQ _ _ _ hj o
    have ch : hcell h ⟨h3, 0, none⟩ = some hv := hcell_of hh rfl
    refine pLoad_of rfl ch (hF _ _ i hlt hq fun h1 x1 => ?_)
    have o1 := o.more x1
    by_cases hf : f i = true
    · rw [hf, ifV_true]
      refine hY s _ (i + 1) Rs' [] h1 _ ⟨i, hs, hlt, hf, hno, rfl, rfl⟩ hj o1.nilTail (fun Rs'' h'' hj' o' => ?_) fun Rs'' h'' he o' => ?_
      · unfold sh_tight_marked_1_k2
        rw [pUn_not, Bool.not_true, ifV_false, pBin_add, wI i (by omega)]
        exact hZ (I (i + 1 : Nat), ()) h'' hlt ⟨rfl, i + 1, Rs'', Nat.le_refl _, fun k _ h => absurd h (by omega), hj', o'.toNil⟩
      · rw [pUn_not, Bool.not_false, ifV_true]
        exact hK _ _ (.inr he) o'.toNil
    · have hf : f i = false := by simpa using hf
      unfold sh_tight_marked_1_k2
      rw [hf, ifV_false, pBin_add, wI i (by omega)]
      refine hZ (I (i + 1 : Nat), ()) h1 hlt ⟨rfl, s, Rs', by omega, fun k h1 h2 => ?_, hj, o1⟩
      by_cases e : k = i
      · subst e; exact hf
      · exact hno k h1 (by omega)
  · have : i = n := by omega
    subst this
    exact hK _ _ (.inl ⟨s, fun k h1 h2 => hno k h1 h2, hj⟩) o

theorem put_ok {fv : Value} {Q : Heap → Prop} {l : List Bool} (o : Own h0 h (slR encT 1 T_bool v l :: L)) (hl : l.length = n) (hI : IterG Tryz.prog fv Q (σ := Nat) 0 (mkNext n f) (mkStop n f))
    (hQ : ∀ h' l', Own h0 h' (slR encT 1 T_bool v l' :: L) → Q h') (hK : ∀ h', Own h0 h' (slR encT 1 T_bool v (setT l f n) :: L) → K v h') : callS Tryz.prog F_tight_put_bool [v, fv, .bool true] h K := by
  refine callS_of (lk_tight_put_bool _ _ _ ?_)
  unfold sh_tight_put_bool
  have hv1 := (o.vw 0 rfl).one
  refine o.box fun l3 h1 o1 => o1.box fun x5 h2 o2 => ?_
  have o3 : Own h0 h2 (cellR x5 [.bool true] T_bool :: cellR l3 [v] T_sl_bool :: slR encT 1 T_bool v (setT l f 0) :: L) := by
    rw [setT_zero]
    rw [show v.cells.toList = [v] by rw [hv1]] at o2
    exact o2
  refine o3.range hI (by rintro s x s' ⟨j, _, _, _, _, rfl, _⟩; rfl) (fun s Rs => s ≤ n ∧ Rs = cellR x5 [.bool true] T_bool :: cellR l3 [v] T_sl_bool :: slR encT 1 T_bool v (setT l f s) :: L) (fun _ => False) (fun _ _ => False) ⟨Nat.zero_le _, rfl⟩ ?_ ?_ ?_ (fun _ _ h => h.elim) (fun _ _ _ h => h.elim)
  · rintro s Rs' h' ⟨_, rfl⟩ o'
    exact hQ _ _ o'.tail.tail
  · rintro M s x s' Rs' Pr h' R ⟨j, hij, hj, hf, hno, rfl, rfl⟩ ⟨hs, rfl⟩ o' hN _ _
    dsimp only [valsOf]
    unfold sh_tight_put_bool_B1
    refine o'.begin 0 rfl fun h4 o4 => o4.load 3 rfl rfl (o4.load 2 rfl rfl ?_)
    refine o4.setAt (a := true) 4 rfl encT_len (encT_plain _) (by rw [setT_len, hl]; exact hj) rfl fun h5 o5 => ?_
    rw [setT_next hij (by omega) hf hno] at o5
    exact hN _ _ ⟨by omega, rfl⟩ o5
  · rintro s h' Rs' hst ⟨hs, rfl⟩ o'
    refine o'.load 2 rfl rfl (o'.take1 0 rfl fun h3 o4 => ?_)
    refine hK h3 ?_
    have e := setT_stop (l := l) (f := f) (i := s) (by rw [hl]; exact hst) (by omega)
    rw [hl] at e
    rw [← e]
    exact o4.tail.tail.tail

theorem there_ok {z : Int} (H : NetR h r g) (hK : K (.bool (decide (0 ≤ z) && decide (z < g.n))) h) : callS Tryz.prog F_tight_there [ptr r, I z] h K := by
  refine callS_of (lk_tight_there _ _ ?_)
  unfold sh_tight_there
  have pe : ∀ {K : Value → Prop}, K (.bool true) → pEq true .ptr (ptr r) (.pointer none) K := fun hk => by simpa [pEq] using hk
  refine pe ?_
  rw [ifV_true]
  simp only [pBin_geq, ifV_dec]
  refine ⟨fun h1 => nodes_ok H ?_, fun h1 => ?_⟩
  · rw [pBin_lss]
    rw [decide_eq_true h1, Bool.true_and] at hK
    exact hK
  · rw [decide_eq_false h1, Bool.false_and] at hK
    exact hK

/-- Which arcs are tight for one of some nodes. -/
theorem tany_ok {N : Res} {vn : Value} {bs : List Int} (o : Own h0 h L) (p : Nat) (hp : L[p]? = some N) (hR : g.Right) (hN : netR N r g) (hb : Vw encI 1 h vn bs) (hbl : bs.length < 2 ^ 40)
    (hK : ∀ w h', Own h0 h' (slR encT 1 T_bool w (g.arcs.map (tgtAny g bs)) :: L) → K w h') : callS Tryz.prog F_tight_Any [ptr r, vn] h K := by
  refine callS_of (lk_tight_Any _ _ ?_)
  unfold sh_tight_Any
  have hmany := hR.many
  have hmost := hR.most
  simp only [pEq_ptr_nil, Option.isNone_some, ifV_false]
  refine arcs_ok (hN _ (o.get p hp)) ?_
  refine (Own.start h).make (enc := encT) (n := 1) (a := false) rfl (by omega) (by omega) fun w h1 o1 => hb.len ?_
  have e0 : List.replicate g.arcs.length false = g.arcs.map (tgtAny g (bs.take 0)) := by
    apply List.ext_getElem (by simp) fun i h1 h2 => by simp [tgtAny]
  rw [e0] at o1
  refine LoopH_count bs.length (fun i x h' => x.1 = w ∧ x.2.1 = I i ∧ Own h h' [slR encT 1 T_bool w (g.arcs.map (tgtAny g (bs.take i)))]) ⟨rfl, rfl, o1⟩ ?_
  clear o1 e0
  rintro i ⟨w', x, ⟨⟩⟩ h' Z hi ⟨hw, hx, o'⟩ hZ
  dsimp only at hw hx hZ ⊢
  subst hw hx
  unfold sh_tight_Any_L1
  simp only [pBin_lss, ifV_dec]
  refine ⟨fun hlt => ?_, fun hge => ?_⟩
  · have hlt : i < bs.length := by omega
    have hm : ∀ a, tgtAny g (bs.take (i + 1)) a = (tgtAny g (bs.take i) a || tgtI g bs[i] a) := fun a => by
      rw [List.take_succ_eq_append_getElem hlt, tgtAny_append, tgtAny_one]
    refine (hb.more o'.ext).atI hlt ?_
    generalize bs[i] = b at hm
    refine there_ok (hN _ ((o.more o'.ext).get p hp)) ?_
    by_cases hc : 0 ≤ b ∧ b < g.n
    · rw [decide_eq_true hc.1, decide_eq_true hc.2, Bool.true_and, ifV_true]
      obtain ⟨b, rfl⟩ := Int.eq_ofNat_of_zero_le hc.1
      have hbn : b < g.n := by omega
      have T := to_tree hR hbn
      refine (o'.vw 0 rfl).len ?_
      refine callS_of (lk_tight_tells _ _ ?_)
      unfold sh_tight_tells
      refine o'.box fun n2 h2 o2 => o2.load 0 rfl rfl (to_ok hR (hN _ ((o.more o2.ext).get p hp)) fun sd sa so h3 o3 => ?_)
      have et : g.toI (b : Int) = g.to b := by rw [G.toI, if_pos (by omega)]; rfl
      rw [et] at o3
      replace o3 := o2.frame o3
      refine o3.box fun x5 h4 o4 => o4.st (cs' := [sd, sa, so]) 0 rfl rfl rfl rfl rfl ?_ fun h5 o5 => ?_
      · intro u hu
        simp at hu
        rcases hu with rfl | rfl | rfl
        · exact (o3.vw 0 rfl).plain
        · exact (o3.vw 1 rfl).plain
        · exact (o3.vw 2 rfl).plain
      refine callS_of (lk_tight_marked _ _ ?_)
      unfold sh_tight_marked
      refine o5.box fun m2 h6 o6 => o6.box fun q3 h7 o7 => ?_
      have hlen : (g.arcs.map (tgtAny g (bs.take i))).length = g.arcs.length := by simp
      have hF : HoldF (.func (.func F_tight_tells_1) #[] #[ptr n2, ptr x5]) (g.arcs.map (tgtAny g (bs.take i))).length (fun k => tgt (g.to b).dist (arcAt g.arcs k)) (fun h' => h'[n2]? = some (.cells #[ptr r] T_p_net_Net (0, 0)) ∧ h'[x5]? = some (.cells #[sd, sa, so] T_flood_Tree (0, 0)) ∧ NetR h' r g ∧ Vw encI 1 h' sd (g.to b).dist) := by
        rintro h'' K'' k hk ⟨q1, q2, q3, q4⟩ hK''
        have hk : k < g.arcs.length := by omega
        dsimp only at hK''
        rw [show arcAt g.arcs k = g.arcs[k] by simp [arcAt, hk]] at hK''
        exact tells1_ok hR T.ls.len (fun u hu => ⟨T.ls.nonneg hu, T.ls.far_le hu⟩) hk q1 q2 q3 q4 hK''
      have o8 := o7.sel [7, 0, 1, 2, 3, 4, 5, 6] (by decide)
      refine put_ok o8 rfl (marked_iter (T1 := T_int) (T2 := T_func_int_bool) (by rw [hlen]; omega) hF) (fun h'' l' o'' => ⟨o''.get 2 rfl, o''.get 1 rfl, o''.get 7 rfl, o''.get 3 rfl, hN _ ((o.more o''.ext).get p hp), o''.vw 4 rfl⟩) fun h8 o9 => ?_
      unfold sh_tight_Any_k2
      rw [pBin_add, wI i (by omega)]
      refine hZ (w', (I (i + 1 : Nat), ())) h8 hlt ⟨rfl, rfl, ?_⟩
      have e1 := setT_map (l := g.arcs) (p := tgtAny g (bs.take i)) (q := fun a => tgtI g b a) (f := fun k => tgt (g.to b).dist (arcAt g.arcs k)) fun k hk => by
        simp [arcAt, hk, tgtI, et, hbn]
      rw [hlen, e1] at o9
      have e2 : (g.arcs.map fun a => tgtAny g (bs.take i) a || tgtI g b a) = g.arcs.map (tgtAny g (bs.take (i + 1))) := List.map_congr_left fun a _ => (hm a).symm
      rw [e2] at o9
      exact o9.sel [0] (by decide)
    · have hcf : (decide (0 ≤ b) && decide (b < (g.n : Int))) = false := by
        rw [Bool.and_eq_false_imp]; intro h1; exact decide_eq_false fun h2 => hc ⟨of_decide_eq_true h1, h2⟩
      rw [hcf, ifV_false]
      unfold sh_tight_Any_k2
      rw [pBin_add, wI i (by omega)]
      refine hZ (w', (I (i + 1 : Nat), ())) h' hlt ⟨rfl, rfl, ?_⟩
      have e2 : g.arcs.map (tgtAny g (bs.take i)) = g.arcs.map (tgtAny g (bs.take (i + 1))) := List.map_congr_left fun a _ => by
        rw [hm a]
        have : tgtI g b a = false := by unfold tgtI; rw [← Bool.and_assoc, hcf, Bool.false_and]
        rw [this, Bool.or_false]
      rw [← e2]
      exact o'
  · have : i = bs.length := by omega
    subst this
    rw [List.take_length] at o'
    exact hK w' h' (o.frame o')

/-- Which are tight for a node. -/
theorem tarcs_ok {N : Res} {b : Int} (o : Own h0 h L) (p : Nat) (hp : L[p]? = some N) (hR : g.Right) (hN : netR N r g)
    (hK : ∀ w h', Own h0 h' (slR encT 1 T_bool w (g.arcs.map (tgtI g b)) :: L) → K w h') : callS Tryz.prog F_tight_Arcs [ptr r, I b] h K := by
  refine callS_of (lk_tight_Arcs _ _ ?_)
  unfold sh_tight_Arcs
  refine o.build (enc := encI) (n := 1) [b] rfl (sizesOk_of rfl) rfl fun w h1 o1 => ?_
  refine tany_ok o1 (p + 1) (by simpa using hp) hR hN (o1.vw 0 rfl) (by simp) fun w2 h2 o3 => hK w2 h2 ?_
  have e : g.arcs.map (tgtAny g [b]) = g.arcs.map (tgtI g b) := List.map_congr_left fun a _ => tgtAny_one
  rw [e] at o3
  exact o3.erase 1

/-- Are both rows alike? -/
theorem truths_ok {xs : List Bool} {va vb : Value} (Ha : Vw encT 1 h va xs) (Hb : Vw encT 1 h vb xs) (hl : xs.length < 2 ^ 40) (hK : K (.bool true) h) : callS Tryz.prog F_milestonelaw24_truths [va, vb] h K := by
  refine callS_of (lk_milestonelaw24_truths _ _ ?_)
  unfold sh_milestonelaw24_truths
  refine Ha.len (Hb.len ?_)
  rw [pBin_neq, bne_self_eq_false, ifV_false]
  refine LoopH_count xs.length (fun i x h' => x.1 = I i ∧ h' = h) ⟨rfl, rfl⟩ ?_
  rintro i ⟨x, ⟨⟩⟩ h' Z hi ⟨hx, rfl⟩ hZ
  dsimp only at hx hZ ⊢
  subst hx
  unfold sh_milestonelaw24_truths_L1
  refine Ha.len ?_
  simp only [pBin_lss, ifV_dec]
  refine ⟨fun hlt => ?_, fun hge => hK⟩
  have hlt : i < xs.length := by omega
  refine Ha.at1 (e := fun x : Bool => .bool x) (fun _ => rfl) hlt (Hb.at1 (e := fun x : Bool => .bool x) (fun _ => rfl) hlt ?_)
  have pe : ∀ {c : Bool} {K : Value → Prop}, K (.bool false) → pEq true .bool (.bool c) (.bool c) K := fun hk => by simpa [pEq] using hk
  refine pe ?_
  rw [ifV_false, pBin_add, wI i (by omega)]
  exact hZ (I (i + 1 : Nat), ()) _ hlt ⟨rfl, rfl⟩

end
end Go.Proofs.YtlkcpceobicoiaaGreatDoor

namespace Go.Proofs.YtlkcpceobicoiaaGreatDoor
open Go Go.Mh
set_option linter.unusedVariables false

section
variable {h0 h : Heap} {L : List Res} {K : Value → Heap → Prop} {g : G} {r : Nat} {N : Res} {v : Value}

def gT : G := ⟨4, [0, 0, 0, 0], [0, 0, 0, 0], [⟨0, 1, 1⟩, ⟨0, 2, 4⟩, ⟨1, 2, 3⟩, ⟨2, 2, 0⟩, ⟨3, 0, 0⟩, ⟨1, 2, 5⟩]⟩
theorem gT_right : gT.Right := by
  refine ⟨by decide, by decide, rfl, rfl, by decide, by decide, by decide, by decide⟩

theorem tw2 (o : Own h0 h L) (p : Nat) (hp : L[p]? = some N) (hN : netR N r gT) (hK : ∀ w h', Own h0 h' (slR encT 1 T_bool w [true, true, true, true, true, false] :: L) → K w h') : callS Tryz.prog F_tight_Arcs [ptr r, I 2] h K :=
  tarcs_ok o p hp gT_right hN fun w h' o' => hK w h' (by
    rw [show gT.arcs.map (tgtI gT 2) = [true, true, true, true, true, false] by kernel_rfl] at o'; exact o')
theorem tw1 (o : Own h0 h L) (p : Nat) (hp : L[p]? = some N) (hN : netR N r gT) (hK : ∀ w h', Own h0 h' (slR encT 1 T_bool w [true, false, false, false, true, false] :: L) → K w h') : callS Tryz.prog F_tight_Arcs [ptr r, I 1] h K :=
  tarcs_ok o p hp gT_right hN fun w h' o' => hK w h' (by
    rw [show gT.arcs.map (tgtI gT 1) = [true, false, false, false, true, false] by kernel_rfl] at o'; exact o')
theorem tw3 (o : Own h0 h L) (p : Nat) (hp : L[p]? = some N) (hN : netR N r gT) (hK : ∀ w h', Own h0 h' (slR encT 1 T_bool w [false, false, false, false, false, false] :: L) → K w h') : callS Tryz.prog F_tight_Arcs [ptr r, I 3] h K :=
  tarcs_ok o p hp gT_right hN fun w h' o' => hK w h' (by
    rw [show gT.arcs.map (tgtI gT 3) = [false, false, false, false, false, false] by kernel_rfl] at o'; exact o')
theorem tw12 (o : Own h0 h (slR encI 1 T_int v [1, 2] :: L)) (p : Nat) (hp : (slR encI 1 T_int v [1, 2] :: L)[p]? = some N) (hN : netR N r gT) (hK : ∀ w h', Own h0 h' (slR encT 1 T_bool w [true, true, true, true, true, false] :: slR encI 1 T_int v [1, 2] :: L) → K w h') : callS Tryz.prog F_tight_Any [ptr r, v] h K :=
  tany_ok o p hp gT_right hN (o.vw 0 rfl) (by decide) fun w h' o' => hK w h' (by
    rw [show gT.arcs.map (tgtAny gT [1, 2]) = [true, true, true, true, true, false] by kernel_rfl] at o'; exact o')

set_option maxHeartbeats 4000000 in
set_option maxRecDepth 100000 in
theorem works24_ok (hK : ∀ h', Ext h h' → K (.bool true) h') : callS Tryz.prog F_milestonelaw24_works [] h K := by
  refine callS_of (lk_milestonelaw24_works ?_)
  unfold sh_milestonelaw24_works
  refine (Own.start h).build (enc := encI) (n := 1) [0, 0, 0, 0] rfl (sizesOk_of rfl) rfl fun w4 h1 o1 => ?_
  refine ⟨sizesOk_of rfl, sizesOk_of rfl, sizesOk_of rfl, sizesOk_of rfl, sizesOk_of rfl, sizesOk_of rfl, ?_⟩
  refine o1.build (enc := encA) (n := 3) gT.arcs (by kernel_rfl) (sizesOk_of rfl) rfl fun wa h2 o2 => ?_
  refine pBuild_ones (cs' := [I gT.n, w4, w4, wa]) ?_ rfl rfl ?_
  · intro p hp
    simp at hp
    rcases hp with rfl | rfl | rfl | rfl
    · rfl
    · exact (o2.vw 1 rfl).one
    · exact (o2.vw 1 rfl).one
    · exact (o2.vw 0 rfl).one
  refine made24_ok o2 gT_right ⟨w4, w4, wa, rfl, o2.vw 1 rfl, o2.vw 1 rfl, o2.vw 0 rfl⟩ fun r N h3 hN o3 => ?_
  simp only [pEq_ptr_nil, Option.isNone_some, ifV_false]
  have o4 := o3.sel [0] (by decide)
  refine o4.build (enc := encT) (n := 1) [true, true, true, true, true, false] rfl (sizesOk_of rfl) rfl fun w2 h4 o => ?_
  clear o1 o2 o3 o4
  refine cutP_of (fun y h' => y.1 = .bool true ∧ Ext h h') (fun J hJ => ?_) ?_
  · repeat' (first
      | rw [ifV_true]
      | refine tw2 o 1 rfl hN fun w hh o => ?_
      | refine tw1 o 2 rfl hN fun w hh o => ?_
      | refine tw1 o 3 rfl hN fun w hh o => ?_
      | refine tw3 o 4 rfl hN fun w hh o => ?_
      | refine tw3 o 5 rfl hN fun w hh o => ?_
      | refine tw12 o 7 rfl hN fun w hh o => ?_
      | refine o.build (enc := encT) (n := 1) [true, false, false, false, true, false] rfl (sizesOk_of rfl) rfl fun w hh o => ?_
      | refine o.build (enc := encI) (n := 1) [1, 2] rfl (sizesOk_of rfl) rfl fun w hh o => ?_
      | refine o.make (enc := encT) (n := 1) (a := false) (m := 6) rfl (by decide) (by decide) fun w hh o => ?_
      | refine truths_ok (o.vw 0 rfl) (o.vw 1 rfl) (by decide) ?_
      | refine truths_ok (o.vw 1 rfl) (o.vw 0 rfl) (by decide) ?_
      | refine truths_ok (o.vw 0 rfl) (o.vw 7 rfl) (by decide) ?_
      | exact hJ _ _ ⟨rfl, o.ext⟩
      | with_reducible apply And.intro)
  · rintro ⟨y, ⟨⟩⟩ h'' ⟨hy, x⟩
    dsimp only at hy ⊢
    subst hy
    unfold sh_milestonelaw24_works_C1
    exact hK _ x

end
end Go.Proofs.YtlkcpceobicoiaaGreatDoor

namespace Go.Proofs.YtlkcpceobicoiaaGreatDoor
open Go Go.Mh
set_option linter.unusedVariables false

section
variable {h0 h : Heap} {L : List Res} {K : Value → Heap → Prop}

theorem reverse_ok {v : Value} {xs : List Int} (o : Own h0 h L) (i : Nat) (hi : L[i]? = some (slR encI 1 T_int v xs)) (hl : xs.length < 2 ^ 40)
    (hK : ∀ h', Own h0 h' (L.set i (slR encI 1 T_int v xs.reverse)) → K (.tuple #[]) h') : callS Tryz.prog F_slices_Reverse_sl_int_int [v] h K := by
  refine callS_of (lk_slices_Reverse_sl_int_int _ ?_)
  unfold sh_slices_Reverse_sl_int_int
  refine (o.vw i hi).len ?_
  rw [pBin_sub, w64 (by omega) (by omega)]
  have es : L.set i (slR encI 1 T_int v xs) = L := set_same hi
  refine LoopH_count xs.length (fun k x h' => x.1 = I k ∧ x.2.1 = I ((xs.length : Int) - 1 - k) ∧ Own h0 h' (L.set i (slR encI 1 T_int v (rv xs k)))) ⟨rfl, by simp, by rw [rv_zero, es]; exact o⟩ ?_
  rintro k ⟨x, y, ⟨⟩⟩ h Z hk ⟨hx, hy, o⟩ hZ
  dsimp only at hx hy hZ ⊢
  subst hx hy
  unfold sh_slices_Reverse_sl_int_int_L1
  have hi' : (L.set i (slR encI 1 T_int v (rv xs k)))[i]? = some (slR encI 1 T_int v (rv xs k)) := set_get hi
  simp only [pBin_lss, ifV_dec]
  refine ⟨fun hlt => ?_, fun hge => ?_⟩
  · have e : ((xs.length : Int) - 1 - k) = ((xs.length - 1 - k : Nat) : Int) := by omega
    rw [e]
    have hj : xs.length - 1 - k < (rv xs k).length := by rw [rv_len]; omega
    have hk' : k < (rv xs k).length := by rw [rv_len]; omega
    refine (o.vw i hi').atI hj ((o.vw i hi').atI hk' ?_)
    refine o.setI i hi' hk' fun h1 o1 => ?_
    rw [List.set_set] at o1
    refine o1.setI i (set_get hi) (by rw [List.length_set]; exact hj) fun h2 o2 => ?_
    rw [List.set_set, rv_step (by omega)] at o2
    rw [pBin_add, wI k (by omega), pBin_sub, w64 (by omega) (by omega)]
    exact hZ (I (k + 1 : Nat), I _, ()) h2 (by omega) ⟨rfl, congrArg (fun z : Int => I z) (by omega), o2⟩
  · rw [rv_done (by omega)] at o
    exact hK h o

end
end Go.Proofs.YtlkcpceobicoiaaGreatDoor

namespace Go.Proofs.YtlkcpceobicoiaaGreatDoor
open Go Go.Mh
set_option linter.unusedVariables false

section
variable {h0 h : Heap} {L : List Res} {K : Value → Heap → Prop} {g : G} {r : Nat}

theorem wnode_ok {z : Int} (H : NetR h r g) (hK : K (.bool (decide (0 ≤ z) && decide (z < g.n))) h) : callS Tryz.prog F_walk_node [ptr r, I z] h K := by
  refine callS_of (lk_walk_node _ _ ?_)
  unfold sh_walk_node
  simp only [pBin_geq, ifV_dec]
  refine ⟨fun h1 => nodes_ok H ?_, fun h1 => ?_⟩
  · rw [pBin_lss]
    rw [decide_eq_true h1, Bool.true_and] at hK
    exact hK
  · rw [decide_eq_false h1, Bool.false_and] at hK
    exact hK

/-- An arc of any number. -/
theorem arcW_ok {z : Int} (H : NetR h r g) (hK : ∀ h', Ext h h' → K (.tuple #[vA (wArc g.arcs z).1, .bool (wArc g.arcs z).2]) h') : callS Tryz.prog F_net_Net_Arc [ptr r, I z] h K := by
  refine arcI_ok H (fun i hi e h' x => ?_) fun hn h' x => ?_
  · subst e
    have := hK h' x
    rw [show wArc g.arcs (i : Int) = (g.arcs[i], true) by simp [wArc, arcAt, hi]] at this
    exact this
  · have := hK h' x
    rw [wArc, if_neg hn] at this
    exact this

theorem wArc_w (hR : g.Right) {z : Int} : ((wArc g.arcs z).1.w : Int) ≤ 2147483647 := by
  unfold wArc
  split
  · rename_i h1
    have := (hR.ends _ (arcAt_mem (l := g.arcs) (i := z.toNat) (by omega))).2.2
    show ((arcAt g.arcs z.toNat).w : Int) ≤ _
    omega
  · decide

theorem wsteps_iter {a5 n3 s4 : Nat} {s : Int} {va : Value} {arcs : List Int} {T1 T2 : TypeId} (hl : arcs.length < 2 ^ 40) :
    IterP Tryz.prog (.func (.func F_walk_steps_1) #[] #[ptr a5, ptr n3, ptr s4]) (fun h => h[a5]? = some (.cells #[va] T1 (0, 0)) ∧ h[n3]? = some (.cells #[ptr r] T2 (0, 0)) ∧ NetR h r g ∧ Vw encI 1 h va arcs)
      [cellR s4 [I s] T_int] (σ := Nat × Int) (0, s) (wNext g.arcs arcs) (fun p => p.1 = arcs.length) := by
  rintro yv h0 h Rs K J E ⟨l, rfl⟩ o j0 hQ hY hK
  refine callF_of (l := [yieldV l, ptr a5, ptr n3, ptr s4]) rfl (lk_walk_steps_1 _ _ _ _ ?_)
  unfold sh_walk_steps_1
  obtain ⟨ha, _, _, hv⟩ := hQ _ _ _ j0 o.left
  refine pLoad_of rfl (hcell_of ha rfl) (hv.len ?_)
  refine LoopH_count arcs.length (fun i x h' => x.1 = I i ∧ ∃ s' Rs', J (i, s') Rs' ∧ Own h0 h' (Rs' ++ [cellR s4 [I s'] T_int])) ⟨rfl, s, Rs, j0, o⟩ ?_
  clear ha hv
  rintro i ⟨x, ⟨⟩⟩ h Z hi ⟨hx, s, Rs', hj, o⟩ hZ
  dsimp only at hx hZ ⊢
  subst hx
  unfold sh_walk_steps_1_L1
  simp only [pBin_lss, ifV_dec]
  refine ⟨fun hlt => ?_, fun hge => ?_⟩
  · have hlt : i < arcs.length := by omega
    obtain ⟨ha, hn, hN, hv⟩ := hQ _ _ _ hj o.left
    refine hv.atI hlt (pLoad_of rfl (hcell_of hn rfl) (arcW_ok hN fun h1 x1 => ?_))
    have nx : wNext g.arcs arcs (i, s) [vA (wArc g.arcs arcs[i]).1, .bool ((wArc g.arcs arcs[i]).2 && decide (((wArc g.arcs arcs[i]).1.f : Int) = s))] (i + 1, ((wArc g.arcs arcs[i]).1.t : Int)) := ⟨hlt, rfl, rfl⟩
    generalize wArc g.arcs arcs[i] = w at nx
    simp only [pExt0, pExt1]
    have o1 := o.more x1
    refine o1.box fun b h2 o2 => o2.st 0 rfl rfl rfl rfl rfl (encA_plain _) fun h3 o3 => ?_
    simp only [pField_ptr]
    refine o3.ldN 0 rfl rfl rfl ?_
    have o4 : Own h0 h3 (Rs' ++ [cellR s4 [I s] T_int, cellR b (encA w.1) T_api_Arc]) := by
      have := o3.rot
      rw [List.append_assoc] at this
      exact this
    have after : ∀ (Rs'' : List Res) (h'' : Heap), J (i + 1, (w.1.t : Int)) Rs'' → Own h0 h'' (Rs'' ++ [cellR s4 [I s] T_int, cellR b (encA w.1) T_api_Arc]) → sh_walk_steps_1_k2 Tryz.prog K (ptr b) (ptr s4) (I i) (fun a0 hz => Z (a0, ()) hz) (.bool false) h'' := by
      intro Rs'' h'' hj' o'
      unfold sh_walk_steps_1_k2
      simp only [pField_ptr, ifV_false]
      refine o'.load (Rs''.length + 1) (b := b) (cs := encA w.1) (T := T_api_Arc) (off := 0 + 1) (by rw [List.getElem?_append_right (by omega)]; simp) rfl ?_
      refine o'.st1 Rs''.length (b := s4) (T := T_int) (cs := [I s]) (cs' := [I w.1.t]) (by rw [List.getElem?_append_right (by omega)]; simp) rfl rfl rfl rfl fun h4 o5 => ?_
      rw [pBin_add, wI i (by omega)]
      refine hZ (I (i + 1 : Nat), ()) h4 hlt ⟨rfl, (w.1.t : Int), Rs'', hj', ?_⟩
      rw [List.set_append_right _ _ (by omega), Nat.sub_self] at o5
      have : Own h0 h4 ((Rs'' ++ [cellR s4 [I w.1.t] T_int]) ++ [cellR b (encA w.1) T_api_Arc]) := by rw [List.append_assoc]; exact o5
      exact this.left
    have y : ∀ c : Bool, c = (w.2 && decide ((w.1.f : Int) = s)) → callV Tryz.prog (yieldV l) [vA w.1, .bool c].toArray h3 fun t30 h_5 => pUn .not t30 fun t31 => sh_walk_steps_1_k2 Tryz.prog K (ptr b) (ptr s4) (I i) (fun a0 hz => Z (a0, ()) hz) t31 h_5 := by
      intro c hc
      subst hc
      refine hY _ _ _ Rs' _ h3 _ nx hj o4 (fun Rs'' h'' hj' o' => ?_) fun Rs'' h'' he o' => ?_
      · rw [pUn_not, Bool.not_true]
        exact after Rs'' h'' hj' o'
      · rw [pUn_not, Bool.not_false]
        unfold sh_walk_steps_1_k2
        rw [ifV_true]
        exact hK _ _ (.inr he) o'.left
    cases hw : w.2 with
    | true =>
      rw [ifV_true]
      refine o3.load 0 rfl rfl (o4.load Rs'.length (b := s4) (cs := [I s]) (T := T_int) (by rw [List.getElem?_append_right (by omega)]; simp) rfl ?_)
      rw [pBin_eql]
      exact y _ (by rw [hw, Bool.true_and]; rfl)
    | false =>
      rw [ifV_false]
      exact y _ (by rw [hw, Bool.false_and])
  · have : i = arcs.length := by omega
    exact hK _ _ (.inl ⟨(i, s), this, hj⟩) o.left

/-- Is a row of arcs a walk? -/
theorem wcheck_ok {s t : Int} {va : Value} {arcs : List Int} (hR : g.Right) (H : NetR h r g) (hv : Vw encI 1 h va arcs) (hl : arcs.length < 2147483648)
    (hK1 : ∀ w h', 0 ≤ s → s < g.n → wchk g.arcs s 0 arcs = some (t, w) → Ext h h' → K (.tuple #[I w, .bool true]) h')
    (hK2 : ∀ h', ¬ (0 ≤ s ∧ s < g.n ∧ ∃ w, wchk g.arcs s 0 arcs = some (t, w)) → Ext h h' → K (.tuple #[I 0, .bool false]) h') : callS Tryz.prog F_walk_Check [ptr r, I s, I t, va] h K := by
  refine callS_of (lk_walk_Check _ _ _ _ ?_)
  unfold sh_walk_Check
  refine (Own.start h).box fun w8 h1 o1 => wnode_ok (H.more o1.ext) ?_
  by_cases hs : 0 ≤ s ∧ s < g.n
  · rw [decide_eq_true hs.1, decide_eq_true hs.2, Bool.true_and, pUn_not, Bool.not_true, ifV_false]
    refine o1.box fun e10 h2 o2 => o2.st1 0 (cs' := [I s]) rfl rfl rfl rfl rfl fun h3 o3 => ?_
    refine callS_of (lk_walk_steps _ _ _ ?_)
    unfold sh_walk_steps
    refine o3.box fun n3 h4 o4 => o4.box fun s4 h5 o5 => o5.box fun a5 h6 o6 => ?_
    have hv1 := hv.one
    have o7 : Own h h6 ([cellR a5 [va] T_sl_int, cellR n3 [ptr r] T_p_net_Net, cellR e10 [I s] T_int, cellR w8 [I 0] T_int64] ++ [cellR s4 [I s] T_int]) := by
      rw [show va.cells.toList = [va] by rw [hv1]] at o6
      exact o6.sel [0, 2, 3, 4, 1] (by decide)
    refine o7.rangeP (wsteps_iter (g := g) (r := r) (va := va) (arcs := arcs) (T1 := T_sl_int) (T2 := T_p_net_Net) (by omega)) (by rintro p x p' ⟨_, rfl, _⟩; rfl)
      (fun p Rs => ∃ w : Int, 0 ≤ p.2 ∧ 0 ≤ w ∧ w ≤ p.1 * 2147483647 ∧ p.1 ≤ arcs.length ∧ wchk g.arcs s 0 arcs = wchk g.arcs p.2 w (arcs.drop p.1) ∧ Rs = [cellR a5 [va] T_sl_int, cellR n3 [ptr r] T_p_net_Net, cellR e10 [I p.2] T_int, cellR w8 [I w] T_int64])
      (fun _ => False)
      (fun id Rs => id = 0 ∧ wchk g.arcs s 0 arcs = none ∧ ∃ w, Rs = [cellR a5 [va] T_sl_int, cellR n3 [ptr r] T_p_net_Net, cellR e10 [I (-1)] T_int, cellR w8 [I w] T_int64])
      ⟨0, hs.1, by omega, by omega, Nat.zero_le _, rfl, rfl⟩ ?_ ?_ ?_ (fun _ _ h => h.elim) ?_
    · rintro p Rs' h' ⟨w, _, _, _, _, _, rfl⟩ o'
      exact ⟨o'.get 0 rfl, o'.get 1 rfl, H.more o'.ext, hv.more o'.ext⟩
    · rintro M ⟨i, e⟩ x p' Rs' Pr h' R ⟨hi, rfl, rfl⟩ ⟨w, he, hw0, hw1, hil, hch, rfl⟩ o' hN _ hX
      dsimp only [valsOf] at hi hch hw1 ⊢
      rw [wchk_step hi] at hch
      have hww := wArc_w hR (z := arcs[i])
      generalize wArc g.arcs arcs[i] = q at hch hN hww
      unfold sh_walk_Check_B1
      refine o'.box fun a11 h8 o8 => o8.st 0 rfl rfl rfl rfl rfl (encA_plain _) fun h9 o9 => ?_
      refine o9.begin 1 rfl fun h10 o10 => ?_
      rw [pUn_not]
      by_cases hc : (q.2 && decide ((q.1.f : Int) = e)) = true
      · rw [if_pos hc] at hch
        rw [hc, Bool.not_true, ifV_false]
        simp only [pField_ptr]
        refine o10.load 6 rfl rfl (o10.load 0 rfl rfl ?_)
        rw [pBin_add, w64 (by omega) (by omega)]
        refine o10.st1 6 (cs' := [I (w + q.1.w)]) rfl rfl rfl rfl rfl fun h11 o11 => ?_
        refine o11.load 0 rfl rfl (o11.st1 5 (cs' := [I q.1.t]) rfl rfl rfl rfl rfl fun h12 o12 => ?_)
        refine hN _ _ ⟨w + q.1.w, by omega, by omega, by (show _ ≤ ((i + 1 : Nat) : Int) * _; omega), hi, hch, rfl⟩ ?_
        exact o12.tail
      · rw [if_neg hc] at hch
        have hc : (q.2 && decide ((q.1.f : Int) = e)) = false := by simpa using hc
        rw [hc, Bool.not_false, ifV_true]
        refine o10.st1 5 (cs' := [I (-1)]) rfl rfl rfl rfl rfl fun h11 o11 => ?_
        exact hX 0 _ _ ⟨rfl, hch, w, rfl⟩ o11.tail
    · rintro ⟨i, e⟩ h' Rs' hst ⟨w, he, hw0, hw1, hil, hch, rfl⟩ o'
      dsimp only at hst hch he
      subst hst
      rw [List.drop_length] at hch
      simp only [wchk] at hch
      unfold sh_walk_Check_k2
      refine o'.load 3 rfl rfl ?_
      rw [pBin_lss, decide_eq_false (by omega), ifV_false]
      refine o'.load 3 rfl rfl ?_
      rw [pBin_neq]
      by_cases ht : e = t
      · subst ht
        rw [bne_self_eq_false, ifV_false]
        refine o'.load 4 rfl rfl (o'.st1 4 (cs' := [I w]) rfl rfl rfl rfl rfl fun h11 o11 => ?_)
        refine o11.take1 0 rfl fun h12 o12 => o12.load 4 rfl rfl (hK1 w _ hs.1 hs.2 hch o12.ext)
      · rw [show (e != t) = true by simpa using ht, ifV_true]
        unfold sh_walk_Check_k3
        refine o'.st1 4 (cs' := [I 0]) rfl rfl rfl rfl rfl fun h11 o11 => ?_
        refine o11.take1 0 rfl fun h12 o12 => o12.load 4 rfl rfl (hK2 _ ?_ o12.ext)
        rintro ⟨_, _, w', hw'⟩
        rw [hch] at hw'
        exact ht (congrArg Prod.fst (Option.some.inj hw'))
    · rintro id h' Rs' ⟨rfl, hch, w, rfl⟩ o'
      show sh_walk_Check_k2 _ _ _ _ _ _ _
      unfold sh_walk_Check_k2
      refine o'.load 3 rfl rfl ?_
      rw [pBin_lss, decide_eq_true (by omega), ifV_true]
      unfold sh_walk_Check_k3
      refine o'.st1 4 (cs' := [I 0]) rfl rfl rfl rfl rfl fun h11 o11 => ?_
      refine o11.take1 0 rfl fun h12 o12 => o12.load 4 rfl rfl (hK2 _ ?_ o12.ext)
      rintro ⟨_, _, w', hw'⟩
      rw [hch] at hw'; cases hw'
  · have hcf : (decide (0 ≤ s) && decide (s < (g.n : Int))) = false := by
      rw [Bool.and_eq_false_imp]; intro h1; exact decide_eq_false fun h2 => hs ⟨of_decide_eq_true h1, h2⟩
    rw [hcf, pUn_not, Bool.not_false, ifV_true]
    refine o1.st1 0 (cs' := [I 0]) rfl rfl rfl rfl rfl fun h2 o2 => o2.load 0 rfl rfl (hK2 _ (fun e => hs ⟨e.1, e.2.1⟩) o2.ext)

end
end Go.Proofs.YtlkcpceobicoiaaGreatDoor

namespace Go.Proofs.YtlkcpceobicoiaaGreatDoor
open Go Go.Mh
set_option linter.unusedVariables false

section
variable {h0 h : Heap} {L : List Res} {K : Value → Heap → Prop} {g : G} {r : Nat}

def nI (l : List Nat) : List Int := l.map fun (i : Nat) => (i : Int)
def mI (f : Int → Option Int) : Int → Option Value := fun z => (f z).map fun x => I x

theorem mI_set {f : Int → Option Int} {k v : Int} (z : Int) : mI (fun z => if z = k then some v else f z) z = fset (mI f) k (I v) z := by
  unfold mI fset
  by_cases h : z = k
  · simp only [if_pos h]; rfl
  · simp only [if_neg h]

theorem nI_nil : nI [] = [] := rfl
theorem nI_rev {l : List Nat} : (nI l).reverse = nI l.reverse := by simp [nI]

/-- What is told of a walk by marked arcs. -/
structure WalkTold (g : G) (ts : List Bool) (s b : Int) (c : Bool) (arcs : List Nat) : Prop where
  is : c = true ↔ (0 ≤ s ∧ s < g.n) ∧ (0 ≤ b ∧ b < g.n) ∧ Rch g.arcs (fun i => ts.getD i false) s.toNat b.toNat
  tr : c = true → Trail g.arcs s.toNat arcs b.toNat
  marked : ∀ i ∈ arcs, ts.getD i false = true
  no : c = false → arcs = []
  own : s = b → arcs = []
  len : arcs.length < 16777216

theorem dropGet {l : List Nat} {k u : Nat} (h : l[k]? = some u) : nI (l.drop k) = (u : Int) :: nI (l.drop (k + 1)) := by
  obtain ⟨hk, e⟩ := List.getElem?_eq_some_iff.1 h
  rw [List.drop_eq_getElem_cons hk, e]; rfl

theorem twalk_ok {vt : Value} {ts : List Bool} {s b : Int} (hR : g.Right) (H : NetR h r g) (ht : Vw encT 1 h vt ts) (htl : ts.length < 2 ^ 40)
    (hK : ∀ c arcs w h', WalkTold g ts s b c arcs → Own h h' [slR encI 1 T_int w (nI arcs)] → K (.tuple #[w, .bool c]) h') : callS Tryz.prog F_tight_Walk [ptr r, vt, I s, I b] h K := by
  refine callS_of (lk_tight_Walk _ _ _ _ ?_)
  unfold sh_tight_Walk
  have hmany := hR.many
  have hmost := hR.most
  refine there_ok H ?_
  by_cases hs : 0 ≤ s ∧ s < g.n
  · rw [decide_eq_true hs.1, decide_eq_true hs.2, Bool.true_and, pUn_not, Bool.not_true, ifV_false]
    refine there_ok H ?_
    by_cases hb : 0 ≤ b ∧ b < g.n
    · rw [decide_eq_true hb.1, decide_eq_true hb.2, Bool.true_and, pUn_not, Bool.not_true, ifV_false]
      obtain ⟨s, rfl⟩ := Int.eq_ofNat_of_zero_le hs.1
      obtain ⟨b, rfl⟩ := Int.eq_ofNat_of_zero_le hb.1
      have hsn : s < g.n := by omega
      have hbn : b < g.n := by omega
      refine (Own.start h).mkMap fun m h1 o1 => ?_
      refine o1.mapPut (f' := mI (fun z => if z = (s : Int) then some (-1) else none)) 0 rfl (fun z => mI_set (f := fun _ => none) z) fun h2 o2 => ?_
      refine o2.build (enc := encI) (n := 1) (nI [s]) rfl (sizesOk_of rfl) rfl fun w h3 o3 => ?_
      have o3 := o3.que 0 rfl
      refine LoopH_count g.n (fun k x h' => ∃ ord f, k ≤ ord.length ∧ BFS g.arcs g.n (fun i => ts.getD i false) s ord f ∧ BFS.Closed g.arcs (fun i => ts.getD i false) ord k ∧ Own h h' [quR encI 1 T_int x.1 (nI (ord.drop k)), mapR m (mI f)])
        ⟨[s], _, by simp, BFS.start hsn fun _ => rfl, fun j _ _ hj => by omega, o3⟩ ?_
      clear o3 o2 o1
      rintro k ⟨x, ⟨⟩⟩ h1 Z hk ⟨ord, f, hkl, B, C, o⟩ hZ
      dsimp only at o hZ ⊢
      unfold sh_tight_Walk_L2
      have hlen := B.len
      refine (o.qvw 0 rfl).len ?_
      rw [show (nI (ord.drop k)).length = ord.length - k by simp [nI]]
      simp only [pBin_gtr, ifV_dec]
      refine ⟨fun hlt0 => ?_, fun hge => ?_⟩
      · have hlt : k < ord.length := by omega
        have hu : ord[k]? = some ord[k] := List.getElem?_eq_getElem hlt
        have hun : ord[k] < g.n := B.rng _ (List.getElem_mem hlt)
        generalize ord[k] = u at hu hun
        refine (o.qvw 0 rfl).atQ (i := 0) (z := (u : Int)) (by rw [dropGet hu]; rfl) ?_
        refine outI_ok o hR (H.more o.ext) fun v' h2 o2 => ?_
        rw [if_pos ⟨by omega, by omega⟩, Int.toNat_natCast] at o2
        have hou := (out_spec hR).1 u hun
        have hol : (g.out u).length ≤ g.arcs.length := outsP_short
        refine (o2.vw 0 rfl).len ?_
        refine LoopH_count (g.out u).length (fun j y h' => y.2.1 = I j ∧ ∃ ord f, k < ord.length ∧ ord[k]? = some u ∧ BFS g.arcs g.n (fun i => ts.getD i false) s ord f ∧ BFS.Closed g.arcs (fun i => ts.getD i false) ord k ∧
          (∀ i ∈ (g.out u).take j, ts.getD i false = true → (arcAt g.arcs i).t ∈ ord) ∧ Own h h' [slR encN 1 T_int v' (g.out u), quR encI 1 T_int y.1 (nI (ord.drop k)), mapR m (mI f)])
          ⟨rfl, ord, f, hlt, hu, B, C, fun i hi => by simp at hi, o2⟩ ?_
        clear o2 o B C hu hlt hkl hlen hlt0
        clear ord f
        rintro j ⟨y, z, ⟨⟩⟩ h1 Z2 hj ⟨hz, ord, f, hlt, hu, B, C, D, o⟩ hZ2
        dsimp only at hz o hZ2 ⊢
        subst hz
        have hlen := B.len
        unfold sh_tight_Walk_L3
        simp only [pBin_lss, ifV_dec]
        refine ⟨fun hj1 => ?_, fun hj1 => ?_⟩
        · have hj1 : j < (g.out u).length := by omega
          refine (o.vw 0 rfl).at1 (e := fun x : Nat => I x) (fun _ => rfl) hj1 ?_
          have hi := hou _ (List.getElem_mem hj1)
          have htk : (g.out u).take (j + 1) = (g.out u).take j ++ [(g.out u)[j]] := List.take_succ_eq_append_getElem hj1
          generalize (g.out u)[j] = i at hi htk
          obtain ⟨hi, hif⟩ := hi
          refine arc_ok (H.more o.ext) hi fun h2 x2 => ?_
          have o2 := o.more x2
          simp only [pExt0, pExt1]
          have he := hR.ends _ (List.getElem_mem hi)
          rw [show g.arcs[i] = arcAt g.arcs i by simp [arcAt, hi]] at he ⊢
          refine o2.box fun a14 h3 o3 => o3.st 0 rfl rfl rfl rfl rfl (encA_plain _) fun h4 o4 => ?_
          simp only [pField_ptr]
          refine o4.load 0 rfl rfl (o4.look 3 rfl ?_)
          have fin : ∀ (ord' : List Nat) (f' : Int → Option Int) (y' : Value) (h' : Heap), k < ord'.length → ord'[k]? = some u → BFS g.arcs g.n (fun i => ts.getD i false) s ord' f' → BFS.Closed g.arcs (fun i => ts.getD i false) ord' k →
              (∀ i ∈ (g.out u).take j, ts.getD i false = true → (arcAt g.arcs i).t ∈ ord') → (ts.getD i false = true → (arcAt g.arcs i).t ∈ ord') →
              Own h h' [cellR a14 (encA (arcAt g.arcs i)) T_api_Arc, slR encN 1 T_int v' (g.out u), quR encI 1 T_int y' (nI (ord'.drop k)), mapR m (mI f')] → sh_tight_Walk_k4 Tryz.prog (I j) (fun a0 a1 hz => Z2 (a0, (a1, ())) hz) y' h' := by
            intro ord' f' y' h' hlt' hu' B' C' D' E' o'
            unfold sh_tight_Walk_k4
            rw [pBin_add, wI j (by omega)]
            refine hZ2 (y', I (j + 1 : Nat), ()) h' hj1 ⟨rfl, ord', f', hlt', hu', B', C', fun i' hi' hm => ?_, o'.tail⟩
            rw [htk] at hi'
            rcases List.mem_append.1 hi' with hi' | hi'
            · exact D' i' hi' hm
            · simp at hi'; subst hi'; exact E' hm
          simp only [if_true, pExt0, pExt1]
          have hso : (mI f ((arcAt g.arcs i).t : Int)).isSome = (f ((arcAt g.arcs i).t : Int)).isSome := by simp [mI]
          rw [hso]
          cases hf : f ((arcAt g.arcs i).t : Int) with
          | some q =>
            rw [Option.isSome_some, ifV_true]
            exact fin ord f y h4 hlt hu B C D (fun _ => B.mem.2 (by rw [hf]; rfl)) o4
          | none =>
            rw [Option.isSome_none, ifV_false]
            refine (ht.more o4.ext).len ?_
            simp only [pBin_geq, ifV_dec]
            refine ⟨fun hge => ?_, fun hlt2 => ?_⟩
            · exact fin ord f y h4 hlt hu B C D (fun hm => by rw [List.getD_eq_getElem?_getD, List.getElem?_eq_none (by omega)] at hm; cases hm) o4
            · have hit : i < ts.length := by omega
              refine (ht.more o4.ext).at1 (e := fun x : Bool => .bool x) (fun _ => rfl) hit ?_
              rw [pUn_not]
              have em : ts.getD i false = ts[i] := by rw [List.getD_eq_getElem?_getD, List.getElem?_eq_getElem hit]; rfl
              cases hti : ts[i] with
              | false =>
                rw [Bool.not_false, ifV_true]
                exact fin ord f y h4 hlt hu B C D (fun hm => by rw [em, hti] at hm; cases hm) o4
              | true =>
                rw [Bool.not_true, ifV_false]
                refine o4.load 0 rfl rfl ?_
                have B' := B.add (f' := fun z => if z = ((arcAt g.arcs i).t : Int) then some (i : Int) else f z) (j := k) hi (em.trans hti) (by rw [hif]; exact hu) he.2.1 hf fun _ => rfl
                refine o4.mapPut (f' := mI fun z => if z = ((arcAt g.arcs i).t : Int) then some (i : Int) else f z) 3 rfl (fun z => mI_set z) fun h5 o5 => ?_
                refine o5.load 0 rfl rfl ?_
                refine o5.qapp1 2 ((arcAt g.arcs i).t : Int) rfl rfl (sizesOk_of rfl) encI_len encI_plain rfl (by omega) (by simp [nI]; omega) fun y' h6 o6 => ?_
                have e1 : nI (ord.drop k) ++ [((arcAt g.arcs i).t : Int)] = nI ((ord ++ [(arcAt g.arcs i).t]).drop k) := by
                  rw [List.drop_append_of_le_length (by omega)]; simp [nI]
                rw [e1] at o6
                refine fin _ _ y' h6 (by simp; omega) (by rw [List.getElem?_append_left hlt]; exact hu) B' (fun j u i hj hu hi hm hf => ?_) (fun i hi hm => List.mem_append_left _ (D i hi hm)) (fun _ => by simp) o6
                exact List.mem_append_left _ (C j u i hj (by rw [List.getElem?_append_left (by omega)] at hu; exact hu) hi hm hf)
        · have : j = (g.out u).length := by omega
          subst this
          rw [List.take_length] at D
          rw [dropGet hu] at o
          refine o.qtail encI_len 1 rfl rfl fun v3 o3 => ?_
          refine hZ (v3, ()) h1 (by omega) ⟨ord, f, hlt, B, fun j u' i hj hu' hi hm hf => ?_, o3.tail⟩
          by_cases e : j < k
          · exact C j u' i e hu' hi hm hf
          · have : j = k := by omega
            subst this
            rw [hu] at hu'
            obtain rfl := Option.some.inj hu'
            exact D i (by rw [← hf]; exact (out_spec hR).2 i hi) hm
      · have hkl' : k = ord.length := by omega
        subst hkl'
        have hall := B.all C (v := b)
        refine o.look 1 rfl ?_
        simp only [if_true, pExt0, pExt1]
        rw [show (mI f (b : Int)).isSome = (f (b : Int)).isSome by simp [mI]]
        have o1 := (o.sel [1] (by decide)).nilS (enc := encI) (n := 1) (T := T_int)
        by_cases hbo : b ∈ ord
        · obtain ⟨j0, hj0⟩ := List.getElem?_of_mem hbo
          have hj0l := (List.getElem?_eq_some_iff.1 hj0).1
          rw [B.mem.1 hbo]
          refine LoopH_down (fun k x h' => ∃ (v : Nat) (acc : List Nat), ord[k]? = some v ∧ x.2.1 = ((mI f (v : Int)).getD (I 0)) ∧ Trail g.arcs v acc.reverse b ∧ (∀ i ∈ acc, ts.getD i false = true) ∧ acc.length + k ≤ j0 ∧ (s = b → acc = []) ∧
            Own h h' [slR encI 1 T_int x.1 (nI acc), mapR m (mI f)]) (k0 := j0) ⟨b, [], hj0, rfl, rfl, fun _ h => (by cases h), by simp, fun _ => rfl, o1⟩ ?_
          clear o o1
          rintro k ⟨x, y, ⟨⟩⟩ h2 Z2 ⟨v, acc, hv, hy, tr, mk, hle, own, o⟩ hZ2
          dsimp only at hy o hZ2 ⊢
          subst hy
          unfold sh_tight_Walk_L5
          rw [ifV_true]
          by_cases hk0 : k = 0
          · subst hk0
            rw [B.hd] at hv
            obtain rfl := Option.some.inj hv
            have : (mI f (s : Int)).getD (I 0) = I (-1) := by simp [mI, B.fs]
            rw [this, pBin_geq, decide_eq_false (by omega), ifV_false]
            unfold sh_tight_Walk_k6
            refine reverse_ok o 0 rfl (by simp [nI]; omega) fun h3 o3 => ?_
            refine hK true acc.reverse x h3 ⟨⟨fun _ => ⟨hs, hb, ?_⟩, fun _ => rfl⟩, fun _ => tr, fun i hi => mk i (List.mem_reverse.1 hi), fun h => (by cases h), fun e => ?_, by simp; omega⟩ ?_
            · exact hall.1 hbo
            · rw [own (by omega)]; rfl
            · have e : List.set [slR encI 1 T_int x (nI acc), mapR m (mI f)] 0 (slR encI 1 T_int x (nI acc).reverse) = [slR encI 1 T_int x (nI acc.reverse), mapR m (mI f)] := by rw [nI_rev]; rfl
              rw [e] at o3
              exact o3.sel [0] (by decide)
          · obtain ⟨i, f1, f2, f3, f4, j', f5, f6⟩ := B.fv k v hv (by omega)
            have : (mI f (v : Int)).getD (I 0) = I i := by simp [mI, f1]
            rw [this, pBin_geq, decide_eq_true (by omega), ifV_true]
            refine o.app1 0 (i : Int) rfl rfl (sizesOk_of rfl) encI_len encI_plain rfl (by omega) (by simp [nI]; omega) fun x' h3 o3 => ?_
            refine arc_ok (H.more o3.ext) f2 fun h4 x4 => ?_
            have o4 := o3.more x4
            simp only [pExt0, pExt1]
            rw [show g.arcs[i] = arcAt g.arcs i by simp [arcAt, f2]]
            refine o4.box fun a19 h5 o5 => o5.st 0 rfl rfl rfl rfl rfl (encA_plain _) fun h6 o6 => ?_
            simp only [pField_ptr]
            refine o6.load 0 rfl rfl (o6.look 2 rfl ?_)
            refine hZ2 (x', _, ()) h6 j' f5 ⟨(arcAt g.arcs i).f, acc ++ [i], f6, rfl, ?_, ?_, by simp; omega, fun e => ?_, ?_⟩
            · rw [List.reverse_append]
              exact ⟨f2, rfl, by rw [f4]; exact tr⟩
            · intro i' hi'
              rcases List.mem_append.1 hi' with hi' | hi'
              · exact mk i' hi'
              · simp at hi'; subst hi'; exact f3
            · exfalso
              have := own e
              subst this
              cases tr
              rw [← e, B.fs] at f1
              have := Option.some.inj f1
              omega
            · have e : nI acc ++ [(i : Int)] = nI (acc ++ [i]) := by simp [nI]
              have o7 := o6.tail
              simp only [List.set_cons_zero, e] at o7
              exact o7
        · have hno : (f (b : Int)).isSome = false := by
            rw [← Bool.not_eq_true]; exact fun e => hbo (B.mem.2 e)
          rw [hno]
          refine LoopH_count 0 (fun _ x h' => x.1 = .slice none 0 0 ∧ h' = h1) ⟨rfl, rfl⟩ ?_
          rintro _ ⟨x, y, ⟨⟩⟩ h2 Z2 _ ⟨hx, rfl⟩ hZ2
          dsimp only at hx hZ2 ⊢
          subst hx
          unfold sh_tight_Walk_L5
          rw [ifV_false]
          unfold sh_tight_Walk_k6
          refine reverse_ok o1 0 rfl (by simp) fun h3 o3 => ?_
          refine hK false [] _ h3 ⟨⟨fun h => (by cases h), fun ⟨_, _, hc⟩ => absurd (hall.2 hc) hbo⟩, fun h => (by cases h), fun _ h => (by cases h), fun _ => rfl, fun _ => rfl, by decide⟩ (o3.sel [0] (by decide))
    · have hcf : (decide (0 ≤ b) && decide (b < (g.n : Int))) = false := by
        rw [Bool.and_eq_false_imp]; intro h1; exact decide_eq_false fun h2 => hb ⟨of_decide_eq_true h1, h2⟩
      rw [hcf, pUn_not, Bool.not_false, ifV_true]
      unfold sh_tight_Walk_k1
      exact hK false [] _ h ⟨⟨fun h => (by cases h), fun ⟨_, hc, _⟩ => absurd hc hb⟩, fun h => (by cases h), fun _ h => (by cases h), fun _ => rfl, fun _ => rfl, by decide⟩ (Own.start h).nilS
  · have hcf : (decide (0 ≤ s) && decide (s < (g.n : Int))) = false := by
      rw [Bool.and_eq_false_imp]; intro h1; exact decide_eq_false fun h2 => hs ⟨of_decide_eq_true h1, h2⟩
    rw [hcf, pUn_not, Bool.not_false, ifV_true]
    unfold sh_tight_Walk_k1
    exact hK false [] _ h ⟨⟨fun h => (by cases h), fun ⟨hc, _⟩ => absurd hc hs⟩, fun h => (by cases h), fun _ h => (by cases h), fun _ => rfl, fun _ => rfl, by decide⟩ (Own.start h).nilS

end
end Go.Proofs.YtlkcpceobicoiaaGreatDoor

namespace Go.Proofs.YtlkcpceobicoiaaGreatDoor
open Go Go.Mh
set_option linter.unusedVariables false

section
variable {h0 h : Heap} {L : List Res} {K : Value → Heap → Prop} {g : G} {r : Nat} {N : Res} {v : Value}

def gK24 : G := ⟨3, [0, 0, 0], [0, 0, 0], [⟨0, 1, 0⟩, ⟨1, 0, 0⟩, ⟨1, 2, 2147483647⟩, ⟨0, 2, 2147483647⟩]⟩
theorem gK24_right : gK24.Right := by
  refine ⟨by decide, by decide, rfl, rfl, by decide, by decide, by decide, by decide⟩

def ts4 : List Bool := [true, true, true, true]
theorem kw02 {c arcs} (W : WalkTold gK24 ts4 0 2 c arcs) : c = true ∧ 0 < arcs.length := by
  have hc : c = true := W.is.2 ⟨by decide, by decide, .step (i := 3) .here (by decide) rfl rfl⟩
  refine ⟨hc, ?_⟩
  cases arcs with
  | nil => exact absurd (show (0 : Nat) = 2 from W.tr hc) (by decide)
  | cons => simp
theorem kw22 {c arcs} (W : WalkTold gK24 ts4 2 2 c arcs) : c = true ∧ arcs.length = 0 := by
  have hc : c = true := W.is.2 ⟨by decide, by decide, .here⟩
  exact ⟨hc, by rw [W.own rfl]; rfl⟩
theorem kw20 {c arcs} (W : WalkTold gK24 ts4 2 0 c arcs) : c = false := by
  rw [← Bool.not_eq_true]
  intro hc
  have h := (W.is.1 hc).2.2
  have key : ∀ v, Rch gK24.arcs (fun i => ts4.getD i false) 2 v → v = 2 := by
    intro v h
    induction h with
    | here => rfl
    | @step u i _ hi _ hf ih =>
      subst ih
      have hi : i < 4 := hi
      match i, hi, hf with
      | 0, _, hf => cases hf
      | 1, _, hf => cases hf
      | 2, _, hf => cases hf
      | 3, _, hf => cases hf
  exact absurd (key _ h) (by decide)
theorem kwfew {c arcs} (W : WalkTold gK24 [true, true] 0 2 c arcs) : c = false := by
  rw [← Bool.not_eq_true]
  intro hc
  have h := (W.is.1 hc).2.2
  have key : ∀ v, Rch gK24.arcs (fun i => [true, true].getD i false) 0 v → v < 2 := by
    intro v h
    induction h with
    | here => decide
    | @step u i _ hi hm hf ih =>
      have hi : i < 4 := hi
      match i, hi, hm with
      | 0, _, _ => decide
      | 1, _, _ => decide
      | 2, _, hm => cases hm
      | 3, _, hm => cases hm
  exact absurd (key _ h) (by decide)

theorem twalkN_ok {vt : Value} {s b : Int} (hK : K (.tuple #[.slice none 0 0, .bool false]) h) : callS Tryz.prog F_tight_Walk [.pointer none, vt, I s, I b] h K := by
  refine callS_of (lk_tight_Walk _ _ _ _ ?_)
  unfold sh_tight_Walk
  refine callS_of (lk_tight_there _ _ ?_)
  unfold sh_tight_there
  have pe : ∀ {K : Value → Prop}, K (.bool false) → pEq true .ptr (.pointer none) (.pointer none) K := fun hk => by simpa [pEq] using hk
  refine pe ?_
  rw [ifV_false]
  show pUn .not (.bool false) _
  rw [pUn_not, Bool.not_false, ifV_true]
  exact hK

theorem tanyN_ok {vn : Value} (hK : K (.slice none 0 0) h) : callS Tryz.prog F_tight_Any [.pointer none, vn] h K := by
  refine callS_of (lk_tight_Any _ _ ?_)
  unfold sh_tight_Any
  simp only [pEq_ptr_nil, Option.isNone_none, ifV_true]
  exact hK

theorem tarcsN_ok {b : Int} (hK : ∀ h', Ext h h' → K (.slice none 0 0) h') : callS Tryz.prog F_tight_Arcs [.pointer none, I b] h K := by
  refine callS_of (lk_tight_Arcs _ _ ?_)
  unfold sh_tight_Arcs
  refine (Own.start h).build (enc := encI) (n := 1) [b] rfl (sizesOk_of rfl) rfl fun w h1 o1 => tanyN_ok (hK h1 o1.ext)

theorem tk2 (o : Own h0 h L) (p : Nat) (hp : L[p]? = some N) (hN : netR N r gK24) (hK : ∀ w h', Own h0 h' (slR encT 1 T_bool w [true, true, true, true] :: L) → K w h') : callS Tryz.prog F_tight_Arcs [ptr r, I 2] h K :=
  tarcs_ok o p hp gK24_right hN fun w h' o' => hK w h' (by
    rw [show gK24.arcs.map (tgtI gK24 2) = [true, true, true, true] by kernel_rfl] at o'; exact o')
theorem tk0 (o : Own h0 h L) (p : Nat) (hp : L[p]? = some N) (hN : netR N r gK24) (hK : ∀ w h', Own h0 h' (slR encT 1 T_bool w [true, true, false, false] :: L) → K w h') : callS Tryz.prog F_tight_Arcs [ptr r, I 0] h K :=
  tarcs_ok o p hp gK24_right hN fun w h' o' => hK w h' (by
    rw [show gK24.arcs.map (tgtI gK24 0) = [true, true, false, false] by kernel_rfl] at o'; exact o')
theorem tk9 (o : Own h0 h L) (p : Nat) (hp : L[p]? = some N) (hN : netR N r gK24) (hK : ∀ w h', Own h0 h' (slR encT 1 T_bool w [false, false, false, false] :: L) → K w h') : callS Tryz.prog F_tight_Arcs [ptr r, I 9] h K :=
  tarcs_ok o p hp gK24_right hN fun w h' o' => hK w h' (by
    rw [show gK24.arcs.map (tgtI gK24 9) = [false, false, false, false] by kernel_rfl] at o'; exact o')
theorem tkn (o : Own h0 h L) (p : Nat) (hp : L[p]? = some N) (hN : netR N r gK24) (hK : ∀ w h', Own h0 h' (slR encT 1 T_bool w [false, false, false, false] :: L) → K w h') : callS Tryz.prog F_tight_Any [ptr r, .slice none 0 0] h K :=
  tany_ok o p hp gK24_right hN .nil (by decide) fun w h' o' => hK w h' (by
    rw [show gK24.arcs.map (tgtAny gK24 []) = [false, false, false, false] by kernel_rfl] at o'; exact o')

theorem lenN {K : Value → Prop} (hk : pBin .eql (I 0) (I 0) K) : pLen (.slice none 0 0) fun t => pBin .eql t (I 0) K := hk
theorem eq00 {K : Value → Prop} (hk : K (.bool true)) : pBin .eql (I 0) (I 0) K := by rw [pBin_eql]; exact hk

set_option maxHeartbeats 4000000 in
set_option maxRecDepth 100000 in
theorem tightKnown_ok (hK : ∀ h', Ext h h' → K (.bool true) h') : CallsH Tryz.prog F_milestonelaw24_TightKnown #[] h K := by
  refine lk_milestonelaw24_TightKnown ?_
  unfold sh_milestonelaw24_TightKnown
  refine (Own.start h).build (enc := encI) (n := 1) [0, 0, 0] rfl (sizesOk_of rfl) rfl fun w4 h1 o1 => ?_
  refine ⟨sizesOk_of rfl, sizesOk_of rfl, sizesOk_of rfl, sizesOk_of rfl, ?_⟩
  refine o1.build (enc := encA) (n := 3) gK24.arcs (by kernel_rfl) (sizesOk_of rfl) rfl fun wa h2 o2 => ?_
  refine pBuild_ones (cs' := [I gK24.n, w4, w4, wa]) ?_ rfl rfl ?_
  · intro p hp
    simp at hp
    rcases hp with rfl | rfl | rfl | rfl
    · rfl
    · exact (o2.vw 1 rfl).one
    · exact (o2.vw 1 rfl).one
    · exact (o2.vw 0 rfl).one
  refine made24_ok o2 gK24_right ⟨w4, w4, wa, rfl, o2.vw 1 rfl, o2.vw 1 rfl, o2.vw 0 rfl⟩ fun r N h3 hN o3 => ?_
  simp only [pEq_ptr_nil, Option.isNone_some, ifV_false]
  have o4 := o3.sel [0] (by decide)
  refine o4.build (enc := encT) (n := 1) [true, true, true, true] rfl (sizesOk_of rfl) rfl fun w2 h4 o => ?_
  clear o1 o2 o3 o4
  refine twalk_ok gK24_right (hN _ (o.get 1 rfl)) (o.vw 0 rfl) (by decide) fun c1 a1 w1 h5 W1 o5 => ?_
  obtain ⟨rfl, l1⟩ := kw02 W1
  replace o5 := o.frame o5
  simp only [pExt0, pExt1]
  refine twalk_ok gK24_right (hN _ (o5.get 2 rfl)) (o5.vw 1 rfl) (by decide) fun c3 a3 w3 h6 W3 o6 => ?_
  obtain ⟨rfl, l3⟩ := kw22 W3
  replace o6 := o5.frame o6
  simp only [pExt0, pExt1]
  refine twalk_ok gK24_right (hN _ (o6.get 3 rfl)) (o6.vw 2 rfl) (by decide) fun c4 a4 w4 h7 W4 o7 => ?_
  obtain rfl := kw20 W4
  replace o7 := o6.frame o7
  simp only [pExt0, pExt1]
  refine twalkN_ok ?_
  simp only [pExt0, pExt1]
  refine (o7.vw 3 rfl).sub (a := 0) (j := 2) (fun _ => rfl) rfl rfl (by decide) (by decide) fun v5 hv5 => ?_
  refine twalk_ok gK24_right (hN _ (o7.get 4 rfl)) hv5 (by decide) fun c5 a5 w5 h8 W5 o8 => ?_
  obtain rfl := kwfew W5
  replace o8 := (o7.frame o8).sel [5, 4, 2, 3] (by decide)
  simp only [pExt0, pExt1]
  have L1 : (nI a1).length = a1.length := by simp [nI]
  have L3 : (nI a3).length = a3.length := by simp [nI]
  clear o o5 o6 o7
  refine cutP_of (fun y h' => y.1 = .bool true ∧ Ext h h') (fun J hJ => ?_) ?_
  · refine works24_ok fun h9 x9 => ?_
    have o := o8.more x9
    clear o8
    rw [ifV_true]
    refine tk2 o 0 rfl hN fun w hh o => ?_
    refine truths_ok (o.vw 0 rfl) (o.vw 2 rfl) (by decide) ?_
    rw [ifV_true]
    replace o := o.sel [1, 2, 3, 4] (by decide)
    have fin : ∀ {hh : Heap}, Own h hh [N, slR encT 1 T_bool w2 [true, true, true, true], slR encI 1 T_int w3 (nI a3), slR encI 1 T_int w1 (nI a1)] → ifV (.bool true) (pLen w1 fun t97 =>
        pBin .gtr t97 (.int .i64 0) fun t98 => ifV t98 (ifV (.bool true) (pLen w3 fun t105 => pBin .eql t105 (.int .i64 0) fun t106 => ifV t106 (pUn .not (.bool false) fun t110 => ifV t110 (pUn .not (.bool false) fun t114 => ifV t114 (pUn .not (.bool false) fun t118 =>
        J (t118, ()) hh) (J ((.bool false), ()) hh)) (J ((.bool false), ()) hh)) (J ((.bool false), ()) hh)) (J ((.bool false), ()) hh)) (J ((.bool false), ()) hh)) (J ((.bool false), ()) hh) := by
      intro hh o
      rw [ifV_true]
      refine (o.vw 3 rfl).len ?_
      rw [L1, pBin_gtr, decide_eq_true (by omega), ifV_true, ifV_true]
      refine (o.vw 2 rfl).len ?_
      rw [L3, l3, pBin_eql]
      show ifV (.bool true) _ _
      rw [ifV_true, pUn_not, Bool.not_false, ifV_true, pUn_not, Bool.not_false, ifV_true, pUn_not, Bool.not_false]
      exact hJ _ _ ⟨rfl, o.ext⟩
    refine ⟨tk0 o 0 rfl hN fun w hh o => o.build (enc := encT) (n := 1) [true, true, false, false] rfl (sizesOk_of rfl) rfl fun w hh o => truths_ok (o.vw 1 rfl) (o.vw 0 rfl) (by decide) ?_,
      o.build (enc := encT) (n := 1) [true, true, false, false] rfl (sizesOk_of rfl) rfl fun w hh o => tk0 o 1 rfl hN fun w hh o => truths_ok (o.vw 0 rfl) (o.vw 1 rfl) (by decide) ?_⟩
    all_goals (rw [ifV_true]; replace o := o.sel [2, 3, 4, 5] (by decide))
    all_goals refine ⟨tk9 o 0 rfl hN fun w hh o => o.make (enc := encT) (n := 1) (a := false) (m := 4) rfl (by decide) (by decide) fun w hh o => truths_ok (o.vw 1 rfl) (o.vw 0 rfl) (by decide) ?_,
      o.make (enc := encT) (n := 1) (a := false) (m := 4) rfl (by decide) (by decide) fun w hh o => tk9 o 1 rfl hN fun w hh o => truths_ok (o.vw 0 rfl) (o.vw 1 rfl) (by decide) ?_⟩
    all_goals (rw [ifV_true]; replace o := o.sel [2, 3, 4, 5] (by decide))
    all_goals (refine tarcsN_ok fun hh xx => ?_; replace o := o.more xx; refine lenN (eq00 ?_); rw [ifV_true])
    all_goals (refine tanyN_ok (lenN (eq00 ?_)); rw [ifV_true])
    all_goals refine ⟨tkn o 0 rfl hN fun w hh o => o.make (enc := encT) (n := 1) (a := false) (m := 4) rfl (by decide) (by decide) fun w hh o => truths_ok (o.vw 1 rfl) (o.vw 0 rfl) (by decide) ?_,
      o.make (enc := encT) (n := 1) (a := false) (m := 4) rfl (by decide) (by decide) fun w hh o => tkn o 1 rfl hN fun w hh o => truths_ok (o.vw 0 rfl) (o.vw 1 rfl) (by decide) ?_⟩
    all_goals (rw [ifV_true]; exact fin (o.sel [2, 3, 4, 5] (by decide)))
  · rintro ⟨y, ⟨⟩⟩ h'' ⟨hy, x⟩
    dsimp only at hy ⊢
    subst hy
    unfold sh_milestonelaw24_TightKnown_C1
    exact hK _ x

end
end Go.Proofs.YtlkcpceobicoiaaGreatDoor
