/- Texts of the proofs of seat YtoopkllfpmjnfaaGreatDoor, joined: HpG, HpH, HpI, HoA, FlA, FlB, FlC, FlD, AvA, AvB, WkA, AvC, AvD, AvE, AvF, AvG, FaA, FaB, FaC, FaD, AvH, AvI. They have no conditions of their own. -/
import Derived.Test.YtoopkllfpmjnfaaGreatDoorTa
import Derived.Test.YtoopkllfpmjnfaaGreatDoorMc
import Derived.Test.YtoopkllfpmjnfaaGreatDoorMd
import Derived.Test.YtoopkllfpmjnfaaGreatDoorMe
set_option linter.unusedVariables false
set_option linter.unusedSimpArgs false

namespace Go.Proofs.YtoopkllfpmjnfaaGreatDoor
open Go Go.Mh

theorem gt_set {l : List HE} {i j : Nat} {a : HE} (hi : i < l.length) : gt (l.set i a) j = if j = i then a else gt l j := by
  by_cases e : j = i
  · subst e; simp [gt, hi]
  · by_cases hj : j < l.length
    · simp [gt, hj, e, List.getElem_set, show ¬ i = j from fun h => e h.symm]
    · simp [gt, hj, e]

theorem ids_set {l : List HE} {i : Nat} {k : Int} (hi : i < l.length) : (l.set i (l[i].1, k)).map (·.1) = l.map (·.1) := by
  apply List.ext_getElem
  · simp
  · intro j h1 h2
    simp only [List.getElem_map, List.getElem_set]
    split
    · rename_i e; subst e; rfl
    · rfl

theorem pos_ids {l l' : List HE} (h : l.map (·.1) = l'.map (·.1)) (x : Int) : pos l x = pos l' x := by
  have key : ∀ l : List HE, pos l x = ((l.map (·.1)).findIdx? (· == x)).map fun i => I i := by
    intro l; unfold pos; rw [List.findIdx?_map]; rfl
  rw [key, key, h]

theorem set_perm {l : List HE} {i : Nat} {a : HE} (hi : i < l.length) : (l.set i a).Perm (a :: l.erase l[i]) := by
  rw [List.perm_iff_count]
  intro x
  rw [List.count_set hi, List.count_cons, List.count_erase]

theorem lower_ok {h : Heap} {F : Nat → Prop} {r : Nat} {l : List HE} {n id key : Int} {K : Value → Heap → Prop} (H : HV h F r l n)
    (h2 : (id < 0 ∨ n ≤ id) → K (I 2) h)
    (h20 : 0 ≤ id → id < n → (∀ p ∈ l, p.1 ≠ id) → K (I 20) h)
    (h2' : ∀ p ∈ l, p.1 = id → p.2 < key → K (I 2) h)
    (h0 : ∀ p ∈ l, p.1 = id → ¬ p.2 < key → ∀ h' F' l', HV h' F' r l' n → l'.Perm ((id, key) :: l.erase p) → Grow h F F' → Upd F h h' → K (I 0) h') :
    callS Tryz.prog F_heap_Heap_Lower [ptr r, I id, I key] h K := by
  refine callS_of (lk_heap_Heap_Lower _ _ _ ?_)
  unfold sh_heap_Heap_Lower
  obtain ⟨⟨m, bl, R, ho, f1, f2, f3⟩, hlow, hrg⟩ := H
  obtain ⟨v, hr, hs⟩ := R.slr
  obtain ⟨es, c, hm, him⟩ := R.map
  have c0 := hcell0 hr
  have c1 := hcell1 hr
  have c2 := hcell2 hr
  simp only [pEq_ptr_nil, Option.isNone_some, ifV_false, pNil_ptr, pField_ptr, pLoad_ptr, c0, c1, c2, Nat.zero_add]
  refine look_of hm him ?_
  rcases pos_cases l id with ⟨i, hi, rfl⟩ | hno
  · have hrg' := hrg _ (List.getElem_mem hi)
    simp only [pos_get R.ids hi, if_true, Option.getD_some, Option.isSome_some]
    simp only [pExt_tuple]
    show pBin .lss _ _ _
    simp only [pBin_lss, pBin_geq, ifV_dec]
    refine ⟨fun hlt => by omega, fun _ => ⟨fun hge => by omega, fun _ => ?_⟩⟩
    show pUn .not (.bool true) _
    simp only [pUn_not, Bool.not_true, ifV_false]
    refine hs.idx hi ?_
    have ck := hs.slot encH_len hi (j := 1) (by omega)
    have ck' : hcell h ⟨bl, i * 2 + 1, none⟩ = some (I l[i].2) := ck
    simp only [pField_ptr, pLoad_ptr, ck']
    simp only [pBin_lss, ifV_dec]
    refine ⟨fun hk => h2' _ (List.getElem_mem hi) rfl hk, fun hk => ?_⟩
    refine hs.idx hi ?_
    obtain ⟨cap, rest, rfl, hb, hrest, hcap⟩ := hs.full (by omega)
    have hlen := row_length encH_len l
    simp only [pField_ptr]
    refine pStore_of rfl hb rfl (by simp [hlen]; omega) (by simp) ?_
    have eo : over (Mh.row encH l ++ rest) (i * 2 + 1) (I key).cells.toList = Mh.row encH (l.set i (l[i].1, key)) ++ rest := by
      have o := row_over encH_len hi (l[i].1, key) rest
      rw [← o]
      have hsl := row_slot encH_len hi rest
      have hd : (Mh.row encH l ++ rest).drop (i * 2) = I l[i].1 :: (Mh.row encH l ++ rest).drop (i * 2 + 1) := by
        have hg := row_get encH_len hi (j := 0) (by omega) rest
        have hlt' : i * 2 < (Mh.row encH l ++ rest).length := by simp [hlen]; omega
        rw [List.drop_eq_getElem_cons hlt']
        congr 1
        rw [Nat.add_zero, List.getElem?_eq_getElem hlt'] at hg
        simpa [encH] using hg
      have ht : (Mh.row encH l ++ rest).take (i * 2 + 1) = (Mh.row encH l ++ rest).take (i * 2) ++ [I l[i].1] := by
        have hlt' : i * 2 < (Mh.row encH l ++ rest).length := by simp [hlen]; omega
        rw [List.take_succ_eq_append_getElem hlt']
        congr 2
        have hg := row_get encH_len hi (j := 0) (by omega) rest
        rw [Nat.add_zero, List.getElem?_eq_getElem hlt'] at hg
        simpa [encH] using hg
      unfold over
      rw [ht]
      simp [encH]
    rw [eo]
    obtain ⟨hne1, hne2, hne3⟩ := R.r_ne (by omega)
    have hb1 : (upd h bl (.cells (Mh.row encH (l.set i (l[i].1, key)) ++ rest).toArray tHeld (0, 0)))[bl]? = _ := upd_self' hb
    have hr1 := (upd_ne (o := .cells (Mh.row encH (l.set i (l[i].1, key)) ++ rest).toArray tHeld (0, 0)) hne1.symm).trans hr
    have hm1 := (upd_ne (o := .cells (Mh.row encH (l.set i (l[i].1, key)) ++ rest).toArray tHeld (0, 0)) hne3).trans hm
    have u1 : Upd F h (upd h bl (.cells (Mh.row encH (l.set i (l[i].1, key)) ++ rest).toArray tHeld (0, 0))) := Upd.upd _ _ f3
    generalize upd h bl (.cells (Mh.row encH (l.set i (l[i].1, key)) ++ rest).toArray tHeld (0, 0)) = h1 at hb1 hr1 hm1 u1
    have hl1 : (l.set i (l[i].1, key)).length = l.length := List.length_set
    have R1 : Rep h1 r m bl (l.set i (l[i].1, key)) n := Rep.of hr1 (.inr ⟨cap, rest, by rw [hl1], hb1, by rw [hl1]; exact hrest, by rw [hl1]; exact hcap⟩) hm1
      (him.congr (pos_ids (ids_set hi).symm)) (by rw [ids_set hi]; exact R.ids) (by rw [hl1]; exact R.small)
    have hnew : ¬ hlt l[i] (l[i].1, key) = true := by rw [hlt_iff]; simp only; omega
    refine up_ok R1 (i := i) (by rw [hl1]; exact hi) ?_ fun h5 l5 R5 hp5 ho5 u5 => ?_
    · refine ⟨fun j j0 j1 j2 => ?_, fun i0 j j0 j1 j2 => ?_⟩
      · rw [hl1] at j1
        rw [gt_set hi, gt_set hi, if_neg j2]
        have := ho j j0 j1
        split
        · rename_i e; rw [e, ← gt_eq hi] at this; exact hlt_trans this hnew
        · exact this
      · rw [hl1] at j1
        rw [gt_set hi, gt_set hi, if_neg (by omega), if_neg (by omega)]
        have a := ho j j0 j1
        have b := ho i i0 hi
        rw [j2] at a
        exact hlt_trans a b
    · refine h0 _ (List.getElem_mem hi) rfl hk h5 F l5 ⟨⟨m, bl, R5, ho5, f1, f2, f3⟩, ?_, ?_⟩ ?_ (fun b hb => .inl hb) ?_
      · exact fun b hb => Nat.lt_of_lt_of_le (hlow b hb) (Nat.le_trans u1.size u5.size)
      · intro p hp
        have := hp5.mem_iff.1 hp
        have hm' : p.1 ∈ (l.set i (l[i].1, key)).map (·.1) := List.mem_map.2 ⟨p, this, rfl⟩
        rw [ids_set hi] at hm'
        obtain ⟨q, hq, hqe⟩ := List.mem_map.1 hm'
        rw [← hqe]; exact hrg q hq
      · exact hp5.trans (set_perm hi)
      · exact u1.trans u5 fun b hb hlt => by rcases hb with rfl | rfl; exact f2; exact f3
  · simp only [pos_none hno, if_true, Option.getD_none, Option.isSome_none, pExt_tuple]
    show pBin .lss _ _ _
    simp only [pBin_lss, pBin_geq, ifV_dec]
    refine ⟨fun hlt => h2 (.inl hlt), fun hlt => ⟨fun hge => h2 (.inr hge), fun hge => ?_⟩⟩
    show pUn .not (.bool false) _
    simp only [pUn_not, Bool.not_false, ifV_true]
    exact h20 (by omega) (by omega) hno

end Go.Proofs.YtoopkllfpmjnfaaGreatDoor

namespace Go.Proofs.YtoopkllfpmjnfaaGreatDoor
open Go Go.Mh

theorem swapL_last {l : List HE} (hl : 0 < l.length) : swapL l 0 (l.length - 1) hl (by omega) = (swapL l 0 (l.length - 1) hl (by omega)).take (l.length - 1) ++ [l[0]] := by
  have hlen := swapL_length (l := l) hl (show l.length - 1 < l.length by omega)
  apply List.ext_getElem
  · simp [hlen]; omega
  · intro j h1 h2
    rw [hlen] at h1
    by_cases hj : j < l.length - 1
    · rw [List.getElem_append_left (by simp [hlen]; omega)]; simp
    · have : j = l.length - 1 := by omega
      subst this
      rw [swapL_get, if_pos rfl, List.getElem_append_right (by simp [hlen])]
      simp

theorem pos_del {l2 : List HE} {p : HE} (hn : ((l2 ++ [p]).map (·.1)).Nodup) (x : Int) : fdel (pos (l2 ++ [p])) p.1 x = pos l2 x := by
  unfold fdel
  by_cases hx : x = p.1
  · subst hx
    rw [if_pos rfl]
    refine (pos_none fun q hq e => ?_).symm
    rw [List.map_append, List.nodup_append] at hn
    exact hn.2.2 q.1 (List.mem_map.2 ⟨q, hq, rfl⟩) p.1 (by simp) e
  · rw [if_neg hx]
    unfold pos
    rw [List.findIdx?_append]
    have : [p].findIdx? (fun q => q.1 == x) = none := by
      rw [List.findIdx?_eq_none_iff]; intro q hq; simp at hq; subst hq; simpa using fun e => hx e.symm
    rw [this]; simp

theorem pop_ok {h : Heap} {F : Nat → Prop} {r : Nat} {l : List HE} {n : Int} {K : Value → Heap → Prop} (H : HV h F r l n)
    (h0 : l = [] → K (.tuple #[I 0, I 0, .bool false]) h)
    (h1 : ∀ p, Min l p → ∀ h' F' l', HV h' F' r l' n → l'.Perm (l.erase p) → Grow h F F' → Upd F h h' → K (.tuple #[I p.1, I p.2, .bool true]) h') :
    callS Tryz.prog F_heap_Heap_Pop [ptr r] h K := by
  refine callS_of (lk_heap_Heap_Pop _ ?_)
  unfold sh_heap_Heap_Pop
  refine len_ok H ?_
  obtain ⟨⟨m, bl, R, ho, f1, f2, f3⟩, hlow, hrg⟩ := H
  obtain ⟨v, hr, hs⟩ := R.slr
  obtain ⟨es, c, hm, him⟩ := R.map
  have c0 := hcell0 hr
  simp only [pBin_eql, ifV_beq, pNil_ptr, pField_ptr, pLoad_ptr, c0, Nat.zero_add]
  refine ⟨fun he => h0 (List.eq_nil_of_length_eq_zero (by omega)), fun he => ?_⟩
  have hl : 0 < l.length := by omega
  refine hs.idx (i := 0) (k := .i64) hl ?_
  simp only [pLoadN_ptr, Nat.zero_mul]
  have ca : cellsAt h bl 0 2 = some [I l[0].1, I l[0].2] := by
    obtain ⟨cap, rest, rfl, hb, _, _⟩ := hs.full hl
    have hlen := row_length encH_len l
    rw [cellsAt_of (i := 0) hb 2 0 (by simp [hlen]; omega)]
    have := row_slot encH_len hl rest
    rw [Nat.zero_mul] at this
    rw [this]; rfl
  simp only [ca]
  refine hs.lenK ?_
  have e1 : IntKind.i64.wrap ((l.length : Int) - 1) = ((l.length - 1 : Nat) : Int) := by
    have := R.small
    rw [w64 (by omega) (by omega)]; omega
  rw [pBin_sub, e1]
  refine pBox_of ?_
  refine pStore_of rfl push_new rfl (by simp) (by simp [Mh.plainCell]) ?_
  have x1 : Ext h (upd (h.push (.cells (Value.agg #[.int .i64 0, .int .i64 0]).cells T_heap_held (0, 0))) h.size (.cells (over [Value.int .i64 0, Value.int .i64 0] 0 (Value.agg [I l[0].1, I l[0].2].toArray).cells.toList).toArray T_heap_held (0, 0))) :=
    ((Upd.push _ _ _).trans (Upd.upd (S := fun b => b = h.size) _ _ rfl) (fun b hb hlt => by omega))
  have hf1 : (upd (h.push (.cells (Value.agg #[.int .i64 0, .int .i64 0]).cells T_heap_held (0, 0))) h.size (.cells (over [Value.int .i64 0, Value.int .i64 0] 0 (Value.agg [I l[0].1, I l[0].2].toArray).cells.toList).toArray T_heap_held (0, 0)))[h.size]? =
    some (.cells #[I l[0].1, I l[0].2] T_heap_held (0, 0)) := upd_self' push_new
  have hsz1 := get_lt hf1
  generalize (upd (h.push (.cells (Value.agg #[.int .i64 0, .int .i64 0]).cells T_heap_held (0, 0))) h.size (.cells (over [Value.int .i64 0, Value.int .i64 0] 0 (Value.agg [I l[0].1, I l[0].2].toArray).cells.toList).toArray T_heap_held (0, 0))) = hA at x1 hf1 hsz1
  have R1 := R.upd x1 id id id
  have hrA := x1.get hr
  have cA := hcell0 hrA
  simp only [cA, true_and]
  have hrs := hlow _ f1
  have hms := hlow _ f2
  have hbs := hlow _ f3
  refine swap_ok R1 (i := 0) (k := l.length - 1) hl (by omega) fun h2 R2 u2 => ?_
  obtain ⟨S, R2, hlen, hS, hnd, hperm, hgt⟩ : ∃ S : List HE, Rep h2 r m bl S n ∧ S.length = l.length ∧ S = S.take (l.length - 1) ++ [l[0]] ∧ (S.map (·.1)).Nodup ∧ S.Perm l ∧
      (∀ j, gt S j = if j = l.length - 1 then gt l 0 else if j = 0 then gt l (l.length - 1) else gt l j) :=
    ⟨_, R2, swapL_length _ _, swapL_last hl, R2.ids, swapL_perm _ _, swapL_gt _ _⟩
  obtain ⟨v2, hr2, hs2⟩ := R2.slr
  obtain ⟨es2, c2, hm2, him2⟩ := R2.map
  have d0 := hcell0 hr2
  have hf2 := u2.get hf1 (by omega)
  simp only [d0]
  refine hs2.pre encH_len (by rw [hlen]; omega) fun v3 hs3 => ?_
  have hcs3 : v3.cells.size = 1 ∧ (∀ u ∈ v3.cells.toList, Mh.plainCell u = true) ∧ v3.cells.toList = [v3] := by
    rcases hs3.len with ⟨_, _, rfl⟩; simp
  refine pStore_of rfl hr2 hcs3.1 (by rw [hcs3.1]; simp) hcs3.2.1 ?_
  have ec : over [v2, Value.map (some m), I n] 0 v3.cells.toList = [v3, Value.map (some m), I n] := by rw [hcs3.2.2]; rfl
  rw [ec]
  have u3 : Upd (fun b => b = r) h2 (upd h2 r (.cells [v3, Value.map (some m), I n].toArray tHeap (0, 0))) := Upd.upd _ _ rfl
  have hr3 : (upd h2 r (.cells [v3, Value.map (some m), I n].toArray tHeap (0, 0)))[r]? = _ := upd_self' hr2
  obtain ⟨hne1, hne2, hne3⟩ := R2.r_ne (by omega)
  have hm3 := u3.get hm2 (fun e => hne2 e.symm)
  have hs3' := hs3.upd u3 (fun e => hne1 e.symm)
  have hf3 := u3.get hf2 (by omega)
  generalize upd h2 r (.cells [v3, Value.map (some m), I n].toArray tHeap (0, 0)) = h3 at u3 hr3 hm3 hs3' hf3
  have g1 := hcell1 hr3
  have g2 := hcell0 hf3
  simp only [g1, g2, pField_ptr, pLoad_ptr, Nat.add_zero, Nat.zero_add]
  refine delete_of hm3 him2 fun es4 him4 => ?_
  have u4 : Upd (fun b => b = m) h3 (upd h3 m (.map es4 c2)) := Upd.upd _ _ rfl
  have hr4 := u4.get hr3 hne2
  have hm4 : (upd h3 m (.map es4 c2))[m]? = _ := upd_self' hm3
  have hs4 := hs3'.upd u4 hne3
  have hf4 := u4.get hf3 (by omega)
  generalize upd h3 m (.map es4 c2) = h4 at u4 hr4 hm4 hs4 hf4
  have hl2 : (S.take (l.length - 1)).length = l.length - 1 := by simp [hlen]
  have hpS : S.Perm (l[0] :: S.take (l.length - 1)) := by
    rw [hS]
    have : ((S.take (l.length - 1)) ++ [l[0]]).take (l.length - 1) = S.take (l.length - 1) := by rw [List.take_append_of_le_length (by rw [hl2]; exact Nat.le_refl _), List.take_take, Nat.min_self]
    rw [this]
    exact List.perm_append_comm
  have R4 : Rep h4 r m bl (S.take (l.length - 1)) n := by
    refine Rep.of hr4 hs4 hm4 (him4.congr fun x => ?_) ?_ (by rw [hl2]; have := R.small; omega)
    · have := pos_del (l2 := S.take (l.length - 1)) (p := l[0]) (by rw [← hS]; exact hnd) x
      rw [← hS] at this; exact this
    · have := (hpS.map (·.1)).nodup_iff.1 hnd
      rw [List.map_cons, List.nodup_cons] at this
      exact this.2
  have gtk : ∀ j, j < l.length - 1 → gt (S.take (l.length - 1)) j = gt S j := by
    intro j hj
    rw [← gt_eq (by rw [hl2]; exact hj), ← gt_eq (by rw [hlen]; omega)]
    simp
  have hbl4 : bl < h4.size := by
    have a := x1.size; have b := u2.size; have c := u3.size; have d := u4.size; omega
  have u14 : Upd F h h4 := (((x1.mono (S' := F) fun _ hf _ => hf.elim).trans u2 fun b hb _ => by rcases hb with rfl | rfl; exact f2; exact f3).trans u3 fun b hb _ => by subst hb; exact f1).trans u4 fun b hb _ => by subst hb; exact f2
  refine down_ok R4 (i := 0) (by decide) (by rcases Nat.eq_zero_or_pos (l.length - 1) with e | e; exact .inr (List.eq_nil_of_length_eq_zero (by rw [hl2]; exact e)); exact .inl (by rw [hl2]; exact e)) hbl4 ?_ fun h5 l5 R5 hp5 ho5 u5 => ?_
  · refine ⟨fun j j0 j1 j2 => ?_, fun i0 => absurd i0 (Nat.lt_irrefl 0)⟩
    rw [hl2] at j1
    have hj4 : (j - 1) / 4 < l.length - 1 := by omega
    rw [gtk j j1, gtk _ hj4, hgt, hgt, if_neg (by omega), if_neg (by omega), if_neg (by omega), if_neg (by omega)]
    exact ho j j0 (by omega)
  · have hf5 := u5.get hf4 (by omega)
    have k0 := hcell0 hf5
    have k1 := hcell1 hf5
    simp only [k0, k1, pField_ptr, pLoad_ptr, Nat.add_zero, Nat.zero_add]
    have u15 : Upd F h h5 := u14.trans u5 fun b hb _ => by rcases hb with rfl | rfl; exact f2; exact f3
    have hpe : l5.Perm (l.erase l[0]) := by
      have := (hperm.symm.trans hpS).erase l[0]
      simp only [List.erase_cons_head] at this
      exact hp5.trans this.symm
    refine h1 l[0] (ho.min hl) h5 F l5 ⟨⟨m, bl, R5, ho5, f1, f2, f3⟩, fun b hb => Nat.lt_of_lt_of_le (hlow b hb) u15.size, fun p hp => hrg p (List.mem_of_mem_erase (hpe.mem_iff.1 hp))⟩ hpe (fun b hb => .inl hb) u15

theorem pop_nil {h : Heap} {K : Value → Heap → Prop} (hK : K (.tuple #[I 0, I 0, .bool false]) h) : callS Tryz.prog F_heap_Heap_Pop [.pointer none] h K := by
  refine callS_of (lk_heap_Heap_Pop _ ?_)
  unfold sh_heap_Heap_Pop
  refine callS_of (lk_heap_Heap_Len _ ?_)
  unfold sh_heap_Heap_Len
  simpa using hK

end Go.Proofs.YtoopkllfpmjnfaaGreatDoor

namespace Go.Proofs.YtoopkllfpmjnfaaGreatDoor
open Go Go.Mh

instance (l : List HE) (p : HE) : Decidable (Min l p) := by unfold Min; exact inferInstance

/-- The same, where only what is held counts, not how it lies. -/
def PV (h : Heap) (F : Nat → Prop) (r : Nat) (L : List HE) (n : Int) : Prop := ∃ l, HV h F r l n ∧ l.Perm L

def Disj (F G : Nat → Prop) : Prop := ∀ b, F b → ¬ G b

section
variable {h h' : Heap} {F G S : Nat → Prop} {r : Nat} {L : List HE} {n id key : Int} {K : Value → Heap → Prop} {p : HE}

theorem PV.upd (H : PV h F r L n) (hu : Upd S h h') (hd : Disj F S) : PV h' F r L n := by
  obtain ⟨l, H, hp⟩ := H; exact ⟨l, H.upd hu hd, hp⟩
theorem PV.low (H : PV h F r L n) : ∀ b, F b → b < h.size := by obtain ⟨l, H, hp⟩ := H; exact H.low
theorem PV.rng (H : PV h F r L n) : ∀ p ∈ L, 0 ≤ p.1 ∧ p.1 < n := by obtain ⟨l, H, hp⟩ := H; exact fun p h => H.rng p (hp.mem_iff.2 h)
theorem PV.nodup (H : PV h F r L n) : (L.map (·.1)).Nodup := by obtain ⟨l, H, hp⟩ := H; exact (hp.map _).nodup_iff.1 H.nodup

theorem Min.perm {l l' : List HE} (hp : l.Perm l') (h : Min l p) : Min l' p := ⟨hp.mem_iff.1 h.1, fun q hq => h.2 q (hp.mem_iff.2 hq)⟩

theorem PV.perm {L' : List HE} (H : PV h F r L n) (hp : L.Perm L') : PV h F r L' n := by
  obtain ⟨l, H, hp'⟩ := H; exact ⟨l, H, hp'.trans hp⟩

theorem plen (H : PV h F r L n) (hK : K (I L.length) h) : callS Tryz.prog F_heap_Heap_Len [ptr r] h K := by
  obtain ⟨l, H, hp⟩ := H; exact len_ok H (by rw [hp.length_eq]; exact hK)
theorem pkey (H : PV h F r L n) (h0 : (∀ p ∈ L, p.1 ≠ id) → K (.tuple #[I 0, .bool false]) h) (h1 : ∀ p ∈ L, p.1 = id → K (.tuple #[I p.2, .bool true]) h) : callS Tryz.prog F_heap_Heap_Key [ptr r, I id] h K := by
  obtain ⟨l, H, hp⟩ := H
  exact key_ok H (fun e => h0 fun p hm => e p (hp.mem_iff.2 hm)) fun p hm => h1 p (hp.mem_iff.1 hm)
theorem pnew (hK : ∀ h' F r, PV h' F r [] (max n 0) → (∀ b, F b → h.size ≤ b) → Ext h h' → K (ptr r) h') : callS Tryz.prog F_heap_New [I n] h K :=
  new_ok fun h' F r H a b => hK h' F r ⟨[], H, .refl _⟩ a b
theorem ppush (H : PV h F r L n) (hsm : L.length + 1 < 2 ^ 40)
    (h2 : ((∃ p ∈ L, p.1 = id) ∨ id < 0 ∨ n ≤ id) → K (I 2) h)
    (h0 : (∀ p ∈ L, p.1 ≠ id) → 0 ≤ id → id < n → ∀ h' F', PV h' F' r ((id, key) :: L) n → Grow h F F' → Upd F h h' → K (I 0) h') :
    callS Tryz.prog F_heap_Heap_Push [ptr r, I id, I key] h K := by
  obtain ⟨l, H, hp⟩ := H
  refine push_ok H (by rw [hp.length_eq]; exact hsm) (fun e => h2 ?_) fun hno a b h' F' l' H' hp' hg hu => h0 (fun p hm => hno p (hp.mem_iff.2 hm)) a b h' F' ⟨l', H', hp'.trans (hp.cons _)⟩ hg hu
  rcases e with ⟨p, hm, e⟩ | e
  · exact .inl ⟨p, hp.mem_iff.1 hm, e⟩
  · exact .inr e
theorem ppush0 (H : PV h F r L n) (hsm : L.length + 1 < 2 ^ 40) (hno : ∀ p ∈ L, p.1 ≠ id) (h1 : 0 ≤ id) (h2 : id < n)
    (h0 : ∀ h' F', PV h' F' r ((id, key) :: L) n → Grow h F F' → Upd F h h' → K (I 0) h') : callS Tryz.prog F_heap_Heap_Push [ptr r, I id, I key] h K :=
  ppush H hsm (fun e => by
    rcases e with ⟨p, hm, e⟩ | e
    · exact (hno p hm e).elim
    · omega) fun _ _ _ => h0
theorem ppush2 (H : PV h F r L n) (hsm : L.length + 1 < 2 ^ 40) (hno : (∃ p ∈ L, p.1 = id) ∨ id < 0 ∨ n ≤ id) (h2 : K (I 2) h) : callS Tryz.prog F_heap_Heap_Push [ptr r, I id, I key] h K :=
  ppush H hsm (fun _ => h2) fun hn a b => by
    rcases hno with ⟨p, hm, e⟩ | e
    · exact (hn p hm e).elim
    · omega
theorem plower (H : PV h F r L n)
    (h2 : (id < 0 ∨ n ≤ id) → K (I 2) h) (h20 : 0 ≤ id → id < n → (∀ p ∈ L, p.1 ≠ id) → K (I 20) h) (h2' : ∀ p ∈ L, p.1 = id → p.2 < key → K (I 2) h)
    (h0 : ∀ p ∈ L, p.1 = id → ¬ p.2 < key → ∀ h' F', PV h' F' r ((id, key) :: L.erase p) n → Grow h F F' → Upd F h h' → K (I 0) h') :
    callS Tryz.prog F_heap_Heap_Lower [ptr r, I id, I key] h K := by
  obtain ⟨l, H, hp⟩ := H
  exact lower_ok H h2 (fun a b e => h20 a b fun p hm => e p (hp.mem_iff.2 hm)) (fun p hm => h2' p (hp.mem_iff.1 hm)) fun p hm e hk h' F' l' H' hp' hg hu =>
    h0 p (hp.mem_iff.1 hm) e hk h' F' ⟨l', H', hp'.trans ((hp.erase p).cons _)⟩ hg hu
theorem id_uniq (hn : (L.map (·.1)).Nodup) {q : HE} (hp : p ∈ L) (hq : q ∈ L) (he : p.1 = q.1) : p = q := by
  obtain ⟨i, hi, rfl⟩ := List.mem_iff_getElem.1 hp
  obtain ⟨j, hj, rfl⟩ := List.mem_iff_getElem.1 hq
  have := ids_inj hn hi hj he
  subst this; rfl
theorem plower0 (H : PV h F r L n) (hp : p ∈ L) (he : p.1 = id) (hk : ¬ p.2 < key)
    (h0 : ∀ h' F', PV h' F' r ((id, key) :: L.erase p) n → Grow h F F' → Upd F h h' → K (I 0) h') : callS Tryz.prog F_heap_Heap_Lower [ptr r, I id, I key] h K := by
  have hr := H.rng p hp
  refine plower H (fun e => by omega) (fun _ _ e => (e p hp he).elim) (fun q hq e hk' => ?_) fun q hq e hk' => ?_
  · have := id_uniq H.nodup hp hq (he.trans e.symm); subst this; exact (hk hk').elim
  · have := id_uniq H.nodup hp hq (he.trans e.symm); subst this; exact h0
theorem plower2 (H : PV h F r L n) (hp : (∃ p ∈ L, p.1 = id ∧ p.2 < key) ∨ id < 0 ∨ n ≤ id) (h2 : K (I 2) h) : callS Tryz.prog F_heap_Heap_Lower [ptr r, I id, I key] h K := by
  refine plower H (fun _ => h2) (fun a b e => ?_) (fun _ _ _ _ => h2) fun q hq e hk' => ?_
  · rcases hp with ⟨p, hm, e', _⟩ | e'
    · exact (e p hm e').elim
    · omega
  · rcases hp with ⟨p, hm, e', hk⟩ | e'
    · have := id_uniq H.nodup hm hq (e'.trans e.symm); subst this; exact (hk' hk).elim
    · have := H.rng q hq; omega
theorem plower20 (H : PV h F r L n) (h1 : 0 ≤ id) (h2 : id < n) (hp : ∀ p ∈ L, p.1 ≠ id) (hK : K (I 20) h) : callS Tryz.prog F_heap_Heap_Lower [ptr r, I id, I key] h K :=
  plower H (fun _ => by omega) (fun _ _ _ => hK) (fun q hq e => (hp q hq e).elim) fun q hq e => (hp q hq e).elim
theorem ppop (H : PV h F r L n) (h0 : L = [] → K (.tuple #[I 0, I 0, .bool false]) h)
    (h1 : ∀ p, Min L p → ∀ h' F', PV h' F' r (L.erase p) n → Grow h F F' → Upd F h h' → K (.tuple #[I p.1, I p.2, .bool true]) h') : callS Tryz.prog F_heap_Heap_Pop [ptr r] h K := by
  obtain ⟨l, H, hp⟩ := H
  exact pop_ok H (fun e => h0 (by subst e; exact hp.nil_eq.symm)) fun p hm h' F' l' H' hp' hg hu => h1 p (hm.perm hp) h' F' ⟨l', H', hp'.trans (hp.erase p)⟩ hg hu
theorem ppop1 (H : PV h F r L n) (hm : Min L p) (h1 : ∀ h' F', PV h' F' r (L.erase p) n → Grow h F F' → Upd F h h' → K (.tuple #[I p.1, I p.2, .bool true]) h') : callS Tryz.prog F_heap_Heap_Pop [ptr r] h K :=
  ppop H (fun e => by subst e; simp [Min] at hm) fun q hq => by
    have := hq.uniq hm (.refl _); subst this; exact h1

theorem Disj.step {F' : Nat → Prop} (d : Disj F G) (hg : Grow h F F') (hl : ∀ b, G b → b < h.size) : Disj F' G := fun b hb hG => by
  rcases hg b hb with hb | hb
  · exact d b hb hG
  · have := hl b hG; omega
theorem Disj.symm (d : Disj F G) : Disj G F := fun b h1 h2 => d b h2 h1
end

end Go.Proofs.YtoopkllfpmjnfaaGreatDoor

namespace Go.Proofs.YtoopkllfpmjnfaaGreatDoor
open Go Go.Mh
set_option linter.unusedVariables false

/-! ### A heap as a part of memory -/

theorem Rep.st {h h' : Heap} {r m bl : Nat} {l : List HE} {n : Int} (H : Rep h r m bl l n) (h1 : h'[r]? = h[r]?) (h2 : h'[m]? = h[m]?) (h3 : h'[bl]? = h[bl]?) : Rep h' r m bl l n := by
  obtain ⟨⟨sl, cap, rest, hr, hs⟩, ⟨es, c, hm, hi⟩, hn, hsm⟩ := H
  refine ⟨⟨sl, cap, rest, h1.trans hr, ?_⟩, ⟨es, c, h2.trans hm, hi⟩, hn, hsm⟩
  rcases hs with hs | ⟨a, b, c, d⟩
  · exact .inl hs
  · exact .inr ⟨a, h3.trans b, c, d⟩

def hpR (F : Nat → Prop) (r : Nat) (H : List HE) (n : Nat) : Res := ⟨F, fun h => ∃ l, (∃ m bl, Rep h r m bl l n ∧ HeapOrd l ∧ F r ∧ F m ∧ F bl) ∧ (∀ p ∈ l, 0 ≤ p.1 ∧ p.1 < n) ∧ l.Perm H, fun hs ⟨l, ⟨m, bl, R, ho, f1, f2, f3⟩, hr, hp⟩ =>
  ⟨l, ⟨m, bl, R.st (hs _ f1) (hs _ f2) (hs _ f3), ho, f1, f2, f3⟩, hr, hp⟩⟩

theorem PV.toR {h : Heap} {F : Nat → Prop} {r : Nat} {H : List HE} {n : Nat} (P : PV h F r H n) : (hpR F r H n).Q h := by
  obtain ⟨l, ⟨a, b, c⟩, d⟩ := P; exact ⟨l, a, c, d⟩

section
variable {h0 h : Heap} {L : List Res} {F : Nat → Prop} {r n : Nat} {H : List HE} {id key : Int} {K : Value → Heap → Prop}

theorem own_pv (o : Own h0 h L) (i : Nat) (hi : L[i]? = some (hpR F r H n)) : PV h F r H n := by
  obtain ⟨l, a, c, d⟩ := o.get i hi
  exact ⟨l, ⟨a, fun b hb => ((o.q hi).2 b hb).2, c⟩, d⟩

theorem min_iff {p : HE} : Min H p ↔ p ∈ H ∧ ∀ q ∈ H, ¬ hl q p = true := by
  unfold Min
  have : ∀ q : HE, hlt q p = hl q p := fun q => by
    have h1 := @hlt_iff q p
    have h2 := @hl_iff q p
    by_cases hx : hl q p = true
    · rw [hx]; exact h1.2 (h2.1 hx)
    · simp at hx; rw [hx]
      by_cases hy : hlt q p = true
      · rw [h2.2 (h1.1 hy)] at hx; cases hx
      · simpa using hy
  simp only [this]

theorem least_min {p : HE} (h : least H = some p) : Min H p := min_iff.2 (least_spec h)

theorem ho_new (o : Own h0 h L) (hK : ∀ F r h', Own h0 h' (hpR F r [] n :: L) → K (ptr r) h') : callS Tryz.prog F_heap_New [I n] h K := by
  refine pnew fun h' F r P hF x => hK F r h' (o.cons x ?_ fun b hb => ⟨hF b hb, P.low b hb⟩)
  rw [show max (n : Int) 0 = n by omega] at P
  exact P.toR

theorem own_hp {h' : Heap} {F' : Nat → Prop} {H' : List HE} (o : Own h0 h L) (i : Nat) (hi : L[i]? = some (hpR F r H n)) (P : PV h' F' r H' n) (g : Grow h F F') (u : Upd F h h') : Own h0 h' (L.set i (hpR F' r H' n)) :=
  o.set i hi u P.toR fun b hb => ⟨g b hb, P.low b hb⟩

theorem ho_push (o : Own h0 h L) (i : Nat) (hi : L[i]? = some (hpR F r H n)) (hsm : H.length + 1 < 2 ^ 40) {v : Nat} (hno : ∀ p ∈ H, p.1 ≠ v) (hv : v < n)
    (hK : ∀ F' h', Own h0 h' (L.set i (hpR F' r (((v : Int), key) :: H) n)) → K (I 0) h') : callS Tryz.prog F_heap_Heap_Push [ptr r, I v, I key] h K :=
  ppush0 (own_pv o i hi) hsm hno (by omega) (by omega) fun h' F' P g u => hK F' h' (own_hp o i hi P g u)

theorem ho_lower (o : Own h0 h L) (i : Nat) (hi : L[i]? = some (hpR F r H n)) {v : Nat} {was : Int} (hm : ((v : Int), was) ∈ H) (hk : ¬ was < key)
    (hK : ∀ F' h', Own h0 h' (L.set i (hpR F' r (((v : Int), key) :: H.erase ((v : Int), was)) n)) → K (I 0) h') : callS Tryz.prog F_heap_Heap_Lower [ptr r, I v, I key] h K :=
  plower0 (own_pv o i hi) hm rfl hk fun h' F' P g u => hK F' h' (own_hp o i hi P g u)

theorem ho_key (o : Own h0 h L) (i : Nat) (hi : L[i]? = some (hpR F r H n)) {v : Nat}
    (hK : K (.tuple #[I ((lookH H v).getD 0), .bool (lookH H v).isSome]) h) : callS Tryz.prog F_heap_Heap_Key [ptr r, I v] h K := by
  have P := own_pv o i hi
  refine pkey P (fun hno => ?_) fun p hp e => ?_
  · have : lookH H v = none := lookH_none.2 hno
    rw [this] at hK; exact hK
  · cases hl : lookH H v with
    | none => exact absurd e (lookH_none.1 hl p hp)
    | some k =>
      have hm := lookH_some hl
      have := id_uniq P.nodup hp hm e
      subst this
      rw [hl] at hK; exact hK

theorem ho_pop (o : Own h0 h L) (i : Nat) (hi : L[i]? = some (hpR F r H n)) (hz : least H = none → ∀ h', Own h0 h' L → K (.tuple #[I 0, I 0, .bool false]) h')
    (hK : ∀ p, least H = some p → ∀ F' h', Own h0 h' (L.set i (hpR F' r (H.erase p) n)) → K (.tuple #[I p.1, I p.2, .bool true]) h') : callS Tryz.prog F_heap_Heap_Pop [ptr r] h K := by
  cases hl : least H with
  | none =>
    have e := least_none.1 hl
    subst e
    exact ppop (own_pv o i hi) (fun _ => hz hl h o) fun p hm => by simp [Min] at hm
  | some p => exact ppop1 (own_pv o i hi) (least_min hl) fun h' F' P g u => hK p hl F' h' (own_hp o i hi P g u)

end
end Go.Proofs.YtoopkllfpmjnfaaGreatDoor

namespace Go.Proofs.YtoopkllfpmjnfaaGreatDoor
open Go Go.Mh
set_option linter.unusedVariables false

section
variable {h0 h : Heap} {L : List Res} {K : Value → Heap → Prop} {g : G} {r : Nat}

theorem from1_end : EndF (.func (.func F_flood_From_1) #[] #[]) A.t := by
  intro a h K hK
  refine callV_of (l := [.agg (encA a).toArray]) rfl (lk_flood_From_1 _ ?_)
  unfold sh_flood_From_1
  refine (Own.start h).box fun b h1 o1 => ?_
  simp only [pField_ptr]
  exact o1.load 0 rfl rfl (hK _ o1.ext)
theorem to1_end : EndF (.func (.func F_flood_To_1) #[] #[]) A.f := by
  intro a h K hK
  refine callV_of (l := [.agg (encA a).toArray]) rfl (lk_flood_To_1 _ ?_)
  unfold sh_flood_To_1
  refine (Own.start h).box fun b h1 o1 => ?_
  simp only [pField_ptr]
  exact o1.load 0 rfl rfl (hK _ o1.ext)

theorem farcs_iter {l4 n3 e5 : Nat} {vl endv : Value} {ids : List Nat} {head : A → Nat} {T1 T2 T3 : TypeId} (hids : ∀ i ∈ ids, i < g.arcs.length) (hmany : ids.length < 2 ^ 40) (hE : EndF endv head) :
    Iter Tryz.prog (.func (.func F_flood_arcs_1) #[] #[ptr l4, ptr n3, ptr e5])
      (fun h => h[l4]? = some (.cells #[vl] T1 (0, 0)) ∧ h[n3]? = some (.cells #[ptr r] T2 (0, 0)) ∧ h[e5]? = some (.cells #[endv] T3 (0, 0)) ∧ Vw encN 1 h vl ids ∧ NetR h r g) ids.length
      (fun i hi => [I ids[i], vA ⟨0, head (arcAt g.arcs ids[i]), (arcAt g.arcs ids[i]).w⟩]) := by
  rintro yv h0 h Rs K J E ⟨l, rfl⟩ o j0 hQ hY hK
  refine callF_of (l := [yieldV l, ptr l4, ptr n3, ptr e5]) rfl (lk_flood_arcs_1 _ _ _ _ ?_)
  unfold sh_flood_arcs_1
  obtain ⟨hb, _, _, hv, _⟩ := hQ _ _ _ j0 o
  have hc : hcell h ⟨l4, 0, none⟩ = some vl := hcell_of hb rfl
  simp only [pLoad_ptr, hc]
  refine hv.len ?_
  refine LoopH_count ids.length (fun i x h' => x.1 = I i ∧ ∃ Rs', J i Rs' ∧ Own h0 h' Rs') ⟨rfl, Rs, j0, o⟩ ?_
  rintro i ⟨x, ⟨⟩⟩ h Z hi ⟨hx, Rs', hj, o⟩ hZ
  dsimp only at hx hZ ⊢
  subst hx
  unfold sh_flood_arcs_1_L1
  simp only [pBin_lss, ifV_dec]
  refine ⟨fun hlt => ?_, fun hge => ?_⟩
  · have hlt : i < ids.length := by omega
    obtain ⟨_, hn, he, hv, hN⟩ := hQ _ _ _ hj o
    refine hv.at1 (e := fun x : Nat => I x) (fun _ => rfl) hlt ?_
    have hc : hcell h ⟨n3, 0, none⟩ = some (ptr r) := hcell_of hn rfl
    simp only [pLoad_ptr, hc]
    have hil := hids _ (List.getElem_mem hlt)
    refine arc_ok hN hil fun h1 x1 => ?_
    have ea : arcAt g.arcs ids[i] = g.arcs[ids[i]] := by simp [arcAt, hil]
    have o1 := o.more x1
    simp only [pExt0, pExt1]
    refine o1.box fun b h2 o2 => o2.st 0 rfl rfl rfl rfl rfl (encA_plain _) fun h3 o3 => ?_
    obtain ⟨_, _, he3, _, _⟩ := hQ _ _ _ hj o3.tail
    have hc : hcell h3 ⟨e5, 0, none⟩ = some endv := hcell_of he3 rfl
    simp only [pLoad_ptr, hc, pField_ptr]
    refine o3.ldN 0 rfl rfl rfl ?_
    have hl := fun {K} (hk : K (I (g.arcs[ids[i]]).w)) => o3.load (off := 2) (K := K) 0 rfl rfl hk
    simp only [pLoad_ptr] at hl
    refine hl (hE _ _ _ fun h4 x4 => ?_)
    have o4 := o3.more x4
    refine ⟨o4.load 0 rfl rfl rfl, sizesOk_of rfl, ?_⟩
    rw [← ea]
    refine hY i _ (i + 1) Rs' [] h4 _ ⟨⟨hlt, rfl⟩, rfl⟩ hj o4.tail.nilTail (fun Rs'' h'' hj' o' => ?_) fun Rs'' h'' he o' => ?_
    · rw [pUn_not, Bool.not_true, ifV_false, pBin_add, wI i (by omega)]
      exact hZ (I (i + 1 : Nat), ()) h'' hlt ⟨rfl, Rs'', hj', o'.toNil⟩
    · rw [pUn_not, Bool.not_false, ifV_true]
      exact hK _ _ (.inr he) o'.toNil
  · have : i = ids.length := by omega
    exact hK _ _ (.inl ⟨i, this, hj⟩) o

/-- Who is closed, as the program keeps it. -/
def clo (order : List Nat) : Int → Option Value := fun k => if order.any (fun v => (v : Int) == k) then some (I 1) else none
theorem clo_in {order : List Nat} {v : Nat} (h : v ∈ order) : clo order v = some (I 1) := by
  have : order.any (fun u => (u : Int) == (v : Int)) = true := List.any_eq_true.2 ⟨v, h, by simp⟩
  simp [clo, this]
theorem clo_out {order : List Nat} {v : Nat} (h : v ∉ order) : clo order v = none := by
  have : order.any (fun u => (u : Int) == (v : Int)) = false := by
    simp only [List.any_eq_false, beq_iff_eq]
    intro u hu e
    have : u = v := by omega
    exact h (this ▸ hu)
  simp [clo, this]
theorem clo_add {order : List Nat} {v : Nat} (x : Int) : clo (order ++ [v]) x = fset (clo order) v (I 1) x := by
  unfold fset
  by_cases h : x = v
  · subst h; rw [if_pos rfl, clo_in (by simp)]
  · rw [if_neg h]
    have : ((v : Int) == x) = false := by simpa using fun e => h e.symm
    simp [clo, this]

theorem set_set_same {α : Type} {l : List α} {i j : Nat} {a b : α} (hi : l[i]? = some a) (hj : l[j]? = some b) : (l.set i a).set j b = l := by
  have e1 : l.set i a = l := by
    apply List.ext_getElem?
    intro k
    by_cases e : i = k
    · subst e; rw [List.getElem?_set_self (List.getElem?_eq_some_iff.1 hi).1, hi]
    · rw [List.getElem?_set_ne e]
  rw [e1]
  apply List.ext_getElem?
  intro k
  by_cases e : j = k
  · subst e; rw [List.getElem?_set_self (List.getElem?_eq_some_iff.1 hj).1, hj]
  · rw [List.getElem?_set_ne e]

theorem reach_ok {rr hp n m : Nat} {F : Nat → Prop} {sd sa so : Value} {s : FS} {B : Int} {v a : Nat} {d : Int} (o : Own h0 h L) (i1 i2 i3 i4 : Nat)
    (h1 : L[i1]? = some (cellR rr [ptr hp, sd, sa, so, .map (some m)] T_flood_run)) (h2 : L[i2]? = some (hpR F hp s.hp n)) (h3 : L[i3]? = some (slR encI 1 T_int sa s.arc)) (h4 : L[i4]? = some (mapR m (clo s.order)))
    (n12 : i2 ≠ i1) (n23 : i2 ≠ i3) (n24 : i2 ≠ i4) (inv : FInv n B s) (hn : n ≤ 16777216) (hv : v < n)
    (hK : ∀ F' h', Own h0 h' ((L.set i2 (hpR F' hp (s.reach v a d).hp n)).set i3 (slR encI 1 T_int sa (s.reach v a d).arc)) → K (.tuple #[]) h') :
    callS Tryz.prog F_flood_run_reach [ptr rr, I v, I a, I d] h K := by
  refine callS_of (lk_flood_run_reach _ _ _ _ ?_)
  unfold sh_flood_run_reach
  simp only [pNil_ptr, pField_ptr]
  refine o.load i1 h1 rfl (ho_key o i2 h2 ?_)
  simp only [pExt0, pExt1]
  refine o.load i1 h1 rfl ?_
  refine o.look i4 h4 ?_
  simp only [Bool.false_eq_true, if_false]
  have hlen : s.hp.length ≤ n := by
    have : (s.hp.map (·.1.toNat)).length ≤ n := nodup_le (by
      have : s.hp.map (·.1.toNat) = (s.hp.map (·.1)).map Int.toNat := by simp
      rw [this, List.nodup_iff_pairwise_ne, List.pairwise_map]
      refine (List.nodup_iff_pairwise_ne.1 inv.ids).imp_of_mem fun {x y} hx hy hne e => hne ?_
      obtain ⟨p, hp, rfl⟩ := List.mem_map.1 hx
      obtain ⟨q, hq, rfl⟩ := List.mem_map.1 hy
      obtain ⟨u, e1, _⟩ := inv.ent p hp
      obtain ⟨w, e2, _⟩ := inv.ent q hq
      rw [e1, e2] at e ⊢
      have e' : u = w := by simpa using e
      rw [e']) (fun x hx => by
      obtain ⟨p, hp, rfl⟩ := List.mem_map.1 hx
      obtain ⟨u, e1, e2, _⟩ := inv.ent p hp
      rw [e1]; simpa using e2)
    simpa using this
  by_cases hc : v ∈ s.order
  · rw [clo_in hc]
    simp only [Option.getD_some]
    have : s.reach v a d = s := by simp [FS.reach, hc]
    rw [this, ] at hK
    have hk := fun h => hK F h
    rw [set_set_same h2 h3] at hk
    simpa using hk h o
  · rw [clo_out hc]
    simp only [Option.getD_none, pBin_gtr, ifV_dec]
    refine ⟨fun e => by omega, fun _ => ?_⟩
    cases hl : lookH s.hp v with
    | some was =>
      simp only [Option.isSome_some, ifV_true, Option.getD_some, pBin_leq, ifV_dec]
      refine ⟨fun hle => ?_, fun hgt => ?_⟩
      · have : s.reach v a d = s := by simp [FS.reach, hc, hl, hle]
        rw [this] at hK
        have hk := fun h => hK F h
        rw [set_set_same h2 h3] at hk
        exact hk h o
      · unfold sh_flood_run_reach_k1 sh_flood_run_reach_k2
        simp only [ifV_true, pNil_ptr, pField_ptr]
        refine o.load i1 h1 rfl (ho_lower o i2 h2 (lookH_some hl) (by omega) fun F' h5 o5 => ?_)
        refine o5.load i1 (by rw [List.getElem?_set_ne n12]; exact h1) rfl ?_
        refine o5.setI (z := a) i3 (by rw [List.getElem?_set_ne n23]; exact h3) (by rw [inv.al]; exact hv) fun h6 o6 => ?_
        have : s.reach v a d = { s with hp := ((v : Int), d) :: s.hp.erase ((v : Int), was), arc := s.arc.set v a } := by simp [FS.reach, hc, hl, hgt]
        rw [this] at hK
        exact hK F' h6 o6
    | none =>
      simp only [Option.isSome_none, ifV_false]
      unfold sh_flood_run_reach_k1 sh_flood_run_reach_k2
      simp only [ifV_false, pNil_ptr, pField_ptr]
      refine o.load i1 h1 rfl (ho_push o i2 h2 (by omega) (lookH_none.1 hl) hv fun F' h5 o5 => ?_)
      refine o5.load i1 (by rw [List.getElem?_set_ne n12]; exact h1) rfl ?_
      refine o5.setI (z := a) i3 (by rw [List.getElem?_set_ne n23]; exact h3) (by rw [inv.al]; exact hv) fun h6 o6 => ?_
      have : s.reach v a d = { s with hp := ((v : Int), d) :: s.hp, arc := s.arc.set v a } := by simp [FS.reach, hc, hl]
      rw [this] at hK
      exact hK F' h6 o6

end
end Go.Proofs.YtoopkllfpmjnfaaGreatDoor

namespace Go.Proofs.YtoopkllfpmjnfaaGreatDoor
open Go Go.Mh
set_option linter.unusedVariables false

/-- A tree in memory. -/
def TreeV (h : Heap) (v : Value) (t : Tr) : Prop := ∃ sd sa so, v = .agg #[sd, sa, so] ∧ Vw encI 1 h sd t.dist ∧ Vw encI 1 h sa t.arc ∧ Vw encN 1 h so t.order
theorem TreeV.more {h h' : Heap} {v : Value} {t : Tr} (H : TreeV h v t) (x : Ext h h') : TreeV h' v t := by
  obtain ⟨sd, sa, so, e, a, b, c⟩ := H
  exact ⟨sd, sa, so, e, a.more x, b.more x, c.more x⟩

theorem scan_take {l : List A} {head : A → Nat} {key : Int} {s : FS} {ids : List Nat} {i : Nat} (hi : i < ids.length) :
    s.scan l head key (ids.take (i + 1)) = (s.scan l head key (ids.take i)).reach (head (arcAt l ids[i])) ids[i] (key + (arcAt l ids[i]).w) := by
  unfold FS.scan
  rw [List.take_succ_eq_append_getElem hi, List.foldl_append]; rfl

section
variable {h0 h : Heap} {L : List Res} {K : Value → Heap → Prop} {g : G} {r : Nat} {outs : Nat → List Nat} {head : A → Nat} {nextv endv : Value}

/-- A closure that tells the arcs of a node. -/
def NextF (nextv : Value) (g : G) (r : Nat) (outs : Nat → List Nat) : Prop :=
  ∀ (h0 h : Heap) (L : List Res) (K : Value → Heap → Prop) (v : Nat), v < g.n → NetR h r g → Own h0 h L → (∀ v' h', Own h0 h' (slR encN 1 T_int v' (outs v) :: L) → K v' h') → callV Tryz.prog nextv [I v].toArray h K

theorem out_next (hR : g.Right) : NextF (.func (.func F_net_Net_Out) #[ptr r] #[]) g r g.out := by
  intro h0 h L K v hv H o hK
  refine callV_of (l := [ptr r, I v]) rfl ?_
  have := outI_ok (z := v) o hR H (K := K) (by rw [if_pos (by omega)]; exact hK)
  simpa [callS, callV] using this
theorem in_next (hR : g.Right) : NextF (.func (.func F_net_Net_In) #[ptr r] #[]) g r g.in := by
  intro h0 h L K v hv H o hK
  refine callV_of (l := [ptr r, I v]) rfl ?_
  have := inI_ok (z := v) o hR H (K := K) (by rw [if_pos (by omega)]; exact hK)
  simpa [callS, callV] using this

abbrev runL (r9 rr m hp t8 n : Nat) (sd sa : Value) (kb : Nat) (key : Int) (F : Nat → Prop) (H : List HE) (so : Value) (st : FS) (mm : List Nat) : List Res :=
  [cellR kb [I key] T_int64, cellR r9 [ptr rr] T_p_flood_run, cellR rr [ptr hp, sd, sa, so, .map (some m)] T_flood_run, hpR F hp H n, slR encI 1 T_int sa st.arc, mapR m (clo st.order), xR sd st.dist, slR encN 1 T_int so st.order,
    cellR t8 [sl0, sl0, sl0] T_flood_Tree, marksR mm]

/-- The rest of a flood, from a state on. -/
theorem flood_loop {r9 rr m hp t8 : Nat} {sd sa : Value} {fin : FS} {h' : Heap} {x : List Nat × Vals [10, 11, 12]} (hR : g.Right) (H : NetR h r g) (hN : NextF nextv g r outs) (hE : EndF endv head) (hev : endv.cells = #[endv]) (hhead : ∀ a ∈ g.arcs, head a < g.n)
    (hout : ∀ v, v < g.n → ∀ i ∈ outs v, i < g.arcs.length) (hol : ∀ v, (outs v).length ≤ g.arcs.length)
    (hK : ∀ so h', Own h h' [xR sd fin.dist, slR encI 1 T_int sa fin.arc, slR encN 1 T_int so fin.order] → K (.agg #[sd, sa, so]) h')
    (J : ∃ (st : FS) (kb : Nat) (key : Int) (so : Value) (F : Nat → Prop) (H : List HE), x.2.2.1 = ptr kb ∧ FS.run g.arcs outs head (g.n + 1 - st.order.length) st = fin ∧ FInv g.n (st.order.length * W) st ∧
      ((least st.hp = none ∧ x.2.2.2.1 = .bool false) ∨ ∃ p, least st.hp = some p ∧ x.2.1 = I p.1 ∧ key = p.2 ∧ x.2.2.2.1 = .bool true ∧ H = st.hp.erase p) ∧ Own h h' (runL r9 rr m hp t8 g.n sd sa kb key F H so st x.1)) :
    LoopH (σ := List Nat × Vals [10, 11, 12]) (fun x hh ZZ => sh_flood_flood_L2 Tryz.prog (ptr r9) nextv (ptr r) endv (ptr t8) K x.1 x.2.1 x.2.2.1 x.2.2.2.1 hh (fun mz a0 a1 a2 hz => ZZ (mz, (a0, (a1, (a2, ())))) hz)) x h' := by
  have hmost := hR.most
  have hmany := hR.many
  obtain ⟨st0, J⟩ := J
  refine LoopH_down (k0 := g.n + 1 - st0.order.length) (fun k x h' => ∃ (st : FS) (kb : Nat) (key : Int) (so : Value) (F : Nat → Prop) (H : List HE), k = g.n + 1 - st.order.length ∧ x.2.2.1 = ptr kb ∧ FS.run g.arcs outs head (g.n + 1 - st.order.length) st = fin ∧ FInv g.n (st.order.length * W) st ∧
      ((least st.hp = none ∧ x.2.2.2.1 = .bool false) ∨ ∃ p, least st.hp = some p ∧ x.2.1 = I p.1 ∧ key = p.2 ∧ x.2.2.2.1 = .bool true ∧ H = st.hp.erase p) ∧ Own h h' (runL r9 rr m hp t8 g.n sd sa kb key F H so st x.1))
    (by obtain ⟨kb, key, so, F, H, J⟩ := J; exact ⟨st0, kb, key, so, F, H, rfl, J⟩) ?_
  clear J st0 h' x
  rintro k ⟨mm, v, kv, is, ⟨⟩⟩ h' Z ⟨st, kb, key, so, F, Hp, hk, hkb, hrun, inv, hcase, o⟩ hZ
  dsimp only at hkb hcase o hZ ⊢
  subst hkb
  unfold sh_flood_flood_L2
  simp only [pNil_ptr, pField_ptr]
  rcases hcase with ⟨hl, rfl⟩ | ⟨p, hl, rfl, rfl, rfl, rfl⟩
  · rw [ifV_false]
    have hf : st = fin := by
      rw [← hrun]
      cases g.n + 1 - st.order.length with
      | zero => rfl
      | succ k => simp only [FS.run, hl]
    subst hf
    refine o.load 1 rfl rfl ?_
    simp only [pNil_ptr, pField_ptr]
    refine o.ldN 2 rfl rfl rfl ?_
    refine o.st 8 rfl rfl rfl rfl rfl ?_ fun h2 o2 => ?_
    · intro u hu
      simp at hu
      rcases hu with rfl | rfl | rfl
      · exact (o.vw 6 rfl).plain
      · exact (o.vw 4 rfl).plain
      · exact (o.vw 7 rfl).plain
    · refine o2.take 9 rfl fun h3 o3 => ?_
      exact o3.ldN 8 rfl rfl rfl (hK so h3 (o3.sel [6, 4, 7] (by decide)))
  · rw [ifV_true]
    have hm := (least_spec hl).1
    obtain ⟨u, hu, hun, hno, hk0, hkB⟩ := inv.ent p hm
    obtain ⟨pv, key⟩ := p
    dsimp only at hu hk0 hkB o ⊢
    subst hu
    have hroom := inv.room (by intro e; rw [e] at hm; cases hm)
    have hB : (st.order.length : Int) * W + W ≤ 16777216 * W := by
      have : (st.order.length : Int) + 1 ≤ 16777216 := by omega
      have := Int.mul_le_mul_of_nonneg_right this (show (0 : Int) ≤ W by decide)
      rw [Int.add_mul, Int.one_mul] at this
      exact this
    refine o.load 1 rfl rfl ?_
    simp only [pNil_ptr, pField_ptr]
    refine o.load 2 rfl rfl ?_
    refine o.look 5 rfl ?_
    rw [clo_out hno]
    simp only [Bool.false_eq_true, if_false, Option.getD_none, pBin_add]
    rw [show IntKind.i64.wrap (0 + 1) = 1 from rfl]
    refine o.mapPut (f' := clo (st.order ++ [u])) 5 rfl clo_add fun h1 o1 => ?_
    refine o1.load 1 rfl rfl ?_
    simp only [pNil_ptr, pField_ptr]
    refine o1.load 2 rfl rfl (o1.load 0 rfl rfl ?_)
    refine o1.setI 6 rfl (by rw [inv.dl]; exact hun) fun h2 o2 => ?_
    refine o2.load 1 rfl rfl (o2.load 1 rfl rfl ?_)
    simp only [pNil_ptr, pField_ptr]
    refine o2.load 2 rfl rfl ?_
    refine o2.app1 7 u rfl rfl (sizesOk_of rfl) encN_len encN_plain rfl (by decide) (by omega) fun so1 h3 o3 => ⟨o3.load 1 rfl rfl rfl, ?_⟩
    refine o3.st1 2 rfl rfl rfl (o3.vw 7 rfl).one (o3.vw 7 rfl).plain fun h4 o4 => ?_
    refine hN _ _ _ _ u hun (H.more o4.ext) o4 fun vl h5 o5 => ?_
    refine callS_of (lk_flood_arcs _ _ _ ?_)
    unfold sh_flood_arcs
    refine o5.box fun n3 h6 o6 => o6.box fun l4 h7 o7 => o7.box fun e5 h8 o8 => ?_
    have hvl := o5.vw 0 rfl
    obtain ⟨st1, hst1⟩ : ∃ st1, st1 = st.pop u key := ⟨_, rfl⟩
    have hW : (0 : Int) ≤ W := by decide
    have inv1 : FInv g.n (st.order.length * W + W) st1 := by subst hst1; exact (inv.popped hm).mono (by omega)
    have hord : st1.order.length = st.order.length + 1 := by subst hst1; simp [FS.pop]
    have hids := hout u hun
    have hscan : ∀ i, FInv g.n (st.order.length * W + W) (st1.scan g.arcs head key ((outs u).take i)) := fun i =>
      FInv.scan (fun a ha => ⟨hhead a ha, by have := (hR.ends a ha).2.2; show (a.w : Int) ≤ 2147483647; omega⟩) hk0 (by omega) (fun j hj => hids j (List.mem_of_mem_take hj)) inv1
    have L0 : Own h h8 (cellR e5 endv.cells.toList T_func_api_Arc_int :: cellR l4 vl.cells.toList T_sl_int :: cellR n3 [ptr r] T_p_net_Net :: slR encN 1 T_int vl (outs u) :: runL r9 rr m hp t8 g.n sd sa kb key F (st1.scan g.arcs head key ((outs u).take 0)).hp so1 (st1.scan g.arcs head key ((outs u).take 0)) mm) := by
      subst hst1; exact o8
    refine L0.range (farcs_iter (r := r) (T1 := T_sl_int) (T2 := T_p_net_Net) (T3 := T_func_api_Arc_int) (vl := vl) hids (by have := hol u; omega) hE) (fun i x i' ⟨⟨hi, e⟩, _⟩ => by rw [e]; rfl)
      (fun i Rs => ∃ F, Rs = cellR e5 endv.cells.toList T_func_api_Arc_int :: cellR l4 vl.cells.toList T_sl_int :: cellR n3 [ptr r] T_p_net_Net :: slR encN 1 T_int vl (outs u) :: runL r9 rr m hp t8 g.n sd sa kb key F (st1.scan g.arcs head key ((outs u).take i)).hp so1 (st1.scan g.arcs head key ((outs u).take i)) mm)
      (fun _ => False) (fun _ _ => False) ⟨F, rfl⟩ ?_ ?_ ?_ (fun _ _ h => h.elim) (fun _ _ _ h => h.elim)
    · rintro i Rs' h' ⟨F, rfl⟩ o'
      refine ⟨?_, o'.get 2 rfl, ?_, o'.vw 3 rfl, H.more o'.ext⟩
      · have := o'.get 1 rfl
        rw [show vl.cells.toList = [vl] by rw [hvl.one]] at this
        exact this
      · have := o'.get 0 rfl
        rw [show endv.cells.toList = [endv] by rw [hev]] at this
        exact this
    · rintro M i x i' Rs' Pr h9 R ⟨⟨hi, rfl⟩, rfl⟩ ⟨F, rfl⟩ o9 hN' _ _
      dsimp only [valsOf]
      unfold sh_flood_flood_B3
      refine o9.box fun a14 h10 o10 => o10.st 0 rfl rfl rfl rfl rfl (encA_plain _) fun h11 o11 => ?_
      refine o11.begin 1 rfl fun h12 o12 => ?_
      refine o12.load 8 rfl rfl ?_
      simp only [pField_ptr]
      refine o12.load 0 rfl rfl (o12.load 7 rfl rfl (o12.load 0 rfl rfl ?_))
      have hil := hids _ (List.getElem_mem hi)
      have ha : arcAt g.arcs (outs u)[i] ∈ g.arcs := by simp [arcAt, hil]
      have hw := (hR.ends _ ha).2.2
      have e1 : IntKind.i64.wrap (key + ((arcAt g.arcs (outs u)[i]).w : Int)) = key + (arcAt g.arcs (outs u)[i]).w := by
        have hW2 : (16777216 : Int) * W ≤ 2 ^ 62 := by decide
        exact w64 (by omega) (by have : (W : Int) = 2147483647 := rfl
                                 omega)
      rw [pBin_add, e1]
      refine reach_ok o12 9 10 11 12 rfl rfl rfl rfl (by decide) (by decide) (by decide) (hscan i) hmost (hhead _ ha) fun F' h13 o13 => ?_
      refine hN' _ _ ⟨F', rfl⟩ ?_
      have hsc := scan_take (l := g.arcs) (head := head) (key := key) (s := st1) hi
      have hro := @reach_order (st1.scan g.arcs head key ((outs u).take i)) (head (arcAt g.arcs (outs u)[i])) (outs u)[i] (key + (arcAt g.arcs (outs u)[i]).w)
      rw [← hsc] at hro
      have := o13.tail
      rw [← hsc] at this
      simp only [runL, hro.1, hro.2]
      exact this
    · rintro i h9 Rs' rfl ⟨F', rfl⟩ o9
      rw [List.take_length] at o9
      have hso := @scan_order g.arcs head key (outs u) st1
      refine o9.load 5 rfl rfl (o9.box fun kb2 h10 o10 => ?_)
      refine o10.st1 0 rfl rfl rfl rfl rfl fun h11 o11 => ?_
      refine o11.load 7 rfl rfl ?_
      simp only [pNil_ptr, pField_ptr]
      refine o11.load 8 rfl rfl ?_
      have inv2 : FInv g.n ((st1.scan g.arcs head key (outs u)).order.length * W) (st1.scan g.arcs head key (outs u)) := by
        have := hscan (outs u).length
        rw [List.take_length] at this
        refine this.mono ?_
        rw [hso.1, hord]
        have : ((st.order.length + 1 : Nat) : Int) * W = st.order.length * W + W := by
          rw [Int.natCast_add, Int.add_mul]; rfl
        omega
      have hrun2 : FS.run g.arcs outs head (g.n + 1 - (st1.scan g.arcs head key (outs u)).order.length) (st1.scan g.arcs head key (outs u)) = fin := by
        rw [← hrun, hso.1, hord]
        rw [show g.n + 1 - st.order.length = (g.n + 1 - (st.order.length + 1)) + 1 by omega]
        simp only [FS.run, hl, Int.toNat_natCast]
        rw [← hst1]
      have mark := fun {h'' : Heap} {A B : Res} {C : List Res} (o : Own h h'' (A :: B :: C)) => o
      refine ho_pop o11 9 rfl (fun hl2 h12 o12 => ?_) fun p hl2 F2 h12 o12 => ?_
      · simp only [pExt0, pExt1, pExt2]
        refine o12.st1 0 rfl rfl rfl rfl rfl fun h13 o13 => ?_
        have o14 := (o13.swap).addMark 14 rfl
        refine hZ (_ :: mm, (I 0, (ptr kb2, (.bool false, ())))) h13 _ (by rw [hso.1, hord]; omega) ⟨st1.scan g.arcs head key (outs u), kb2, 0, so1, F', (st1.scan g.arcs head key (outs u)).hp, rfl, rfl, hrun2, inv2, .inl ⟨hl2, rfl⟩, ?_⟩
        exact o14.sel [0, 6, 7, 8, 9, 10, 11, 12, 13, 14] (by decide)
      · simp only [pExt0, pExt1, pExt2]
        refine o12.st1 0 rfl rfl rfl rfl rfl fun h13 o13 => ?_
        have o14 := (o13.swap).addMark 14 rfl
        refine hZ (_ :: mm, (I p.1, (ptr kb2, (.bool true, ())))) h13 _ (by rw [hso.1, hord]; omega) ⟨st1.scan g.arcs head key (outs u), kb2, p.2, so1, F2, (st1.scan g.arcs head key (outs u)).hp.erase p, rfl, rfl, hrun2, inv2, .inr ⟨p, hl2, rfl, rfl, rfl, rfl⟩, ?_⟩
        exact o14.sel [0, 6, 7, 8, 9, 10, 11, 12, 13, 14] (by decide)

end
end Go.Proofs.YtoopkllfpmjnfaaGreatDoor

namespace Go.Proofs.YtoopkllfpmjnfaaGreatDoor
open Go Go.Mh
set_option linter.unusedVariables false

section
variable {h0 h : Heap} {L : List Res} {K : Value → Heap → Prop} {g : G} {r : Nat} {outs : Nat → List Nat} {head : A → Nat} {nextv endv : Value}

/-- A tree that was just made. -/
def TreeK (h : Heap) (t : Tr) (K : Value → Heap → Prop) : Prop :=
  ∀ sd sa so h', Own h h' [xR sd t.dist, slR encI 1 T_int sa t.arc, slR encN 1 T_int so t.order] → K (.agg #[sd, sa, so]) h'

theorem TreeK.of {t : Tr} (hK : ∀ v h', TreeV h' v t → Ext h h' → K v h') : TreeK h t K :=
  fun sd sa so h' o => hK _ h' ⟨sd, sa, so, rfl, o.vw 0 rfl, o.vw 1 rfl, o.vw 2 rfl⟩ o.ext

theorem flood_none {s : Int} {rv : Value} (hs : rv = .pointer none ∨ (rv = ptr r ∧ NetR h r g ∧ ¬ (0 ≤ s ∧ s < g.n))) (hK : TreeK h .none K) : callS Tryz.prog F_flood_flood [rv, I s, nextv, endv] h K := by
  refine callS_of (lk_flood_flood _ _ _ _ ?_)
  unfold sh_flood_flood sh_flood_flood_k1
  refine (Own.start h).box fun t8 h1 o1 => ?_
  have none : ∀ {h2 : Heap}, Own h h2 [cellR t8 [sl0, sl0, sl0] T_flood_Tree] → pBuild [(.slice none 0 0), (.slice none 0 0), (.slice none 0 0)] [] fun t27 => pStore 3 (ptr t8) t27 h2 fun u h_3 => pLoadN 3 h_3 (ptr t8) fun res => K res h_3 := fun o2 =>
    ⟨trivial, o2.st (cs' := [sl0, sl0, sl0]) 0 rfl (l := [sl0, sl0, sl0]) rfl rfl rfl rfl (by simp) fun h3 o3 => o3.ldN 0 rfl rfl rfl (hK sl0 sl0 sl0 h3 ((o3.nilS.nilS.nilS).sel [0, 1, 2] (by decide)))⟩
  rcases hs with rfl | ⟨rfl, H, hs⟩
  · simp only [pEq_ptr_nil, Option.isNone_none, ifV_true]
    exact none o1
  · simp only [pEq_ptr_nil, Option.isNone_some, ifV_false, pBin_lss, ifV_dec]
    refine ⟨fun _ => none o1, fun e => nodes_ok (H.more o1.ext) ?_⟩
    simp only [pBin_geq, ifV_dec]
    exact ⟨fun _ => none o1, fun e' => by omega⟩

theorem flood_ok {s : Nat} (hR : g.Right) (H : NetR h r g) (hs : s < g.n) (hN : NextF nextv g r outs) (hE : EndF endv head) (hev : endv.cells = #[endv]) (hhead : ∀ a ∈ g.arcs, head a < g.n)
    (hout : ∀ v, v < g.n → ∀ i ∈ outs v, i < g.arcs.length) (hol : ∀ v, (outs v).length ≤ g.arcs.length) (hK : TreeK h (floodP g.arcs g.n outs head s) K) : callS Tryz.prog F_flood_flood [ptr r, I s, nextv, endv] h K := by
  have hmost := hR.most
  refine callS_of (lk_flood_flood _ _ _ _ ?_)
  unfold sh_flood_flood
  refine (Own.start h).box fun t8 h1 o1 => ?_
  simp only [pEq_ptr_nil, Option.isNone_some, ifV_false, pBin_lss, ifV_dec]
  refine ⟨fun e => by omega, fun _ => nodes_ok (H.more o1.ext) ?_⟩
  simp only [pBin_geq, ifV_dec]
  refine ⟨fun e => by omega, fun _ => nodes_ok (H.more o1.ext) (ho_new o1 fun F hp h2 o2 => ?_)⟩
  refine o2.build (enc := encI) (n := 1) [far] rfl (sizesOk_of rfl) rfl fun wf h3 o3 => nodes_ok (H.more o3.ext) ?_
  refine repeat_int64 o3 (o3.vw 0 rfl) hmost fun sd h4 o4 => ?_
  refine o4.build (enc := encI) (n := 1) [-1] rfl (sizesOk_of rfl) rfl fun wm h5 o5 => nodes_ok (H.more o5.ext) ?_
  refine repeat_int o5 (o5.vw 0 rfl) hmost fun sa h6 o6 => ⟨sizesOk_of (by
    obtain ⟨b, c, e⟩ := (o6.vw 0 rfl).isSl
    obtain ⟨b', c', e'⟩ := (o6.vw 2 rfl).isSl
    subst e e'; rfl), ?_⟩
  have ead : sa.cells = #[sa] ∧ sd.cells = #[sd] := ⟨(o6.vw 0 rfl).one, (o6.vw 2 rfl).one⟩
  refine o6.mkMap fun m h7 o7 => ?_
  obtain ⟨ba, ca, ea⟩ := (o7.vw 1 rfl).isSl
  obtain ⟨bd, cd, ed⟩ := (o7.vw 3 rfl).isSl
  refine ⟨sizesOk_of (by subst ea ed; rfl), o7.box fun rr h8 o8 => o8.box fun r9 h9 o9 => o9.st1 0 rfl rfl rfl rfl rfl fun h10 o10 => ?_⟩
  have o11 : Own h h10 (cellR r9 [ptr rr] T_p_flood_run :: cellR rr [ptr hp, sd, sa, sl0, .map (some m)] T_flood_run :: mapR m (fun _ => none) :: slR encI 1 T_int sa (List.replicate g.n (-1)) :: slR encI 1 T_int wm [-1] :: xR sd (List.replicate g.n far) :: xR wf [far] :: hpR F hp [] g.n :: [cellR t8 [sl0, sl0, sl0] T_flood_Tree]) := by
    subst ea ed; exact o10
  clear o10 o9 o8 o7 o6
  refine o11.load 0 rfl rfl ?_
  simp only [pNil_ptr, pField_ptr]
  refine o11.load 1 rfl rfl (ho_push o11 7 rfl (by simp) (by simp) hs fun F1 h12 o12 => ?_)
  refine o12.load 0 rfl rfl ?_
  simp only [pNil_ptr, pField_ptr]
  refine o12.load 1 rfl rfl ?_
  refine ho_pop o12 7 rfl (fun e => by simp [least] at e) fun p hp' F2 h13 o13 => ?_
  have hp2 : p = ((s : Int), 0) := by simpa [least] using hp'.symm
  subst hp2
  simp only [pExt0, pExt1, pExt2]
  refine o13.box fun kb h14 o14 => o14.st1 0 rfl rfl rfl rfl rfl fun h15 o15 => ?_
  have o16 := (o15.noMarks).nilS (enc := encN) (n := 1) (T := T_int)
  refine flood_loop (fin := FS.run g.arcs outs head (g.n + 1) (FS.start g.n s)) (m := m) (sd := sd) (sa := sa) (rr := rr) (hp := hp) hR H hN hE hev hhead hout hol (fun so h' o' => hK sd sa so h' o') ?_
  refine ⟨FS.start g.n s, kb, 0, sl0, F2, _, rfl, rfl, (FInv.start hs).mono (by simp [FS.start]), .inr ⟨((s : Int), 0), hp', rfl, rfl, rfl, rfl⟩, ?_⟩
  have e : (fun _ => none : Int → Option Value) = clo (FS.start g.n s).order := by funext x; simp [clo, FS.start]
  have o17 := o16.sel [2, 3, 4, 10, 6, 5, 8, 0, 11, 1] (by decide)
  dsimp only [List.map, List.getD] at o17
  rw [e] at o17
  exact o17

end
end Go.Proofs.YtoopkllfpmjnfaaGreatDoor

namespace Go.Proofs.YtoopkllfpmjnfaaGreatDoor
open Go Go.Mh
set_option linter.unusedVariables false

section
variable {h0 h : Heap} {L : List Res} {K : Value → Heap → Prop} {g : G} {r : Nat} {s : Int}

theorem out_lt {g : G} {v i : Nat} (h : i ∈ g.out v) : i < g.arcs.length := by
  have := (outsP_mem.1 h).2.1; omega
theorem in_lt {g : G} {v i : Nat} (h : i ∈ g.in v) : i < g.arcs.length := by
  have := (outsP_mem.1 h).2.1; omega

theorem from_ok (hR : g.Right) (H : NetR h r g) (hK : TreeK h (g.fromI s) K) : callS Tryz.prog F_flood_From [ptr r, I s] h K := by
  refine callS_of (lk_flood_From _ _ ?_)
  unfold sh_flood_From
  refine (Own.start h).box fun t4 h1 o1 => ?_
  have fin : TreeK h1 (g.fromI s) fun t9 h_2 => pStore 3 (ptr t4) t9 h_2 fun u h_3 => pLoadN 3 h_3 (ptr t4) fun res => K res h_3 := by
    intro sd sa so h2 o2
    have o3 := o1.frame o2
    refine o3.st 3 rfl rfl rfl rfl rfl ?_ fun h3 o4 => o4.ldN 3 rfl rfl rfl (hK sd sa so h3 (o4.sel [0, 1, 2] (by decide)))
    intro u hu
    simp at hu
    rcases hu with rfl | rfl | rfl
    · exact (o3.vw 0 rfl).plain
    · exact (o3.vw 1 rfl).plain
    · exact (o3.vw 2 rfl).plain
  unfold G.fromI at fin
  split at fin <;> rename_i hs
  · obtain ⟨s, rfl⟩ := Int.eq_ofNat_of_zero_le hs.1
    exact flood_ok hR (H.more o1.ext) (by omega) (out_next hR) from1_end rfl (fun a ha => (hR.ends a ha).2.1) (fun v _ i => out_lt) (fun v => outsP_short) fin
  · exact flood_none (g := g) (.inr ⟨rfl, H.more o1.ext, hs⟩) fin

theorem to_ok (hR : g.Right) (H : NetR h r g) (hK : TreeK h (g.toI s) K) : callS Tryz.prog F_flood_To [ptr r, I s] h K := by
  refine callS_of (lk_flood_To _ _ ?_)
  unfold sh_flood_To
  refine (Own.start h).box fun t4 h1 o1 => ?_
  have fin : TreeK h1 (g.toI s) fun t9 h_2 => pStore 3 (ptr t4) t9 h_2 fun u h_3 => pLoadN 3 h_3 (ptr t4) fun res => K res h_3 := by
    intro sd sa so h2 o2
    have o3 := o1.frame o2
    refine o3.st 3 rfl rfl rfl rfl rfl ?_ fun h3 o4 => o4.ldN 3 rfl rfl rfl (hK sd sa so h3 (o4.sel [0, 1, 2] (by decide)))
    intro u hu
    simp at hu
    rcases hu with rfl | rfl | rfl
    · exact (o3.vw 0 rfl).plain
    · exact (o3.vw 1 rfl).plain
    · exact (o3.vw 2 rfl).plain
  unfold G.toI at fin
  split at fin <;> rename_i hs
  · obtain ⟨s, rfl⟩ := Int.eq_ofNat_of_zero_le hs.1
    exact flood_ok hR (H.more o1.ext) (by omega) (in_next hR) to1_end rfl (fun a ha => (hR.ends a ha).1) (fun v _ i => in_lt) (fun v => outsP_short) fin
  · exact flood_none (g := g) (.inr ⟨rfl, H.more o1.ext, hs⟩) fin

theorem from_nil (hK : TreeK h .none K) : callS Tryz.prog F_flood_From [.pointer none, I s] h K := by
  refine callS_of (lk_flood_From _ _ ?_)
  unfold sh_flood_From
  refine (Own.start h).box fun t4 h1 o1 => flood_none (g := ⟨0, [], [], []⟩) (r := 0) (.inl rfl) fun sd sa so h2 o2 => ?_
  have o3 := o1.frame o2
  refine o3.st 3 rfl rfl rfl rfl rfl ?_ fun h3 o4 => o4.ldN 3 rfl rfl rfl (hK sd sa so h3 (o4.sel [0, 1, 2] (by decide)))
  intro u hu
  simp at hu
  rcases hu with rfl | rfl | rfl
  · exact (o3.vw 0 rfl).plain
  · exact (o3.vw 1 rfl).plain
  · exact (o3.vw 2 rfl).plain
theorem to_nil (hK : TreeK h .none K) : callS Tryz.prog F_flood_To [.pointer none, I s] h K := by
  refine callS_of (lk_flood_To _ _ ?_)
  unfold sh_flood_To
  refine (Own.start h).box fun t4 h1 o1 => flood_none (g := ⟨0, [], [], []⟩) (r := 0) (.inl rfl) fun sd sa so h2 o2 => ?_
  have o3 := o1.frame o2
  refine o3.st 3 rfl rfl rfl rfl rfl ?_ fun h3 o4 => o4.ldN 3 rfl rfl rfl (hK sd sa so h3 (o4.sel [0, 1, 2] (by decide)))
  intro u hu
  simp at hu
  rcases hu with rfl | rfl | rfl
  · exact (o3.vw 0 rfl).plain
  · exact (o3.vw 1 rfl).plain
  · exact (o3.vw 2 rfl).plain

end
end Go.Proofs.YtoopkllfpmjnfaaGreatDoor

namespace Go.Proofs.YtoopkllfpmjnfaaGreatDoor
open Go Go.Mh
set_option linter.unusedVariables false

section
variable {h0 h : Heap} {L : List Res} {K : Value → Heap → Prop} {g : G} {r : Nat} {a b : Int}

theorem maxE16 {a b : Int} : (if b > a then b else a) = max a b := by split <;> omega

theorem dlow_ok (h0 : 0 ≤ a) (h1 : a ≤ far) (h2 : 0 ≤ b) (h3 : b ≤ far) (hK : ∀ h', Ext h h' → K (I (lessI a b)) h') : callS Tryz.prog F_dist_Low [I a, I b] h K := by
  have hf : far = 72057594037927936 := rfl
  refine callS_of (lk_dist_Low _ _ ?_)
  unfold sh_dist_Low
  refine wayS_ok fun h1' x1 => wayS_ok fun h2' x2 => ?_
  rw [kept_in h0 h1, kept_in h2 h3]
  have x12 := x1.trans x2 fun _ h _ => h
  unfold lessI at hK
  refine dfin_ok h2 h3 fun h3' x3 => ?_
  have x13 := x12.trans x3 fun _ h _ => h
  rw [pUn_not]
  by_cases c1 : far ≤ b
  · rw [show decide (b < far) = false from decide_eq_false (by omega), Bool.not_false, ifV_true]
    rw [if_pos c1] at hK
    exact hK _ x13
  · rw [show decide (b < far) = true from decide_eq_true (by omega), Bool.not_true, ifV_false]
    rw [if_neg c1] at hK
    refine dfin_ok h0 h1 fun h4' x4 => ?_
    have x14 := x13.trans x4 fun _ h _ => h
    rw [pUn_not]
    by_cases c2 : far ≤ a
    · rw [show decide (a < far) = false from decide_eq_false (by omega), Bool.not_false, ifV_true]
      rw [if_pos c2] at hK
      exact hK _ x14
    · rw [show decide (a < far) = true from decide_eq_true (by omega), Bool.not_true, ifV_false]
      rw [if_neg c2] at hK
      rw [pBin_sub, w64 (by omega) (by omega)]
      refine wayS_ok fun h5' x5 => ?_
      have := hK _ (x14.trans x5 fun _ h _ => h)
      rw [show kept (a - b) = if 0 < a - b then a - b else 0 by unfold kept; split <;> omega]
      exact this

theorem dlift_ok (h0 : 0 ≤ a) (h1 : a ≤ far) (h2 : 0 ≤ b) (h3 : b ≤ far) (hK : ∀ h', Ext h h' → K (I (lessI b a)) h') : callS Tryz.prog F_dist_Lift [I a, I b] h K := by
  refine callS_of (lk_dist_Lift _ _ ?_)
  unfold sh_dist_Lift
  exact dlow_ok h2 h3 h0 h1 hK

theorem betwS_ok {l g : Nat} {T1 T2 : TypeId} (h1 : h[l]? = some (.cells #[I 0] T1 (0, 0))) (h2 : h[g]? = some (.cells #[I 2305843009213693952] T2 (0, 0))) (hK : K (I (keepS a)) h) :
    callV Tryz.prog (.func (.func F_dist_between_int64_1) #[] #[ptr l, ptr g]) [I a].toArray h K := by
  refine callV_of (l := [I a, ptr l, ptr g]) rfl (lk_dist_between_int64_1 _ _ _ ?_)
  unfold sh_dist_between_int64_1
  have c0 : hcell h ⟨l, 0, none⟩ = some (I 0) := hcell_of h1 rfl
  have c1 : hcell h ⟨g, 0, none⟩ = some (I 2305843009213693952) := hcell_of h2 rfl
  simp only [pLoad_ptr, c0, c1, pMax_int, pMin_int]
  have e : (if 2305843009213693952 < (if (0 : Int) > a then 0 else a) then 2305843009213693952 else (if (0 : Int) > a then 0 else a)) = keepS a := by
    unfold keepS mostS; split <;> split <;> omega
  rw [e]; exact hK

theorem dsat_ok (ha : -4611686018427387904 ≤ a) (ha2 : a ≤ 4611686018427387904) (hK : ∀ h', Ext h h' → K (I (satI a b)) h') : callS Tryz.prog F_dist_Sat [I a, I b] h K := by
  refine callS_of (lk_dist_Sat _ _ ?_)
  unfold sh_dist_Sat
  refine callS_of (lk_dist_between_int64 _ _ ?_)
  unfold sh_dist_between_int64
  refine (Own.start h).box fun l h1 o1 => o1.box fun g h2 o2 => ?_
  refine o2.build (enc := encI) (n := 1) [a, b] rfl (sizesOk_of rfl) rfl fun w h4 o4 => ?_
  refine callS_of (lk_dist_folded _ _ ?_)
  unfold sh_dist_folded
  refine (o4.vw 0 rfl).len ?_
  have hkr : ∀ x, 0 ≤ keepS x ∧ keepS x ≤ 2305843009213693952 := fun x => by unfold keepS mostS; omega
  refine LoopH_count 2 (fun i x h' => x.2.1 = I i ∧ x.1 = I (if i = 0 then 0 else if i = 1 then keepS (0 + keepS a) else satI a b) ∧ Own h h' [slR encI 1 T_int64 w [a, b], cellR g [I 2305843009213693952] T_int64, cellR l [I 0] T_int64]) ⟨rfl, rfl, o4⟩ ?_
  rintro i ⟨sm, x, ⟨⟩⟩ h' Z hi ⟨hx, hsm, o⟩ hZ
  dsimp only at hx hsm hZ ⊢
  subst hx hsm
  unfold sh_dist_folded_L1
  simp only [pBin_lss, ifV_dec]
  refine ⟨fun hlt => ?_, fun hge => ?_⟩
  · have hlt : i < 2 := by simp at hlt; omega
    refine (o.vw 0 rfl).atI (by simpa using hlt) ?_
    refine betwS_ok (o.get 2 rfl) (o.get 1 rfl) ?_
    rcases (show i = 0 ∨ i = 1 by omega) with rfl | rfl
    · have := hkr a
      rw [show ([a, b] : List Int)[0] = a from rfl, pBin_add, w64 (by simp; omega) (by simp; omega)]
      refine betwS_ok (o.get 2 rfl) (o.get 1 rfl) ?_
      rw [pBin_add, wI 0 (by omega)]
      exact hZ (_, (I 1, ())) h' (by omega) ⟨rfl, rfl, o⟩
    · have h1 := hkr b
      have h2 := hkr (0 + keepS a)
      rw [show ([a, b] : List Int)[1] = b from rfl, show (if (1 : Nat) = 0 then (0 : Int) else if (1 : Nat) = 1 then keepS (0 + keepS a) else satI a b) = keepS (0 + keepS a) from rfl, pBin_add, w64 (by omega) (by omega)]
      refine betwS_ok (o.get 2 rfl) (o.get 1 rfl) ?_
      rw [pBin_add, wI 1 (by omega)]
      exact hZ (_, (I 2, ())) h' (by omega) ⟨rfl, rfl, o⟩
  · have : i = 2 := by
      have : ([a, b] : List Int).length = 2 := rfl
      omega
    subst this
    exact hK _ o.ext

/-! ### Marks -/

structure MV where
  node : Nat
  sd : Value
  sa : Value
  so : Value
  fd : Value
  fa : Value
  fo : Value
  pl : ∀ u ∈ [sd, sa, so, fd, fa, fo], Mh.plainCell u = true

def encM (m : MV) : List Value := [I m.node, m.sd, m.sa, m.so, m.fd, m.fa, m.fo]
theorem encM_len (m : MV) : (encM m).length = 7 := rfl
theorem encM_plain (m : MV) : ∀ u ∈ encM m, Mh.plainCell u = true := fun u hu => by
  rcases List.mem_cons.1 hu with rfl | hu
  · rfl
  · exact m.pl u hu

def markL (g : G) (ms : List MV) : List Res := ms.flatMap fun m => [xR m.sd (g.to m.node).dist, xR m.fd (g.from m.node).dist]
def MkV (g : G) (h : Heap) (m : MV) : Prop := m.node < g.n ∧ Vw encI 1 h m.sd (g.to m.node).dist ∧ Vw encI 1 h m.fd (g.from m.node).dist
theorem MkV.more {h' : Heap} {m : MV} (H : MkV g h m) (x : Ext h h') : MkV g h' m := ⟨H.1, H.2.1.more x, H.2.2.more x⟩
theorem markL_vw {ms : List MV} (o : Own h0 h (markL g ms ++ L)) (hn : ∀ m ∈ ms, m.node < g.n) : ∀ m ∈ ms, MkV g h m := fun m hm =>
  ⟨hn m hm, o.vwm (List.mem_append_left _ (List.mem_flatMap.2 ⟨m, hm, List.mem_cons_self⟩)), o.vwm (List.mem_append_left _ (List.mem_flatMap.2 ⟨m, hm, List.mem_cons_of_mem _ List.mem_cons_self⟩))⟩

theorem there_ok {z : Int} (H : NetR h r g) (hK : K (.bool (decide (0 ≤ z ∧ z < g.n))) h) : callS Tryz.prog F_avoid_there [ptr r, I z] h K := by
  refine callS_of (lk_avoid_there _ _ ?_)
  unfold sh_avoid_there
  rw [pNe_ptr_nil, Option.isSome_some, ifV_true, pBin_geq, ifV_dec]
  refine ⟨fun h1 => nodes_ok H ?_, fun h1 => ?_⟩
  · rw [pBin_lss, show decide (z < g.n) = decide (0 ≤ z ∧ z < g.n) by rw [decide_eq_decide]; exact ⟨fun h => ⟨h1, h⟩, fun h => h.2⟩]
    exact hK
  · rw [show decide (0 ≤ z ∧ z < g.n) = false from decide_eq_false fun h => h1 h.1] at hK
    exact hK

theorem bound_ok {ms : List MV} {vl : Value} {r v : Nat} (hR : g.Right) (HM : ∀ m ∈ ms, MkV g h m) (Hl : Vw encM 7 h vl ms) (hl : ms.length < 2 ^ 40) (hr : r < g.n) (hv : v < g.n) (hK : ∀ h', Ext h h' → K (I (bnd g (ms.map MV.node) r v)) h') :
    callS Tryz.prog F_avoid_bound [vl, I r, I v] h K := by
  refine callS_of (lk_avoid_bound _ _ _ ?_)
  unfold sh_avoid_bound
  refine Hl.len ?_
  refine LoopH_count ms.length (fun i x h' => x.1 = I (bnd g ((ms.take i).map MV.node) r v) ∧ x.2.1 = I i ∧ Ext h h') ⟨rfl, rfl, (Own.start h).ext⟩ ?_
  rintro i ⟨x, y, ⟨⟩⟩ h1 Z hi ⟨hx, hy, x1⟩ hZ
  dsimp only at hx hy hZ ⊢
  subst hx hy
  unfold sh_avoid_bound_L1
  rw [pBin_lss, ifV_dec]
  refine ⟨fun hlt => ?_, fun hge => ?_⟩
  · have hlt : i < ms.length := by omega
    refine (Hl.more x1).atN encM_len hlt ?_
    obtain ⟨hm, V1, V2⟩ := (HM _ (List.getElem_mem hlt)).more x1
    have tk : (ms.take (i + 1)).map MV.node = (ms.take i).map MV.node ++ [ms[i].node] := by rw [List.take_succ_eq_append_getElem hlt, List.map_append]; rfl
    rw [tk] at hZ
    generalize ms[i] = m at hm V1 V2 hZ
    have T1 := to_tree hR hm
    have T2 := from_tree hR hm
    have l1 := T1.ls.len
    have l2 := T2.ls.len
    have hr1 : r < (g.to m.node).dist.length := by rw [l1]; exact hr
    have hv1 : v < (g.to m.node).dist.length := by rw [l1]; exact hv
    have hr2 : r < (g.from m.node).dist.length := by rw [l2]; exact hr
    have hv2 : v < (g.from m.node).dist.length := by rw [l2]; exact hv
    refine (Own.start h1).box fun m8 h2 o2 => o2.st (l := encM m) (cs' := encM m) 0 rfl rfl rfl rfl rfl (encM_plain m) fun h3 o3 => ?_
    have o3 : Own h1 h3 [cellR m8 (encM m) T_avoid_mark] := o3
    replace V1 := V1.more o3.ext
    replace V2 := V2.more o3.ext
    simp only [pField_ptr]
    refine o3.load 0 rfl rfl (V1.atI hr1 (o3.load 0 rfl rfl (V1.atI hv1 ?_)))
    refine o3.load 0 rfl rfl (V2.idxI hr2 fun b1 f1 c1 => pLoad_of rfl c1 (o3.load 0 rfl rfl (V2.idxI hv2 fun b2 f2 c2 => pLoad_of rfl c2 ?_)))
    rw [dAt_get hr1, dAt_get hv1]
    rw [dAt_get hr2] at c1
    rw [dAt_get hv2] at c2
    rw [dAt_get hr2, dAt_get hv2]
    refine dlow_ok (T1.ls.nonneg hr) (T1.ls.far_le hr) (T1.ls.nonneg hv) (T1.ls.far_le hv) fun h4 x4 => ?_
    have o4 := o3.more x4
    refine ⟨o4.load 0 rfl rfl rfl, pLoad_of rfl (hcell_more x4 c1) rfl, o4.load 0 rfl rfl rfl, pLoad_of rfl (hcell_more x4 c2) rfl, ?_⟩
    refine dlift_ok (T2.ls.nonneg hr) (T2.ls.far_le hr) (T2.ls.nonneg hv) (T2.ls.far_le hv) fun h5 x5 => ?_
    rw [pMax_int, pMax_int, maxE16, maxE16, pBin_add, wI i (by omega)]
    refine hZ (_, _, ()) h5 hlt ⟨?_, rfl, x1.trans (o4.more x5).ext fun _ h _ => h⟩
    rw [bnd_snoc]
    rfl
  · have : i = ms.length := by omega
    subst this
    rw [List.take_length]
    exact hK _ x1

theorem marks_ok {l : List Int} {vl : Value} (o : Own h0 h L) (hR : g.Right) (H : NetR h r g) (Hl : Vw encI 1 h vl l) (hl : l.length < 2 ^ 32)
    (hK : ∀ w ms h', ms.map MV.node = mksZ g.n l → Own h0 h' (slR encM 7 T_avoid_mark w ms :: (markL g ms ++ L)) → K w h') : callS Tryz.prog F_avoid_marks [ptr r, vl] h K := by
  refine callS_of (lk_avoid_marks _ _ ?_)
  unfold sh_avoid_marks
  refine Hl.len ?_
  refine LoopH_count l.length (fun i x h' => x.2.1 = I i ∧ ∃ ms, ms.map MV.node = mksZ g.n (l.take i) ∧ Own h h' (slR encM 7 T_avoid_mark x.1 ms :: markL g ms)) ⟨rfl, [], rfl, (Own.start h).nilS⟩ ?_
  rintro i ⟨w, y, ⟨⟩⟩ h1 Z hi ⟨hy, ms, hms, o1⟩ hZ
  dsimp only at hy o1 hZ ⊢
  subst hy
  unfold sh_avoid_marks_L1
  rw [pBin_lss, ifV_dec]
  refine ⟨fun hlt => ?_, fun hge => ?_⟩
  · have hlt : i < l.length := by omega
    have x1 := o1.ext
    refine (Hl.more x1).atI hlt ?_
    have tk : l.take (i + 1) = l.take i ++ [l[i]] := List.take_succ_eq_append_getElem hlt
    have hml : ms.length ≤ i := by
      rw [← List.length_map (f := MV.node), hms]
      unfold mksZ
      rw [List.length_map]
      have := List.length_filter_le (fun (z : Int) => decide (0 ≤ z ∧ z < g.n)) (l.take i)
      rw [List.length_take] at this
      omega
    generalize l[i] = z at tk
    have nxt : ∀ w' ms' h', ms'.map MV.node = mksZ g.n (l.take (i + 1)) → Own h h' (slR encM 7 T_avoid_mark w' ms' :: markL g ms') → sh_avoid_marks_k2 Tryz.prog (I i) (fun a0 a1 hz => Z (a0, (a1, ())) hz) w' h' := fun w' ms' h' hm o' => by
      unfold sh_avoid_marks_k2
      rw [pBin_add, wI i (by omega)]
      exact hZ (_, _, ()) h' hlt ⟨rfl, ms', hm, o'⟩
    refine there_ok (H.more x1) ?_
    rw [ifV_dec]
    refine ⟨fun hz => ?_, fun hz => nxt w ms h1 ?_ o1⟩
    · obtain ⟨m, rfl⟩ : ∃ m : Nat, z = m := Int.eq_ofNat_of_zero_le hz.1
      have hm : m < g.n := by omega
      refine to_ok hR (H.more x1) fun sd sa so h2 o2' => ?_
      have o2 := o1.frame o2'
      clear o2'
      refine from_ok hR (H.more o2.ext) fun fd fa fo h3 o3' => ?_
      have o3 := o2.frame o3'
      clear o2 o3'
      rw [show g.toI m = g.to m by simp [G.toI, hm], show g.fromI m = g.from m by simp [G.fromI, hm]] at o3
      have q0 := (o3.vw 0 rfl).plain
      have q1 := (o3.vw 1 rfl).plain
      have q2 := (o3.vw 2 rfl).plain
      have q3 := (o3.vw 3 rfl).plain
      have q4 := (o3.vw 4 rfl).plain
      have q5 := (o3.vw 5 rfl).plain
      have hp : ∀ u ∈ [sd, sa, so, fd, fa, fo], Mh.plainCell u = true := by
        intro u hu
        simp at hu
        rcases hu with rfl | rfl | rfl | rfl | rfl | rfl <;> assumption
      refine ⟨sizesOk_of rfl, ?_⟩
      refine o3.app1 6 (⟨m, sd, sa, so, fd, fa, fo, hp⟩ : MV) rfl rfl (sizesOk_of rfl) encM_len encM_plain rfl (by decide) (by omega) fun w' h4 o4 => ?_
      refine nxt w' (ms ++ [⟨m, sd, sa, so, fd, fa, fo, hp⟩]) h4 ?_ ?_
      · rw [List.map_append, hms, tk, mksZ_snoc, if_pos hz]; rfl
      · have o5 : Own h h4 ([xR sd (g.to m).dist, xR fd (g.from m).dist] ++ (slR encM 7 T_avoid_mark w' (ms ++ [⟨m, sd, sa, so, fd, fa, fo, hp⟩]) :: markL g ms)) := o4.front 6 [3, 0] (by decide) (by decide)
        have o6 := Own.comm o5
        unfold markL at o6 ⊢
        rw [List.flatMap_append]
        exact o6
    · rw [hms, tk, mksZ_snoc, if_neg hz, List.append_nil]
  · have : i = l.length := by omega
    subst this
    rw [List.take_length] at hms
    exact hK w ms h1 hms (o.frame o1)

/-- A bound, of any numbers. -/
def bndZ (g : G) (l : List Int) (r v : Int) : Int := if (0 ≤ r ∧ r < g.n) ∧ 0 ≤ v ∧ v < g.n then bnd g (mksZ g.n l) r.toNat v.toNat else 0

theorem aBound_ok {l : List Int} {vl : Value} {z v : Int} (hR : g.Right) (H : NetR h r g) (Hl : Vw encI 1 h vl l) (hl : l.length < 2 ^ 32) (hK : ∀ h', Ext h h' → K (I (bndZ g l z v)) h') : callS Tryz.prog F_avoid_Bound [ptr r, vl, I z, I v] h K := by
  refine callS_of (lk_avoid_Bound _ _ _ _ ?_)
  unfold sh_avoid_Bound sh_avoid_Bound_k1
  unfold bndZ at hK
  refine there_ok H ?_
  rw [pUn_not]
  by_cases h1 : 0 ≤ z ∧ z < g.n
  case neg =>
    rw [decide_eq_false h1, Bool.not_false, ifV_true]
    rw [if_neg fun h => h1 h.1] at hK
    exact hK h (Own.start h).ext
  rw [decide_eq_true h1, Bool.not_true, ifV_false]
  refine there_ok H ?_
  rw [pUn_not]
  by_cases h2 : 0 ≤ v ∧ v < g.n
  · rw [decide_eq_true h2, Bool.not_true, ifV_false]
    rw [if_pos ⟨h1, h2⟩] at hK
    obtain ⟨s, rfl⟩ : ∃ s : Nat, z = s := Int.eq_ofNat_of_zero_le h1.1
    obtain ⟨u, rfl⟩ : ∃ s : Nat, v = s := Int.eq_ofNat_of_zero_le h2.1
    rw [Int.toNat_natCast, Int.toNat_natCast] at hK
    refine marks_ok (Own.start h) hR H Hl hl fun w ms h3 hms o3 => ?_
    rw [← hms] at hK
    have hml : ms.length ≤ l.length := by
      rw [← List.length_map (f := MV.node), hms]
      unfold mksZ
      rw [List.length_map]
      exact List.length_filter_le _ _
    have hlt : ∀ m ∈ ms, m.node < g.n := fun m hm => mksZ_lt (l := l) _ (by rw [← hms]; exact List.mem_map_of_mem hm)
    refine bound_ok hR (markL_vw o3.tail hlt) (o3.vw 0 rfl) (by omega) (by omega) (by omega) fun h4 x4 => hK _ (o3.more x4).ext
  · rw [decide_eq_false h2, Bool.not_false, ifV_true]
    rw [if_neg fun h => h2 h.2] at hK
    exact hK h (Own.start h).ext

end
end Go.Proofs.YtoopkllfpmjnfaaGreatDoor

namespace Go.Proofs.YtoopkllfpmjnfaaGreatDoor
open Go Go.Mh
set_option linter.unusedVariables false

section
variable {h0 h : Heap} {L : List Res} {K : Value → Heap → Prop} {g : G} {r : Nat} {vo : Value} {O : List Nat}

def backN (O : List Nat) (i : Nat) (x : List Value) (i' : Nat) : Prop := i < O.length ∧ i' = i + 1 ∧ ∃ k : Int, x = [I k, I (O.reverse.getD i 0 : Nat)]
def revN (O : List Nat) (i : Nat) (x : List Value) (i' : Nat) : Prop := i < O.length ∧ i' = i + 1 ∧ x = [I (O.reverse.getD i 0 : Nat)]
def fwdN (O : List Nat) (i : Nat) (x : List Value) (i' : Nat) : Prop := i < O.length ∧ i' = i + 1 ∧ x = [I (O.getD i 0 : Nat)]

theorem rev_at {i : Nat} (h : i < O.length) : O.reverse.getD i 0 = O[O.length - 1 - i]'(by omega) := by
  rw [List.getD_eq_getElem?_getD, List.getElem?_reverse h, List.getElem?_eq_getElem (by omega)]; rfl

theorem back_iter {b : Nat} {T : TypeId} (hl : O.length < 2 ^ 40) : IterG Tryz.prog (.func (.func F_slices_Backward_sl_int_int_1) #[] #[ptr b]) (fun h => h[b]? = some (.cells #[vo] T (0, 0)) ∧ Vw encN 1 h vo O) (σ := Nat) 0 (backN O) (fun i => i = O.length) := by
  rintro yv h0 h Rs K J E ⟨l, rfl⟩ o j0 hQ hY hK
  refine callF_of (l := [yieldV l, ptr b]) rfl (lk_slices_Backward_sl_int_int_1 _ _ ?_)
  unfold sh_slices_Backward_sl_int_int_1
  obtain ⟨hb, hv⟩ := hQ _ _ _ j0 o
  have hc : hcell h ⟨b, 0, none⟩ = some vo := hcell_of hb rfl
  refine pLoad_of rfl hc (hv.len ?_)
  rw [pBin_sub, w64 (by omega) (by omega)]
  refine LoopH_count O.length (fun i x h' => x.1 = I ((O.length : Int) - 1 - i) ∧ ∃ Rs', J i Rs' ∧ Own h0 h' Rs') ⟨by show I _ = I _; congr 1; omega, Rs, j0, o⟩ ?_
  clear hb hv hc o j0
  rintro i ⟨x, ⟨⟩⟩ h Z hi ⟨hx, Rs', hj, o⟩ hZ
  dsimp only at hx hZ ⊢
  subst hx
  unfold sh_slices_Backward_sl_int_int_1_L1
  rw [pBin_geq, ifV_dec]
  refine ⟨fun hlt => ?_, fun hge => ?_⟩
  · have hlt : i < O.length := by omega
    obtain ⟨hb, hv⟩ := hQ _ _ _ hj o
    have hc : hcell h ⟨b, 0, none⟩ = some vo := hcell_of hb rfl
    refine pLoad_of rfl hc ?_
    rw [show ((O.length : Int) - 1 - i) = ((O.length - 1 - i : Nat) : Int) by omega]
    refine hv.at1 (e := fun (x : Nat) => I x) (fun _ => rfl) (show O.length - 1 - i < O.length by omega) ?_
    rw [← rev_at hlt]
    refine hY i _ (i + 1) Rs' [] h _ ⟨hlt, rfl, _, rfl⟩ hj o.nilTail (fun Rs'' h'' hj' o' => ?_) fun Rs'' h'' he o' => ?_
    · rw [pUn_not, Bool.not_true, ifV_false, pBin_sub, w64 (by omega) (by omega)]
      exact hZ (_, ()) h'' hlt ⟨by show I _ = I _; congr 1; omega, Rs'', hj', o'.toNil⟩
    · rw [pUn_not, Bool.not_false, ifV_true]
      exact hK _ _ (.inr he) o'.toNil
  · have : i = O.length := by omega
    exact hK _ _ (.inl ⟨i, this, hj⟩) o

theorem valsN_iter {b : Nat} {T : TypeId} (hl : O.length < 2 ^ 40) : IterG Tryz.prog (.func (.func F_slices_Values_sl_int_int_1) #[] #[ptr b]) (fun h => h[b]? = some (.cells #[vo] T (0, 0)) ∧ Vw encN 1 h vo O) (σ := Nat) 0 (fwdN O) (fun i => i = O.length) := by
  rintro yv h0 h Rs K J E ⟨l, rfl⟩ o j0 hQ hY hK
  refine callF_of (l := [yieldV l, ptr b]) rfl (lk_slices_Values_sl_int_int_1 _ _ ?_)
  unfold sh_slices_Values_sl_int_int_1
  obtain ⟨hb, hv⟩ := hQ _ _ _ j0 o
  have hc : hcell h ⟨b, 0, none⟩ = some vo := hcell_of hb rfl
  refine pLoad_of rfl hc (hv.len ?_)
  refine LoopH_count O.length (fun i x h' => x.1 = I i ∧ ∃ Rs', J i Rs' ∧ Own h0 h' Rs') ⟨rfl, Rs, j0, o⟩ ?_
  clear o j0 hc hb
  have hv0 := hv
  rintro i ⟨x, ⟨⟩⟩ h Z hi ⟨hx, Rs', hj, o⟩ hZ
  dsimp only at hx hZ ⊢
  subst hx
  unfold sh_slices_Values_sl_int_int_1_L1
  rw [pBin_lss, ifV_dec]
  refine ⟨fun hlt => ?_, fun hge => ?_⟩
  · have hlt : i < O.length := by omega
    obtain ⟨_, hv⟩ := hQ _ _ _ hj o
    refine hv.at1 (e := fun (x : Nat) => I x) (fun _ => rfl) hlt ?_
    have e : O[i] = O.getD i 0 := by rw [List.getD_eq_getElem?_getD, List.getElem?_eq_getElem hlt]; rfl
    rw [e]
    refine hY i _ (i + 1) Rs' [] h _ ⟨hlt, rfl, rfl⟩ hj o.nilTail (fun Rs'' h'' hj' o' => ?_) fun Rs'' h'' he o' => ?_
    · rw [pUn_not, Bool.not_true, ifV_false, pBin_add, wI i (by omega)]
      exact hZ (_, ()) h'' hlt ⟨rfl, Rs'', hj', o'.toNil⟩
    · rw [pUn_not, Bool.not_false, ifV_true]
      exact hK _ _ (.inr he) o'.toNil
  · have : i = O.length := by omega
    exact hK _ _ (.inl ⟨i, this, hj⟩) o

theorem behind_iter {b : Nat} {T : TypeId} (hl : O.length < 2 ^ 40) : IterG Tryz.prog (.func (.func F_avoid_behind_1) #[] #[ptr b]) (fun h => h[b]? = some (.cells #[vo] T (0, 0)) ∧ Vw encN 1 h vo O) (σ := Nat) 0 (revN O) (fun i => i = O.length) := by
  rintro yv h0 h Rs K J E ⟨l, rfl⟩ o j0 hQ hY hK
  refine callF_of (l := [yieldV l, ptr b]) rfl (lk_avoid_behind_1 _ _ ?_)
  unfold sh_avoid_behind_1
  obtain ⟨hb, hv⟩ := hQ _ _ _ j0 o
  have hone := hv.one
  refine o.box fun y2 h1 o1 => ?_
  have o1 : Own h0 h1 (cellR y2 [yieldV l] T_func_int_bool :: Rs) := o1
  obtain ⟨hb1, hv1⟩ := hQ _ _ _ j0 o1.tail
  have hc : hcell h1 ⟨b, 0, none⟩ = some vo := hcell_of hb1 rfl
  refine pLoad_of rfl hc ?_
  refine callS_of (lk_slices_Backward_sl_int_int _ ?_)
  unfold sh_slices_Backward_sl_int_int
  refine o1.box fun s1 h2 o2 => ?_
  rw [show (Value.cells vo).toList = [vo] by rw [hone]] at o2
  refine o2.range (back_iter (O := O) (vo := vo) (T := T_sl_int) hl) (by rintro i x i' ⟨_, _, k, rfl⟩; rfl)
    (fun i Rs1 => ∃ Rs', Rs1 = cellR s1 [vo] T_sl_int :: cellR y2 [yieldV l] T_func_int_bool :: Rs' ∧ J i Rs')
    (fun Rs1 => ∃ Rs', Rs1 = cellR s1 [vo] T_sl_int :: cellR y2 [yieldV l] T_func_int_bool :: Rs' ∧ E Rs') (fun _ _ => False) ⟨Rs, rfl, j0⟩ ?_ ?_ ?_ ?_ (fun _ _ _ h => h.elim)
  · rintro i Rs1 h' ⟨Rs', rfl, hj⟩ o'
    exact ⟨o'.get 0 rfl, (hQ _ _ _ hj o'.tail.tail).2⟩
  · rintro M i x i' Rs1 Pr h' R ⟨h1, rfl, k, rfl⟩ ⟨Rs', rfl, hj⟩ o' hN hR _
    dsimp only [valsOf]
    unfold sh_avoid_behind_1_B1
    refine o'.begin 0 rfl fun h3 o3 => ?_
    refine o3.load 3 rfl rfl ?_
    have o4 : Own h0 h3 ([loopR (h2.size + 1) (lo M .busy none), markR h2.size, cellR s1 [vo] T_sl_int, cellR y2 [yieldV l] T_func_int_bool] ++ (Rs' ++ Pr)) := o3
    have o5 := Own.comm o4
    rw [List.append_assoc] at o5
    refine hY i _ (i + 1) Rs' _ h3 _ ⟨h1, rfl, rfl⟩ hj o5 (fun Rs'' h'' hj' o6 => ?_) fun Rs'' h'' he o6 => ?_
    · rw [pUn_not, Bool.not_true, ifV_false]
      rw [← List.append_assoc] at o6
      exact hN _ h'' ⟨Rs'', rfl, hj'⟩ (Own.comm o6)
    · rw [pUn_not, Bool.not_false, ifV_true]
      rw [← List.append_assoc] at o6
      exact hR _ h'' ⟨Rs'', rfl, he⟩ (Own.comm o6)
  · rintro i h' Rs1 rfl ⟨Rs', rfl, hj⟩ o'
    exact o'.take1 0 rfl fun h10 o10 => hK _ _ (.inl ⟨_, rfl, hj⟩) o10.tail.tail.tail
  · rintro h' Rs1 ⟨Rs', rfl, he⟩ o'
    exact o'.take1 0 rfl fun h10 o10 => hK _ _ (.inr he) o10.tail.tail.tail

/-! ### The best -/

def bestV : Option Nat → Value
  | none => I (-1)
  | some w => I w

theorem best_ok16 {fv hv : Value} {f : Nat → Int} {Q : Heap → Prop} (o : Own h0 h L) (hone : hv.cells = #[hv]) (hpl : Mh.plainCell hv = true) (hI : IterG Tryz.prog fv Q (σ := Nat) 0 (fwdN O) (fun i => i = O.length)) (hQ : ∀ h', Own h0 h' L → Q h')
    (hH : ∀ h' (v : Nat) (K : Value → Heap → Prop), v ∈ O → Own h0 h' L → K (I (f v)) h' → callV Tryz.prog hv [I v].toArray h' K) (hK : ∀ h', Own h0 h' L → K (bestV (bestS f O)) h') : callS Tryz.prog F_avoid_best_int64 [fv, hv] h K := by
  refine callS_of (lk_avoid_best_int64 _ _ ?_)
  unfold sh_avoid_best_int64
  refine o.box fun a3 h1 o1 => o1.box fun f5 h2 o2 => o2.st1 0 (cs' := [I (-1)]) rfl rfl rfl rfl rfl fun h3 o3 => ?_
  have o3 : Own h0 h3 (cellR f5 [bestV (bestS f (O.take 0))] T_int :: cellR a3 [hv] T_func_int_int64 :: L) := by
    have : (Value.cells hv).toList = [hv] := by rw [hone]
    rw [this] at o3
    exact o3
  clear o1 o2
  refine o3.range hI (by rintro i x i' ⟨_, _, rfl⟩; rfl) (fun i Rs => i ≤ O.length ∧ Rs = cellR f5 [bestV (bestS f (O.take i))] T_int :: cellR a3 [hv] T_func_int_int64 :: L) (fun _ => False) (fun _ _ => False) ⟨Nat.zero_le _, rfl⟩ ?_ ?_ ?_ (fun _ _ h => h.elim) (fun _ _ _ h => h.elim)
  · rintro i Rs h' ⟨_, rfl⟩ o'
    exact hQ _ o'.tail.tail
  · rintro M i x i' Rs Pr h' R ⟨h1, rfl, rfl⟩ ⟨_, rfl⟩ o' hN _ _
    dsimp only [valsOf]
    unfold sh_avoid_best_int64_B1
    have e : O.getD i 0 = O[i] := by rw [List.getD_eq_getElem?_getD, List.getElem?_eq_getElem h1]; rfl
    rw [e]
    have hmem : O[i] ∈ O := List.getElem_mem h1
    have hsn : bestS f (O.take (i + 1)) = bst1 f (bestS f (O.take i)) O[i] := by rw [List.take_succ_eq_append_getElem h1, bestS_snoc]
    have hold : ∀ w, bestS f (O.take i) = some w → w ∈ O := fun w hw => by
      rcases bestS_is (f := f) (l := O.take i) with ⟨e, _⟩ | ⟨w', e, h1, _⟩
      · rw [e] at hw; cases hw
      · rw [e] at hw; cases hw; exact List.mem_of_mem_take h1
    generalize O[i] = v at hmem hsn
    generalize bestS f (O.take i) = b at o' hsn hold
    refine o'.begin 0 rfl fun h4 o4 => ?_
    have o4 : Own h0 h4 (loopR (h3.size + 1) (lo M .busy none) :: markR h3.size :: cellR f5 [bestV b] T_int :: cellR a3 [hv] T_func_int_int64 :: (L ++ Pr)) := o4
    have oL : Own h0 h4 L := o4.tail.tail.tail.tail.left
    have k2 : bst1 f b v = some v → sh_avoid_best_int64_k2 Tryz.prog (ptr f5) (I v) R h4 := fun hb => by
      unfold sh_avoid_best_int64_k2
      refine o4.st1 2 (cs' := [I v]) rfl rfl rfl rfl rfl fun h5 o5 => ?_
      refine hN _ h5 ⟨h1, rfl⟩ ?_
      rw [hsn, hb]
      exact o5
    have same : bst1 f b v = b → R .normal h4 := fun hb => by
      refine hN _ h4 ⟨h1, rfl⟩ ?_
      rw [hsn, hb]
      exact o4
    refine o4.load 3 rfl rfl (hH _ _ _ hmem oL ?_)
    rw [pBin_gtr, ifV_dec]
    refine ⟨fun hp => o4.load 2 rfl rfl ?_, fun hn => same (if_neg fun h => hn h.1)⟩
    cases b with
    | none =>
      show pBin .lss (I (-1)) _ _
      rw [pBin_lss, show decide ((-1 : Int) < 0) = true from rfl, ifV_true]
      exact k2 (if_pos ⟨hp, rfl⟩)
    | some w =>
      show pBin .lss (I w) _ _
      rw [pBin_lss, show decide ((w : Int) < 0) = false from decide_eq_false (by omega), ifV_false]
      refine o4.load 3 rfl rfl (o4.load 2 rfl rfl (hH _ w _ (hold w rfl) oL ?_))
      rw [pBin_gtr, ifV_dec]
      refine ⟨fun hw => k2 (if_pos ⟨hp, decide_eq_true (.inl hw)⟩), fun hw => o4.load 3 rfl rfl (o4.load 2 rfl rfl (hH _ w _ (hold w rfl) oL ?_))⟩
      rw [pBin_eql, ifV_beq]
      refine ⟨fun he => o4.load 2 rfl rfl ?_, fun he => same (if_neg fun h => by have := of_decide_eq_true h.2; omega)⟩
      show pBin .lss _ (I w) _
      rw [pBin_lss, ifV_dec]
      exact ⟨fun hl => k2 (if_pos ⟨hp, decide_eq_true (.inr ⟨he, by omega⟩)⟩), fun hl => same (if_neg fun h => by have := of_decide_eq_true h.2; omega)⟩
  · rintro i h' Rs rfl ⟨_, rfl⟩ o'
    rw [List.take_length] at o'
    refine o'.load 1 rfl rfl (o'.take1 0 rfl fun h10 o10 => ?_)
    exact hK _ o10.tail.tail.tail

end
end Go.Proofs.YtoopkllfpmjnfaaGreatDoor

namespace Go.Proofs.YtoopkllfpmjnfaaGreatDoor
open Go Go.Mh
set_option linter.unusedVariables false

section
variable {h0 h : Heap} {L : List Res} {K : Value → Heap → Prop} {g : G} {r : Nat}

/-- An arc of any number. -/
theorem arcW_ok {z : Int} (H : NetR h r g) (hK : ∀ h', Ext h h' → K (.tuple #[vA (wArc g.arcs z).1, .bool (wArc g.arcs z).2]) h') : callS Tryz.prog F_net_Net_Arc [ptr r, I z] h K := by
  refine arcI_ok H (fun i hi e h' x => ?_) fun hn h' x => ?_
  · subst e
    have := hK h' x
    rw [show wArc g.arcs (i : Int) = (g.arcs[i], true) by simp [wArc, arcAt, hi]] at this
    exact this
  · have := hK h' x
    rw [wArc, if_neg hn] at this
    exact this

theorem wArc_w (hR : g.Right) {z : Int} : ((wArc g.arcs z).1.w : Int) ≤ 2147483647 := by
  unfold wArc
  split
  · rename_i h1
    have := (hR.ends _ (arcAt_mem (l := g.arcs) (i := z.toNat) (by omega))).2.2
    show ((arcAt g.arcs z.toNat).w : Int) ≤ _
    omega
  · decide

end
end Go.Proofs.YtoopkllfpmjnfaaGreatDoor

namespace Go.Proofs.YtoopkllfpmjnfaaGreatDoor
open Go Go.Mh
set_option linter.unusedVariables false

/-- A tree that grows, and all that it stands on. -/
abbrev growL (g : G) (t : Tr) (rn r pt tr m pm b5 b4 b3 : Nat) (vs vm sd sa so vl : Value) (f : Int → Option Value) (S : GS) (rest : List Res) : List Res :=
  cellR pt [ptr tr] T_p_avoid_tree :: cellR tr [sd, sa, so, .map (some m), vs] T_avoid_tree :: mapR m f :: cellR pm [vm] T_sl_int :: slR encI 1 T_int vm S.mc :: xR vs S.sz :: xR sd t.dist :: slR encI 1 T_int sa t.arc :: slR encN 1 T_int so t.order ::
    cellR b5 [I r] T_int :: cellR b4 [vl] T_sl_avoid_mark :: cellR b3 [ptr rn] T_p_net_Net :: rest

section
variable {h0 h : Heap} {L Pr : List Res} {K : Value → Heap → Prop} {g : G} {t : Tr} {rn r pt tr m pm b5 b4 b3 : Nat} {vs vm sd sa so vl : Value} {f : Int → Option Value} {S : GS} {a b : Res} {kv : Nat → Value} {R : Exit → Heap → Prop} {v : Nat}

theorem wArc_par {l : List A} {z : Int} : ((wArc l z).2 = true ↔ 0 ≤ z ∧ z < l.length) ∧ ((wArc l z).2 = true → (wArc l z).1 = arcAt l z.toNat) := by
  unfold wArc
  split
  · rename_i h
    exact ⟨⟨fun _ => h, fun _ => rfl⟩, fun _ => rfl⟩
  · rename_i h
    exact ⟨⟨fun e => (by cases e), fun e => absurd e h⟩, fun e => (by cases e)⟩

theorem grow6_ok (hN : NetR h0 rn g) (hal : t.arc.length = g.n) (hv : v < g.n) (hn : g.n ≤ 16) (hpr : ∀ p, parT g.arcs t v = some p → p < g.n) (hkl : ∀ x, (S.kd x).length ≤ 2 ^ 32) (hf : ∀ u : Nat, (f u).getD sl0 = kv u)
    (o : Own h0 h (a :: b :: growL g t rn r pt tr m pm b5 b4 b3 vs vm sd sa so vl f S (famR encN 1 T_int kv S.kd g.n ++ Pr)))
    (hR : ∀ f' kv' h', (∀ u : Nat, (f' u).getD sl0 = kv' u) → Own h0 h' (a :: b :: growL g t rn r pt tr m pm b5 b4 b3 vs vm sd sa so vl f' ⟨S.sz, S.mc, updK S.kd v (parT g.arcs t v)⟩ (famR encN 1 T_int kv' (updK S.kd v (parT g.arcs t v)) g.n ++ Pr)) → R .normal h') :
    sh_avoid_grow_k6 Tryz.prog (ptr b3) (ptr pt) (I v) R h := by
  unfold sh_avoid_grow_k6
  obtain ⟨w1, w2⟩ := @wArc_par g.arcs (t.arc.getD v (-1))
  refine cutP_of (fun y h' => ∃ a15 : Nat, y.1 = ptr a15 ∧ y.2.1 = .bool (wArc g.arcs (t.arc.getD v (-1))).2 ∧ Own h0 h' (cellR a15 [I (wArc g.arcs (t.arc.getD v (-1))).1.f, I (wArc g.arcs (t.arc.getD v (-1))).1.t, I (wArc g.arcs (t.arc.getD v (-1))).1.w] T_api_Arc :: a :: b :: growL g t rn r pt tr m pm b5 b4 b3 vs vm sd sa so vl f S (famR encN 1 T_int kv S.kd g.n ++ Pr))) (fun J hJ => ?_) ?_
  · refine o.load 13 rfl rfl (o.load 2 rfl rfl ?_)
    simp only [pNil_ptr, pField_ptr]
    refine o.load 3 rfl rfl ((o.vw 9 rfl).atI (by rw [hal]; exact hv) ?_)
    rw [arc_get (by rw [hal]; exact hv)]
    generalize t.arc.getD v (-1) = z at hJ
    refine ⟨arcW_ok (hN.more o.ext) fun h1 x1 => ?_, o.box fun a15 h1 o1 => arcW_ok (hN.more o1.ext) fun h2 x2 => ?_⟩
    · have o1 := o.more x1
      simp only [pExt0, pExt1]
      refine o1.box fun a15 h2 o2 => o2.st (cs' := [I (wArc g.arcs z).1.f, I (wArc g.arcs z).1.t, I (wArc g.arcs z).1.w]) 0 rfl rfl rfl rfl rfl (by intro u hu; simp at hu; rcases hu with rfl | rfl | rfl <;> rfl) fun h3 o3 => hJ _ _ ⟨a15, rfl, rfl, o3⟩
    · have o2 := o1.more x2
      simp only [pExt0, pExt1]
      refine o2.st (cs' := [I (wArc g.arcs z).1.f, I (wArc g.arcs z).1.t, I (wArc g.arcs z).1.w]) 0 rfl rfl rfl rfl rfl (by intro u hu; simp at hu; rcases hu with rfl | rfl | rfl <;> rfl) fun h3 o3 => hJ _ _ ⟨a15, rfl, rfl, o3⟩
  · rintro ⟨y1, y2, ⟨⟩⟩ h' ⟨a15, hy1, hy2, o1⟩
    dsimp only at hy1 hy2 ⊢
    subst hy1 hy2
    unfold sh_avoid_grow_C7
    cases hw : (wArc g.arcs (t.arc.getD v (-1))).2 with
    | false =>
      rw [ifV_false]
      have hp : parT g.arcs t v = none := by
        unfold parT
        rw [if_neg fun h => by rw [w1.2 h] at hw; cases hw]
      rw [hp] at hR
      exact hR f kv h' hf o1.tail
    | true =>
      rw [ifV_true]
      have hz := w1.1 hw
      have ha := w2 hw
      have hp : parT g.arcs t v = some (arcAt g.arcs (t.arc.getD v (-1)).toNat).f := by unfold parT; rw [if_pos hz]
      rw [ha] at o1
      have hpn := hpr _ hp
      rw [hp] at hR
      generalize arcAt g.arcs (t.arc.getD v (-1)).toNat = q at o1 hR hpn
      refine o1.load 3 rfl rfl ?_
      simp only [pNil_ptr, pField_ptr]
      refine o1.load 4 rfl rfl (o1.load 0 rfl rfl (o1.load 3 rfl rfl ?_))
      simp only [pNil_ptr, pField_ptr]
      refine o1.load 4 rfl rfl (o1.load 0 rfl rfl (o1.look 5 rfl ?_))
      have hfq := hf q.f
      show pBuildSlice T_int _ _ 1 h' fun t137 h_145 => pAppend T_int 1 8 _ ((f q.f).getD sl0) t137 h_145 _
      rw [hfq]
      have hi : (cellR a15 [I q.f, I q.t, I q.w] T_api_Arc :: a :: b :: growL g t rn r pt tr m pm b5 b4 b3 vs vm sd sa so vl f S (famR encN 1 T_int kv S.kd g.n ++ Pr))[q.f + 15]? = some (slR encN 1 T_int (kv q.f) (S.kd q.f)) := by
        show (famR encN 1 T_int kv S.kd g.n ++ Pr)[q.f]? = _
        rw [List.getElem?_append_left (by simp [famR]; exact hpn), famR_get hpn]
      have := hkl q.f
      refine o1.app1 (q.f + 15) v hi rfl (sizesOk_of rfl) (fun _ => rfl) encN_plain rfl (by decide) (by omega) fun w h2 o2 => ?_
      have o2 : Own h0 h2 (cellR a15 [I q.f, I q.t, I q.w] T_api_Arc :: a :: b :: growL g t rn r pt tr m pm b5 b4 b3 vs vm sd sa so vl f S ((famR encN 1 T_int kv S.kd g.n ++ Pr).set q.f (slR encN 1 T_int w (S.kd q.f ++ [v])))) := o2
      rw [List.set_append_left _ _ (by simp [famR]; exact hpn), famR_set] at o2
      refine ⟨o2.load 3 rfl rfl rfl, o2.load 4 rfl rfl rfl, o2.load 0 rfl rfl rfl, ?_⟩
      refine o2.mapPut (f' := fset f q.f w) 5 rfl (fun x => rfl) fun h3 o3 => ?_
      refine hR (fset f q.f w) (upF kv q.f w) h3 (fun u => ?_) ?_
      · unfold fset upF
        by_cases e : u = q.f
        · subst e; simp
        · rw [if_neg (by omega), if_neg e]; exact hf u
      · have e : updK S.kd v (some q.f) = upF S.kd q.f (S.kd q.f ++ [v]) := by
          funext x
          unfold updK upF
          by_cases e : x = q.f
          · subst e; simp
          · simp [e]
        rw [e]
        exact o3.tail

/-- The marks of a node and of some of its kids. -/
def mcq (S : GS) (v q : Nat) : Int := ((S.kd v).take q).foldl (fun a k => a + S.mc.getD k 0) (S.mc.getD v 0)
def owq (S : GS) (v : Nat) (w0 : Int) (q : Nat) : Int := ((S.kd v).take q).foldl (fun a k => satI a (S.sz.getD k 0)) w0

theorem mcq_rng (hm : ∀ u, 0 ≤ S.mc.getD u 0 ∧ S.mc.getD u 0 ≤ 2 ^ 32) : ∀ q, 0 ≤ mcq S v q ∧ mcq S v q ≤ (q + 1) * 2 ^ 32
  | 0 => by have := hm v; show 0 ≤ S.mc.getD v 0 ∧ S.mc.getD v 0 ≤ _; omega
  | q + 1 => by
    have ih := mcq_rng hm q
    by_cases hq : q < (S.kd v).length
    · have e : mcq S v (q + 1) = mcq S v q + S.mc.getD ((S.kd v)[q]) 0 := by
        unfold mcq
        rw [List.take_succ_eq_append_getElem hq, List.foldl_append]; rfl
      have := hm (S.kd v)[q]
      omega
    · have e : mcq S v (q + 1) = mcq S v q := by
        unfold mcq
        rw [List.take_of_length_le (by omega), List.take_of_length_le (by omega)]
      omega

theorem satI_rng {a b : Int} : 0 ≤ satI a b ∧ satI a b ≤ 2305843009213693952 := by unfold satI keepS mostS; omega

theorem owq_rng {w0 : Int} (h0 : 0 ≤ w0 ∧ w0 ≤ far) : ∀ q, 0 ≤ owq S v w0 q ∧ owq S v w0 q ≤ 2305843009213693952
  | 0 => by have : far = 72057594037927936 := rfl
            show 0 ≤ w0 ∧ w0 ≤ _; omega
  | q + 1 => by
    by_cases hq : q < (S.kd v).length
    · have e : owq S v w0 (q + 1) = satI (owq S v w0 q) (S.sz.getD ((S.kd v)[q]) 0) := by
        unfold owq
        rw [List.take_succ_eq_append_getElem hq, List.foldl_append]; rfl
      rw [e]; exact satI_rng
    · have e : owq S v w0 (q + 1) = owq S v w0 q := by
        unfold owq
        rw [List.take_of_length_le (by omega), List.take_of_length_le (by omega)]
      rw [e]; exact owq_rng h0 q

theorem getD_at {l : List Int} {i : Nat} (h : i < l.length) : l[i] = l.getD i 0 := by rw [List.getD_eq_getElem?_getD, List.getElem?_eq_getElem h]; rfl

theorem grow4_ok {wt : Nat → Int} (hN : NetR h0 rn g) (hal : t.arc.length = g.n) (hv : v < g.n) (hn : g.n ≤ 16) (hpr : ∀ p, parT g.arcs t v = some p → p < g.n) (hkl : ∀ x, (S.kd x).length ≤ 2 ^ 20) (hf : ∀ u : Nat, (f u).getD sl0 = kv u)
    (hsl : S.sz.length = g.n) (hml : S.mc.length = g.n) (hk : ∀ k ∈ S.kd v, k < g.n ∧ k ≠ v) (hm : ∀ u, 0 ≤ S.mc.getD u 0 ∧ S.mc.getD u 0 ≤ 2 ^ 32) (hw : 0 ≤ wt v ∧ wt v ≤ far)
    (o : Own h0 h (a :: b :: growL g t rn r pt tr m pm b5 b4 b3 vs vm sd sa so vl f S (famR encN 1 T_int kv S.kd g.n ++ Pr)))
    (hR : ∀ f' kv' h', (∀ u : Nat, (f' u).getD sl0 = kv' u) → Own h0 h' (a :: b :: growL g t rn r pt tr m pm b5 b4 b3 vs vm sd sa so vl f' (S.step (parT g.arcs t) wt v) (famR encN 1 T_int kv' (S.step (parT g.arcs t) wt v).kd g.n ++ Pr)) → R .normal h') :
    sh_avoid_grow_k4 Tryz.prog (ptr pt) (I v) (ptr pm) (ptr b3) R (I (wt v)) h := by
  unfold sh_avoid_grow_k4
  refine o.load 2 rfl rfl ?_
  simp only [pNil_ptr, pField_ptr]
  refine o.load 3 rfl rfl (o.look 4 rfl ?_)
  have hfq := hf v
  show pLen ((f v).getD sl0) _
  rw [hfq]
  have hfam : ∀ (S' : GS), S'.kd = S.kd → (a :: b :: growL g t rn r pt tr m pm b5 b4 b3 vs vm sd sa so vl f S' (famR encN 1 T_int kv S.kd g.n ++ Pr))[v + 14]? = some (slR encN 1 T_int (kv v) (S.kd v)) := fun S' _ => by
    show (famR encN 1 T_int kv S.kd g.n ++ Pr)[v]? = _
    rw [List.getElem?_append_left (by simp [famR]; exact hv), famR_get hv]
  refine (o.vw (v + 14) (hfam S rfl)).len ?_
  have e0 : S.mc.set v (mcq S v 0) = S.mc := by
    show S.mc.set v (S.mc.getD v 0) = S.mc
    rw [← getD_at (by omega)]
    exact List.set_getElem_self (by omega)
  refine LoopH_count (S.kd v).length (fun q y h' => y.1 = I (owq S v (wt v) q) ∧ y.2.1 = I q ∧ Own h0 h' (a :: b :: growL g t rn r pt tr m pm b5 b4 b3 vs vm sd sa so vl f ⟨S.sz, S.mc.set v (mcq S v q), S.kd⟩ (famR encN 1 T_int kv S.kd g.n ++ Pr))) ⟨rfl, rfl, by rw [e0]; exact o⟩ ?_
  clear o
  rintro q ⟨y1, y2, ⟨⟩⟩ h1 Z hq ⟨hy1, hy2, o⟩ hZ
  dsimp only at hy1 hy2 hZ ⊢
  subst hy1 hy2
  have hkv := hkl v
  have hmr := mcq_rng (v := v) hm q
  have hor := owq_rng (S := S) (v := v) hw q
  have hset : (S.mc.set v (mcq S v q)).length = g.n := by rw [List.length_set]; exact hml
  unfold sh_avoid_grow_L5
  rw [pBin_lss, ifV_dec]
  refine ⟨fun hlt => ?_, fun hge => ?_⟩
  · have hlt : q < (S.kd v).length := by omega
    have ho1 : owq S v (wt v) (q + 1) = satI (owq S v (wt v) q) (S.sz.getD ((S.kd v)[q]) 0) := by
      unfold owq
      rw [List.take_succ_eq_append_getElem hlt, List.foldl_append]; rfl
    have hm1 : mcq S v (q + 1) = mcq S v q + S.mc.getD ((S.kd v)[q]) 0 := by
      unfold mcq
      rw [List.take_succ_eq_append_getElem hlt, List.foldl_append]; rfl
    refine (show Vw encN 1 h1 (kv v) (S.kd v) from o.vw (v + 14) (hfam ⟨S.sz, S.mc.set v (mcq S v q), S.kd⟩ rfl)).at1 (e := fun (x : Nat) => I x) (fun _ => rfl) hlt ?_
    obtain ⟨hkn, hkne⟩ := hk _ (List.getElem_mem hlt)
    generalize (S.kd v)[q] = k at ho1 hm1 hkn hkne
    have hmk := hm k
    refine o.load 2 rfl rfl ?_
    simp only [pNil_ptr, pField_ptr]
    refine o.load 3 rfl rfl ((o.vw 7 rfl).atI (by rw [hsl]; exact hkn) ?_)
    rw [getD_at (by rw [hsl]; exact hkn)]
    refine dsat_ok (by omega) (by omega) fun h2 x2 => ?_
    rw [← ho1]
    have o2 := o.more x2
    clear o
    refine o2.load 5 rfl rfl ((o2.vw 6 rfl).atI (by rw [hset]; exact hv) (o2.load 5 rfl rfl ((o2.vw 6 rfl).atI (by rw [hset]; exact hkn) ?_)))
    rw [List.getElem_set_self, List.getElem_set_ne (fun e => hkne e.symm), getD_at (by omega), pBin_add, w64 (by omega) (by omega), ← hm1]
    refine o2.setI 6 rfl (by rw [hset]; exact hv) fun h3 o3 => ?_
    rw [pBin_add, wI q (by omega)]
    refine hZ (_, _, ()) h3 hlt ⟨rfl, rfl, ?_⟩
    rw [← List.set_set (a := mcq S v q)]
    exact o3
  · have : q = (S.kd v).length := by omega
    subst this
    have em : mcq S v (S.kd v).length = S.mcs v := by unfold mcq GS.mcs; rw [List.take_length]
    have eo : owq S v (wt v) (S.kd v).length = S.own wt v := by unfold owq GS.own; rw [List.take_length]
    rw [em] at o hset
    rw [eo]
    refine o.load 5 rfl rfl ((o.vw 6 rfl).atI (by rw [hset]; exact hv) ?_)
    rw [List.getElem_set_self, pBin_eql, ifV_beq]
    refine ⟨fun h0 => o.load 2 rfl rfl ?_, fun h0 => ?_⟩
    · simp only [pNil_ptr, pField_ptr]
      refine o.load 3 rfl rfl (o.setI 7 rfl (by rw [hsl]; exact hv) fun h2 o2 => ?_)
      refine grow6_ok (S := ⟨S.sz.set v (S.own wt v), S.mc.set v (S.mcs v), S.kd⟩) hN hal hv hn hpr (fun x => by have := hkl x; show (S.kd x).length ≤ _; omega) hf o2 fun f' kv' h' hf' o' => hR f' kv' h' hf' ?_
      unfold GS.step
      rw [if_pos h0]
      exact o'
    · refine grow6_ok (S := ⟨S.sz, S.mc.set v (S.mcs v), S.kd⟩) hN hal hv hn hpr (fun x => by have := hkl x; show (S.kd x).length ≤ _; omega) hf o fun f' kv' h' hf' o' => hR f' kv' h' hf' ?_
      unfold GS.step
      rw [if_neg h0]
      exact o'

end
end Go.Proofs.YtoopkllfpmjnfaaGreatDoor

namespace Go.Proofs.YtoopkllfpmjnfaaGreatDoor
open Go Go.Mh
set_option linter.unusedVariables false

section
variable {h0 h hD : Heap} {L Pr : List Res} {K : Value → Heap → Prop} {g : G} {rn r pt tr m pm b5 b4 b3 : Nat} {vs vm sd sa so vl : Value} {f : Int → Option Value} {S : GS} {kv : Nat → Value} {R : Exit → Heap → Prop} {v : Nat} {M : Loop} {ms : List MV}

theorem growB_ok (hR : g.Right) (hN : NetR h0 rn g) (hn : g.n ≤ 16) (hr : r < g.n) (hv : v < g.n) (HM : ∀ m ∈ ms, MkV g h0 m) (Hl : Vw encM 7 h0 vl ms) (hl : ms.length < 2 ^ 40) (hvo : v ∈ (g.from r).order)
    (hkl : ∀ x, (S.kd x).length ≤ 2 ^ 20) (hf : ∀ u : Nat, (f u).getD sl0 = kv u) (hsl : S.sz.length = g.n) (hml : S.mc.length = g.n) (hk : ∀ k ∈ S.kd v, k < g.n ∧ k ≠ v) (hm : ∀ u, 0 ≤ S.mc.getD u 0 ∧ S.mc.getD u 0 ≤ 2 ^ 32)
    (o : Own h0 h (loopR (hD.size + 1) (lo M .ready none) :: markR hD.size :: growL g (g.from r) rn r pt tr m pm b5 b4 b3 vs vm sd sa so vl f S (famR encN 1 T_int kv S.kd g.n ++ Pr)))
    (hK : ∀ f' kv' h', (∀ u : Nat, (f' u).getD sl0 = kv' u) → Own h0 h' (loopR (hD.size + 1) (lo M .busy none) :: markR hD.size :: growL g (g.from r) rn r pt tr m pm b5 b4 b3 vs vm sd sa so vl f' (S.step (parA g r) (wtA g (ms.map MV.node) r) v) (famR encN 1 T_int kv' (S.step (parA g r) (wtA g (ms.map MV.node) r) v).kd g.n ++ Pr)) → R .normal h') :
    sh_avoid_grow_B3 Tryz.prog hD (ptr b5) (ptr pt) (ptr b4) (ptr pm) (ptr b3) M (I v) h R := by
  have T := from_tree hR hr
  have hmn : ∀ x ∈ ms.map MV.node, x < g.n := fun x hx => by
    obtain ⟨y, hy, rfl⟩ := List.mem_map.1 hx
    exact (HM y hy).1
  have hwr := wtA_rng hR hr hmn v hvo
  have hpr : ∀ p, parT g.arcs (g.from r) v = some p → p < g.n := fun p hp => T.range p (par_some T hp).2.2.1
  unfold sh_avoid_grow_B3
  refine o.begin 0 rfl fun h1 o1 => ?_
  have o1 : Own h0 h1 (loopR (hD.size + 1) (lo M .busy none) :: markR hD.size :: growL g (g.from r) rn r pt tr m pm b5 b4 b3 vs vm sd sa so vl f S (famR encN 1 T_int kv S.kd g.n ++ Pr)) := o1
  clear o
  refine o1.load 11 rfl rfl ?_
  rw [pBin_neq, ifV_bne]
  refine ⟨fun hne => ?_, fun he => ?_⟩
  · have hne : v ≠ r := fun e => hne (by rw [e])
    refine o1.load 2 rfl rfl ?_
    simp only [pNil_ptr, pField_ptr]
    have hdl : v < (g.from r).dist.length := by rw [T.ls.len]; exact hv
    refine o1.load 3 rfl rfl ((o1.vw 8 rfl).idxI hdl fun b1 f1 c1 => pLoad_of rfl c1 ?_)
    rw [dAt_get hdl] at c1 ⊢
    refine o1.load 12 rfl rfl (o1.load 11 rfl rfl ?_)
    refine bound_ok hR (fun m hm => (HM m hm).more o1.ext) (Hl.more o1.ext) hl hr hv fun h2 x2 => ?_
    have o2 := o1.more x2
    refine ⟨o2.load 2 rfl rfl rfl, o2.load 3 rfl rfl rfl, pLoad_of rfl (hcell_more x2 c1) rfl, ?_⟩
    have hw : wtA g (ms.map MV.node) r v = dAt (g.from r).dist v - bnd g (ms.map MV.node) r v := if_pos hne
    have hfar : far = 72057594037927936 := rfl
    rw [pBin_sub, w64 (by omega) (by omega), ← hw]
    exact grow4_ok hN T.al hv hn hpr hkl hf hsl hml hk hm hwr o2 hK
  · have he : v = r := by omega
    have hw : wtA g (ms.map MV.node) r v = 0 := if_neg (by simpa using he)
    have := grow4_ok (wt := wtA g (ms.map MV.node) r) hN T.al hv hn hpr hkl hf hsl hml hk hm hwr o1 hK
    rw [hw] at this
    exact this

/-- From the new tree on. -/
theorem growC_ok (hR : g.Right) (hN : NetR h0 rn g) (hn : g.n ≤ 16) (hr : r < g.n) (HM : ∀ m ∈ ms, MkV g h0 m) (Hl : Vw encM 7 h0 vl ms) (hl : ms.length ≤ 2 ^ 20)
    (o : Own h0 h [cellR pt [ptr tr] T_p_avoid_tree, cellR tr [sd, sa, so, .map (some m), vs] T_avoid_tree, mapR m (fun _ => none), xR vs (List.replicate g.n 0), xR sd (g.from r).dist, slR encI 1 T_int sa (g.from r).arc, slR encN 1 T_int so (g.from r).order, cellR b5 [I r] T_int, cellR b4 [vl] T_sl_avoid_mark, cellR b3 [ptr rn] T_p_net_Net])
    (hK : ∀ vm pm f kv h' ord, (∀ u : Nat, (f u).getD sl0 = kv u) → Own h0 h' (growL g (g.from r) rn r pt tr m pm b5 b4 b3 vs vm sd sa so vl f (growA g (ms.map MV.node) r) (famR encN 1 T_int kv (growA g (ms.map MV.node) r).kd g.n ++ [cellR ord [so] T_sl_int])) → K (ptr tr) h') :
    sh_avoid_grow_C1 Tryz.prog (ptr b3) (ptr b4) (ptr b5) K (ptr pt) h := by
  have T := from_tree hR hr
  have hmn : ∀ x ∈ ms.map MV.node, x < g.n := fun x hx => by
    obtain ⟨y, hy, rfl⟩ := List.mem_map.1 hx
    exact (HM y hy).1
  have hmlN : (ms.map MV.node).length ≤ 2 ^ 20 := by rw [List.length_map]; exact hl
  unfold sh_avoid_grow_C1
  refine o.load 9 rfl rfl (nodes_ok (hN.more o.ext) ?_)
  refine o.make (enc := encI) (n := 1) (a := 0) (m := g.n) rfl (by omega) (by omega) fun vm h1 o1 => ?_
  refine o1.box fun pm h2 o2 => ?_
  have hv := o2.vw 1 rfl
  refine o2.st1 0 (cs' := [vm]) rfl rfl rfl hv.one hv.plain fun h3 o3 => ?_
  clear o o1 o2 hv
  have o3 : Own h0 h3 (cellR pm [vm] T_sl_int :: slR encI 1 T_int vm (List.replicate g.n 0) :: [cellR pt [ptr tr] T_p_avoid_tree, cellR tr [sd, sa, so, .map (some m), vs] T_avoid_tree, mapR m (fun _ => none), xR vs (List.replicate g.n 0), xR sd (g.from r).dist, slR encI 1 T_int sa (g.from r).arc, slR encN 1 T_int so (g.from r).order, cellR b5 [I r] T_int, cellR b4 [vl] T_sl_avoid_mark, cellR b3 [ptr rn] T_p_net_Net]) := o3
  have o4 : Own h0 h3 (growL g (g.from r) rn r pt tr m pm b5 b4 b3 vs vm sd sa so vl (fun _ => none) ⟨List.replicate g.n 0, List.replicate g.n 0, fun _ => []⟩ []) := o3.sel [2, 3, 4, 0, 1, 5, 6, 7, 8, 9, 10, 11] (by decide)
  clear o3
  refine o4.load 10 rfl rfl ((Hl.more o4.ext).len ?_)
  have e0 : (List.range g.n).map (cntA ([] : List Nat)) = List.replicate g.n 0 := by
    apply List.ext_getElem?
    intro i
    by_cases hi : i < g.n
    · simp [hi, cntA]
    · rw [List.getElem?_eq_none (by simp; omega), List.getElem?_eq_none (by simp; omega)]
  refine LoopH_count ms.length (fun i x h' => x.1 = I i ∧ Own h0 h' (growL g (g.from r) rn r pt tr m pm b5 b4 b3 vs vm sd sa so vl (fun _ => none) ⟨List.replicate g.n 0, (List.range g.n).map (cntA ((ms.take i).map MV.node)), fun _ => []⟩ [])) ⟨rfl, by rw [List.take_zero, List.map_nil, e0]; exact o4⟩ ?_
  clear o4
  rintro i ⟨x, ⟨⟩⟩ h4 Z hi ⟨hx, o⟩ hZ
  dsimp only at hx hZ ⊢
  subst hx
  unfold sh_avoid_grow_L2
  rw [pBin_lss, ifV_dec]
  refine ⟨fun hlt => ?_, fun hge => ?_⟩
  · have hlt : i < ms.length := by omega
    refine (Hl.more o.ext).atN encM_len hlt ?_
    have tk : (ms.take (i + 1)).map MV.node = (ms.take i).map MV.node ++ [ms[i].node] := by rw [List.take_succ_eq_append_getElem hlt, List.map_append]; rfl
    have hmm := HM _ (List.getElem_mem hlt)
    rw [tk] at hZ
    generalize ms[i] = mv at hmm hZ
    have hmn := hmm.1
    refine o.box fun m8 h5 o5 => o5.st (l := encM mv) (cs' := encM mv) 0 rfl rfl rfl rfl rfl (encM_plain mv) fun h6 o6 => ?_
    clear o o5
    simp only [pField_ptr]
    refine o6.load 4 rfl rfl (o6.load 0 rfl rfl ?_)
    have hll : mv.node < ((List.range g.n).map (cntA ((ms.take i).map MV.node))).length := by simpa using hmn
    refine (o6.vw 5 rfl).atI hll ?_
    have hcl : cntA ((ms.take i).map MV.node) mv.node ≤ 2 ^ 20 ∧ 0 ≤ cntA ((ms.take i).map MV.node) mv.node := by
      unfold cntA
      have := List.count_le_length (a := mv.node) (l := (ms.take i).map MV.node)
      rw [List.length_map, List.length_take] at this
      omega
    rw [show ((List.range g.n).map (cntA ((ms.take i).map MV.node)))[mv.node]'hll = cntA ((ms.take i).map MV.node) mv.node by simp, pBin_add, w64 (by omega) (by omega)]
    refine o6.setI 5 rfl hll fun h7 o7 => ?_
    rw [pBin_add, wI i (by omega)]
    refine hZ (_, ()) h7 hlt ⟨rfl, ?_⟩
    rw [← cnt_set hmn]
    exact o7.tail
  · have : i = ms.length := by omega
    subst this
    rw [List.take_length] at o
    clear hZ
    refine o.load 0 rfl rfl ?_
    simp only [pNil_ptr, pField_ptr]
    refine o.load 1 rfl rfl ?_
    refine callS_of (lk_avoid_behind _ ?_)
    unfold sh_avoid_behind
    have hso := (o.vw 8 rfl).one
    refine o.box fun ord h5 o5 => ?_
    rw [show (Value.cells so).toList = [so] by rw [hso]] at o5
    have o6 := o5.fam0 (enc := encN) (n := 1) (T := T_int) (m := g.n)
    have o7 : Own h0 h5 (growL g (g.from r) rn r pt tr m pm b5 b4 b3 vs vm sd sa so vl (fun _ => none) (growQ g (ms.map MV.node) r 0) (famR encN 1 T_int (fun _ => sl0) (growQ g (ms.map MV.node) r 0).kd g.n ++ [cellR ord [so] T_sl_int])) := by
      have := Own.comm o6
      have h2 : Own h0 h5 (cellR ord [so] T_sl_int :: (growL g (g.from r) rn r pt tr m pm b5 b4 b3 vs vm sd sa so vl (fun _ => none) (growQ g (ms.map MV.node) r 0) (famR encN 1 T_int (fun _ => sl0) (growQ g (ms.map MV.node) r 0).kd g.n))) := this
      exact Own.comm (L := [_]) h2
    clear o5 o6 o
    have hol : (g.from r).order.length ≤ g.n := nodup_le T.nodup T.range
    refine o7.range (behind_iter (O := (g.from r).order) (vo := so) (b := ord) (T := T_sl_int) (by omega)) (by rintro i x i' ⟨_, _, rfl⟩; rfl)
      (fun i Rs => i ≤ (g.from r).order.length ∧ ∃ f kv, (∀ u : Nat, (f u).getD sl0 = kv u) ∧ Rs = growL g (g.from r) rn r pt tr m pm b5 b4 b3 vs vm sd sa so vl f (growQ g (ms.map MV.node) r i) (famR encN 1 T_int kv (growQ g (ms.map MV.node) r i).kd g.n ++ [cellR ord [so] T_sl_int]))
      (fun _ => False) (fun _ _ => False) ⟨Nat.zero_le _, fun _ => none, fun _ => sl0, fun u => rfl, rfl⟩ ?_ ?_ ?_ (fun _ _ h => h.elim) (fun _ _ _ h => h.elim)
    · rintro i Rs h' ⟨_, f, kv, _, rfl⟩ o'
      have := Own.comm (L := growL g (g.from r) rn r pt tr m pm b5 b4 b3 vs vm sd sa so vl f (growQ g (ms.map MV.node) r i) (famR encN 1 T_int kv (growQ g (ms.map MV.node) r i).kd g.n)) (L' := [cellR ord [so] T_sl_int]) o'
      exact ⟨this.get 0 rfl, o'.vw 8 rfl⟩
    · rintro M i x i' Rs Pr h' R ⟨h1, rfl, rfl⟩ ⟨_, f, kv, hf, rfl⟩ o' hNx _ _
      dsimp only [valsOf]
      obtain ⟨f1, f2, f3, f4, f5⟩ := growQ_facts hR hn hr hmn hmlN i
      have hst := growQ_step (g := g) (ms := ms.map MV.node) (r := r) h1
      have hvo : (g.from r).order.reverse.getD i 0 ∈ (g.from r).order := by rw [rev_at h1]; exact List.getElem_mem _
      generalize (g.from r).order.reverse.getD i 0 = v at hst hvo
      have o8 : Own h0 h' (loopR (h5.size + 1) (lo M .ready none) :: markR h5.size :: growL g (g.from r) rn r pt tr m pm b5 b4 b3 vs vm sd sa so vl f (growQ g (ms.map MV.node) r i) (famR encN 1 T_int kv (growQ g (ms.map MV.node) r i).kd g.n ++ ([cellR ord [so] T_sl_int] ++ Pr))) := by
        rw [← List.append_assoc]; exact o'
      refine growB_ok hR hN hn hr (T.range v hvo) HM Hl (by omega) hvo (fun x => by have := f1 x; omega) hf f2 f3 (f4 v) f5 o8 fun f' kv' h'' hf' o9 => ?_
      rw [← hst] at o9
      refine hNx _ h'' ⟨h1, f', kv', hf', rfl⟩ ?_
      rw [← List.append_assoc] at o9
      exact o9
    · rintro i h' Rs rfl ⟨_, f, kv, hf, rfl⟩ o'
      rw [growQ_end] at o'
      refine o'.load 1 rfl rfl (o'.take1 0 rfl fun h10 o10 => ?_)
      exact hK vm pm f kv h10 ord hf o10.tail

end
end Go.Proofs.YtoopkllfpmjnfaaGreatDoor

namespace Go.Proofs.YtoopkllfpmjnfaaGreatDoor
open Go Go.Mh
set_option linter.unusedVariables false
set_option maxRecDepth 20000
set_option maxHeartbeats 0

section
variable {h0 h : Heap} {L : List Res} {K : Value → Heap → Prop} {g : G} {rn r : Nat} {vl : Value} {ms : List MV}

theorem build5 {sd sa so vs : Value} {m : Nat} {K : Value → Prop} (hvs : vs.cells = #[vs]) (hk : K (.agg #[sd, sa, so, .map (some m), vs])) :
    pBuild [(.slice none 0 0), (.slice none 0 0), (.slice none 0 0), (.map none), (.slice none 0 0)] [(0, 3, .agg #[sd, sa, so]), (3, 1, .map (some m)), (4, 1, vs)] K := by
  refine ⟨⟨rfl, by decide, rfl, by decide, by rw [hvs]; rfl, by decide, trivial⟩, ?_⟩
  have e : spliceAll [(.slice none 0 0), (.slice none 0 0), (.slice none 0 0), (.map none), (.slice none 0 0)] [(0, 3, .agg #[sd, sa, so]), (3, 1, .map (some m)), (4, 1, vs)] = [sd, sa, so, .map (some m), vs] := by
    show [sd, sa, so, .map (some m)] ++ vs.cells.toList ++ List.drop (4 + vs.cells.size) [sd, sa, so, .map (some m), .slice none 0 0] = _
    rw [hvs]; rfl
  rw [e]; exact hk

theorem grow_ok (hR : g.Right) (hN : NetR h rn g) (hn : g.n ≤ 16) (hr : r < g.n) (HM : ∀ m ∈ ms, MkV g h m) (Hl : Vw encM 7 h vl ms) (hl : ms.length ≤ 2 ^ 20)
    (hK : ∀ pt tr m pm b5 b4 b3 ord vs vm sd sa so f kv h', (∀ u : Nat, (f u).getD sl0 = kv u) → Own h h' (growL g (g.from r) rn r pt tr m pm b5 b4 b3 vs vm sd sa so vl f (growA g (ms.map MV.node) r) (famR encN 1 T_int kv (growA g (ms.map MV.node) r).kd g.n ++ [cellR ord [so] T_sl_int])) → K (ptr tr) h') :
    callS Tryz.prog F_avoid_grow [ptr rn, vl, I r] h K := by
  refine callS_of (lk_avoid_grow _ _ _ ?_)
  unfold sh_avoid_grow
  refine (Own.start h).box fun b3 h1 o1 => o1.box fun b4 h2 o2 => o2.box fun b5 h3 o => ?_
  rw [show (Value.cells vl).toList = [vl] by rw [Hl.one]] at o
  have o : Own h h3 [cellR b5 [I r] T_int, cellR b4 [vl] T_sl_avoid_mark, cellR b3 [ptr rn] T_p_net_Net] := o
  clear o1 o2
  have hfr : g.fromI r = g.from r := by simp [G.fromI, hr]
  refine cutP_of (fun y h' => ∃ pt tr m vs sd sa so, y.1 = ptr pt ∧ Own h h' [cellR pt [ptr tr] T_p_avoid_tree, cellR tr [sd, sa, so, .map (some m), vs] T_avoid_tree, mapR m (fun _ => none), xR vs (List.replicate g.n 0), xR sd (g.fromI r).dist, slR encI 1 T_int sa (g.fromI r).arc, slR encN 1 T_int so (g.fromI r).order, cellR b5 [I r] T_int, cellR b4 [vl] T_sl_avoid_mark, cellR b3 [ptr rn] T_p_net_Net]) (fun J hJ => ?_) ?_
  · refine o.load 2 rfl rfl (o.load 0 rfl rfl (o.load 2 rfl rfl ?_))
    repeat' (first
      | with_reducible apply And.intro
      | ((with_reducible show pLoad _ _ _); first | exact o.load 2 rfl rfl rfl | exact o.load 3 rfl rfl rfl | exact o.load 4 rfl rfl rfl | exact o.load 5 rfl rfl rfl | exact o.load 6 rfl rfl rfl | exact o.load 7 rfl rfl rfl)
      | ((with_reducible show pBuild _ _ _); first | refine build5 (o.vw 0 rfl).one ?_ | refine build5 (o.vw 1 rfl).one ?_ | refine build5 (o.vw 2 rfl).one ?_ | refine build5 (o.vw 3 rfl).one ?_ | refine build5 (o.vw 4 rfl).one ?_ | refine build5 (o.vw 5 rfl).one ?_)
      | ((with_reducible show pMakeMap _ _); refine o.mkMap fun m hh o => ?_)
      | ((with_reducible show pMakeSlice _ _ _ _ _ _ _); refine o.make (enc := encI) (n := 1) (a := 0) (m := g.n) rfl (by omega) (by omega) fun vs hh o => ?_)
      | ((with_reducible show pBox _ _ _ _); refine o.box fun p hh o => ?_)
      | ((with_reducible show pStore _ _ _ _ _); first | refine o.st1 0 rfl rfl rfl rfl rfl fun hh o => ?_ | refine o.st1 1 rfl rfl rfl rfl rfl fun hh o => ?_ | refine o.st1 2 rfl rfl rfl rfl rfl fun hh o => ?_ | refine o.st1 3 rfl rfl rfl rfl rfl fun hh o => ?_ | refine o.st1 4 rfl rfl rfl rfl rfl fun hh o => ?_ | refine o.st1 5 rfl rfl rfl rfl rfl fun hh o => ?_ | refine o.st1 6 rfl rfl rfl rfl rfl fun hh o => ?_)
      | ((with_reducible show callS Tryz.prog F_net_Net_Nodes _ _ _); refine nodes_ok (hN.more o.ext) ?_)
      | ((with_reducible show callS Tryz.prog F_flood_From _ _ _); refine from_ok hR (hN.more o.ext) fun sd sa so hh o' => ?_; replace o := o.frame o'; clear o')
      | exact hJ _ _ ⟨_, _, _, _, _, _, _, rfl, o.sel [6, 0, 2, 1, 3, 4, 5, 7, 8, 9] (by decide)⟩
      | exact hJ _ _ ⟨_, _, _, _, _, _, _, rfl, o.sel [3, 0, 2, 1, 4, 5, 6, 7, 8, 9] (by decide)⟩
      | exact hJ _ _ ⟨_, _, _, _, _, _, _, rfl, o.sel [2, 0, 3, 1, 4, 5, 6, 7, 8, 9] (by decide)⟩
      | exact hJ _ _ ⟨_, _, _, _, _, _, _, rfl, o.sel [1, 0, 3, 2, 4, 5, 6, 7, 8, 9] (by decide)⟩
      | exact hJ _ _ ⟨_, _, _, _, _, _, _, rfl, o.sel [0, 1, 3, 2, 4, 5, 6, 7, 8, 9] (by decide)⟩
      | exact hJ _ _ ⟨_, _, _, _, _, _, _, rfl, o.sel [6, 0, 1, 2, 3, 4, 5, 7, 8, 9] (by decide)⟩
      | exact hJ _ _ ⟨_, _, _, _, _, _, _, rfl, o.sel [3, 0, 1, 2, 4, 5, 6, 7, 8, 9] (by decide)⟩
      | exact hJ _ _ ⟨_, _, _, _, _, _, _, rfl, o.sel [2, 0, 1, 3, 4, 5, 6, 7, 8, 9] (by decide)⟩
      | exact hJ _ _ ⟨_, _, _, _, _, _, _, rfl, o.sel [1, 0, 2, 3, 4, 5, 6, 7, 8, 9] (by decide)⟩
      | exact hJ _ _ ⟨_, _, _, _, _, _, _, rfl, o.sel [0, 1, 2, 3, 4, 5, 6, 7, 8, 9] (by decide)⟩
      | exact hJ _ _ ⟨_, _, _, _, _, _, _, rfl, o.sel [6, 0, 5, 1, 2, 3, 4, 7, 8, 9] (by decide)⟩
      | exact hJ _ _ ⟨_, _, _, _, _, _, _, rfl, o.sel [5, 0, 6, 1, 2, 3, 4, 7, 8, 9] (by decide)⟩
      | exact hJ _ _ ⟨_, _, _, _, _, _, _, rfl, o.sel [2, 0, 6, 1, 3, 4, 5, 7, 8, 9] (by decide)⟩
      | exact hJ _ _ ⟨_, _, _, _, _, _, _, rfl, o.sel [1, 0, 6, 2, 3, 4, 5, 7, 8, 9] (by decide)⟩
      | exact hJ _ _ ⟨_, _, _, _, _, _, _, rfl, o.sel [0, 1, 6, 2, 3, 4, 5, 7, 8, 9] (by decide)⟩
      | exact hJ _ _ ⟨_, _, _, _, _, _, _, rfl, o.sel [6, 0, 5, 4, 1, 2, 3, 7, 8, 9] (by decide)⟩
      | exact hJ _ _ ⟨_, _, _, _, _, _, _, rfl, o.sel [5, 0, 6, 4, 1, 2, 3, 7, 8, 9] (by decide)⟩
      | exact hJ _ _ ⟨_, _, _, _, _, _, _, rfl, o.sel [4, 0, 6, 5, 1, 2, 3, 7, 8, 9] (by decide)⟩
      | exact hJ _ _ ⟨_, _, _, _, _, _, _, rfl, o.sel [1, 0, 6, 5, 2, 3, 4, 7, 8, 9] (by decide)⟩
      | exact hJ _ _ ⟨_, _, _, _, _, _, _, rfl, o.sel [0, 1, 6, 5, 2, 3, 4, 7, 8, 9] (by decide)⟩
      | exact hJ _ _ ⟨_, _, _, _, _, _, _, rfl, o.sel [6, 0, 1, 5, 2, 3, 4, 7, 8, 9] (by decide)⟩
      | exact hJ _ _ ⟨_, _, _, _, _, _, _, rfl, o.sel [5, 0, 1, 6, 2, 3, 4, 7, 8, 9] (by decide)⟩
      | exact hJ _ _ ⟨_, _, _, _, _, _, _, rfl, o.sel [2, 0, 1, 6, 3, 4, 5, 7, 8, 9] (by decide)⟩
      | exact hJ _ _ ⟨_, _, _, _, _, _, _, rfl, o.sel [1, 0, 2, 6, 3, 4, 5, 7, 8, 9] (by decide)⟩
      | exact hJ _ _ ⟨_, _, _, _, _, _, _, rfl, o.sel [0, 1, 2, 6, 3, 4, 5, 7, 8, 9] (by decide)⟩
      | exact hJ _ _ ⟨_, _, _, _, _, _, _, rfl, o.sel [6, 0, 4, 5, 1, 2, 3, 7, 8, 9] (by decide)⟩
      | exact hJ _ _ ⟨_, _, _, _, _, _, _, rfl, o.sel [5, 0, 4, 6, 1, 2, 3, 7, 8, 9] (by decide)⟩
      | exact hJ _ _ ⟨_, _, _, _, _, _, _, rfl, o.sel [4, 0, 5, 6, 1, 2, 3, 7, 8, 9] (by decide)⟩
      | exact hJ _ _ ⟨_, _, _, _, _, _, _, rfl, o.sel [1, 0, 5, 6, 2, 3, 4, 7, 8, 9] (by decide)⟩
      | exact hJ _ _ ⟨_, _, _, _, _, _, _, rfl, o.sel [0, 1, 5, 6, 2, 3, 4, 7, 8, 9] (by decide)⟩)
  · rintro ⟨y, ⟨⟩⟩ h' ⟨pt, tr, m, vs, sd, sa, so, hy, o1⟩
    dsimp only at hy ⊢
    subst hy
    rw [hfr] at o1
    exact growC_ok hR hN hn hr HM Hl hl o1 fun vm pm f kv h' ord hf o' => hK pt tr m pm b5 b4 b3 ord vs vm sd sa so f kv h' hf o'

end
end Go.Proofs.YtoopkllfpmjnfaaGreatDoor

namespace Go.Proofs.YtoopkllfpmjnfaaGreatDoor
open Go Go.Mh
set_option linter.unusedVariables false

section
variable {h0 h : Heap} {L : List Res} {K : Value → Heap → Prop} {g : G} {rn : Nat} {vl : Value}

/-- Sizes, of a root that is there. -/
theorem aSizes_ok {l : List Int} {r : Nat} (hR : g.Right) (hN : NetR h rn g) (hn : g.n ≤ 16) (hr : r < g.n) (Hl : Vw encI 1 h vl l) (hl : l.length ≤ 2 ^ 20)
    (hK : ∀ w h', Own h h' [xR w (growA g (mksZ g.n l) r).sz] → K w h') : callS Tryz.prog F_avoid_Sizes [ptr rn, vl, I r] h K := by
  refine callS_of (lk_avoid_Sizes _ _ _ ?_)
  unfold sh_avoid_Sizes
  refine there_ok hN ?_
  rw [decide_eq_true (show (0 : Int) ≤ r ∧ (r : Int) < g.n from ⟨by omega, by omega⟩), pUn_not, Bool.not_true, ifV_false]
  refine marks_ok (Own.start h) hR hN Hl (by omega) fun w ms h1 hms o1 => ?_
  have hml : ms.length ≤ l.length := by
    rw [← List.length_map (f := MV.node), hms]
    unfold mksZ
    rw [List.length_map]
    exact List.length_filter_le _ _
  have hlt : ∀ m ∈ ms, m.node < g.n := fun m hm => mksZ_lt (l := l) _ (by rw [← hms]; exact List.mem_map_of_mem hm)
  refine grow_ok hR (hN.more o1.ext) hn hr (markL_vw o1.tail hlt) (o1.vw 0 rfl) (by omega) fun pt tr m pm b5 b4 b3 ord vs vm sd sa so f kv h2 hf o2 => ?_
  simp only [pNil_ptr, pField_ptr]
  refine o2.load 1 rfl rfl ?_
  rw [hms] at o2
  exact hK vs h2 (((o1.frame o2).front 6 [5] (by decide) (by decide)).left)

theorem aSizes_none {z : Int} (hN : NetR h rn g) (hz : ¬ (0 ≤ z ∧ z < g.n)) (hK : K (.slice none 0 0) h) : callS Tryz.prog F_avoid_Sizes [ptr rn, vl, I z] h K := by
  refine callS_of (lk_avoid_Sizes _ _ _ ?_)
  unfold sh_avoid_Sizes
  refine there_ok hN ?_
  rw [decide_eq_false hz, pUn_not, Bool.not_false, ifV_true]
  exact hK

end
end Go.Proofs.YtoopkllfpmjnfaaGreatDoor

namespace Go.Proofs.YtoopkllfpmjnfaaGreatDoor
open Go Go.Mh
set_option linter.unusedVariables false

section
variable {h0 h : Heap} {L : List Res} {K : Value → Heap → Prop}

theorem size_ok {tr v i j : Nat} {sd sa so mm vs : Value} {T : TypeId} {sz : List Int} (o : Own h0 h L) (hi : L[i]? = some (cellR tr [sd, sa, so, mm, vs] T)) (hj : L[j]? = some (xR vs sz)) (hv : v < sz.length) (hK : K (I (sz.getD v 0)) h) :
    callV Tryz.prog (.func (.func F_avoid_tree_size) #[ptr tr] #[]) [I v].toArray h K := by
  refine callV_of (l := [ptr tr, I v]) rfl (lk_avoid_tree_size _ _ ?_)
  unfold sh_avoid_tree_size
  simp only [pNil_ptr, pField_ptr]
  refine o.load i hi rfl ((o.vw j hj).atI hv ?_)
  rw [getD_at hv]
  exact hK

theorem next1_ok {b : Nat} {m : MV} {x : Nat} (hone : ∀ u ∈ encM m, u.cells = #[u]) (o : Own h0 h L) (i : Nat) (hi : L[i]? = some (cellR b [I x] T_int)) (hK : ∀ h', Ext h h' → K (.bool (decide (m.node = x))) h') :
    callV Tryz.prog (.func (.func F_avoid_next_1) #[] #[ptr b]) [.agg (encM m).toArray].toArray h K := by
  refine callV_of (l := [.agg (encM m).toArray, ptr b]) rfl (lk_avoid_next_1 _ _ ?_)
  unfold sh_avoid_next_1
  refine (Own.start h).box fun m1 h1 o1 => ?_
  have o1 : Own h h1 [cellR m1 (encM m) T_avoid_mark] := o1
  have o2 := o.more o1.ext
  simp only [pField_ptr]
  refine o1.load 0 rfl rfl (o2.load i hi rfl ?_)
  rw [pBin_eql, show ((m.node : Int) == (x : Int)) = decide (m.node = x) by rw [Bool.eq_iff_iff, beq_iff_eq, decide_eq_true_eq]; omega]
  exact hK _ o1.ext

end
end Go.Proofs.YtoopkllfpmjnfaaGreatDoor

namespace Go.Proofs.YtoopkllfpmjnfaaGreatDoor
open Go Go.Mh
set_option linter.unusedVariables false

section
variable {h0 h : Heap} {L : List Res} {K : Value → Heap → Prop} {g : G} {r : Nat} {vc vm : Value} {c : List Int} {ms : List Int}

theorem pPart1_0 {a b c : Value} {K : Value → Prop} (hk : K a) : pPart1 0 (.agg #[a, b, c]) K := hk
theorem takeNe {l : List Nat} {i : Nat} (h0 : i ≠ 0) (hi : i < l.length) : l.take i ≠ [] := by
  intro e
  rw [List.take_eq_nil_iff] at e
  rcases e with e | e
  · exact h0 e
  · subst e; cases hi

theorem minE {a b : Int} : (if b < a then b else a) = min a b := by split <;> omega

end
end Go.Proofs.YtoopkllfpmjnfaaGreatDoor

namespace Go.Proofs.YtoopkllfpmjnfaaGreatDoor
open Go Go.Mh
set_option linter.unusedVariables false

section
variable {h0 h : Heap} {L : List Res} {K : Value → Heap → Prop} {g : G} {r : Nat} {vl : Value} {left : List Nat} {m m8 : Nat} {T1 : TypeId}

theorem filter_no {l : List Nat} (h : m ∉ l) : l.filter (· != m) = l := by
  rw [List.filter_eq_self]
  intro a ha
  simp only [bne_iff_ne]
  intro e; subst e; exact h ha

end
end Go.Proofs.YtoopkllfpmjnfaaGreatDoor

namespace Go.Proofs.YtoopkllfpmjnfaaGreatDoor
open Go Go.Mh
set_option linter.unusedVariables false

section
variable {h0 h : Heap} {L : List Res} {K : Value → Heap → Prop} {g : G} {r : Nat}

/-- Numbers from 0 to n, of which i were set. -/
def upto (n i : Nat) : List Int := nI (List.range i) ++ List.replicate (n - i) 0
theorem upto_step {n i : Nat} (h : i < n) : (upto n i).set i (i : Int) = upto n (i + 1) := by
  unfold upto
  have hl : (nI (List.range i)).length = i := by rw [nI_len, List.length_range]
  rw [List.set_append_right _ _ (by omega), hl, Nat.sub_self, show n - i = (n - (i + 1)) + 1 by omega, List.replicate_succ, List.set_cons_zero, List.range_succ]
  simp [nI]

end
end Go.Proofs.YtoopkllfpmjnfaaGreatDoor

namespace Go.Proofs.YtoopkllfpmjnfaaGreatDoor
open Go Go.Mh
set_option linter.unusedVariables false

section
variable {h0 h : Heap} {L : List Res} {K : Value → Heap → Prop} {g : G} {r : Nat}

abbrev encU (x : Int) : List Value := encK .u32 x
theorem encU_plain (x : Int) : ∀ u ∈ encU x, Mh.plainCell u = true := by intro u hu; simp [encK] at hu; subst hu; rfl

/-- The first number below n of some that were drawn, and the others. -/
def drawP : List Int → Nat → Int × List Int
  | [], _ => (0, [])
  | x :: r, n => (x.tmod n, r)

theorem dnew_ok {vl : Value} {xs : List Int} (o : Own h0 h L) (Hl : Vw encU 1 h vl xs) (hb : (xs.length : Int) * 4 ≤ 2 ^ 48) (hK : ∀ pd w h', Own h0 h' (cellR pd [w] T_draw_Draws :: quR encU 1 T_uint32 w xs :: L) → K (ptr pd) h') : callS Tryz.prog F_draw_New [vl] h K := by
  refine callS_of (lk_draw_New _ ?_)
  unfold sh_draw_New
  refine Hl.len ?_
  refine (Own.start h).make (enc := encU) (n := 1) (a := 0) (m := xs.length) rfl (by omega) (by omega) fun w h1 o1 => ?_
  refine o1.copyAll (ys := xs) 0 rfl (fun _ => rfl) encU_plain (Hl.more o1.ext) (by simp) fun h2 o2 => ?_
  have hw := o2.vw 0 rfl
  refine pBuild_ones (cs' := [w]) (fun p hp => by simp at hp; subst hp; exact hw.one) rfl rfl ?_
  refine o2.box fun pd h3 o3 => ?_
  have o4 := o3.que 1 rfl
  exact hK pd w h3 (o.frame o4)

theorem dleft_ok {pd : Nat} {vl : Value} {xs : List Int} (o : Own h0 h L) (p q : Nat) (hp : L[p]? = some (cellR pd [vl] T_draw_Draws)) (hq : L[q]? = some (quR encU 1 T_uint32 vl xs)) (hK : K (I xs.length) h) : callS Tryz.prog F_draw_Draws_Left [ptr pd] h K := by
  refine callS_of (lk_draw_Draws_Left _ ?_)
  unfold sh_draw_Draws_Left
  simp only [pEq_ptr_nil, Option.isNone_some, ifV_false]
  simp only [pNil_ptr, pField_ptr]
  exact o.load p hp rfl ((o.qvw q hq).len hK)

theorem dleftN_ok (hK : K (I 0) h) : callS Tryz.prog F_draw_Draws_Left [.pointer none] h K := by
  refine callS_of (lk_draw_Draws_Left _ ?_)
  unfold sh_draw_Draws_Left
  simp only [pEq_ptr_nil, Option.isNone_none, ifV_true]
  exact hK

theorem dnextN_ok {n : Int} (hn : 1 ≤ n) (hK : K (I 0) h) : callS Tryz.prog F_draw_Draws_Next [.pointer none, I n] h K := by
  refine callS_of (lk_draw_Draws_Next _ _ ?_)
  unfold sh_draw_Draws_Next
  rw [pBin_lss, decide_eq_false (by omega), ifV_false]
  refine dleftN_ok ?_
  rw [pBin_eql]
  show ifV (.bool true) _ _
  rw [ifV_true]
  exact hK

theorem dnext_ok {pd n : Nat} {vl : Value} {xs : List Int} (o : Own h0 h L) (p q : Nat) (hp : L[p]? = some (cellR pd [vl] T_draw_Draws)) (hq : L[q]? = some (quR encU 1 T_uint32 vl xs)) (hpq : p ≠ q) (hn : 1 ≤ n) (hn2 : n < 2 ^ 40) (hxl : xs.length < 2 ^ 62) (hr : ∀ x ∈ xs, 0 ≤ x ∧ x ≤ 4294967295)
    (hK : ∀ vl' h', Own h0 h' ((L.set p (cellR pd [vl'] T_draw_Draws)).set q (quR encU 1 T_uint32 vl' (drawP xs n).2)) → K (I (drawP xs n).1) h') : callS Tryz.prog F_draw_Draws_Next [ptr pd, I n] h K := by
  refine callS_of (lk_draw_Draws_Next _ _ ?_)
  unfold sh_draw_Draws_Next
  rw [pBin_lss, decide_eq_false (by omega), ifV_false]
  refine dleft_ok o p q hp hq ?_
  rw [pBin_eql]
  cases xs with
  | nil =>
    show ifV (.bool true) _ _
    rw [ifV_true]
    unfold sh_draw_Draws_Next_k1
    refine hK vl h ?_
    rw [set_same hp]
    have : L.set q (quR encU 1 T_uint32 vl (drawP [] n).2) = L := set_same hq
    rw [this]; exact o
  | cons x r =>
    rw [show (((x :: r).length : Int) == 0) = false by simp; omega, ifV_false]
    simp only [pNil_ptr, pField_ptr]
    refine o.load p hp rfl ?_
    refine callS_of (lk_draw_first_uint32 _ ?_)
    unfold sh_draw_first_uint32
    have hx := hr x (List.mem_cons_self ..)
    refine (o.qvw q hq).at1 (e := fun x : Int => .int .u32 x) (fun _ => rfl) (i := 0) (by simp) ?_
    refine (o.qvw q hq).len ((o.qvw q hq).len ?_)
    refine o.qtail3 (fun _ => rfl) q hq (by simp) fun v' o1 => ?_
    simp only [pExt0, pExt1]
    try simp only [pNil_ptr, pField_ptr]
    have hp1 : (L.set q (quR encU 1 T_uint32 v' r))[p]? = some (cellR pd [vl] T_draw_Draws) := by rw [List.getElem?_set_ne (Ne.symm hpq)]; exact hp
    have hv' := o1.qvw q (set_get hq)
    refine o1.st1 p hp1 (cs' := [v']) rfl rfl hv'.one hv'.plain fun h2 o2 => ?_
    simp only [pConv_int]
    rw [show ((x :: r)[0]'(by simp)) = x from rfl, w64 (by omega) (by omega), pBin_rem]
    refine ⟨by omega, hK v' h2 ?_⟩
    rw [List.set_comm _ _ (Ne.symm hpq)] at o2
    exact o2

end
end Go.Proofs.YtoopkllfpmjnfaaGreatDoor

namespace Go.Proofs.YtoopkllfpmjnfaaGreatDoor
open Go Go.Mh
set_option linter.unusedVariables false

theorem plain_one {u : Value} (h : Mh.plainCell u = true) : u.cells = #[u] := by
  cases u <;> first | rfl | (exfalso; revert h; decide) | simp [Mh.plainCell] at h

section
variable {h0 h : Heap} {L : List Res} {K : Value → Heap → Prop} {g : G} {rn r : Nat} {vl : Value} {ms : List MV}

theorem has16_ok {b x : Nat} (o : Own h0 h L) (i : Nat) (hi : L[i]? = some (cellR b [I x] T_int)) (Hl : Vw encM 7 h vl ms) (hl : ms.length < 2 ^ 40) (hK : ∀ h', Own h0 h' L → K (.bool (decide (x ∈ ms.map MV.node))) h') :
    callS Tryz.prog F_slices_ContainsFunc_sl_avoid_mark_avoid_mark [vl, .func (.func F_avoid_next_1) #[] #[ptr b]] h K := by
  refine callS_of (lk_slices_ContainsFunc_sl_avoid_mark_avoid_mark _ _ ?_)
  unfold sh_slices_ContainsFunc_sl_avoid_mark_avoid_mark
  refine callS_of (lk_slices_IndexFunc_sl_avoid_mark_avoid_mark _ _ ?_)
  unfold sh_slices_IndexFunc_sl_avoid_mark_avoid_mark
  refine Hl.len ?_
  refine LoopH_count ms.length (fun j y h' => y.1 = I j ∧ Ext h h' ∧ Own h0 h' L ∧ x ∉ (ms.take j).map MV.node) ⟨rfl, (Own.start h).ext, o, by simp⟩ ?_
  rintro j ⟨y, ⟨⟩⟩ h1 Z hj ⟨hy, x1, o1, hno⟩ hZ
  dsimp only at hy hZ ⊢
  subst hy
  unfold sh_slices_IndexFunc_sl_avoid_mark_avoid_mark_L1
  rw [pBin_lss, ifV_dec]
  refine ⟨fun hlt => ?_, fun hge => ?_⟩
  · have hlt : j < ms.length := by omega
    refine (Hl.more x1).atN encM_len hlt ?_
    refine next1_ok (fun u hu => plain_one (encM_plain _ u hu)) o1 i hi fun h2 x2 => ?_
    rw [ifV_dec]
    refine ⟨fun he => ?_, fun he => ?_⟩
    · dsimp only
      rw [pBin_geq, decide_eq_true (by omega)]
      have : x ∈ ms.map MV.node := List.mem_map.2 ⟨_, List.getElem_mem hlt, he⟩
      rw [decide_eq_true this] at hK
      exact hK h2 (o1.more x2)
    · rw [pBin_add, wI j (by omega)]
      refine hZ (_, ()) h2 hlt ⟨rfl, x1.trans x2 fun _ h _ => h, o1.more x2, ?_⟩
      rw [List.take_succ_eq_append_getElem hlt, List.map_append, List.mem_append]
      rintro (h | h)
      · exact hno h
      · simp at h; exact he h.symm
  · have : j = ms.length := by omega
    subst this
    rw [List.take_length] at hno
    dsimp only
    rw [pBin_geq, decide_eq_false (by omega)]
    rw [decide_eq_false hno] at hK
    exact hK h1 o1

theorem valuesN_ok {vo : Value} {O : List Nat} (o : Own h0 h L) (Ho : Vw encN 1 h vo O) (hK : ∀ s h', Own h0 h' (cellR s [vo] T_sl_int :: L) → K (.func (.func F_slices_Values_sl_int_int_1) #[] #[ptr s]) h') : callS Tryz.prog F_slices_Values_sl_int_int [vo] h K := by
  refine callS_of (lk_slices_Values_sl_int_int _ ?_)
  unfold sh_slices_Values_sl_int_int
  refine o.box fun s h1 o1 => ?_
  rw [show (Value.cells vo).toList = [vo] by rw [Ho.one]] at o1
  exact hK s h1 o1

theorem freeM_in {M : List Nat} {k v : Nat} (h : v ∈ M) : freeM M (k + 1) v = freeM M k (v + 1) := by
  conv => lhs; unfold freeM
  rw [if_pos h]
theorem freeM_no {M : List Nat} {k v : Nat} (h : v ∉ M) : freeM M (k + 1) v = v := by
  unfold freeM
  rw [if_neg h]

theorem anext_ok (o : Own h0 h L) (hR : g.Right) (hN : NetR h rn g) (hn : g.n ≤ 16) (hr : r < g.n) (HM : ∀ m ∈ ms, MkV g h m) (Hl : Vw encM 7 h vl ms) (hl : ms.length < g.n) (hnd : (ms.map MV.node).Nodup)
    (hK : ∀ h', Own h0 h' L → K (I (nextA g (ms.map MV.node) r)) h') : callS Tryz.prog F_avoid_next [ptr rn, vl, I r] h K := by
  refine callS_of (lk_avoid_next _ _ _ ?_)
  unfold sh_avoid_next
  have T := from_tree hR hr
  have hmn : ∀ x ∈ ms.map MV.node, x < g.n := fun x hx => by
    obtain ⟨y, hy, rfl⟩ := List.mem_map.1 hx
    exact (HM y hy).1
  have hol : (g.from r).order.length ≤ g.n := nodup_le T.nodup T.range
  refine grow_ok hR hN hn hr HM Hl (by omega) fun pt tr m pm b5 b4 b3 ord vs vm sd sa so f kv h1 hf o1 => ?_
  have x1 := o1.ext
  simp only [pNil_ptr, pField_ptr]
  refine o1.load 1 rfl rfl ?_
  refine valuesN_ok o1 (o1.vw 8 rfl) fun s1 h2 o2 => ?_
  have hszl : (growA g (ms.map MV.node) r).sz.length = g.n := (growA_gi hR hn hr hmn).sl
  refine best_ok16 (f := szA g (ms.map MV.node) r) (O := (g.from r).order) o2 rfl rfl (valsN_iter (b := s1) (T := T_sl_int) (by omega)) (fun h' o' => ⟨o'.get 0 rfl, o'.vw 9 rfl⟩)
    (fun h' v K' hv o' hk => size_ok (sz := (growA g (ms.map MV.node) r).sz) o' (i := 2) (j := 6) rfl rfl (by rw [hszl]; exact T.range v hv) hk) fun h3 o3 => ?_
  refine o3.tail.box fun v8 h4 o4 => ?_
  clear o1 o2 o3
  have hnx : nextA g (ms.map MV.node) r = match bestS (szA g (ms.map MV.node) r) (g.from r).order with
    | none => freeM (ms.map MV.node) (g.n + 1) 0
    | some v => down (szA g (ms.map MV.node) r) (growA g (ms.map MV.node) r).kd g.n v := rfl
  have hord : ∀ w, bestS (szA g (ms.map MV.node) r) (g.from r).order = some w → w ∈ (g.from r).order := fun w hw => by
    rcases bestS_is (f := szA g (ms.map MV.node) r) (l := (g.from r).order) with ⟨e, _⟩ | ⟨w', e, h1, _⟩
    · rw [e] at hw; cases hw
    · rw [e] at hw; cases hw; exact h1
  generalize bestS (szA g (ms.map MV.node) r) (g.from r).order = bb at hnx hord
  refine o4.st1 0 (cs' := [bestV bb]) rfl rfl rfl (by cases bb <;> rfl) (by cases bb <;> rfl) fun h5 o5 => o5.load 0 rfl rfl ?_
  clear o4
  cases bb with
  | none =>
    show pBin .lss (I (-1)) _ _
    rw [pBin_lss, show decide ((-1 : Int) < 0) = true from rfl, ifV_true]
    refine o5.st1 0 (cs' := [I (0 : Nat)]) rfl rfl rfl rfl rfl fun h6 o6 => ?_
    clear o5
    have hml : (ms.map MV.node).length = ms.length := List.length_map _
    refine LoopH_count ms.length (fun i y h' => (∀ u, u < i → u ∈ ms.map MV.node) ∧ freeM (ms.map MV.node) (g.n + 1 - i) i = nextA g (ms.map MV.node) r ∧ ∃ L', Own h h' (cellR v8 [I i] T_int :: L')) ⟨fun u hu => by omega, hnx.symm, _, o6⟩ ?_
    rintro i ⟨⟩ h7 Z hi ⟨hall, hfm, L', o7⟩ hZ
    unfold sh_avoid_next_L1
    refine has16_ok o7 0 rfl (Hl.more o7.ext) (by omega) fun h8 o8 => ?_
    rw [ifV_dec]
    refine ⟨fun hin => ?_, fun hno => ?_⟩
    · have hall' : ∀ u, u < i + 1 → u ∈ ms.map MV.node := fun u hu => by
        by_cases e : u = i
        · rw [e]; exact hin
        · exact hall u (by omega)
      have := range_len hall'
      rw [List.length_range, hml] at this
      refine o8.load 0 rfl rfl ?_
      rw [pBin_add, wI i (by omega)]
      refine o8.st1 0 (cs' := [I (i + 1 : Nat)]) rfl rfl rfl rfl rfl fun h9 o9 => hZ () h9 this ⟨hall', ?_, L', o9⟩
      rw [← hfm, show g.n + 1 - i = (g.n + 1 - (i + 1)) + 1 by omega, freeM_in hin]
    · refine o8.load 0 rfl rfl ?_
      have := range_len hall
      rw [List.length_range, hml] at this
      rw [show g.n + 1 - i = (g.n - i) + 1 by omega, freeM_no hno] at hfm
      rw [← hfm] at hK
      exact hK h8 (o.more o8.ext)
  | some w0 =>
    show pBin .lss (I w0) _ _
    rw [pBin_lss, show decide ((w0 : Int) < 0) = false from decide_eq_false (by omega), ifV_false]
    refine o5.load 0 rfl rfl ?_
    have hkd : ∀ v, ∀ w ∈ (growA g (ms.map MV.node) r).kd v, w ∈ (g.from r).order ∧ (g.from r).order.idxOf v < (g.from r).order.idxOf w := fun v w hw => by
      obtain ⟨q1, _, _, q4⟩ := par_some T ((kdA hR hn hr hmn).1 hw)
      exact ⟨q1, q4⟩
    have hwo := hord w0 rfl
    dsimp only at hnx
    refine LoopH_count g.n (fun i y h' => (∃ v' : Value, Own h h' (cellR v8 [v'] T_int :: growL g (g.from r) rn r pt tr m pm b5 b4 b3 vs vm sd sa so vl f (growA g (ms.map MV.node) r) (famR encN 1 T_int kv (growA g (ms.map MV.node) r).kd g.n ++ [cellR ord [so] T_sl_int])) ∧
        ((∃ w : Nat, y.1 = I w ∧ w ∈ (g.from r).order ∧ i ≤ (g.from r).order.idxOf w ∧ down (szA g (ms.map MV.node) r) (growA g (ms.map MV.node) r).kd (g.n - i) w = nextA g (ms.map MV.node) r) ∨ (y.1 = I (-1) ∧ v' = I (nextA g (ms.map MV.node) r))))) ⟨_, o5, .inl ⟨w0, rfl, hwo, Nat.zero_le _, hnx.symm⟩⟩ ?_
    clear o5
    rintro i ⟨y, ⟨⟩⟩ h6 Z hi ⟨v', o6, hs⟩ hZ
    dsimp only at hs hZ ⊢
    unfold sh_avoid_next_L2
    rcases hs with ⟨w, rfl, hw1, hw2, hw3⟩ | ⟨rfl, rfl⟩
    · have hil : i < g.n := by have := List.idxOf_lt_length_of_mem hw1; omega
      have hwn := T.range w hw1
      rw [pBin_geq, decide_eq_true (by omega), ifV_true]
      refine o6.st1 0 (cs' := [I w]) rfl rfl rfl rfl rfl fun h7 o7 => ?_
      clear o6
      simp only [pNil_ptr, pField_ptr]
      refine o7.load 2 rfl rfl (o7.load 0 rfl rfl (o7.look 3 rfl ?_))
      have hfw := hf w
      show callS Tryz.prog F_slices_Values_sl_int_int [(f w).getD sl0] h7 _
      rw [hfw]
      have hfi : ∀ {v8' : Res} {X : List Res}, (v8' :: growL g (g.from r) rn r pt tr m pm b5 b4 b3 vs vm sd sa so vl f (growA g (ms.map MV.node) r) (famR encN 1 T_int kv (growA g (ms.map MV.node) r).kd g.n ++ X))[w + 13]? = some (slR encN 1 T_int (kv w) ((growA g (ms.map MV.node) r).kd w)) := by
        intro v8' X
        show (famR encN 1 T_int kv (growA g (ms.map MV.node) r).kd g.n ++ X)[w]? = _
        rw [List.getElem?_append_left (by simp [famR]; exact hwn), famR_get hwn]
      refine valuesN_ok o7 (o7.vw (w + 13) hfi) fun s2 h8 o8 => ?_
      have hkl : ((growA g (ms.map MV.node) r).kd w).length ≤ 16 := by
        have := (growQ_facts hR hn hr hmn (by rw [List.length_map]; omega) (g.from r).order.length).1 w
        rw [growQ_end] at this
        exact this
      refine best_ok16 (f := szA g (ms.map MV.node) r) (O := (growA g (ms.map MV.node) r).kd w) o8 rfl rfl (valsN_iter (b := s2) (T := T_sl_int) (by omega)) (fun h' o' => ⟨o'.get 0 rfl, o'.tail.vw (w + 13) hfi⟩)
        (fun h' v K' hv o' hk => size_ok (sz := (growA g (ms.map MV.node) r).sz) o' (i := 3) (j := 7) rfl rfl (by rw [hszl]; exact T.range v (hkd w v hv).1) hk) fun h9 o9 => ?_
      replace o9 := o9.tail
      refine hZ (_, ()) h9 hil ⟨_, o9, ?_⟩
      rw [show g.n - i = (g.n - (i + 1)) + 1 by omega] at hw3
      unfold down at hw3
      rcases bestS_is (f := szA g (ms.map MV.node) r) (l := (growA g (ms.map MV.node) r).kd w) with ⟨e, _⟩ | ⟨w', e, h1, _⟩
      · rw [e] at hw3 ⊢
        dsimp only at hw3
        rw [hw3]
        exact .inr ⟨rfl, rfl⟩
      · rw [e] at hw3 ⊢
        dsimp only at hw3
        obtain ⟨q1, q2⟩ := hkd w w' h1
        exact .inl ⟨w', rfl, q1, by omega, hw3⟩
    · rw [pBin_geq, show decide ((0 : Int) ≤ -1) = false from rfl, ifV_false]
      exact o6.load 0 rfl rfl (hK h6 (o.more o6.ext))

end
end Go.Proofs.YtoopkllfpmjnfaaGreatDoor

namespace Go.Proofs.YtoopkllfpmjnfaaGreatDoor
open Go Go.Mh
set_option linter.unusedVariables false

section
variable {h0 h : Heap} {L : List Res} {K : Value → Heap → Prop} {g : G} {r : Nat} {d : Value} {xs : List Int} {DS : Nat → List Res → Prop}

theorem own_mid {A B C : List Res} (o : Own h0 h (A ++ (B ++ C))) : Own h0 h (A ++ C) := by
  have o1 : Own h0 h ((A ++ B) ++ C) := by rw [List.append_assoc]; exact o
  have o2 := Own.comm o1
  rw [← List.append_assoc] at o2
  exact Own.comm o2.left

theorem rootA_draw {i n : Nat} (hn : 0 < n) (hx : ∀ x ∈ xs, 0 ≤ x) : (drawP (xs.drop i) n).1 = (rootA xs n i : Int) ∧ (drawP (xs.drop i) n).2 = xs.drop (i + 1) := by
  by_cases h : i < xs.length
  · rw [List.drop_eq_getElem_cons h]
    refine ⟨?_, rfl⟩
    show xs[i].tmod n = _
    unfold rootA
    rw [List.getElem?_eq_getElem h]
    show _ = (((xs[i].tmod n).toNat : Nat) : Int)
    have := Int.tmod_nonneg (n : Int) (hx _ (List.getElem_mem h))
    omega
  · rw [List.drop_eq_nil_of_le (by omega), List.drop_eq_nil_of_le (by omega)]
    refine ⟨?_, rfl⟩
    unfold rootA
    rw [List.getElem?_eq_none (by omega)]
    rfl

/-- Landmarks, by draws of whatever kind. -/
theorem amarks_ok {k : Int} (o : Own h0 h L) (hR : g.Right) (hn : g.n ≤ 16) (hx : ∀ x ∈ xs, 0 ≤ x) (hk2 : k < 2 ^ 40) (H0 : ∀ {i h' L'}, DS i L' → Own h0 h' L' → NetR h' r g) (hL : DS 0 L)
    (hd : ∀ {i : Nat} {K' : Value → Heap → Prop} {h1 : Heap} {A L' : List Res}, DS i L' → Own h0 h1 (A ++ L') → (∀ h2 L'', DS (i + 1) L'' → Own h0 h2 (A ++ L'') → K' (I (rootA xs g.n i)) h2) → callS Tryz.prog F_draw_Draws_Next [d, I g.n] h1 K')
    (hK : ∀ w h' L', DS (min k g.n).toNat L' → Own h0 h' (slR encN 1 T_int w (mksA g xs (min k g.n).toNat) :: L') → K w h') : callS Tryz.prog F_avoid_Marks [ptr r, I k, d] h K := by
  refine callS_of (lk_avoid_Marks _ _ _ ?_)
  unfold sh_avoid_Marks
  have hpos := hR.pos
  simp only [pEq_ptr_nil, Option.isNone_some, ifV_false]
  generalize hkk : (min k g.n).toNat = kk at hK
  have hkn : kk ≤ g.n := by omega
  refine LoopH_count kk (fun i x h' => ∃ (ms : List MV) (ML L' : List Res), ms.map MV.node = mksA g xs i ∧ DS i L' ∧ (∀ m ∈ ms, xR m.sd (g.to m.node).dist ∈ ML ∧ xR m.fd (g.from m.node).dist ∈ ML) ∧
    Own h0 h' (slR encN 1 T_int x.1 (mksA g xs i) :: slR encM 7 T_avoid_mark x.2.1 ms :: (ML ++ L'))) ⟨[], [], L, rfl, hL, fun m hm => by (cases hm), o.nilS.nilS⟩ ?_
  rintro i ⟨wo, wl, ⟨⟩⟩ h1 Z hi ⟨ms, ML, L', hms, hDS, hML, o1⟩ hZ
  dsimp only at o1 hZ ⊢
  unfold sh_avoid_Marks_L1
  refine (o1.vw 0 rfl).len ?_
  rw [mksA_len]
  have oL : Own h0 h1 L' := (Own.comm (L := slR encN 1 T_int wo (mksA g xs i) :: slR encM 7 T_avoid_mark wl ms :: ML) o1).left
  have hN := H0 hDS oL
  refine nodes_ok hN ?_
  rw [pMin_int, show (if (g.n : Int) < k then (g.n : Int) else k) = min k g.n by split <;> omega, pBin_lss, ifV_dec]
  refine ⟨fun hlt => ?_, fun hge => ?_⟩
  · have hlt : i < kk := by omega
    obtain ⟨hnd, hmlt⟩ := mksA_ok hR hn hx (k := i) (xs := xs) (by omega)
    refine nodes_ok hN ?_
    refine hd (A := slR encN 1 T_int wo (mksA g xs i) :: slR encM 7 T_avoid_mark wl ms :: ML) hDS o1 fun h2 L2 hDS2 o2 => ?_
    clear o1 oL hN
    have o2 : Own h0 h2 (slR encN 1 T_int wo (mksA g xs i) :: slR encM 7 T_avoid_mark wl ms :: (ML ++ L2)) := o2
    have hrt : rootA xs g.n i < g.n := rootA_lt (by omega) hx
    have hlen : ms.length = i := by rw [← List.length_map (f := MV.node), hms, mksA_len]
    have k2 : ∀ (v : Nat) (h3 : Heap), v < g.n → mksA g xs (i + 1) = mksA g xs i ++ [v] → Own h0 h3 (slR encN 1 T_int wo (mksA g xs i) :: slR encM 7 T_avoid_mark wl ms :: (ML ++ L2)) →
        sh_avoid_Marks_k2 Tryz.prog wo (ptr r) wl (fun a0 a1 hz => Z (a0, (a1, ())) hz) (I v) h3 := by
      intro v h3 hv he o3
      unfold sh_avoid_Marks_k2
      refine o3.app1 0 v rfl rfl (sizesOk_of rfl) (fun _ => rfl) encN_plain rfl (by decide) (by rw [mksA_len]; omega) fun w' h4 o4 => ?_
      have o4 : Own h0 h4 (slR encN 1 T_int w' (mksA g xs i ++ [v]) :: slR encM 7 T_avoid_mark wl ms :: (ML ++ L2)) := o4
      rw [← he] at o4
      refine o4.build (enc := encI) (n := 1) [(v : Int)] rfl (sizesOk_of rfl) rfl fun w5 h5 o5 => ?_
      have oL : Own h0 h5 L2 := (Own.comm (L := slR encI 1 T_int w5 [(v : Int)] :: slR encN 1 T_int w' (mksA g xs (i + 1)) :: slR encM 7 T_avoid_mark wl ms :: ML) o5).left
      refine marks_ok o5 hR (H0 hDS2 oL) (o5.vw 0 rfl) (show 1 < 2 ^ 32 by decide) fun w6 ms1 h6 hms1 o6 => ?_
      have e1 : mksZ g.n [(v : Int)] = [v] := by
        have := mksZ_nI (n := g.n) (l := [v]) (fun m hm => by rw [List.mem_singleton.1 hm]; exact hv)
        exact this
      rw [e1] at hms1
      obtain ⟨m, rfl⟩ : ∃ m, ms1 = [m] := by
        match ms1, hms1 with
        | [m], _ => exact ⟨m, rfl⟩
      have hmv : m.node = v := by simpa using hms1
      have o6 : Own h0 h6 (slR encM 7 T_avoid_mark w6 [m] :: xR m.sd (g.to m.node).dist :: xR m.fd (g.from m.node).dist :: slR encI 1 T_int w5 [(v : Int)] :: slR encN 1 T_int w' (mksA g xs (i + 1)) :: slR encM 7 T_avoid_mark wl ms :: (ML ++ L2)) := o6
      refine o6.app 5 rfl encM_len encM_plain rfl (o6.vw 0 rfl) (by decide) (by simp only [List.length_cons, List.length_nil]; omega) fun w7 h7 o7 => ?_
      refine hZ (w', (w7, ())) h7 hlt ⟨ms ++ [m], xR m.sd (g.to m.node).dist :: xR m.fd (g.from m.node).dist :: ML, L2, ?_, hDS2, fun m' hm' => ?_, ?_⟩
      · rw [List.map_append, hms, he]
        simp [hmv]
      · rcases List.mem_append.1 hm' with hm' | hm'
        · obtain ⟨a, b⟩ := hML m' hm'
          exact ⟨List.mem_cons_of_mem _ (List.mem_cons_of_mem _ a), List.mem_cons_of_mem _ (List.mem_cons_of_mem _ b)⟩
        · rw [List.mem_singleton.1 hm']
          exact ⟨List.mem_cons_self, List.mem_cons_of_mem _ List.mem_cons_self⟩
      · exact o7.front 6 [4, 5, 1, 2] (by decide) (by decide)
    refine (o2.vw 0 rfl).len ?_
    rw [mksA_len, pBin_gtr, ifV_dec]
    refine ⟨fun hp => ?_, fun hz => ?_⟩
    · have oL : Own h0 h2 L2 := (Own.comm (L := slR encN 1 T_int wo (mksA g xs i) :: slR encM 7 T_avoid_mark wl ms :: ML) o2).left
      refine anext_ok (ms := ms) o2 hR (H0 hDS2 oL) hn hrt (fun m hm => ?_) (o2.vw 1 rfl) (by omega) (by rw [hms]; exact hnd) fun h3 o3 => ?_
      · obtain ⟨a, b⟩ := hML m hm
        refine ⟨hmlt _ (by rw [← hms]; exact List.mem_map_of_mem hm), o2.vwm (T := T_int64) ?_, o2.vwm (T := T_int64) ?_⟩
        · exact List.mem_cons_of_mem _ (List.mem_cons_of_mem _ (List.mem_append_left _ a))
        · exact List.mem_cons_of_mem _ (List.mem_cons_of_mem _ (List.mem_append_left _ b))
      · rw [hms]
        refine k2 _ h3 (nextA_spec hR hn hrt hmlt hnd (by rw [mksA_len]; omega)).1 ?_ o3
        show mksA g xs i ++ [if i = 0 then _ else _] = _
        rw [if_neg (by omega)]
    · have hi0 : i = 0 := by omega
      subst hi0
      exact k2 _ h2 hrt rfl o2
  · have : i = kk := by omega
    subst this
    refine hK wo h1 L' hDS ?_
    exact own_mid (A := [slR encN 1 T_int wo (mksA g xs i)]) (B := slR encM 7 T_avoid_mark wl ms :: ML) o1

/-- Landmarks, by numbers that were drawn. -/
theorem amarksD_ok {k : Int} {pd : Nat} {vl : Value} {N : Res} (o : Own h0 h (cellR pd [vl] T_draw_Draws :: quR encU 1 T_uint32 vl xs :: L)) (p : Nat) (hp : L[p]? = some N) (hR : g.Right) (hN : netR N r g) (hn : g.n ≤ 16) (hk : k < 2 ^ 40) (hxl : xs.length < 2 ^ 62) (hr : ∀ x ∈ xs, 0 ≤ x ∧ x ≤ 4294967295)
    (hK : ∀ w vl' h', Own h0 h' (slR encN 1 T_int w (mksA g xs (min k g.n).toNat) :: cellR pd [vl'] T_draw_Draws :: quR encU 1 T_uint32 vl' (xs.drop (min k g.n).toNat) :: L) → K w h') : callS Tryz.prog F_avoid_Marks [ptr r, I k, ptr pd] h K := by
  have hpos := hR.pos
  have hmost := hR.most
  refine amarks_ok (xs := xs) (DS := fun i L2 => ∃ vl', L2 = cellR pd [vl'] T_draw_Draws :: quR encU 1 T_uint32 vl' (xs.drop i) :: L) o hR hn (fun x hx => (hr x hx).1) hk ?_ ⟨vl, rfl⟩ ?_ fun w h' L' ⟨vl', e⟩ o' => hK w vl' h' (by subst e; exact o')
  · rintro i h' L' ⟨vl', rfl⟩ o'
    exact hN _ (o'.get (p + 2) hp)
  · rintro i K' h1 A L' ⟨vl', rfl⟩ o1 hk'
    have hlen : (xs.drop i).length < 2 ^ 62 := by rw [List.length_drop]; omega
    obtain ⟨e1, e2⟩ := rootA_draw (xs := xs) (i := i) (n := g.n) (by omega) fun x hx => (hr x hx).1
    refine dnext_ok o1 A.length (A.length + 1) (by rw [List.getElem?_append_right (Nat.le_refl _), Nat.sub_self]; rfl) (by rw [List.getElem?_append_right (by omega), Nat.add_sub_cancel_left]; rfl) (by omega) hpos (by omega) hlen (fun x hx => hr x (List.mem_of_mem_drop hx)) fun vl2 h2 o2 => ?_
    rw [e1]
    refine hk' h2 _ ⟨vl2, rfl⟩ ?_
    rw [e2, List.set_append_right _ _ (Nat.le_refl _), Nat.sub_self, List.set_cons_zero, List.set_append_right _ _ (by omega), Nat.add_sub_cancel_left] at o2
    exact o2

/-- Landmarks, by no draws. -/
theorem amarksN_ok {k : Int} {N : Res} (o : Own h0 h L) (p : Nat) (hp : L[p]? = some N) (hR : g.Right) (hN : netR N r g) (hn : g.n ≤ 16) (hk : k < 2 ^ 40)
    (hK : ∀ w h', Own h0 h' (slR encN 1 T_int w (mksA g [] (min k g.n).toNat) :: L) → K w h') : callS Tryz.prog F_avoid_Marks [ptr r, I k, .pointer none] h K := by
  have hpos := hR.pos
  refine amarks_ok (xs := []) (DS := fun _ L2 => L2 = L) o hR hn (fun x hx => (by cases hx)) hk ?_ rfl ?_ fun w h' L' e o' => hK w h' (by subst e; exact o')
  · rintro i h' L' rfl o'
    exact hN _ (o'.get p hp)
  · rintro i K' h1 A L' rfl o1 hk'
    refine dnextN_ok (by omega) ?_
    exact hk' h1 L' rfl o1

end
end Go.Proofs.YtoopkllfpmjnfaaGreatDoor
