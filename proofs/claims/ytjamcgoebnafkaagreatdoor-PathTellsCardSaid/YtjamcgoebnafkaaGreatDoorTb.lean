/- Texts of the proofs of seat YtjamcgoebnafkaaGreatDoor, joined: HpF, HpG, HpH, HpI, HoA, FlA, FlB, FlC, FlD, PaA, PaB, R7C, R11A, R7A, R7B, F11A, F11B. They have no conditions of their own. -/
import Derived.Test.YtjamcgoebnafkaaGreatDoorTa
import Derived.Test.YtjamcgoebnafkaaGreatDoorMc
set_option linter.unusedVariables false
set_option linter.unusedSimpArgs false

namespace Go.Proofs.YtjamcgoebnafkaaGreatDoor
open Go Go.Mh

theorem gt_append {l : List HE} {a : HE} {j : Nat} (hj : j < l.length) : gt (l ++ [a]) j = gt l j := by
  simp [gt, List.getElem?_append_left hj]

theorem pos_append {l : List HE} {a : HE} (hno : ∀ p ∈ l, p.1 ≠ a.1) (x : Int) : fset (pos l) a.1 (I l.length) x = pos (l ++ [a]) x := by
  unfold fset pos
  rw [List.findIdx?_append]
  by_cases hx : x = a.1
  · subst hx
    have : l.findIdx? (fun p => p.1 == a.1) = none := by
      rw [List.findIdx?_eq_none_iff]; intro p hp; simpa using hno p hp
    simp [this]
  · rw [if_neg hx]
    have : [a].findIdx? (fun p => p.1 == x) = none := by
      rw [List.findIdx?_eq_none_iff]; intro p hp; simp at hp; subst hp; simpa using fun e => hx e.symm
    rw [this]; simp

theorem push_ok {h : Heap} {F : Nat → Prop} {r : Nat} {l : List HE} {n id key : Int} {K : Value → Heap → Prop} (H : HV h F r l n) (hsm : l.length + 1 < 2 ^ 40)
    (h2 : ((∃ p ∈ l, p.1 = id) ∨ id < 0 ∨ n ≤ id) → K (I 2) h)
    (h0 : (∀ p ∈ l, p.1 ≠ id) → 0 ≤ id → id < n → ∀ h' F' l', HV h' F' r l' n → l'.Perm ((id, key) :: l) → Grow h F F' → Upd F h h' → K (I 0) h') :
    callS Tryz.prog F_heap_Heap_Push [ptr r, I id, I key] h K := by
  refine callS_of (lk_heap_Heap_Push _ _ _ ?_)
  unfold sh_heap_Heap_Push
  obtain ⟨⟨m, bl, R, ho, f1, f2, f3⟩, hlow, hrg⟩ := H
  obtain ⟨v, hr, hs⟩ := R.slr
  obtain ⟨es, c, hm, him⟩ := R.map
  have c0 := hcell0 hr
  have c1 := hcell1 hr
  have c2 := hcell2 hr
  simp only [pEq_ptr_nil, Option.isNone_some, ifV_false, pNil_ptr, pField_ptr, pLoad_ptr, c0, c1, c2, Nat.zero_add]
  refine look_of hm him ?_
  rcases pos_cases l id with ⟨i, hi, rfl⟩ | hno
  · simp only [pos_get R.ids hi, if_true, Option.getD_some, Option.isSome_some, pExt_tuple]
    show ifV (.bool true) _ _
    simp only [ifV_true]
    exact h2 (.inl ⟨_, List.getElem_mem hi, rfl⟩)
  · simp only [pos_none hno, if_true, Option.getD_none, Option.isSome_none, pExt_tuple]
    show ifV (.bool false) _ _
    simp only [ifV_false, pBin_lss, pBin_geq, ifV_dec]
    refine ⟨fun hlt => h2 (.inr (.inl hlt)), fun hlt => ⟨fun hge => h2 (.inr (.inr hge)), fun hge => ?_⟩⟩
    refine hs.lenK ?_
    refine mapSet_of hm him fun es' c' him' => ?_
    have hrm : m ≠ r := by rintro rfl; rw [hm] at hr; simp at hr
    have hr1 := (upd_ne (o := .map es' c') hrm).trans hr
    have c0' := hcell0 hr1
    simp only [c0']
    have hs1 : SlR encH 2 tHeld (upd h m (.map es' c')) v bl l := by
      rcases hs with ⟨a, b⟩ | ⟨cap, rest, a, b, c, d⟩
      · exact .inl ⟨a, b⟩
      · have : m ≠ bl := by rintro rfl; rw [hm] at b; simp at b
        exact .inr ⟨cap, rest, a, (upd_ne this).trans b, c, d⟩
    have hm1 : (upd h m (.map es' c'))[m]? = some (.map es' c') := upd_self' hm
    have u1 : Upd (fun b => b = m) h (upd h m (.map es' c')) := Upd.upd _ _ rfl
    have hsz1 : (upd h m (.map es' c')).size = h.size := upd_size
    generalize upd h m (.map es' c') = h1 at hr1 hs1 hm1 u1 hsz1
    refine ⟨by simp [sizesOk], ?_⟩
    refine ⟨by simp [sizesOk, spliceAll, zerosL, Value.cells], ?_⟩
    have hnew : (h1.push (.cells (spliceAll (zerosL [Value.int .i64 0, Value.int .i64 0] 1) [(0, 2, .agg (spliceAll [Value.int .i64 0, Value.int .i64 0] [(0, 1, I id), (1, 1, I key)]).toArray)]).toArray tHeld (0, 0)))[h1.size]? =
      some (.cells #[I id, I key] tHeld (0, 0)) := by rw [push_new]; rfl
    have u2 := Upd.push (fun _ => False) h1 (.cells (spliceAll (zerosL [Value.int .i64 0, Value.int .i64 0] 1) [(0, 2, .agg (spliceAll [Value.int .i64 0, Value.int .i64 0] [(0, 1, I id), (1, 1, I key)]).toArray)]).toArray tHeld (0, 0))
    have hsz2 : (h1.push (.cells (spliceAll (zerosL [Value.int .i64 0, Value.int .i64 0] 1) [(0, 2, .agg (spliceAll [Value.int .i64 0, Value.int .i64 0] [(0, 1, I id), (1, 1, I key)]).toArray)]).toArray tHeld (0, 0))).size = h1.size + 1 := push_size
    generalize (h1.push (.cells (spliceAll (zerosL [Value.int .i64 0, Value.int .i64 0] 1) [(0, 2, .agg (spliceAll [Value.int .i64 0, Value.int .i64 0] [(0, 1, I id), (1, 1, I key)]).toArray)]).toArray tHeld (0, 0))) = h2' at hnew u2 hsz2
    refine append_of (ys := [(id, key)]) encH_len encH_plain rfl (hs1.upd u2 (fun f => f)) rfl ?_ (by decide) (by simp; omega) fun v' bl' h3 hs3 hbl' u3 hlt3 => ?_
    · simp only [cellsOfSl, Nat.one_mul]
      rw [cellsAt_of (i := 0) (cs := [I id, I key]) hnew _ 0 (by simp)]; rfl
    have hr3 : h3[r]? = _ := u3.get (u2.get hr1 (fun f => f)) (by
      rintro ⟨rfl, cs, hcs⟩
      rw [u2.get hr1 (fun f => f)] at hcs; simp at hcs; exact absurd hcs.2 (by decide))
    have hm3 : h3[m]? = _ := u3.get (u2.get hm1 (fun f => f)) (by
      rintro ⟨rfl, cs, hcs⟩
      rw [u2.get hm1 (fun f => f)] at hcs; simp at hcs)
    have hrb : r ≠ bl' := by
      rintro rfl
      obtain ⟨_, _, _, hb, _⟩ := hs3.full (by simp)
      rw [hr3] at hb; simp at hb; exact absurd hb.2 (by decide)
    refine pStore_of rfl hr3 (by rcases hs3.len with ⟨_, _, rfl⟩; rfl) (by rcases hs3.len with ⟨_, _, rfl⟩; simp) (by rcases hs3.len with ⟨_, _, rfl⟩; simp) ?_
    have ec : over [v, Value.map (some m), I n] 0 v'.cells.toList = [v', Value.map (some m), I n] := by
      rcases hs3.len with ⟨_, _, rfl⟩; rfl
    rw [ec]
    have u4 : Upd (fun b => b = r) h3 (upd h3 r (.cells [v', Value.map (some m), I n].toArray tHeap (0, 0))) := Upd.upd _ _ rfl
    have hr4 : (upd h3 r (.cells [v', Value.map (some m), I n].toArray tHeap (0, 0)))[r]? = _ := upd_self' hr3
    have hm4 := u4.get hm3 hrm
    have hs4 := hs3.upd u4 (fun e => hrb e.symm)
    generalize upd h3 r (.cells [v', Value.map (some m), I n].toArray tHeap (0, 0)) = h4 at u4 hr4 hm4 hs4
    have c4 := hcell0 hr4
    simp only [c4]
    refine hs4.lenK ?_
    have e5 : IntKind.i64.wrap (((l ++ [(id, key)]).length : Int) - 1) = (l.length : Int) := by
      rw [List.length_append, List.length_singleton, w64 (by omega) (by omega)]; omega
    rw [pBin_sub, e5]
    have R4 : Rep h4 r m bl' (l ++ [(id, key)]) n := by
      refine Rep.of hr4 hs4 hm4 (him'.congr (pos_append (a := (id, key)) hno)) ?_ (by simpa using hsm)
      rw [List.map_append, List.nodup_append]
      refine ⟨R.ids, by simp, ?_⟩
      intro a ha b hb
      simp at hb; subst hb
      obtain ⟨p, hp, rfl⟩ := List.mem_map.1 ha
      exact hno p hp
    refine up_ok R4 (i := l.length) (by simp) ?_ fun h5 l5 R5 hp5 ho5 u5 => ?_
    · refine ⟨fun j j0 j1 j2 => ?_, fun _ j j0 j1 j2 => ?_⟩
      · have j3 : j < l.length := by simp at j1; omega
        rw [gt_append j3, gt_append (show (j - 1) / 4 < l.length by omega)]
        exact ho j j0 j3
      · simp at j1; omega
    have hbh : h.size ≤ h2'.size := by omega
    have hblF : bl' = bl ∨ h.size ≤ bl' := by rcases hbl' with e | e <;> omega
    have u3' : Upd F h2' h3 := u3.mono fun b hb _ => hb.1 ▸ f3
    have u14 : Upd F h h4 := (((u1.mono (S' := F) fun b hb _ => by subst hb; exact f2).trans (u2.mono (S' := F) fun _ hf _ => hf.elim) fun _ h _ => h).trans u3' fun _ h _ => h).trans (u4.mono (S' := F) fun b hb _ => by subst hb; exact f1) fun _ h _ => h
    have u15 : Upd F h h5 := u14.trans u5 fun b hb hlt => by
      rcases hb with rfl | rfl
      · exact f2
      · rcases hblF with e | e
        · rw [e]; exact f3
        · omega
    have hsz5 := u15.size
    have hblt5 : bl' < h5.size := Nat.lt_of_lt_of_le (hlt3 (by have := hlow _ f3; omega)) (Nat.le_trans u4.size u5.size)
    refine h0 hno (by omega) (by omega) h5 (fun b => F b ∨ b = bl') l5 ⟨⟨m, bl', R5, ho5, .inl f1, .inl f2, .inr rfl⟩, ?_, ?_⟩ ?_ ?_ u15
    · rintro b (hb | rfl)
      · exact Nat.lt_of_lt_of_le (hlow b hb) hsz5
      · exact hblt5
    · intro p hp
      have := hp5.mem_iff.1 hp
      simp only [List.mem_append, List.mem_singleton] at this
      rcases this with hp | rfl
      · exact hrg p hp
      · exact ⟨by omega, by omega⟩
    · exact hp5.trans (List.perm_append_comm (l₁ := l) (l₂ := [(id, key)]))
    · rintro b (hb | rfl)
      · exact .inl hb
      · rcases hblF with e | e
        · rw [e]; exact .inl f3
        · exact .inr e

end Go.Proofs.YtjamcgoebnafkaaGreatDoor

namespace Go.Proofs.YtjamcgoebnafkaaGreatDoor
open Go Go.Mh

theorem gt_set {l : List HE} {i j : Nat} {a : HE} (hi : i < l.length) : gt (l.set i a) j = if j = i then a else gt l j := by
  by_cases e : j = i
  · subst e; simp [gt, hi]
  · by_cases hj : j < l.length
    · simp [gt, hj, e, List.getElem_set, show ¬ i = j from fun h => e h.symm]
    · simp [gt, hj, e]

theorem ids_set {l : List HE} {i : Nat} {k : Int} (hi : i < l.length) : (l.set i (l[i].1, k)).map (·.1) = l.map (·.1) := by
  apply List.ext_getElem
  · simp
  · intro j h1 h2
    simp only [List.getElem_map, List.getElem_set]
    split
    · rename_i e; subst e; rfl
    · rfl

theorem pos_ids {l l' : List HE} (h : l.map (·.1) = l'.map (·.1)) (x : Int) : pos l x = pos l' x := by
  have key : ∀ l : List HE, pos l x = ((l.map (·.1)).findIdx? (· == x)).map fun i => I i := by
    intro l; unfold pos; rw [List.findIdx?_map]; rfl
  rw [key, key, h]

theorem set_perm {l : List HE} {i : Nat} {a : HE} (hi : i < l.length) : (l.set i a).Perm (a :: l.erase l[i]) := by
  rw [List.perm_iff_count]
  intro x
  rw [List.count_set hi, List.count_cons, List.count_erase]

theorem lower_ok {h : Heap} {F : Nat → Prop} {r : Nat} {l : List HE} {n id key : Int} {K : Value → Heap → Prop} (H : HV h F r l n)
    (h2 : (id < 0 ∨ n ≤ id) → K (I 2) h)
    (h20 : 0 ≤ id → id < n → (∀ p ∈ l, p.1 ≠ id) → K (I 20) h)
    (h2' : ∀ p ∈ l, p.1 = id → p.2 < key → K (I 2) h)
    (h0 : ∀ p ∈ l, p.1 = id → ¬ p.2 < key → ∀ h' F' l', HV h' F' r l' n → l'.Perm ((id, key) :: l.erase p) → Grow h F F' → Upd F h h' → K (I 0) h') :
    callS Tryz.prog F_heap_Heap_Lower [ptr r, I id, I key] h K := by
  refine callS_of (lk_heap_Heap_Lower _ _ _ ?_)
  unfold sh_heap_Heap_Lower
  obtain ⟨⟨m, bl, R, ho, f1, f2, f3⟩, hlow, hrg⟩ := H
  obtain ⟨v, hr, hs⟩ := R.slr
  obtain ⟨es, c, hm, him⟩ := R.map
  have c0 := hcell0 hr
  have c1 := hcell1 hr
  have c2 := hcell2 hr
  simp only [pEq_ptr_nil, Option.isNone_some, ifV_false, pNil_ptr, pField_ptr, pLoad_ptr, c0, c1, c2, Nat.zero_add]
  refine look_of hm him ?_
  rcases pos_cases l id with ⟨i, hi, rfl⟩ | hno
  · have hrg' := hrg _ (List.getElem_mem hi)
    simp only [pos_get R.ids hi, if_true, Option.getD_some, Option.isSome_some]
    simp only [pExt_tuple]
    show pBin .lss _ _ _
    simp only [pBin_lss, pBin_geq, ifV_dec]
    refine ⟨fun hlt => by omega, fun _ => ⟨fun hge => by omega, fun _ => ?_⟩⟩
    show pUn .not (.bool true) _
    simp only [pUn_not, Bool.not_true, ifV_false]
    refine hs.idx hi ?_
    have ck := hs.slot encH_len hi (j := 1) (by omega)
    have ck' : hcell h ⟨bl, i * 2 + 1, none⟩ = some (I l[i].2) := ck
    simp only [pField_ptr, pLoad_ptr, ck']
    simp only [pBin_lss, ifV_dec]
    refine ⟨fun hk => h2' _ (List.getElem_mem hi) rfl hk, fun hk => ?_⟩
    refine hs.idx hi ?_
    obtain ⟨cap, rest, rfl, hb, hrest, hcap⟩ := hs.full (by omega)
    have hlen := row_length encH_len l
    simp only [pField_ptr]
    refine pStore_of rfl hb rfl (by simp [hlen]; omega) (by simp) ?_
    have eo : over (Mh.row encH l ++ rest) (i * 2 + 1) (I key).cells.toList = Mh.row encH (l.set i (l[i].1, key)) ++ rest := by
      have o := row_over encH_len hi (l[i].1, key) rest
      rw [← o]
      have hsl := row_slot encH_len hi rest
      have hd : (Mh.row encH l ++ rest).drop (i * 2) = I l[i].1 :: (Mh.row encH l ++ rest).drop (i * 2 + 1) := by
        have hg := row_get encH_len hi (j := 0) (by omega) rest
        have hlt' : i * 2 < (Mh.row encH l ++ rest).length := by simp [hlen]; omega
        rw [List.drop_eq_getElem_cons hlt']
        congr 1
        rw [Nat.add_zero, List.getElem?_eq_getElem hlt'] at hg
        simpa [encH] using hg
      have ht : (Mh.row encH l ++ rest).take (i * 2 + 1) = (Mh.row encH l ++ rest).take (i * 2) ++ [I l[i].1] := by
        have hlt' : i * 2 < (Mh.row encH l ++ rest).length := by simp [hlen]; omega
        rw [List.take_succ_eq_append_getElem hlt']
        congr 2
        have hg := row_get encH_len hi (j := 0) (by omega) rest
        rw [Nat.add_zero, List.getElem?_eq_getElem hlt'] at hg
        simpa [encH] using hg
      unfold over
      rw [ht]
      simp [encH]
    rw [eo]
    obtain ⟨hne1, hne2, hne3⟩ := R.r_ne (by omega)
    have hb1 : (upd h bl (.cells (Mh.row encH (l.set i (l[i].1, key)) ++ rest).toArray tHeld (0, 0)))[bl]? = _ := upd_self' hb
    have hr1 := (upd_ne (o := .cells (Mh.row encH (l.set i (l[i].1, key)) ++ rest).toArray tHeld (0, 0)) hne1.symm).trans hr
    have hm1 := (upd_ne (o := .cells (Mh.row encH (l.set i (l[i].1, key)) ++ rest).toArray tHeld (0, 0)) hne3).trans hm
    have u1 : Upd F h (upd h bl (.cells (Mh.row encH (l.set i (l[i].1, key)) ++ rest).toArray tHeld (0, 0))) := Upd.upd _ _ f3
    generalize upd h bl (.cells (Mh.row encH (l.set i (l[i].1, key)) ++ rest).toArray tHeld (0, 0)) = h1 at hb1 hr1 hm1 u1
    have hl1 : (l.set i (l[i].1, key)).length = l.length := List.length_set
    have R1 : Rep h1 r m bl (l.set i (l[i].1, key)) n := Rep.of hr1 (.inr ⟨cap, rest, by rw [hl1], hb1, by rw [hl1]; exact hrest, by rw [hl1]; exact hcap⟩) hm1
      (him.congr (pos_ids (ids_set hi).symm)) (by rw [ids_set hi]; exact R.ids) (by rw [hl1]; exact R.small)
    have hnew : ¬ hlt l[i] (l[i].1, key) = true := by rw [hlt_iff]; simp only; omega
    refine up_ok R1 (i := i) (by rw [hl1]; exact hi) ?_ fun h5 l5 R5 hp5 ho5 u5 => ?_
    · refine ⟨fun j j0 j1 j2 => ?_, fun i0 j j0 j1 j2 => ?_⟩
      · rw [hl1] at j1
        rw [gt_set hi, gt_set hi, if_neg j2]
        have := ho j j0 j1
        split
        · rename_i e; rw [e, ← gt_eq hi] at this; exact hlt_trans this hnew
        · exact this
      · rw [hl1] at j1
        rw [gt_set hi, gt_set hi, if_neg (by omega), if_neg (by omega)]
        have a := ho j j0 j1
        have b := ho i i0 hi
        rw [j2] at a
        exact hlt_trans a b
    · refine h0 _ (List.getElem_mem hi) rfl hk h5 F l5 ⟨⟨m, bl, R5, ho5, f1, f2, f3⟩, ?_, ?_⟩ ?_ (fun b hb => .inl hb) ?_
      · exact fun b hb => Nat.lt_of_lt_of_le (hlow b hb) (Nat.le_trans u1.size u5.size)
      · intro p hp
        have := hp5.mem_iff.1 hp
        have hm' : p.1 ∈ (l.set i (l[i].1, key)).map (·.1) := List.mem_map.2 ⟨p, this, rfl⟩
        rw [ids_set hi] at hm'
        obtain ⟨q, hq, hqe⟩ := List.mem_map.1 hm'
        rw [← hqe]; exact hrg q hq
      · exact hp5.trans (set_perm hi)
      · exact u1.trans u5 fun b hb hlt => by rcases hb with rfl | rfl; exact f2; exact f3
  · simp only [pos_none hno, if_true, Option.getD_none, Option.isSome_none, pExt_tuple]
    show pBin .lss _ _ _
    simp only [pBin_lss, pBin_geq, ifV_dec]
    refine ⟨fun hlt => h2 (.inl hlt), fun hlt => ⟨fun hge => h2 (.inr hge), fun hge => ?_⟩⟩
    show pUn .not (.bool false) _
    simp only [pUn_not, Bool.not_false, ifV_true]
    exact h20 (by omega) (by omega) hno

end Go.Proofs.YtjamcgoebnafkaaGreatDoor

namespace Go.Proofs.YtjamcgoebnafkaaGreatDoor
open Go Go.Mh

theorem swapL_last {l : List HE} (hl : 0 < l.length) : swapL l 0 (l.length - 1) hl (by omega) = (swapL l 0 (l.length - 1) hl (by omega)).take (l.length - 1) ++ [l[0]] := by
  have hlen := swapL_length (l := l) hl (show l.length - 1 < l.length by omega)
  apply List.ext_getElem
  · simp [hlen]; omega
  · intro j h1 h2
    rw [hlen] at h1
    by_cases hj : j < l.length - 1
    · rw [List.getElem_append_left (by simp [hlen]; omega)]; simp
    · have : j = l.length - 1 := by omega
      subst this
      rw [swapL_get, if_pos rfl, List.getElem_append_right (by simp [hlen])]
      simp

theorem pos_del {l2 : List HE} {p : HE} (hn : ((l2 ++ [p]).map (·.1)).Nodup) (x : Int) : fdel (pos (l2 ++ [p])) p.1 x = pos l2 x := by
  unfold fdel
  by_cases hx : x = p.1
  · subst hx
    rw [if_pos rfl]
    refine (pos_none fun q hq e => ?_).symm
    rw [List.map_append, List.nodup_append] at hn
    exact hn.2.2 q.1 (List.mem_map.2 ⟨q, hq, rfl⟩) p.1 (by simp) e
  · rw [if_neg hx]
    unfold pos
    rw [List.findIdx?_append]
    have : [p].findIdx? (fun q => q.1 == x) = none := by
      rw [List.findIdx?_eq_none_iff]; intro q hq; simp at hq; subst hq; simpa using fun e => hx e.symm
    rw [this]; simp

theorem pop_ok {h : Heap} {F : Nat → Prop} {r : Nat} {l : List HE} {n : Int} {K : Value → Heap → Prop} (H : HV h F r l n)
    (h0 : l = [] → K (.tuple #[I 0, I 0, .bool false]) h)
    (h1 : ∀ p, Min l p → ∀ h' F' l', HV h' F' r l' n → l'.Perm (l.erase p) → Grow h F F' → Upd F h h' → K (.tuple #[I p.1, I p.2, .bool true]) h') :
    callS Tryz.prog F_heap_Heap_Pop [ptr r] h K := by
  refine callS_of (lk_heap_Heap_Pop _ ?_)
  unfold sh_heap_Heap_Pop
  refine len_ok H ?_
  obtain ⟨⟨m, bl, R, ho, f1, f2, f3⟩, hlow, hrg⟩ := H
  obtain ⟨v, hr, hs⟩ := R.slr
  obtain ⟨es, c, hm, him⟩ := R.map
  have c0 := hcell0 hr
  simp only [pBin_eql, ifV_beq, pNil_ptr, pField_ptr, pLoad_ptr, c0, Nat.zero_add]
  refine ⟨fun he => h0 (List.eq_nil_of_length_eq_zero (by omega)), fun he => ?_⟩
  have hl : 0 < l.length := by omega
  refine hs.idx (i := 0) (k := .i64) hl ?_
  simp only [pLoadN_ptr, Nat.zero_mul]
  have ca : cellsAt h bl 0 2 = some [I l[0].1, I l[0].2] := by
    obtain ⟨cap, rest, rfl, hb, _, _⟩ := hs.full hl
    have hlen := row_length encH_len l
    rw [cellsAt_of (i := 0) hb 2 0 (by simp [hlen]; omega)]
    have := row_slot encH_len hl rest
    rw [Nat.zero_mul] at this
    rw [this]; rfl
  simp only [ca]
  refine hs.lenK ?_
  have e1 : IntKind.i64.wrap ((l.length : Int) - 1) = ((l.length - 1 : Nat) : Int) := by
    have := R.small
    rw [w64 (by omega) (by omega)]; omega
  rw [pBin_sub, e1]
  refine pBox_of ?_
  refine pStore_of rfl push_new rfl (by simp) (by simp [Mh.plainCell]) ?_
  have x1 : Ext h (upd (h.push (.cells (Value.agg #[.int .i64 0, .int .i64 0]).cells T_heap_held (0, 0))) h.size (.cells (over [Value.int .i64 0, Value.int .i64 0] 0 (Value.agg [I l[0].1, I l[0].2].toArray).cells.toList).toArray T_heap_held (0, 0))) :=
    ((Upd.push _ _ _).trans (Upd.upd (S := fun b => b = h.size) _ _ rfl) (fun b hb hlt => by omega))
  have hf1 : (upd (h.push (.cells (Value.agg #[.int .i64 0, .int .i64 0]).cells T_heap_held (0, 0))) h.size (.cells (over [Value.int .i64 0, Value.int .i64 0] 0 (Value.agg [I l[0].1, I l[0].2].toArray).cells.toList).toArray T_heap_held (0, 0)))[h.size]? =
    some (.cells #[I l[0].1, I l[0].2] T_heap_held (0, 0)) := upd_self' push_new
  have hsz1 := get_lt hf1
  generalize (upd (h.push (.cells (Value.agg #[.int .i64 0, .int .i64 0]).cells T_heap_held (0, 0))) h.size (.cells (over [Value.int .i64 0, Value.int .i64 0] 0 (Value.agg [I l[0].1, I l[0].2].toArray).cells.toList).toArray T_heap_held (0, 0))) = hA at x1 hf1 hsz1
  have R1 := R.upd x1 id id id
  have hrA := x1.get hr
  have cA := hcell0 hrA
  simp only [cA, true_and]
  have hrs := hlow _ f1
  have hms := hlow _ f2
  have hbs := hlow _ f3
  refine swap_ok R1 (i := 0) (k := l.length - 1) hl (by omega) fun h2 R2 u2 => ?_
  obtain ⟨S, R2, hlen, hS, hnd, hperm, hgt⟩ : ∃ S : List HE, Rep h2 r m bl S n ∧ S.length = l.length ∧ S = S.take (l.length - 1) ++ [l[0]] ∧ (S.map (·.1)).Nodup ∧ S.Perm l ∧
      (∀ j, gt S j = if j = l.length - 1 then gt l 0 else if j = 0 then gt l (l.length - 1) else gt l j) :=
    ⟨_, R2, swapL_length _ _, swapL_last hl, R2.ids, swapL_perm _ _, swapL_gt _ _⟩
  obtain ⟨v2, hr2, hs2⟩ := R2.slr
  obtain ⟨es2, c2, hm2, him2⟩ := R2.map
  have d0 := hcell0 hr2
  have hf2 := u2.get hf1 (by omega)
  simp only [d0]
  refine hs2.pre encH_len (by rw [hlen]; omega) fun v3 hs3 => ?_
  have hcs3 : v3.cells.size = 1 ∧ (∀ u ∈ v3.cells.toList, Mh.plainCell u = true) ∧ v3.cells.toList = [v3] := by
    rcases hs3.len with ⟨_, _, rfl⟩; simp
  refine pStore_of rfl hr2 hcs3.1 (by rw [hcs3.1]; simp) hcs3.2.1 ?_
  have ec : over [v2, Value.map (some m), I n] 0 v3.cells.toList = [v3, Value.map (some m), I n] := by rw [hcs3.2.2]; rfl
  rw [ec]
  have u3 : Upd (fun b => b = r) h2 (upd h2 r (.cells [v3, Value.map (some m), I n].toArray tHeap (0, 0))) := Upd.upd _ _ rfl
  have hr3 : (upd h2 r (.cells [v3, Value.map (some m), I n].toArray tHeap (0, 0)))[r]? = _ := upd_self' hr2
  obtain ⟨hne1, hne2, hne3⟩ := R2.r_ne (by omega)
  have hm3 := u3.get hm2 (fun e => hne2 e.symm)
  have hs3' := hs3.upd u3 (fun e => hne1 e.symm)
  have hf3 := u3.get hf2 (by omega)
  generalize upd h2 r (.cells [v3, Value.map (some m), I n].toArray tHeap (0, 0)) = h3 at u3 hr3 hm3 hs3' hf3
  have g1 := hcell1 hr3
  have g2 := hcell0 hf3
  simp only [g1, g2, pField_ptr, pLoad_ptr, Nat.add_zero, Nat.zero_add]
  refine delete_of hm3 him2 fun es4 him4 => ?_
  have u4 : Upd (fun b => b = m) h3 (upd h3 m (.map es4 c2)) := Upd.upd _ _ rfl
  have hr4 := u4.get hr3 hne2
  have hm4 : (upd h3 m (.map es4 c2))[m]? = _ := upd_self' hm3
  have hs4 := hs3'.upd u4 hne3
  have hf4 := u4.get hf3 (by omega)
  generalize upd h3 m (.map es4 c2) = h4 at u4 hr4 hm4 hs4 hf4
  have hl2 : (S.take (l.length - 1)).length = l.length - 1 := by simp [hlen]
  have hpS : S.Perm (l[0] :: S.take (l.length - 1)) := by
    rw [hS]
    have : ((S.take (l.length - 1)) ++ [l[0]]).take (l.length - 1) = S.take (l.length - 1) := by rw [List.take_append_of_le_length (by rw [hl2]; exact Nat.le_refl _), List.take_take, Nat.min_self]
    rw [this]
    exact List.perm_append_comm
  have R4 : Rep h4 r m bl (S.take (l.length - 1)) n := by
    refine Rep.of hr4 hs4 hm4 (him4.congr fun x => ?_) ?_ (by rw [hl2]; have := R.small; omega)
    · have := pos_del (l2 := S.take (l.length - 1)) (p := l[0]) (by rw [← hS]; exact hnd) x
      rw [← hS] at this; exact this
    · have := (hpS.map (·.1)).nodup_iff.1 hnd
      rw [List.map_cons, List.nodup_cons] at this
      exact this.2
  have gtk : ∀ j, j < l.length - 1 → gt (S.take (l.length - 1)) j = gt S j := by
    intro j hj
    rw [← gt_eq (by rw [hl2]; exact hj), ← gt_eq (by rw [hlen]; omega)]
    simp
  have hbl4 : bl < h4.size := by
    have a := x1.size; have b := u2.size; have c := u3.size; have d := u4.size; omega
  have u14 : Upd F h h4 := (((x1.mono (S' := F) fun _ hf _ => hf.elim).trans u2 fun b hb _ => by rcases hb with rfl | rfl; exact f2; exact f3).trans u3 fun b hb _ => by subst hb; exact f1).trans u4 fun b hb _ => by subst hb; exact f2
  refine down_ok R4 (i := 0) (by decide) (by rcases Nat.eq_zero_or_pos (l.length - 1) with e | e; exact .inr (List.eq_nil_of_length_eq_zero (by rw [hl2]; exact e)); exact .inl (by rw [hl2]; exact e)) hbl4 ?_ fun h5 l5 R5 hp5 ho5 u5 => ?_
  · refine ⟨fun j j0 j1 j2 => ?_, fun i0 => absurd i0 (Nat.lt_irrefl 0)⟩
    rw [hl2] at j1
    have hj4 : (j - 1) / 4 < l.length - 1 := by omega
    rw [gtk j j1, gtk _ hj4, hgt, hgt, if_neg (by omega), if_neg (by omega), if_neg (by omega), if_neg (by omega)]
    exact ho j j0 (by omega)
  · have hf5 := u5.get hf4 (by omega)
    have k0 := hcell0 hf5
    have k1 := hcell1 hf5
    simp only [k0, k1, pField_ptr, pLoad_ptr, Nat.add_zero, Nat.zero_add]
    have u15 : Upd F h h5 := u14.trans u5 fun b hb _ => by rcases hb with rfl | rfl; exact f2; exact f3
    have hpe : l5.Perm (l.erase l[0]) := by
      have := (hperm.symm.trans hpS).erase l[0]
      simp only [List.erase_cons_head] at this
      exact hp5.trans this.symm
    refine h1 l[0] (ho.min hl) h5 F l5 ⟨⟨m, bl, R5, ho5, f1, f2, f3⟩, fun b hb => Nat.lt_of_lt_of_le (hlow b hb) u15.size, fun p hp => hrg p (List.mem_of_mem_erase (hpe.mem_iff.1 hp))⟩ hpe (fun b hb => .inl hb) u15

theorem pop_nil {h : Heap} {K : Value → Heap → Prop} (hK : K (.tuple #[I 0, I 0, .bool false]) h) : callS Tryz.prog F_heap_Heap_Pop [.pointer none] h K := by
  refine callS_of (lk_heap_Heap_Pop _ ?_)
  unfold sh_heap_Heap_Pop
  refine callS_of (lk_heap_Heap_Len _ ?_)
  unfold sh_heap_Heap_Len
  simpa using hK

end Go.Proofs.YtjamcgoebnafkaaGreatDoor

namespace Go.Proofs.YtjamcgoebnafkaaGreatDoor
open Go Go.Mh

instance (l : List HE) (p : HE) : Decidable (Min l p) := by unfold Min; exact inferInstance

/-- The same, where only what is held counts, not how it lies. -/
def PV (h : Heap) (F : Nat → Prop) (r : Nat) (L : List HE) (n : Int) : Prop := ∃ l, HV h F r l n ∧ l.Perm L

def Disj (F G : Nat → Prop) : Prop := ∀ b, F b → ¬ G b

section
variable {h h' : Heap} {F G S : Nat → Prop} {r : Nat} {L : List HE} {n id key : Int} {K : Value → Heap → Prop} {p : HE}

theorem PV.upd (H : PV h F r L n) (hu : Upd S h h') (hd : Disj F S) : PV h' F r L n := by
  obtain ⟨l, H, hp⟩ := H; exact ⟨l, H.upd hu hd, hp⟩
theorem PV.low (H : PV h F r L n) : ∀ b, F b → b < h.size := by obtain ⟨l, H, hp⟩ := H; exact H.low
theorem PV.rng (H : PV h F r L n) : ∀ p ∈ L, 0 ≤ p.1 ∧ p.1 < n := by obtain ⟨l, H, hp⟩ := H; exact fun p h => H.rng p (hp.mem_iff.2 h)
theorem PV.nodup (H : PV h F r L n) : (L.map (·.1)).Nodup := by obtain ⟨l, H, hp⟩ := H; exact (hp.map _).nodup_iff.1 H.nodup

theorem Min.perm {l l' : List HE} (hp : l.Perm l') (h : Min l p) : Min l' p := ⟨hp.mem_iff.1 h.1, fun q hq => h.2 q (hp.mem_iff.2 hq)⟩

theorem PV.perm {L' : List HE} (H : PV h F r L n) (hp : L.Perm L') : PV h F r L' n := by
  obtain ⟨l, H, hp'⟩ := H; exact ⟨l, H, hp'.trans hp⟩

theorem plen (H : PV h F r L n) (hK : K (I L.length) h) : callS Tryz.prog F_heap_Heap_Len [ptr r] h K := by
  obtain ⟨l, H, hp⟩ := H; exact len_ok H (by rw [hp.length_eq]; exact hK)
theorem pkey (H : PV h F r L n) (h0 : (∀ p ∈ L, p.1 ≠ id) → K (.tuple #[I 0, .bool false]) h) (h1 : ∀ p ∈ L, p.1 = id → K (.tuple #[I p.2, .bool true]) h) : callS Tryz.prog F_heap_Heap_Key [ptr r, I id] h K := by
  obtain ⟨l, H, hp⟩ := H
  exact key_ok H (fun e => h0 fun p hm => e p (hp.mem_iff.2 hm)) fun p hm => h1 p (hp.mem_iff.1 hm)
theorem pnew (hK : ∀ h' F r, PV h' F r [] (max n 0) → (∀ b, F b → h.size ≤ b) → Ext h h' → K (ptr r) h') : callS Tryz.prog F_heap_New [I n] h K :=
  new_ok fun h' F r H a b => hK h' F r ⟨[], H, .refl _⟩ a b
theorem ppush (H : PV h F r L n) (hsm : L.length + 1 < 2 ^ 40)
    (h2 : ((∃ p ∈ L, p.1 = id) ∨ id < 0 ∨ n ≤ id) → K (I 2) h)
    (h0 : (∀ p ∈ L, p.1 ≠ id) → 0 ≤ id → id < n → ∀ h' F', PV h' F' r ((id, key) :: L) n → Grow h F F' → Upd F h h' → K (I 0) h') :
    callS Tryz.prog F_heap_Heap_Push [ptr r, I id, I key] h K := by
  obtain ⟨l, H, hp⟩ := H
  refine push_ok H (by rw [hp.length_eq]; exact hsm) (fun e => h2 ?_) fun hno a b h' F' l' H' hp' hg hu => h0 (fun p hm => hno p (hp.mem_iff.2 hm)) a b h' F' ⟨l', H', hp'.trans (hp.cons _)⟩ hg hu
  rcases e with ⟨p, hm, e⟩ | e
  · exact .inl ⟨p, hp.mem_iff.1 hm, e⟩
  · exact .inr e
theorem ppush0 (H : PV h F r L n) (hsm : L.length + 1 < 2 ^ 40) (hno : ∀ p ∈ L, p.1 ≠ id) (h1 : 0 ≤ id) (h2 : id < n)
    (h0 : ∀ h' F', PV h' F' r ((id, key) :: L) n → Grow h F F' → Upd F h h' → K (I 0) h') : callS Tryz.prog F_heap_Heap_Push [ptr r, I id, I key] h K :=
  ppush H hsm (fun e => by
    rcases e with ⟨p, hm, e⟩ | e
    · exact (hno p hm e).elim
    · omega) fun _ _ _ => h0
theorem ppush2 (H : PV h F r L n) (hsm : L.length + 1 < 2 ^ 40) (hno : (∃ p ∈ L, p.1 = id) ∨ id < 0 ∨ n ≤ id) (h2 : K (I 2) h) : callS Tryz.prog F_heap_Heap_Push [ptr r, I id, I key] h K :=
  ppush H hsm (fun _ => h2) fun hn a b => by
    rcases hno with ⟨p, hm, e⟩ | e
    · exact (hn p hm e).elim
    · omega
theorem plower (H : PV h F r L n)
    (h2 : (id < 0 ∨ n ≤ id) → K (I 2) h) (h20 : 0 ≤ id → id < n → (∀ p ∈ L, p.1 ≠ id) → K (I 20) h) (h2' : ∀ p ∈ L, p.1 = id → p.2 < key → K (I 2) h)
    (h0 : ∀ p ∈ L, p.1 = id → ¬ p.2 < key → ∀ h' F', PV h' F' r ((id, key) :: L.erase p) n → Grow h F F' → Upd F h h' → K (I 0) h') :
    callS Tryz.prog F_heap_Heap_Lower [ptr r, I id, I key] h K := by
  obtain ⟨l, H, hp⟩ := H
  exact lower_ok H h2 (fun a b e => h20 a b fun p hm => e p (hp.mem_iff.2 hm)) (fun p hm => h2' p (hp.mem_iff.1 hm)) fun p hm e hk h' F' l' H' hp' hg hu =>
    h0 p (hp.mem_iff.1 hm) e hk h' F' ⟨l', H', hp'.trans ((hp.erase p).cons _)⟩ hg hu
theorem id_uniq (hn : (L.map (·.1)).Nodup) {q : HE} (hp : p ∈ L) (hq : q ∈ L) (he : p.1 = q.1) : p = q := by
  obtain ⟨i, hi, rfl⟩ := List.mem_iff_getElem.1 hp
  obtain ⟨j, hj, rfl⟩ := List.mem_iff_getElem.1 hq
  have := ids_inj hn hi hj he
  subst this; rfl
theorem plower0 (H : PV h F r L n) (hp : p ∈ L) (he : p.1 = id) (hk : ¬ p.2 < key)
    (h0 : ∀ h' F', PV h' F' r ((id, key) :: L.erase p) n → Grow h F F' → Upd F h h' → K (I 0) h') : callS Tryz.prog F_heap_Heap_Lower [ptr r, I id, I key] h K := by
  have hr := H.rng p hp
  refine plower H (fun e => by omega) (fun _ _ e => (e p hp he).elim) (fun q hq e hk' => ?_) fun q hq e hk' => ?_
  · have := id_uniq H.nodup hp hq (he.trans e.symm); subst this; exact (hk hk').elim
  · have := id_uniq H.nodup hp hq (he.trans e.symm); subst this; exact h0
theorem plower2 (H : PV h F r L n) (hp : (∃ p ∈ L, p.1 = id ∧ p.2 < key) ∨ id < 0 ∨ n ≤ id) (h2 : K (I 2) h) : callS Tryz.prog F_heap_Heap_Lower [ptr r, I id, I key] h K := by
  refine plower H (fun _ => h2) (fun a b e => ?_) (fun _ _ _ _ => h2) fun q hq e hk' => ?_
  · rcases hp with ⟨p, hm, e', _⟩ | e'
    · exact (e p hm e').elim
    · omega
  · rcases hp with ⟨p, hm, e', hk⟩ | e'
    · have := id_uniq H.nodup hm hq (e'.trans e.symm); subst this; exact (hk' hk).elim
    · have := H.rng q hq; omega
theorem plower20 (H : PV h F r L n) (h1 : 0 ≤ id) (h2 : id < n) (hp : ∀ p ∈ L, p.1 ≠ id) (hK : K (I 20) h) : callS Tryz.prog F_heap_Heap_Lower [ptr r, I id, I key] h K :=
  plower H (fun _ => by omega) (fun _ _ _ => hK) (fun q hq e => (hp q hq e).elim) fun q hq e => (hp q hq e).elim
theorem ppop (H : PV h F r L n) (h0 : L = [] → K (.tuple #[I 0, I 0, .bool false]) h)
    (h1 : ∀ p, Min L p → ∀ h' F', PV h' F' r (L.erase p) n → Grow h F F' → Upd F h h' → K (.tuple #[I p.1, I p.2, .bool true]) h') : callS Tryz.prog F_heap_Heap_Pop [ptr r] h K := by
  obtain ⟨l, H, hp⟩ := H
  exact pop_ok H (fun e => h0 (by subst e; exact hp.nil_eq.symm)) fun p hm h' F' l' H' hp' hg hu => h1 p (hm.perm hp) h' F' ⟨l', H', hp'.trans (hp.erase p)⟩ hg hu
theorem ppop1 (H : PV h F r L n) (hm : Min L p) (h1 : ∀ h' F', PV h' F' r (L.erase p) n → Grow h F F' → Upd F h h' → K (.tuple #[I p.1, I p.2, .bool true]) h') : callS Tryz.prog F_heap_Heap_Pop [ptr r] h K :=
  ppop H (fun e => by subst e; simp [Min] at hm) fun q hq => by
    have := hq.uniq hm (.refl _); subst this; exact h1

theorem Disj.step {F' : Nat → Prop} (d : Disj F G) (hg : Grow h F F') (hl : ∀ b, G b → b < h.size) : Disj F' G := fun b hb hG => by
  rcases hg b hb with hb | hb
  · exact d b hb hG
  · have := hl b hG; omega
theorem Disj.symm (d : Disj F G) : Disj G F := fun b h1 h2 => d b h2 h1
end

end Go.Proofs.YtjamcgoebnafkaaGreatDoor

namespace Go.Proofs.YtjamcgoebnafkaaGreatDoor
open Go Go.Mh
set_option linter.unusedVariables false

/-! ### A heap as a part of memory -/

theorem Rep.st {h h' : Heap} {r m bl : Nat} {l : List HE} {n : Int} (H : Rep h r m bl l n) (h1 : h'[r]? = h[r]?) (h2 : h'[m]? = h[m]?) (h3 : h'[bl]? = h[bl]?) : Rep h' r m bl l n := by
  obtain ⟨⟨sl, cap, rest, hr, hs⟩, ⟨es, c, hm, hi⟩, hn, hsm⟩ := H
  refine ⟨⟨sl, cap, rest, h1.trans hr, ?_⟩, ⟨es, c, h2.trans hm, hi⟩, hn, hsm⟩
  rcases hs with hs | ⟨a, b, c, d⟩
  · exact .inl hs
  · exact .inr ⟨a, h3.trans b, c, d⟩

def hpR (F : Nat → Prop) (r : Nat) (H : List HE) (n : Nat) : Res := ⟨F, fun h => ∃ l, (∃ m bl, Rep h r m bl l n ∧ HeapOrd l ∧ F r ∧ F m ∧ F bl) ∧ (∀ p ∈ l, 0 ≤ p.1 ∧ p.1 < n) ∧ l.Perm H, fun hs ⟨l, ⟨m, bl, R, ho, f1, f2, f3⟩, hr, hp⟩ =>
  ⟨l, ⟨m, bl, R.st (hs _ f1) (hs _ f2) (hs _ f3), ho, f1, f2, f3⟩, hr, hp⟩⟩

theorem PV.toR {h : Heap} {F : Nat → Prop} {r : Nat} {H : List HE} {n : Nat} (P : PV h F r H n) : (hpR F r H n).Q h := by
  obtain ⟨l, ⟨a, b, c⟩, d⟩ := P; exact ⟨l, a, c, d⟩

section
variable {h0 h : Heap} {L : List Res} {F : Nat → Prop} {r n : Nat} {H : List HE} {id key : Int} {K : Value → Heap → Prop}

theorem own_pv (o : Own h0 h L) (i : Nat) (hi : L[i]? = some (hpR F r H n)) : PV h F r H n := by
  obtain ⟨l, a, c, d⟩ := o.get i hi
  exact ⟨l, ⟨a, fun b hb => ((o.q hi).2 b hb).2, c⟩, d⟩

theorem min_iff {p : HE} : Min H p ↔ p ∈ H ∧ ∀ q ∈ H, ¬ hl q p = true := by
  unfold Min
  have : ∀ q : HE, hlt q p = hl q p := fun q => by
    have h1 := @hlt_iff q p
    have h2 := @hl_iff q p
    by_cases hx : hl q p = true
    · rw [hx]; exact h1.2 (h2.1 hx)
    · simp at hx; rw [hx]
      by_cases hy : hlt q p = true
      · rw [h2.2 (h1.1 hy)] at hx; cases hx
      · simpa using hy
  simp only [this]

theorem least_min {p : HE} (h : least H = some p) : Min H p := min_iff.2 (least_spec h)

theorem ho_new (o : Own h0 h L) (hK : ∀ F r h', Own h0 h' (hpR F r [] n :: L) → K (ptr r) h') : callS Tryz.prog F_heap_New [I n] h K := by
  refine pnew fun h' F r P hF x => hK F r h' (o.cons x ?_ fun b hb => ⟨hF b hb, P.low b hb⟩)
  rw [show max (n : Int) 0 = n by omega] at P
  exact P.toR

theorem own_hp {h' : Heap} {F' : Nat → Prop} {H' : List HE} (o : Own h0 h L) (i : Nat) (hi : L[i]? = some (hpR F r H n)) (P : PV h' F' r H' n) (g : Grow h F F') (u : Upd F h h') : Own h0 h' (L.set i (hpR F' r H' n)) :=
  o.set i hi u P.toR fun b hb => ⟨g b hb, P.low b hb⟩

theorem ho_push (o : Own h0 h L) (i : Nat) (hi : L[i]? = some (hpR F r H n)) (hsm : H.length + 1 < 2 ^ 40) {v : Nat} (hno : ∀ p ∈ H, p.1 ≠ v) (hv : v < n)
    (hK : ∀ F' h', Own h0 h' (L.set i (hpR F' r (((v : Int), key) :: H) n)) → K (I 0) h') : callS Tryz.prog F_heap_Heap_Push [ptr r, I v, I key] h K :=
  ppush0 (own_pv o i hi) hsm hno (by omega) (by omega) fun h' F' P g u => hK F' h' (own_hp o i hi P g u)

theorem ho_lower (o : Own h0 h L) (i : Nat) (hi : L[i]? = some (hpR F r H n)) {v : Nat} {was : Int} (hm : ((v : Int), was) ∈ H) (hk : ¬ was < key)
    (hK : ∀ F' h', Own h0 h' (L.set i (hpR F' r (((v : Int), key) :: H.erase ((v : Int), was)) n)) → K (I 0) h') : callS Tryz.prog F_heap_Heap_Lower [ptr r, I v, I key] h K :=
  plower0 (own_pv o i hi) hm rfl hk fun h' F' P g u => hK F' h' (own_hp o i hi P g u)

theorem ho_key (o : Own h0 h L) (i : Nat) (hi : L[i]? = some (hpR F r H n)) {v : Nat}
    (hK : K (.tuple #[I ((lookH H v).getD 0), .bool (lookH H v).isSome]) h) : callS Tryz.prog F_heap_Heap_Key [ptr r, I v] h K := by
  have P := own_pv o i hi
  refine pkey P (fun hno => ?_) fun p hp e => ?_
  · have : lookH H v = none := lookH_none.2 hno
    rw [this] at hK; exact hK
  · cases hl : lookH H v with
    | none => exact absurd e (lookH_none.1 hl p hp)
    | some k =>
      have hm := lookH_some hl
      have := id_uniq P.nodup hp hm e
      subst this
      rw [hl] at hK; exact hK

theorem ho_pop (o : Own h0 h L) (i : Nat) (hi : L[i]? = some (hpR F r H n)) (hz : least H = none → ∀ h', Own h0 h' L → K (.tuple #[I 0, I 0, .bool false]) h')
    (hK : ∀ p, least H = some p → ∀ F' h', Own h0 h' (L.set i (hpR F' r (H.erase p) n)) → K (.tuple #[I p.1, I p.2, .bool true]) h') : callS Tryz.prog F_heap_Heap_Pop [ptr r] h K := by
  cases hl : least H with
  | none =>
    have e := least_none.1 hl
    subst e
    exact ppop (own_pv o i hi) (fun _ => hz hl h o) fun p hm => by simp [Min] at hm
  | some p => exact ppop1 (own_pv o i hi) (least_min hl) fun h' F' P g u => hK p hl F' h' (own_hp o i hi P g u)

end
end Go.Proofs.YtjamcgoebnafkaaGreatDoor

namespace Go.Proofs.YtjamcgoebnafkaaGreatDoor
open Go Go.Mh
set_option linter.unusedVariables false

section
variable {h0 h : Heap} {L : List Res} {K : Value → Heap → Prop} {g : G} {r : Nat}

theorem from1_end : EndF (.func (.func F_flood_From_1) #[] #[]) A.t := by
  intro a h K hK
  refine callV_of (l := [.agg (encA a).toArray]) rfl (lk_flood_From_1 _ ?_)
  unfold sh_flood_From_1
  refine (Own.start h).box fun b h1 o1 => ?_
  simp only [pField_ptr]
  exact o1.load 0 rfl rfl (hK _ o1.ext)
theorem to1_end : EndF (.func (.func F_flood_To_1) #[] #[]) A.f := by
  intro a h K hK
  refine callV_of (l := [.agg (encA a).toArray]) rfl (lk_flood_To_1 _ ?_)
  unfold sh_flood_To_1
  refine (Own.start h).box fun b h1 o1 => ?_
  simp only [pField_ptr]
  exact o1.load 0 rfl rfl (hK _ o1.ext)

theorem farcs_iter {l4 n3 e5 : Nat} {vl endv : Value} {ids : List Nat} {head : A → Nat} {T1 T2 T3 : TypeId} (hids : ∀ i ∈ ids, i < g.arcs.length) (hmany : ids.length < 2 ^ 40) (hE : EndF endv head) :
    Iter Tryz.prog (.func (.func F_flood_arcs_1) #[] #[ptr l4, ptr n3, ptr e5])
      (fun h => h[l4]? = some (.cells #[vl] T1 (0, 0)) ∧ h[n3]? = some (.cells #[ptr r] T2 (0, 0)) ∧ h[e5]? = some (.cells #[endv] T3 (0, 0)) ∧ Vw encN 1 h vl ids ∧ NetR h r g) ids.length
      (fun i hi => [I ids[i], vA ⟨0, head (arcAt g.arcs ids[i]), (arcAt g.arcs ids[i]).w⟩]) := by
  rintro yv h0 h Rs K J E ⟨l, rfl⟩ o j0 hQ hY hK
  refine callF_of (l := [yieldV l, ptr l4, ptr n3, ptr e5]) rfl (lk_flood_arcs_1 _ _ _ _ ?_)
  unfold sh_flood_arcs_1
  obtain ⟨hb, _, _, hv, _⟩ := hQ _ _ _ j0 o
  have hc : hcell h ⟨l4, 0, none⟩ = some vl := hcell_of hb rfl
  simp only [pLoad_ptr, hc]
  refine hv.len ?_
  refine LoopH_count ids.length (fun i x h' => x.1 = I i ∧ ∃ Rs', J i Rs' ∧ Own h0 h' Rs') ⟨rfl, Rs, j0, o⟩ ?_
  rintro i ⟨x, ⟨⟩⟩ h Z hi ⟨hx, Rs', hj, o⟩ hZ
  dsimp only at hx hZ ⊢
  subst hx
  unfold sh_flood_arcs_1_L1
  simp only [pBin_lss, ifV_dec]
  refine ⟨fun hlt => ?_, fun hge => ?_⟩
  · have hlt : i < ids.length := by omega
    obtain ⟨_, hn, he, hv, hN⟩ := hQ _ _ _ hj o
    refine hv.at1 (e := fun x : Nat => I x) (fun _ => rfl) hlt ?_
    have hc : hcell h ⟨n3, 0, none⟩ = some (ptr r) := hcell_of hn rfl
    simp only [pLoad_ptr, hc]
    have hil := hids _ (List.getElem_mem hlt)
    refine arc_ok hN hil fun h1 x1 => ?_
    have ea : arcAt g.arcs ids[i] = g.arcs[ids[i]] := by simp [arcAt, hil]
    have o1 := o.more x1
    simp only [pExt0, pExt1]
    refine o1.box fun b h2 o2 => o2.st 0 rfl rfl rfl rfl rfl (encA_plain _) fun h3 o3 => ?_
    obtain ⟨_, _, he3, _, _⟩ := hQ _ _ _ hj o3.tail
    have hc : hcell h3 ⟨e5, 0, none⟩ = some endv := hcell_of he3 rfl
    simp only [pLoad_ptr, hc, pField_ptr]
    refine o3.ldN 0 rfl rfl rfl ?_
    have hl := fun {K} (hk : K (I (g.arcs[ids[i]]).w)) => o3.load (off := 2) (K := K) 0 rfl rfl hk
    simp only [pLoad_ptr] at hl
    refine hl (hE _ _ _ fun h4 x4 => ?_)
    have o4 := o3.more x4
    refine ⟨o4.load 0 rfl rfl rfl, sizesOk_of rfl, ?_⟩
    rw [← ea]
    refine hY i _ (i + 1) Rs' [] h4 _ ⟨⟨hlt, rfl⟩, rfl⟩ hj o4.tail.nilTail (fun Rs'' h'' hj' o' => ?_) fun Rs'' h'' he o' => ?_
    · rw [pUn_not, Bool.not_true, ifV_false, pBin_add, wI i (by omega)]
      exact hZ (I (i + 1 : Nat), ()) h'' hlt ⟨rfl, Rs'', hj', o'.toNil⟩
    · rw [pUn_not, Bool.not_false, ifV_true]
      exact hK _ _ (.inr he) o'.toNil
  · have : i = ids.length := by omega
    exact hK _ _ (.inl ⟨i, this, hj⟩) o

/-- Who is closed, as the program keeps it. -/
def clo (order : List Nat) : Int → Option Value := fun k => if order.any (fun v => (v : Int) == k) then some (I 1) else none
theorem clo_in {order : List Nat} {v : Nat} (h : v ∈ order) : clo order v = some (I 1) := by
  have : order.any (fun u => (u : Int) == (v : Int)) = true := List.any_eq_true.2 ⟨v, h, by simp⟩
  simp [clo, this]
theorem clo_out {order : List Nat} {v : Nat} (h : v ∉ order) : clo order v = none := by
  have : order.any (fun u => (u : Int) == (v : Int)) = false := by
    simp only [List.any_eq_false, beq_iff_eq]
    intro u hu e
    have : u = v := by omega
    exact h (this ▸ hu)
  simp [clo, this]
theorem clo_add {order : List Nat} {v : Nat} (x : Int) : clo (order ++ [v]) x = fset (clo order) v (I 1) x := by
  unfold fset
  by_cases h : x = v
  · subst h; rw [if_pos rfl, clo_in (by simp)]
  · rw [if_neg h]
    have : ((v : Int) == x) = false := by simpa using fun e => h e.symm
    simp [clo, this]

theorem set_set_same {α : Type} {l : List α} {i j : Nat} {a b : α} (hi : l[i]? = some a) (hj : l[j]? = some b) : (l.set i a).set j b = l := by
  have e1 : l.set i a = l := by
    apply List.ext_getElem?
    intro k
    by_cases e : i = k
    · subst e; rw [List.getElem?_set_self (List.getElem?_eq_some_iff.1 hi).1, hi]
    · rw [List.getElem?_set_ne e]
  rw [e1]
  apply List.ext_getElem?
  intro k
  by_cases e : j = k
  · subst e; rw [List.getElem?_set_self (List.getElem?_eq_some_iff.1 hj).1, hj]
  · rw [List.getElem?_set_ne e]

theorem reach_ok {rr hp n m : Nat} {F : Nat → Prop} {sd sa so : Value} {s : FS} {B : Int} {v a : Nat} {d : Int} (o : Own h0 h L) (i1 i2 i3 i4 : Nat)
    (h1 : L[i1]? = some (cellR rr [ptr hp, sd, sa, so, .map (some m)] T_flood_run)) (h2 : L[i2]? = some (hpR F hp s.hp n)) (h3 : L[i3]? = some (slR encI 1 T_int sa s.arc)) (h4 : L[i4]? = some (mapR m (clo s.order)))
    (n12 : i2 ≠ i1) (n23 : i2 ≠ i3) (n24 : i2 ≠ i4) (inv : FInv n B s) (hn : n ≤ 16777216) (hv : v < n)
    (hK : ∀ F' h', Own h0 h' ((L.set i2 (hpR F' hp (s.reach v a d).hp n)).set i3 (slR encI 1 T_int sa (s.reach v a d).arc)) → K (.tuple #[]) h') :
    callS Tryz.prog F_flood_run_reach [ptr rr, I v, I a, I d] h K := by
  refine callS_of (lk_flood_run_reach _ _ _ _ ?_)
  unfold sh_flood_run_reach
  simp only [pNil_ptr, pField_ptr]
  refine o.load i1 h1 rfl (ho_key o i2 h2 ?_)
  simp only [pExt0, pExt1]
  refine o.load i1 h1 rfl ?_
  refine o.look i4 h4 ?_
  simp only [Bool.false_eq_true, if_false]
  have hlen : s.hp.length ≤ n := by
    have : (s.hp.map (·.1.toNat)).length ≤ n := nodup_le (by
      have : s.hp.map (·.1.toNat) = (s.hp.map (·.1)).map Int.toNat := by simp
      rw [this, List.nodup_iff_pairwise_ne, List.pairwise_map]
      refine (List.nodup_iff_pairwise_ne.1 inv.ids).imp_of_mem fun {x y} hx hy hne e => hne ?_
      obtain ⟨p, hp, rfl⟩ := List.mem_map.1 hx
      obtain ⟨q, hq, rfl⟩ := List.mem_map.1 hy
      obtain ⟨u, e1, _⟩ := inv.ent p hp
      obtain ⟨w, e2, _⟩ := inv.ent q hq
      rw [e1, e2] at e ⊢
      have e' : u = w := by simpa using e
      rw [e']) (fun x hx => by
      obtain ⟨p, hp, rfl⟩ := List.mem_map.1 hx
      obtain ⟨u, e1, e2, _⟩ := inv.ent p hp
      rw [e1]; simpa using e2)
    simpa using this
  by_cases hc : v ∈ s.order
  · rw [clo_in hc]
    simp only [Option.getD_some]
    have : s.reach v a d = s := by simp [FS.reach, hc]
    rw [this, ] at hK
    have hk := fun h => hK F h
    rw [set_set_same h2 h3] at hk
    simpa using hk h o
  · rw [clo_out hc]
    simp only [Option.getD_none, pBin_gtr, ifV_dec]
    refine ⟨fun e => by omega, fun _ => ?_⟩
    cases hl : lookH s.hp v with
    | some was =>
      simp only [Option.isSome_some, ifV_true, Option.getD_some, pBin_leq, ifV_dec]
      refine ⟨fun hle => ?_, fun hgt => ?_⟩
      · have : s.reach v a d = s := by simp [FS.reach, hc, hl, hle]
        rw [this] at hK
        have hk := fun h => hK F h
        rw [set_set_same h2 h3] at hk
        exact hk h o
      · unfold sh_flood_run_reach_k1 sh_flood_run_reach_k2
        simp only [ifV_true, pNil_ptr, pField_ptr]
        refine o.load i1 h1 rfl (ho_lower o i2 h2 (lookH_some hl) (by omega) fun F' h5 o5 => ?_)
        refine o5.load i1 (by rw [List.getElem?_set_ne n12]; exact h1) rfl ?_
        refine o5.setI (z := a) i3 (by rw [List.getElem?_set_ne n23]; exact h3) (by rw [inv.al]; exact hv) fun h6 o6 => ?_
        have : s.reach v a d = { s with hp := ((v : Int), d) :: s.hp.erase ((v : Int), was), arc := s.arc.set v a } := by simp [FS.reach, hc, hl, hgt]
        rw [this] at hK
        exact hK F' h6 o6
    | none =>
      simp only [Option.isSome_none, ifV_false]
      unfold sh_flood_run_reach_k1 sh_flood_run_reach_k2
      simp only [ifV_false, pNil_ptr, pField_ptr]
      refine o.load i1 h1 rfl (ho_push o i2 h2 (by omega) (lookH_none.1 hl) hv fun F' h5 o5 => ?_)
      refine o5.load i1 (by rw [List.getElem?_set_ne n12]; exact h1) rfl ?_
      refine o5.setI (z := a) i3 (by rw [List.getElem?_set_ne n23]; exact h3) (by rw [inv.al]; exact hv) fun h6 o6 => ?_
      have : s.reach v a d = { s with hp := ((v : Int), d) :: s.hp, arc := s.arc.set v a } := by simp [FS.reach, hc, hl]
      rw [this] at hK
      exact hK F' h6 o6

end
end Go.Proofs.YtjamcgoebnafkaaGreatDoor

namespace Go.Proofs.YtjamcgoebnafkaaGreatDoor
open Go Go.Mh
set_option linter.unusedVariables false

/-- A tree in memory. -/
def TreeV (h : Heap) (v : Value) (t : Tr) : Prop := ∃ sd sa so, v = .agg #[sd, sa, so] ∧ Vw encI 1 h sd t.dist ∧ Vw encI 1 h sa t.arc ∧ Vw encN 1 h so t.order
theorem TreeV.more {h h' : Heap} {v : Value} {t : Tr} (H : TreeV h v t) (x : Ext h h') : TreeV h' v t := by
  obtain ⟨sd, sa, so, e, a, b, c⟩ := H
  exact ⟨sd, sa, so, e, a.more x, b.more x, c.more x⟩

theorem scan_take {l : List A} {head : A → Nat} {key : Int} {s : FS} {ids : List Nat} {i : Nat} (hi : i < ids.length) :
    s.scan l head key (ids.take (i + 1)) = (s.scan l head key (ids.take i)).reach (head (arcAt l ids[i])) ids[i] (key + (arcAt l ids[i]).w) := by
  unfold FS.scan
  rw [List.take_succ_eq_append_getElem hi, List.foldl_append]; rfl

section
variable {h0 h : Heap} {L : List Res} {K : Value → Heap → Prop} {g : G} {r : Nat} {outs : Nat → List Nat} {head : A → Nat} {nextv endv : Value}

/-- A closure that tells the arcs of a node. -/
def NextF (nextv : Value) (g : G) (r : Nat) (outs : Nat → List Nat) : Prop :=
  ∀ (h0 h : Heap) (L : List Res) (K : Value → Heap → Prop) (v : Nat), v < g.n → NetR h r g → Own h0 h L → (∀ v' h', Own h0 h' (slR encN 1 T_int v' (outs v) :: L) → K v' h') → callV Tryz.prog nextv [I v].toArray h K

theorem out_next (hR : g.Right) : NextF (.func (.func F_net_Net_Out) #[ptr r] #[]) g r g.out := by
  intro h0 h L K v hv H o hK
  refine callV_of (l := [ptr r, I v]) rfl ?_
  have := outI_ok (z := v) o hR H (K := K) (by rw [if_pos (by omega)]; exact hK)
  simpa [callS, callV] using this
theorem in_next (hR : g.Right) : NextF (.func (.func F_net_Net_In) #[ptr r] #[]) g r g.in := by
  intro h0 h L K v hv H o hK
  refine callV_of (l := [ptr r, I v]) rfl ?_
  have := inI_ok (z := v) o hR H (K := K) (by rw [if_pos (by omega)]; exact hK)
  simpa [callS, callV] using this

abbrev runL (r9 rr m hp t8 n : Nat) (sd sa : Value) (kb : Nat) (key : Int) (F : Nat → Prop) (H : List HE) (so : Value) (st : FS) (mm : List Nat) : List Res :=
  [cellR kb [I key] T_int64, cellR r9 [ptr rr] T_p_flood_run, cellR rr [ptr hp, sd, sa, so, .map (some m)] T_flood_run, hpR F hp H n, slR encI 1 T_int sa st.arc, mapR m (clo st.order), xR sd st.dist, slR encN 1 T_int so st.order,
    cellR t8 [sl0, sl0, sl0] T_flood_Tree, marksR mm]

/-- The rest of a flood, from a state on. -/
theorem flood_loop {r9 rr m hp t8 : Nat} {sd sa : Value} {fin : FS} {h' : Heap} {x : List Nat × Vals [10, 11, 12]} (hR : g.Right) (H : NetR h r g) (hN : NextF nextv g r outs) (hE : EndF endv head) (hev : endv.cells = #[endv]) (hhead : ∀ a ∈ g.arcs, head a < g.n)
    (hout : ∀ v, v < g.n → ∀ i ∈ outs v, i < g.arcs.length) (hol : ∀ v, (outs v).length ≤ g.arcs.length)
    (hK : ∀ so h', Own h h' [xR sd fin.dist, slR encI 1 T_int sa fin.arc, slR encN 1 T_int so fin.order] → K (.agg #[sd, sa, so]) h')
    (J : ∃ (st : FS) (kb : Nat) (key : Int) (so : Value) (F : Nat → Prop) (H : List HE), x.2.2.1 = ptr kb ∧ FS.run g.arcs outs head (g.n + 1 - st.order.length) st = fin ∧ FInv g.n (st.order.length * W) st ∧
      ((least st.hp = none ∧ x.2.2.2.1 = .bool false) ∨ ∃ p, least st.hp = some p ∧ x.2.1 = I p.1 ∧ key = p.2 ∧ x.2.2.2.1 = .bool true ∧ H = st.hp.erase p) ∧ Own h h' (runL r9 rr m hp t8 g.n sd sa kb key F H so st x.1)) :
    LoopH (σ := List Nat × Vals [10, 11, 12]) (fun x hh ZZ => sh_flood_flood_L2 Tryz.prog (ptr r9) nextv (ptr r) endv (ptr t8) K x.1 x.2.1 x.2.2.1 x.2.2.2.1 hh (fun mz a0 a1 a2 hz => ZZ (mz, (a0, (a1, (a2, ())))) hz)) x h' := by
  have hmost := hR.most
  have hmany := hR.many
  obtain ⟨st0, J⟩ := J
  refine LoopH_down (k0 := g.n + 1 - st0.order.length) (fun k x h' => ∃ (st : FS) (kb : Nat) (key : Int) (so : Value) (F : Nat → Prop) (H : List HE), k = g.n + 1 - st.order.length ∧ x.2.2.1 = ptr kb ∧ FS.run g.arcs outs head (g.n + 1 - st.order.length) st = fin ∧ FInv g.n (st.order.length * W) st ∧
      ((least st.hp = none ∧ x.2.2.2.1 = .bool false) ∨ ∃ p, least st.hp = some p ∧ x.2.1 = I p.1 ∧ key = p.2 ∧ x.2.2.2.1 = .bool true ∧ H = st.hp.erase p) ∧ Own h h' (runL r9 rr m hp t8 g.n sd sa kb key F H so st x.1))
    (by obtain ⟨kb, key, so, F, H, J⟩ := J; exact ⟨st0, kb, key, so, F, H, rfl, J⟩) ?_
  clear J st0 h' x
  rintro k ⟨mm, v, kv, is, ⟨⟩⟩ h' Z ⟨st, kb, key, so, F, Hp, hk, hkb, hrun, inv, hcase, o⟩ hZ
  dsimp only at hkb hcase o hZ ⊢
  subst hkb
  unfold sh_flood_flood_L2
  simp only [pNil_ptr, pField_ptr]
  rcases hcase with ⟨hl, rfl⟩ | ⟨p, hl, rfl, rfl, rfl, rfl⟩
  · rw [ifV_false]
    have hf : st = fin := by
      rw [← hrun]
      cases g.n + 1 - st.order.length with
      | zero => rfl
      | succ k => simp only [FS.run, hl]
    subst hf
    refine o.load 1 rfl rfl ?_
    simp only [pNil_ptr, pField_ptr]
    refine o.ldN 2 rfl rfl rfl ?_
    refine o.st 8 rfl rfl rfl rfl rfl ?_ fun h2 o2 => ?_
    · intro u hu
      simp at hu
      rcases hu with rfl | rfl | rfl
      · exact (o.vw 6 rfl).plain
      · exact (o.vw 4 rfl).plain
      · exact (o.vw 7 rfl).plain
    · refine o2.take 9 rfl fun h3 o3 => ?_
      exact o3.ldN 8 rfl rfl rfl (hK so h3 (o3.sel [6, 4, 7] (by decide)))
  · rw [ifV_true]
    have hm := (least_spec hl).1
    obtain ⟨u, hu, hun, hno, hk0, hkB⟩ := inv.ent p hm
    obtain ⟨pv, key⟩ := p
    dsimp only at hu hk0 hkB o ⊢
    subst hu
    have hroom := inv.room (by intro e; rw [e] at hm; cases hm)
    have hB : (st.order.length : Int) * W + W ≤ 16777216 * W := by
      have : (st.order.length : Int) + 1 ≤ 16777216 := by omega
      have := Int.mul_le_mul_of_nonneg_right this (show (0 : Int) ≤ W by decide)
      rw [Int.add_mul, Int.one_mul] at this
      exact this
    refine o.load 1 rfl rfl ?_
    simp only [pNil_ptr, pField_ptr]
    refine o.load 2 rfl rfl ?_
    refine o.look 5 rfl ?_
    rw [clo_out hno]
    simp only [Bool.false_eq_true, if_false, Option.getD_none, pBin_add]
    rw [show IntKind.i64.wrap (0 + 1) = 1 from rfl]
    refine o.mapPut (f' := clo (st.order ++ [u])) 5 rfl clo_add fun h1 o1 => ?_
    refine o1.load 1 rfl rfl ?_
    simp only [pNil_ptr, pField_ptr]
    refine o1.load 2 rfl rfl (o1.load 0 rfl rfl ?_)
    refine o1.setI 6 rfl (by rw [inv.dl]; exact hun) fun h2 o2 => ?_
    refine o2.load 1 rfl rfl (o2.load 1 rfl rfl ?_)
    simp only [pNil_ptr, pField_ptr]
    refine o2.load 2 rfl rfl ?_
    refine o2.app1 7 u rfl rfl (sizesOk_of rfl) encN_len encN_plain rfl (by decide) (by omega) fun so1 h3 o3 => ⟨o3.load 1 rfl rfl rfl, ?_⟩
    refine o3.st1 2 rfl rfl rfl (o3.vw 7 rfl).one (o3.vw 7 rfl).plain fun h4 o4 => ?_
    refine hN _ _ _ _ u hun (H.more o4.ext) o4 fun vl h5 o5 => ?_
    refine callS_of (lk_flood_arcs _ _ _ ?_)
    unfold sh_flood_arcs
    refine o5.box fun n3 h6 o6 => o6.box fun l4 h7 o7 => o7.box fun e5 h8 o8 => ?_
    have hvl := o5.vw 0 rfl
    obtain ⟨st1, hst1⟩ : ∃ st1, st1 = st.pop u key := ⟨_, rfl⟩
    have hW : (0 : Int) ≤ W := by decide
    have inv1 : FInv g.n (st.order.length * W + W) st1 := by subst hst1; exact (inv.popped hm).mono (by omega)
    have hord : st1.order.length = st.order.length + 1 := by subst hst1; simp [FS.pop]
    have hids := hout u hun
    have hscan : ∀ i, FInv g.n (st.order.length * W + W) (st1.scan g.arcs head key ((outs u).take i)) := fun i =>
      FInv.scan (fun a ha => ⟨hhead a ha, by have := (hR.ends a ha).2.2; show (a.w : Int) ≤ 2147483647; omega⟩) hk0 (by omega) (fun j hj => hids j (List.mem_of_mem_take hj)) inv1
    have L0 : Own h h8 (cellR e5 endv.cells.toList T_func_api_Arc_int :: cellR l4 vl.cells.toList T_sl_int :: cellR n3 [ptr r] T_p_net_Net :: slR encN 1 T_int vl (outs u) :: runL r9 rr m hp t8 g.n sd sa kb key F (st1.scan g.arcs head key ((outs u).take 0)).hp so1 (st1.scan g.arcs head key ((outs u).take 0)) mm) := by
      subst hst1; exact o8
    refine L0.range (farcs_iter (r := r) (T1 := T_sl_int) (T2 := T_p_net_Net) (T3 := T_func_api_Arc_int) (vl := vl) hids (by have := hol u; omega) hE) (fun i x i' ⟨⟨hi, e⟩, _⟩ => by rw [e]; rfl)
      (fun i Rs => ∃ F, Rs = cellR e5 endv.cells.toList T_func_api_Arc_int :: cellR l4 vl.cells.toList T_sl_int :: cellR n3 [ptr r] T_p_net_Net :: slR encN 1 T_int vl (outs u) :: runL r9 rr m hp t8 g.n sd sa kb key F (st1.scan g.arcs head key ((outs u).take i)).hp so1 (st1.scan g.arcs head key ((outs u).take i)) mm)
      (fun _ => False) (fun _ _ => False) ⟨F, rfl⟩ ?_ ?_ ?_ (fun _ _ h => h.elim) (fun _ _ _ h => h.elim)
    · rintro i Rs' h' ⟨F, rfl⟩ o'
      refine ⟨?_, o'.get 2 rfl, ?_, o'.vw 3 rfl, H.more o'.ext⟩
      · have := o'.get 1 rfl
        rw [show vl.cells.toList = [vl] by rw [hvl.one]] at this
        exact this
      · have := o'.get 0 rfl
        rw [show endv.cells.toList = [endv] by rw [hev]] at this
        exact this
    · rintro M i x i' Rs' Pr h9 R ⟨⟨hi, rfl⟩, rfl⟩ ⟨F, rfl⟩ o9 hN' _ _
      dsimp only [valsOf]
      unfold sh_flood_flood_B3
      refine o9.box fun a14 h10 o10 => o10.st 0 rfl rfl rfl rfl rfl (encA_plain _) fun h11 o11 => ?_
      refine o11.begin 1 rfl fun h12 o12 => ?_
      refine o12.load 8 rfl rfl ?_
      simp only [pField_ptr]
      refine o12.load 0 rfl rfl (o12.load 7 rfl rfl (o12.load 0 rfl rfl ?_))
      have hil := hids _ (List.getElem_mem hi)
      have ha : arcAt g.arcs (outs u)[i] ∈ g.arcs := by simp [arcAt, hil]
      have hw := (hR.ends _ ha).2.2
      have e1 : IntKind.i64.wrap (key + ((arcAt g.arcs (outs u)[i]).w : Int)) = key + (arcAt g.arcs (outs u)[i]).w := by
        have hW2 : (16777216 : Int) * W ≤ 2 ^ 62 := by decide
        exact w64 (by omega) (by have : (W : Int) = 2147483647 := rfl
                                 omega)
      rw [pBin_add, e1]
      refine reach_ok o12 9 10 11 12 rfl rfl rfl rfl (by decide) (by decide) (by decide) (hscan i) hmost (hhead _ ha) fun F' h13 o13 => ?_
      refine hN' _ _ ⟨F', rfl⟩ ?_
      have hsc := scan_take (l := g.arcs) (head := head) (key := key) (s := st1) hi
      have hro := @reach_order (st1.scan g.arcs head key ((outs u).take i)) (head (arcAt g.arcs (outs u)[i])) (outs u)[i] (key + (arcAt g.arcs (outs u)[i]).w)
      rw [← hsc] at hro
      have := o13.tail
      rw [← hsc] at this
      simp only [runL, hro.1, hro.2]
      exact this
    · rintro i h9 Rs' rfl ⟨F', rfl⟩ o9
      rw [List.take_length] at o9
      have hso := @scan_order g.arcs head key (outs u) st1
      refine o9.load 5 rfl rfl (o9.box fun kb2 h10 o10 => ?_)
      refine o10.st1 0 rfl rfl rfl rfl rfl fun h11 o11 => ?_
      refine o11.load 7 rfl rfl ?_
      simp only [pNil_ptr, pField_ptr]
      refine o11.load 8 rfl rfl ?_
      have inv2 : FInv g.n ((st1.scan g.arcs head key (outs u)).order.length * W) (st1.scan g.arcs head key (outs u)) := by
        have := hscan (outs u).length
        rw [List.take_length] at this
        refine this.mono ?_
        rw [hso.1, hord]
        have : ((st.order.length + 1 : Nat) : Int) * W = st.order.length * W + W := by
          rw [Int.natCast_add, Int.add_mul]; rfl
        omega
      have hrun2 : FS.run g.arcs outs head (g.n + 1 - (st1.scan g.arcs head key (outs u)).order.length) (st1.scan g.arcs head key (outs u)) = fin := by
        rw [← hrun, hso.1, hord]
        rw [show g.n + 1 - st.order.length = (g.n + 1 - (st.order.length + 1)) + 1 by omega]
        simp only [FS.run, hl, Int.toNat_natCast]
        rw [← hst1]
      have mark := fun {h'' : Heap} {A B : Res} {C : List Res} (o : Own h h'' (A :: B :: C)) => o
      refine ho_pop o11 9 rfl (fun hl2 h12 o12 => ?_) fun p hl2 F2 h12 o12 => ?_
      · simp only [pExt0, pExt1, pExt2]
        refine o12.st1 0 rfl rfl rfl rfl rfl fun h13 o13 => ?_
        have o14 := (o13.swap).addMark 14 rfl
        refine hZ (_ :: mm, (I 0, (ptr kb2, (.bool false, ())))) h13 _ (by rw [hso.1, hord]; omega) ⟨st1.scan g.arcs head key (outs u), kb2, 0, so1, F', (st1.scan g.arcs head key (outs u)).hp, rfl, rfl, hrun2, inv2, .inl ⟨hl2, rfl⟩, ?_⟩
        exact o14.sel [0, 6, 7, 8, 9, 10, 11, 12, 13, 14] (by decide)
      · simp only [pExt0, pExt1, pExt2]
        refine o12.st1 0 rfl rfl rfl rfl rfl fun h13 o13 => ?_
        have o14 := (o13.swap).addMark 14 rfl
        refine hZ (_ :: mm, (I p.1, (ptr kb2, (.bool true, ())))) h13 _ (by rw [hso.1, hord]; omega) ⟨st1.scan g.arcs head key (outs u), kb2, p.2, so1, F2, (st1.scan g.arcs head key (outs u)).hp.erase p, rfl, rfl, hrun2, inv2, .inr ⟨p, hl2, rfl, rfl, rfl, rfl⟩, ?_⟩
        exact o14.sel [0, 6, 7, 8, 9, 10, 11, 12, 13, 14] (by decide)

end
end Go.Proofs.YtjamcgoebnafkaaGreatDoor

namespace Go.Proofs.YtjamcgoebnafkaaGreatDoor
open Go Go.Mh
set_option linter.unusedVariables false

section
variable {h0 h : Heap} {L : List Res} {K : Value → Heap → Prop} {g : G} {r : Nat} {outs : Nat → List Nat} {head : A → Nat} {nextv endv : Value}

/-- A tree that was just made. -/
def TreeK (h : Heap) (t : Tr) (K : Value → Heap → Prop) : Prop :=
  ∀ sd sa so h', Own h h' [xR sd t.dist, slR encI 1 T_int sa t.arc, slR encN 1 T_int so t.order] → K (.agg #[sd, sa, so]) h'

theorem TreeK.of {t : Tr} (hK : ∀ v h', TreeV h' v t → Ext h h' → K v h') : TreeK h t K :=
  fun sd sa so h' o => hK _ h' ⟨sd, sa, so, rfl, o.vw 0 rfl, o.vw 1 rfl, o.vw 2 rfl⟩ o.ext

theorem flood_none {s : Int} {rv : Value} (hs : rv = .pointer none ∨ (rv = ptr r ∧ NetR h r g ∧ ¬ (0 ≤ s ∧ s < g.n))) (hK : TreeK h .none K) : callS Tryz.prog F_flood_flood [rv, I s, nextv, endv] h K := by
  refine callS_of (lk_flood_flood _ _ _ _ ?_)
  unfold sh_flood_flood sh_flood_flood_k1
  refine (Own.start h).box fun t8 h1 o1 => ?_
  have none : ∀ {h2 : Heap}, Own h h2 [cellR t8 [sl0, sl0, sl0] T_flood_Tree] → pBuild [(.slice none 0 0), (.slice none 0 0), (.slice none 0 0)] [] fun t27 => pStore 3 (ptr t8) t27 h2 fun u h_3 => pLoadN 3 h_3 (ptr t8) fun res => K res h_3 := fun o2 =>
    ⟨trivial, o2.st (cs' := [sl0, sl0, sl0]) 0 rfl (l := [sl0, sl0, sl0]) rfl rfl rfl rfl (by simp) fun h3 o3 => o3.ldN 0 rfl rfl rfl (hK sl0 sl0 sl0 h3 ((o3.nilS.nilS.nilS).sel [0, 1, 2] (by decide)))⟩
  rcases hs with rfl | ⟨rfl, H, hs⟩
  · simp only [pEq_ptr_nil, Option.isNone_none, ifV_true]
    exact none o1
  · simp only [pEq_ptr_nil, Option.isNone_some, ifV_false, pBin_lss, ifV_dec]
    refine ⟨fun _ => none o1, fun e => nodes_ok (H.more o1.ext) ?_⟩
    simp only [pBin_geq, ifV_dec]
    exact ⟨fun _ => none o1, fun e' => by omega⟩

theorem flood_ok {s : Nat} (hR : g.Right) (H : NetR h r g) (hs : s < g.n) (hN : NextF nextv g r outs) (hE : EndF endv head) (hev : endv.cells = #[endv]) (hhead : ∀ a ∈ g.arcs, head a < g.n)
    (hout : ∀ v, v < g.n → ∀ i ∈ outs v, i < g.arcs.length) (hol : ∀ v, (outs v).length ≤ g.arcs.length) (hK : TreeK h (floodP g.arcs g.n outs head s) K) : callS Tryz.prog F_flood_flood [ptr r, I s, nextv, endv] h K := by
  have hmost := hR.most
  refine callS_of (lk_flood_flood _ _ _ _ ?_)
  unfold sh_flood_flood
  refine (Own.start h).box fun t8 h1 o1 => ?_
  simp only [pEq_ptr_nil, Option.isNone_some, ifV_false, pBin_lss, ifV_dec]
  refine ⟨fun e => by omega, fun _ => nodes_ok (H.more o1.ext) ?_⟩
  simp only [pBin_geq, ifV_dec]
  refine ⟨fun e => by omega, fun _ => nodes_ok (H.more o1.ext) (ho_new o1 fun F hp h2 o2 => ?_)⟩
  refine o2.build (enc := encI) (n := 1) [far] rfl (sizesOk_of rfl) rfl fun wf h3 o3 => nodes_ok (H.more o3.ext) ?_
  refine repeat_int64 o3 (o3.vw 0 rfl) hmost fun sd h4 o4 => ?_
  refine o4.build (enc := encI) (n := 1) [-1] rfl (sizesOk_of rfl) rfl fun wm h5 o5 => nodes_ok (H.more o5.ext) ?_
  refine repeat_int o5 (o5.vw 0 rfl) hmost fun sa h6 o6 => ⟨sizesOk_of (by
    obtain ⟨b, c, e⟩ := (o6.vw 0 rfl).isSl
    obtain ⟨b', c', e'⟩ := (o6.vw 2 rfl).isSl
    subst e e'; rfl), ?_⟩
  have ead : sa.cells = #[sa] ∧ sd.cells = #[sd] := ⟨(o6.vw 0 rfl).one, (o6.vw 2 rfl).one⟩
  refine o6.mkMap fun m h7 o7 => ?_
  obtain ⟨ba, ca, ea⟩ := (o7.vw 1 rfl).isSl
  obtain ⟨bd, cd, ed⟩ := (o7.vw 3 rfl).isSl
  refine ⟨sizesOk_of (by subst ea ed; rfl), o7.box fun rr h8 o8 => o8.box fun r9 h9 o9 => o9.st1 0 rfl rfl rfl rfl rfl fun h10 o10 => ?_⟩
  have o11 : Own h h10 (cellR r9 [ptr rr] T_p_flood_run :: cellR rr [ptr hp, sd, sa, sl0, .map (some m)] T_flood_run :: mapR m (fun _ => none) :: slR encI 1 T_int sa (List.replicate g.n (-1)) :: slR encI 1 T_int wm [-1] :: xR sd (List.replicate g.n far) :: xR wf [far] :: hpR F hp [] g.n :: [cellR t8 [sl0, sl0, sl0] T_flood_Tree]) := by
    subst ea ed; exact o10
  clear o10 o9 o8 o7 o6
  refine o11.load 0 rfl rfl ?_
  simp only [pNil_ptr, pField_ptr]
  refine o11.load 1 rfl rfl (ho_push o11 7 rfl (by simp) (by simp) hs fun F1 h12 o12 => ?_)
  refine o12.load 0 rfl rfl ?_
  simp only [pNil_ptr, pField_ptr]
  refine o12.load 1 rfl rfl ?_
  refine ho_pop o12 7 rfl (fun e => by simp [least] at e) fun p hp' F2 h13 o13 => ?_
  have hp2 : p = ((s : Int), 0) := by simpa [least] using hp'.symm
  subst hp2
  simp only [pExt0, pExt1, pExt2]
  refine o13.box fun kb h14 o14 => o14.st1 0 rfl rfl rfl rfl rfl fun h15 o15 => ?_
  have o16 := (o15.noMarks).nilS (enc := encN) (n := 1) (T := T_int)
  refine flood_loop (fin := FS.run g.arcs outs head (g.n + 1) (FS.start g.n s)) (m := m) (sd := sd) (sa := sa) (rr := rr) (hp := hp) hR H hN hE hev hhead hout hol (fun so h' o' => hK sd sa so h' o') ?_
  refine ⟨FS.start g.n s, kb, 0, sl0, F2, _, rfl, rfl, (FInv.start hs).mono (by simp [FS.start]), .inr ⟨((s : Int), 0), hp', rfl, rfl, rfl, rfl⟩, ?_⟩
  have e : (fun _ => none : Int → Option Value) = clo (FS.start g.n s).order := by funext x; simp [clo, FS.start]
  have o17 := o16.sel [2, 3, 4, 10, 6, 5, 8, 0, 11, 1] (by decide)
  dsimp only [List.map, List.getD] at o17
  rw [e] at o17
  exact o17

end
end Go.Proofs.YtjamcgoebnafkaaGreatDoor

namespace Go.Proofs.YtjamcgoebnafkaaGreatDoor
open Go Go.Mh
set_option linter.unusedVariables false

section
variable {h0 h : Heap} {L : List Res} {K : Value → Heap → Prop} {g : G} {r : Nat} {s : Int}

theorem out_lt {g : G} {v i : Nat} (h : i ∈ g.out v) : i < g.arcs.length := by
  have := (outsP_mem.1 h).2.1; omega
theorem in_lt {g : G} {v i : Nat} (h : i ∈ g.in v) : i < g.arcs.length := by
  have := (outsP_mem.1 h).2.1; omega

theorem from_ok (hR : g.Right) (H : NetR h r g) (hK : TreeK h (g.fromI s) K) : callS Tryz.prog F_flood_From [ptr r, I s] h K := by
  refine callS_of (lk_flood_From _ _ ?_)
  unfold sh_flood_From
  refine (Own.start h).box fun t4 h1 o1 => ?_
  have fin : TreeK h1 (g.fromI s) fun t9 h_2 => pStore 3 (ptr t4) t9 h_2 fun u h_3 => pLoadN 3 h_3 (ptr t4) fun res => K res h_3 := by
    intro sd sa so h2 o2
    have o3 := o1.frame o2
    refine o3.st 3 rfl rfl rfl rfl rfl ?_ fun h3 o4 => o4.ldN 3 rfl rfl rfl (hK sd sa so h3 (o4.sel [0, 1, 2] (by decide)))
    intro u hu
    simp at hu
    rcases hu with rfl | rfl | rfl
    · exact (o3.vw 0 rfl).plain
    · exact (o3.vw 1 rfl).plain
    · exact (o3.vw 2 rfl).plain
  unfold G.fromI at fin
  split at fin <;> rename_i hs
  · obtain ⟨s, rfl⟩ := Int.eq_ofNat_of_zero_le hs.1
    exact flood_ok hR (H.more o1.ext) (by omega) (out_next hR) from1_end rfl (fun a ha => (hR.ends a ha).2.1) (fun v _ i => out_lt) (fun v => outsP_short) fin
  · exact flood_none (g := g) (.inr ⟨rfl, H.more o1.ext, hs⟩) fin

theorem to_ok (hR : g.Right) (H : NetR h r g) (hK : TreeK h (g.toI s) K) : callS Tryz.prog F_flood_To [ptr r, I s] h K := by
  refine callS_of (lk_flood_To _ _ ?_)
  unfold sh_flood_To
  refine (Own.start h).box fun t4 h1 o1 => ?_
  have fin : TreeK h1 (g.toI s) fun t9 h_2 => pStore 3 (ptr t4) t9 h_2 fun u h_3 => pLoadN 3 h_3 (ptr t4) fun res => K res h_3 := by
    intro sd sa so h2 o2
    have o3 := o1.frame o2
    refine o3.st 3 rfl rfl rfl rfl rfl ?_ fun h3 o4 => o4.ldN 3 rfl rfl rfl (hK sd sa so h3 (o4.sel [0, 1, 2] (by decide)))
    intro u hu
    simp at hu
    rcases hu with rfl | rfl | rfl
    · exact (o3.vw 0 rfl).plain
    · exact (o3.vw 1 rfl).plain
    · exact (o3.vw 2 rfl).plain
  unfold G.toI at fin
  split at fin <;> rename_i hs
  · obtain ⟨s, rfl⟩ := Int.eq_ofNat_of_zero_le hs.1
    exact flood_ok hR (H.more o1.ext) (by omega) (in_next hR) to1_end rfl (fun a ha => (hR.ends a ha).1) (fun v _ i => in_lt) (fun v => outsP_short) fin
  · exact flood_none (g := g) (.inr ⟨rfl, H.more o1.ext, hs⟩) fin

theorem from_nil (hK : TreeK h .none K) : callS Tryz.prog F_flood_From [.pointer none, I s] h K := by
  refine callS_of (lk_flood_From _ _ ?_)
  unfold sh_flood_From
  refine (Own.start h).box fun t4 h1 o1 => flood_none (g := ⟨0, [], [], []⟩) (r := 0) (.inl rfl) fun sd sa so h2 o2 => ?_
  have o3 := o1.frame o2
  refine o3.st 3 rfl rfl rfl rfl rfl ?_ fun h3 o4 => o4.ldN 3 rfl rfl rfl (hK sd sa so h3 (o4.sel [0, 1, 2] (by decide)))
  intro u hu
  simp at hu
  rcases hu with rfl | rfl | rfl
  · exact (o3.vw 0 rfl).plain
  · exact (o3.vw 1 rfl).plain
  · exact (o3.vw 2 rfl).plain
theorem to_nil (hK : TreeK h .none K) : callS Tryz.prog F_flood_To [.pointer none, I s] h K := by
  refine callS_of (lk_flood_To _ _ ?_)
  unfold sh_flood_To
  refine (Own.start h).box fun t4 h1 o1 => flood_none (g := ⟨0, [], [], []⟩) (r := 0) (.inl rfl) fun sd sa so h2 o2 => ?_
  have o3 := o1.frame o2
  refine o3.st 3 rfl rfl rfl rfl rfl ?_ fun h3 o4 => o4.ldN 3 rfl rfl rfl (hK sd sa so h3 (o4.sel [0, 1, 2] (by decide)))
  intro u hu
  simp at hu
  rcases hu with rfl | rfl | rfl
  · exact (o3.vw 0 rfl).plain
  · exact (o3.vw 1 rfl).plain
  · exact (o3.vw 2 rfl).plain

end
end Go.Proofs.YtjamcgoebnafkaaGreatDoor

namespace Go.Proofs.YtjamcgoebnafkaaGreatDoor
open Go Go.Mh
set_option linter.unusedVariables false

section
variable {h0 h : Heap} {L : List Res} {K : Value → Heap → Prop} {g : G} {r : Nat} {sd sa so : Value} {d ar : List Int} {hd tl : A → Nat}

theorem atG {l : List Int} {v : Nat} {c : Int} (hv : v < l.length) : l[v] = l.getD v c := by simp [List.getD_eq_getElem?_getD, hv]

theorem preached_ok {z : Int} (Hd : Vw encI 1 h sd d) (hK : ∀ h', Ext h h' → K (.bool (rchd d z)) h') : callS Tryz.prog F_path_reached [.agg #[sd, sa, so], I z] h K := by
  refine callS_of (lk_path_reached _ _ ?_)
  unfold sh_path_reached
  refine (Own.start h).box fun t2 h1 o1 => ?_
  have hK := hK h1 o1.ext
  unfold rchd at hK
  simp only [pBin_geq, ifV_dec, pField_ptr]
  refine ⟨fun h0 => ?_, fun h0 => ?_⟩
  · rw [decide_eq_true h0, Bool.true_and] at hK
    obtain ⟨v, rfl⟩ := Int.eq_ofNat_of_zero_le h0
    refine o1.load 0 rfl rfl ((Hd.more o1.ext).len ?_)
    simp only [pBin_lss, ifV_dec]
    refine ⟨fun h2 => ?_, fun h2 => ?_⟩
    · rw [decide_eq_true h2, Bool.true_and, Int.toNat_natCast] at hK
      have hv : v < d.length := by omega
      refine o1.load 0 rfl rfl ((Hd.more o1.ext).atI hv ?_)
      rw [atG (c := far) hv]
      simp only [pBin_geq, ifV_dec]
      refine ⟨fun h3 => ?_, fun h3 => ?_⟩
      · rw [decide_eq_true h3, Bool.true_and] at hK
        refine o1.load 0 rfl rfl ((Hd.more o1.ext).atI hv ?_)
        rw [atG (c := far) hv, pBin_lss]
        exact hK
      · rw [decide_eq_false h3, Bool.false_and] at hK; exact hK
    · rw [decide_eq_false h2, Bool.false_and] at hK; exact hK
  · rw [decide_eq_false h0, Bool.false_and] at hK; exact hK

/-- Which end of an arc is here, and which is next. -/
def EndsF (ev : Value) (hd tl : A → Nat) : Prop := ∀ (h : Heap) (K : Value → Heap → Prop) (a : A), (∀ h', Ext h h' → K (.tuple #[I (hd a), I (tl a)]) h') → callV Tryz.prog ev [vA a].toArray h K

theorem ahead1_end : EndsF (.func (.func F_path_Ahead_1) #[] #[]) A.t A.f := by
  intro h K a hK
  refine callV_of (l := [vA a]) rfl (lk_path_Ahead_1 _ ?_)
  unfold sh_path_Ahead_1
  refine (Own.start h).box fun b h1 o1 => ?_
  simp only [pField_ptr]
  exact o1.load 0 rfl rfl (o1.load 0 rfl rfl (hK h1 o1.ext))

theorem behind1_end : EndsF (.func (.func F_path_Behind_1) #[] #[]) A.f A.t := by
  intro h K a hK
  refine callV_of (l := [vA a]) rfl (lk_path_Behind_1 _ ?_)
  unfold sh_path_Behind_1
  refine (Own.start h).box fun b h1 o1 => ?_
  simp only [pField_ptr]
  exact o1.load 0 rfl rfl (o1.load 0 rfl rfl (hK h1 o1.ext))

def pfNext (l : List A) (ar : List Int) (hd tl : A → Nat) (p : Nat × Nat) (x : List Value) (p' : Nat × Nat) : Prop :=
  p.1 < ar.length ∧ 0 ≤ ar.getD p.1 (-1) ∧ x = [I (ar.getD p.1 (-1)), .bool ((wArc l (ar.getD p.1 (-1))).2 && decide (hd (wArc l (ar.getD p.1 (-1))).1 = p.1))] ∧ p' = (tl (wArc l (ar.getD p.1 (-1))).1, p.2 + 1)

theorem pfollow_iter {v6 t5 n4 e7 v0 N : Nat} {ev : Value} {T1 T2 T3 : TypeId} (hE : EndsF ev hd tl) (hal : ar.length < 2 ^ 62) :
    IterP Tryz.prog (.func (.func F_path_follow_1) #[] #[ptr v6, ptr t5, ptr n4, ptr e7]) (σ := Nat × Nat)
      (fun p h => p.2 < N ∧ h[t5]? = some (.cells #[sd, sa, so] T1 (0, 0)) ∧ h[n4]? = some (.cells #[ptr r] T2 (0, 0)) ∧ h[e7]? = some (.cells #[ev] T3 (0, 0)) ∧ NetR h r g ∧ Vw encI 1 h sa ar)
      [cellR v6 [I v0] T_int] (v0, 0) (pfNext g.arcs ar hd tl) (fun p => ¬ (p.1 < ar.length ∧ 0 ≤ ar.getD p.1 (-1))) := by
  rintro yv h0 h Rs K J E ⟨l, rfl⟩ o j0 hQ hY hK
  refine callF_of (l := [yieldV l, ptr v6, ptr t5, ptr n4, ptr e7]) rfl (lk_path_follow_1 _ _ _ _ _ ?_)
  unfold sh_path_follow_1
  refine LoopH_down (fun m x h' => ∃ v k Rs', m = N - k ∧ J (v, k) Rs' ∧ Own h0 h' (Rs' ++ [cellR v6 [I v] T_int])) (k0 := N) ⟨v0, 0, Rs, rfl, j0, o⟩ ?_
  rintro m ⟨⟩ h Z ⟨v, k, Rs', rfl, hj, o⟩ hZ
  unfold sh_path_follow_1_L1
  obtain ⟨hkN, ht, hn, he, hN, hv⟩ := hQ _ _ _ hj o.left
  dsimp only at hkN
  have ov : ∀ {K : Value → Prop}, K (I v) → pLoad h (ptr v6) K := fun hk => o.load Rs'.length (b := v6) (cs := [I v]) (T := T_int) (by rw [List.getElem?_append_right (by omega)]; simp) rfl hk
  have ct : hcell h ⟨t5, 0 + 1, none⟩ = some sa := hcell_of ht rfl
  simp only [pField_ptr]
  refine ov (pLoad_of rfl ct (hv.len ?_))
  simp only [pBin_lss, ifV_dec]
  refine ⟨fun hlt => ?_, fun hge => hK _ _ (.inl ⟨(v, k), fun e => hge (by have := e.1; omega), hj⟩) o.left⟩
  have hlt : v < ar.length := by omega
  refine pLoad_of rfl ct (ov (hv.atI hlt ?_))
  rw [atG (c := -1) hlt]
  simp only [pBin_geq, ifV_dec]
  refine ⟨fun hge0 => ?_, fun hge => hK _ _ (.inl ⟨(v, k), fun e => hge e.2, hj⟩) o.left⟩
  have nx : pfNext g.arcs ar hd tl (v, k) [I (ar.getD v (-1)), .bool ((wArc g.arcs (ar.getD v (-1))).2 && decide (hd (wArc g.arcs (ar.getD v (-1))).1 = v))] (tl (wArc g.arcs (ar.getD v (-1))).1, k + 1) := ⟨hlt, hge0, rfl, rfl⟩
  have ea : ar[v] = ar.getD v (-1) := atG hlt
  generalize ar.getD v (-1) = z at nx ea
  refine cutP_of (fun y h'' => ∃ b, y.1 = ptr b ∧ y.2.1 = .bool (wArc g.arcs z).2 ∧ Own h h'' [cellR b (encA (wArc g.arcs z).1) T_api_Arc]) (fun Jc hJ => ?_) ?_
  · refine pLoad_of rfl (hcell_of hn rfl) (pLoad_of rfl ct (ov (hv.atI hlt ?_)))
    rw [ea]
    refine ⟨?_, ?_⟩
    · refine arcW_ok hN fun h1 x1 => ?_
      simp only [pExt0, pExt1]
      exact ((Own.start h).more x1).box fun b h2 o2 => o2.st 0 rfl rfl rfl rfl rfl (encA_plain _) fun h3 o3 => hJ _ _ ⟨b, rfl, rfl, o3⟩
    · refine (Own.start h).box fun b h1 o1 => arcW_ok (hN.more o1.ext) fun h2 x2 => ?_
      simp only [pExt0, pExt1]
      exact (o1.more x2).st 0 rfl rfl rfl rfl rfl (encA_plain _) fun h3 o3 => hJ _ _ ⟨b, rfl, rfl, o3⟩
  · rintro ⟨y1, y2, ⟨⟩⟩ h2 ⟨b, e1, e2, oo⟩
    dsimp only at e1 e2 ⊢
    subst e1 e2
    generalize wArc g.arcs z = w at nx oo
    unfold sh_path_follow_1_C2
    refine pLoad_of rfl (hcell_more oo.ext (hcell_of he rfl)) (oo.ldN 0 rfl rfl rfl (hE _ _ _ fun h3 x3 => ?_))
    replace oo := oo.more x3
    replace o := o.frame oo
    simp only [pExt0, pExt1, pField_ptr]
    have ov : ∀ {K : Value → Prop}, K (I v) → pLoad h3 (ptr v6) K := fun hk => o.load (Rs'.length + 1) (b := v6) (cs := [I v]) (T := T_int) (by rw [List.singleton_append, List.getElem?_cons_succ, List.getElem?_append_right (by omega)]; simp) rfl hk
    have o4 : Own h0 h3 (Rs' ++ [cellR v6 [I v] T_int, cellR b (encA w.1) T_api_Arc]) := by
      have o' : Own h0 h3 (cellR b (encA w.1) T_api_Arc :: (Rs' ++ [cellR v6 [I v] T_int])) := o
      have := o'.rot
      rw [List.append_assoc] at this
      exact this
    refine cutP_of (fun y h'' => (∃ Rs'', y.1 = .bool false ∧ J (tl w.1, k + 1) Rs'' ∧ Own h0 h'' (Rs'' ++ [cellR v6 [I v] T_int, cellR b (encA w.1) T_api_Arc])) ∨ ∃ Rs'', y.1 = .bool true ∧ E Rs'' ∧ Own h0 h'' (Rs'' ++ [cellR v6 [I v] T_int, cellR b (encA w.1) T_api_Arc])) (fun Jd hJd => ?_) ?_
    · have hv3 := hv.more oo.ext
      refine pLoad_of rfl (hcell_more oo.ext ct) (ov (hv3.atI hlt ?_))
      rw [ea]
      have y : ∀ c : Bool, c = (w.2 && decide (hd w.1 = v)) → callV Tryz.prog (yieldV l) [I z, .bool c].toArray h3 fun t51 h_10 => pUn .not t51 fun t52 => Jd (t52, ()) h_10 := by
        intro c hc
        subst hc
        refine hY _ _ _ Rs' _ h3 _ nx hj o4 (fun Rs'' h'' hj' o' => ?_) fun Rs'' h'' he o' => ?_
        · rw [pUn_not, Bool.not_true]
          exact hJd _ _ (.inl ⟨Rs'', rfl, hj', o'⟩)
        · rw [pUn_not, Bool.not_false]
          exact hJd _ _ (.inr ⟨Rs'', rfl, he, o'⟩)
      cases hw : w.2 with
      | true =>
        rw [ifV_true]
        refine ov ?_
        rw [pBin_eql]
        refine y _ (by rw [hw, Bool.true_and]; exact Bool.eq_iff_iff.2 (by simp; omega))
      | false =>
        rw [ifV_false]
        exact y _ (by rw [hw, Bool.false_and])
    · rintro ⟨y, ⟨⟩⟩ h4 (⟨Rs'', hy, hj', o'⟩ | ⟨Rs'', hy, he', o'⟩)
      · dsimp only at hy ⊢
        subst hy
        unfold sh_path_follow_1_C3
        rw [ifV_false]
        refine o'.st1 Rs''.length (b := v6) (T := T_int) (cs := [I v]) (cs' := [I (tl w.1)]) (by rw [List.getElem?_append_right (by omega)]; simp) rfl rfl rfl rfl fun h5 o5 => ?_
        rw [List.set_append_right _ _ (by omega), Nat.sub_self] at o5
        have o6 : Own h0 h5 ((Rs'' ++ [cellR v6 [I (tl w.1)] T_int]) ++ [cellR b (encA w.1) T_api_Arc]) := by rw [List.append_assoc]; exact o5
        exact hZ () h5 (N - (k + 1)) (by omega) ⟨tl w.1, k + 1, Rs'', rfl, hj', o6.left⟩
      · dsimp only at hy ⊢
        subst hy
        unfold sh_path_follow_1_C3
        rw [ifV_true]
        exact hK _ _ (.inr he') o'.left

theorem sliceZ {acc : List Nat} {n k : Nat} {z : Int} (hk : k < n) (ha : acc.length = k) (h0 : 0 ≤ z) : (nI acc ++ List.replicate (n - k) 0).set k z = nI (acc ++ [z.toNat]) ++ List.replicate (n - (k + 1)) 0 := by
  have hl : (nI acc).length = k := by simp [nI, ha]
  rw [List.set_append_right _ _ (by omega), hl, Nat.sub_self, show n - k = (n - (k + 1)) + 1 by omega, List.replicate_succ, List.set_cons_zero]
  simp [nI, Int.toNat_of_nonneg h0]

/-- The arcs that are followed from a node. -/
theorem pall_ok {ev : Value} {z : Int} (hE : EndsF ev hd tl) (hev : ev.cells = #[ev]) (hR : g.Right) (H : NetR h r g) (Hd : Vw encI 1 h sd d) (Ha : Vw encI 1 h sa ar) (Ho : Mh.plainCell so = true) (hal : ar.length < 2 ^ 62)
    (hK1 : ∀ l w h', folI g.n g.arcs d ar hd tl z = some l → l.length < 16777216 → Own h h' [quR encI 1 T_int w (nI l)] → K (.tuple #[w, .bool true]) h')
    (hK2 : ∀ h', folI g.n g.arcs d ar hd tl z = none → Ext h h' → K (.tuple #[.slice none 0 0, .bool false]) h') : callS Tryz.prog F_path_all [ptr r, .agg #[sd, sa, so], I z, ev] h K := by
  refine callS_of (lk_path_all _ _ _ _ ?_)
  unfold sh_path_all
  have hmost := hR.most
  have hpos := hR.pos
  refine (Own.start h).box fun t5 h1 o1 => o1.box fun t8 h2 o2 => o2.box fun t9 h3 o3 => ?_
  refine o3.ldN (cs' := [sd, sa, so]) 2 rfl rfl rfl (preached_ok (Hd.more o3.ext) fun h4 x4 => ?_)
  have o4 := o3.more x4
  have hsa := Ha.plain
  have k1 : folI g.n g.arcs d ar hd tl z = none → ∀ {h4 : Heap}, Own h h4 [cellR t9 [.bool false] T_bool, cellR t8 [.slice none 0 0] T_sl_int, cellR t5 [sd, sa, so] T_flood_Tree] → sh_path_all_k1 Tryz.prog (ptr t8) (ptr t9) K h4 := fun hno h4 o4 => by
    unfold sh_path_all_k1
    refine o4.st1 1 (cs' := [.slice none 0 0]) rfl rfl rfl rfl rfl fun h5 o5 => o5.st1 0 (cs' := [.bool false]) rfl rfl rfl rfl rfl fun h6 o6 => ?_
    exact o6.load 1 rfl rfl (o6.load 0 rfl rfl (hK2 h6 hno o6.ext))
  rw [pUn_not]
  cases hrc : rchd d z with
  | false =>
    rw [Bool.not_false, ifV_true]
    exact k1 (by unfold folI; rw [if_neg (by rw [hrc]; simp)]) o4
  | true =>
  rw [Bool.not_true, ifV_false]
  refine nodes_ok (H.more o4.ext) ?_
  simp only [pBin_geq, ifV_dec]
  refine ⟨fun hge => k1 (by unfold folI; rw [if_neg (by omega)]) o4, fun hlt => nodes_ok (H.more o4.ext) ?_⟩
  have hz0 : 0 ≤ z := by
    unfold rchd at hrc
    rw [Bool.and_eq_true, decide_eq_true_eq] at hrc
    exact hrc.1
  obtain ⟨v, rfl⟩ := Int.eq_ofNat_of_zero_le hz0
  have hvn : v < g.n := by omega
  have hfol : folI g.n g.arcs d ar hd tl v = fol g.n g.arcs ar hd tl g.n v [] := by
    unfold folI; rw [if_pos ⟨hrc, by omega⟩, Int.toNat_natCast]
  refine o4.make (enc := encI) (n := 1) (a := 0) rfl (by omega) (by omega) fun w h5 o5 => ?_
  have hw := (o5.vw 0 rfl)
  refine o5.box fun room h6 o6 => o6.st1 0 (cs' := [w]) rfl rfl rfl hw.one hw.plain fun h7 o7 => o7.box fun many h8 o8 => o8.st1 0 (cs' := [I 0]) rfl rfl rfl rfl rfl fun h9 o9 => ?_
  refine o9.ldN (cs' := [sd, sa, so]) 5 rfl rfl rfl ?_
  refine callS_of (lk_path_follow _ _ _ _ ?_)
  unfold sh_path_follow
  refine o9.box fun n4 h10 o10 => o10.box fun t5' h11 o11 => o11.box fun v6 h12 o12 => o12.box fun e7 h13 o13 => ?_
  have o14 : Own h h13 ([cellR e7 [ev] T_func_api_Arc_int_int, cellR t5' [sd, sa, so] T_flood_Tree, cellR n4 [ptr r] T_p_net_Net, cellR many [I 0] T_int, cellR room [w] T_sl_int, slR encI 1 T_int w (nI [] ++ List.replicate (g.n - 0) 0), cellR t9 [.bool false] T_bool, cellR t8 [.slice none 0 0] T_sl_int] ++ [cellR v6 [I v] T_int]) := by
    rw [show ev.cells.toList = [ev] by rw [hev]] at o13
    exact o13.sel [0, 2, 3, 4, 5, 6, 7, 8, 1] (by decide)
  refine o14.rangeP (pfollow_iter (g := g) (r := r) (sd := sd) (sa := sa) (so := so) (ar := ar) (N := g.n) (T1 := T_flood_Tree) (T2 := T_p_net_Net) (T3 := T_func_api_Arc_int_int) hE hal) (by rintro p x p' ⟨_, _, rfl, _⟩; rfl)
    (fun p Rs => ∃ acc, acc.length = p.2 ∧ p.2 < g.n ∧ fol g.n g.arcs ar hd tl g.n v [] = fol g.n g.arcs ar hd tl (g.n - p.2) p.1 acc ∧
      Rs = [cellR e7 [ev] T_func_api_Arc_int_int, cellR t5' [sd, sa, so] T_flood_Tree, cellR n4 [ptr r] T_p_net_Net, cellR many [I p.2] T_int, cellR room [w] T_sl_int, slR encI 1 T_int w (nI acc ++ List.replicate (g.n - p.2) 0), cellR t9 [.bool false] T_bool, cellR t8 [.slice none 0 0] T_sl_int])
    (fun Rs => folI g.n g.arcs d ar hd tl v = none ∧ ∃ Rs', Rs = cellR t9 [.bool false] T_bool :: cellR t8 [.slice none 0 0] T_sl_int :: Rs')
    (fun _ _ => False) ⟨[], rfl, hpos, rfl, rfl⟩ ?_ ?_ ?_ ?_ (fun _ _ _ h => h.elim)
  · rintro ⟨u, k⟩ Rs' h' ⟨acc, _, hk, _, rfl⟩ o'
    exact ⟨hk, o'.get 1 rfl, o'.get 2 rfl, o'.get 0 rfl, H.more o'.ext, Ha.more o'.ext⟩
  · rintro M ⟨u, k⟩ x p' Rs' Pr h' R ⟨hu, h0, rfl, rfl⟩ ⟨acc, hacc, hk, hch, rfl⟩ o' hN hE' _
    dsimp only [valsOf] at hu h0 hacc hk hch ⊢
    rw [show g.n - k = (g.n - (k + 1)) + 1 by omega] at hch
    conv at hch => rhs; unfold fol
    rw [if_pos ⟨hu, h0⟩] at hch
    have hww : wArc g.arcs (ar.getD u (-1)) = if ar.getD u (-1) < g.arcs.length then (arcAt g.arcs (ar.getD u (-1)).toNat, true) else (⟨0, 0, 0⟩, false) := by
      unfold wArc
      by_cases h : ar.getD u (-1) < g.arcs.length
      · rw [if_pos h, if_pos ⟨h0, h⟩]
      · rw [if_neg h, if_neg fun e => h e.2]
    generalize ar.getD u (-1) = zz at h0 hch hN hww
    unfold sh_path_all_B2
    refine o'.begin 0 rfl fun h10 o10 => ?_
    have k3 : folI g.n g.arcs d ar hd tl v = none → sh_path_all_k3 Tryz.prog (ptr t8) (ptr t9) R h10 := fun hno => by
      unfold sh_path_all_k3
      refine o10.st1 9 (cs' := [.slice none 0 0]) rfl rfl rfl rfl rfl fun h11 o11 => o11.st1 8 (cs' := [.bool false]) rfl rfl rfl rfl rfl fun h12 o12 => ?_
      refine hE' (cellR t9 [.bool false] T_bool :: cellR t8 [.slice none 0 0] T_sl_int :: []) h12 ⟨hno, _, rfl⟩ ?_
      have o13 := o12.front 10 [0, 1, 8, 9] (by decide) (by decide)
      exact o13
    rw [pUn_not]
    by_cases hc : ((wArc g.arcs zz).2 && decide (hd (wArc g.arcs zz).1 = u)) = true
    · rw [hc, Bool.not_true, ifV_false]
      have hzl : zz < g.arcs.length := by
        by_cases h : zz < g.arcs.length
        · exact h
        · rw [hww, if_neg h] at hc; cases hc
      rw [if_pos hzl] at hww
      rw [hww, Bool.true_and, decide_eq_true_eq] at hc
      rw [hww] at hN
      dsimp only at hc hN
      refine o10.load 5 rfl rfl ?_
      rw [pBin_add, w64 (by omega) (by omega)]
      refine o10.load 6 rfl rfl ((o10.vw 7 rfl).len ?_)
      have hlen : (nI acc ++ List.replicate (g.n - k) (0 : Int)).length = g.n := by rw [List.length_append, nI_len, List.length_replicate]; omega
      rw [hlen]
      simp only [pBin_geq, ifV_dec]
      refine ⟨fun hge => k3 ?_, fun hlt2 => ?_⟩
      · rw [hfol, hch, if_neg (by omega)]
      · rw [if_pos ⟨hzl, hc, by omega⟩] at hch
        refine o10.load 6 rfl rfl (o10.load 5 rfl rfl ?_)
        refine o10.setI 7 rfl (by simp [nI]; omega) fun h11 o11 => ?_
        refine o11.load 5 rfl rfl ?_
        rw [pBin_add, w64 (by omega) (by omega)]
        refine o11.st1 5 (cs' := [I ((k + 1 : Nat) : Int)]) rfl rfl rfl rfl rfl fun h12 o12 => ?_
        refine hN _ h12 ⟨acc ++ [zz.toNat], by simp [hacc], by omega, hch, rfl⟩ ?_
        have es := sliceZ hk hacc h0
        simp only [List.set_cons_succ, List.set_cons_zero, List.cons_append, List.nil_append, es] at o12
        exact o12
    · have hc : ((wArc g.arcs zz).2 && decide (hd (wArc g.arcs zz).1 = u)) = false := by simpa using hc
      rw [hc, Bool.not_false, ifV_true]
      refine k3 ?_
      rw [hfol, hch, if_neg]
      rintro ⟨h1, h2, _⟩
      rw [hww, if_pos h1, Bool.true_and] at hc
      exact absurd h2 (by simpa using hc)
  · rintro ⟨u, k⟩ h' Rs' hst ⟨acc, hacc, hk, hch, rfl⟩ o'
    dsimp only at hst hacc hk hch
    rw [show g.n - k = (g.n - (k + 1)) + 1 by omega] at hch
    conv at hch => rhs; unfold fol
    rw [if_neg hst] at hch
    refine o'.load 5 rfl rfl (o'.load 4 rfl rfl (o'.load 4 rfl rfl ?_))
    refine o'.qcut encI_len 6 rfl (by simp [nI]; omega) fun v' o2 => ?_
    have hl : (nI acc).length = k := by simp [nI, hacc]
    rw [List.take_left' hl] at o2
    have hv' := o2.qvw 6 rfl
    refine o2.st1 8 (cs' := [v']) rfl rfl rfl hv'.one hv'.plain fun h3 o3 => o3.st1 7 (cs' := [.bool true]) rfl rfl rfl rfl rfl fun h4 o4 => ?_
    refine o4.take1 0 rfl fun h5 o5 => o5.load 8 rfl rfl (o5.load 7 rfl rfl (hK1 acc v' h5 (by rw [hfol, hch]) (by omega) (o5.sel [6] (by decide))))
  · rintro h' Rs' ⟨hno, Rs'', rfl⟩ o'
    refine o'.take1 0 rfl fun h5 o5 => o5.load 2 rfl rfl (o5.load 1 rfl rfl (hK2 h5 hno o5.ext))

end
end Go.Proofs.YtjamcgoebnafkaaGreatDoor

namespace Go.Proofs.YtjamcgoebnafkaaGreatDoor
open Go Go.Mh
set_option linter.unusedVariables false

section
variable {h0 h : Heap} {L : List Res} {K : Value → Heap → Prop} {g : G} {r : Nat} {sd sa so sd' sa' so' : Value} {d ar d' ar' : List Int}

theorem pahead_ok {z : Int} (hR : g.Right) (H : NetR h r g) (Hd : Vw encI 1 h sd d) (Ha : Vw encI 1 h sa ar) (Ho : Mh.plainCell so = true) (hal : ar.length < 2 ^ 62)
    (hK1 : ∀ l w h', folI g.n g.arcs d ar A.t A.f z = some l → l.length < 16777216 → Own h h' [quR encI 1 T_int w (nI l.reverse)] → K (.tuple #[w, .bool true]) h')
    (hK2 : ∀ h', folI g.n g.arcs d ar A.t A.f z = none → Ext h h' → K (.tuple #[.slice none 0 0, .bool false]) h') : callS Tryz.prog F_path_Ahead [ptr r, .agg #[sd, sa, so], I z] h K := by
  refine callS_of (lk_path_Ahead _ _ _ ?_)
  unfold sh_path_Ahead
  refine (Own.start h).box fun t4 h1 o1 => o1.ldN (cs' := [sd, sa, so]) 0 rfl rfl rfl ?_
  refine pall_ok ahead1_end rfl hR (H.more o1.ext) (Hd.more o1.ext) (Ha.more o1.ext) Ho hal (fun l w h2 hl hlen o2 => ?_) fun h2 hno x2 => ?_
  · simp only [pExt0, pExt1]
    replace o2 := o1.frame o2
    refine reverseQ_ok o2 0 rfl (by rw [nI_len]; omega) fun h3 o3 => ?_
    have e : List.set ([quR encI 1 T_int w (nI l)] ++ [cellR t4 (Value.cells (.agg #[sd, sa, so])).toList T_flood_Tree]) 0 (quR encI 1 T_int w (nI l).reverse) = [quR encI 1 T_int w (nI l.reverse), cellR t4 (Value.cells (.agg #[sd, sa, so])).toList T_flood_Tree] := by rw [nI_rev]; rfl
    rw [e] at o3
    exact hK1 l w h3 hl hlen (o3.sel [0] (by decide))
  · simp only [pExt0, pExt1]
    have o3 := ((o1.more x2).nilS (enc := encI) (n := 1) (T := T_int)).que 0 rfl
    refine reverseQ_ok o3 0 rfl (by simp) fun h3 o4 => hK2 h3 hno o4.ext

theorem pbehind_ok {z : Int} (hR : g.Right) (H : NetR h r g) (Hd : Vw encI 1 h sd d) (Ha : Vw encI 1 h sa ar) (Ho : Mh.plainCell so = true) (hal : ar.length < 2 ^ 62)
    (hK1 : ∀ l w h', folI g.n g.arcs d ar A.f A.t z = some l → l.length < 16777216 → Own h h' [quR encI 1 T_int w (nI l)] → K (.tuple #[w, .bool true]) h')
    (hK2 : ∀ h', folI g.n g.arcs d ar A.f A.t z = none → Ext h h' → K (.tuple #[.slice none 0 0, .bool false]) h') : callS Tryz.prog F_path_Behind [ptr r, .agg #[sd, sa, so], I z] h K := by
  refine callS_of (lk_path_Behind _ _ _ ?_)
  unfold sh_path_Behind
  refine (Own.start h).box fun t4 h1 o1 => o1.ldN (cs' := [sd, sa, so]) 0 rfl rfl rfl ?_
  refine pall_ok behind1_end rfl hR (H.more o1.ext) (Hd.more o1.ext) (Ha.more o1.ext) Ho hal (fun l w h2 hl hlen o2 => ?_) fun h2 hno x2 => ?_
  · simp only [pExt0, pExt1]
    exact hK1 l w h2 hl hlen ((o1.frame o2).sel [0] (by decide))
  · simp only [pExt0, pExt1]
    exact hK2 h2 hno (o1.more x2).ext

theorem rchd_lt {v : Nat} (h : rchd d v = true) : v < d.length ∧ 0 ≤ d.getD v far ∧ d.getD v far < far := by
  unfold rchd at h
  simp only [Bool.and_eq_true, decide_eq_true_eq, Int.toNat_natCast] at h
  exact ⟨by omega, h.2.2.1, h.2.2.2⟩

theorem pmeet_ok (Hd : Vw encI 1 h sd d) (Hd' : Vw encI 1 h sd' d') (hl : d.length < 2 ^ 62) (hK : ∀ h', Ext h h' → K (.tuple #[I (meet d d').1, I (meet d d').2, .bool (decide (0 ≤ (meet d d').1))]) h') :
    callS Tryz.prog F_path_Meet [.agg #[sd, sa, so], .agg #[sd', sa', so']] h K := by
  refine callS_of (lk_path_Meet _ _ ?_)
  unfold sh_path_Meet
  refine (Own.start h).box fun a2 h1 o1 => o1.box fun b3 h2 o2 => ?_
  simp only [pField_ptr]
  refine o2.load 1 rfl rfl ((Hd.more o2.ext).len (o2.load 0 rfl rfl ((Hd'.more o2.ext).len ?_)))
  rw [pMin_int]
  have hm : (if (d'.length : Int) < d.length then (d'.length : Int) else d.length) = ((min d.length d'.length : Nat) : Int) := by split <;> omega
  rw [hm]
  refine LoopH_count (min d.length d'.length) (fun i x h' => x.1 = I (meetGo d d' i).1 ∧ x.2.1 = I (meetGo d d' i).2 ∧ x.2.2.1 = I i ∧ ∃ h9, Own h h' [cellR b3 [sd', sa', so'] T_flood_Tree, cellR a2 [sd, sa, so] T_flood_Tree] ∧ h9 = h') ⟨rfl, rfl, rfl, _, o2, rfl⟩ ?_
  clear o2 o1
  rintro i ⟨x, y, z, ⟨⟩⟩ h' Z hi ⟨hx, hy, hz, _, o, _⟩ hZ
  dsimp only at hx hy hz hZ ⊢
  subst hx hy hz
  unfold sh_path_Meet_L1
  simp only [pBin_lss (b := ((min d.length d'.length : Nat) : Int)), ifV_dec]
  refine ⟨fun hlt => ?_, fun hge => ?_⟩
  · have hlt : i < min d.length d'.length := by omega
    have step : meetGo d d' (i + 1) = if rchd d i = true ∧ rchd d' i = true ∧ ((meetGo d d' i).1 < 0 ∨ d.getD i far + d'.getD i far < (meetGo d d' i).2) then ((i : Int), d.getD i far + d'.getD i far) else meetGo d d' i := rfl
    generalize meetGo d d' i = m at step
    have k2 : ∀ h'' a b, Ext h' h'' → meetGo d d' (i + 1) = (a, b) → sh_path_Meet_k2 Tryz.prog (I i) (fun a0 a1 a2 hz => Z (a0, (a1, (a2, ()))) hz) (I a) (I b) h'' := by
      intro h'' a b x e
      unfold sh_path_Meet_k2
      rw [pBin_add, wI i (by omega)]
      exact hZ (_, _, I (i + 1 : Nat), ()) h'' hlt ⟨by rw [e], by rw [e], rfl, _, o.more x, rfl⟩
    refine o.ldN (cs' := [sd, sa, so]) 1 rfl rfl rfl (preached_ok (Hd.more o.ext) fun h3 x3 => ?_)
    rw [pUn_not]
    cases hr1 : rchd d i with
    | false => rw [Bool.not_false, ifV_true]; exact k2 h3 _ _ x3 (by rw [step, if_neg (by rw [hr1]; simp)])
    | true =>
      rw [Bool.not_true, ifV_false]
      have o3 := o.more x3
      refine o3.ldN (cs' := [sd', sa', so']) 0 rfl rfl rfl (preached_ok (Hd'.more o3.ext) fun h4 x4 => ?_)
      have x34 := x3.trans x4 fun _ hf _ => hf
      rw [pUn_not]
      cases hr2 : rchd d' i with
      | false => rw [Bool.not_false, ifV_true]; exact k2 h4 _ _ x34 (by rw [step, if_neg (by rw [hr2]; simp)])
      | true =>
        rw [Bool.not_true, ifV_false]
        have o4 := o3.more x4
        obtain ⟨a1, a2', a3⟩ := rchd_lt hr1
        obtain ⟨b1, b2, b3'⟩ := rchd_lt hr2
        have hf : far = 72057594037927936 := rfl
        refine o4.load 1 rfl rfl ((Hd.more o4.ext).atI a1 (o4.load 0 rfl rfl ((Hd'.more o4.ext).atI b1 ?_)))
        rw [atG (c := far) a1, atG (c := far) b1, pBin_add, w64 (by omega) (by omega)]
        have k3 : (m.1 < 0 ∨ d.getD i far + d'.getD i far < m.2) → sh_path_Meet_k3 Tryz.prog (I i) (fun a0 a1 a2 hz => Z (a0, (a1, (a2, ()))) hz) (I (d.getD i far + d'.getD i far)) h4 := fun hc => by
          unfold sh_path_Meet_k3
          exact k2 h4 _ _ x34 (by rw [step, if_pos ⟨hr1, hr2, hc⟩])
        simp only [pBin_lss, ifV_dec]
        refine ⟨fun h => k3 (.inl h), fun h => ⟨fun h5 => k3 (.inr h5), fun h5 => k2 h4 _ _ x34 (by rw [step, if_neg (by rintro ⟨_, _, h6 | h6⟩; exact h h6; exact h5 h6)])⟩⟩
  · have : i = min d.length d'.length := by omega
    subst this
    rw [pBin_geq]
    exact hK h' o.ext

/-- Room for some. -/
theorem grow_ok {n : Nat} (o : Own h0 h L) (hn : n < 2 ^ 40) (hK : ∀ w h', Own h0 h' (slR encI 1 T_int w [] :: L) → K w h') : callS Tryz.prog F_slices_Grow_sl_int_int [.slice none 0 0, I n] h K := by
  refine callS_of (lk_slices_Grow_sl_int_int _ _ ?_)
  unfold sh_slices_Grow_sl_int_int
  rw [pBin_lss, decide_eq_false (by omega), ifV_false]
  dsimp only [pCap, pLen]
  rw [pBin_sub, show IntKind.i64.wrap (((0 : Nat) : Int) - ((0 : Nat) : Int)) = 0 from rfl, pBin_sub, w64 (by omega) (by omega), Int.sub_zero]
  simp only [pBin_gtr, ifV_dec]
  unfold sh_slices_Grow_sl_int_int_k1
  refine ⟨fun hpos => ?_, fun _ => hK _ h (o.nilS)⟩
  show pSlice 1 (.slice none 0 0) none (some (I 0)) none _
  refine ⟨by simp, by simp, by simp, by simp, by simp, ?_⟩
  show pAppendZ T_int 1 8 [I 0] (.slice none 0 0) (I n) h _
  have hnc : Builtin.nextslicecap (0 + n) 0 = n := by unfold Builtin.nextslicecap; rw [if_pos (by omega)]; omega
  refine ⟨by omega, by omega, by omega, ?_⟩
  simp only [Int.toNat_natCast]
  rw [if_neg (by omega)]
  simp only [cellsOfSl]
  refine ⟨by rw [hnc]; omega, by omega, fun c h1 h2 => ?_⟩
  show pSlice 1 _ none (some (I 0)) none _
  refine ⟨by simp, by simp, by simp, by simp, by simp, ?_⟩
  have hz : ([] : List Value) ++ zerosL [I 0] n ++ zerosL [I 0] (c - (0 + n)) = row encI [] ++ zerosL [I 0] c := by
    simp only [zerosL, row, List.flatMap_nil, List.nil_append, List.flatten_replicate_singleton, List.replicate_append_replicate]
    congr 1; omega
  rw [hz]
  have o1 := o.fresh (enc := encI) (n := 1) (T := T_int) (xs := []) (c := c) (rest := zerosL [I 0] c) (by simp [zerosL]) (by simp)
  have hb : slBase 1 0 c (some ⟨h.size, 0, none⟩) = some ⟨h.size, 0, none⟩ := by simp [slBase]
  refine hK _ _ ?_
  simp only [Int.toNat_natCast, Int.toNat_zero, Nat.sub_zero]
  rw [hb]
  exact o1

def sm2 (xs ys : List Int) : Nat → Int
  | 0 => 0
  | 1 => xs.length
  | _ => xs.length + ys.length

theorem cat2_ok {vs va vb : Value} {xs ys : List Int} (Hv : Vw encV 1 h vs [va, vb]) (Ha : Vw encI 1 h va xs) (Hb : Vw encI 1 h vb ys) (hx : xs.length < 2 ^ 30) (hy : ys.length < 2 ^ 30)
    (hK : ∀ w h', Own h h' [slR encI 1 T_int w (xs ++ ys)] → K w h') : callS Tryz.prog F_slices_Concat_sl_int_int [vs] h K := by
  refine callS_of (lk_slices_Concat_sl_int_int _ ?_)
  unfold sh_slices_Concat_sl_int_int
  refine Hv.len ?_
  refine LoopH_count 2 (fun i x h' => h' = h ∧ x.2.1 = I i ∧ x.1 = I (sm2 xs ys i)) ⟨rfl, rfl, rfl⟩ ?_
  rintro i ⟨x, y, ⟨⟩⟩ hh Z hi ⟨hh', hy', hx'⟩ hZ
  subst hh'
  dsimp only at hx' hy' hZ ⊢
  subst hx' hy'
  unfold sh_slices_Concat_sl_int_int_L1
  rw [pBin_lss]
  match i, hi with
  | 0, _ =>
    rw [show decide (((0 : Nat) : Int) < ([va, vb].length : Nat)) = true from rfl, ifV_true]
    refine Hv.at1 (e := fun x => x) (fun _ => rfl) (i := 0) (by simp) (Ha.len ?_)
    rw [show sm2 xs ys 0 = 0 from rfl, pBin_add, w64 (by omega) (by omega), pBin_lss, decide_eq_false (by omega), ifV_false, pBin_add]
    show Z (I (0 + xs.length), I 1, ()) _
    exact hZ (_, I 1, ()) _ (by decide) ⟨rfl, rfl, congrArg (fun z : Int => I z) (Int.zero_add _)⟩
  | 1, _ =>
    rw [show decide (((1 : Nat) : Int) < ([va, vb].length : Nat)) = true from rfl, ifV_true]
    refine Hv.at1 (e := fun x => x) (fun _ => rfl) (i := 1) (by simp) (Hb.len ?_)
    rw [show sm2 xs ys 1 = xs.length from rfl, pBin_add, w64 (by omega) (by omega), pBin_lss, decide_eq_false (by omega), ifV_false, pBin_add]
    show Z (I (xs.length + ys.length), I 2, ()) _
    exact hZ (_, I 2, ()) _ (by decide) ⟨rfl, rfl, rfl⟩
  | 2, _ =>
    rw [show decide (((2 : Nat) : Int) < ([va, vb].length : Nat)) = false from rfl, ifV_false]
    rw [show sm2 xs ys 2 = ((xs.length + ys.length : Nat) : Int) from (Int.natCast_add _ _).symm]
    refine grow_ok (Own.start _) (by omega) fun w h1 o1 => ?_
    refine (Hv.more o1.ext).len ?_
    refine LoopH_count 2 (fun i x h' => x.2.1 = I i ∧ ∃ l, l = (if i = 0 then [] else if i = 1 then xs else xs ++ ys) ∧ Own h' h' [] ∧ Own hh h' [slR encI 1 T_int x.1 l]) ⟨rfl, _, rfl, Own.start _, o1⟩ ?_
    clear o1
    rintro i ⟨x, y, ⟨⟩⟩ h2 Z2 hi ⟨hy', l, hl, _, o⟩ hZ2
    dsimp only at hy' hZ2 o ⊢
    subst hy'
    unfold sh_slices_Concat_sl_int_int_L2
    rw [pBin_lss]
    match i, hi with
    | 0, _ =>
      rw [show decide (((0 : Nat) : Int) < ([va, vb].length : Nat)) = true from rfl, ifV_true]
      refine (Hv.more o.ext).at1 (e := fun x => x) (fun _ => rfl) (i := 0) (by simp) ?_
      subst hl
      refine o.app 0 rfl encI_len encI_plain rfl (Ha.more o.ext) (by decide) (by simp; omega) fun v' h3 o3 => ?_
      rw [pBin_add, show IntKind.i64.wrap (((0 : Nat) : Int) + 1) = 1 from rfl]
      exact hZ2 (v', I 1, ()) h3 (by decide) ⟨rfl, _, rfl, Own.start _, by simpa using o3⟩
    | 1, _ =>
      rw [show decide (((1 : Nat) : Int) < ([va, vb].length : Nat)) = true from rfl, ifV_true]
      refine (Hv.more o.ext).at1 (e := fun x => x) (fun _ => rfl) (i := 1) (by simp) ?_
      subst hl
      refine o.app 0 rfl encI_len encI_plain rfl (Hb.more o.ext) (by decide) (by simp; omega) fun v' h3 o3 => ?_
      rw [pBin_add, show IntKind.i64.wrap (((1 : Nat) : Int) + 1) = 2 from rfl]
      exact hZ2 (v', I 2, ()) h3 (by decide) ⟨rfl, _, rfl, Own.start _, by simpa using o3⟩
    | 2, _ =>
      rw [show decide (((2 : Nat) : Int) < ([va, vb].length : Nat)) = false from rfl, ifV_false]
      subst hl
      exact hK x h2 o

/-- The arcs to a node, and from it. -/
theorem pjoined_ok {z : Int} (hR : g.Right) (H : NetR h r g) (Hd : Vw encI 1 h sd d) (Ha : Vw encI 1 h sa ar) (Ho : Mh.plainCell so = true) (hal : ar.length < 2 ^ 62) (Hd' : Vw encI 1 h sd' d') (Ha' : Vw encI 1 h sa' ar') (Ho' : Mh.plainCell so' = true) (hal' : ar'.length < 2 ^ 62)
    (hK1 : ∀ l l' w h', folI g.n g.arcs d ar A.t A.f z = some l → folI g.n g.arcs d' ar' A.f A.t z = some l' → l.length < 16777216 → l'.length < 16777216 → Own h h' [slR encI 1 T_int w (nI (l.reverse ++ l'))] → K (.tuple #[w, .bool true]) h')
    (hK2 : ∀ h', (folI g.n g.arcs d ar A.t A.f z = none ∨ folI g.n g.arcs d' ar' A.f A.t z = none) → Ext h h' → K (.tuple #[.slice none 0 0, .bool false]) h') : callS Tryz.prog F_path_Joined [ptr r, .agg #[sd, sa, so], .agg #[sd', sa', so'], I z] h K := by
  refine callS_of (lk_path_Joined _ _ _ _ ?_)
  unfold sh_path_Joined
  refine (Own.start h).box fun a5 h1 o1 => o1.box fun b6 h2 o2 => o2.ldN (cs' := [sd, sa, so]) 1 rfl rfl rfl ?_
  have beh : ∀ {K' : Value → Heap → Prop} {h3 : Heap}, Own h h3 [cellR b6 (Value.cells (.agg #[sd', sa', so'])).toList T_flood_Tree, cellR a5 (Value.cells (.agg #[sd, sa, so])).toList T_flood_Tree] →
      (∀ l' w h4, folI g.n g.arcs d' ar' A.f A.t z = some l' → l'.length < 16777216 → Own h3 h4 [quR encI 1 T_int w (nI l')] → K' (.tuple #[w, .bool true]) h4) →
      (∀ h4, folI g.n g.arcs d' ar' A.f A.t z = none → Ext h3 h4 → K' (.tuple #[.slice none 0 0, .bool false]) h4) → pLoadN 3 h3 (ptr b6) fun t23 => callS Tryz.prog F_path_Behind [ptr r, t23, I z] h3 K' := fun o3 k1 k2 =>
    o3.ldN (cs' := [sd', sa', so']) 0 rfl rfl rfl (pbehind_ok hR (H.more o3.ext) (Hd'.more o3.ext) (Ha'.more o3.ext) Ho' hal' k1 k2)
  refine pahead_ok hR (H.more o2.ext) (Hd.more o2.ext) (Ha.more o2.ext) Ho hal (fun l w h3 hl hlen o3 => ?_) fun h3 hno x3 => ?_
  · simp only [pExt0, pExt1]
    refine beh (o2.more o3.ext) (fun l' w' h4 hl' hlen' o4 => ?_) fun h4 hno x4 => ?_
    · simp only [pExt0, pExt1]
      rw [pUn_not, Bool.not_true, ifV_false, pUn_not, Bool.not_true, ifV_false]
      replace o4 := (o2.frame o3).frame o4
      have Hw := o4.qvw 1 rfl
      have Hw' := o4.qvw 0 rfl
      have ones := ones_of (cs := zerosL [.slice none 0 0] 2) (parts := [(0, 1, w), (1, 1, w')]) (fun p hp => by
        simp at hp
        rcases hp with rfl | rfl
        · exact Hw.one
        · exact Hw'.one) rfl
      refine o4.build (enc := encV) (n := 1) [w, w'] ones.2 ones.1 rfl fun vs h5 o5 => ?_
      refine cat2_ok (o5.vw 0 rfl) (o5.qvw 2 rfl) (o5.qvw 1 rfl) (by rw [nI_len, List.length_reverse]; omega) (by rw [nI_len]; omega) fun w2 h6 o6 => ?_
      have e : nI l.reverse ++ nI l' = nI (l.reverse ++ l') := by simp [nI]
      rw [e] at o6
      exact hK1 l l' w2 h6 hl hl' hlen hlen' ((o5.frame o6).sel [0] (by decide))
    · simp only [pExt0, pExt1]
      rw [pUn_not, Bool.not_true, ifV_false, pUn_not, Bool.not_false, ifV_true]
      unfold sh_path_Joined_k1
      exact hK2 h4 (.inr hno) ((o2.more o3.ext).more x4).ext
  · simp only [pExt0, pExt1]
    refine beh (o2.more x3) (fun l' w' h4 hl' hlen' o4 => ?_) fun h4 hno' x4 => ?_
    · simp only [pExt0, pExt1]
      rw [pUn_not, Bool.not_false, ifV_true]
      unfold sh_path_Joined_k1
      exact hK2 h4 (.inl hno) ((o2.more x3).more o4.ext).ext
    · simp only [pExt0, pExt1]
      rw [pUn_not, Bool.not_false, ifV_true]
      unfold sh_path_Joined_k1
      exact hK2 h4 (.inl hno) ((o2.more x3).more x4).ext

end
end Go.Proofs.YtjamcgoebnafkaaGreatDoor

namespace Go.Proofs.YtjamcgoebnafkaaGreatDoor
open Go Go.Mh
set_option linter.unusedVariables false

section
variable {h0 h : Heap} {L : List Res} {K : Value → Heap → Prop} {g : G} {v : Value}

theorem outsP_take {q : A → Bool} {l : List A} {i : Nat} (hi : i < l.length) : outsP q (l.take (i + 1)) 0 = outsP q (l.take i) 0 ++ (if q l[i] then [i] else []) := by
  rw [List.take_succ_eq_append_getElem hi, outsP_append]
  simp only [outsP, List.length_take, Nat.zero_add, Nat.min_eq_left (Nat.le_of_lt hi)]

/-- Are both rows alike? -/
theorem rints_ok {α : Type} {enc : α → List Value} {e : α → Int} {xs : List α} {va vb : Value} (he : ∀ a, enc a = [I (e a)]) (Ha : Vw enc 1 h va xs) (Hb : Vw enc 1 h vb xs) (hl : xs.length < 2 ^ 40) (hK : K (.bool true) h) : callS Tryz.prog F_milestoneref07_Ints [va, vb] h K := by
  refine callS_of (lk_milestoneref07_Ints _ _ ?_)
  unfold sh_milestoneref07_Ints
  refine Ha.len (Hb.len ?_)
  rw [pBin_neq, bne_self_eq_false, ifV_false]
  refine LoopH_count xs.length (fun i x h' => x.1 = I i ∧ h' = h) ⟨rfl, rfl⟩ ?_
  rintro i ⟨x, ⟨⟩⟩ h' Z hi ⟨hx, rfl⟩ hZ
  dsimp only at hx hZ ⊢
  subst hx
  unfold sh_milestoneref07_Ints_L1
  refine Ha.len ?_
  simp only [pBin_lss, ifV_dec]
  refine ⟨fun hlt => ?_, fun hge => hK⟩
  have hlt : i < xs.length := by omega
  refine Ha.at1 (e := fun a => I (e a)) he hlt (Hb.at1 (e := fun a => I (e a)) he hlt ?_)
  rw [pBin_neq, bne_self_eq_false, ifV_false, pBin_add, wI i (by omega)]
  exact hZ (I (i + 1 : Nat), ()) _ hlt ⟨rfl, rfl⟩

end
end Go.Proofs.YtjamcgoebnafkaaGreatDoor

namespace Go.Proofs.YtjamcgoebnafkaaGreatDoor
open Go Go.Mh
set_option linter.unusedVariables false

section
variable {h0 h : Heap} {L : List Res} {K : Value → Heap → Prop} {g : G} {r : Nat} {v sd sa so sd' sa' so' : Value} {d ar d' ar' : List Int}

/-- The reference's followed arcs. -/
theorem rfollow_ok {z : Int} {tu : Bool} {hd tl : A → Nat} (he : (hd, tl) = if tu then (A.f, A.t) else (A.t, A.f)) (hR : g.Right) (H : RawV h v g) (Hd : Vw encI 1 h sd d) (Ha : Vw encI 1 h sa ar)
    (hK1 : ∀ l w h', folI g.n g.arcs d ar hd tl z = some l → l.length < 16777216 → Own h h' [slR encI 1 T_int w (nI l)] → K (.tuple #[w, .bool true]) h')
    (hK2 : ∀ h', folI g.n g.arcs d ar hd tl z = none → Ext h h' → K (.tuple #[.slice none 0 0, .bool false]) h') : callS Tryz.prog F_milestoneref11_Follow [v, sd, sa, I z, .bool tu] h K := by
  obtain ⟨vx, vy, va, rfl, H⟩ := H
  refine callS_of (lk_milestoneref11_Follow _ _ _ _ _ ?_)
  unfold sh_milestoneref11_Follow
  have hmost := hR.most
  have hpos := hR.pos
  have hmany := hR.many
  have hv : ∀ {h' : Heap}, Ext h h' → Vw encA 3 h' va g.arcs := fun x => H.2.2.more x
  refine (Own.start h).box fun g5 h1 o1 => ?_
  have no : ¬ (rchd d z = true ∧ z < g.n) → sh_milestoneref11_Follow_k1 Tryz.prog K h1 := fun hn => by
    unfold sh_milestoneref11_Follow_k1
    exact hK2 h1 (by unfold folI; rw [if_neg hn]) o1.ext
  have rc : rchd d z = (decide (0 ≤ z) && (decide (z < d.length) && (decide (0 ≤ d.getD z.toNat far) && decide (d.getD z.toNat far < far)))) := rfl
  simp only [pBin_lss, ifV_dec]
  refine ⟨fun h => no fun e => by rw [rc, Bool.and_eq_true, decide_eq_true_eq] at e; omega, fun h0 => (Hd.more o1.ext).len ?_⟩
  simp only [pBin_geq, ifV_dec, pField_ptr]
  refine ⟨fun h => no fun e => by rw [rc] at e; simp only [Bool.and_eq_true, decide_eq_true_eq] at e; omega, fun h1' => o1.load 0 rfl rfl ?_⟩
  simp only [pBin_geq, ifV_dec]
  refine ⟨fun h => no fun e => by omega, fun h2 => ?_⟩
  obtain ⟨u, rfl⟩ := Int.eq_ofNat_of_zero_le (show 0 ≤ z by omega)
  have hud : u < d.length := by omega
  have hun : u < g.n := by omega
  rw [Int.toNat_natCast] at rc
  refine (Hd.more o1.ext).atI hud ?_
  rw [atG (c := far) hud]
  simp only [pBin_lss, ifV_dec]
  refine ⟨fun h => no fun e => by rw [rc] at e; simp only [Bool.and_eq_true, decide_eq_true_eq] at e; omega, fun h3 => (Hd.more o1.ext).atI hud ?_⟩
  rw [atG (c := far) hud]
  simp only [pBin_geq, ifV_dec]
  have hf : far = 72057594037927936 := rfl
  refine ⟨fun h => no fun e => by rw [rc] at e; simp only [Bool.and_eq_true, decide_eq_true_eq] at e; omega, fun h4 => ?_⟩
  have hr : rchd d u = true := by
    rw [rc]; simp only [Bool.and_eq_true, decide_eq_true_eq]; omega
  have hfol : folI g.n g.arcs d ar hd tl u = fol g.n g.arcs ar hd tl g.n u [] := by
    unfold folI; rw [if_pos ⟨hr, by omega⟩, Int.toNat_natCast]
  clear no rc h0 h1' h2 h3 h4
  refine LoopH_count g.n (fun i x h' => ∃ (w : Nat) (acc : List Nat), x.1 = I w ∧ acc.length = i ∧ i < g.n ∧ fol g.n g.arcs ar hd tl g.n u [] = fol g.n g.arcs ar hd tl (g.n - i) w acc ∧ Own h h' [slR encI 1 T_int x.2.1 (nI acc), cellR g5 [I g.n, vx, vy, va] T_api_Raw]) ⟨u, [], rfl, rfl, hpos, rfl, o1.nilS⟩ ?_
  clear o1
  rintro i ⟨x, out, ⟨⟩⟩ h' Z hi ⟨w, acc, hx, hacc, hin, hch, o⟩ hZ
  dsimp only at hx o hZ ⊢
  subst hx
  unfold sh_milestoneref11_Follow_L2
  rw [show g.n - i = (g.n - (i + 1)) + 1 by omega] at hch
  conv at hch => rhs; unfold fol
  have stop : ¬ (w < ar.length ∧ 0 ≤ ar.getD w (-1)) → sh_milestoneref11_Follow_k5 Tryz.prog K out h' := fun hn => by
    rw [if_neg hn] at hch
    unfold sh_milestoneref11_Follow_k5
    exact hK1 acc out h' (by rw [hfol, hch]) (by omega) (o.sel [0] (by decide))
  refine (Ha.more o.ext).len ?_
  simp only [pBin_lss, ifV_dec]
  refine ⟨fun hlt => ?_, fun hge => stop fun e => hge (by have := e.1; omega)⟩
  have hlt : w < ar.length := by omega
  refine (Ha.more o.ext).atI hlt ?_
  rw [atG (c := -1) hlt]
  simp only [pBin_geq, ifV_dec]
  refine ⟨fun hge0 => ?_, fun hge => stop fun e => hge e.2⟩
  rw [if_pos ⟨hlt, hge0⟩] at hch
  refine (Ha.more o.ext).atI hlt ?_
  rw [atG (c := -1) hlt]
  generalize ar.getD w (-1) = zz at hge0 hch
  obtain ⟨a, rfl⟩ := Int.eq_ofNat_of_zero_le hge0
  rw [Int.toNat_natCast] at hch
  have fail : ¬ ((a : Int) < g.arcs.length ∧ hd (arcAt g.arcs a) = w ∧ acc.length + 1 < g.n) → K (.tuple #[.slice none 0 0, .bool false]) h' := fun hn => by
    rw [if_neg hn] at hch
    exact hK2 h' (by rw [hfol, hch]) o.ext
  simp only [pField_ptr]
  refine o.load 1 rfl rfl ((hv o.ext).len ?_)
  simp only [pBin_geq, ifV_dec]
  unfold sh_milestoneref11_Follow_k3
  refine ⟨fun h => fail fun e => by omega, fun hal => ?_⟩
  have hal : a < g.arcs.length := by omega
  refine (o.vw 0 rfl).len ?_
  rw [nI_len, pBin_add, w64 (by omega) (by omega)]
  refine o.load 1 rfl rfl ?_
  simp only [pBin_geq, ifV_dec]
  refine ⟨fun h => fail fun e => by omega, fun hlen => ?_⟩
  have ea : g.arcs[a] = arcAt g.arcs a := by simp [arcAt, hal]
  have rf : ∀ {K : Value → Prop} {j : Nat} {u : Value}, j < 3 → (encA (arcAt g.arcs a))[j]? = some u → K u → pLoad h' (.pointer (some ⟨g5, 0 + 3, none⟩)) fun t => pIdx 3 t (I a) fun t75 => pField j t75 fun t76 => pLoad h' t76 K := fun hj hu hk =>
    o.load 1 rfl rfl ((hv o.ext).atF encA_len hal hj (by rw [ea]; exact hu) hk)
  have k4 : ∀ (hq : hd (arcAt g.arcs a) = w → True), sh_milestoneref11_Follow_k4 Tryz.prog (I w) K (I a) out (fun a0 a1 hz => Z (a0, (a1, ())) hz) (I (hd (arcAt g.arcs a))) (I (tl (arcAt g.arcs a))) h' := by
    intro _
    unfold sh_milestoneref11_Follow_k4
    rw [pBin_neq]
    by_cases hc : hd (arcAt g.arcs a) = w
    · rw [hc, bne_self_eq_false, ifV_false]
      rw [if_pos ⟨by omega, hc, by omega⟩] at hch
      refine o.app1 0 (a : Int) rfl rfl (sizesOk_of rfl) encI_len encI_plain rfl (by decide) (by rw [nI_len]; omega) fun v' h2 o2 => ?_
      have e : nI acc ++ [(a : Int)] = nI (acc ++ [a]) := by simp [nI]
      rw [e] at o2
      exact hZ (_, v', ()) h2 hin ⟨_, acc ++ [a], rfl, by simp [hacc], by omega, hch, o2⟩
    · rw [show ((hd (arcAt g.arcs a) : Int) != (w : Int)) = true by simp; omega, ifV_true]
      exact fail fun e => hc e.2.1
  refine rf (j := 1) (by decide) rfl (rf (j := 0) (by decide) rfl ?_)
  cases tu with
  | true =>
    rw [if_pos rfl] at he
    obtain ⟨rfl, rfl⟩ := Prod.mk.inj he
    rw [ifV_true]
    exact rf (j := 0) (by decide) rfl (rf (j := 1) (by decide) rfl (k4 fun _ => trivial))
  | false =>
    rw [if_neg (by decide)] at he
    obtain ⟨rfl, rfl⟩ := Prod.mk.inj he
    rw [ifV_false]
    exact k4 fun _ => trivial

theorem rahead_ok {z : Int} (hR : g.Right) (H : RawV h v g) (Hd : Vw encI 1 h sd d) (Ha : Vw encI 1 h sa ar)
    (hK1 : ∀ l w h', folI g.n g.arcs d ar A.t A.f z = some l → l.length < 16777216 → Own h h' [slR encI 1 T_int w (nI l.reverse)] → K (.tuple #[w, .bool true]) h')
    (hK2 : ∀ h', folI g.n g.arcs d ar A.t A.f z = none → Ext h h' → K (.tuple #[.slice none 0 0, .bool false]) h') : callS Tryz.prog F_milestoneref11_Ahead [v, sd, sa, I z] h K := by
  obtain ⟨vx, vy, va, rfl, H⟩ := H
  refine callS_of (lk_milestoneref11_Ahead _ _ _ _ ?_)
  unfold sh_milestoneref11_Ahead
  refine (Own.start h).box fun g4 h1 o1 => o1.ldN (cs' := [I g.n, vx, vy, va]) 0 rfl rfl rfl ?_
  refine rfollow_ok (tu := false) rfl hR ⟨vx, vy, va, rfl, H.more o1.ext⟩ (Hd.more o1.ext) (Ha.more o1.ext) (fun l w h2 hl hlen o2 => ?_) fun h2 hno x2 => ?_
  · simp only [pExt0, pExt1]
    replace o2 := (o1.frame o2).sel [0] (by decide)
    refine (o2.vw 0 rfl).len ?_
    rw [nI_len, pBin_sub, w64 (by omega) (by omega)]
    refine LoopH_count l.length (fun i x h' => x.2.1 = I ((l.length : Int) - 1 - i) ∧ Own h h' [slR encI 1 T_int x.1 (nI (l.reverse.take i)), slR encI 1 T_int w (nI l)]) ⟨by simp, o2.nilS⟩ ?_
    clear o2
    rintro i ⟨out, x, ⟨⟩⟩ h' Z hi ⟨hx, o⟩ hZ
    dsimp only at hx o hZ ⊢
    subst hx
    unfold sh_milestoneref11_Ahead_L1
    simp only [pBin_geq, ifV_dec]
    refine ⟨fun hge => ?_, fun hlt => ?_⟩
    · have hil : i < l.length := by omega
      have hq : (nI l)[l.length - 1 - i]? = some ((l[l.length - 1 - i] : Nat) : Int) := by simp [nI, show l.length - 1 - i < l.length by omega]
      have htk : l.reverse.take (i + 1) = l.reverse.take i ++ [l[l.length - 1 - i]] := by
        rw [List.take_succ_eq_append_getElem (by rw [List.length_reverse]; exact hil), List.getElem_reverse]
      generalize l[l.length - 1 - i] = a at hq htk
      rw [show (l.length : Int) - 1 - i = ((l.length - 1 - i : Nat) : Int) by omega]
      refine (o.vw 1 rfl).atQ hq ?_
      refine o.app1 0 (a : Int) rfl rfl (sizesOk_of rfl) encI_len encI_plain rfl (by decide) (by rw [nI_len, List.length_take]; omega) fun v' h3 o3 => ?_
      have e : nI (l.reverse.take i) ++ [(a : Int)] = nI (l.reverse.take (i + 1)) := by rw [htk]; simp [nI]
      rw [e] at o3
      rw [pBin_sub, w64 (by omega) (by omega)]
      exact hZ (v', _, ()) h3 hil ⟨congrArg (fun z : Int => I z) (by omega), o3⟩
    · have : i = l.length := by omega
      subst this
      rw [List.take_of_length_le (by rw [List.length_reverse]; exact Nat.le_refl _)] at o
      exact hK1 l out h' hl hlen (o.sel [0] (by decide))
  · simp only [pExt0, pExt1]
    have o2 := o1.more x2
    refine Vw.len (Vw.nil (α := Int) (enc := encI) (n := 1) (h := h2)) ?_
    rw [pBin_sub, w64 (by simp) (by simp)]
    refine LoopH_count 0 (fun _ x h' => x.1 = .slice none 0 0 ∧ x.2.1 = I (-1) ∧ h' = h2) ⟨rfl, rfl, rfl⟩ ?_
    rintro _ ⟨out, x, ⟨⟩⟩ h' Z _ ⟨hx, hy, rfl⟩ _
    dsimp only at hx hy ⊢
    subst hx hy
    unfold sh_milestoneref11_Ahead_L1
    rw [pBin_geq, decide_eq_false (by omega), ifV_false]
    exact hK2 _ hno o2.ext

theorem rmeet_ok (Hd : Vw encI 1 h sd d) (Hd' : Vw encI 1 h sd' d') (hK : K (.tuple #[I (meet d d').1, I (meet d d').2, .bool (decide (0 ≤ (meet d d').1))]) h) (hl : d.length < 2 ^ 62) :
    callS Tryz.prog F_milestoneref11_Meet [sd, sd'] h K := by
  refine callS_of (lk_milestoneref11_Meet _ _ ?_)
  unfold sh_milestoneref11_Meet
  refine LoopH_count (min d.length d'.length) (fun i x h' => x.2.1 = I (meetGo d d' i).1 ∧ x.1 = I (meetGo d d' i).2 ∧ x.2.2.1 = I i ∧ h' = h) ⟨rfl, rfl, rfl, rfl⟩ ?_
  rintro i ⟨y, x, z, ⟨⟩⟩ h' Z hi ⟨hx, hy, hz, rfl⟩ hZ
  dsimp only at hx hy hz hZ ⊢
  subst hx hy hz
  unfold sh_milestoneref11_Meet_L1
  have stop : i = min d.length d'.length → sh_milestoneref11_Meet_k4 Tryz.prog (I (meetGo d d' i).1) K (I (meetGo d d' i).2) h' := fun e => by
    subst e
    unfold sh_milestoneref11_Meet_k4
    rw [pBin_geq]; exact hK
  refine Hd.len ?_
  simp only [pBin_lss, ifV_dec]
  refine ⟨fun h1 => Hd'.len ?_, fun h1 => stop (by omega)⟩
  simp only [pBin_lss, ifV_dec]
  refine ⟨fun h2 => ?_, fun h2 => stop (by omega)⟩
  have h1 : i < d.length := by omega
  have h2 : i < d'.length := by omega
  have hlt : i < min d.length d'.length := by omega
  have step : meetGo d d' (i + 1) = if rchd d i = true ∧ rchd d' i = true ∧ ((meetGo d d' i).1 < 0 ∨ d.getD i far + d'.getD i far < (meetGo d d' i).2) then ((i : Int), d.getD i far + d'.getD i far) else meetGo d d' i := rfl
  have rc : ∀ {d : List Int}, i < d.length → rchd d i = true → 0 ≤ d.getD i far ∧ d.getD i far < far := fun _ h => (rchd_lt h).2
  have rc2 : ∀ {d : List Int}, i < d.length → 0 ≤ d.getD i far → d.getD i far < far → rchd d i = true := fun {d} hl h3 h4 => by
    unfold rchd; simp only [Bool.and_eq_true, decide_eq_true_eq, Int.toNat_natCast]; omega
  generalize meetGo d d' i = m at step
  have k2 : ∀ a b, meetGo d d' (i + 1) = (a, b) → sh_milestoneref11_Meet_k2 Tryz.prog (I i) (fun a0 a1 a2 hz => Z (a0, (a1, (a2, ()))) hz) (I b) (I a) h' := by
    intro a b e
    unfold sh_milestoneref11_Meet_k2
    rw [pBin_add, wI i (by omega)]
    exact hZ (_, _, I (i + 1 : Nat), ()) h' hlt ⟨by rw [e], by rw [e], rfl, rfl⟩
  have hf : far = 72057594037927936 := rfl
  refine Hd.atI h1 ?_
  rw [atG (c := far) h1]
  simp only [pBin_lss, ifV_dec]
  refine ⟨fun q => k2 _ _ (by rw [step, if_neg fun e => absurd (rc h1 e.1).1 (by omega)]), fun q1 => Hd'.atI h2 ?_⟩
  rw [atG (c := far) h2]
  simp only [pBin_lss, ifV_dec]
  refine ⟨fun q => k2 _ _ (by rw [step, if_neg fun e => absurd (rc h2 e.2.1).1 (by omega)]), fun q2 => Hd.atI h1 ?_⟩
  rw [atG (c := far) h1]
  simp only [pBin_geq, ifV_dec]
  refine ⟨fun q => k2 _ _ (by rw [step, if_neg fun e => absurd (rc h1 e.1).2 (by omega)]), fun q3 => Hd'.atI h2 ?_⟩
  rw [atG (c := far) h2]
  simp only [pBin_geq, ifV_dec]
  refine ⟨fun q => k2 _ _ (by rw [step, if_neg fun e => absurd (rc h2 e.2.1).2 (by omega)]), fun q4 => ?_⟩
  have r1 := rc2 h1 (by omega) (by omega)
  have r2 := rc2 h2 (by omega) (by omega)
  refine cutP_of (fun y h'' => y.1 = .bool (decide (m.1 < 0 ∨ d.getD i far + d'.getD i far < m.2)) ∧ h'' = h') (fun J hJ => ?_) ?_
  · refine ⟨fun q => hJ _ _ ⟨by rw [decide_eq_true (Or.inl q)], rfl⟩, fun q => Hd.atI h1 (Hd'.atI h2 ?_)⟩
    rw [atG (c := far) h1, atG (c := far) h2, pBin_add, w64 (by omega) (by omega), pBin_lss]
    exact hJ _ _ ⟨congrArg _ (decide_eq_decide.2 ⟨.inr, fun h => h.resolve_left q⟩), rfl⟩
  · rintro ⟨y, ⟨⟩⟩ h'' ⟨hy, rfl⟩
    dsimp only at hy ⊢
    subst hy
    unfold sh_milestoneref11_Meet_C3
    rw [ifV_dec]
    refine ⟨fun q => Hd.atI h1 (Hd'.atI h2 ?_), fun q => k2 _ _ (by rw [step, if_neg fun e => q e.2.2])⟩
    rw [atG (c := far) h1, atG (c := far) h2, pBin_add, w64 (by omega) (by omega)]
    exact k2 _ _ (by rw [step, if_pos ⟨r1, r2, q⟩])

end
end Go.Proofs.YtjamcgoebnafkaaGreatDoor

namespace Go.Proofs.YtjamcgoebnafkaaGreatDoor
open Go Go.Mh
set_option linter.unusedVariables false

section
variable {h0 h : Heap} {L : List Res} {K : Value → Heap → Prop} {g : G} {v : Value}

set_option maxHeartbeats 4000000 in
theorem rcopy_ok (oL : Own h0 h L) (hR : g.Right) (H : RawV h v g) (hK : ∀ vx vy va h', Own h0 h' (xR vx g.X :: xR vy g.Y :: aR va g.arcs :: L) → K (.agg #[I g.n, vx, vy, va]) h') : callS Tryz.prog F_milestoneref07_Copy [v] h K := by
  obtain ⟨vx, vy, va, rfl, H⟩ := H
  refine callS_of (lk_milestoneref07_Copy _ ?_)
  unfold sh_milestoneref07_Copy
  have hx := hR.x
  have hy := hR.y
  have hm := hR.most
  have hmany := hR.many
  refine (Own.start h).box fun g1 h1 og => og.box fun t2 h2 o => ?_
  refine cutP_of (fun _ h' => ∃ vx' vy' va', Own h h' [cellR t2 [I g.n, vx', vy', va'] T_api_Raw, xR vx' g.X, xR vy' g.Y, aR va' g.arcs]) (fun J hJ => ?_) ?_
  · simp only [pField_ptr]
    have v1 := fun h' (x : Ext h h') => H.1.more x
    have v2 := fun h' (x : Ext h h') => H.2.1.more x
    have v3 := fun h' (x : Ext h h') => H.2.2.more x
    refine o.load 1 rfl rfl (o.load 1 rfl rfl (o.load 1 rfl rfl (o.load 1 rfl rfl ?_)))
    have fin : ∀ {h' : Heap} {vx' vy' va' : Value} (is : List Nat) {L' : List Res}, Own h h' L' → is.Nodup → (is.map fun i => L'.getD i nilR) = [cellR t2 [I g.n, vx', vy', va'] T_api_Raw, xR vx' g.X, xR vy' g.Y, aR va' g.arcs] → J () h' := by
      intro h' vx' vy' va' is L' o hn he
      exact hJ _ _ ⟨vx', vy', va', he ▸ o.sel is hn⟩
    clear hJ
    repeat' (first
      | rfl
      | refine o.load 1 rfl rfl ?_
      | refine o.load 2 rfl rfl ?_
      | refine o.load 3 rfl rfl ?_
      | refine o.load 4 rfl rfl ?_
      | refine o.build (enc := encI) (n := 1) (T := T_int64) ([] : List Int) rfl (sizesOk_of rfl) rfl fun w hh o => ?_
      | refine o.build (enc := encA) (n := 3) (T := T_api_Arc) ([] : List A) rfl (sizesOk_of rfl) rfl fun w hh o => ?_
      | refine o.app 0 rfl encI_len encI_plain rfl (v1 _ o.ext) (by decide) (by simp; omega) fun w hh o => ?_
      | refine o.app 1 rfl encI_len encI_plain rfl (v1 _ o.ext) (by decide) (by simp; omega) fun w hh o => ?_
      | refine o.app 2 rfl encI_len encI_plain rfl (v1 _ o.ext) (by decide) (by simp; omega) fun w hh o => ?_
      | refine o.app 0 rfl encI_len encI_plain rfl (v2 _ o.ext) (by decide) (by simp; omega) fun w hh o => ?_
      | refine o.app 1 rfl encI_len encI_plain rfl (v2 _ o.ext) (by decide) (by simp; omega) fun w hh o => ?_
      | refine o.app 2 rfl encI_len encI_plain rfl (v2 _ o.ext) (by decide) (by simp; omega) fun w hh o => ?_
      | refine o.app 0 rfl encA_len encA_plain rfl (v3 _ o.ext) (by decide) (by simp; omega) fun w hh o => ?_
      | refine o.app 1 rfl encA_len encA_plain rfl (v3 _ o.ext) (by decide) (by simp; omega) fun w hh o => ?_
      | refine o.app 2 rfl encA_len encA_plain rfl (v3 _ o.ext) (by decide) (by simp; omega) fun w hh o => ?_
      | with_reducible apply And.intro)
    all_goals (
      refine pBuild_ones (cs' := [_, _, _, _]) ?_ rfl rfl ?_
      · intro p hp
        simp at hp
        rcases hp with rfl | rfl | rfl | rfl
        · rfl
        all_goals first | exact (o.vw 0 rfl).one | exact (o.vw 1 rfl).one | exact (o.vw 2 rfl).one
      · refine o.st (l := [_, _, _, _]) 3 rfl rfl rfl rfl rfl ?_ fun hh o => ?_
        · intro u hu
          simp at hu
          rcases hu with rfl | rfl | rfl | rfl
          · rfl
          all_goals first | exact (o.vw 0 rfl).plain | exact (o.vw 1 rfl).plain | exact (o.vw 2 rfl).plain
        · first
            | exact fin [3, 0, 1, 2] o (by decide) rfl
            | exact fin [3, 0, 2, 1] o (by decide) rfl
            | exact fin [3, 1, 0, 2] o (by decide) rfl
            | exact fin [3, 1, 2, 0] o (by decide) rfl
            | exact fin [3, 2, 0, 1] o (by decide) rfl
            | exact fin [3, 2, 1, 0] o (by decide) rfl)
  · rintro ⟨⟩ h' ⟨vx', vy', va', o'⟩
    exact o'.ldN 0 rfl rfl rfl (hK vx' vy' va' h' (oL.frame (o'.sel [1, 2, 3] (by decide))))

end
end Go.Proofs.YtjamcgoebnafkaaGreatDoor

namespace Go.Proofs.YtjamcgoebnafkaaGreatDoor
open Go Go.Mh
set_option linter.unusedVariables false

section
variable {h0 h : Heap} {L : List Res} {K : Value → Heap → Prop} {g : G} {v : Value}

theorem turned2_step {l : List A} {i : Nat} (hi : i < l.length) : (((l.take i).map A.swap ++ l.drop i).set i (l[i]).swap) = (l.take (i + 1)).map A.swap ++ l.drop (i + 1) := by
  rw [List.set_append_right _ _ (by simp; omega)]
  have e : i - ((l.take i).map A.swap).length = 0 := by simp; omega
  rw [e, List.drop_eq_getElem_cons hi, List.set_cons_zero, List.take_succ_eq_append_getElem hi, List.map_append, List.append_assoc]; rfl

/-- The reference's graph turned round. -/
theorem rturned_ok (o : Own h0 h L) (hR : g.Right) (H : RawV h v g) (hK : ∀ vx vy va h', Own h0 h' (xR vx g.X :: xR vy g.Y :: aR va g.turned.arcs :: L) → K (.agg #[I g.n, vx, vy, va]) h') : callS Tryz.prog F_milestoneref07_Turned [v] h K := by
  obtain ⟨vx, vy, va, rfl, H⟩ := H
  refine callS_of (lk_milestoneref07_Turned _ ?_)
  unfold sh_milestoneref07_Turned
  have hmany := hR.many
  refine (Own.start h).box fun r h1 o1 => o1.box fun e h2 o2 => o2.ldN 1 rfl rfl rfl ?_
  refine rcopy_ok o2 hR ⟨vx, vy, va, rfl, H.more o2.ext⟩ fun vx1 vy1 va1 h3 o3 => ?_
  have p0 := (o3.vw 0 rfl).plain
  have p1 := (o3.vw 1 rfl).plain
  have p2 := (o3.vw 2 rfl).plain
  have pl : ∀ u ∈ [I g.n, vx1, vy1, va1], Mh.plainCell u = true := by
    intro u hu
    simp at hu
    rcases hu with rfl | rfl | rfl | rfl
    · rfl
    · exact p0
    · exact p1
    · exact p2
  refine o3.box fun w hb ob => ob.st 0 rfl rfl rfl rfl rfl pl fun h4 o4 => ?_
  have hv : ∀ {h' : Heap}, Ext h h' → Vw encA 3 h' va g.arcs := fun x => H.2.2.more x
  refine LoopH_count g.arcs.length (fun i x h' => x.1 = I i ∧ Own h h' [cellR w [I g.n, vx1, vy1, va1] T_api_Raw, xR vx1 g.X, xR vy1 g.Y, aR va1 ((g.arcs.take i).map A.swap ++ g.arcs.drop i), cellR e [I 0, sl0, sl0, sl0] T_api_Raw, cellR r [I g.n, vx, vy, va] T_api_Raw]) ⟨rfl, o4⟩ ?_
  clear o4 ob o3 o2 o1
  rintro i ⟨x, ⟨⟩⟩ h' Z hi ⟨hx, o'⟩ hZ
  dsimp only at hx hZ ⊢
  subst hx
  unfold sh_milestoneref07_Turned_L1
  simp only [pField_ptr]
  have hlen : ((g.arcs.take i).map A.swap ++ g.arcs.drop i).length = g.arcs.length := by simp; omega
  refine o'.load 0 rfl rfl ((o'.vw 3 rfl).len ?_)
  rw [hlen]
  simp only [pBin_lss, ifV_dec]
  refine ⟨fun hlt => ?_, fun hge => ?_⟩
  · have hlt : i < g.arcs.length := by omega
    have hll : i < ((g.arcs.take i).map A.swap ++ g.arcs.drop i).length := by omega
    have hget : ((g.arcs.take i).map A.swap ++ g.arcs.drop i)[i] = g.arcs[i] := by
      rw [List.getElem_append_right (by simp; omega)]
      simp only [List.getElem_drop]
      congr 1; simp; omega
    refine o'.load 0 rfl rfl (o'.load 5 rfl rfl ?_)
    refine (hv o'.ext).atF (j := 1) encA_len hlt (by decide) rfl ?_
    refine o'.setF (a := ⟨g.arcs[i].t, g.arcs[i].t, g.arcs[i].w⟩) 3 rfl encA_len hll (f := 0) (by decide) rfl rfl (by rw [hget]; rfl) fun h3 o3 => ?_
    refine o3.load 0 rfl rfl (o3.load 5 rfl rfl ?_)
    refine (hv o3.ext).atF (j := 0) encA_len hlt (by decide) rfl ?_
    refine o3.setF (a := (g.arcs[i]).swap) 3 rfl encA_len (by simpa using hll) (f := 1) (by decide) rfl rfl (by simp [encA, A.swap]) fun h4 o4 => ?_
    rw [pBin_add, wI i (by omega)]
    refine hZ (I (i + 1 : Nat), ()) h4 hlt ⟨rfl, ?_⟩
    simp only [List.set_set] at o4
    rw [← turned2_step hlt]
    exact o4
  · have : i = g.arcs.length := by omega
    subst this
    rw [List.take_length, List.drop_length, List.append_nil] at o'
    refine o'.ldN 0 rfl rfl rfl (o'.st 4 rfl rfl rfl rfl rfl pl fun h2 o2 => o2.ldN 4 rfl rfl rfl ?_)
    exact hK vx1 vy1 va1 h2 (o.frame (o2.sel [1, 2, 3] (by decide)))

/-- The reference's least distances. -/
theorem bell_ok {s : Nat} (o : Own h0 h L) (hR : g.Right) (H : RawV h v g) (hs : s < g.n) (hK : ∀ d vd h', LS g.arcs A.f A.t g.n s d → Own h0 h' (xR vd d :: L) → K vd h') : callS Tryz.prog F_milestoneref10_Least [v, I s] h K := by
  obtain ⟨vx, vy, va, rfl, H⟩ := H
  refine callS_of (lk_milestoneref10_Least _ _ ?_)
  unfold sh_milestoneref10_Least
  have hmany := hR.many
  have hmost := hR.most
  have hv : ∀ {h' : Heap}, Ext h h' → Vw encA 3 h' va g.arcs := fun x => H.2.2.more x
  refine (Own.start h).box fun r h1 o1 => ?_
  refine LoopH_count g.n (fun i x h' => x.2.1 = I i ∧ Own h h' [xR x.1 (List.replicate i far), cellR r [I g.n, vx, vy, va] T_api_Raw]) ⟨rfl, o1.nilS⟩ ?_
  clear o1
  rintro i ⟨vl, x, ⟨⟩⟩ h' Z hi ⟨hx, o'⟩ hZ
  dsimp only at hx hZ o' ⊢
  subst hx
  unfold sh_milestoneref10_Least_L1
  simp only [pField_ptr]
  refine o'.load 1 rfl rfl ?_
  simp only [pBin_lss, ifV_dec]
  refine ⟨fun hlt => ?_, fun hge => ⟨fun h => absurd h (by omega), fun _ => ?_⟩⟩
  · refine o'.app1 0 far rfl rfl (sizesOk_of rfl) encI_len encI_plain rfl (by decide) (by simp; omega) fun v' h2 o2 => ?_
    rw [pBin_add, wI i (by omega)]
    refine hZ (v', I (i + 1 : Nat), ()) h2 (by omega) ⟨rfl, ?_⟩
    rw [List.replicate_succ']
    exact o2
  · have : i = g.n := by omega
    subst this
    refine o'.load 1 rfl rfl ?_
    rw [pBin_geq, show decide ((g.n : Int) ≤ s) = false from decide_eq_false (by omega), ifV_false]
    refine o'.setI 0 rfl (by simpa using hs) fun h2 o2 => ?_
    refine LoopH_down (fun k x h' => ∃ d, BInv g.arcs g.n s d ∧ Own h h' [xR vl d, cellR r [I g.n, vx, vy, va] T_api_Raw] ∧ ((x.1 = .bool true ∧ k = dsum d + 1) ∨ (x.1 = .bool false ∧ k = 0 ∧ LS g.arcs A.f A.t g.n s d)))
      (k0 := dsum ((List.replicate g.n far).set s 0) + 1) ⟨_, BInv.start hs, o2, .inl ⟨rfl, rfl⟩⟩ ?_
    clear o2 o' hZ
    rintro k ⟨x, ⟨⟩⟩ h' Z1 ⟨d, B, o', hm⟩ hZ1
    dsimp only at hm hZ1 ⊢
    unfold sh_milestoneref10_Least_L3
    rcases hm with ⟨rfl, rfl⟩ | ⟨rfl, rfl, hl⟩
    · rw [ifV_true]
      refine LoopH_count g.arcs.length (fun i x h' => x.2.1 = I i ∧ ∃ d', BInv g.arcs g.n s d' ∧ Own h h' [xR vl d', cellR r [I g.n, vx, vy, va] T_api_Raw] ∧
        ((x.1 = .bool true ∧ dsum d' < dsum d) ∨ (x.1 = .bool false ∧ d' = d ∧ ∀ j (hj : j < g.arcs.length), j < i → dAt d (g.arcs[j]).f < far → dAt d (g.arcs[j]).t ≤ dAt d (g.arcs[j]).f + (g.arcs[j]).w))) ⟨rfl, d, B, o', .inr ⟨rfl, rfl, fun j _ h => absurd h (by omega)⟩⟩ ?_
      clear o'
      rintro i ⟨m, x, ⟨⟩⟩ h' Z2 hi ⟨hx, d', B', o', hm⟩ hZ2
      dsimp only at hx hm hZ2 ⊢
      subst hx
      unfold sh_milestoneref10_Least_L4
      simp only [pField_ptr]
      refine o'.load 1 rfl rfl ((hv o'.ext).len ?_)
      simp only [pBin_lss (b := (g.arcs.length : Int)), ifV_dec]
      refine ⟨fun hlt => ?_, fun hge => ?_⟩
      · have hlt : i < g.arcs.length := by omega
        refine o'.load 1 rfl rfl ((hv o'.ext).atN encA_len hlt ?_)
        have ha := hR.ends _ (List.getElem_mem hlt)
        have hmem := List.getElem_mem hlt
        have hai : ∀ j (hj : j < g.arcs.length), j < i + 1 → g.arcs[j] = g.arcs[i] ∨ j < i := fun j hj h => by
          by_cases e : j = i
          · subst e; exact .inl rfl
          · exact .inr (by omega)
        generalize g.arcs[i] = a at ha hmem hai
        have rf := B'.rng ha.1
        have rt := B'.rng ha.2.1
        have lf : a.f < d'.length := by rw [B'.len]; exact ha.1
        have lt : a.t < d'.length := by rw [B'.len]; exact ha.2.1
        have hfar : far = 72057594037927936 := rfl
        refine o'.box fun b h2 o2 => o2.st 0 rfl rfl rfl rfl rfl (encA_plain _) fun h3 o3 => ?_
        refine cutP_of (fun y h'' => y.1 = .bool (decide (dAt d' a.f < far) && decide (dAt d' a.f + a.w < dAt d' a.t)) ∧ h'' = h3) (fun J hJ => ?_) ?_
        · refine o3.load 0 rfl rfl ((o3.vw 1 rfl).atI lf ?_)
          rw [dAt_get]
          simp only [pBin_lss, ifV_dec]
          refine ⟨fun h => ?_, fun h => ?_⟩
          · refine o3.load 0 rfl rfl ((o3.vw 1 rfl).atI lf (o3.load 0 rfl rfl ?_))
            rw [dAt_get, pBin_add, w64 (by omega) (by omega)]
            refine o3.load 0 rfl rfl ((o3.vw 1 rfl).atI lt ?_)
            rw [dAt_get, pBin_lss]
            refine hJ _ _ ⟨?_, rfl⟩
            rw [show decide (dAt d' a.f < far) = true from decide_eq_true h, Bool.true_and]
          · refine hJ _ _ ⟨?_, rfl⟩
            rw [show decide (dAt d' a.f < far) = false from decide_eq_false h, Bool.false_and]
        · rintro ⟨y, ⟨⟩⟩ h'' ⟨hy, rfl⟩
          dsimp only at hy ⊢
          subst hy
          unfold sh_milestoneref10_Least_C5 sh_milestoneref10_Least_k6
          by_cases hc : dAt d' a.f < far ∧ dAt d' a.f + a.w < dAt d' a.t
          · rw [show (decide (dAt d' a.f < far) && decide (dAt d' a.f + a.w < dAt d' a.t)) = true by rw [decide_eq_true hc.1, decide_eq_true hc.2]; rfl, ifV_true]
            simp only [pField_ptr]
            refine o3.load 0 rfl rfl (o3.load 0 rfl rfl ((o3.vw 1 rfl).atI lf (o3.load 0 rfl rfl ?_)))
            rw [dAt_get, pBin_add, w64 (by omega) (by omega)]
            refine o3.setI 1 rfl lt fun h4 o4 => ?_
            rw [pBin_add, wI i (by omega)]
            have R := B'.relax hmem ha.1 ha.2.1 hc.1 hc.2
            refine hZ2 (.bool true, I (i + 1 : Nat), ()) h4 hlt ⟨rfl, _, R.1, o4.sel [1, 2] (by decide), .inl ⟨rfl, ?_⟩⟩
            have := R.2
            rcases hm with ⟨_, h⟩ | ⟨_, h, _⟩
            · omega
            · rw [← h]; exact this
          · rw [show (decide (dAt d' a.f < far) && decide (dAt d' a.f + a.w < dAt d' a.t)) = false by
              rw [Bool.and_eq_false_imp]; intro h; simp only [decide_eq_true_eq] at h; exact decide_eq_false fun h' => hc ⟨h, h'⟩, ifV_false]
            rw [pBin_add, wI i (by omega)]
            refine hZ2 (m, I (i + 1 : Nat), ()) _ hlt ⟨rfl, d', B', o3.sel [1, 2] (by decide), ?_⟩
            rcases hm with h | ⟨h1, h2, h3⟩
            · exact .inl h
            · refine .inr ⟨h1, h2, fun j hj hji => ?_⟩
              rcases hai j hj hji with e | e
              · rw [e]; intro hf
                rw [← h2] at hf ⊢
                omega
              · exact h3 j hj e
      · have : i = g.arcs.length := by omega
        subst this
        rcases hm with ⟨h1, h2⟩ | ⟨h1, h2, h3⟩
        · exact hZ1 (m, ()) h' (dsum d' + 1) (by omega) ⟨d', B', o', .inl ⟨h1, rfl⟩⟩
        · refine hZ1 (m, ()) h' 0 (by omega) ⟨d', B', o', .inr ⟨h1, rfl, ?_⟩⟩
          subst h2
          refine B'.ls fun a ha => ?_
          obtain ⟨j, hj, rfl⟩ := List.mem_iff_getElem.1 ha
          exact h3 j hj hj
    · rw [ifV_false]
      exact hK d vl h' hl (o.frame (o'.sel [0] (by decide)))

/-- Of no node there is none. -/
theorem bellO_ok {z : Int} (o : Own h0 h L) (hR : g.Right) (H : RawV h v g) (hz : ¬ (0 ≤ z ∧ z < g.n)) (hK : ∀ h', Own h0 h' L → K (.slice none 0 0) h') : callS Tryz.prog F_milestoneref10_Least [v, I z] h K := by
  obtain ⟨vx, vy, va, rfl, H⟩ := H
  refine callS_of (lk_milestoneref10_Least _ _ ?_)
  unfold sh_milestoneref10_Least
  have hmost := hR.most
  refine (Own.start h).box fun r h1 o1 => ?_
  refine LoopH_count g.n (fun i x h' => x.2.1 = I i ∧ Own h h' [xR x.1 (List.replicate i far), cellR r [I g.n, vx, vy, va] T_api_Raw]) ⟨rfl, o1.nilS⟩ ?_
  clear o1
  rintro i ⟨vl, x, ⟨⟩⟩ h' Z hi ⟨hx, o'⟩ hZ
  dsimp only at hx hZ o' ⊢
  subst hx
  unfold sh_milestoneref10_Least_L1
  simp only [pField_ptr]
  refine o'.load 1 rfl rfl ?_
  simp only [pBin_lss, ifV_dec]
  refine ⟨fun hlt => ?_, fun hge => ?_⟩
  · refine o'.app1 0 far rfl rfl (sizesOk_of rfl) encI_len encI_plain rfl (by decide) (by simp; omega) fun v' h2 o2 => ?_
    rw [pBin_add, wI i (by omega)]
    refine hZ (v', I (i + 1 : Nat), ()) h2 (by omega) ⟨rfl, ?_⟩
    rw [List.replicate_succ']
    exact o2
  · have : i = g.n := by omega
    subst this
    have fin : sh_milestoneref10_Least_k2 Tryz.prog K h' := hK h' (o.more o'.ext)
    refine ⟨fun _ => fin, fun h => o'.load 1 rfl rfl ?_⟩
    rw [pBin_geq, show decide ((g.n : Int) ≤ z) = true from decide_eq_true (by omega), ifV_true]
    exact fin

end
end Go.Proofs.YtjamcgoebnafkaaGreatDoor

namespace Go.Proofs.YtjamcgoebnafkaaGreatDoor
open Go Go.Mh
set_option linter.unusedVariables false

section
variable {h0 h : Heap} {L : List Res} {K : Value → Heap → Prop} {g : G} {vb v : Value} {bs : List Int}

theorem rawOf11 {vx vy va : Value} (o : Own h0 h L) (i j k : Nat) (hi : L[i]? = some (xR vx g.X)) (hj : L[j]? = some (xR vy g.Y)) (hk : L[k]? = some (aR va g.arcs)) : RawV h (.agg #[I g.n, vx, vy, va]) g :=
  ⟨vx, vy, va, rfl, o.vw i hi, o.vw j hj, o.vw k hk⟩

theorem mod11 {z : Int} {g : G} (hg : g.Right) (hz : 0 ≤ z ∧ z ≤ 255) : ∃ v : Nat, z.tmod g.n = v ∧ v < g.n := by
  obtain ⟨u, rfl⟩ := Int.eq_ofNat_of_zero_le hz.1
  exact ⟨u % g.n, rfl, Nat.mod_lt _ (by have := hg.pos; omega)⟩

/-- A graph drawn, its net, and two nodes. -/
theorem graph11_ok {e0 e1 : Int} (H : Vw encU8 1 h vb bs) (r0 : 0 ≤ e0 ∧ e0 ≤ 255) (r1 : 0 ≤ e1 ∧ e1 ≤ 255)
    (hK : ∀ (g : G) vx vy va r N (s t : Nat) h', Few g → netR N r g → s < g.n → t < g.n → Own h h' [N, xR vx g.X, xR vy g.Y, aR va g.arcs] → K (.tuple #[.agg #[I g.n, vx, vy, va], ptr r, I s, I t]) h') :
    callS Tryz.prog F_milestonelaw11_Drawn_graph [.agg #[vb, .int .u8 e0, .int .u8 e1]] h K := by
  refine callS_of (lk_milestonelaw11_Drawn_graph _ ?_)
  unfold sh_milestonelaw11_Drawn_graph
  have hvb := H.one
  refine (Own.start h).box fun d1 h1 o1 => ?_
  have ec : (Value.cells (.agg #[vb, .int .u8 e0, .int .u8 e1])).toList = [vb, .int .u8 e0, .int .u8 e1] := rfl
  rw [ec] at o1
  refine o1.box fun t2 h2 o2 => ?_
  simp only [pField_ptr]
  refine o2.load 1 rfl rfl (o2.load 1 rfl rfl ((H.more o2.ext).len ?_))
  have e : (if (60 : Int) < bs.length then 60 else (bs.length : Int)) = ((min bs.length 60 : Nat) : Int) := by split <;> omega
  rw [pMin_int, e]
  refine H.sub (a := 0) (j := min bs.length 60) encU8_len rfl rfl (by omega) (by omega) fun vb' hb => ⟨sizesOk_of (by obtain ⟨b, c, e⟩ := hb.isSl; subst e; rfl), ?_⟩
  refine o2.box fun d h3 o3 => ?_
  have o4 : Own h h3 (dR d vb' 0 :: [cellR t2 [I 0, sl0, sl0, sl0] T_api_Raw, cellR d1 [vb, .int .u8 e0, .int .u8 e1] T_milestonelaw11_Drawn]) := by obtain ⟨b, c, e⟩ := hb.isSl; subst e; exact o3
  refine raw_ok o4 hb fun g vx vy va a' h4 hg o5 => ?_
  have hR := hg.toRight
  have hpos := hR.pos
  have hmost := hR.most
  have raw4 : ∀ {h' : Heap} {L' : List Res} {u : Value}, Own h h' (xR vx g.X :: xR vy g.Y :: aR va g.arcs :: L') → u ∈ [I g.n, vx, vy, va] → Mh.plainCell u = true := by
    intro h' L' u o hu
    simp at hu
    rcases hu with rfl | rfl | rfl | rfl
    · rfl
    · exact (o.vw 0 rfl).plain
    · exact (o.vw 1 rfl).plain
    · exact (o.vw 2 rfl).plain
  refine o5.box fun g7 h5 o6 => o6.st (cs' := [I g.n, vx, vy, va]) 0 rfl rfl rfl rfl rfl (fun u hu => raw4 o5 hu) fun h6 o7 => o7.ldN 0 rfl rfl rfl ?_
  refine new_net_ok o7 hR ⟨vx, vy, va, rfl, o7.vw 1 rfl, o7.vw 2 rfl, o7.vw 3 rfl⟩ fun r N h7 hN o8 => ?_
  simp only [pExt0, pExt1]
  obtain ⟨s, hs, hsn⟩ := mod11 hR r0
  obtain ⟨t, ht, htn⟩ := mod11 hR r1
  refine o8.ldN 1 rfl rfl rfl ?_
  refine ⟨by decide, by decide, o8.load 7 rfl rfl ?_⟩
  simp only [pConv_int]
  rw [w64 (by omega) (by omega)]
  refine o8.load 1 rfl rfl ?_
  rw [pBin_rem, hs]
  refine ⟨by omega, ⟨by decide, by decide, o8.load 7 rfl rfl ?_⟩⟩
  simp only [pConv_int]
  rw [w64 (by omega) (by omega)]
  refine o8.load 1 rfl rfl ?_
  rw [pBin_rem, ht]
  refine ⟨by omega, ?_⟩
  refine o8.st (cs' := [I g.n, vx, vy, va]) 6 rfl rfl rfl rfl rfl (fun u hu => raw4 o5 hu) fun h8 o9 => ?_
  refine ⟨o9.load 7 rfl rfl rfl, o9.load 1 rfl rfl rfl, o9.load 7 rfl rfl rfl, o9.load 1 rfl rfl rfl, o9.ldN 6 rfl rfl rfl ?_⟩
  exact hK g vx vy va r N s t h8 hg hN hsn htn (o9.sel [0, 2, 3, 4] (by decide))

end
end Go.Proofs.YtjamcgoebnafkaaGreatDoor

namespace Go.Proofs.YtjamcgoebnafkaaGreatDoor
open Go Go.Mh
set_option linter.unusedVariables false

section
variable {h0 h : Heap} {L : List Res} {K : Value → Heap → Prop} {g : G} {r : Nat} {N : Res} {v : Value}

def gP : G := ⟨4, [0, 0, 0, 0], [0, 0, 0, 0], [⟨0, 1, 4⟩, ⟨0, 2, 1⟩, ⟨2, 1, 2⟩, ⟨1, 0, 0⟩]⟩
theorem gP_right : gP.Right := by
  refine ⟨by decide, by decide, rfl, rfl, by decide, by decide, by decide, by decide⟩

theorem eqT {a : Int} {A B : Prop} (h : A) : pBin .eql (I a) (I a) fun t => ifV t A B := by
  rw [pBin_eql, beq_self_eq_true, ifV_true]; exact h
theorem pExt2 {a b c : Value} {K : Value → Prop} (hk : K c) : pExt (.tuple #[a, b, c]) 2 K := hk

theorem fP1 : folI gP.n gP.arcs (gP.fromI 0).dist (gP.fromI 0).arc A.t A.f 1 = some [2, 1] := by kernel_rfl
theorem fP0 : folI gP.n gP.arcs (gP.fromI 0).dist (gP.fromI 0).arc A.t A.f 0 = some [] := by kernel_rfl
theorem fP3 : folI gP.n gP.arcs (gP.fromI 0).dist (gP.fromI 0).arc A.t A.f 3 = none := by kernel_rfl
theorem fP2 : folI gP.n gP.arcs (gP.fromI 0).dist (gP.fromI 0).arc A.t A.f 2 = some [1] := by kernel_rfl
theorem tP0 : folI gP.n gP.arcs (gP.toI 1).dist (gP.toI 1).arc A.f A.t 0 = some [1, 2] := by kernel_rfl
theorem tP2 : folI gP.n gP.arcs (gP.toI 1).dist (gP.toI 1).arc A.f A.t 2 = some [2] := by kernel_rfl
theorem mP : meet (gP.fromI 0).dist (gP.toI 1).dist = (0, 3) := by kernel_rfl

set_option maxHeartbeats 1000000 in
set_option maxRecDepth 100000 in
theorem works11_ok (hK : ∀ h', Ext h h' → K (.bool true) h') : callS Tryz.prog F_milestonelaw11_works [] h K := by
  refine callS_of (lk_milestonelaw11_works ?_)
  unfold sh_milestonelaw11_works
  refine cutP_of (fun y h' => y.2.1 = .nilIface ∧ ∃ r N, y.1 = ptr r ∧ netR N r gP ∧ Own h h' [N]) (fun J hJ => ?_) ?_
  · refine ⟨sizesOk_of rfl, sizesOk_of rfl, sizesOk_of rfl, sizesOk_of rfl, ?_⟩
    have fin : ∀ {hh : Heap} {vx vy va : Value} {L : List Res}, Own h hh L → RawV hh (.agg #[I gP.n, vx, vy, va]) gP →
        pBuild [(.int .i64 0), (.slice none 0 0), (.slice none 0 0), (.slice none 0 0)] [(0, 1, (.int .i64 4)), (1, 1, vx), (2, 1, vy), (3, 1, va)] fun t26 => callS Tryz.prog F_net_New [t26] hh fun t27 h_4 => pExt t27 0 fun t28 => pExt t27 1 fun t29 => J (t28, (t29, ())) h_4 := by
      intro hh vx vy va L o hr
      obtain ⟨vx', vy', va', e, H1, H2, H3⟩ := hr
      injection e with e
      have e : [I gP.n, vx, vy, va] = [I gP.n, vx', vy', va'] := by injection e
      injection e with _ e
      injection e with e1 e
      injection e with e2 e
      injection e with e3 _
      subst e1 e2 e3
      refine pBuild_ones (cs' := [I gP.n, vx, vy, va]) ?_ rfl rfl ?_
      · intro p hp
        simp at hp
        rcases hp with rfl | rfl | rfl | rfl
        · rfl
        · exact H1.one
        · exact H2.one
        · exact H3.one
      refine new_net_ok o gP_right ⟨vx, vy, va, rfl, H1, H2, H3⟩ fun r N h4 hN o4 => ?_
      simp only [pExt0, pExt1]
      exact hJ _ _ ⟨rfl, r, N, rfl, hN, o4.sel [0] (by decide)⟩
    have o := Own.start h
    have mk : ∀ {hh : Heap} {L : List Res} {KH : Value → Heap → Prop}, Own h hh L → (∀ w h', Own h h' (xR w gP.X :: L) → KH w h') → pMakeSlice T_int64 8 [(.int .i64 0)] (.int .i64 4) (.int .i64 4) hh KH := fun o hk =>
      o.make (enc := encI) (n := 1) (a := 0) (m := 4) rfl (by decide) (by decide) hk
    refine ⟨mk o fun w1 h1 o1 => ⟨mk o1 fun w2 h2 o2 => o2.build (enc := encA) (n := 3) gP.arcs (by kernel_rfl) (sizesOk_of rfl) rfl fun w3 h3 o3 => fin o3 ⟨_, _, _, rfl, o3.vw 2 rfl, o3.vw 1 rfl, o3.vw 0 rfl⟩,
        o1.build (enc := encA) (n := 3) gP.arcs (by kernel_rfl) (sizesOk_of rfl) rfl fun w2 h2 o2 => mk o2 fun w3 h3 o3 => fin o3 ⟨_, _, _, rfl, o3.vw 2 rfl, o3.vw 0 rfl, o3.vw 1 rfl⟩⟩,
      mk o fun w1 h1 o1 => ⟨mk o1 fun w2 h2 o2 => o2.build (enc := encA) (n := 3) gP.arcs (by kernel_rfl) (sizesOk_of rfl) rfl fun w3 h3 o3 => fin o3 ⟨_, _, _, rfl, o3.vw 1 rfl, o3.vw 2 rfl, o3.vw 0 rfl⟩,
        o1.build (enc := encA) (n := 3) gP.arcs (by kernel_rfl) (sizesOk_of rfl) rfl fun w2 h2 o2 => mk o2 fun w3 h3 o3 => fin o3 ⟨_, _, _, rfl, o3.vw 0 rfl, o3.vw 2 rfl, o3.vw 1 rfl⟩⟩,
      o.build (enc := encA) (n := 3) gP.arcs (by kernel_rfl) (sizesOk_of rfl) rfl fun w1 h1 o1 => ⟨mk o1 fun w2 h2 o2 => mk o2 fun w3 h3 o3 => fin o3 ⟨_, _, _, rfl, o3.vw 1 rfl, o3.vw 0 rfl, o3.vw 2 rfl⟩,
        mk o1 fun w2 h2 o2 => mk o2 fun w3 h3 o3 => fin o3 ⟨_, _, _, rfl, o3.vw 0 rfl, o3.vw 1 rfl, o3.vw 2 rfl⟩⟩⟩
  · rintro ⟨y1, y2, ⟨⟩⟩ h1 ⟨e2, r, N, e1, hN, o1⟩
    dsimp only at e1 e2 ⊢
    subst e1 e2
    unfold sh_milestonelaw11_works_C1
    simp only [pNe_iface_nil, ifV_false, pEq_ptr_nil, Option.isNone_some]
    refine from_ok gP_right (hN _ (o1.get 0 rfl)) fun sd sa so h2 o2 => ?_
    replace o2 := o1.frame o2
    refine to_ok gP_right (hN _ (o2.get 3 rfl)) fun td ta to h3 o3 => ?_
    replace o3 := o2.frame o3
    refine o3.box fun from3 h4 o4 => o4.box fun to4 h5 o5 => o5.st (cs' := [sd, sa, so]) 1 rfl rfl rfl rfl rfl ?_ fun h6 o6 => o6.st (cs' := [td, ta, to]) 0 rfl rfl rfl rfl rfl ?_ fun h7 o7 => ?_
    · intro u hu
      simp at hu
      rcases hu with rfl | rfl | rfl
      · exact (o5.vw 5 rfl).plain
      · exact (o5.vw 6 rfl).plain
      · exact (o5.vw 7 rfl).plain
    · intro u hu
      simp at hu
      rcases hu with rfl | rfl | rfl
      · exact (o5.vw 2 rfl).plain
      · exact (o5.vw 3 rfl).plain
      · exact (o5.vw 4 rfl).plain
    have o : Own h h7 [cellR to4 [td, ta, to] T_flood_Tree, cellR from3 [sd, sa, so] T_flood_Tree, xR td (gP.toI 1).dist, slR encI 1 T_int ta (gP.toI 1).arc, xR sd (gP.fromI 0).dist, slR encI 1 T_int sa (gP.fromI 0).arc, N] := o7.sel [0, 1, 2, 3, 5, 6, 8] (by decide)
    have pso : Mh.plainCell so = true := (o5.vw 7 rfl).plain
    have pto : Mh.plainCell to = true := (o5.vw 4 rfl).plain
    clear o7 o6 o5 o4 o3 o2 o1
    have l1 : (gP.fromI 0).arc.length < 2 ^ 62 := of_decide_eq_true (by kernel_rfl)
    have l2 : (gP.toI 1).arc.length < 2 ^ 62 := of_decide_eq_true (by kernel_rfl)
    refine o.ldN (cs' := [sd, sa, so]) 1 rfl rfl rfl (pahead_ok gP_right (hN _ (o.get 6 rfl)) (o.vw 4 rfl) (o.vw 5 rfl) pso l1 (fun l w1 h8 hl _ o1 => ?_) fun _ hno => by rw [fP1] at hno; cases hno)
    rw [fP1] at hl
    obtain rfl := Option.some.inj hl
    replace o := o.frame o1
    simp only [pExt0, pExt1]
    refine o.ldN (cs' := [sd, sa, so]) 2 rfl rfl rfl (pahead_ok gP_right (hN _ (o.get 7 rfl)) (o.vw 5 rfl) (o.vw 6 rfl) pso l1 (fun l w2 h9 hl _ o1 => ?_) fun _ hno => by rw [fP0] at hno; cases hno)
    rw [fP0] at hl
    obtain rfl := Option.some.inj hl
    replace o := o.frame o1
    simp only [pExt0, pExt1]
    refine o.ldN (cs' := [sd, sa, so]) 3 rfl rfl rfl (pahead_ok gP_right (hN _ (o.get 8 rfl)) (o.vw 6 rfl) (o.vw 7 rfl) pso l1 (fun l w3 h9 hl _ o1 => by rw [fP3] at hl; cases hl) fun h10 hno x1 => ?_)
    replace o := o.more x1
    simp only [pExt0, pExt1]
    refine o.ldN (cs' := [td, ta, to]) 2 rfl rfl rfl (pbehind_ok gP_right (hN _ (o.get 8 rfl)) (o.vw 4 rfl) (o.vw 5 rfl) pto l2 (fun l w4 h11 hl _ o1 => ?_) fun _ hno => by rw [tP0] at hno; cases hno)
    rw [tP0] at hl
    obtain rfl := Option.some.inj hl
    replace o := o.frame o1
    simp only [pExt0, pExt1]
    refine o.ldN (cs' := [sd, sa, so]) 4 rfl rfl rfl (o.ldN (cs' := [td, ta, to]) 3 rfl rfl rfl ?_)
    refine pmeet_ok (o.vw 7 rfl) (o.vw 5 rfl) (of_decide_eq_true (by kernel_rfl)) fun h12 x12 => ?_
    rw [mP]
    replace o := o.more x12
    simp only [pExt0, pExt1]
    refine pExt2 (o.ldN (cs' := [sd, sa, so]) 4 rfl rfl rfl (o.ldN (cs' := [td, ta, to]) 3 rfl rfl rfl ?_))
    refine pjoined_ok gP_right (hN _ (o.get 9 rfl)) (o.vw 7 rfl) (o.vw 8 rfl) pso l1 (o.vw 5 rfl) (o.vw 6 rfl) pto l2 (fun l l' w5 h13 hl hl' _ _ o1 => ?_) fun _ hno => by rw [fP2, tP2] at hno; rcases hno with h | h <;> cases h
    rw [fP2] at hl
    rw [tP2] at hl'
    obtain rfl := Option.some.inj hl
    obtain rfl := Option.some.inj hl'
    replace o := o.frame o1
    simp only [pExt0, pExt1]
    rw [ifV_true]
    refine o.build (enc := encI) (n := 1) [1, 2] rfl (sizesOk_of rfl) rfl fun wb h14 o => ?_
    refine rints_ok (e := fun x => x) (fun _ => rfl) (o.qvw 4 rfl) (o.vw 0 rfl) (by decide) ?_
    rw [ifV_true, ifV_true]
    refine (o.qvw 3 rfl).len ?_
    rw [show (nI ([] : List Nat).reverse).length = 0 from rfl, pBin_eql]
    show ifV (.bool true) _ _
    rw [ifV_true, pUn_not, Bool.not_false, ifV_true, ifV_true]
    refine o.build (enc := encI) (n := 1) [1, 2] rfl (sizesOk_of rfl) rfl fun wb2 h15 o => ?_
    refine rints_ok (e := fun x => x) (fun _ => rfl) (o.qvw 3 rfl) (o.vw 0 rfl) (by decide) ?_
    rw [ifV_true, ifV_true]
    refine eqT (eqT ?_)
    refine o.build (enc := encI) (n := 1) [1, 2] rfl (sizesOk_of rfl) rfl fun wb3 h16 o => ?_
    refine rints_ok (e := fun x => x) (fun _ => rfl) (o.vw 3 rfl) (o.vw 0 rfl) (by decide) (hK _ o.ext)

end
end Go.Proofs.YtjamcgoebnafkaaGreatDoor
