/- A text of the proofs of seat Ytdpofmalgemcdaa: 'HeapG'. It has no condition of its own. -/
import Derived.Test.YtdpofmalgemcdaaHeapF
set_option linter.unusedVariables false
set_option linter.unusedSimpArgs false
namespace Go.Proofs.Ytdpofmalgemcdaa
open Go Go.Mh

theorem gt_set {l : List HE} {i j : Nat} {a : HE} (hi : i < l.length) : gt (l.set i a) j = if j = i then a else gt l j := by
  by_cases e : j = i
  · subst e; simp [gt, hi]
  · by_cases hj : j < l.length
    · simp [gt, hj, e, List.getElem_set, show ¬ i = j from fun h => e h.symm]
    · simp [gt, hj, e]

theorem ids_set {l : List HE} {i : Nat} {k : Int} (hi : i < l.length) : (l.set i (l[i].1, k)).map (·.1) = l.map (·.1) := by
  apply List.ext_getElem
  · simp
  · intro j h1 h2
    simp only [List.getElem_map, List.getElem_set]
    split
    · rename_i e; subst e; rfl
    · rfl

theorem pos_ids {l l' : List HE} (h : l.map (·.1) = l'.map (·.1)) (x : Int) : pos l x = pos l' x := by
  have key : ∀ l : List HE, pos l x = ((l.map (·.1)).findIdx? (· == x)).map fun i => I i := by
    intro l; unfold pos; rw [List.findIdx?_map]; rfl
  rw [key, key, h]

theorem set_perm {l : List HE} {i : Nat} {a : HE} (hi : i < l.length) : (l.set i a).Perm (a :: l.erase l[i]) := by
  rw [List.perm_iff_count]
  intro x
  rw [List.count_set hi, List.count_cons, List.count_erase]

theorem lower_ok {h : Heap} {F : Nat → Prop} {r : Nat} {l : List HE} {n id key : Int} {K : Value → Heap → Prop} (H : HV h F r l n)
    (h2 : (id < 0 ∨ n ≤ id) → K (I 2) h)
    (h20 : 0 ≤ id → id < n → (∀ p ∈ l, p.1 ≠ id) → K (I 20) h)
    (h2' : ∀ p ∈ l, p.1 = id → p.2 < key → K (I 2) h)
    (h0 : ∀ p ∈ l, p.1 = id → ¬ p.2 < key → ∀ h' F' l', HV h' F' r l' n → l'.Perm ((id, key) :: l.erase p) → Grow h F F' → Upd F h h' → K (I 0) h') :
    callS Try.prog 16 [ptr r, I id, I key] h K := by
  refine callS_of (link16 _ _ _ ?_)
  unfold sh16
  obtain ⟨⟨m, bl, R, ho, f1, f2, f3⟩, hlow, hrg⟩ := H
  obtain ⟨v, hr, hs⟩ := R.slr
  obtain ⟨es, c, hm, him⟩ := R.map
  have c0 := hcell0 hr
  have c1 := hcell1 hr
  have c2 := hcell2 hr
  simp only [pEq_ptr_nil, Option.isNone_some, ifV_false, pNil_ptr, pField_ptr, pLoad_ptr, c0, c1, c2, Nat.zero_add]
  refine look_of hm him ?_
  rcases pos_cases l id with ⟨i, hi, rfl⟩ | hno
  · have hrg' := hrg _ (List.getElem_mem hi)
    simp only [pos_get R.ids hi, if_true, Option.getD_some, Option.isSome_some]
    simp only [pExt_tuple]
    show pBin .lss _ _ _
    simp only [pBin_lss, pBin_geq, ifV_dec]
    refine ⟨fun hlt => by omega, fun _ => ⟨fun hge => by omega, fun _ => ?_⟩⟩
    show pUn .not (.bool true) _
    simp only [pUn_not, Bool.not_true, ifV_false]
    refine hs.idx hi ?_
    have ck := hs.slot encH_len hi (j := 1) (by omega)
    have ck' : hcell h ⟨bl, i * 2 + 1, none⟩ = some (I l[i].2) := ck
    simp only [pField_ptr, pLoad_ptr, ck']
    simp only [pBin_lss, ifV_dec]
    refine ⟨fun hk => h2' _ (List.getElem_mem hi) rfl hk, fun hk => ?_⟩
    refine hs.idx hi ?_
    obtain ⟨cap, rest, rfl, hb, hrest, hcap⟩ := hs.full (by omega)
    have hlen := row_length encH_len l
    simp only [pField_ptr]
    refine pStore_of rfl hb rfl (by simp [hlen]; omega) (by simp) ?_
    have eo : over (Mh.row encH l ++ rest) (i * 2 + 1) (I key).cells.toList = Mh.row encH (l.set i (l[i].1, key)) ++ rest := by
      have o := row_over encH_len hi (l[i].1, key) rest
      rw [← o]
      have hsl := row_slot encH_len hi rest
      have hd : (Mh.row encH l ++ rest).drop (i * 2) = I l[i].1 :: (Mh.row encH l ++ rest).drop (i * 2 + 1) := by
        have hg := row_get encH_len hi (j := 0) (by omega) rest
        have hlt' : i * 2 < (Mh.row encH l ++ rest).length := by simp [hlen]; omega
        rw [List.drop_eq_getElem_cons hlt']
        congr 1
        rw [Nat.add_zero, List.getElem?_eq_getElem hlt'] at hg
        simpa [encH] using hg
      have ht : (Mh.row encH l ++ rest).take (i * 2 + 1) = (Mh.row encH l ++ rest).take (i * 2) ++ [I l[i].1] := by
        have hlt' : i * 2 < (Mh.row encH l ++ rest).length := by simp [hlen]; omega
        rw [List.take_succ_eq_append_getElem hlt']
        congr 2
        have hg := row_get encH_len hi (j := 0) (by omega) rest
        rw [Nat.add_zero, List.getElem?_eq_getElem hlt'] at hg
        simpa [encH] using hg
      unfold over
      rw [ht]
      simp [encH]
    rw [eo]
    obtain ⟨hne1, hne2, hne3⟩ := R.r_ne (by omega)
    have hb1 : (upd h bl (.cells (Mh.row encH (l.set i (l[i].1, key)) ++ rest).toArray tHeld (0, 0)))[bl]? = _ := upd_self' hb
    have hr1 := (upd_ne (o := .cells (Mh.row encH (l.set i (l[i].1, key)) ++ rest).toArray tHeld (0, 0)) hne1.symm).trans hr
    have hm1 := (upd_ne (o := .cells (Mh.row encH (l.set i (l[i].1, key)) ++ rest).toArray tHeld (0, 0)) hne3).trans hm
    have u1 : Upd F h (upd h bl (.cells (Mh.row encH (l.set i (l[i].1, key)) ++ rest).toArray tHeld (0, 0))) := Upd.upd _ _ f3
    generalize upd h bl (.cells (Mh.row encH (l.set i (l[i].1, key)) ++ rest).toArray tHeld (0, 0)) = h1 at hb1 hr1 hm1 u1
    have hl1 : (l.set i (l[i].1, key)).length = l.length := List.length_set
    have R1 : Rep h1 r m bl (l.set i (l[i].1, key)) n := Rep.of hr1 (.inr ⟨cap, rest, by rw [hl1], hb1, by rw [hl1]; exact hrest, by rw [hl1]; exact hcap⟩) hm1
      (him.congr (pos_ids (ids_set hi).symm)) (by rw [ids_set hi]; exact R.ids) (by rw [hl1]; exact R.small)
    have hnew : ¬ hlt l[i] (l[i].1, key) = true := by rw [hlt_iff]; simp only; omega
    refine up_ok R1 (i := i) (by rw [hl1]; exact hi) ?_ fun h5 l5 R5 hp5 ho5 u5 => ?_
    · refine ⟨fun j j0 j1 j2 => ?_, fun i0 j j0 j1 j2 => ?_⟩
      · rw [hl1] at j1
        rw [gt_set hi, gt_set hi, if_neg j2]
        have := ho j j0 j1
        split
        · rename_i e; rw [e, ← gt_eq hi] at this; exact hlt_trans this hnew
        · exact this
      · rw [hl1] at j1
        rw [gt_set hi, gt_set hi, if_neg (by omega), if_neg (by omega)]
        have a := ho j j0 j1
        have b := ho i i0 hi
        rw [j2] at a
        exact hlt_trans a b
    · refine h0 _ (List.getElem_mem hi) rfl hk h5 F l5 ⟨⟨m, bl, R5, ho5, f1, f2, f3⟩, ?_, ?_⟩ ?_ (fun b hb => .inl hb) ?_
      · exact fun b hb => Nat.lt_of_lt_of_le (hlow b hb) (Nat.le_trans u1.size u5.size)
      · intro p hp
        have := hp5.mem_iff.1 hp
        have hm' : p.1 ∈ (l.set i (l[i].1, key)).map (·.1) := List.mem_map.2 ⟨p, this, rfl⟩
        rw [ids_set hi] at hm'
        obtain ⟨q, hq, hqe⟩ := List.mem_map.1 hm'
        rw [← hqe]; exact hrg q hq
      · exact hp5.trans (set_perm hi)
      · exact u1.trans u5 fun b hb hlt => by rcases hb with rfl | rfl; exact f2; exact f3
  · simp only [pos_none hno, if_true, Option.getD_none, Option.isSome_none, pExt_tuple]
    show pBin .lss _ _ _
    simp only [pBin_lss, pBin_geq, ifV_dec]
    refine ⟨fun hlt => h2 (.inl hlt), fun hlt => ⟨fun hge => h2 (.inr hge), fun hge => ?_⟩⟩
    show pUn .not (.bool false) _
    simp only [pUn_not, Bool.not_false, ifV_true]
    exact h20 (by omega) (by omega) hno

end Go.Proofs.Ytdpofmalgemcdaa
