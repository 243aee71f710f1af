/- Texts of the proofs of seat YtmdldoolnhpaeaaGreatDoor, joined: HpG, HpH, HpI, HoA, FlA, FlB, FlC, FlD, SpA, VaA, SpB, DfA, SpC, SpD, TaA, TaB, CeA, DkA, DkB, BiA, BiB, DsA, Md31, Lw31, GtA. They have no conditions of their own. -/
import Derived.Test.YtmdldoolnhpaeaaGreatDoorTa
import Derived.Test.YtmdldoolnhpaeaaGreatDoorMc
import Derived.Test.YtmdldoolnhpaeaaGreatDoorGb
import Derived.Test.YtmdldoolnhpaeaaGreatDoorMd
set_option linter.unusedVariables false
set_option linter.unusedSimpArgs false
set_option linter.unusedSectionVars false

namespace Go.Proofs.YtmdldoolnhpaeaaGreatDoor
open Go Go.Mh

theorem gt_set {l : List HE} {i j : Nat} {a : HE} (hi : i < l.length) : gt (l.set i a) j = if j = i then a else gt l j := by
 by_cases e : j = i
 ·subst e; simp [gt, hi]
 ·by_cases hj : j < l.length
  ·simp [gt, hj, e, List.getElem_set, show ¬ i = j from fun h => e h.symm]
  ·simp [gt, hj, e]

theorem ids_set {l : List HE} {i : Nat} {k : Int} (hi : i < l.length) : (l.set i (l[i].1, k)).map (·.1) = l.map (·.1) := by
 apply List.ext_getElem
 ·simp
 ·intro j h1 h2
  simp only [List.getElem_map, List.getElem_set]
  split
  ·rename_i e; subst e; rfl
  ·rfl

theorem pos_ids {l l' : List HE} (h : l.map (·.1) = l'.map (·.1)) (x : Int) : pos l x = pos l' x := by
 have key : ∀ l : List HE, pos l x = ((l.map (·.1)).findIdx? (· == x)).map fun i => I i := by
  intro l; unfold pos; rw [List.findIdx?_map]; rfl
 rw [key, key, h]

theorem set_perm {l : List HE} {i : Nat} {a : HE} (hi : i < l.length) : (l.set i a).Perm (a :: l.erase l[i]) := by
 rw [List.perm_iff_count]
 intro x
 rw [List.count_set hi, List.count_cons, List.count_erase]

theorem lower_ok {h : Heap} {F : Nat -> Prop} {r : Nat} {l : List HE} {n id key : Int} {K : Value -> Heap -> Prop} (H : HV h F r l n)
  (h2 : (id < 0 \/ n <= id) -> K (I 2) h)
  (h20 : 0 <= id -> id < n -> (∀ p ∈ l, p.1 ≠ id) -> K (I 20) h)
  (h2' : ∀ p ∈ l, p.1 = id -> p.2 < key -> K (I 2) h)
  (h0 : ∀ p ∈ l, p.1 = id -> ¬ p.2 < key -> ∀ h' F' l', HV h' F' r l' n -> l'.Perm ((id, key) :: l.erase p) -> Grow h F F' -> Upd F h h' -> K (I 0) h') :
  callS Tryz.prog F_heap_Heap_Lower [ptr r, I id, I key] h K := by
 refine callS_of (lk_heap_Heap_Lower _ _ _ ?_)
 unfold sh_heap_Heap_Lower
 obtain ⟨⟨m, bl, R, ho, f1, f2, f3⟩, hlow, hrg⟩ := H
 obtain ⟨v, hr, hs⟩ := R.slr
 obtain ⟨es, c, hm, him⟩ := R.map
 have c0 := hcell0 hr
 have c1 := hcell1 hr
 have c2 := hcell2 hr
 simp only [pEq_ptr_nil, Option.isNone_some, ifV_false, pNil_ptr, pField_ptr, pLoad_ptr, c0, c1, c2, Nat.zero_add]
 refine look_of hm him ?_
 rcases pos_cases l id with ⟨i, hi, rfl⟩ | hno
 ·have hrg' := hrg _ (List.getElem_mem hi)
  simp only [pos_get R.ids hi, if_true, Option.getD_some, Option.isSome_some]
  simp only [pExt_tuple]
  show pBin .lss _ _ _
  simp only [pBin_lss, pBin_geq, ifV_dec]
  refine ⟨fun hlt => by omega, fun _ => ⟨fun hge => by omega, fun _ => ?_⟩⟩
  show pUn .not (.bool true) _
  simp only [pUn_not, Bool.not_true, ifV_false]
  refine hs.idx hi ?_
  have ck := hs.slot encH_len hi (j := 1) (by omega)
  have ck' : hcell h ⟨bl, i * 2 + 1, none⟩ = some (I l[i].2) := ck
  simp only [pField_ptr, pLoad_ptr, ck']
  simp only [pBin_lss, ifV_dec]
  refine ⟨fun hk => h2' _ (List.getElem_mem hi) rfl hk, fun hk => ?_⟩
  refine hs.idx hi ?_
  obtain ⟨cap, rest, rfl, hb, hrest, hcap⟩ := hs.full (by omega)
  have hlen := row_length encH_len l
  simp only [pField_ptr]
  refine pStore_of rfl hb rfl (by simp [hlen]; omega) (by simp) ?_
  have eo : over (Mh.row encH l ++ rest) (i * 2 + 1) (I key).cells.toList = Mh.row encH (l.set i (l[i].1, key)) ++ rest := by
   have o := row_over encH_len hi (l[i].1, key) rest
   rw [<- o]
   have hsl := row_slot encH_len hi rest
   have hd : (Mh.row encH l ++ rest).drop (i * 2) = I l[i].1 :: (Mh.row encH l ++ rest).drop (i * 2 + 1) := by
    have hg := row_get encH_len hi (j := 0) (by omega) rest
    have hlt' : i * 2 < (Mh.row encH l ++ rest).length := by simp [hlen]; omega
    rw [List.drop_eq_getElem_cons hlt']
    congr 1
    rw [Nat.add_zero, List.getElem?_eq_getElem hlt'] at hg
    simpa [encH] using hg
   have ht : (Mh.row encH l ++ rest).take (i * 2 + 1) = (Mh.row encH l ++ rest).take (i * 2) ++ [I l[i].1] := by
    have hlt' : i * 2 < (Mh.row encH l ++ rest).length := by simp [hlen]; omega
    rw [List.take_succ_eq_append_getElem hlt']
    congr 2
    have hg := row_get encH_len hi (j := 0) (by omega) rest
    rw [Nat.add_zero, List.getElem?_eq_getElem hlt'] at hg
    simpa [encH] using hg
   unfold over
   rw [ht]
   simp [encH]
  rw [eo]
  obtain ⟨hne1, hne2, hne3⟩ := R.r_ne (by omega)
  have hb1 : (upd h bl (.cells (Mh.row encH (l.set i (l[i].1, key)) ++ rest).toArray tHeld (0, 0)))[bl]? = _ := upd_self' hb
  have hr1 := (upd_ne (o := .cells (Mh.row encH (l.set i (l[i].1, key)) ++ rest).toArray tHeld (0, 0)) hne1.symm).trans hr
  have hm1 := (upd_ne (o := .cells (Mh.row encH (l.set i (l[i].1, key)) ++ rest).toArray tHeld (0, 0)) hne3).trans hm
  have u1 : Upd F h (upd h bl (.cells (Mh.row encH (l.set i (l[i].1, key)) ++ rest).toArray tHeld (0, 0))) := Upd.upd _ _ f3
  generalize upd h bl (.cells (Mh.row encH (l.set i (l[i].1, key)) ++ rest).toArray tHeld (0, 0)) = h1 at hb1 hr1 hm1 u1
  have hl1 : (l.set i (l[i].1, key)).length = l.length := List.length_set
  have R1 : Rep h1 r m bl (l.set i (l[i].1, key)) n := Rep.of hr1 (.inr ⟨cap, rest, by rw [hl1], hb1, by rw [hl1]; exact hrest, by rw [hl1]; exact hcap⟩) hm1
   (him.congr (pos_ids (ids_set hi).symm)) (by rw [ids_set hi]; exact R.ids) (by rw [hl1]; exact R.small)
  have hnew : ¬ hlt l[i] (l[i].1, key) = true := by rw [hlt_iff]; simp only; omega
  refine up_ok R1 (i := i) (by rw [hl1]; exact hi) ?_ fun h5 l5 R5 hp5 ho5 u5 => ?_
  ·refine ⟨fun j j0 j1 j2 => ?_, fun i0 j j0 j1 j2 => ?_⟩
   ·rw [hl1] at j1
    rw [gt_set hi, gt_set hi, if_neg j2]
    have := ho j j0 j1
    split
    ·rename_i e; rw [e, <- gt_eq hi] at this; exact hlt_trans this hnew
    ·exact this
   ·rw [hl1] at j1
    rw [gt_set hi, gt_set hi, if_neg (by omega), if_neg (by omega)]
    have a := ho j j0 j1
    have b := ho i i0 hi
    rw [j2] at a
    exact hlt_trans a b
  ·refine h0 _ (List.getElem_mem hi) rfl hk h5 F l5 ⟨⟨m, bl, R5, ho5, f1, f2, f3⟩, ?_, ?_⟩ ?_ (fun b hb => .inl hb) ?_
   ·exact fun b hb => Nat.lt_of_lt_of_le (hlow b hb) (Nat.le_trans u1.size u5.size)
   ·intro p hp
    have := hp5.mem_iff.1 hp
    have hm' : p.1 ∈ (l.set i (l[i].1, key)).map (·.1) := List.mem_map.2 ⟨p, this, rfl⟩
    rw [ids_set hi] at hm'
    obtain ⟨q, hq, hqe⟩ := List.mem_map.1 hm'
    rw [<- hqe]; exact hrg q hq
   ·exact hp5.trans (set_perm hi)
   ·exact u1.trans u5 fun b hb hlt => by rcases hb with rfl | rfl; exact f2; exact f3
 ·simp only [pos_none hno, if_true, Option.getD_none, Option.isSome_none, pExt_tuple]
  show pBin .lss _ _ _
  simp only [pBin_lss, pBin_geq, ifV_dec]
  refine ⟨fun hlt => h2 (.inl hlt), fun hlt => ⟨fun hge => h2 (.inr hge), fun hge => ?_⟩⟩
  show pUn .not (.bool false) _
  simp only [pUn_not, Bool.not_false, ifV_true]
  exact h20 (by omega) (by omega) hno

open Go Go.Mh

theorem swapL_last {l : List HE} (hl : 0 < l.length) : swapL l 0 (l.length - 1) hl (by omega) = (swapL l 0 (l.length - 1) hl (by omega)).take (l.length - 1) ++ [l[0]] := by
 have hlen := swapL_length (l := l) hl (show l.length - 1 < l.length by omega)
 apply List.ext_getElem
 ·simp [hlen]; omega
 ·intro j h1 h2
  rw [hlen] at h1
  by_cases hj : j < l.length - 1
  ·rw [List.getElem_append_left (by simp [hlen]; omega)]; simp
  ·have : j = l.length - 1 := by omega
   subst this
   rw [swapL_get, if_pos rfl, List.getElem_append_right (by simp [hlen])]
   simp

theorem pos_del {l2 : List HE} {p : HE} (hn : ((l2 ++ [p]).map (·.1)).Nodup) (x : Int) : fdel (pos (l2 ++ [p])) p.1 x = pos l2 x := by
 unfold fdel
 by_cases hx : x = p.1
 ·subst hx
  rw [if_pos rfl]
  refine (pos_none fun q hq e => ?_).symm
  rw [List.map_append, List.nodup_append] at hn
  exact hn.2.2 q.1 (List.mem_map.2 ⟨q, hq, rfl⟩) p.1 (by simp) e
 ·rw [if_neg hx]
  unfold pos
  rw [List.findIdx?_append]
  have : [p].findIdx? (fun q => q.1 == x) = none := by
   rw [List.findIdx?_eq_none_iff]; intro q hq; simp at hq; subst hq; simpa using fun e => hx e.symm
  rw [this]; simp

theorem pop_ok {h : Heap} {F : Nat -> Prop} {r : Nat} {l : List HE} {n : Int} {K : Value -> Heap -> Prop} (H : HV h F r l n)
  (h0 : l = [] -> K (.tuple #[I 0, I 0, .bool false]) h)
  (h1 : ∀ p, Min l p -> ∀ h' F' l', HV h' F' r l' n -> l'.Perm (l.erase p) -> Grow h F F' -> Upd F h h' -> K (.tuple #[I p.1, I p.2, .bool true]) h') :
  callS Tryz.prog F_heap_Heap_Pop [ptr r] h K := by
 refine callS_of (lk_heap_Heap_Pop _ ?_)
 unfold sh_heap_Heap_Pop
 refine len_ok H ?_
 obtain ⟨⟨m, bl, R, ho, f1, f2, f3⟩, hlow, hrg⟩ := H
 obtain ⟨v, hr, hs⟩ := R.slr
 obtain ⟨es, c, hm, him⟩ := R.map
 have c0 := hcell0 hr
 simp only [pBin_eql, ifV_beq, pNil_ptr, pField_ptr, pLoad_ptr, c0, Nat.zero_add]
 refine ⟨fun he => h0 (List.eq_nil_of_length_eq_zero (by omega)), fun he => ?_⟩
 have hl : 0 < l.length := by omega
 refine hs.idx (i := 0) (k := .i64) hl ?_
 simp only [pLoadN_ptr, Nat.zero_mul]
 have ca : cellsAt h bl 0 2 = some [I l[0].1, I l[0].2] := by
  obtain ⟨cap, rest, rfl, hb, _, _⟩ := hs.full hl
  have hlen := row_length encH_len l
  rw [cellsAt_of (i := 0) hb 2 0 (by simp [hlen]; omega)]
  have := row_slot encH_len hl rest
  rw [Nat.zero_mul] at this
  rw [this]; rfl
 simp only [ca]
 refine hs.lenK ?_
 have e1 : IntKind.i64.wrap ((l.length : Int) - 1) = ((l.length - 1 : Nat) : Int) := by
  have := R.small
  rw [w64 (by omega) (by omega)]; omega
 rw [pBin_sub, e1]
 refine pBox_of ?_
 refine pStore_of rfl push_new rfl (by simp) (by simp [Mh.plainCell]) ?_
 have x1 : Ext h (upd (h.push (.cells (Value.agg #[.int .i64 0, .int .i64 0]).cells T_heap_held (0, 0))) h.size (.cells (over [Value.int .i64 0, Value.int .i64 0] 0 (Value.agg [I l[0].1, I l[0].2].toArray).cells.toList).toArray T_heap_held (0, 0))) :=
  ((Upd.push _ _ _).trans (Upd.upd (S := fun b => b = h.size) _ _ rfl) (fun b hb hlt => by omega))
 have hf1 : (upd (h.push (.cells (Value.agg #[.int .i64 0, .int .i64 0]).cells T_heap_held (0, 0))) h.size (.cells (over [Value.int .i64 0, Value.int .i64 0] 0 (Value.agg [I l[0].1, I l[0].2].toArray).cells.toList).toArray T_heap_held (0, 0)))[h.size]? =
  some (.cells #[I l[0].1, I l[0].2] T_heap_held (0, 0)) := upd_self' push_new
 have hsz1 := get_lt hf1
 generalize (upd (h.push (.cells (Value.agg #[.int .i64 0, .int .i64 0]).cells T_heap_held (0, 0))) h.size (.cells (over [Value.int .i64 0, Value.int .i64 0] 0 (Value.agg [I l[0].1, I l[0].2].toArray).cells.toList).toArray T_heap_held (0, 0))) = hA at x1 hf1 hsz1
 have R1 := R.upd x1 id id id
 have hrA := x1.get hr
 have cA := hcell0 hrA
 simp only [cA, true_and]
 have hrs := hlow _ f1
 have hms := hlow _ f2
 have hbs := hlow _ f3
 refine swap_ok R1 (i := 0) (k := l.length - 1) hl (by omega) fun h2 R2 u2 => ?_
 obtain ⟨S, R2, hlen, hS, hnd, hperm, hgt⟩ : ∃ S : List HE, Rep h2 r m bl S n /\ S.length = l.length /\ S = S.take (l.length - 1) ++ [l[0]] /\ (S.map (·.1)).Nodup /\ S.Perm l /\
   (∀ j, gt S j = if j = l.length - 1 then gt l 0 else if j = 0 then gt l (l.length - 1) else gt l j) :=
  ⟨_, R2, swapL_length _ _, swapL_last hl, R2.ids, swapL_perm _ _, swapL_gt _ _⟩
 obtain ⟨v2, hr2, hs2⟩ := R2.slr
 obtain ⟨es2, c2, hm2, him2⟩ := R2.map
 have d0 := hcell0 hr2
 have hf2 := u2.get hf1 (by omega)
 simp only [d0]
 refine hs2.pre encH_len (by rw [hlen]; omega) fun v3 hs3 => ?_
 have hcs3 : v3.cells.size = 1 /\ (∀ u ∈ v3.cells.toList, Mh.plainCell u = true) /\ v3.cells.toList = [v3] := by
  rcases hs3.len with ⟨_, _, rfl⟩; simp
 refine pStore_of rfl hr2 hcs3.1 (by rw [hcs3.1]; simp) hcs3.2.1 ?_
 have ec : over [v2, Value.map (some m), I n] 0 v3.cells.toList = [v3, Value.map (some m), I n] := by rw [hcs3.2.2]; rfl
 rw [ec]
 have u3 : Upd (fun b => b = r) h2 (upd h2 r (.cells [v3, Value.map (some m), I n].toArray tHeap (0, 0))) := Upd.upd _ _ rfl
 have hr3 : (upd h2 r (.cells [v3, Value.map (some m), I n].toArray tHeap (0, 0)))[r]? = _ := upd_self' hr2
 obtain ⟨hne1, hne2, hne3⟩ := R2.r_ne (by omega)
 have hm3 := u3.get hm2 (fun e => hne2 e.symm)
 have hs3' := hs3.upd u3 (fun e => hne1 e.symm)
 have hf3 := u3.get hf2 (by omega)
 generalize upd h2 r (.cells [v3, Value.map (some m), I n].toArray tHeap (0, 0)) = h3 at u3 hr3 hm3 hs3' hf3
 have g1 := hcell1 hr3
 have g2 := hcell0 hf3
 simp only [g1, g2, pField_ptr, pLoad_ptr, Nat.add_zero, Nat.zero_add]
 refine delete_of hm3 him2 fun es4 him4 => ?_
 have u4 : Upd (fun b => b = m) h3 (upd h3 m (.map es4 c2)) := Upd.upd _ _ rfl
 have hr4 := u4.get hr3 hne2
 have hm4 : (upd h3 m (.map es4 c2))[m]? = _ := upd_self' hm3
 have hs4 := hs3'.upd u4 hne3
 have hf4 := u4.get hf3 (by omega)
 generalize upd h3 m (.map es4 c2) = h4 at u4 hr4 hm4 hs4 hf4
 have hl2 : (S.take (l.length - 1)).length = l.length - 1 := by simp [hlen]
 have hpS : S.Perm (l[0] :: S.take (l.length - 1)) := by
  rw [hS]
  have : ((S.take (l.length - 1)) ++ [l[0]]).take (l.length - 1) = S.take (l.length - 1) := by rw [List.take_append_of_le_length (by rw [hl2]; exact Nat.le_refl _), List.take_take, Nat.min_self]
  rw [this]
  exact List.perm_append_comm
 have R4 : Rep h4 r m bl (S.take (l.length - 1)) n := by
  refine Rep.of hr4 hs4 hm4 (him4.congr fun x => ?_) ?_ (by rw [hl2]; have := R.small; omega)
  ·have := pos_del (l2 := S.take (l.length - 1)) (p := l[0]) (by rw [<- hS]; exact hnd) x
   rw [<- hS] at this; exact this
  ·have := (hpS.map (·.1)).nodup_iff.1 hnd
   rw [List.map_cons, List.nodup_cons] at this
   exact this.2
 have gtk : ∀ j, j < l.length - 1 -> gt (S.take (l.length - 1)) j = gt S j := by
  intro j hj
  rw [<- gt_eq (by rw [hl2]; exact hj), <- gt_eq (by rw [hlen]; omega)]
  simp
 have hbl4 : bl < h4.size := by
  have a := x1.size; have b := u2.size; have c := u3.size; have d := u4.size; omega
 have u14 : Upd F h h4 := (((x1.mono (S' := F) fun _ hf _ => hf.elim).trans u2 fun b hb _ => by rcases hb with rfl | rfl; exact f2; exact f3).trans u3 fun b hb _ => by subst hb; exact f1).trans u4 fun b hb _ => by subst hb; exact f2
 refine down_ok R4 (i := 0) (by decide) (by rcases Nat.eq_zero_or_pos (l.length - 1) with e | e; exact .inr (List.eq_nil_of_length_eq_zero (by rw [hl2]; exact e)); exact .inl (by rw [hl2]; exact e)) hbl4 ?_ fun h5 l5 R5 hp5 ho5 u5 => ?_
 ·refine ⟨fun j j0 j1 j2 => ?_, fun i0 => absurd i0 (Nat.lt_irrefl 0)⟩
  rw [hl2] at j1
  have hj4 : (j - 1) / 4 < l.length - 1 := by omega
  rw [gtk j j1, gtk _ hj4, hgt, hgt, if_neg (by omega), if_neg (by omega), if_neg (by omega), if_neg (by omega)]
  exact ho j j0 (by omega)
 ·have hf5 := u5.get hf4 (by omega)
  have k0 := hcell0 hf5
  have k1 := hcell1 hf5
  simp only [k0, k1, pField_ptr, pLoad_ptr, Nat.add_zero, Nat.zero_add]
  have u15 : Upd F h h5 := u14.trans u5 fun b hb _ => by rcases hb with rfl | rfl; exact f2; exact f3
  have hpe : l5.Perm (l.erase l[0]) := by
   have := (hperm.symm.trans hpS).erase l[0]
   simp only [List.erase_cons_head] at this
   exact hp5.trans this.symm
  refine h1 l[0] (ho.min hl) h5 F l5 ⟨⟨m, bl, R5, ho5, f1, f2, f3⟩, fun b hb => Nat.lt_of_lt_of_le (hlow b hb) u15.size, fun p hp => hrg p (List.mem_of_mem_erase (hpe.mem_iff.1 hp))⟩ hpe (fun b hb => .inl hb) u15

open Go Go.Mh

instance (l : List HE) (p : HE) : Decidable (Min l p) := by unfold Min; exact inferInstance

def PV (h : Heap) (F : Nat -> Prop) (r : Nat) (L : List HE) (n : Int) : Prop := ∃ l, HV h F r l n /\ l.Perm L

section
variable {h h' : Heap} {F G S : Nat -> Prop} {r : Nat} {L : List HE} {n id key : Int} {K : Value -> Heap -> Prop} {p : HE}

theorem PV.low (H : PV h F r L n) : ∀ b, F b -> b < h.size := by obtain ⟨l, H, hp⟩ := H; exact H.low
theorem PV.rng (H : PV h F r L n) : ∀ p ∈ L, 0 <= p.1 /\ p.1 < n := by obtain ⟨l, H, hp⟩ := H; exact fun p h => H.rng p (hp.mem_iff.2 h)
theorem PV.nodup (H : PV h F r L n) : (L.map (·.1)).Nodup := by obtain ⟨l, H, hp⟩ := H; exact (hp.map _).nodup_iff.1 H.nodup

theorem Min.perm {l l' : List HE} (hp : l.Perm l') (h : Min l p) : Min l' p := ⟨hp.mem_iff.1 h.1, fun q hq => h.2 q (hp.mem_iff.2 hq)⟩

theorem plen (H : PV h F r L n) (hK : K (I L.length) h) : callS Tryz.prog F_heap_Heap_Len [ptr r] h K := by
 obtain ⟨l, H, hp⟩ := H; exact len_ok H (by rw [hp.length_eq]; exact hK)
theorem pkey (H : PV h F r L n) (h0 : (∀ p ∈ L, p.1 ≠ id) -> K (.tuple #[I 0, .bool false]) h) (h1 : ∀ p ∈ L, p.1 = id -> K (.tuple #[I p.2, .bool true]) h) : callS Tryz.prog F_heap_Heap_Key [ptr r, I id] h K := by
 obtain ⟨l, H, hp⟩ := H
 exact key_ok H (fun e => h0 fun p hm => e p (hp.mem_iff.2 hm)) fun p hm => h1 p (hp.mem_iff.1 hm)
theorem pnew (hK : ∀ h' F r, PV h' F r [] (max n 0) -> (∀ b, F b -> h.size <= b) -> Ext h h' -> K (ptr r) h') : callS Tryz.prog F_heap_New [I n] h K :=
 new_ok fun h' F r H a b => hK h' F r ⟨[], H, .refl _⟩ a b
theorem ppush (H : PV h F r L n) (hsm : L.length + 1 < 2 ^ 40)
  (h2 : ((∃ p ∈ L, p.1 = id) \/ id < 0 \/ n <= id) -> K (I 2) h)
  (h0 : (∀ p ∈ L, p.1 ≠ id) -> 0 <= id -> id < n -> ∀ h' F', PV h' F' r ((id, key) :: L) n -> Grow h F F' -> Upd F h h' -> K (I 0) h') :
  callS Tryz.prog F_heap_Heap_Push [ptr r, I id, I key] h K := by
 obtain ⟨l, H, hp⟩ := H
 refine push_ok H (by rw [hp.length_eq]; exact hsm) (fun e => h2 ?_) fun hno a b h' F' l' H' hp' hg hu => h0 (fun p hm => hno p (hp.mem_iff.2 hm)) a b h' F' ⟨l', H', hp'.trans (hp.cons _)⟩ hg hu
 rcases e with ⟨p, hm, e⟩ | e
 ·exact .inl ⟨p, hp.mem_iff.1 hm, e⟩
 ·exact .inr e
theorem ppush0 (H : PV h F r L n) (hsm : L.length + 1 < 2 ^ 40) (hno : ∀ p ∈ L, p.1 ≠ id) (h1 : 0 <= id) (h2 : id < n)
  (h0 : ∀ h' F', PV h' F' r ((id, key) :: L) n -> Grow h F F' -> Upd F h h' -> K (I 0) h') : callS Tryz.prog F_heap_Heap_Push [ptr r, I id, I key] h K :=
 ppush H hsm (fun e => by
  rcases e with ⟨p, hm, e⟩ | e
  ·exact (hno p hm e).elim
  ·omega) fun _ _ _ => h0
theorem plower (H : PV h F r L n)
  (h2 : (id < 0 \/ n <= id) -> K (I 2) h) (h20 : 0 <= id -> id < n -> (∀ p ∈ L, p.1 ≠ id) -> K (I 20) h) (h2' : ∀ p ∈ L, p.1 = id -> p.2 < key -> K (I 2) h)
  (h0 : ∀ p ∈ L, p.1 = id -> ¬ p.2 < key -> ∀ h' F', PV h' F' r ((id, key) :: L.erase p) n -> Grow h F F' -> Upd F h h' -> K (I 0) h') :
  callS Tryz.prog F_heap_Heap_Lower [ptr r, I id, I key] h K := by
 obtain ⟨l, H, hp⟩ := H
 exact lower_ok H h2 (fun a b e => h20 a b fun p hm => e p (hp.mem_iff.2 hm)) (fun p hm => h2' p (hp.mem_iff.1 hm)) fun p hm e hk h' F' l' H' hp' hg hu =>
  h0 p (hp.mem_iff.1 hm) e hk h' F' ⟨l', H', hp'.trans ((hp.erase p).cons _)⟩ hg hu
theorem id_uniq (hn : (L.map (·.1)).Nodup) {q : HE} (hp : p ∈ L) (hq : q ∈ L) (he : p.1 = q.1) : p = q := by
 obtain ⟨i, hi, rfl⟩ := List.mem_iff_getElem.1 hp
 obtain ⟨j, hj, rfl⟩ := List.mem_iff_getElem.1 hq
 have := ids_inj hn hi hj he
 subst this; rfl
theorem plower0 (H : PV h F r L n) (hp : p ∈ L) (he : p.1 = id) (hk : ¬ p.2 < key)
  (h0 : ∀ h' F', PV h' F' r ((id, key) :: L.erase p) n -> Grow h F F' -> Upd F h h' -> K (I 0) h') : callS Tryz.prog F_heap_Heap_Lower [ptr r, I id, I key] h K := by
 have hr := H.rng p hp
 refine plower H (fun e => by omega) (fun _ _ e => (e p hp he).elim) (fun q hq e hk' => ?_) fun q hq e hk' => ?_
 ·have := id_uniq H.nodup hp hq (he.trans e.symm); subst this; exact (hk hk').elim
 ·have := id_uniq H.nodup hp hq (he.trans e.symm); subst this; exact h0
theorem ppop (H : PV h F r L n) (h0 : L = [] -> K (.tuple #[I 0, I 0, .bool false]) h)
  (h1 : ∀ p, Min L p -> ∀ h' F', PV h' F' r (L.erase p) n -> Grow h F F' -> Upd F h h' -> K (.tuple #[I p.1, I p.2, .bool true]) h') : callS Tryz.prog F_heap_Heap_Pop [ptr r] h K := by
 obtain ⟨l, H, hp⟩ := H
 exact pop_ok H (fun e => h0 (by subst e; exact hp.nil_eq.symm)) fun p hm h' F' l' H' hp' hg hu => h1 p (hm.perm hp) h' F' ⟨l', H', hp'.trans (hp.erase p)⟩ hg hu
theorem ppop1 (H : PV h F r L n) (hm : Min L p) (h1 : ∀ h' F', PV h' F' r (L.erase p) n -> Grow h F F' -> Upd F h h' -> K (.tuple #[I p.1, I p.2, .bool true]) h') : callS Tryz.prog F_heap_Heap_Pop [ptr r] h K :=
 ppop H (fun e => by subst e; simp [Min] at hm) fun q hq => by
  have := hq.uniq hm (.refl _); subst this; exact h1

end

open Go Go.Mh

theorem Rep.st {h h' : Heap} {r m bl : Nat} {l : List HE} {n : Int} (H : Rep h r m bl l n) (h1 : h'[r]? = h[r]?) (h2 : h'[m]? = h[m]?) (h3 : h'[bl]? = h[bl]?) : Rep h' r m bl l n := by
 obtain ⟨⟨sl, cap, rest, hr, hs⟩, ⟨es, c, hm, hi⟩, hn, hsm⟩ := H
 refine ⟨⟨sl, cap, rest, h1.trans hr, ?_⟩, ⟨es, c, h2.trans hm, hi⟩, hn, hsm⟩
 rcases hs with hs | ⟨a, b, c, d⟩
 ·exact .inl hs
 ·exact .inr ⟨a, h3.trans b, c, d⟩

def hpR (F : Nat -> Prop) (r : Nat) (H : List HE) (n : Nat) : Res := ⟨F, fun h => ∃ l, (∃ m bl, Rep h r m bl l n /\ HeapOrd l /\ F r /\ F m /\ F bl) /\ (∀ p ∈ l, 0 <= p.1 /\ p.1 < n) /\ l.Perm H, fun hs ⟨l, ⟨m, bl, R, ho, f1, f2, f3⟩, hr, hp⟩ =>
 ⟨l, ⟨m, bl, R.st (hs _ f1) (hs _ f2) (hs _ f3), ho, f1, f2, f3⟩, hr, hp⟩⟩

theorem PV.toR {h : Heap} {F : Nat -> Prop} {r : Nat} {H : List HE} {n : Nat} (P : PV h F r H n) : (hpR F r H n).Q h := by
 obtain ⟨l, ⟨a, b, c⟩, d⟩ := P; exact ⟨l, a, c, d⟩

section
variable {h0 h : Heap} {L : List Res} {F : Nat -> Prop} {r n : Nat} {H : List HE} {id key : Int} {K : Value -> Heap -> Prop}

theorem own_pv (o : Own h0 h L) (i : Nat) (hi : L[i]? = some (hpR F r H n)) : PV h F r H n := by
 obtain ⟨l, a, c, d⟩ := o.get i hi
 exact ⟨l, ⟨a, fun b hb => ((o.q hi).2 b hb).2, c⟩, d⟩

theorem min_iff {p : HE} : Min H p ↔ p ∈ H /\ ∀ q ∈ H, ¬ hl q p = true := by
 unfold Min
 have : ∀ q : HE, hlt q p = hl q p := fun q => by
  have h1 := @hlt_iff q p
  have h2 := @hl_iff q p
  by_cases hx : hl q p = true
  ·rw [hx]; exact h1.2 (h2.1 hx)
  ·simp at hx; rw [hx]
   by_cases hy : hlt q p = true
   ·rw [h2.2 (h1.1 hy)] at hx; cases hx
   ·simpa using hy
 simp only [this]

theorem least_min {p : HE} (h : least H = some p) : Min H p := min_iff.2 (least_spec h)

theorem ho_new (o : Own h0 h L) (hK : ∀ F r h', Own h0 h' (hpR F r [] n :: L) -> K (ptr r) h') : callS Tryz.prog F_heap_New [I n] h K := by
 refine pnew fun h' F r P hF x => hK F r h' (o.cons x ?_ fun b hb => ⟨hF b hb, P.low b hb⟩)
 rw [show max (n : Int) 0 = n by omega] at P
 exact P.toR

theorem own_hp {h' : Heap} {F' : Nat -> Prop} {H' : List HE} (o : Own h0 h L) (i : Nat) (hi : L[i]? = some (hpR F r H n)) (P : PV h' F' r H' n) (g : Grow h F F') (u : Upd F h h') : Own h0 h' (L.set i (hpR F' r H' n)) :=
 o.set i hi u P.toR fun b hb => ⟨g b hb, P.low b hb⟩

theorem ho_push (o : Own h0 h L) (i : Nat) (hi : L[i]? = some (hpR F r H n)) (hsm : H.length + 1 < 2 ^ 40) {v : Nat} (hno : ∀ p ∈ H, p.1 ≠ v) (hv : v < n)
  (hK : ∀ F' h', Own h0 h' (L.set i (hpR F' r (((v : Int), key) :: H) n)) -> K (I 0) h') : callS Tryz.prog F_heap_Heap_Push [ptr r, I v, I key] h K :=
 ppush0 (own_pv o i hi) hsm hno (by omega) (by omega) fun h' F' P g u => hK F' h' (own_hp o i hi P g u)

theorem ho_lower (o : Own h0 h L) (i : Nat) (hi : L[i]? = some (hpR F r H n)) {v : Nat} {was : Int} (hm : ((v : Int), was) ∈ H) (hk : ¬ was < key)
  (hK : ∀ F' h', Own h0 h' (L.set i (hpR F' r (((v : Int), key) :: H.erase ((v : Int), was)) n)) -> K (I 0) h') : callS Tryz.prog F_heap_Heap_Lower [ptr r, I v, I key] h K :=
 plower0 (own_pv o i hi) hm rfl hk fun h' F' P g u => hK F' h' (own_hp o i hi P g u)

theorem ho_key (o : Own h0 h L) (i : Nat) (hi : L[i]? = some (hpR F r H n)) {v : Nat}
  (hK : K (.tuple #[I ((lookH H v).getD 0), .bool (lookH H v).isSome]) h) : callS Tryz.prog F_heap_Heap_Key [ptr r, I v] h K := by
 have P := own_pv o i hi
 refine pkey P (fun hno => ?_) fun p hp e => ?_
 ·have : lookH H v = none := lookH_none.2 hno
  rw [this] at hK; exact hK
 ·cases hl : lookH H v with
  | none => exact absurd e (lookH_none.1 hl p hp)
  | some k =>
   have hm := lookH_some hl
   have := id_uniq P.nodup hp hm e
   subst this
   rw [hl] at hK; exact hK

theorem ho_pop (o : Own h0 h L) (i : Nat) (hi : L[i]? = some (hpR F r H n)) (hz : least H = none -> ∀ h', Own h0 h' L -> K (.tuple #[I 0, I 0, .bool false]) h')
  (hK : ∀ p, least H = some p -> ∀ F' h', Own h0 h' (L.set i (hpR F' r (H.erase p) n)) -> K (.tuple #[I p.1, I p.2, .bool true]) h') : callS Tryz.prog F_heap_Heap_Pop [ptr r] h K := by
 cases hl : least H with
 | none =>
  have e := least_none.1 hl
  subst e
  exact ppop (own_pv o i hi) (fun _ => hz hl h o) fun p hm => by simp [Min] at hm
 | some p => exact ppop1 (own_pv o i hi) (least_min hl) fun h' F' P g u => hK p hl F' h' (own_hp o i hi P g u)

end
open Go Go.Mh

section
variable {h0 h : Heap} {L : List Res} {K : Value -> Heap -> Prop} {g : G} {r : Nat}

theorem from1_end : EndF (.func (.func F_flood_From_1) #[] #[]) A.t := by
 intro a h K hK
 refine callV_of (l := [.agg (encA a).toArray]) rfl (lk_flood_From_1 _ ?_)
 unfold sh_flood_From_1
 refine (Own.start h).box fun b h1 o1 => ?_
 simp only [pField_ptr]
 exact o1.load 0 rfl rfl (hK _ o1.ext)
theorem to1_end : EndF (.func (.func F_flood_To_1) #[] #[]) A.f := by
 intro a h K hK
 refine callV_of (l := [.agg (encA a).toArray]) rfl (lk_flood_To_1 _ ?_)
 unfold sh_flood_To_1
 refine (Own.start h).box fun b h1 o1 => ?_
 simp only [pField_ptr]
 exact o1.load 0 rfl rfl (hK _ o1.ext)

theorem farcs_iter {l4 n3 e5 : Nat} {vl endv : Value} {ids : List Nat} {head : A -> Nat} {T1 T2 T3 : TypeId} (hids : ∀ i ∈ ids, i < g.arcs.length) (hmany : ids.length < 2 ^ 40) (hE : EndF endv head) :
  Iter Tryz.prog (.func (.func F_flood_arcs_1) #[] #[ptr l4, ptr n3, ptr e5])
   (fun h => h[l4]? = some (.cells #[vl] T1 (0, 0)) /\ h[n3]? = some (.cells #[ptr r] T2 (0, 0)) /\ h[e5]? = some (.cells #[endv] T3 (0, 0)) /\ Vw encN 1 h vl ids /\ NetR h r g) ids.length
   (fun i hi => [I ids[i], vA ⟨0, head (arcAt g.arcs ids[i]), (arcAt g.arcs ids[i]).w⟩]) := by
 rintro yv h0 h Rs K J E ⟨l, rfl⟩ o j0 hQ hY hK
 refine callF_of (l := [yieldV l, ptr l4, ptr n3, ptr e5]) rfl (lk_flood_arcs_1 _ _ _ _ ?_)
 unfold sh_flood_arcs_1
 obtain ⟨hb, _, _, hv, _⟩ := hQ _ _ _ j0 o
 have hc : hcell h ⟨l4, 0, none⟩ = some vl := hcell_of hb rfl
 simp only [pLoad_ptr, hc]
 refine hv.len ?_
 refine LoopH_count ids.length (fun i x h' => x.1 = I i /\ ∃ Rs', J i Rs' /\ Own h0 h' Rs') ⟨rfl, Rs, j0, o⟩ ?_
 rintro i ⟨x, ⟨⟩⟩ h Z hi ⟨hx, Rs', hj, o⟩ hZ
 dsimp only at hx hZ ⊢
 subst hx
 unfold sh_flood_arcs_1_L1
 simp only [pBin_lss, ifV_dec]
 refine ⟨fun hlt => ?_, fun hge => ?_⟩
 ·have hlt : i < ids.length := by omega
  obtain ⟨_, hn, he, hv, hN⟩ := hQ _ _ _ hj o
  refine hv.at1 (e := fun x : Nat => I x) (fun _ => rfl) hlt ?_
  have hc : hcell h ⟨n3, 0, none⟩ = some (ptr r) := hcell_of hn rfl
  simp only [pLoad_ptr, hc]
  have hil := hids _ (List.getElem_mem hlt)
  refine arc_ok hN hil fun h1 x1 => ?_
  have ea : arcAt g.arcs ids[i] = g.arcs[ids[i]] := by simp [arcAt, hil]
  have o1 := o.more x1
  simp only [pExt0, pExt1]
  refine o1.box fun b h2 o2 => o2.st 0 rfl rfl rfl rfl rfl (encA_plain _) fun h3 o3 => ?_
  obtain ⟨_, _, he3, _, _⟩ := hQ _ _ _ hj o3.tail
  have hc : hcell h3 ⟨e5, 0, none⟩ = some endv := hcell_of he3 rfl
  simp only [pLoad_ptr, hc, pField_ptr]
  refine o3.ldN 0 rfl rfl rfl ?_
  have hl := fun {K} (hk : K (I (g.arcs[ids[i]]).w)) => o3.load (off := 2) (K := K) 0 rfl rfl hk
  simp only [pLoad_ptr] at hl
  refine hl (hE _ _ _ fun h4 x4 => ?_)
  have o4 := o3.more x4
  refine ⟨o4.load 0 rfl rfl rfl, sizesOk_of rfl, ?_⟩
  rw [<- ea]
  refine hY i _ (i + 1) Rs' [] h4 _ ⟨⟨hlt, rfl⟩, rfl⟩ hj o4.tail.nilTail (fun Rs'' h'' hj' o' => ?_) fun Rs'' h'' he o' => ?_
  ·rw [pUn_not, Bool.not_true, ifV_false, pBin_add, wI i (by omega)]
   exact hZ (I (i + 1 : Nat), ()) h'' hlt ⟨rfl, Rs'', hj', o'.toNil⟩
  ·rw [pUn_not, Bool.not_false, ifV_true]
   exact hK _ _ (.inr he) o'.toNil
 ·have : i = ids.length := by omega
  exact hK _ _ (.inl ⟨i, this, hj⟩) o

def clo (order : List Nat) : Int -> Option Value := fun k => if order.any (fun v => (v : Int) == k) then some (I 1) else none
theorem clo_in {order : List Nat} {v : Nat} (h : v ∈ order) : clo order v = some (I 1) := by
 have : order.any (fun u => (u : Int) == (v : Int)) = true := List.any_eq_true.2 ⟨v, h, by simp⟩
 simp [clo, this]
theorem clo_out {order : List Nat} {v : Nat} (h : v ∉ order) : clo order v = none := by
 have : order.any (fun u => (u : Int) == (v : Int)) = false := by
  simp only [List.any_eq_false, beq_iff_eq]
  intro u hu e
  have : u = v := by omega
  exact h (this ▸ hu)
 simp [clo, this]
theorem clo_add {order : List Nat} {v : Nat} (x : Int) : clo (order ++ [v]) x = fset (clo order) v (I 1) x := by
 unfold fset
 by_cases h : x = v
 ·subst h; rw [if_pos rfl, clo_in (by simp)]
 ·rw [if_neg h]
  have : ((v : Int) == x) = false := by simpa using fun e => h e.symm
  simp [clo, this]

theorem set_set_same {α : Type} {l : List α} {i j : Nat} {a b : α} (hi : l[i]? = some a) (hj : l[j]? = some b) : (l.set i a).set j b = l := by
 have e1 : l.set i a = l := by
  apply List.ext_getElem?
  intro k
  by_cases e : i = k
  ·subst e; rw [List.getElem?_set_self (List.getElem?_eq_some_iff.1 hi).1, hi]
  ·rw [List.getElem?_set_ne e]
 rw [e1]
 apply List.ext_getElem?
 intro k
 by_cases e : j = k
 ·subst e; rw [List.getElem?_set_self (List.getElem?_eq_some_iff.1 hj).1, hj]
 ·rw [List.getElem?_set_ne e]

theorem reach_ok {rr hp n m : Nat} {F : Nat -> Prop} {sd sa so : Value} {s : FS} {B : Int} {v a : Nat} {d : Int} (o : Own h0 h L) (i1 i2 i3 i4 : Nat)
  (h1 : L[i1]? = some (cellR rr [ptr hp, sd, sa, so, .map (some m)] T_flood_run)) (h2 : L[i2]? = some (hpR F hp s.hp n)) (h3 : L[i3]? = some (slR encI 1 T_int sa s.arc)) (h4 : L[i4]? = some (mapR m (clo s.order)))
  (n12 : i2 ≠ i1) (n23 : i2 ≠ i3) (n24 : i2 ≠ i4) (inv : FInv n B s) (hn : n <= 16777216) (hv : v < n)
  (hK : ∀ F' h', Own h0 h' ((L.set i2 (hpR F' hp (s.reach v a d).hp n)).set i3 (slR encI 1 T_int sa (s.reach v a d).arc)) -> K (.tuple #[]) h') :
  callS Tryz.prog F_flood_run_reach [ptr rr, I v, I a, I d] h K := by
 refine callS_of (lk_flood_run_reach _ _ _ _ ?_)
 unfold sh_flood_run_reach
 simp only [pNil_ptr, pField_ptr]
 refine o.load i1 h1 rfl (ho_key o i2 h2 ?_)
 simp only [pExt0, pExt1]
 refine o.load i1 h1 rfl ?_
 refine o.look i4 h4 ?_
 simp only [Bool.false_eq_true, if_false]
 have hlen : s.hp.length <= n := by
  have : (s.hp.map (·.1.toNat)).length <= n := nodup_le (by
   have : s.hp.map (·.1.toNat) = (s.hp.map (·.1)).map Int.toNat := by simp
   rw [this, List.nodup_iff_pairwise_ne, List.pairwise_map]
   refine (List.nodup_iff_pairwise_ne.1 inv.ids).imp_of_mem fun {x y} hx hy hne e => hne ?_
   obtain ⟨p, hp, rfl⟩ := List.mem_map.1 hx
   obtain ⟨q, hq, rfl⟩ := List.mem_map.1 hy
   obtain ⟨u, e1, _⟩ := inv.ent p hp
   obtain ⟨w, e2, _⟩ := inv.ent q hq
   rw [e1, e2] at e ⊢
   have e' : u = w := by simpa using e
   rw [e']) (fun x hx => by
   obtain ⟨p, hp, rfl⟩ := List.mem_map.1 hx
   obtain ⟨u, e1, e2, _⟩ := inv.ent p hp
   rw [e1]; simpa using e2)
  simpa using this
 by_cases hc : v ∈ s.order
 ·rw [clo_in hc]
  simp only [Option.getD_some]
  have : s.reach v a d = s := by simp [FS.reach, hc]
  rw [this, ] at hK
  have hk := fun h => hK F h
  rw [set_set_same h2 h3] at hk
  simpa using hk h o
 ·rw [clo_out hc]
  simp only [Option.getD_none, pBin_gtr, ifV_dec]
  refine ⟨fun e => by omega, fun _ => ?_⟩
  cases hl : lookH s.hp v with
  | some was =>
   simp only [Option.isSome_some, ifV_true, Option.getD_some, pBin_leq, ifV_dec]
   refine ⟨fun hle => ?_, fun hgt => ?_⟩
   ·have : s.reach v a d = s := by simp [FS.reach, hc, hl, hle]
    rw [this] at hK
    have hk := fun h => hK F h
    rw [set_set_same h2 h3] at hk
    exact hk h o
   ·unfold sh_flood_run_reach_k1 sh_flood_run_reach_k2
    simp only [ifV_true, pNil_ptr, pField_ptr]
    refine o.load i1 h1 rfl (ho_lower o i2 h2 (lookH_some hl) (by omega) fun F' h5 o5 => ?_)
    refine o5.load i1 (by rw [List.getElem?_set_ne n12]; exact h1) rfl ?_
    refine o5.setI (z := a) i3 (by rw [List.getElem?_set_ne n23]; exact h3) (by rw [inv.al]; exact hv) fun h6 o6 => ?_
    have : s.reach v a d = { s with hp := ((v : Int), d) :: s.hp.erase ((v : Int), was), arc := s.arc.set v a } := by simp [FS.reach, hc, hl, hgt]
    rw [this] at hK
    exact hK F' h6 o6
  | none =>
   simp only [Option.isSome_none, ifV_false]
   unfold sh_flood_run_reach_k1 sh_flood_run_reach_k2
   simp only [ifV_false, pNil_ptr, pField_ptr]
   refine o.load i1 h1 rfl (ho_push o i2 h2 (by omega) (lookH_none.1 hl) hv fun F' h5 o5 => ?_)
   refine o5.load i1 (by rw [List.getElem?_set_ne n12]; exact h1) rfl ?_
   refine o5.setI (z := a) i3 (by rw [List.getElem?_set_ne n23]; exact h3) (by rw [inv.al]; exact hv) fun h6 o6 => ?_
   have : s.reach v a d = { s with hp := ((v : Int), d) :: s.hp, arc := s.arc.set v a } := by simp [FS.reach, hc, hl]
   rw [this] at hK
   exact hK F' h6 o6

end
open Go Go.Mh

theorem scan_take {l : List A} {head : A -> Nat} {key : Int} {s : FS} {ids : List Nat} {i : Nat} (hi : i < ids.length) :
    s.scan l head key (ids.take (i + 1)) = (s.scan l head key (ids.take i)).reach (head (arcAt l ids[i])) ids[i] (key + (arcAt l ids[i]).w) := by
  unfold FS.scan
  rw [List.take_succ_eq_append_getElem hi, List.foldl_append]; rfl

section
variable {h0 h : Heap} {L : List Res} {K : Value -> Heap -> Prop} {g : G} {r : Nat} {outs : Nat -> List Nat} {head : A -> Nat} {nextv endv : Value}

def NextF (nextv : Value) (g : G) (r : Nat) (outs : Nat -> List Nat) : Prop :=
  ∀ (h0 h : Heap) (L : List Res) (K : Value -> Heap -> Prop) (v : Nat), v < g.n -> NetR h r g -> Own h0 h L -> (∀ v' h', Own h0 h' (slR encN 1 T_int v' (outs v) :: L) -> K v' h') -> callV Tryz.prog nextv [I v].toArray h K

theorem out_next (hR : g.Right) : NextF (.func (.func F_net_Net_Out) #[ptr r] #[]) g r g.out := by
  intro h0 h L K v hv H o hK
  refine callV_of (l := [ptr r, I v]) rfl ?_
  have := outI_ok (z := v) o hR H (K := K) (by rw [if_pos (by omega)]; exact hK)
  simpa [callS, callV] using this
theorem in_next (hR : g.Right) : NextF (.func (.func F_net_Net_In) #[ptr r] #[]) g r g.in := by
  intro h0 h L K v hv H o hK
  refine callV_of (l := [ptr r, I v]) rfl ?_
  have := inI_ok (z := v) o hR H (K := K) (by rw [if_pos (by omega)]; exact hK)
  simpa [callS, callV] using this

abbrev runL (r9 rr m hp t8 n : Nat) (sd sa : Value) (kb : Nat) (key : Int) (F : Nat -> Prop) (H : List HE) (so : Value) (st : FS) (mm : List Nat) : List Res :=
  [cellR kb [I key] T_int64, cellR r9 [ptr rr] T_p_flood_run, cellR rr [ptr hp, sd, sa, so, .map (some m)] T_flood_run, hpR F hp H n, slR encI 1 T_int sa st.arc, mapR m (clo st.order), xR sd st.dist, slR encN 1 T_int so st.order,
    cellR t8 [sl0, sl0, sl0] T_flood_Tree, marksR mm]

theorem flood_loop {r9 rr m hp t8 : Nat} {sd sa : Value} {fin : FS} {h' : Heap} {x : List Nat × Vals [10, 11, 12]} (hR : g.Right) (H : NetR h r g) (hN : NextF nextv g r outs) (hE : EndF endv head) (hev : endv.cells = #[endv]) (hhead : ∀ a ∈ g.arcs, head a < g.n)
    (hout : ∀ v, v < g.n -> ∀ i ∈ outs v, i < g.arcs.length) (hol : ∀ v, (outs v).length <= g.arcs.length)
    (hK : ∀ so h', Own h h' [xR sd fin.dist, slR encI 1 T_int sa fin.arc, slR encN 1 T_int so fin.order] -> K (.agg #[sd, sa, so]) h')
    (J : ∃ (st : FS) (kb : Nat) (key : Int) (so : Value) (F : Nat -> Prop) (H : List HE), x.2.2.1 = ptr kb /\ FS.run g.arcs outs head (g.n + 1 - st.order.length) st = fin /\ FInv g.n (st.order.length * W) st /\
      ((least st.hp = none /\ x.2.2.2.1 = .bool false) \/ ∃ p, least st.hp = some p /\ x.2.1 = I p.1 /\ key = p.2 /\ x.2.2.2.1 = .bool true /\ H = st.hp.erase p) /\ Own h h' (runL r9 rr m hp t8 g.n sd sa kb key F H so st x.1)) :
    LoopH (σ := List Nat × Vals [10, 11, 12]) (fun x hh ZZ => sh_flood_flood_L2 Tryz.prog (ptr r9) nextv (ptr r) endv (ptr t8) K x.1 x.2.1 x.2.2.1 x.2.2.2.1 hh (fun mz a0 a1 a2 hz => ZZ (mz, (a0, (a1, (a2, ())))) hz)) x h' := by
  have hmost := hR.most
  have hmany := hR.many
  obtain ⟨st0, J⟩ := J
  refine LoopH_down (k0 := g.n + 1 - st0.order.length) (fun k x h' => ∃ (st : FS) (kb : Nat) (key : Int) (so : Value) (F : Nat -> Prop) (H : List HE), k = g.n + 1 - st.order.length /\ x.2.2.1 = ptr kb /\ FS.run g.arcs outs head (g.n + 1 - st.order.length) st = fin /\ FInv g.n (st.order.length * W) st /\
      ((least st.hp = none /\ x.2.2.2.1 = .bool false) \/ ∃ p, least st.hp = some p /\ x.2.1 = I p.1 /\ key = p.2 /\ x.2.2.2.1 = .bool true /\ H = st.hp.erase p) /\ Own h h' (runL r9 rr m hp t8 g.n sd sa kb key F H so st x.1))
    (by obtain ⟨kb, key, so, F, H, J⟩ := J; exact ⟨st0, kb, key, so, F, H, rfl, J⟩) ?_
  clear J st0 h' x
  rintro k ⟨mm, v, kv, is, ⟨⟩⟩ h' Z ⟨st, kb, key, so, F, Hp, hk, hkb, hrun, inv, hcase, o⟩ hZ
  dsimp only at hkb hcase o hZ ⊢
  subst hkb
  unfold sh_flood_flood_L2
  simp only [pNil_ptr, pField_ptr]
  rcases hcase with ⟨hl, rfl⟩ | ⟨p, hl, rfl, rfl, rfl, rfl⟩
  · rw [ifV_false]
    have hf : st = fin := by
      rw [<- hrun]
      cases g.n + 1 - st.order.length with
      | zero => rfl
      | succ k => simp only [FS.run, hl]
    subst hf
    refine o.load 1 rfl rfl ?_
    simp only [pNil_ptr, pField_ptr]
    refine o.ldN 2 rfl rfl rfl ?_
    refine o.st 8 rfl rfl rfl rfl rfl ?_ fun h2 o2 => ?_
    · intro u hu
      simp at hu
      rcases hu with rfl | rfl | rfl
      · exact (o.vw 6 rfl).plain
      · exact (o.vw 4 rfl).plain
      · exact (o.vw 7 rfl).plain
    · refine o2.take 9 rfl fun h3 o3 => ?_
      exact o3.ldN 8 rfl rfl rfl (hK so h3 (o3.sel [6, 4, 7] (by decide)))
  · rw [ifV_true]
    have hm := (least_spec hl).1
    obtain ⟨u, hu, hun, hno, hk0, hkB⟩ := inv.ent p hm
    obtain ⟨pv, key⟩ := p
    dsimp only at hu hk0 hkB o ⊢
    subst hu
    have hroom := inv.room (by intro e; rw [e] at hm; cases hm)
    have hB : (st.order.length : Int) * W + W <= 16777216 * W := by
      have : (st.order.length : Int) + 1 <= 16777216 := by omega
      have := Int.mul_le_mul_of_nonneg_right this (show (0 : Int) <= W by decide)
      rw [Int.add_mul, Int.one_mul] at this
      exact this
    refine o.load 1 rfl rfl ?_
    simp only [pNil_ptr, pField_ptr]
    refine o.load 2 rfl rfl ?_
    refine o.look 5 rfl ?_
    rw [clo_out hno]
    simp only [Bool.false_eq_true, if_false, Option.getD_none, pBin_add]
    rw [show IntKind.i64.wrap (0 + 1) = 1 from rfl]
    refine o.mapPut (f' := clo (st.order ++ [u])) 5 rfl clo_add fun h1 o1 => ?_
    refine o1.load 1 rfl rfl ?_
    simp only [pNil_ptr, pField_ptr]
    refine o1.load 2 rfl rfl (o1.load 0 rfl rfl ?_)
    refine o1.setI 6 rfl (by rw [inv.dl]; exact hun) fun h2 o2 => ?_
    refine o2.load 1 rfl rfl (o2.load 1 rfl rfl ?_)
    simp only [pNil_ptr, pField_ptr]
    refine o2.load 2 rfl rfl ?_
    refine o2.app1 7 u rfl rfl (sizesOk_of rfl) encN_len encN_plain rfl (by decide) (by omega) fun so1 h3 o3 => ⟨o3.load 1 rfl rfl rfl, ?_⟩
    refine o3.st1 2 rfl rfl rfl (o3.vw 7 rfl).one (o3.vw 7 rfl).plain fun h4 o4 => ?_
    refine hN _ _ _ _ u hun (H.more o4.ext) o4 fun vl h5 o5 => ?_
    refine callS_of (lk_flood_arcs _ _ _ ?_)
    unfold sh_flood_arcs
    refine o5.box fun n3 h6 o6 => o6.box fun l4 h7 o7 => o7.box fun e5 h8 o8 => ?_
    have hvl := o5.vw 0 rfl
    obtain ⟨st1, hst1⟩ : ∃ st1, st1 = st.pop u key := ⟨_, rfl⟩
    have hW : (0 : Int) <= W := by decide
    have inv1 : FInv g.n (st.order.length * W + W) st1 := by subst hst1; exact (inv.popped hm).mono (by omega)
    have hord : st1.order.length = st.order.length + 1 := by subst hst1; simp [FS.pop]
    have hids := hout u hun
    have hscan : ∀ i, FInv g.n (st.order.length * W + W) (st1.scan g.arcs head key ((outs u).take i)) := fun i =>
      FInv.scan (fun a ha => ⟨hhead a ha, by have := (hR.ends a ha).2.2; show (a.w : Int) <= 2147483647; omega⟩) hk0 (by omega) (fun j hj => hids j (List.mem_of_mem_take hj)) inv1
    have L0 : Own h h8 (cellR e5 endv.cells.toList T_func_api_Arc_int :: cellR l4 vl.cells.toList T_sl_int :: cellR n3 [ptr r] T_p_net_Net :: slR encN 1 T_int vl (outs u) :: runL r9 rr m hp t8 g.n sd sa kb key F (st1.scan g.arcs head key ((outs u).take 0)).hp so1 (st1.scan g.arcs head key ((outs u).take 0)) mm) := by
      subst hst1; exact o8
    refine L0.range (farcs_iter (r := r) (T1 := T_sl_int) (T2 := T_p_net_Net) (T3 := T_func_api_Arc_int) (vl := vl) hids (by have := hol u; omega) hE) (fun i x i' ⟨⟨hi, e⟩, _⟩ => by rw [e]; rfl)
      (fun i Rs => ∃ F, Rs = cellR e5 endv.cells.toList T_func_api_Arc_int :: cellR l4 vl.cells.toList T_sl_int :: cellR n3 [ptr r] T_p_net_Net :: slR encN 1 T_int vl (outs u) :: runL r9 rr m hp t8 g.n sd sa kb key F (st1.scan g.arcs head key ((outs u).take i)).hp so1 (st1.scan g.arcs head key ((outs u).take i)) mm)
      (fun _ => False) (fun _ _ => False) ⟨F, rfl⟩ ?_ ?_ ?_ (fun _ _ h => h.elim) (fun _ _ _ h => h.elim)
    · rintro i Rs' h' ⟨F, rfl⟩ o'
      refine ⟨?_, o'.get 2 rfl, ?_, o'.vw 3 rfl, H.more o'.ext⟩
      · have := o'.get 1 rfl
        rw [show vl.cells.toList = [vl] by rw [hvl.one]] at this
        exact this
      · have := o'.get 0 rfl
        rw [show endv.cells.toList = [endv] by rw [hev]] at this
        exact this
    · rintro M i x i' Rs' Pr h9 R ⟨⟨hi, rfl⟩, rfl⟩ ⟨F, rfl⟩ o9 hN' _ _
      dsimp only [valsOf]
      unfold sh_flood_flood_B3
      refine o9.box fun a14 h10 o10 => o10.st 0 rfl rfl rfl rfl rfl (encA_plain _) fun h11 o11 => ?_
      refine o11.begin 1 rfl fun h12 o12 => ?_
      refine o12.load 8 rfl rfl ?_
      simp only [pField_ptr]
      refine o12.load 0 rfl rfl (o12.load 7 rfl rfl (o12.load 0 rfl rfl ?_))
      have hil := hids _ (List.getElem_mem hi)
      have ha : arcAt g.arcs (outs u)[i] ∈ g.arcs := by simp [arcAt, hil]
      have hw := (hR.ends _ ha).2.2
      have e1 : IntKind.i64.wrap (key + ((arcAt g.arcs (outs u)[i]).w : Int)) = key + (arcAt g.arcs (outs u)[i]).w := by
        have hW2 : (16777216 : Int) * W <= 2 ^ 62 := by decide
        exact w64 (by omega) (by have : (W : Int) = 2147483647 := rfl
                                 omega)
      rw [pBin_add, e1]
      refine reach_ok o12 9 10 11 12 rfl rfl rfl rfl (by decide) (by decide) (by decide) (hscan i) hmost (hhead _ ha) fun F' h13 o13 => ?_
      refine hN' _ _ ⟨F', rfl⟩ ?_
      have hsc := scan_take (l := g.arcs) (head := head) (key := key) (s := st1) hi
      have hro := @reach_order (st1.scan g.arcs head key ((outs u).take i)) (head (arcAt g.arcs (outs u)[i])) (outs u)[i] (key + (arcAt g.arcs (outs u)[i]).w)
      rw [<- hsc] at hro
      have := o13.tail
      rw [<- hsc] at this
      simp only [runL, hro.1, hro.2]
      exact this
    · rintro i h9 Rs' rfl ⟨F', rfl⟩ o9
      rw [List.take_length] at o9
      have hso := @scan_order g.arcs head key (outs u) st1
      refine o9.load 5 rfl rfl (o9.box fun kb2 h10 o10 => ?_)
      refine o10.st1 0 rfl rfl rfl rfl rfl fun h11 o11 => ?_
      refine o11.load 7 rfl rfl ?_
      simp only [pNil_ptr, pField_ptr]
      refine o11.load 8 rfl rfl ?_
      have inv2 : FInv g.n ((st1.scan g.arcs head key (outs u)).order.length * W) (st1.scan g.arcs head key (outs u)) := by
        have := hscan (outs u).length
        rw [List.take_length] at this
        refine this.mono ?_
        rw [hso.1, hord]
        have : ((st.order.length + 1 : Nat) : Int) * W = st.order.length * W + W := by
          rw [Int.natCast_add, Int.add_mul]; rfl
        omega
      have hrun2 : FS.run g.arcs outs head (g.n + 1 - (st1.scan g.arcs head key (outs u)).order.length) (st1.scan g.arcs head key (outs u)) = fin := by
        rw [<- hrun, hso.1, hord]
        rw [show g.n + 1 - st.order.length = (g.n + 1 - (st.order.length + 1)) + 1 by omega]
        simp only [FS.run, hl, Int.toNat_natCast]
        rw [<- hst1]
      have mark := fun {h'' : Heap} {A B : Res} {C : List Res} (o : Own h h'' (A :: B :: C)) => o
      refine ho_pop o11 9 rfl (fun hl2 h12 o12 => ?_) fun p hl2 F2 h12 o12 => ?_
      · simp only [pExt0, pExt1, pExt2]
        refine o12.st1 0 rfl rfl rfl rfl rfl fun h13 o13 => ?_
        have o14 := (o13.swap).addMark 14 rfl
        refine hZ (_ :: mm, (I 0, (ptr kb2, (.bool false, ())))) h13 _ (by rw [hso.1, hord]; omega) ⟨st1.scan g.arcs head key (outs u), kb2, 0, so1, F', (st1.scan g.arcs head key (outs u)).hp, rfl, rfl, hrun2, inv2, .inl ⟨hl2, rfl⟩, ?_⟩
        exact o14.sel [0, 6, 7, 8, 9, 10, 11, 12, 13, 14] (by decide)
      · simp only [pExt0, pExt1, pExt2]
        refine o12.st1 0 rfl rfl rfl rfl rfl fun h13 o13 => ?_
        have o14 := (o13.swap).addMark 14 rfl
        refine hZ (_ :: mm, (I p.1, (ptr kb2, (.bool true, ())))) h13 _ (by rw [hso.1, hord]; omega) ⟨st1.scan g.arcs head key (outs u), kb2, p.2, so1, F2, (st1.scan g.arcs head key (outs u)).hp.erase p, rfl, rfl, hrun2, inv2, .inr ⟨p, hl2, rfl, rfl, rfl, rfl⟩, ?_⟩
        exact o14.sel [0, 6, 7, 8, 9, 10, 11, 12, 13, 14] (by decide)

end
open Go Go.Mh

section
variable {h0 h : Heap} {L : List Res} {K : Value -> Heap -> Prop} {g : G} {r : Nat} {outs : Nat -> List Nat} {head : A -> Nat} {nextv endv : Value}

def TreeK (h : Heap) (t : Tr) (K : Value -> Heap -> Prop) : Prop :=
 ∀ sd sa so h', Own h h' [xR sd t.dist, slR encI 1 T_int sa t.arc, slR encN 1 T_int so t.order] -> K (.agg #[sd, sa, so]) h'

theorem flood_none {s : Int} {rv : Value} (hs : rv = .pointer none \/ (rv = ptr r /\ NetR h r g /\ ¬ (0 <= s /\ s < g.n))) (hK : TreeK h .none K) : callS Tryz.prog F_flood_flood [rv, I s, nextv, endv] h K := by
 refine callS_of (lk_flood_flood _ _ _ _ ?_)
 unfold sh_flood_flood sh_flood_flood_k1
 refine (Own.start h).box fun t8 h1 o1 => ?_
 have none : ∀ {h2 : Heap}, Own h h2 [cellR t8 [sl0, sl0, sl0] T_flood_Tree] -> pBuild [(.slice none 0 0), (.slice none 0 0), (.slice none 0 0)] [] fun t27 => pStore 3 (ptr t8) t27 h2 fun u h_3 => pLoadN 3 h_3 (ptr t8) fun res => K res h_3 := fun o2 =>
  ⟨trivial, o2.st (cs' := [sl0, sl0, sl0]) 0 rfl (l := [sl0, sl0, sl0]) rfl rfl rfl rfl (by simp) fun h3 o3 => o3.ldN 0 rfl rfl rfl (hK sl0 sl0 sl0 h3 ((o3.nilS.nilS.nilS).sel [0, 1, 2] (by decide)))⟩
 rcases hs with rfl | ⟨rfl, H, hs⟩
 ·simp only [pEq_ptr_nil, Option.isNone_none, ifV_true]
  exact none o1
 ·simp only [pEq_ptr_nil, Option.isNone_some, ifV_false, pBin_lss, ifV_dec]
  refine ⟨fun _ => none o1, fun e => nodes_ok (H.more o1.ext) ?_⟩
  simp only [pBin_geq, ifV_dec]
  exact ⟨fun _ => none o1, fun e' => by omega⟩

theorem flood_ok {s : Nat} (hR : g.Right) (H : NetR h r g) (hs : s < g.n) (hN : NextF nextv g r outs) (hE : EndF endv head) (hev : endv.cells = #[endv]) (hhead : ∀ a ∈ g.arcs, head a < g.n)
  (hout : ∀ v, v < g.n -> ∀ i ∈ outs v, i < g.arcs.length) (hol : ∀ v, (outs v).length <= g.arcs.length) (hK : TreeK h (floodP g.arcs g.n outs head s) K) : callS Tryz.prog F_flood_flood [ptr r, I s, nextv, endv] h K := by
 have hmost := hR.most
 refine callS_of (lk_flood_flood _ _ _ _ ?_)
 unfold sh_flood_flood
 refine (Own.start h).box fun t8 h1 o1 => ?_
 simp only [pEq_ptr_nil, Option.isNone_some, ifV_false, pBin_lss, ifV_dec]
 refine ⟨fun e => by omega, fun _ => nodes_ok (H.more o1.ext) ?_⟩
 simp only [pBin_geq, ifV_dec]
 refine ⟨fun e => by omega, fun _ => nodes_ok (H.more o1.ext) (ho_new o1 fun F hp h2 o2 => ?_)⟩
 refine o2.build (enc := encI) (n := 1) [far] rfl (sizesOk_of rfl) rfl fun wf h3 o3 => nodes_ok (H.more o3.ext) ?_
 refine repeat_int64 o3 (o3.vw 0 rfl) hmost fun sd h4 o4 => ?_
 refine o4.build (enc := encI) (n := 1) [-1] rfl (sizesOk_of rfl) rfl fun wm h5 o5 => nodes_ok (H.more o5.ext) ?_
 refine repeat_int o5 (o5.vw 0 rfl) hmost fun sa h6 o6 => ⟨sizesOk_of (by
  obtain ⟨b, c, e⟩ := (o6.vw 0 rfl).isSl
  obtain ⟨b', c', e'⟩ := (o6.vw 2 rfl).isSl
  subst e e'; rfl), ?_⟩
 have ead : sa.cells = #[sa] /\ sd.cells = #[sd] := ⟨(o6.vw 0 rfl).one, (o6.vw 2 rfl).one⟩
 refine o6.mkMap fun m h7 o7 => ?_
 obtain ⟨ba, ca, ea⟩ := (o7.vw 1 rfl).isSl
 obtain ⟨bd, cd, ed⟩ := (o7.vw 3 rfl).isSl
 refine ⟨sizesOk_of (by subst ea ed; rfl), o7.box fun rr h8 o8 => o8.box fun r9 h9 o9 => o9.st1 0 rfl rfl rfl rfl rfl fun h10 o10 => ?_⟩
 have o11 : Own h h10 (cellR r9 [ptr rr] T_p_flood_run :: cellR rr [ptr hp, sd, sa, sl0, .map (some m)] T_flood_run :: mapR m (fun _ => none) :: slR encI 1 T_int sa (List.replicate g.n (-1)) :: slR encI 1 T_int wm [-1] :: xR sd (List.replicate g.n far) :: xR wf [far] :: hpR F hp [] g.n :: [cellR t8 [sl0, sl0, sl0] T_flood_Tree]) := by
  subst ea ed; exact o10
 clear o10 o9 o8 o7 o6
 refine o11.load 0 rfl rfl ?_
 simp only [pNil_ptr, pField_ptr]
 refine o11.load 1 rfl rfl (ho_push o11 7 rfl (by simp) (by simp) hs fun F1 h12 o12 => ?_)
 refine o12.load 0 rfl rfl ?_
 simp only [pNil_ptr, pField_ptr]
 refine o12.load 1 rfl rfl ?_
 refine ho_pop o12 7 rfl (fun e => by simp [least] at e) fun p hp' F2 h13 o13 => ?_
 have hp2 : p = ((s : Int), 0) := by simpa [least] using hp'.symm
 subst hp2
 simp only [pExt0, pExt1, pExt2]
 refine o13.box fun kb h14 o14 => o14.st1 0 rfl rfl rfl rfl rfl fun h15 o15 => ?_
 have o16 := (o15.noMarks).nilS (enc := encN) (n := 1) (T := T_int)
 refine flood_loop (fin := FS.run g.arcs outs head (g.n + 1) (FS.start g.n s)) (m := m) (sd := sd) (sa := sa) (rr := rr) (hp := hp) hR H hN hE hev hhead hout hol (fun so h' o' => hK sd sa so h' o') ?_
 refine ⟨FS.start g.n s, kb, 0, sl0, F2, _, rfl, rfl, (FInv.start hs).mono (by simp [FS.start]), .inr ⟨((s : Int), 0), hp', rfl, rfl, rfl, rfl⟩, ?_⟩
 have e : (fun _ => none : Int -> Option Value) = clo (FS.start g.n s).order := by funext x; simp [clo, FS.start]
 have o17 := o16.sel [2, 3, 4, 10, 6, 5, 8, 0, 11, 1] (by decide)
 dsimp only [List.map, List.getD] at o17
 rw [e] at o17
 exact o17

end
open Go Go.Mh

section
variable {h0 h : Heap} {L : List Res} {K : Value -> Heap -> Prop} {g : G} {r : Nat} {s : Int}

theorem out_lt {g : G} {v i : Nat} (h : i ∈ g.out v) : i < g.arcs.length := by
 have := (outsP_mem.1 h).2.1; omega
theorem in_lt {g : G} {v i : Nat} (h : i ∈ g.in v) : i < g.arcs.length := by
 have := (outsP_mem.1 h).2.1; omega

theorem from_ok (hR : g.Right) (H : NetR h r g) (hK : TreeK h (g.fromI s) K) : callS Tryz.prog F_flood_From [ptr r, I s] h K := by
 refine callS_of (lk_flood_From _ _ ?_)
 unfold sh_flood_From
 refine (Own.start h).box fun t4 h1 o1 => ?_
 have fin : TreeK h1 (g.fromI s) fun t9 h_2 => pStore 3 (ptr t4) t9 h_2 fun u h_3 => pLoadN 3 h_3 (ptr t4) fun res => K res h_3 := by
  intro sd sa so h2 o2
  have o3 := o1.frame o2
  refine o3.st 3 rfl rfl rfl rfl rfl ?_ fun h3 o4 => o4.ldN 3 rfl rfl rfl (hK sd sa so h3 (o4.sel [0, 1, 2] (by decide)))
  intro u hu
  simp at hu
  rcases hu with rfl | rfl | rfl
  ·exact (o3.vw 0 rfl).plain
  ·exact (o3.vw 1 rfl).plain
  ·exact (o3.vw 2 rfl).plain
 unfold G.fromI at fin
 split at fin <;> rename_i hs
 ·obtain ⟨s, rfl⟩ := Int.eq_ofNat_of_zero_le hs.1
  exact flood_ok hR (H.more o1.ext) (by omega) (out_next hR) from1_end rfl (fun a ha => (hR.ends a ha).2.1) (fun v _ i => out_lt) (fun v => outsP_short) fin
 ·exact flood_none (g := g) (.inr ⟨rfl, H.more o1.ext, hs⟩) fin

theorem to_ok (hR : g.Right) (H : NetR h r g) (hK : TreeK h (g.toI s) K) : callS Tryz.prog F_flood_To [ptr r, I s] h K := by
 refine callS_of (lk_flood_To _ _ ?_)
 unfold sh_flood_To
 refine (Own.start h).box fun t4 h1 o1 => ?_
 have fin : TreeK h1 (g.toI s) fun t9 h_2 => pStore 3 (ptr t4) t9 h_2 fun u h_3 => pLoadN 3 h_3 (ptr t4) fun res => K res h_3 := by
  intro sd sa so h2 o2
  have o3 := o1.frame o2
  refine o3.st 3 rfl rfl rfl rfl rfl ?_ fun h3 o4 => o4.ldN 3 rfl rfl rfl (hK sd sa so h3 (o4.sel [0, 1, 2] (by decide)))
  intro u hu
  simp at hu
  rcases hu with rfl | rfl | rfl
  ·exact (o3.vw 0 rfl).plain
  ·exact (o3.vw 1 rfl).plain
  ·exact (o3.vw 2 rfl).plain
 unfold G.toI at fin
 split at fin <;> rename_i hs
 ·obtain ⟨s, rfl⟩ := Int.eq_ofNat_of_zero_le hs.1
  exact flood_ok hR (H.more o1.ext) (by omega) (in_next hR) to1_end rfl (fun a ha => (hR.ends a ha).1) (fun v _ i => in_lt) (fun v => outsP_short) fin
 ·exact flood_none (g := g) (.inr ⟨rfl, H.more o1.ext, hs⟩) fin

end
open Go Go.Mh

section
variable {h0 h : Heap} {L : List Res} {K : Value -> Heap -> Prop} {g : G} {r v d : Nat} {vl : Value}

theorem getD_at {α : Type} {l : List α} {i : Nat} {a : α} (h : i < l.length) : l.getD i a = l[i] := by
 rw [List.getD_eq_getElem?_getD, List.getElem?_eq_getElem h]; rfl

theorem one64_ok {l : List Int} (H : Vw encI 1 h vl l) (hv : v < l.length) (hK : K (.tuple #[I (l.getD v 0), .bool true]) h) : callS Tryz.prog F_net_one_int64 [vl, I v] h K := by
 refine callS_of (lk_net_one_int64 _ _ ?_)
 unfold sh_net_one_int64
 rw [pBin_lss, decide_eq_false (by omega), ifV_false]
 refine H.len ?_
 rw [pBin_geq, decide_eq_false (by omega), ifV_false]
 refine H.atI hv ?_
 rw [getD_at hv] at hK
 exact hK

theorem place_ok (hR : g.Right) (H : NetR h r g) (hv : v < g.n) (hK : K (.tuple #[I (g.X.getD v 0), I (g.Y.getD v 0), .bool true]) h) : callS Tryz.prog F_net_Net_Place [ptr r, I v] h K := by
 obtain ⟨vx, vy, va, vo, vi, hr, HL, ho, hi⟩ := H
 refine callS_of (lk_net_Net_Place _ _ ?_)
 unfold sh_net_Net_Place
 have c1 : hcell h ⟨r, 1, none⟩ = some vx := hcell_of hr rfl
 have c2 : hcell h ⟨r, 2, none⟩ = some vy := hcell_of hr rfl
 simp only [pEq_ptr_nil, Option.isNone_some, ifV_false, pNil_ptr, pField_ptr]
 refine pLoad_of rfl c1 (one64_ok HL.1 (by rw [hR.x]; exact hv) ?_)
 simp only [pExt0, pExt1]
 refine pLoad_of rfl c2 (one64_ok HL.2.1 (by rw [hR.y]; exact hv) ?_)
 simp only [pExt0, pExt1]
 exact hK

def dirF : Nat -> Value
 | 0 => .func (.func F_split_directions_1) #[] #[]
 | 1 => .func (.func F_split_directions_2) #[] #[]
 | 2 => .func (.func F_split_directions_3) #[] #[]
 | _ => .func (.func F_split_directions_4) #[] #[]
theorem dirF_one : (dirF d).cells = #[dirF d] := by
 unfold dirF; split <;> rfl
theorem dirF_plain : Mh.plainCell (dirF d) = true := by
 unfold dirF; split <;> rfl

theorem directions_ok (hK : ∀ h', Ext h h' -> K (.agg #[dirF 0, dirF 1, dirF 2, dirF 3]) h') : callS Tryz.prog F_split_directions [] h K := by
 refine callS_of (lk_split_directions ?_)
 unfold sh_split_directions
 refine (Own.start h).box fun t0 h1 o1 => ?_
 refine pBuild_ones (cs' := [dirF 0, dirF 1, dirF 2, dirF 3]) (fun p hp => by
  simp at hp
  rcases hp with rfl | rfl | rfl | rfl <;> rfl) rfl rfl ?_
 refine o1.st (l := [dirF 0, dirF 1, dirF 2, dirF 3]) (cs' := [dirF 0, dirF 1, dirF 2, dirF 3]) 0 rfl rfl rfl rfl rfl ?_ fun h2 o2 => o2.ldN (cs' := [dirF 0, dirF 1, dirF 2, dirF 3]) 0 rfl rfl rfl (hK h2 o2.ext)
 intro u hu
 simp at hu
 rcases hu with rfl | rfl | rfl | rfl <;> exact dirF_plain

theorem dirF_ok {x y : Int} (hd : d < 4) (hx : -2147483648 <= x /\ x <= 2147483647) (hy : -2147483648 <= y /\ y <= 2147483647) (hK : K (I (if d = 0 then x else if d = 1 then y else if d = 2 then x + y else x - y)) h) : callV Tryz.prog (dirF d) [I x, I y].toArray h K := by
 rcases (show d = 0 \/ d = 1 \/ d = 2 \/ d = 3 by omega) with rfl | rfl | rfl | rfl
 ·refine callV_of (l := [I x, I y]) rfl (lk_split_directions_1 _ _ ?_)
  exact hK
 ·refine callV_of (l := [I x, I y]) rfl (lk_split_directions_2 _ _ ?_)
  exact hK
 ·refine callV_of (l := [I x, I y]) rfl (lk_split_directions_3 _ _ ?_)
  unfold sh_split_directions_3
  rw [pBin_add, w64 (by omega) (by omega)]
  exact hK
 ·refine callV_of (l := [I x, I y]) rfl (lk_split_directions_4 _ _ ?_)
  unfold sh_split_directions_4
  rw [pBin_sub, w64 (by omega) (by omega)]
  exact hK

theorem rng_get {l : List Int} {n : Nat} (h : ∀ c ∈ l, -2147483648 <= c /\ c <= 2147483647) : -2147483648 <= l.getD n 0 /\ l.getD n 0 <= 2147483647 := by
 rw [List.getD_eq_getElem?_getD]
 cases e : l[n]? with
 | none => exact ⟨by decide, by decide⟩
 | some c => exact h c (List.mem_of_getElem? e)
theorem valG_rng (hR : g.Right) : -4294967296 <= valG g d v /\ valG g d v <= 4294967296 := by
 have hx := rng_get (n := v) hR.xr
 have hy := rng_get (n := v) hR.yr
 unfold valG
 split
 ·omega
 ·split
  ·omega
  ·split <;> omega

def alV (p2 tl : Nat) : Value := .func (.func F_split_parter_along_1) #[] #[ptr p2, ptr tl]

theorem along_ok {p : Nat} (o : Own h0 h L) (hd : d < 4) (hK : ∀ p2 tl h', Own h0 h' (cellR tl [dirF d] T_func_int64_int64_int64 :: cellR p2 [ptr p] T_p_split_parter :: L) -> Ext h h' -> K (alV p2 tl) h') : callS Tryz.prog F_split_parter_along [ptr p, I d] h K := by
 refine callS_of (lk_split_parter_along _ _ ?_)
 unfold sh_split_parter_along
 refine (Own.start h).box fun p2 h1 o1 => ?_
 have o1 : Own h h1 [cellR p2 [ptr p] T_p_split_parter] := o1
 refine directions_ok fun h2 x2 => ?_
 have o2 := o1.more x2
 refine ⟨by omega, by omega, ?_⟩
 have e : (#[dirF 0, dirF 1, dirF 2, dirF 3] : Array Value)[(d : Int).toNat]? = some (dirF d) := by
  rcases (show d = 0 \/ d = 1 \/ d = 2 \/ d = 3 by omega) with rfl | rfl | rfl | rfl <;> rfl
 rw [e]
 refine o2.box fun tl h3 o3 => o3.st1 0 (cs' := [dirF d]) rfl rfl rfl dirF_one dirF_plain fun h4 o4 => ?_
 exact hK p2 tl h4 (o.frame o4) o4.ext

theorem alongF_ok {p p2 tl : Nat} {pc : List Value} (o : Own h0 h L) (i j k : Nat) (hi : L[i]? = some (cellR tl [dirF d] T_func_int64_int64_int64)) (hj : L[j]? = some (cellR p2 [ptr p] T_p_split_parter)) (hk : L[k]? = some (cellR p (ptr r :: pc) T_split_parter)) (hR : g.Right) (hN : NetR h r g) (hd : d < 4) (hv : v < g.n)
  (hK : K (I (valG g d v)) h) : callV Tryz.prog (alV p2 tl) [I v].toArray h K := by
 refine callV_of (l := [I v, ptr p2, ptr tl]) rfl (lk_split_parter_along_1 _ _ _ ?_)
 unfold sh_split_parter_along_1
 refine o.load j hj rfl ?_
 simp only [pNil_ptr, pField_ptr]
 refine o.load k hk rfl ?_
 refine place_ok hR hN hv ?_
 simp only [pExt0, pExt1, pExt2]
 refine o.load i hi rfl ?_
 exact dirF_ok hd (rng_get hR.xr) (rng_get hR.yr) hK

theorem maxE {a b : Int} : (if b > a then b else a) = max a b := by split <;> omega
theorem minE2 {a b : Int} : (if b < a then b else a) = min a b := by split <;> omega

theorem spread_ok {fv : Value} {f : Nat -> Int} {l : List Nat} (Hl : Vw encN 1 h vl l) (hl : l.length < 2 ^ 40) (hr : ∀ x, -4294967296 <= f x /\ f x <= 4294967296) (hT : ∀ x ∈ l, ∀ K' : Value -> Heap -> Prop, K' (I (f x)) h -> callV Tryz.prog fv [I x].toArray h K') (hK : K (I (sprd f l)) h) :
  callS Tryz.prog F_split_spread_int [vl, fv] h K := by
 refine callS_of (lk_split_spread_int _ _ ?_)
 unfold sh_split_spread_int
 refine Hl.len ?_
 rw [pBin_eql, ifV_beq]
 refine ⟨fun e => ?_, fun e => ?_⟩
 ·have : l = [] := List.eq_nil_of_length_eq_zero (by omega)
  subst this
  exact hK
 ·have hpos : 0 < l.length := by omega
  refine Hl.at1 (e := fun (x : Nat) => I x) (fun _ => rfl) (i := 0) hpos ?_
  refine hT _ (List.getElem_mem hpos) _ (Hl.len ?_)
  refine LoopH_count l.length (fun i x h' => x.1 = I (leaF f (l.take i) (f l[0])) /\ x.2.1 = I (mosF f (l.take i) (f l[0])) /\ x.2.2.1 = I i /\ h' = h) ⟨rfl, rfl, rfl, rfl⟩ ?_
  rintro i ⟨x, y, z, ⟨⟩⟩ h' Z hi ⟨hx, hy, hz, rfl⟩ hZ
  dsimp only at hx hy hz hZ ⊢
  subst hx hy hz
  unfold sh_split_spread_int_L1
  rw [pBin_lss, ifV_dec]
  refine ⟨fun hlt => ?_, fun hge => ?_⟩
  ·have hlt : i < l.length := by omega
   have tk : l.take (i + 1) = l.take i ++ [l[i]] := List.take_succ_eq_append_getElem hlt
   refine Hl.at1 (e := fun (x : Nat) => I x) (fun _ => rfl) hlt ?_
   refine hT _ (List.getElem_mem hlt) _ ?_
   rw [pMin_int, minE2]
   refine hT _ (List.getElem_mem hlt) _ ?_
   rw [pMax_int, maxE, pBin_add, wI i (by omega)]
   exact hZ (_, _, _, ()) _ hlt ⟨by rw [tk, leaF_snoc], by rw [tk, mosF_snoc], rfl, rfl⟩
  ·have : i = l.length := by omega
   subst this
   rw [List.take_length]
   have e1 := (@leaF_le f l (f l[0])).1
   have e2 := (@mosF_ge f l (f l[0])).1
   have e3 := @leaF_ge f (-4294967296) l (f l[0]) (hr _).1 fun x _ => (hr x).1
   have e4 := @mosF_le f 4294967296 l (f l[0]) (hr _).2 fun x _ => (hr x).2
   rw [pBin_sub, w64 (by omega) (by omega)]
   have : sprd f l = mosF f l (f l[0]) - leaF f l (f l[0]) := by
    match l, hpos with
    | a :: l, _ => rfl
   rw [this] at hK
   exact hK

theorem pway_ok {p : Nat} {pc : List Value} {l : List Nat} (o : Own h0 h L) (k : Nat) (hk : L[k]? = some (cellR p (ptr r :: pc) T_split_parter)) (hR : g.Right) (hN : ∀ h', Ext h h' -> NetR h' r g) (Hl : Vw encN 1 h vl l) (hl : l.length < 2 ^ 40) (hln : ∀ x ∈ l, x < g.n)
  (hK : ∀ h', Own h0 h' L -> Ext h h' -> K (.tuple #[I (wayG g l).1, I (wayG g l).2]) h') : callS Tryz.prog F_split_parter_way [ptr p, vl] h K := by
 refine callS_of (lk_split_parter_way _ _ ?_)
 unfold sh_split_parter_way
 refine directions_ok fun h1 x1 => ?_
 refine LoopH_count 4 (fun i x h' => x.1 = I (wayB (fun d => sprd (valG g d) l) i).1 /\ x.2.1 = I (wayB (fun d => sprd (valG g d) l) i).2 /\ x.2.2.1 = I i /\ Own h0 h' L /\ Ext h h') ⟨rfl, rfl, rfl, o.more x1, x1⟩ ?_
 clear o
 rintro i ⟨x, y, z, ⟨⟩⟩ h2 Z hi ⟨hx, hy, hz, o, x2⟩ hZ
 dsimp only at hx hy hz hZ ⊢
 subst hx hy hz
 unfold sh_split_parter_way_L1
 rw [pBin_lss, ifV_dec]
 refine ⟨fun hlt => ?_, fun hge => ?_⟩
 ·have hlt : i < 4 := by omega
  refine along_ok o hlt fun p2 tl h3 o3 x3' => ?_
  have x3 : Ext h h3 := x2.trans x3' fun _ h _ => h
  refine spread_ok (f := valG g i) (Hl.more x3) hl (fun x => valG_rng hR) (fun x hx K' hk' => alongF_ok o3 0 1 (k + 2) rfl rfl hk hR (hN _ x3) hlt (hln x hx) hk') ?_
  have st : wayB (fun d => sprd (valG g d) l) (i + 1) = if (wayB (fun d => sprd (valG g d) l) i).2 < sprd (valG g i) l then (i, sprd (valG g i) l) else wayB (fun d => sprd (valG g d) l) i := rfl
  unfold sh_split_parter_way_k2
  rw [pBin_gtr, ifV_dec]
  refine ⟨fun c => ?_, fun c => ?_⟩
  ·rw [pBin_add, wI i (by omega)]
   exact hZ (_, _, _, ()) _ hlt ⟨by rw [st, if_pos c], by rw [st, if_pos c], rfl, o3.tail.tail, x3⟩
  ·rw [pBin_add, wI i (by omega)]
   exact hZ (_, _, _, ()) _ hlt ⟨by rw [st, if_neg c], by rw [st, if_neg c], rfl, o3.tail.tail, x3⟩
 ·have : i = 4 := by omega
  subst this
  exact hK h2 o x2

end
open Go Go.Mh

section
variable {h0 h : Heap} {L : List Res} {K : Value -> Heap -> Prop} {vo : Value} {O : List Nat}

def fwdN (O : List Nat) (i : Nat) (x : List Value) (i' : Nat) : Prop := i < O.length /\ i' = i + 1 /\ x = [I (O.getD i 0 : Nat)]

theorem valsN_iter {b : Nat} {T : TypeId} (hl : O.length < 2 ^ 40) : IterG Tryz.prog (.func (.func F_slices_Values_sl_int_int_1) #[] #[ptr b]) (fun h => h[b]? = some (.cells #[vo] T (0, 0)) /\ Vw encN 1 h vo O) (σ := Nat) 0 (fwdN O) (fun i => i = O.length) := by
 rintro yv h0 h Rs K J E ⟨l, rfl⟩ o j0 hQ hY hK
 refine callF_of (l := [yieldV l, ptr b]) rfl (lk_slices_Values_sl_int_int_1 _ _ ?_)
 unfold sh_slices_Values_sl_int_int_1
 obtain ⟨hb, hv⟩ := hQ _ _ _ j0 o
 have hc : hcell h ⟨b, 0, none⟩ = some vo := hcell_of hb rfl
 refine pLoad_of rfl hc (hv.len ?_)
 refine LoopH_count O.length (fun i x h' => x.1 = I i /\ ∃ Rs', J i Rs' /\ Own h0 h' Rs') ⟨rfl, Rs, j0, o⟩ ?_
 clear o j0 hc hb
 have hv0 := hv
 rintro i ⟨x, ⟨⟩⟩ h Z hi ⟨hx, Rs', hj, o⟩ hZ
 dsimp only at hx hZ ⊢
 subst hx
 unfold sh_slices_Values_sl_int_int_1_L1
 rw [pBin_lss, ifV_dec]
 refine ⟨fun hlt => ?_, fun hge => ?_⟩
 ·have hlt : i < O.length := by omega
  obtain ⟨_, hv⟩ := hQ _ _ _ hj o
  refine hv.at1 (e := fun (x : Nat) => I x) (fun _ => rfl) hlt ?_
  have e : O[i] = O.getD i 0 := by rw [List.getD_eq_getElem?_getD, List.getElem?_eq_getElem hlt]; rfl
  rw [e]
  refine hY i _ (i + 1) Rs' [] h _ ⟨hlt, rfl, rfl⟩ hj o.nilTail (fun Rs'' h'' hj' o' => ?_) fun Rs'' h'' he o' => ?_
  ·rw [pUn_not, Bool.not_true, ifV_false, pBin_add, wI i (by omega)]
   exact hZ (_, ()) h'' hlt ⟨rfl, Rs'', hj', o'.toNil⟩
  ·rw [pUn_not, Bool.not_false, ifV_true]
   exact hK _ _ (.inr he) o'.toNil
 ·have : i = O.length := by omega
  exact hK _ _ (.inl ⟨i, this, hj⟩) o

theorem valuesN_ok {vo : Value} {O : List Nat} (o : Own h0 h L) (Ho : Vw encN 1 h vo O) (hK : ∀ s h', Own h0 h' (cellR s [vo] T_sl_int :: L) -> K (.func (.func F_slices_Values_sl_int_int_1) #[] #[ptr s]) h') : callS Tryz.prog F_slices_Values_sl_int_int [vo] h K := by
 refine callS_of (lk_slices_Values_sl_int_int _ ?_)
 unfold sh_slices_Values_sl_int_int
 refine o.box fun s h1 o1 => ?_
 rw [show (Value.cells vo).toList = [vo] by rw [Ho.one]] at o1
 exact hK s h1 o1

end
open Go Go.Mh

theorem insAt_at {v k : Nat} {S : List Nat} (hk : k <= S.length) : (insAt v S k)[k]? = some v := by
 unfold insAt
 rw [List.getElem?_append_right (by rw [List.length_take]; omega), List.length_take, show k - min k S.length = 0 by omega]; rfl
theorem insAt_pre {v k : Nat} {S : List Nat} (hk : k + 1 <= S.length) : (insAt v S (k + 1))[k]? = some (S.getD k 0) := by
 unfold insAt
 rw [List.getElem?_append_left (by rw [List.length_take]; omega), List.getElem?_take_of_lt (by omega), List.getD_eq_getElem?_getD, List.getElem?_eq_getElem (by omega)]; rfl
theorem insAt_swap {v k : Nat} {S R : List Nat} (hk : k + 1 <= S.length) : (((insAt v S (k + 1)) ++ R).set (k + 1) (S.getD k 0)).set k v = insAt v S k ++ R := by
 have e : S.drop k = S.getD k 0 :: S.drop (k + 1) := by
  rw [List.getD_eq_getElem?_getD, List.getElem?_eq_getElem (by omega)]
  exact List.drop_eq_getElem_cons (by omega)
 have e2 : S.take (k + 1) = S.take k ++ [S.getD k 0] := by
  rw [List.getD_eq_getElem?_getD, List.getElem?_eq_getElem (by omega)]
  exact List.take_succ_eq_append_getElem (by omega)
 have hl : (S.take k).length = k := by rw [List.length_take]; omega
 unfold insAt
 rw [e2, e]
 generalize S.getD k 0 = a
 generalize S.take k = T at hl
 generalize S.drop (k + 1) = D
 subst hl
 rw [show T ++ [a] ++ v :: D ++ R = T ++ (a :: v :: (D ++ R)) by simp, show T ++ v :: (a :: D) ++ R = T ++ (v :: a :: (D ++ R)) by simp]
 rw [List.set_append_right _ _ (by omega), show T.length + 1 - T.length = 1 by omega, List.set_append_right _ _ (Nat.le_refl _), Nat.sub_self]
 rfl

section
variable {h0 h : Heap} {L : List Res} {K : Value -> Heap -> Prop} {vd cv : Value} {f : Nat -> Int} {xs : List Nat}

theorem insSort_ok {n q : Nat} (o : Own h0 h L) (hq : L[q]? = some (slR encN 1 T_int vd xs)) (hn : ∀ x ∈ xs, x < n) (hl : xs.length < 2 ^ 40)
  (hC : ∀ (ys : List Nat) (h' : Heap) (v w : Nat) (K' : Value -> Heap -> Prop), v < n -> w < n -> Own h0 h' (L.set q (slR encN 1 T_int vd ys)) -> (∀ (z : Int) h'', Own h0 h'' (L.set q (slR encN 1 T_int vd ys)) -> (z < 0 ↔ gtV f w v = true) -> K' (I z) h'') -> callV Tryz.prog cv [I v, I w].toArray h' K')
  (hK : ∀ h', Own h0 h' (L.set q (slR encN 1 T_int vd (ordV f xs))) -> K (.tuple #[]) h') : callS Tryz.prog F_slices_insertionSortCmpFunc_int [vd, I (0 : Nat), I xs.length, cv] h K := by
 refine callS_of (lk_slices_insertionSortCmpFunc_int _ _ _ _ ?_)
 unfold sh_slices_insertionSortCmpFunc_int
 rw [pBin_add, wI 0 (by decide)]
 have e0 : ordV f (xs.take 1) ++ xs.drop 1 = xs := by
  cases xs with
  | nil => rfl
  | cons a l => rfl
 refine LoopH_count (xs.length - 1) (fun i x h' => x.1 = I (i + 1 : Nat) /\ Own h0 h' (L.set q (slR encN 1 T_int vd (ordV f (xs.take (i + 1)) ++ xs.drop (i + 1))))) ⟨rfl, by rw [e0, set_same hq]; exact o⟩ ?_
 clear o
 rintro i ⟨x, ⟨⟩⟩ h1 Z hi ⟨hx, o⟩ hZ
 dsimp only at hx hZ ⊢
 subst hx
 unfold sh_slices_insertionSortCmpFunc_int_L1
 rw [pBin_lss, ifV_dec]
 refine ⟨fun hlt => ?_, fun hge => ?_⟩
 case refine_2 =>
  rw [List.take_of_length_le (by omega), List.drop_eq_nil_of_le (by omega), List.append_nil] at o
  exact hK h1 o
 have hlt : i + 1 < xs.length := by omega
 have hSl : (ordV f (xs.take (i + 1))).length = i + 1 := by rw [ordV_len, List.length_take]; omega
 have hdr : xs.drop (i + 1) = xs[i + 1] :: xs.drop (i + 2) := List.drop_eq_getElem_cons hlt
 have htk : xs.take (i + 2) = xs.take (i + 1) ++ [xs[i + 1]] := List.take_succ_eq_append_getElem hlt
 have hvn : xs[i + 1] < n := hn _ (List.getElem_mem hlt)
 have hSn : ∀ x ∈ ordV f (xs.take (i + 1)), x < n := fun x hx => hn x (List.mem_of_mem_take (ordV_perm.mem_iff.1 hx))
 rw [htk, ordV_snoc] at hZ
 rw [hdr] at o
 generalize ordV f (xs.take (i + 1)) = S at o hSl hSn hZ
 generalize xs[i + 1] = v at o hvn hZ
 generalize xs.drop (i + 2) = R at o hZ
 have ep : posB f v S S.length = posB f v S (i + 1) := by rw [hSl]
 refine LoopH_down (fun j x h' => x.1 = I j /\ j <= i + 1 /\ posB f v S j = posB f v S S.length /\ Own h0 h' (L.set q (slR encN 1 T_int vd (insAt v S j ++ R)))) (k0 := i + 1) ⟨rfl, Nat.le_refl _, ep.symm, ?_⟩ ?_
 ·have : insAt v S (i + 1) ++ R = S ++ v :: R := by
   unfold insAt
   rw [List.take_of_length_le (by omega), List.drop_eq_nil_of_le (by omega)]; simp
  rw [this]; exact o
 clear o
 rintro j ⟨x, ⟨⟩⟩ h2 Z1 ⟨hx, hj, hp, o⟩ hZ1
 dsimp only at hx hZ1 ⊢
 subst hx
 unfold sh_slices_insertionSortCmpFunc_int_L2
 have hil : ∀ k, (insAt v S k).length = i + 2 := fun k => by rw [insAt_len, hSl]
 have hsq : ∀ {ys : List Nat}, (L.set q (slR encN 1 T_int vd ys))[q]? = some (slR encN 1 T_int vd ys) := set_get hq
 have out : ∀ h', posB f v S S.length = j -> Own h0 h' (L.set q (slR encN 1 T_int vd (insAt v S j ++ R))) -> pBin .add (I (i + 1 : Nat)) (.int .i64 1) fun t16 => Z (t16, ()) h' := fun h' hpj o' => by
  rw [pBin_add, wI (i + 1) (by omega)]
  refine hZ (_, ()) h' (by omega) ⟨rfl, ?_⟩
  unfold insV
  rw [hpj]; exact o'
 refine cutP_of (fun y h' => y.1 = .bool (decide (0 < j /\ gtV f (S.getD (j - 1) 0) v = true)) /\ Own h0 h' (L.set q (slR encN 1 T_int vd (insAt v S j ++ R)))) (fun J hJ => ?_) ?_
 ·rw [pBin_gtr, ifV_dec]
  refine ⟨fun hpos => ?_, fun hz => hJ _ _ ⟨by rw [decide_eq_false fun h => hz (by omega)], o⟩⟩
  obtain ⟨k, rfl⟩ : ∃ k, j = k + 1 := ⟨j - 1, by omega⟩
  have hkS : k < S.length := by omega
  have l1 : k + 1 < (insAt v S (k + 1) ++ R).length := by rw [List.length_append, hil]; omega
  have l0 : k < (insAt v S (k + 1) ++ R).length := by omega
  have g1 : (insAt v S (k + 1) ++ R)[k + 1] = v := by
   have := insAt_at (v := v) (S := S) (k := k + 1) (by omega)
   rw [List.getElem_append_left (by rw [hil]; omega)]
   rw [List.getElem?_eq_getElem (by rw [hil]; omega)] at this
   exact Option.some.inj this
  have g0 : (insAt v S (k + 1) ++ R)[k] = S.getD k 0 := by
   have := insAt_pre (v := v) (S := S) (k := k) (by omega)
   rw [List.getElem_append_left (by rw [hil]; omega)]
   rw [List.getElem?_eq_getElem (by rw [hil]; omega)] at this
   exact Option.some.inj this
  refine (o.vw q hsq).at1 (e := fun (x : Nat) => I x) (fun _ => rfl) l1 ?_
  rw [g1, pBin_sub, w64 (by omega) (by omega), show ((k + 1 : Nat) : Int) - 1 = (k : Int) by omega]
  refine (o.vw q hsq).at1 (e := fun (x : Nat) => I x) (fun _ => rfl) l0 ?_
  rw [g0]
  have hSk : S.getD k 0 < n := by rw [getD_at hkS]; exact hSn _ (List.getElem_mem hkS)
  refine hC _ _ _ _ _ hvn hSk o fun z h3 o3 hz => ?_
  rw [pBin_lss]
  refine hJ _ _ ⟨?_, o3⟩
  refine congrArg Value.bool ?_
  rw [decide_eq_decide, hz]
  exact ⟨fun h => ⟨by omega, h⟩, fun h => h.2⟩
 ·rintro ⟨y, ⟨⟩⟩ h3 ⟨hy, o3⟩
  dsimp only at hy ⊢
  subst hy
  clear o
  unfold sh_slices_insertionSortCmpFunc_int_C3
  rw [ifV_dec]
  refine ⟨fun hc => ?_, fun hc => ?_⟩
  ·obtain ⟨k, rfl⟩ : ∃ k, j = k + 1 := ⟨j - 1, by omega⟩
   have hgt : gtV f (S.getD k 0) v = true := hc.2
   have hkS : k < S.length := by omega
   have l1 : k + 1 < (insAt v S (k + 1) ++ R).length := by rw [List.length_append, hil]; omega
   have l0 : k < (insAt v S (k + 1) ++ R).length := by omega
   have g1 : (insAt v S (k + 1) ++ R)[k + 1] = v := by
    have := insAt_at (v := v) (S := S) (k := k + 1) (by omega)
    rw [List.getElem_append_left (by rw [hil]; omega)]
    rw [List.getElem?_eq_getElem (by rw [hil]; omega)] at this
    exact Option.some.inj this
   have g0 : (insAt v S (k + 1) ++ R)[k] = S.getD k 0 := by
    have := insAt_pre (v := v) (S := S) (k := k) (by omega)
    rw [List.getElem_append_left (by rw [hil]; omega)]
    rw [List.getElem?_eq_getElem (by rw [hil]; omega)] at this
    exact Option.some.inj this
   rw [pBin_sub, w64 (by omega) (by omega), show ((k + 1 : Nat) : Int) - 1 = (k : Int) by omega]
   rw [pBin_sub, w64 (by omega) (by omega), show ((k + 1 : Nat) : Int) - 1 = (k : Int) by omega]
   refine (o3.vw q hsq).at1 (e := fun (x : Nat) => I x) (fun _ => rfl) l0 ?_
   refine (o3.vw q hsq).at1 (e := fun (x : Nat) => I x) (fun _ => rfl) l1 ?_
   rw [g0, g1]
   refine o3.setAt (a := S.getD k 0) q hsq (fun _ => rfl) (encN_plain _) l1 rfl fun h4 o4 => ?_
   rw [List.set_set] at o4
   refine o4.setAt (a := v) q hsq (fun _ => rfl) (encN_plain _) (by rw [List.length_set]; exact l0) rfl fun h5 o5 => ?_
   rw [List.set_set, insAt_swap (by omega)] at o5
   rw [pBin_sub, w64 (by omega) (by omega), show ((k + 1 : Nat) : Int) - 1 = (k : Int) by omega]
   refine hZ1 (_, ()) h5 k (by omega) ⟨rfl, by omega, ?_, o5⟩
   rw [<- hp]
   conv => rhs; unfold posB
   rw [if_pos hgt]
  ·refine out h3 ?_ o3
   rw [<- hp]
   cases j with
   | zero => rfl
   | succ k =>
    unfold posB
    have hc' : ¬ gtV f (S.getD k 0) v = true := fun h => hc ⟨by omega, h⟩
    rw [if_neg hc']

end
open Go Go.Mh

section
variable {h0 h : Heap} {L : List Res} {K : Value -> Heap -> Prop} {g : G} {vd cv : Value} {f : Nat -> Int} {xs : List Nat}

theorem pIdxS_any {s : ByteArray} {i : Nat} {k : IntKind} {K : Value -> Prop} (hi : i < s.size) (hK : ∀ b : Int, K (.int .u8 b)) : pIdxS (.string s) (.int k i) K := by
 refine ⟨by omega, ?_⟩
 rw [Int.toNat_natCast, getElem?_pos s i hi]
 exact hK _

set_option maxRecDepth 100000 in
theorem lenAny_ok {n : Nat} (hn : n < 256) (hK : ∀ z : Int, K (I z) h) : callS Tryz.prog F_math_bits_Len [.int .u64 n] h K := by
 refine callS_of (lk_math_bits_Len _ ?_)
 unfold sh_math_bits_Len
 refine callS_of (lk_math_bits_Len64 _ ?_)
 unfold sh_math_bits_Len64 sh_math_bits_Len64_k1 sh_math_bits_Len64_k2 sh_math_bits_Len64_k3
 rw [pBin_geq, decide_eq_false (by omega), ifV_false, pBin_geq, decide_eq_false (by omega), ifV_false, pBin_geq, decide_eq_false (by omega), ifV_false]
 rw [pConv_int, show IntKind.u8.wrap (n : Int) = (n : Int) from wrap_in (show (0 : Int) <= n by omega) (show (n : Int) <= 255 by omega)]
 refine pIdxS_any ?_ fun b => ?_
 ·refine Nat.lt_of_lt_of_eq hn (Eq.symm ?_)
  kernel_rfl
 ·rw [pConv_int, pBin_add]
  exact hK _

theorem pdq_ok {n q : Nat} {lim : Value} (o : Own h0 h L) (hq : L[q]? = some (slR encN 1 T_int vd xs)) (hn : ∀ x ∈ xs, x < n) (hl : xs.length <= 12)
  (hC : ∀ (ys : List Nat) (h' : Heap) (v w : Nat) (K' : Value -> Heap -> Prop), v < n -> w < n -> Own h0 h' (L.set q (slR encN 1 T_int vd ys)) -> (∀ (z : Int) h'', Own h0 h'' (L.set q (slR encN 1 T_int vd ys)) -> (z < 0 ↔ gtV f w v = true) -> K' (I z) h'') -> callV Tryz.prog cv [I v, I w].toArray h' K')
  (hK : ∀ h', Own h0 h' (L.set q (slR encN 1 T_int vd (ordV f xs))) -> K (.tuple #[]) h') : callS Tryz.prog F_slices_pdqsortCmpFunc_int [vd, I (0 : Nat), I xs.length, lim, cv] h K := by
 refine callS_of (lk_slices_pdqsortCmpFunc_int _ _ _ _ _ ?_)
 unfold sh_slices_pdqsortCmpFunc_int
 refine LoopH_count 0 (fun _ x h' => x.1 = I (0 : Nat) /\ x.2.1 = I xs.length /\ h' = h) ⟨rfl, rfl, rfl⟩ ?_
 rintro i ⟨x, y, z, b1, b2, ⟨⟩⟩ h' Z hi ⟨hx, hy, rfl⟩ hZ
 dsimp only at hx hy ⊢
 subst hx hy
 unfold sh_slices_pdqsortCmpFunc_int_L1
 rw [pBin_sub, w64 (by omega) (by omega), pBin_leq, decide_eq_true (by omega), ifV_true]
 exact insSort_ok o hq hn (by omega) hC hK

theorem sortFunc_ok {n q : Nat} (o : Own h0 h L) (hq : L[q]? = some (slR encN 1 T_int vd xs)) (hn : ∀ x ∈ xs, x < n) (hl : xs.length <= 12)
  (hC : ∀ (ys : List Nat) (h' : Heap) (v w : Nat) (K' : Value -> Heap -> Prop), v < n -> w < n -> Own h0 h' (L.set q (slR encN 1 T_int vd ys)) -> (∀ (z : Int) h'', Own h0 h'' (L.set q (slR encN 1 T_int vd ys)) -> (z < 0 ↔ gtV f w v = true) -> K' (I z) h'') -> callV Tryz.prog cv [I v, I w].toArray h' K')
  (hK : ∀ h', Own h0 h' (L.set q (slR encN 1 T_int vd (ordV f xs))) -> K (.tuple #[]) h') : callS Tryz.prog F_slices_SortFunc_sl_int_int [vd, cv] h K := by
 refine callS_of (lk_slices_SortFunc_sl_int_int _ _ ?_)
 unfold sh_slices_SortFunc_sl_int_int
 refine (o.vw q hq).len ?_
 rw [pConv_int, u64w (by omega) (by omega)]
 refine lenAny_ok (by omega) fun z => ?_
 exact pdq_ok o hq hn hl hC hK

theorem collect_ok {s : Nat} {vo : Value} {l : List Nat} (o : Own h0 h L) (i : Nat) (hi : L[i]? = some (cellR s [vo] T_sl_int)) (hv : ∀ h', Own h0 h' L -> Vw encN 1 h' vo l) (hl : l.length < 2 ^ 40)
  (hK : ∀ w h', Own h0 h' (slR encN 1 T_int w l :: L) -> K w h') : callS Tryz.prog F_slices_Collect_int [.func (.func F_slices_Values_sl_int_int_1) #[] #[ptr s]] h K := by
 refine callS_of (lk_slices_Collect_int _ ?_)
 unfold sh_slices_Collect_int
 refine callS_of (lk_slices_AppendSeq_sl_int_int _ _ ?_)
 unfold sh_slices_AppendSeq_sl_int_int
 refine o.box fun s2 h1 o1 => ?_
 have o2 : Own h0 h1 (slR encN 1 T_int (.slice none 0 0) (l.take 0) :: cellR s2 [.slice none 0 0] T_sl_int :: L) := Own.nilS (enc := encN) (n := 1) (T := T_int) o1
 refine o2.range (valsN_iter (O := l) (vo := vo) (b := s) (T := T_sl_int) hl) (by rintro i x i' ⟨_, _, rfl⟩; rfl)
  (fun j Rs => j <= l.length /\ ∃ w, Rs = slR encN 1 T_int w (l.take j) :: cellR s2 [w] T_sl_int :: L) (fun _ => False) (fun _ _ => False) ⟨Nat.zero_le _, _, rfl⟩ ?_ ?_ ?_ (fun _ _ h => h.elim) (fun _ _ _ h => h.elim)
 ·rintro j Rs h' ⟨_, w, rfl⟩ o'
  exact ⟨o'.get (i + 2) hi, hv _ o'.tail.tail⟩
 ·rintro M j x j' Rs Pr h' R ⟨h1', rfl, rfl⟩ ⟨_, w, rfl⟩ o' hN _ _
  dsimp only [valsOf]
  unfold sh_slices_AppendSeq_sl_int_int_B1
  refine o'.begin 0 rfl fun h4 o4 => ?_
  have o4 : Own h0 h4 (loopR _ _ :: markR _ :: slR encN 1 T_int w (l.take j) :: cellR s2 [w] T_sl_int :: (L ++ Pr)) := o4
  refine o4.load 3 rfl rfl ?_
  refine o4.app1 2 (l.getD j 0) rfl rfl (sizesOk_of rfl) (fun _ => rfl) encN_plain rfl (by decide) (by rw [List.length_take]; omega) fun w' h5 o5 => ?_
  have hw' := o5.vw 2 rfl
  refine o5.st1 3 (cs' := [w']) rfl rfl rfl hw'.one hw'.plain fun h6 o6 => ?_
  refine hN _ h6 ⟨h1', w', rfl⟩ ?_
  rw [List.take_succ_eq_append_getElem h1', <- getD_at (a := 0) h1']
  exact o6
 ·rintro j h' Rs rfl ⟨_, w, rfl⟩ o'
  rw [List.take_length] at o'
  refine o'.load 2 rfl rfl (o'.take1 0 rfl fun h10 o10 => hK w h10 ?_)
  exact o10.tail.front 2 [0] (by decide) (by decide)

theorem sortedFunc_ok {n s : Nat} {vo : Value} {l : List Nat} (o : Own h0 h L) (i : Nat) (hi : L[i]? = some (cellR s [vo] T_sl_int)) (hv : ∀ h', Own h0 h' L -> Vw encN 1 h' vo l) (hl : l.length <= 12) (hn : ∀ x ∈ l, x < n)
  (hC : ∀ (R : Res) (h' : Heap) (v w : Nat) (K' : Value -> Heap -> Prop), v < n -> w < n -> Own h0 h' (R :: L) -> (∀ (z : Int) h'', Own h0 h'' (R :: L) -> (z < 0 ↔ gtV f w v = true) -> K' (I z) h'') -> callV Tryz.prog cv [I v, I w].toArray h' K')
  (hK : ∀ w h', Own h0 h' (slR encN 1 T_int w (ordV f l) :: L) -> K w h') : callS Tryz.prog F_slices_SortedFunc_int [.func (.func F_slices_Values_sl_int_int_1) #[] #[ptr s], cv] h K := by
 refine callS_of (lk_slices_SortedFunc_int _ _ ?_)
 unfold sh_slices_SortedFunc_int
 refine collect_ok o i hi hv (by omega) fun w h1 o1 => ?_
 refine sortFunc_ok (f := f) (n := n) (q := 0) o1 rfl hn hl (fun ys h' v w' K' hv hw o' hk => hC _ h' v w' K' hv hw o' hk) fun h2 o2 => ?_
 exact hK w h2 o2

def cmpZ (a b : Int) : Int := if a < b then -1 else if b < a then 1 else 0

theorem cmpI64_ok {a b : Int} (hK : K (I (cmpZ a b)) h) : callS Tryz.prog F_cmp_Compare_int64 [I a, I b] h K := by
 refine callS_of (lk_cmp_Compare_int64 _ _ ?_)
 unfold sh_cmp_Compare_int64
 refine callS_of (lk_cmp_isNaN_int64 _ ?_)
 unfold sh_cmp_isNaN_int64
 rw [pBin_neq, bne_self_eq_false]
 refine callS_of (lk_cmp_isNaN_int64 _ ?_)
 unfold sh_cmp_isNaN_int64
 rw [pBin_neq, bne_self_eq_false]
 dsimp only
 rw [ifV_false, ifV_false]
 unfold cmpZ at hK
 rw [pBin_lss, ifV_dec]
 refine ⟨fun c => by rw [if_pos c] at hK; exact hK, fun c => ?_⟩
 rw [if_neg c] at hK
 rw [pBin_gtr, ifV_dec]
 exact ⟨fun c => by rw [if_pos c] at hK; exact hK, fun c => by rw [if_neg c] at hK; exact hK⟩

theorem cmpInt_ok {a b : Int} (hK : K (I (cmpZ a b)) h) : callS Tryz.prog F_cmp_Compare_int [I a, I b] h K := by
 refine callS_of (lk_cmp_Compare_int _ _ ?_)
 unfold sh_cmp_Compare_int
 refine callS_of (lk_cmp_isNaN_int _ ?_)
 unfold sh_cmp_isNaN_int
 rw [pBin_neq, bne_self_eq_false]
 refine callS_of (lk_cmp_isNaN_int _ ?_)
 unfold sh_cmp_isNaN_int
 rw [pBin_neq, bne_self_eq_false]
 dsimp only
 rw [ifV_false, ifV_false]
 unfold cmpZ at hK
 rw [pBin_lss, ifV_dec]
 refine ⟨fun c => by rw [if_pos c] at hK; exact hK, fun c => ?_⟩
 rw [if_neg c] at hK
 rw [pBin_gtr, ifV_dec]
 exact ⟨fun c => by rw [if_pos c] at hK; exact hK, fun c => by rw [if_neg c] at hK; exact hK⟩

theorem orInt2_ok {a b : Int} {vs : Value} (Hs : Vw encI 1 h vs [a, b]) (hK : K (I (if a ≠ 0 then a else b)) h) : callS Tryz.prog F_cmp_Or_int [vs] h K := by
 refine callS_of (lk_cmp_Or_int _ ?_)
 unfold sh_cmp_Or_int
 refine Hs.len ?_
 refine LoopH_count 2 (fun i x h' => x.1 = I i /\ h' = h /\ (1 <= i -> a = 0) /\ (2 <= i -> b = 0)) ⟨rfl, rfl, fun h => by omega, fun h => by omega⟩ ?_
 rintro i ⟨x, ⟨⟩⟩ h' Z hi ⟨hx, rfl, h1, h2⟩ hZ
 dsimp only at hx hZ ⊢
 subst hx
 unfold sh_cmp_Or_int_L1
 rw [pBin_lss, ifV_dec]
 have hl2 : ([a, b] : List Int).length = 2 := rfl
 refine ⟨fun hlt => ?_, fun hge => ?_⟩
 ·rcases (show i = 0 \/ i = 1 by omega) with rfl | rfl
  ·refine Hs.atI (i := 0) (Nat.zero_lt_succ _) ?_
   show pBin .neq (I a) _ _
   rw [pBin_neq]
   by_cases ha : a = 0
   ·rw [show (a != 0) = false by simpa using ha, ifV_false, pBin_add, wI 0 (by decide)]
    exact hZ (_, ()) _ (by decide) ⟨rfl, rfl, fun _ => ha, fun h => by omega⟩
   ·rw [show (a != 0) = true by simpa using ha, ifV_true]
    rw [if_pos ha] at hK
    exact hK
  ·refine Hs.atI (i := 1) (Nat.lt_succ_self 1) ?_
   show pBin .neq (I b) _ _
   rw [pBin_neq]
   have ha := h1 (Nat.le_refl _)
   rw [if_neg (fun h => h ha)] at hK
   by_cases hb : b = 0
   ·rw [show (b != 0) = false by simpa using hb, ifV_false, pBin_add, wI 1 (by decide)]
    exact hZ (_, ()) _ (by decide) ⟨rfl, rfl, fun _ => ha, fun _ => hb⟩
   ·rw [show (b != 0) = true by simpa using hb, ifV_true]
    exact hK
 ·have ha := h1 (by omega)
  have hb := h2 (by omega)
  rw [if_neg (fun h => h ha), hb] at hK
  exact hK

theorem cmp_gt {x y : Int} {v w : Nat} : (if cmpZ x y ≠ 0 then cmpZ x y else cmpZ (v : Int) (w : Int)) < 0 ↔ x < y \/ (y = x /\ v < w) := by
 unfold cmpZ
 rcases Int.lt_trichotomy x y with h | h | h
 ·rw [if_pos h, if_pos (by decide)]
  exact ⟨fun _ => .inl h, fun _ => by decide⟩
 ·subst h
  rw [if_neg (Int.lt_irrefl _), if_neg (Int.lt_irrefl _), if_neg (fun h => h rfl)]
  split
  ·exact ⟨fun _ => .inr ⟨rfl, by omega⟩, fun _ => by decide⟩
  ·split
   ·exact ⟨fun h => absurd h (by decide), fun h => by omega⟩
   ·exact ⟨fun h => absurd h (by decide), fun h => by omega⟩
 ·have hn : ¬ x < y := by omega
  rw [if_neg hn, if_pos h, if_pos (by decide)]
  exact ⟨fun h => absurd h (by decide), fun h => by omega⟩

theorem cmpP_ok {p p2 tl vb r d v w : Nat} {pc : List Value} (o : Own h0 h L) (a i j k : Nat) (ha : L[a]? = some (cellR vb [alV p2 tl] T_func_int_int64)) (hi : L[i]? = some (cellR tl [dirF d] T_func_int64_int64_int64)) (hj : L[j]? = some (cellR p2 [ptr p] T_p_split_parter)) (hk : L[k]? = some (cellR p (ptr r :: pc) T_split_parter))
  (hR : g.Right) (hN : NetR h r g) (hd : d < 4) (hv : v < g.n) (hw : w < g.n) (hK : ∀ (z : Int) h', Own h0 h' L -> (z < 0 ↔ gtV (valG g d) w v = true) -> K (I z) h') : callV Tryz.prog (.func (.func F_split_parter_part_2) #[] #[ptr vb]) [I v, I w].toArray h K := by
 refine callV_of (l := [I v, I w, ptr vb]) rfl (lk_split_parter_part_2 _ _ _ ?_)
 unfold sh_split_parter_part_2
 refine o.load a ha rfl (o.load a ha rfl ?_)
 refine alongF_ok o i j k hi hj hk hR hN hd hv ⟨o.load a ha rfl rfl, ?_⟩
 refine alongF_ok o i j k hi hj hk hR hN hd hw ?_
 refine cmpI64_ok (cmpInt_ok ?_)
 refine o.build (enc := encI) (n := 1) [cmpZ (valG g d v) (valG g d w), cmpZ v w] rfl (sizesOk_of rfl) rfl fun vs h1 o1 => ?_
 refine orInt2_ok (o1.vw 0 rfl) ?_
 refine hK _ h1 o1.tail ?_
 unfold gtV
 rw [decide_eq_true_eq]
 exact cmp_gt

end
open Go Go.Mh

theorem tdivN {a b : Nat} : ((a : Int)).tdiv (b : Int) = ((a / b : Nat) : Int) := rfl
theorem setL_snoc {c : Int} {l : List Nat} {v : Nat} {out : List Int} : setL c (l ++ [v]) out = (setL c l out).set v c := by simp [setL]

section
variable {g : G} {r : Nat}

theorem part_ok {N : Res} (hR : g.Right) (hN : netR N r g) : ∀ {k c nx p q nq : Nat} {h0 h : Heap} {L : List Res} {K : Value -> Heap -> Prop} {vl vc vp : Value} {l ys : List Nat} {out : List Int},
  Own h0 h (cellR p [ptr r, vc, I nx] T_split_parter :: slR encI 1 T_int vc out :: L) -> L[nq]? = some N -> L[q]? = some (slR encN 1 T_int vp ys) -> (∀ h', Vw encN 1 h' vp ys -> Vw encN 1 h' vl l) ->
  (∀ x ∈ l, x < g.n) -> l.length <= 12 -> out.length = g.n -> 1 <= c -> c <= k -> c <= 256 -> nx + c <= 2 ^ 40 ->
  (∀ h', Own h0 h' (cellR p [ptr r, vc, I (nx + c : Nat)] T_split_parter :: slR encI 1 T_int vc (asgF (partF g k c l) nx out) :: L) -> K (.tuple #[]) h') -> callS Tryz.prog F_split_parter_part [ptr p, vl, I c] h K
 | 0, c, nx, p, q, nq, h0, h, L, K, vl, vc, vp, l, ys, out, o, hnq, hq, hsub, hln, hl, hol, hc1, hck, hc, hnx, hK => by omega
 | k + 1, c, nx, p, q, nq, h0, h, L, K, vl, vc, vp, l, ys, out, o, hnq, hq, hsub, hln, hl, hol, hc1, hck, hc, hnx, hK => by
  refine callS_of (lk_split_parter_part _ _ _ ?_)
  unfold sh_split_parter_part
  refine o.box fun p3 h1 o1 => ?_
  have o1 : Own h0 h1 (cellR p3 [ptr p] T_p_split_parter :: cellR p [ptr r, vc, I nx] T_split_parter :: slR encI 1 T_int vc out :: L) := o1
  rw [pBin_eql, ifV_beq]
  refine ⟨fun e => ?_, fun e => ?_⟩
  ·have e1 : c = 1 := by omega
   subst e1
   have ep : asgF (partF g (k + 1) 1 l) nx out = setL nx l out := by unfold partF; rw [if_pos rfl]; rfl
   rw [ep] at hK
   refine (hsub _ (o1.vw (q + 3) hq)).len ?_
   refine LoopH_count l.length (fun i x h' => x.1 = I i /\ Own h0 h' (cellR p3 [ptr p] T_p_split_parter :: cellR p [ptr r, vc, I nx] T_split_parter :: slR encI 1 T_int vc (setL nx (l.take i) out) :: L)) ⟨rfl, o1⟩ ?_
   clear o1 o
   rintro i ⟨x, ⟨⟩⟩ h2 Z hi ⟨hx, o⟩ hZ
   dsimp only at hx hZ ⊢
   subst hx
   unfold sh_split_parter_part_L1
   rw [pBin_lss, ifV_dec]
   refine ⟨fun hlt => ?_, fun hge => ?_⟩
   ·have hlt : i < l.length := by omega
    refine (hsub _ (o.vw (q + 3) hq)).at1 (e := fun (x : Nat) => I x) (fun _ => rfl) hlt ?_
    refine o.load 0 rfl rfl ?_
    simp only [pNil_ptr, pField_ptr]
    refine o.load 1 rfl rfl (o.load 0 rfl rfl ?_)
    simp only [pNil_ptr, pField_ptr]
    refine o.load 1 rfl rfl ?_
    refine o.setI 2 rfl (by rw [setL_len, hol]; exact hln _ (List.getElem_mem hlt)) fun h3 o3 => ?_
    rw [pBin_add, wI i (by omega)]
    refine hZ (_, ()) h3 hlt ⟨rfl, ?_⟩
    rw [List.take_succ_eq_append_getElem hlt, setL_snoc]
    exact o3
   ·have : i = l.length := by omega
    subst this
    rw [List.take_length] at o
    refine ld_split_parter_part_1 (ptr p3) ?_
    unfold sh_split_parter_part_1
    refine o.load 0 rfl rfl ?_
    simp only [pNil_ptr, pField_ptr]
    refine o.load 1 rfl rfl ?_
    rw [pBin_add, wI nx (by omega)]
    refine o.st1 1 (cs' := [ptr r, vc, I (nx + 1 : Nat)]) rfl rfl rfl rfl rfl fun h3 o3 => ?_
    exact hK h3 o3.tail
  ·have hc2 : 2 <= c := by omega
   obtain ⟨hd, _, _⟩ := @wayG_spec g l
   have ep : partF g (k + 1) c l = partF g k (c / 2) ((ordV (valG g (wayG g l).1) l).take (l.length * (c / 2) / c)) ++ partF g k (c - c / 2) ((ordV (valG g (wayG g l).1) l).drop (l.length * (c / 2) / c)) := by
    conv => lhs; unfold partF
    rw [if_neg (by omega)]
   refine o1.load 0 rfl rfl ?_
   refine pway_ok o1 1 rfl hR (fun h' x => hN _ ((o1.more x).get (nq + 3) hnq)) (hsub _ (o1.vw (q + 3) hq)) (by omega) hln fun h2 o2 _ => ?_
   clear o1 o
   simp only [pExt0, pExt1]
   refine o2.load 0 rfl rfl ?_
   refine along_ok o2 hd fun p2 tl h3 o3 _ => ?_
   generalize (wayG g l).1 = d at hd ep o3
   refine o3.box fun vb h4 o4 => o4.st1 0 (cs' := [alV p2 tl]) rfl rfl rfl rfl rfl fun h5 o5 => ?_
   have o5 : Own h0 h5 (cellR vb [alV p2 tl] T_func_int_int64 :: cellR tl [dirF d] T_func_int64_int64_int64 :: cellR p2 [ptr p] T_p_split_parter :: cellR p3 [ptr p] T_p_split_parter :: cellR p [ptr r, vc, I nx] T_split_parter :: slR encI 1 T_int vc out :: L) := o5
   clear o4 o3 o2
   refine valuesN_ok o5 (hsub _ (o5.vw (q + 6) hq)) fun s h6 o6 => ?_
   refine sortedFunc_ok (f := valG g d) (n := g.n) o6 0 rfl (fun h' o' => hsub _ (o'.vw (q + 7) hq)) hl hln (fun R h' v w K' hv hw o' hk => cmpP_ok o' 2 3 4 6 rfl rfl rfl rfl hR (hN _ (o'.get (nq + 8) hnq)) hd hv hw hk) fun w h7 o7 => ?_
   have ol : (ordV (valG g d) l).length = l.length := ordV_len
   have oln : ∀ x ∈ ordV (valG g d) l, x < g.n := fun x hx => hln x (ordV_perm.mem_iff.1 hx)
   have hh := half_le (m := l.length) hc2
   generalize ordV (valG g d) l = O at o7 ol oln ep
   have o8 : Own h0 h7 (cellR p [ptr r, vc, I nx] T_split_parter :: slR encI 1 T_int vc out :: slR encN 1 T_int w O :: cellR p3 [ptr p] T_p_split_parter :: L) := o7.front 8 [6, 7, 0, 5] (by decide) (by decide)
   clear o7 o6 o5
   refine (o8.vw 2 rfl).len ?_
   rw [ol]
   have q2 : ((c : Int)).tdiv 2 = ((c / 2 : Nat) : Int) := tdivN (b := 2)
   have hmul : l.length * (c / 2) <= 12 * 128 := Nat.mul_le_mul hl (by omega)
   rw [pBin_quo]
   refine ⟨by decide, ?_⟩
   rw [q2, w64 (by omega) (by omega), pBin_mul, show ((l.length : Int) * ((c / 2 : Nat) : Int)) = ((l.length * (c / 2) : Nat) : Int) by simp, w64 (by omega) (by omega), pBin_quo]
   refine ⟨by omega, ?_⟩
   rw [tdivN]
   generalize l.length * (c / 2) / c = H at hh ep ⊢
   rw [w64 (by omega) (by omega)]
   refine o8.load 3 rfl rfl ?_
   refine (o8.vw 2 rfl).subA (a := 0) (j := H) encN_len rfl rfl (by omega) (by omega) fun w1 hw1 => ?_
   rw [pBin_quo]
   refine ⟨by decide, ?_⟩
   rw [q2, w64 (by omega) (by omega)]
   rw [ep, asgF_append, partF_len (by omega) (by omega)] at hK
   refine part_ok hR hN (k := k) (c := c / 2) (q := 0) (nq := nq + 2) (L := slR encN 1 T_int w O :: cellR p3 [ptr p] T_p_split_parter :: L) (l := O.take H) o8 hnq rfl (fun h' H' => by have := hw1 h' H'; rwa [List.drop_zero, Nat.sub_zero] at this) (fun x hx => oln x (List.mem_of_mem_take hx)) (by rw [List.length_take]; omega) hol (by omega) (by omega) (by omega) (by omega) fun h8 o9 => ?_
   clear o8
   refine o9.load 3 rfl rfl ?_
   refine (o9.vw 2 rfl).subA (a := H) (j := O.length) encN_len rfl rfl (by omega) (Nat.le_refl _) fun w2 hw2 => ?_
   rw [pBin_quo]
   refine ⟨by decide, ?_⟩
   rw [q2, w64 (by omega) (by omega), pBin_sub, show (c : Int) - ((c / 2 : Nat) : Int) = ((c - c / 2 : Nat) : Int) by omega, w64 (by omega) (by omega)]
   refine part_ok hR hN (k := k) (c := c - c / 2) (q := 0) (nq := nq + 2) (L := slR encN 1 T_int w O :: cellR p3 [ptr p] T_p_split_parter :: L) (l := O.drop H) o9 hnq rfl (fun h' H' => by have := hw2 h' H'; rwa [List.take_of_length_le (by rw [List.length_drop]; exact Nat.le_refl _)] at this) (fun x hx => oln x (List.mem_of_mem_drop hx)) (by rw [List.length_drop]; omega) (by rw [asgF_len]; exact hol) (by omega) (by omega) (by omega) (by omega) fun h9 o10 => ?_
   refine hK h9 ?_
   rw [show nx + c = nx + c / 2 + (c - c / 2) by omega]
   exact o10.front 4 [0, 1] (by decide) (by decide)

variable {h0 h : Heap} {L : List Res} {K : Value -> Heap -> Prop} {N : Res} {vl : Value}

def mapZ (g : G) (z : Int) : List Int := if 1 <= z /\ z <= 256 then mapG g z.toNat else []

theorem smap_ok {z : Int} {nq : Nat} (o : Own h0 h L) (hq : L[nq]? = some N) (hN : netR N r g) (hR : g.Right) (hn : g.n <= 12) (hK : ∀ w h', Own h0 h' (slR encI 1 T_int w (mapZ g z) :: L) -> K w h') : callS Tryz.prog F_split_Map [ptr r, I z] h K := by
 refine callS_of (lk_split_Map _ _ ?_)
 unfold sh_split_Map sh_split_Map_k1
 simp only [pEq_ptr_nil, Option.isNone_some, ifV_false]
 unfold mapZ at hK
 rw [pBin_lss, ifV_dec]
 refine ⟨fun c => ?_, fun c1 => ?_⟩
 ·rw [if_neg (by omega)] at hK
  exact hK _ h o.nilS
 rw [pBin_gtr, ifV_dec]
 refine ⟨fun c => ?_, fun c2 => ?_⟩
 ·rw [if_neg (by omega)] at hK
  exact hK _ h o.nilS
 rw [if_pos (by omega)] at hK
 obtain ⟨c, rfl⟩ : ∃ c : Nat, z = c := Int.eq_ofNat_of_zero_le (by omega)
 rw [Int.toNat_natCast] at hK
 refine nodes_ok (hN _ (o.get nq hq)) ?_
 refine o.make (enc := encI) (n := 1) (a := 0) (m := g.n) rfl (by omega) (by omega) fun w21 h1 o1 => ?_
 have hw := o1.vw 0 rfl
 refine pBuild_ones (cs' := [ptr r, w21, I (0 : Nat)]) (fun p hp => by
  simp at hp
  rcases hp with rfl | rfl
  ·rfl
  ·exact hw.one) rfl rfl ?_
 refine o1.box fun p h2 o2 => ?_
 rw [show (Value.cells (.agg [ptr r, w21, I (0 : Nat)].toArray)).toList = [ptr r, w21, I (0 : Nat)] by simp [Value.cells, hw.one]] at o2
 refine nodes_ok (hN _ (o2.get (nq + 2) hq)) ?_
 refine o2.make (enc := encN) (n := 1) (a := (0 : Nat)) (m := g.n) rfl (by omega) (by omega) fun w26 h3 o3 => ?_
 clear o2 o1
 refine (o3.vw 0 rfl).len ?_
 rw [List.length_replicate]
 have hul : ∀ i, i <= g.n -> (List.range i ++ List.replicate (g.n - i) 0).length = g.n := fun i hi => by rw [List.length_append, List.length_range, List.length_replicate]; omega
 refine LoopH_count g.n (fun i x h' => x.1 = I i /\ Own h0 h' (slR encN 1 T_int w26 (List.range i ++ List.replicate (g.n - i) 0) :: cellR p [ptr r, w21, I (0 : Nat)] T_split_parter :: slR encI 1 T_int w21 (List.replicate g.n 0) :: L)) ⟨rfl, o3⟩ ?_
 clear o3
 rintro i ⟨x, ⟨⟩⟩ h4 Z hi ⟨hx, o3⟩ hZ
 dsimp only at hx hZ ⊢
 subst hx
 unfold sh_split_Map_L2
 rw [pBin_lss, ifV_dec]
 refine ⟨fun hlt => ?_, fun hge => ?_⟩
 ·have hlt : i < g.n := by omega
  refine o3.setAt (a := i) 0 rfl (fun _ => rfl) (encN_plain _) (by rw [hul i hi]; exact hlt) rfl fun h5 o5 => ?_
  rw [pBin_add, wI i (by omega)]
  refine hZ (_, ()) h5 hlt ⟨rfl, ?_⟩
  have : (List.range i ++ List.replicate (g.n - i) 0).set i i = List.range (i + 1) ++ List.replicate (g.n - (i + 1)) 0 := by
   rw [List.set_append_right _ _ (by rw [List.length_range]; exact Nat.le_refl _), List.length_range, Nat.sub_self, show g.n - i = (g.n - (i + 1)) + 1 by omega, List.replicate_succ, List.set_cons_zero, List.range_succ]
   simp
  rw [<- this]
  exact o5
 ·have : i = g.n := by omega
  subst this
  rw [Nat.sub_self, List.replicate_zero, List.append_nil] at o3
  refine part_ok hR hN (k := c) (c := c) (nx := 0) (q := 0) (nq := nq + 1) (L := slR encN 1 T_int w26 (List.range g.n) :: L) (o3.front 3 [1, 2, 0] (by decide) (by decide)) hq rfl (fun h' H' => H') (fun x hx => List.mem_range.1 hx) (by rw [List.length_range]; exact hn) (by rw [List.length_replicate]) (by omega) (Nat.le_refl _) (by omega) (by omega) fun h5 o5 => ?_
  simp only [pNil_ptr, pField_ptr]
  refine o5.load 0 rfl rfl ?_
  exact hK w21 h5 (o5.front 3 [1] (by decide) (by decide))

theorem clone_intZ {xs : List Int} {s : Value} (o : Own h0 h L) (H : Vw encI 1 h s xs) (hl : xs.length <= 2 ^ 40) (hK : ∀ v' h', Own h0 h' (slR encI 1 T_int v' xs :: L) -> K v' h') : callS Tryz.prog F_slices_Clone_sl_int_int [s] h K :=
 callS_of (lk_slices_Clone_sl_int_int _ (clone_gen o H (fun _ => rfl) encI_plain rfl (by decide) (by omega) hK))

end
open Go Go.Mh

structure Row where
 b : Option Addr
 len : Nat
 cap : Nat
 l : List Int
def Row.v (r : Row) : Value := .slice r.b r.len r.cap
def encRow (r : Row) : List Value := [r.v]
theorem encRow_plain (r : Row) : ∀ u ∈ encRow r, Mh.plainCell u = true := by intro u hu; simp [encRow] at hu; subst hu; rfl

section
variable {h0 h : Heap} {L : List Res} {K : Value -> Heap -> Prop} {g : G} {r n2 s5 : Nat} {v : Value} {ms : List Nat} {D : Int -> List Int}

theorem part0 {a : Value} {l : List Value} {K : Value -> Prop} (hk : K a) : pPart1 0 (.agg (a :: l).toArray) K := by simpa [pPart1] using hk

def TabV (h : Heap) (v : Value) (ds : List (List Int)) : Prop := ∃ ps : List Row, ps.map (·.l) = ds /\ Vw encRow 1 h v ps /\ ∀ p ∈ ps, Vw encI 1 h p.v p.l
theorem TabV.more {h' : Heap} {ds : List (List Int)} (H : TabV h v ds) (x : Ext h h') : TabV h' v ds := by
 obtain ⟨ps, a, b, c⟩ := H
 exact ⟨ps, a, b.more x, fun p hp => (c p hp).more x⟩

def RunF (fv : Value) (r : Nat) (g : G) (D : Int -> List Int) : Prop := ∀ (h : Heap) (K : Value -> Heap -> Prop) (z : Int), NetR h r g -> (∀ sd sa so h', Own h h' [xR sd (D z)] -> K (.agg #[sd, sa, so]) h') -> callV Tryz.prog fv [ptr r, I z].toArray h K

theorem toRun (hR : g.Right) : RunF (.func (.func F_flood_To) #[] #[]) r g fun z => (g.toI z).dist := fun h K z hN hK =>
 to_ok hR hN fun sd sa so h' o => hK sd sa so h' (o.sel [0] (by decide))
theorem fromRun (hR : g.Right) : RunF (.func (.func F_flood_From) #[] #[]) r g fun z => (g.fromI z).dist := fun h K z hN hK =>
 from_ok hR hN fun sd sa so h' o => hK sd sa so h' (o.sel [0] (by decide))

theorem trows_iter {m4 r5 n3 : Nat} {fv : Value} {T1 T2 T3 : TypeId} (hF : RunF fv r g D) (hl : ms.length < 2 ^ 40) : IterO Tryz.prog (.func (.func F_table_rows_1) #[] #[ptr m4, ptr r5, ptr n3])
  (fun h => h[m4]? = some (.cells #[v] T1 (0, 0)) /\ h[r5]? = some (.cells #[fv] T2 (0, 0)) /\ h[n3]? = some (.cells #[ptr r] T3 (0, 0)) /\ Vw encI 1 h v (nI ms) /\ NetR h r g) (σ := Nat) 0
  (fun i x X i' => ∃ hi : i < ms.length, ∃ sd, x = [sd] /\ X = xR sd (D (ms.getD i 0 : Nat)) /\ i' = i + 1) (fun i => i = ms.length) := by
 rintro yv h0 h Rs K J E ⟨l, rfl⟩ o j0 hQ hY hK
 refine callF_of (l := [yieldV l, ptr m4, ptr r5, ptr n3]) rfl (lk_table_rows_1 _ _ _ _ ?_)
 unfold sh_table_rows_1
 obtain ⟨q1, _, _, q4, _⟩ := hQ _ _ _ j0 o
 have d1 : hcell h ⟨m4, 0, none⟩ = some v := hcell_of q1 rfl
 refine pLoad_of rfl d1 (q4.len ?_)
 rw [nI_len]
 refine LoopH_count ms.length (fun i x h' => x.1 = I i /\ ∃ Rs', J i Rs' /\ Own h0 h' Rs') ⟨rfl, Rs, j0, o⟩ ?_
 rintro i ⟨x, ⟨⟩⟩ h Z hi ⟨hx, Rs', hj, o⟩ hZ
 dsimp only at hx hZ ⊢
 subst hx
 unfold sh_table_rows_1_L1
 simp only [pBin_lss, ifV_dec]
 refine ⟨fun hlt => ?_, fun hge => ?_⟩
 ·have hlt : i < ms.length := by omega
  obtain ⟨_, q2, q3, q4', q5⟩ := hQ _ _ _ hj o
  have d2 : hcell h ⟨r5, 0, none⟩ = some fv := hcell_of q2 rfl
  have d3 : hcell h ⟨n3, 0, none⟩ = some (ptr r) := hcell_of q3 rfl
  refine q4'.atI (by rw [nI_len]; exact hlt) (pLoad_of rfl d2 (pLoad_of rfl d3 ?_))
  have e : (nI ms)[i]'(by rw [nI_len]; exact hlt) = ((ms.getD i 0 : Nat) : Int) := by simp [nI, List.getD_eq_getElem?_getD, hlt]
  rw [e]
  refine hF h _ _ q5 fun sd sa so h1 o1 => ?_
  refine part0 ?_
  have o2 := o.frame o1
  refine hY i [sd] _ (i + 1) Rs' [] h1 _ ⟨hlt, sd, rfl, rfl, rfl⟩ hj ?_ (fun Rs'' h'' hj' o' => ?_) fun Rs'' h'' he o' => ?_
  ·rw [List.append_nil]; exact o2
  ·rw [pUn_not, Bool.not_true, ifV_false, pBin_add, wI i (by omega)]
   exact hZ (I (i + 1 : Nat), ()) h'' hlt ⟨rfl, Rs'', hj', o'.toNil⟩
  ·rw [pUn_not, Bool.not_false, ifV_true]
   exact hK _ _ (.inr he) o'.toNil
 ·have : i = ms.length := by omega
  exact hK _ _ (.inl ⟨i, this, hj⟩) o

def tabR (v : Value) (ps : List Row) : Res := sepR [slR encRow 1 T_sl_int64 v ps, sepR (ps.map fun (p : Row) => xR p.v p.l)]

theorem tabR_view {i : Nat} {ps : List Row} {ds : List (List Int)} (o : Own h0 h L) (hi : L[i]? = some (tabR v ps)) (hd : ps.map (·.l) = ds) : TabV h v ds := by
 have o1 := o.out i hi
 have o2 := o1.out 1 rfl
 refine ⟨ps, hd, o1.vw 0 rfl, fun p hp => ?_⟩
 exact o2.vwm (List.mem_append_left _ (List.mem_map.2 ⟨p, hp, rfl⟩))

theorem collectR_ok {fv : Value} {Q : Heap -> Prop} {N : Nat} {f : Nat -> List Int} {hN : N < 2 ^ 40} (o : Own h0 h L)
  (hI : IterO Tryz.prog fv Q (σ := Nat) 0 (fun i x X i' => ∃ hi : i < N, ∃ sd, x = [sd] /\ X = xR sd (f i) /\ i' = i + 1) (fun i => i = N)) (hQ : ∀ (Rs : List Res) h', Own h0 h' (Rs ++ L) -> Q h')
  (hK : ∀ w ps h', ps.map (·.l) = (List.range N).map f -> Own h0 h' (tabR w ps :: L) -> K w h') : callS Tryz.prog F_slices_Collect_sl_int64 [fv] h K := by
 refine callS_of (lk_slices_Collect_sl_int64 _ ?_)
 unfold sh_slices_Collect_sl_int64
 refine callS_of (lk_slices_AppendSeq_sl_sl_int64_sl_int64 _ _ ?_)
 unfold sh_slices_AppendSeq_sl_sl_int64_sl_int64
 refine o.box fun s2 h1 o1 => ?_
 have o2 : Own h0 h1 (slR encRow 1 T_sl_int64 (.slice none 0 0) ([] : List Row) :: sepR (([] : List Row).map fun (p : Row) => xR p.v p.l) :: cellR s2 [.slice none 0 0] T_sl_sl_int64 :: L) := Own.nilS (enc := encRow) (n := 1) (T := T_sl_int64) (Own.sep (l := []) o1)
 refine o2.rangeO hI (by rintro s x X s' ⟨_, _, rfl, _⟩; rfl)
  (fun s Rs => s <= N /\ ∃ w ps, ps.map (·.l) = (List.range s).map f /\ Rs = slR encRow 1 T_sl_int64 w ps :: sepR (ps.map fun (p : Row) => xR p.v p.l) :: cellR s2 [w] T_sl_sl_int64 :: L) (fun _ => False) (fun _ _ => False) ⟨Nat.zero_le _, _, [], rfl, rfl⟩ ?_ ?_ ?_ (fun _ _ h => h.elim) (fun _ _ _ h => h.elim)
 ·rintro s Rs h' ⟨_, w, ps, _, rfl⟩ o'
  exact hQ [_, _, _] h' o'
 ·rintro M s x X s' Rs Pr h' R ⟨hlt, sd, rfl, rfl, rfl⟩ ⟨_, w, ps, hps, rfl⟩ o' hN' _ _
  dsimp only [valsOf]
  unfold sh_slices_AppendSeq_sl_sl_int64_sl_int64_B1
  refine o'.begin 0 rfl fun h4 o4 => ?_
  have o4 : Own h0 h4 (loopR _ _ :: xR sd (f s) :: markR _ :: slR encRow 1 T_sl_int64 w ps :: sepR (ps.map fun (p : Row) => xR p.v p.l) :: cellR s2 [w] T_sl_sl_int64 :: (L ++ Pr)) := o4
  obtain ⟨sb, sc, rfl⟩ := (o4.vw 1 rfl).isSl
  have hlen : ps.length = s := by
   have := congrArg List.length hps
   simpa using this
  refine o4.load 5 rfl rfl ?_
  refine o4.app1 3 (⟨sb, (f s).length, sc, f s⟩ : Row) rfl rfl (sizesOk_of rfl) (fun _ => rfl) encRow_plain rfl (by decide) (by omega) fun w' h5 o5 => ?_
  have hw' := o5.vw 3 rfl
  refine o5.st1 5 (cs' := [w']) rfl rfl rfl hw'.one hw'.plain fun h6 o6 => ?_
  have o6 : Own h0 h6 (loopR _ _ :: xR (.slice sb (f s).length sc) (f s) :: markR _ :: slR encRow 1 T_sl_int64 w' (ps ++ [(⟨sb, (f s).length, sc, f s⟩ : Row)]) :: sepR (ps.map fun (p : Row) => xR p.v p.l) :: cellR s2 [w'] T_sl_sl_int64 :: (L ++ Pr)) := o6
  have o7 := Own.sepAdd (Own.swap o6) (j := 3) rfl
  refine hN' (slR encRow 1 T_sl_int64 w' (ps ++ [(⟨sb, (f s).length, sc, f s⟩ : Row)]) :: sepR ((ps ++ [(⟨sb, (f s).length, sc, f s⟩ : Row)]).map fun (p : Row) => xR p.v p.l) :: cellR s2 [w'] T_sl_sl_int64 :: L) h6 ⟨by omega, w', _, ?_, rfl⟩ ?_
  ·rw [List.map_append, hps, List.range_succ, List.map_append]; rfl
  ·rw [List.map_append]
   exact o7
 ·rintro s h' Rs rfl ⟨_, w, ps, hps, rfl⟩ o'
  refine o'.load 3 rfl rfl (o'.take1 0 rfl fun h6 o6 => ?_)
  have o7 : Own h0 h6 ([slR encRow 1 T_sl_int64 w ps, sepR (ps.map fun (p : Row) => xR p.v p.l)] ++ (cellR s2 [w] T_sl_sl_int64 :: L)) := o6.tail
  exact hK w ps h6 hps ((Own.sep o7).erase 1)

end
open Go Go.Mh

section
variable {h0 h : Heap} {L : List Res} {K : Value -> Heap -> Prop} {g : G} {r t : Nat} {v : Value} {ms : List Nat}

def seenN (l : List Nat) : Int -> Option Value := fun z => if ∃ m ∈ l, (m : Int) = z then some (I 1) else none
theorem seenN_in {l : List Nat} {m : Nat} (h : m ∈ l) : seenN l m = some (I 1) := if_pos ⟨m, h, rfl⟩
theorem seenN_out {l : List Nat} {m : Nat} (h : m ∉ l) : seenN l m = none := if_neg fun ⟨x, hx, e⟩ => h (by rw [<- show x = m by omega]; exact hx)
theorem seenN_add {l : List Nat} {m : Nat} (x : Int) : seenN (l ++ [m]) x = fset (seenN l) m (I 1) x := by
 show (if ∃ y ∈ l ++ [m], (y : Int) = x then some (I 1) else none) = if x = (m : Int) then some (I 1) else if ∃ y ∈ l, (y : Int) = x then some (I 1) else none
 by_cases e : x = (m : Int)
 ·rw [if_pos e, if_pos ⟨m, by simp, e.symm⟩]
 ·rw [if_neg e]
  by_cases hx : ∃ y ∈ l, (y : Int) = x
  ·obtain ⟨y, hy, hyx⟩ := hx
   rw [if_pos ⟨y, List.mem_append_left _ hy, hyx⟩, if_pos ⟨y, hy, hyx⟩]
  ·rw [if_neg hx, if_neg]
   rintro ⟨y, hy, hyx⟩
   rcases List.mem_append.1 hy with hy | hy
   ·exact hx ⟨y, hy, hyx⟩
   ·simp at hy; exact e (by rw [<- hyx, hy])

theorem may_ok17 {n : Nat} (H : Vw encI 1 h v (nI ms)) (hl : ms.length <= 16) (hn : ms.Nodup) (hm : ∀ m ∈ ms, m < n) (hK : ∀ h', Ext h h' -> K (.bool true) h') : callS Tryz.prog F_table_may [I n, v] h K := by
 refine callS_of (lk_table_may _ _ ?_)
 unfold sh_table_may
 refine (Own.start h).box fun n2 h1 o1 => o1.mkMap fun m h2 o2 => o2.box fun s5 h3 o3 => o3.st1 0 (cs' := [.map (some m)]) rfl rfl rfl rfl rfl fun h4 o4 => ?_
 have o4 : Own h h4 (cellR s5 [.map (some m)] T_map_int_int :: mapR m (seenN (ms.take 0)) :: cellR n2 [I n] T_int :: []) := o4
 refine H.len ?_
 rw [nI_len, pBin_leq, decide_eq_true (by omega), ifV_true]
 refine callS_of (lk_slices_ContainsFunc_sl_int_int _ _ ?_)
 unfold sh_slices_ContainsFunc_sl_int_int
 refine callS_of (lk_slices_IndexFunc_sl_int_int _ _ ?_)
 unfold sh_slices_IndexFunc_sl_int_int
 refine H.len ?_
 rw [nI_len]
 refine LoopH_count ms.length (fun i x h' => x.1 = I i /\ Own h h' (cellR s5 [.map (some m)] T_map_int_int :: mapR m (seenN (ms.take i)) :: cellR n2 [I n] T_int :: [])) ⟨rfl, o4⟩ ?_
 clear o1 o2 o3 o4
 rintro i ⟨x, ⟨⟩⟩ h' Z hi ⟨hx, o'⟩ hZ
 dsimp only at hx hZ ⊢
 subst hx
 unfold sh_slices_IndexFunc_sl_int_int_L1
 simp only [pBin_lss, ifV_dec]
 refine ⟨fun hlt => ?_, fun hge => ?_⟩
 ·have hlt : i < ms.length := by omega
  refine (H.more o'.ext).atI (by rw [nI_len]; exact hlt) ?_
  have e : (nI ms)[i]'(by rw [nI_len]; exact hlt) = (ms[i] : Int) := by simp [nI]
  rw [e]
  refine callV_of (l := [I ms[i], ptr s5, ptr n2]) rfl (lk_table_may_1 _ _ _ ?_)
  unfold sh_table_may_1
  have hout : ms[i] ∉ ms.take i := fun hmem => by
   have h1 := hn
   rw [<- List.take_append_drop i ms, List.nodup_append, List.drop_eq_getElem_cons hlt] at h1
   exact h1.2.2 _ hmem _ List.mem_cons_self rfl
  refine o'.load 0 rfl rfl (o'.look 1 rfl ?_)
  rw [seenN_out hout]
  simp only [Bool.false_eq_true, if_false, Option.getD_none]
  rw [pBin_add, w64 (by omega) (by omega)]
  refine o'.mapPut 1 rfl (f' := seenN (ms.take (i + 1))) (fun x => ?_) fun h2 o2 => ?_
  ·rw [List.take_succ_eq_append_getElem hlt, seenN_add]; rfl
  ·have hmi := hm _ (List.getElem_mem hlt)
   rw [pBin_lss, decide_eq_false (by omega), ifV_false]
   refine o2.load 2 rfl rfl ?_
   rw [pBin_geq, decide_eq_false (by omega), ifV_false]
   refine o2.load 0 rfl rfl (o2.look 1 rfl ?_)
   rw [seenN_in (show ms[i] ∈ ms.take (i + 1) by rw [List.take_succ_eq_append_getElem hlt]; exact List.mem_append_right _ List.mem_cons_self)]
   simp only [Bool.false_eq_true, if_false, Option.getD_some]
   rw [pBin_gtr, decide_eq_false (by omega), ifV_false, pBin_add, wI i (by omega)]
   exact hZ (I (i + 1 : Nat), ()) h2 hlt ⟨rfl, o2⟩
 ·rw [pBin_geq, decide_eq_false (by omega), pUn_not, Bool.not_false]
  exact hK h' o'.ext

def tabCs (n : Nat) (mv tv fv : Value) : List Value := [I n, mv, tv, fv]
structure TableV (h : Heap) (t : Nat) (g : G) (ms : List Nat) : Prop where
 ex : ∃ mv tv fv, h[t]? = some (.cells (tabCs g.n mv tv fv).toArray T_table_Table (0, 0)) /\ Vw encI 1 h mv (nI ms) /\ TabV h tv (ms.map fun (m : Nat) => (g.toI m).dist) /\ TabV h fv (ms.map fun (m : Nat) => (g.fromI m).dist)
theorem TableV.more {h' : Heap} (H : TableV h t g ms) (x : Ext h h') : TableV h' t g ms := by
 obtain ⟨mv, tv, fv, a, b, c, d⟩ := H.ex
 exact ⟨mv, tv, fv, x.get a, b.more x, c.more x, d.more x⟩

def tableR (t : Nat) (n : Nat) (mv tv fv : Value) (ms : List Nat) (ps qs : List Row) : List Res := [cellR t (tabCs n mv tv fv) T_table_Table, slR encI 1 T_int mv (nI ms), tabR tv ps, tabR fv qs]

theorem range_map {α β : Type} (l : List α) (f : α -> β) (d : α) : (List.range l.length).map (fun i => f (l.getD i d)) = l.map f := by
 apply List.ext_getElem (by simp)
 intro i h1 h2
 have hi : i < l.length := by simpa using h1
 simp [List.getD_eq_getElem?_getD, hi]

theorem tableOf_ok (o : Own h0 h L) (hp : Vw encI 1 h v (nI ms)) (hR : g.Right) (hN : NetR h r g) (hl : ms.length <= 16) (hn : ms.Nodup) (hm : ∀ m ∈ ms, m < g.n)
  (hK : ∀ t mv tv fv ps qs h', ps.map (·.l) = ms.map (fun (m : Nat) => (g.toI m).dist) -> qs.map (·.l) = ms.map (fun (m : Nat) => (g.fromI m).dist) -> Own h0 h' (tableR t g.n mv tv fv ms ps qs ++ L) -> K (ptr t) h') : callS Tryz.prog F_table_Of [ptr r, v] h K := by
 refine callS_of (lk_table_Of _ _ ?_)
 unfold sh_table_Of
 simp only [pEq_ptr_nil, Option.isNone_some, ifV_false]
 refine nodes_ok hN (may_ok17 hp hl hn hm fun h1 x1 => ?_)
 rw [pUn_not, Bool.not_true, ifV_false]
 refine nodes_ok (hN.more x1) ?_
 refine clone_intZ ((Own.start h).more x1) (hp.more x1) (by rw [nI_len]; omega) fun mv h2 o2 => ?_
 refine callS_of (lk_table_rows _ _ _ ?_)
 unfold sh_table_rows
 refine o2.box fun n3 h3 o3 => o3.box fun m4 h4 o4 => o4.box fun r5 h5 o5 => ?_
 have hv1 : v.cells.toList = [v] := by rw [hp.one]
 rw [hv1] at o5
 have hQ : ∀ (fv : Value) (n3 m4 r5 : Nat) (Rs L' : List Res) (h' : Heap), Own h h' (Rs ++ (cellR r5 [fv] T_funcnet_Net_int_flood_Tree :: cellR m4 [v] T_sl_int :: cellR n3 [ptr r] T_p_net_Net :: L')) ->
   h'[m4]? = some (.cells #[v] T_sl_int (0, 0)) /\ h'[r5]? = some (.cells #[fv] T_funcnet_Net_int_flood_Tree (0, 0)) /\ h'[n3]? = some (.cells #[ptr r] T_p_net_Net (0, 0)) /\ Vw encI 1 h' v (nI ms) /\ NetR h' r g := fun fv n3 m4 r5 Rs L' h' o' => by
  have q : ∀ (i : Nat) (R : Res), (cellR r5 [fv] T_funcnet_Net_int_flood_Tree :: cellR m4 [v] T_sl_int :: cellR n3 [ptr r] T_p_net_Net :: L')[i]? = some R -> R.Q h' := fun i R hi => o'.get (Rs.length + i) (by rw [List.getElem?_append_right (by omega), show Rs.length + i - Rs.length = i by omega]; exact hi)
  exact ⟨q 1 _ rfl, q 0 _ rfl, q 2 _ rfl, hp.more o'.ext, hN.more o'.ext⟩
 refine collectR_ok (hN := (by omega : ms.length < 2 ^ 40)) (f := fun i => (g.toI (ms.getD i 0 : Nat)).dist) o5 (trows_iter (v := v) (r := r) (m4 := m4) (r5 := r5) (n3 := n3) (T1 := T_sl_int) (T2 := T_funcnet_Net_int_flood_Tree) (T3 := T_p_net_Net) (toRun hR) (by omega)) (fun Rs h' o' => hQ _ _ _ _ Rs _ h' o') fun tv ps h6 hps o6 => ?_
 have o6 := o6.sel [0, 4] (by decide)
 clear o5 o4 o3 o2
 refine callS_of (lk_table_rows _ _ _ ?_)
 unfold sh_table_rows
 refine o6.box fun n3' h7 o7 => o7.box fun m4' h8 o8 => o8.box fun r5' h9 o9 => ?_
 rw [hv1] at o9
 refine collectR_ok (hN := (by omega : ms.length < 2 ^ 40)) (f := fun i => (g.fromI (ms.getD i 0 : Nat)).dist) o9 (trows_iter (v := v) (r := r) (m4 := m4') (r5 := r5') (n3 := n3') (T1 := T_sl_int) (T2 := T_funcnet_Net_int_flood_Tree) (T3 := T_p_net_Net) (fromRun hR) (by omega)) (fun Rs h' o' => hQ _ _ _ _ Rs _ h' o') fun fv qs h10 hqs o10 => ?_
 have o11 : Own h h10 [tabR fv qs, tabR tv ps, slR encI 1 T_int mv (nI ms)] := o10.sel [0, 4, 5] (by decide)
 have p1 := (tabR_view o11 (i := 0) rfl rfl)
 have p2 := (tabR_view o11 (i := 1) rfl rfl)
 obtain ⟨_, _, p1, _⟩ := p1
 obtain ⟨_, _, p2, _⟩ := p2
 have p3 := o11.vw 2 rfl
 refine pBuild_ones (cs' := tabCs g.n mv tv fv) ?_ rfl rfl ?_
 ·intro p hp
  simp at hp
  rcases hp with rfl | rfl | rfl | rfl
  ·rfl
  ·exact p3.one
  ·exact p2.one
  ·exact p1.one
 refine o11.box fun t h11 o12 => ?_
 refine hK t mv tv fv ps qs h11 (hps.trans (range_map ms (fun m => (g.toI (m : Nat)).dist) 0)) (hqs.trans (range_map ms (fun m => (g.fromI (m : Nat)).dist) 0)) (o.frame (o12.sel [0, 3, 2, 1] (by decide)))

theorem tableR_view {mv tv fv : Value} {ps qs : List Row} (o : Own h0 h (tableR t g.n mv tv fv ms ps qs ++ L)) (h1 : ps.map (·.l) = ms.map (fun (m : Nat) => (g.toI m).dist)) (h2 : qs.map (·.l) = ms.map (fun (m : Nat) => (g.fromI m).dist)) : TableV h t g ms :=
 ⟨mv, tv, fv, o.get 0 rfl, o.vw 1 rfl, tabR_view o (i := 2) rfl h1, tabR_view o (i := 3) rfl h2⟩

theorem tmarks_ok (o : Own h0 h L) (H : TableV h t g ms) (hl : ms.length <= 16) (hK : ∀ w h', Own h0 h' (slR encI 1 T_int w (nI ms) :: L) -> K w h') : callS Tryz.prog F_table_Table_Marks [ptr t] h K := by
 obtain ⟨mv, tv, fv, a, b, c, d⟩ := H.ex
 refine callS_of (lk_table_Table_Marks _ ?_)
 unfold sh_table_Table_Marks
 have c0 : hcell h ⟨t, 1, none⟩ = some mv := hcell_of a rfl
 simp only [pEq_ptr_nil, Option.isNone_some, ifV_false, pNil_ptr, pField_ptr, pLoad_ptr, Nat.zero_add, c0]
 exact clone_intZ o b (by rw [nI_len]; omega) hK

end
open Go Go.Mh

section
variable {h0 h : Heap} {L : List Res} {K : Value -> Heap -> Prop} {g : G} {r c : Nat} {v : Value} {xs ys : List Int}

theorem equalI_ok {va vb : Value} (Ha : Vw encI 1 h va xs) (Hb : Vw encI 1 h vb ys) (hl : xs.length < 2 ^ 40) (hK : K (.bool (decide (xs = ys))) h) : callS Tryz.prog F_slices_Equal_sl_int_int [va, vb] h K := by
 refine callS_of (lk_slices_Equal_sl_int_int _ _ ?_)
 unfold sh_slices_Equal_sl_int_int
 refine Ha.len (Hb.len ?_)
 by_cases hxy : xs.length = ys.length
 ·rw [pBin_neq, show ((xs.length : Int) != (ys.length : Int)) = false by simp [hxy], ifV_false]
  refine Ha.len ?_
  refine LoopH_count xs.length (fun i x h' => x.1 = I i /\ h' = h /\ xs.take i = ys.take i) ⟨rfl, rfl, rfl⟩ ?_
  rintro i ⟨x, ⟨⟩⟩ h' Z hi ⟨hx, rfl, hp⟩ hZ
  dsimp only at hx hZ ⊢
  subst hx
  unfold sh_slices_Equal_sl_int_int_L1
  simp only [pBin_lss, ifV_dec]
  refine ⟨fun hlt => ?_, fun hge => ?_⟩
  ·have hlt : i < xs.length := by omega
   refine Ha.atI hlt (Hb.atI (by omega) ?_)
   rw [pBin_neq]
   by_cases e : xs[i] = ys[i]'(by omega)
   ·rw [e, bne_self_eq_false, ifV_false, pBin_add, wI i (by omega)]
    refine hZ (I (i + 1 : Nat), ()) _ hlt ⟨rfl, rfl, ?_⟩
    rw [List.take_succ_eq_append_getElem hlt, List.take_succ_eq_append_getElem (show i < ys.length by omega), hp, e]
   ·rw [show (xs[i] != ys[i]'(by omega)) = true by simpa using e, ifV_true]
    have : xs ≠ ys := fun h => e (by subst h; rfl)
    rw [decide_eq_false this] at hK
    exact hK
  ·have : xs = ys := by
    rw [List.take_of_length_le (by omega), List.take_of_length_le (by omega)] at hp; exact hp
   rw [decide_eq_true this] at hK
   exact hK
 ·rw [pBin_neq, show ((xs.length : Int) != (ys.length : Int)) = true by simp; omega, ifV_true]
  have : xs ≠ ys := fun h => hxy (by rw [h])
  rw [decide_eq_false this] at hK
  exact hK

theorem maxI_ok (H : Vw encI 1 h v xs) (hne : xs ≠ []) (hl : xs.length < 2 ^ 40) (hK : K (I (maxL xs)) h) : callS Tryz.prog F_slices_Max_sl_int_int [v] h K := by
 refine callS_of (lk_slices_Max_sl_int_int _ ?_)
 unfold sh_slices_Max_sl_int_int
 cases xs with
 | nil => exact absurd rfl hne
 | cons z rs =>
 refine H.len ?_
 rw [pBin_lss, decide_eq_false (by rw [List.length_cons]; omega), ifV_false]
 refine H.atI (i := 0) (by simp) ?_
 refine LoopH_count rs.length (fun i x h' => x.1 = I ((rs.take i).foldl max z) /\ x.2.1 = I (i + 1 : Nat) /\ h' = h) ⟨rfl, rfl, rfl⟩ ?_
 rintro i ⟨y, x, ⟨⟩⟩ h' Z hi ⟨hy, hx, rfl⟩ hZ
 dsimp only at hy hx hZ ⊢
 subst hy hx
 unfold sh_slices_Max_sl_int_int_L1
 refine H.len ?_
 rw [List.length_cons] at hl ⊢
 simp only [pBin_lss, ifV_dec]
 refine ⟨fun hlt => ?_, fun hge => ?_⟩
 ·have hlt : i < rs.length := by omega
  refine H.atI (i := i + 1) (by simp; omega) ?_
  rw [List.getElem_cons_succ, pMax_int, pBin_add, wI (i + 1) (by omega)]
  refine hZ (_, (I (i + 1 + 1 : Nat), ())) _ hlt ⟨?_, rfl, rfl⟩
  rw [List.take_succ_eq_append_getElem hlt, List.foldl_append, List.foldl_cons, List.foldl_nil]
  have hm : ∀ a b : Int, (if b > a then b else a) = max a b := fun a b => by
   rw [Int.max_def]; split <;> split <;> omega
  rw [hm]
 ·have : rs.take i = rs := List.take_of_length_le (by omega)
  rw [this]
  exact hK

theorem norm_ok (o : Own h0 h L) (H : Vw encI 1 h v xs) (hl : xs.length < 2 ^ 40) (hK : ∀ w h', Own h0 h' (slR encI 1 T_int w (norm xs) :: L) -> K w h') : callS Tryz.prog F_cell_Norm [v] h K := by
 refine callS_of (lk_cell_Norm _ ?_)
 unfold sh_cell_Norm
 refine callS_of (lk_cell_namer ?_)
 unfold sh_cell_namer
 refine (Own.start h).mkMap fun m h1 o1 => o1.box fun n h2 o2 => o2.st1 0 (cs' := [.map (some m)]) rfl rfl rfl rfl rfl fun h3 o3 => ?_
 refine callS_of (lk_cell_each_int_int _ _ ?_)
 unfold sh_cell_each_int_int
 have o4 : Own h h3 (slR encI 1 T_int (.slice none 0 0) ([] : List Int) :: cellR n [.map (some m)] T_map_int_int :: mapR m (nameF []) :: []) := Own.nilS (enc := encI) (n := 1) (T := T_int) o3
 refine H.len ?_
 refine LoopH_count xs.length (fun i x h' => x.2.1 = I i /\ Own h h' (slR encI 1 T_int x.1 (normGo [] (xs.take i)) :: cellR n [.map (some m)] T_map_int_int :: mapR m (nameF (nms [] (xs.take i))) :: [])) ⟨rfl, o4⟩ ?_
 clear o1 o2 o3 o4
 rintro i ⟨w, x, ⟨⟩⟩ h' Z hi ⟨hx, o'⟩ hZ
 dsimp only at hx hZ ⊢ o'
 subst hx
 unfold sh_cell_each_int_int_L1
 simp only [pBin_lss, ifV_dec]
 refine ⟨fun hlt => ?_, fun hge => ?_⟩
 ·have hlt : i < xs.length := by omega
  refine (H.more o'.ext).atI hlt ?_
  refine callV_of (l := [I xs[i], ptr n]) rfl (lk_cell_namer_1 _ _ ?_)
  unfold sh_cell_namer_1
  have hlen : (nms [] (xs.take i)).length <= i := by
   have := nms_len (l := xs.take i) (ns := []); rw [List.length_take, List.length_nil] at this; omega
  have hnl : (normGo [] (xs.take i)).length <= i := by rw [normGo_len, List.length_take]; omega
  have e1 : normGo [] (xs.take (i + 1)) = normGo [] (xs.take i) ++ [((nms [] (xs.take i)).idxOf xs[i] : Int)] := by
   rw [List.take_succ_eq_append_getElem hlt, normGo_append]; rfl
  have e2 : nms [] (xs.take (i + 1)) = addN (nms [] (xs.take i)) xs[i] := by
   rw [List.take_succ_eq_append_getElem hlt, nms_append]; rfl
  have fin : ∀ h'', Own h h'' (slR encI 1 T_int w (normGo [] (xs.take i)) :: cellR n [.map (some m)] T_map_int_int :: mapR m (nameF (nms [] (xs.take (i + 1)))) :: []) -> pBuildSlice T_int (zerosL [(.int .i64 0)] 1) [(0, 1, I ((nms [] (xs.take i)).idxOf xs[i] : Nat))] 1 h'' fun t17 h_3 =>
    pAppend T_int 1 8 [(.int .i64 0)] w t17 h_3 fun t18 h_4 => pBin .add (I i) (.int .i64 1) fun t19 => (fun a0 a1 hz => Z (a0, (a1, ())) hz) t18 t19 h_4 := fun h'' o2 => by
   refine o2.app1 0 ((nms [] (xs.take i)).idxOf xs[i] : Int) rfl rfl (sizesOk_of rfl) (fun _ => rfl) encI_plain rfl (by decide) (by omega) fun w' h5 o5 => ?_
   rw [pBin_add, wI i (by omega)]
   refine hZ (w', (I (i + 1 : Nat), ())) h5 hlt ⟨rfl, ?_⟩
   rw [e1]; exact o5
  refine o'.load 1 rfl rfl (o'.look 2 rfl ?_)
  simp only [if_true, pExt0, pExt1]
  by_cases hz : xs[i] ∈ nms [] (xs.take i)
  ·have e3 : nameF (nms [] (xs.take i)) xs[i] = some (I ((nms [] (xs.take i)).idxOf xs[i] : Nat)) := if_pos hz
   rw [e3, Option.isSome_some, pUn_not, Bool.not_true, ifV_false]
   unfold sh_cell_namer_1_k1
   refine fin h' ?_
   rw [e2, show addN (nms [] (xs.take i)) xs[i] = nms [] (xs.take i) from if_pos hz]
   exact o'
  ·have e3 : nameF (nms [] (xs.take i)) xs[i] = none := if_neg hz
   rw [e3, Option.isSome_none, pUn_not, Bool.not_false, ifV_true]
   refine o'.load 1 rfl rfl ?_
   obtain ⟨es, cl, hm1, hm2⟩ := o'.get 2 rfl
   have hsz := nameF_len hm2 (nms_nodup .nil)
   simp only [pLenM, hm1]
   refine o'.load 1 rfl rfl (o'.mapPut 2 rfl (f' := nameF (nms [] (xs.take (i + 1)))) (fun x => ?_) fun h2 o2 => ?_)
   ·rw [e2, show addN (nms [] (xs.take i)) xs[i] = nms [] (xs.take i) ++ [xs[i]] from if_neg hz, nameF_add hz, hsz]
   ·unfold sh_cell_namer_1_k1
    have := fin h2 o2
    rw [List.idxOf_eq_length hz, <- hsz] at this
    exact this
 ·have : xs.take i = xs := List.take_of_length_le (by omega)
  rw [this] at o'
  exact hK w h' (o.frame (o'.sel [0] (by decide)))

def cellCs (v : Value) (l : List Int) : List Value := [v, I (maxL l + 1)]
def CellV (h : Heap) (c : Nat) (l : List Int) : Prop := ∃ v, h[c]? = some (.cells (cellCs v l).toArray T_cell_Cells (0, 0)) /\ Vw encI 1 h v l
theorem CellV.more {h' : Heap} (H : CellV h c xs) (x : Ext h h') : CellV h' c xs := by
 obtain ⟨s, h1, h2⟩ := H
 exact ⟨s, x.get h1, h2.more x⟩

theorem cnew_ok (o : Own h0 h L) (p : Nat) (hp : L[p]? = some (slR encI 1 T_int v xs)) (hne : xs ≠ []) (hn : norm xs = xs) (hl : xs.length < 2 ^ 40) (hm : maxL xs < 256) (hm0 : 0 <= maxL xs)
  (hK : ∀ c v' h', Own h0 h' (cellR c (cellCs v' xs) T_cell_Cells :: slR encI 1 T_int v' xs :: L) -> K (ptr c) h') : callS Tryz.prog F_cell_New [v] h K := by
 refine callS_of (lk_cell_New _ ?_)
 unfold sh_cell_New
 refine (o.vw p hp).len ?_
 have hpos : 0 < xs.length := List.length_pos_iff.2 hne
 rw [pBin_eql, show ((xs.length : Int) == 0) = false by simp; omega, ifV_false]
 refine norm_ok o (o.vw p hp) hl fun w h1 o1 => ?_
 refine equalI_ok (o1.vw 0 rfl) (o1.vw (p + 1) (by simpa using hp)) (by rw [hn]; exact hl) ?_
 rw [decide_eq_true hn, pUn_not, Bool.not_true, ifV_false]
 refine clone_intZ o1 (o1.vw (p + 1) (by simpa using hp)) (by omega) fun v' h2 o2 => ?_
 refine maxI_ok (o2.vw (p + 2) (by simpa using hp)) hne hl ?_
 rw [pBin_add, w64 (by omega) (by omega)]
 have hv := o2.vw 0 rfl
 refine pBuild_ones (cs' := cellCs v' xs) ?_ rfl rfl ?_
 ·intro p hp
  simp at hp
  rcases hp with rfl | rfl
  ·exact hv.one
  ·rfl
 refine o2.box fun c h3 o3 => ?_
 have o3 : Own h0 h3 (cellR c (cellCs v' xs) T_cell_Cells :: slR encI 1 T_int v' xs :: slR encI 1 T_int w (norm xs) :: L) := o3
 simp only [pNil_ptr, pField_ptr]
 refine o3.load 0 rfl rfl ?_
 rw [pBin_gtr, decide_eq_false (by omega), ifV_false]
 exact hK c v' h3 (o3.erase 2)

theorem cof_ok {i : Nat} (H : CellV h c xs) (hi : i < xs.length) (hK : K (I (dAt xs i)) h) : callS Tryz.prog F_cell_Cells_Of [ptr c, I i] h K := by
 obtain ⟨s, hb, hv⟩ := H
 refine callS_of (lk_cell_Cells_Of _ _ ?_)
 unfold sh_cell_Cells_Of
 have c0 : hcell h ⟨c, 0, none⟩ = some s := hcell_of hb rfl
 simp only [pEq_ptr_nil, Option.isNone_some, ifV_false]
 rw [pBin_lss, decide_eq_false (by omega), ifV_false]
 simp only [pNil_ptr, pField_ptr, pLoad_ptr, Nat.zero_add, c0]
 refine hv.len ?_
 rw [pBin_geq, decide_eq_false (by omega), ifV_false]
 refine hv.idxI hi fun b o hc => ?_
 simp only [pLoad_ptr, hc]
 rw [dAt_get hi]
 exact hK

theorem cmany_ok (H : CellV h c xs) (hK : K (I (maxL xs + 1)) h) : callS Tryz.prog F_cell_Cells_Many [ptr c] h K := by
 obtain ⟨s, hb, hv⟩ := H
 refine callS_of (lk_cell_Cells_Many _ ?_)
 unfold sh_cell_Cells_Many
 have c0 : hcell h ⟨c, 1, none⟩ = some (I (maxL xs + 1)) := hcell_of hb rfl
 simp only [pEq_ptr_nil, Option.isNone_some, ifV_false, pNil_ptr, pField_ptr, pLoad_ptr, Nat.zero_add, c0]
 exact hK

theorem cmap_ok (o : Own h0 h L) (H : CellV h c xs) (hl : xs.length <= 2 ^ 40) (hK : ∀ w h', Own h0 h' (slR encI 1 T_int w xs :: L) -> K w h') : callS Tryz.prog F_cell_Cells_Map [ptr c] h K := by
 obtain ⟨s, hb, hv⟩ := H
 refine callS_of (lk_cell_Cells_Map _ ?_)
 unfold sh_cell_Cells_Map
 have c0 : hcell h ⟨c, 0, none⟩ = some s := hcell_of hb rfl
 simp only [pEq_ptr_nil, Option.isNone_some, ifV_false, pNil_ptr, pField_ptr, pLoad_ptr, Nat.zero_add, c0]
 exact clone_intZ o hv hl hK

end
open Go Go.Mh

section
variable {h0 h : Heap} {L : List Res} {K : Value -> Heap -> Prop} {vd : Value}

theorem collectB_int {fv : Value} {Q : Heap -> Prop} {σ : Type} {s0 : σ} {next : σ -> List Value -> σ -> Prop} {stop : σ -> Prop} (o : Own h0 h L) (hI : IterG Tryz.prog fv Q s0 next stop) (g : σ -> List Int) (g0 : g s0 = [])
  (hf : ∀ s x s', next s x s' -> ∃ a, x = [I a] /\ g s' = g s ++ [a] /\ (g s').length < 2 ^ 40) (hQ : ∀ (Rs : List Res) h', Own h0 h' (Rs ++ L) -> Q h')
  (hK : ∀ w h' s, stop s -> Own h0 h' (slR encI 1 T_int w (g s) :: L) -> K w h') : callS Tryz.prog F_slices_Collect_int [fv] h K := by
 refine callS_of (lk_slices_Collect_int _ ?_)
 unfold sh_slices_Collect_int
 refine callS_of (lk_slices_AppendSeq_sl_int_int _ _ ?_)
 unfold sh_slices_AppendSeq_sl_int_int
 refine o.box fun s2 h1 o1 => ?_
 have o2 : Own h0 h1 (slR encI 1 T_int (.slice none 0 0) (g s0) :: cellR s2 [.slice none 0 0] T_sl_int :: L) := by
  rw [g0]; exact Own.nilS (enc := encI) (n := 1) (T := T_int) o1
 refine o2.range hI (fun s x s' hn => by obtain ⟨a, rfl, _⟩ := hf s x s' hn; rfl)
  (fun s Rs => ∃ w, Rs = slR encI 1 T_int w (g s) :: cellR s2 [w] T_sl_int :: L) (fun _ => False) (fun _ _ => False) ⟨_, rfl⟩ ?_ ?_ ?_ (fun _ _ h => h.elim) (fun _ _ _ h => h.elim)
 ·rintro s Rs h' ⟨w, rfl⟩ o'
  exact hQ [_, _] h' o'
 ·rintro M s x s' Rs Pr h' R hn ⟨w, rfl⟩ o' hN _ _
  obtain ⟨a, rfl, hg, hgl⟩ := hf s x s' hn
  dsimp only [valsOf]
  unfold sh_slices_AppendSeq_sl_int_int_B1
  refine o'.begin 0 rfl fun h4 o4 => ?_
  have o4 : Own h0 h4 (loopR _ _ :: markR _ :: slR encI 1 T_int w (g s) :: cellR s2 [w] T_sl_int :: (L ++ Pr)) := o4
  refine o4.load 3 rfl rfl ?_
  rw [hg, List.length_append] at hgl
  refine o4.app1 2 a rfl rfl (sizesOk_of rfl) (fun _ => rfl) encI_plain rfl (by decide) (by simp at hgl; omega) fun w' h5 o5 => ?_
  have hw' := o5.vw 2 rfl
  refine o5.st1 3 (cs' := [w']) rfl rfl rfl hw'.one hw'.plain fun h6 o6 => ?_
  refine hN _ h6 ⟨w', rfl⟩ ?_
  rw [hg]
  exact o6
 ·rintro s h' Rs hs ⟨w, rfl⟩ o'
  refine o'.load 2 rfl rfl (o'.take1 0 rfl fun h10 o10 => hK w h10 s hs ?_)
  exact o10.tail.front 2 [0] (by decide) (by decide)

end
open Go Go.Mh

section
variable {h0 h : Heap} {L : List Res} {K : Value -> Heap -> Prop} {b rows wide long row i : Nat} {s : Value} {bs : List UInt8}

theorem pIdx_mono {n : Nat} {x i : Value} {K K' : Value -> Prop} (h : pIdx n x i K) (hk : ∀ v, K v -> K' v) : pIdx n x i K' := by
 unfold pIdx at *
 split
 ·exact ⟨h.1, h.2.1, hk _ h.2.2⟩
 ·rename_i hno
  split at h
  ·exact (hno _ _ _ _ _ _ rfl rfl).elim
  ·exact h

def bitCs (rows wide : Nat) (s : Value) : List Value := [I rows, I wide, I (longB wide : Nat), s]
def BitV (h : Heap) (b rows wide : Nat) (bs : List UInt8) : Prop := ∃ s, h[b]? = some (.cells (bitCs rows wide s).toArray T_bits_Rows (0, 0)) /\ Vw encB8 1 h s bs
theorem BitV.more {h' : Heap} (H : BitV h b rows wide bs) (x : Ext h h') : BitV h' b rows wide bs := by
 obtain ⟨s, h1, h2⟩ := H
 exact ⟨s, x.get h1, h2.more x⟩

theorem brows_ok (hb : h[b]? = some (.cells (bitCs rows wide s).toArray T_bits_Rows (0, 0))) (hK : K (I rows) h) : callS Tryz.prog F_bits_Rows_Rows [ptr b] h K := by
 refine callS_of (lk_bits_Rows_Rows _ ?_)
 unfold sh_bits_Rows_Rows
 have c0 : hcell h ⟨b, 0, none⟩ = some (I rows) := hcell_of hb rfl
 simp only [pEq_ptr_nil, Option.isNone_some, ifV_false, pNil_ptr, pField_ptr, pLoad_ptr, Nat.zero_add, c0]
 exact hK
theorem bwide_ok (hb : h[b]? = some (.cells (bitCs rows wide s).toArray T_bits_Rows (0, 0))) (hK : K (I wide) h) : callS Tryz.prog F_bits_Rows_Wide [ptr b] h K := by
 refine callS_of (lk_bits_Rows_Wide _ ?_)
 unfold sh_bits_Rows_Wide
 have c0 : hcell h ⟨b, 1, none⟩ = some (I wide) := hcell_of hb rfl
 simp only [pEq_ptr_nil, Option.isNone_some, ifV_false, pNil_ptr, pField_ptr, pLoad_ptr, Nat.zero_add, c0]
 exact hK

theorem maskV {k : Nat} {K : Value -> Prop} (hk : k < 8) (hK : K (.int .u8 (mkB k).toNat)) : pBin .shl (.int .u8 1) (I k) K := by
 show 0 <= (k : Int) /\ K (.int .u8 (IntKind.u8.wrap (1 * 2 ^ (min (k : Int).toNat IntKind.u8.bits))))
 rw [mask_val ⟨k, hk⟩]
 exact ⟨by omega, hK⟩

theorem bplace_ok {dov : Value} (hb : h[b]? = some (.cells (bitCs rows wide s).toArray T_bits_Rows (0, 0))) (h1 : row < rows) (h2 : i < wide) (hm : rows * longB wide < 2 ^ 40)
  (hK : pIdx 1 s (I (row * longB wide + i / 8 : Nat)) fun t => callV Tryz.prog dov [t, .int .u8 (mkB (i % 8)).toNat].toArray h K) : callS Tryz.prog F_bits_Rows_place [ptr b, I row, I i, dov] h K := by
 refine callS_of (lk_bits_Rows_place _ _ _ _ ?_)
 unfold sh_bits_Rows_place
 rw [pBin_lss, decide_eq_false (by omega), ifV_false]
 refine brows_ok hb ?_
 rw [pBin_geq, decide_eq_false (by omega), ifV_false, pBin_lss, decide_eq_false (by omega), ifV_false]
 refine bwide_ok hb ?_
 rw [pBin_geq, decide_eq_false (by omega), ifV_false]
 have c2 : hcell h ⟨b, 2, none⟩ = some (I (longB wide : Nat)) := hcell_of hb rfl
 have c3 : hcell h ⟨b, 3, none⟩ = some s := hcell_of hb rfl
 simp only [pNil_ptr, pField_ptr, pLoad_ptr, Nat.zero_add, c2, c3]
 have hq := longB_lt h2
 have hlt := row_lt h1 hq
 have e1 : (row : Int) * (longB wide : Nat) = ((row * longB wide : Nat) : Int) := by rw [Int.natCast_mul]
 rw [pBin_mul, e1, w64 (by omega) (by omega), pBin_quo]
 refine ⟨by decide, ?_⟩
 have e2 : (i : Int).tdiv 8 = ((i / 8 : Nat) : Int) := by rw [Int.tdiv_eq_ediv_of_nonneg (by omega)]; omega
 rw [e2, w64 (by omega) (by omega), pBin_add, w64 (by omega) (by omega)]
 have e3 : ((row * longB wide : Nat) : Int) + ((i / 8 : Nat) : Int) = ((row * longB wide + i / 8 : Nat) : Int) := by omega
 rw [e3]
 have fin : ∀ t, callV Tryz.prog dov [t, .int .u8 (mkB (i % 8)).toNat].toArray h K -> pBin .rem (I i) (.int .i64 8) fun t43 => pBin .shl (.int .u8 1) t43 fun t44 => callV Tryz.prog dov [t, t44].toArray h fun t45 h_4 => K t45 h_4 := fun t ht => by
  rw [pBin_rem]
  refine ⟨by decide, ?_⟩
  have e4 : (i : Int).tmod 8 = ((i % 8 : Nat) : Int) := by rw [Int.tmod_eq_emod_of_nonneg (by omega)]; omega
  rw [e4]
  exact maskV (by omega) ht
 exact pIdx_mono hK fin

theorem bget_ok (H : BitV h b rows wide bs) (h1 : row < rows) (h2 : i < wide) (hm : rows * longB wide < 2 ^ 40) (hl : bs.length = rows * longB wide) (hK : K (.bool (getB bs (longB wide) row i)) h) : callS Tryz.prog F_bits_Rows_Get [ptr b, I row, I i] h K := by
 obtain ⟨s, hb, hv⟩ := H
 refine callS_of (lk_bits_Rows_Get _ _ _ ?_)
 unfold sh_bits_Rows_Get
 have hlt := row_lt h1 (longB_lt h2)
 refine bplace_ok hb h1 h2 hm ?_
 refine hv.idx (fun _ => rfl) (by omega) fun bl o hc => ?_
 have hc : hcell h ⟨bl, o, none⟩ = some (.int .u8 (bs[row * longB wide + i / 8]'(by omega)).toNat) := by simpa [encB8] using hc 0 (by omega)
 refine callV_of (l := [.pointer (some ⟨bl, o, none⟩), .int .u8 (mkB (i % 8)).toNat]) rfl (lk_bits_Rows_Get_1 _ _ ?_)
 unfold sh_bits_Rows_Get_1
 simp only [pNil_ptr, pLoad_ptr, hc]
 refine ⟨rfl, ?_⟩
 dsimp only
 rw [pBin_neq, and_val _ ⟨i % 8, by omega⟩]
 unfold getB at hK
 rw [List.getD_eq_getElem?_getD, List.getElem?_eq_getElem (by omega), Option.getD_some] at hK
 exact hK

theorem bset_ok (o : Own h0 h L) (p q : Nat) (hpq : p ≠ q) (hp : L[p]? = some (cellR b (bitCs rows wide s) T_bits_Rows)) (hq : L[q]? = some (slR encB8 1 T_uint8 s bs)) (h1 : row < rows) (h2 : i < wide) (hm : rows * longB wide < 2 ^ 40) (hl : bs.length = rows * longB wide)
  (hK : ∀ h', Own h0 h' (L.set q (slR encB8 1 T_uint8 s (setB bs (longB wide) row i))) -> K (.bool true) h') : callS Tryz.prog F_bits_Rows_Set [ptr b, I row, I i, .bool true] h K := by
 refine callS_of (lk_bits_Rows_Set _ _ _ _ ?_)
 unfold sh_bits_Rows_Set
 have hlt := row_lt h1 (longB_lt h2)
 refine o.box fun t h1' o1 => ?_
 have hp1 : (cellR t [Value.bool true] T_bool :: L)[p + 1]? = some (cellR b (bitCs rows wide s) T_bits_Rows) := by simpa using hp
 have hq1 : (cellR t [Value.bool true] T_bool :: L)[q + 1]? = some (slR encB8 1 T_uint8 s bs) := by simpa using hq
 have o1 : Own h0 h1' (cellR t [Value.bool true] T_bool :: L) := o1
 refine bplace_ok (o1.get (p + 1) hp1) h1 h2 hm ?_
 refine o1.idxAt (q + 1) hq1 (by omega) fun bl H hbl => ?_
 have hc : hcell h1' ⟨bl, (row * longB wide + i / 8) * 1, none⟩ = some (.int .u8 (bs[row * longB wide + i / 8]'(by omega)).toNat) := H.slot (m := 1) (fun _ => rfl) (by omega) (j := 0) (by decide)
 refine callV_of (l := [.pointer (some ⟨bl, (row * longB wide + i / 8) * 1, none⟩), .int .u8 (mkB (i % 8)).toNat, ptr t]) rfl (lk_bits_Rows_Set_1 _ _ _ ?_)
 unfold sh_bits_Rows_Set_1
 simp only [pNil_ptr, pLoad_ptr, hc]
 refine ⟨rfl, ?_⟩
 dsimp only
 rw [andNot_val _ ⟨i % 8, by omega⟩]
 have hgd : bs.getD (row * longB wide + i / 8) 0 = bs[row * longB wide + i / 8]'(by omega) := by rw [List.getD_eq_getElem?_getD, List.getElem?_eq_getElem (by omega), Option.getD_some]
 have hset : ∀ (bs' : List UInt8) (y : UInt8), bs'.length = bs.length -> bs'.take (row * longB wide + i / 8) ++ [y] ++ bs'.drop (row * longB wide + i / 8 + [y].length) = bs'.set (row * longB wide + i / 8) y := fun bs' y hy => by
  rw [List.set_eq_take_append_cons_drop, if_pos (by omega)]; simp
 refine ⟨rfl, ?_⟩
 refine o1.storeRow (ys := [bs[row * longB wide + i / 8]'(by omega) &&& ~~~mkB (i % 8)]) (q + 1) hq1 (fun _ => rfl) encB8_plain H hbl (by simp; omega) fun h2' o2 => ?_
 rw [hset bs _ rfl] at o2
 refine o2.load 0 rfl rfl ?_
 rw [ifV_true]
 have hq2 : ((cellR t [Value.bool true] T_bool :: L).set (q + 1) (slR encB8 1 T_uint8 s (bs.set (row * longB wide + i / 8) (bs[row * longB wide + i / 8]'(by omega) &&& ~~~mkB (i % 8)))))[q + 1]? = some (slR encB8 1 T_uint8 s (bs.set (row * longB wide + i / 8) (bs[row * longB wide + i / 8]'(by omega) &&& ~~~mkB (i % 8)))) := set_get hq1
 obtain ⟨bl2, H2⟩ := o2.get (q + 1) hq2
 have e2 := H2.blk hbl
 subst e2
 have hc2 : hcell h2' ⟨bl, (row * longB wide + i / 8) * 1, none⟩ = some (.int .u8 (bs[row * longB wide + i / 8]'(by omega) &&& ~~~mkB (i % 8)).toNat) := by
  have := H2.slot (m := 1) (fun _ => rfl) (i := row * longB wide + i / 8) (by rw [List.length_set]; omega) (j := 0) (by decide)
  rw [List.getElem_set_self] at this
  exact this
 simp only [pNil_ptr, pLoad_ptr, hc2]
 refine ⟨rfl, ?_⟩
 dsimp only
 rw [or_val _ ⟨i % 8, by omega⟩]
 refine ⟨rfl, ?_⟩
 refine o2.storeRow (ys := [setx (bs[row * longB wide + i / 8]'(by omega)) (i % 8)]) (q + 1) hq2 (fun _ => rfl) encB8_plain H2 hbl (by simp; omega) fun h3 o3 => ?_
 rw [hset _ _ (by simp), List.set_set, List.set_set] at o3
 unfold sh_bits_Rows_Set_1_k1
 refine hK h3 ?_
 unfold setB
 rw [hgd]
 exact o3.tail

end
open Go Go.Mh

section
variable {h0 h : Heap} {L : List Res} {K : Value -> Heap -> Prop} {b rows wide row : Nat} {s : Value} {bs : List UInt8}

theorem bnew_ok (o : Own h0 h L) (hw : wide <= 67108864) (hr : rows * longB wide <= 268435456) (hr1 : rows < 2 ^ 40)
  (hK : ∀ b s h', Own h0 h' (cellR b (bitCs rows wide s) T_bits_Rows :: slR encB8 1 T_uint8 s (List.replicate (rows * longB wide) 0) :: L) -> K (ptr b) h') : callS Tryz.prog F_bits_New [I rows, I wide] h K := by
 refine callS_of (lk_bits_New _ _ ?_)
 unfold sh_bits_New
 have fin : sh_bits_New_k2 Tryz.prog (I rows) (I (longB wide : Nat)) (I wide) K h := by
  unfold sh_bits_New_k2
  have e1 : (rows : Int) * (longB wide : Nat) = ((rows * longB wide : Nat) : Int) := by rw [Int.natCast_mul]
  rw [pBin_mul, e1, w64 (by omega) (by omega)]
  refine o.make (enc := encB8) (n := 1) (a := 0) rfl (by omega) (by omega) fun w h1 o1 => ?_
  have hv := o1.vw 0 rfl
  refine pBuild_ones (cs' := [I rows, I wide, I (longB wide : Nat), w]) ?_ rfl rfl ?_
  ·intro p hp
   simp at hp
   rcases hp with rfl | rfl | rfl | rfl
   ·rfl
   ·rfl
   ·rfl
   ·exact hv.one
  refine o1.box fun b h2 o2 => hK b w h2 o2
 rw [pBin_lss, decide_eq_false (by omega), ifV_false, pBin_lss, decide_eq_false (by omega), ifV_false, pBin_gtr, decide_eq_false (by omega), ifV_false, pBin_add, w64 (by omega) (by omega), pBin_sub, w64 (by omega) (by omega), pBin_quo]
 refine ⟨by decide, ?_⟩
 have e2 : ((wide : Int) + 8 - 1).tdiv 8 = ((longB wide : Nat) : Int) := by rw [Int.tdiv_eq_ediv_of_nonneg (by omega)]; unfold longB; omega
 have hlb : longB wide <= 67108864 := by unfold longB; omega
 rw [e2, w64 (by omega) (by omega), pBin_gtr, ifV_dec]
 refine ⟨fun hp => ?_, fun _ => fin⟩
 rw [pBin_quo]
 refine ⟨by omega, ?_⟩
 have e3 : (268435456 : Int).tdiv ((longB wide : Nat) : Int) = ((268435456 / longB wide : Nat) : Int) := by rw [Int.tdiv_eq_ediv_of_nonneg (by omega)]; exact (Int.natCast_ediv 268435456 (longB wide)).symm
 have h3 : rows <= 268435456 / longB wide := (Nat.le_div_iff_mul_le (by omega)).2 hr
 have h4 : 268435456 / longB wide <= 268435456 := Nat.div_le_self _ _
 rw [e3, w64 (by omega) (by omega), pBin_gtr, decide_eq_false (by omega), ifV_false]
 exact fin

def onL (n : Nat) (f : Nat -> Bool) (s : Nat) : List Nat := (List.range s).filter f
theorem onL_next {n : Nat} {f : Nat -> Bool} {s j : Nat} (hs : s <= j) (hf : f j = true) (hno : ∀ k, s <= k -> k < j -> f k = false) : onL n f (j + 1) = onL n f s ++ [j] := by
 unfold onL
 rw [List.range_succ, List.filter_append]
 have e : (List.range j).filter f = (List.range s).filter f := by
  obtain ⟨d, rfl⟩ := Nat.le.dest hs
  rw [List.range_add, List.filter_append]
  have : ((List.range d).map (s + ·)).filter f = [] := by
   rw [List.filter_eq_nil_iff]
   intro x hx
   obtain ⟨k, hk, rfl⟩ := List.mem_map.1 hx
   have := List.mem_range.1 hk
   rw [hno _ (by omega) (by omega)]; decide
  rw [this, List.append_nil]
 rw [e]
 simp [hf]
theorem onL_stop {n : Nat} {f : Nat -> Bool} {s : Nat} (hs : s <= n) (h : mkStop n f s) : onL n f s = (List.range n).filter f := by
 unfold onL
 obtain ⟨d, rfl⟩ := Nat.le.dest hs
 rw [List.range_add, List.filter_append]
 have : ((List.range d).map (s + ·)).filter f = [] := by
  rw [List.filter_eq_nil_iff]
  intro x hx
  obtain ⟨k, hk, rfl⟩ := List.mem_map.1 hx
  have := List.mem_range.1 hk
  rw [h _ (by omega) (by omega)]; decide
 rw [this, List.append_nil]

end
open Go Go.Mh

section
variable {h0 h : Heap} {L : List Res} {K : Value -> Heap -> Prop} {a b : Int}

def kept (a : Int) : Int := min (max a 0) far
theorem kept_in {a : Int} (h0 : 0 <= a) (h1 : a <= far) : kept a = a := by unfold kept; omega

theorem between1_ok {l g : Nat} {T1 T2 : TypeId} (h1 : h[l]? = some (.cells #[I 0] T1 (0, 0))) (h2 : h[g]? = some (.cells #[I far] T2 (0, 0))) (hK : K (I (kept a)) h) :
  callV Tryz.prog (.func (.func F_dist_between_int64_1) #[] #[ptr l, ptr g]) [I a].toArray h K := by
 refine callV_of (l := [I a, ptr l, ptr g]) rfl (lk_dist_between_int64_1 _ _ _ ?_)
 unfold sh_dist_between_int64_1
 have c0 : hcell h ⟨l, 0, none⟩ = some (I 0) := hcell_of h1 rfl
 have c1 : hcell h ⟨g, 0, none⟩ = some (I far) := hcell_of h2 rfl
 simp only [pLoad_ptr, c0, c1, pMax_int, pMin_int]
 have e : (if far < (if (0 : Int) > a then 0 else a) then far else (if (0 : Int) > a then 0 else a)) = kept a := by
  unfold kept; split <;> split <;> omega
 rw [e]; exact hK

theorem way_ok {P : Value -> Heap -> Prop} (hK : ∀ h', Ext h h' -> P (I (kept a)) h') : sh_dist_way Tryz.prog (I a) h P := by
 unfold sh_dist_way
 refine callS_of (lk_dist_between_int64 _ _ ?_)
 unfold sh_dist_between_int64
 refine (Own.start h).box fun l h1 o1 => o1.box fun g h2 o2 => ?_
 exact between1_ok (o2.get 1 rfl) (o2.get 0 rfl) (hK _ o2.ext)

theorem wayS_ok (hK : ∀ h', Ext h h' -> K (I (kept a)) h') : callS Tryz.prog F_dist_way [I a] h K := callS_of (lk_dist_way _ (way_ok hK))
theorem wayV_ok (hK : ∀ h', Ext h h' -> K (I (kept a)) h') : callV Tryz.prog (.func (.func F_dist_way) #[] #[]) [I a].toArray h K := callV_of (l := [I a]) rfl (lk_dist_way _ (way_ok hK))

theorem dfin_ok (h0 : 0 <= a) (h1 : a <= far) (hK : ∀ h', Ext h h' -> K (.bool (decide (a < far))) h') : callS Tryz.prog F_dist_Finite [I a] h K := by
 refine callS_of (lk_dist_Finite _ ?_)
 unfold sh_dist_Finite
 refine wayS_ok fun h' x => ?_
 rw [kept_in h0 h1, pBin_lss]
 exact hK _ x

theorem dadd_ok (h0 : 0 <= a) (h1 : a <= far) (h2 : 0 <= b) (h3 : b <= far) (hK : ∀ h', Ext h h' -> K (I (min (a + b) far)) h') : callS Tryz.prog F_dist_Add [I a, I b] h K := by
 have hf : far = 72057594037927936 := rfl
 refine callS_of (lk_dist_Add _ _ ?_)
 unfold sh_dist_Add
 refine (Own.start h).build (enc := encI) (n := 1) [a, b] rfl (sizesOk_of rfl) rfl fun w h4 o4 => ?_
 refine callS_of (lk_dist_folded _ _ ?_)
 unfold sh_dist_folded
 refine (o4.vw 0 rfl).len ?_
 refine LoopH_count 2 (fun i x h' => x.2.1 = I i /\ x.1 = I (if i = 0 then 0 else if i = 1 then a else min (a + b) far) /\ Own h h' [slR encI 1 T_int64 w [a, b]]) ⟨rfl, rfl, o4⟩ ?_
 rintro i ⟨sm, x, ⟨⟩⟩ h' Z hi ⟨hx, hsm, o⟩ hZ
 dsimp only at hx hsm hZ ⊢
 subst hx hsm
 unfold sh_dist_folded_L1
 simp only [pBin_lss, ifV_dec]
 refine ⟨fun hlt => ?_, fun hge => ?_⟩
 ·have hlt : i < 2 := by simp at hlt; omega
  refine (o.vw 0 rfl).atI (by simpa using hlt) ?_
  rcases (show i = 0 \/ i = 1 by omega) with rfl | rfl
  ·refine wayV_ok fun h5 x5 => ?_
   rw [show ([a, b] : List Int)[0] = a from rfl, kept_in h0 h1, pBin_add, w64 (by simp; omega) (by simp; omega)]
   refine wayV_ok fun h6 x6 => ?_
   rw [show (if 0 = 0 then (0 : Int) else if 0 = 1 then a else min (a + b) far) + a = a by simp, kept_in h0 h1, pBin_add, wI 0 (by omega)]
   exact hZ (I a, (I 1, ())) h6 (by omega) ⟨rfl, rfl, (o.more x5).more x6⟩
  ·refine wayV_ok fun h5 x5 => ?_
   rw [show ([a, b] : List Int)[1] = b from rfl, kept_in h2 h3, pBin_add, w64 (by simp; omega) (by simp; omega)]
   refine wayV_ok fun h6 x6 => ?_
   rw [show (if 1 = 0 then (0 : Int) else if 1 = 1 then a else min (a + b) far) + b = a + b by simp, show kept (a + b) = min (a + b) far by unfold kept; omega, pBin_add, wI 1 (by omega)]
   exact hZ (I (min (a + b) far), (I 2, ())) h6 (by omega) ⟨rfl, rfl, (o.more x5).more x6⟩
 ·have : i = 2 := by
   have : ([a, b] : List Int).length = 2 := rfl
   omega
  subst this
  exact hK _ o.ext

end
end Go.Proofs.YtmdldoolnhpaeaaGreatDoor






