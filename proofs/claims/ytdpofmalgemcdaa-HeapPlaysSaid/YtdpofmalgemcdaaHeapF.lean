/- A text of the proofs of seat Ytdpofmalgemcdaa: 'HeapF'. It has no condition of its own. -/
import Derived.Test.YtdpofmalgemcdaaHeapE
set_option linter.unusedVariables false
set_option linter.unusedSimpArgs false
namespace Go.Proofs.Ytdpofmalgemcdaa
open Go Go.Mh

theorem gt_append {l : List HE} {a : HE} {j : Nat} (hj : j < l.length) : gt (l ++ [a]) j = gt l j := by
  simp [gt, List.getElem?_append_left hj]

theorem pos_append {l : List HE} {a : HE} (hno : ∀ p ∈ l, p.1 ≠ a.1) (x : Int) : fset (pos l) a.1 (I l.length) x = pos (l ++ [a]) x := by
  unfold fset pos
  rw [List.findIdx?_append]
  by_cases hx : x = a.1
  · subst hx
    have : l.findIdx? (fun p => p.1 == a.1) = none := by
      rw [List.findIdx?_eq_none_iff]; intro p hp; simpa using hno p hp
    simp [this]
  · rw [if_neg hx]
    have : [a].findIdx? (fun p => p.1 == x) = none := by
      rw [List.findIdx?_eq_none_iff]; intro p hp; simp at hp; subst hp; simpa using fun e => hx e.symm
    rw [this]; simp

theorem push_ok {h : Heap} {F : Nat → Prop} {r : Nat} {l : List HE} {n id key : Int} {K : Value → Heap → Prop} (H : HV h F r l n) (hsm : l.length + 1 < 2 ^ 40)
    (h2 : ((∃ p ∈ l, p.1 = id) ∨ id < 0 ∨ n ≤ id) → K (I 2) h)
    (h0 : (∀ p ∈ l, p.1 ≠ id) → 0 ≤ id → id < n → ∀ h' F' l', HV h' F' r l' n → l'.Perm ((id, key) :: l) → Grow h F F' → Upd F h h' → K (I 0) h') :
    callS Try.prog 10 [ptr r, I id, I key] h K := by
  refine callS_of (link10 _ _ _ ?_)
  unfold sh10
  obtain ⟨⟨m, bl, R, ho, f1, f2, f3⟩, hlow, hrg⟩ := H
  obtain ⟨v, hr, hs⟩ := R.slr
  obtain ⟨es, c, hm, him⟩ := R.map
  have c0 := hcell0 hr
  have c1 := hcell1 hr
  have c2 := hcell2 hr
  simp only [pEq_ptr_nil, Option.isNone_some, ifV_false, pNil_ptr, pField_ptr, pLoad_ptr, c0, c1, c2, Nat.zero_add]
  refine look_of hm him ?_
  rcases pos_cases l id with ⟨i, hi, rfl⟩ | hno
  · simp only [pos_get R.ids hi, if_true, Option.getD_some, Option.isSome_some, pExt_tuple]
    show ifV (.bool true) _ _
    simp only [ifV_true]
    exact h2 (.inl ⟨_, List.getElem_mem hi, rfl⟩)
  · simp only [pos_none hno, if_true, Option.getD_none, Option.isSome_none, pExt_tuple]
    show ifV (.bool false) _ _
    simp only [ifV_false, pBin_lss, pBin_geq, ifV_dec]
    refine ⟨fun hlt => h2 (.inr (.inl hlt)), fun hlt => ⟨fun hge => h2 (.inr (.inr hge)), fun hge => ?_⟩⟩
    refine hs.lenK ?_
    refine mapSet_of hm him fun es' c' him' => ?_
    have hrm : m ≠ r := by rintro rfl; rw [hm] at hr; simp at hr
    have hr1 := (upd_ne (o := .map es' c') hrm).trans hr
    have c0' := hcell0 hr1
    simp only [c0']
    have hs1 : SlR encH 2 tHeld (upd h m (.map es' c')) v bl l := by
      rcases hs with ⟨a, b⟩ | ⟨cap, rest, a, b, c, d⟩
      · exact .inl ⟨a, b⟩
      · have : m ≠ bl := by rintro rfl; rw [hm] at b; simp at b
        exact .inr ⟨cap, rest, a, (upd_ne this).trans b, c, d⟩
    have hm1 : (upd h m (.map es' c'))[m]? = some (.map es' c') := upd_self' hm
    have u1 : Upd (fun b => b = m) h (upd h m (.map es' c')) := Upd.upd _ _ rfl
    have hsz1 : (upd h m (.map es' c')).size = h.size := upd_size
    generalize upd h m (.map es' c') = h1 at hr1 hs1 hm1 u1 hsz1
    refine ⟨by simp [sizesOk], ?_⟩
    refine ⟨by simp [sizesOk, spliceAll, zerosL, Value.cells], ?_⟩
    have hnew : (h1.push (.cells (spliceAll (zerosL [Value.int .i64 0, Value.int .i64 0] 1) [(0, 2, .agg (spliceAll [Value.int .i64 0, Value.int .i64 0] [(0, 1, I id), (1, 1, I key)]).toArray)]).toArray tHeld (0, 0)))[h1.size]? =
      some (.cells #[I id, I key] tHeld (0, 0)) := by rw [push_new]; rfl
    have u2 := Upd.push (fun _ => False) h1 (.cells (spliceAll (zerosL [Value.int .i64 0, Value.int .i64 0] 1) [(0, 2, .agg (spliceAll [Value.int .i64 0, Value.int .i64 0] [(0, 1, I id), (1, 1, I key)]).toArray)]).toArray tHeld (0, 0))
    have hsz2 : (h1.push (.cells (spliceAll (zerosL [Value.int .i64 0, Value.int .i64 0] 1) [(0, 2, .agg (spliceAll [Value.int .i64 0, Value.int .i64 0] [(0, 1, I id), (1, 1, I key)]).toArray)]).toArray tHeld (0, 0))).size = h1.size + 1 := push_size
    generalize (h1.push (.cells (spliceAll (zerosL [Value.int .i64 0, Value.int .i64 0] 1) [(0, 2, .agg (spliceAll [Value.int .i64 0, Value.int .i64 0] [(0, 1, I id), (1, 1, I key)]).toArray)]).toArray tHeld (0, 0))) = h2' at hnew u2 hsz2
    refine append_of (ys := [(id, key)]) encH_len encH_plain rfl (hs1.upd u2 (fun f => f)) rfl ?_ (by decide) (by simp; omega) fun v' bl' h3 hs3 hbl' u3 hlt3 => ?_
    · simp only [cellsOfSl, Nat.one_mul]
      rw [cellsAt_of (i := 0) (cs := [I id, I key]) hnew _ 0 (by simp)]; rfl
    have hr3 : h3[r]? = _ := u3.get (u2.get hr1 (fun f => f)) (by
      rintro ⟨rfl, cs, hcs⟩
      rw [u2.get hr1 (fun f => f)] at hcs; simp at hcs; exact absurd hcs.2 (by decide))
    have hm3 : h3[m]? = _ := u3.get (u2.get hm1 (fun f => f)) (by
      rintro ⟨rfl, cs, hcs⟩
      rw [u2.get hm1 (fun f => f)] at hcs; simp at hcs)
    have hrb : r ≠ bl' := by
      rintro rfl
      obtain ⟨_, _, _, hb, _⟩ := hs3.full (by simp)
      rw [hr3] at hb; simp at hb; exact absurd hb.2 (by decide)
    refine pStore_of rfl hr3 (by rcases hs3.len with ⟨_, _, rfl⟩; rfl) (by rcases hs3.len with ⟨_, _, rfl⟩; simp) (by rcases hs3.len with ⟨_, _, rfl⟩; simp) ?_
    have ec : over [v, Value.map (some m), I n] 0 v'.cells.toList = [v', Value.map (some m), I n] := by
      rcases hs3.len with ⟨_, _, rfl⟩; rfl
    rw [ec]
    have u4 : Upd (fun b => b = r) h3 (upd h3 r (.cells [v', Value.map (some m), I n].toArray tHeap (0, 0))) := Upd.upd _ _ rfl
    have hr4 : (upd h3 r (.cells [v', Value.map (some m), I n].toArray tHeap (0, 0)))[r]? = _ := upd_self' hr3
    have hm4 := u4.get hm3 hrm
    have hs4 := hs3.upd u4 (fun e => hrb e.symm)
    generalize upd h3 r (.cells [v', Value.map (some m), I n].toArray tHeap (0, 0)) = h4 at u4 hr4 hm4 hs4
    have c4 := hcell0 hr4
    simp only [c4]
    refine hs4.lenK ?_
    have e5 : IntKind.i64.wrap (((l ++ [(id, key)]).length : Int) - 1) = (l.length : Int) := by
      rw [List.length_append, List.length_singleton, w64 (by omega) (by omega)]; omega
    rw [pBin_sub, e5]
    have R4 : Rep h4 r m bl' (l ++ [(id, key)]) n := by
      refine Rep.of hr4 hs4 hm4 (him'.congr (pos_append (a := (id, key)) hno)) ?_ (by simpa using hsm)
      rw [List.map_append, List.nodup_append]
      refine ⟨R.ids, by simp, ?_⟩
      intro a ha b hb
      simp at hb; subst hb
      obtain ⟨p, hp, rfl⟩ := List.mem_map.1 ha
      exact hno p hp
    refine up_ok R4 (i := l.length) (by simp) ?_ fun h5 l5 R5 hp5 ho5 u5 => ?_
    · refine ⟨fun j j0 j1 j2 => ?_, fun _ j j0 j1 j2 => ?_⟩
      · have j3 : j < l.length := by simp at j1; omega
        rw [gt_append j3, gt_append (show (j - 1) / 4 < l.length by omega)]
        exact ho j j0 j3
      · simp at j1; omega
    have hbh : h.size ≤ h2'.size := by omega
    have hblF : bl' = bl ∨ h.size ≤ bl' := by rcases hbl' with e | e <;> omega
    have u3' : Upd F h2' h3 := u3.mono fun b hb _ => hb.1 ▸ f3
    have u14 : Upd F h h4 := (((u1.mono (S' := F) fun b hb _ => by subst hb; exact f2).trans (u2.mono (S' := F) fun _ hf _ => hf.elim) fun _ h _ => h).trans u3' fun _ h _ => h).trans (u4.mono (S' := F) fun b hb _ => by subst hb; exact f1) fun _ h _ => h
    have u15 : Upd F h h5 := u14.trans u5 fun b hb hlt => by
      rcases hb with rfl | rfl
      · exact f2
      · rcases hblF with e | e
        · rw [e]; exact f3
        · omega
    have hsz5 := u15.size
    have hblt5 : bl' < h5.size := Nat.lt_of_lt_of_le (hlt3 (by have := hlow _ f3; omega)) (Nat.le_trans u4.size u5.size)
    refine h0 hno (by omega) (by omega) h5 (fun b => F b ∨ b = bl') l5 ⟨⟨m, bl', R5, ho5, .inl f1, .inl f2, .inr rfl⟩, ?_, ?_⟩ ?_ ?_ u15
    · rintro b (hb | rfl)
      · exact Nat.lt_of_lt_of_le (hlow b hb) hsz5
      · exact hblt5
    · intro p hp
      have := hp5.mem_iff.1 hp
      simp only [List.mem_append, List.mem_singleton] at this
      rcases this with hp | rfl
      · exact hrg p hp
      · exact ⟨by omega, by omega⟩
    · exact hp5.trans (List.perm_append_comm (l₁ := l) (l₂ := [(id, key)]))
    · rintro b (hb | rfl)
      · exact .inl hb
      · rcases hblF with e | e
        · rw [e]; exact .inl f3
        · exact .inr e

end Go.Proofs.Ytdpofmalgemcdaa
