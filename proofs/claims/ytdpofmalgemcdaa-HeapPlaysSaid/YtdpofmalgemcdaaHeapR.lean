/- A text of the proofs of seat Ytdpofmalgemcdaa: 'HeapR'. It has no condition of its own. -/
import Derived.Test.YtdpofmalgemcdaaHeapQ
set_option linter.unusedVariables false
set_option linter.unusedSimpArgs false
namespace Go.Proofs.Ytdpofmalgemcdaa
open Go Go.Mh

def QV (h : Heap) (F : Nat → Prop) (r : Nat) (L : List HE) (n : Int) : Prop := ∃ l, RV h F r l n ∧ l.Perm L

section
variable {h h' : Heap} {F G S : Nat → Prop} {r : Nat} {l L : List HE} {n id key : Int} {K : Value → Heap → Prop} {p : HE}

theorem QV.upd (H : QV h F r L n) (hu : Upd S h h') (hd : Disj F S) : QV h' F r L n := by
  obtain ⟨l, H, hp⟩ := H; exact ⟨l, H.upd hu hd, hp⟩
theorem QV.low (H : QV h F r L n) : ∀ b, F b → b < h.size := by obtain ⟨l, H, hp⟩ := H; exact H.low
theorem QV.nodup (H : QV h F r L n) : (L.map (·.1)).Nodup := by obtain ⟨l, H, hp⟩ := H; exact (hp.map _).nodup_iff.1 H.ids

theorem qnew (hK : ∀ h' F r, QV h' F r [] (max n 0) → (∀ b, F b → h.size ≤ b) → Ext h h' → K (ptr r) h') : callS Try.prog 17 [I n] h K :=
  rnew fun h' F r H a b => hK h' F r ⟨[], H, .refl _⟩ a b

theorem qleast (H : QV h F r L n) (h0 : L = [] → K (.tuple #[I 0, .bool false]) h) (h1 : ∀ p, Min L p → K (.tuple #[I p.2, .bool true]) h) : callS Try.prog 25 [ptr r] h K := by
  obtain ⟨l, H, hp⟩ := H
  refine callS_of (link25 _ ?_)
  unfold sh25
  refine rleast H (fun e => ?_) fun i hi hm => ?_
  · simp only [pBin_lss]
    rw [show decide ((-1 : Int) < 0) = true from rfl]
    exact h0 (by subst e; exact hp.nil_eq.symm)
  · obtain ⟨⟨v, bl, hr, hs, f1, f2⟩, hlow, hid, hsm⟩ := H
    have c1 := hcell1 hr
    have ck := hs.slot encH_len hi (j := 1) (by omega)
    rw [show (encH l[i])[1]? = some (I l[i].2) from rfl] at ck
    simp only [pBin_lss, ifV_dec, pNil_ptr, pField_ptr, pLoad_ptr, Nat.zero_add, c1]
    refine ⟨fun e => by omega, fun _ => hs.idx hi ?_⟩
    simp only [pField_ptr, pLoad_ptr, ck]
    exact h1 _ (hm.perm hp)

theorem qkey (H : QV h F r L n) (h0 : (∀ p ∈ L, p.1 ≠ id) → K (.tuple #[I 0, .bool false]) h) (h1 : ∀ p ∈ L, p.1 = id → K (.tuple #[I p.2, .bool true]) h) : callS Try.prog 26 [ptr r, I id] h K := by
  obtain ⟨l, H, hp⟩ := H
  refine callS_of (link26 _ _ ?_)
  unfold sh26
  refine rat H (fun i hi e => ?_) fun hno => ?_
  · obtain ⟨⟨v, bl, hr, hs, f1, f2⟩, hlow, hid, hsm⟩ := H
    have c1 := hcell1 hr
    have ck := hs.slot encH_len hi (j := 1) (by omega)
    rw [show (encH l[i])[1]? = some (I l[i].2) from rfl] at ck
    simp only [pBin_lss, ifV_dec, pNil_ptr, pField_ptr, pLoad_ptr, Nat.zero_add, c1]
    refine ⟨fun e => by omega, fun _ => hs.idx hi ?_⟩
    simp only [pField_ptr, pLoad_ptr, ck]
    exact h1 _ (hp.mem_iff.1 (List.getElem_mem hi)) e
  · simp only [pBin_lss]
    rw [show decide ((-1 : Int) < 0) = true from rfl]
    exact h0 fun p hm => hno p (hp.mem_iff.2 hm)

/-- The new row put in. -/
theorem rput {v v' : Value} {bl' : Nat} {l' : List HE} {h2 : Heap} (hr : h2[r]? = some (.cells #[I n, v] 52 (0, 0))) (hs : SlR encH 2 67 h2 v' bl' l') (fr : F r) (hb : F bl' ∨ h.size ≤ bl') (hbl : bl' < h2.size)
    (hlow : ∀ b, F b → b < h.size) (u : Upd F h h2) (hid : (l'.map (·.1)).Nodup) (hsm : l'.length < 2 ^ 40) {KH : Value → Heap → Prop}
    (hK : ∀ h3 F', RV h3 F' r l' n → Grow h F F' → Upd F h h3 → Upd (fun b => b = r) h2 h3 → KH undef h3) : pStore 1 (.pointer (some ⟨r, 1, none⟩)) v' h2 KH := by
  have hv : v'.cells.size = 1 ∧ (∀ u ∈ v'.cells.toList, Mh.plainCell u = true) ∧ v'.cells.toList = [v'] := by
    rcases hs.len with ⟨_, _, rfl⟩; simp
  refine pStore_of rfl hr hv.1 (by rw [hv.1]; simp) hv.2.1 ?_
  have ec : over [I n, v] 1 v'.cells.toList = [I n, v'] := by rw [hv.2.2]; rfl
  rw [ec]
  have u4 : Upd (fun b => b = r) h2 (upd h2 r (.cells [I n, v'].toArray 52 (0, 0))) := Upd.upd _ _ rfl
  refine hK _ (fun b => F b ∨ b = bl') ⟨⟨v', bl', upd_self' hr, slr_upd hs u4 (fun cs hcs e => ?_), .inl fr, .inr rfl⟩, ?_, hid, hsm⟩ ?_ (u.trans u4 fun b hb _ => by subst hb; exact fr) u4
  · subst e; rw [hr] at hcs; simp at hcs
  · rintro b (hb' | rfl)
    · exact Nat.lt_of_lt_of_le (hlow b hb') (Nat.le_trans u.size u4.size)
    · exact Nat.lt_of_lt_of_le hbl u4.size
  · rintro b (hb' | rfl)
    · exact .inl hb'
    · exact hb

theorem qpush (H : QV h F r L n) (hsm : L.length + 1 < 2 ^ 40)
    (h2 : ((∃ p ∈ L, p.1 = id) ∨ id < 0 ∨ n ≤ id) → K (I 2) h)
    (h0 : (∀ p ∈ L, p.1 ≠ id) → 0 ≤ id → id < n → ∀ h' F', QV h' F' r ((id, key) :: L) n → Grow h F F' → Upd F h h' → K (I 0) h') :
    callS Try.prog 19 [ptr r, I id, I key] h K := by
  obtain ⟨l, H, hp⟩ := H
  refine callS_of (link19 _ _ _ ?_)
  unfold sh19
  have HR := H
  obtain ⟨⟨v, bl, hr, hs, f1, f2⟩, hlow, hid, hsm'⟩ := H
  have c0 := hcell0 hr
  have c1 := hcell1 hr
  simp only [pBin_lss, ifV_dec, pNil_ptr, pField_ptr, pLoad_ptr, Nat.add_zero, Nat.zero_add, c0, c1, pBin_geq]
  refine ⟨fun e => h2 (.inr (.inl e)), fun hlt => ⟨fun e => h2 (.inr (.inr e)), fun hge => ?_⟩⟩
  refine rat HR (fun i hi e => ?_) fun hno => ?_
  · simp only [pBin_geq, ifV_dec]
    exact ⟨fun _ => h2 (.inl ⟨_, hp.mem_iff.1 (List.getElem_mem hi), e⟩), fun e => by omega⟩
  · simp only [pBin_geq]
    rw [show decide ((0 : Int) ≤ -1) = false from rfl]
    simp only [ifV_false, c1]
    refine ⟨by simp [sizesOk], ?_⟩
    refine ⟨by simp [sizesOk, spliceAll, zerosL, Value.cells], ?_⟩
    have hnew : (h.push (.cells (spliceAll (zerosL [Value.int .i64 0, Value.int .i64 0] 1) [(0, 2, .agg (spliceAll [Value.int .i64 0, Value.int .i64 0] [(0, 1, I id), (1, 1, I key)]).toArray)]).toArray 67 (0, 0)))[h.size]? =
      some (.cells #[I id, I key] 67 (0, 0)) := by rw [push_new]; rfl
    have u2 := Upd.push (fun _ => False) h (.cells (spliceAll (zerosL [Value.int .i64 0, Value.int .i64 0] 1) [(0, 2, .agg (spliceAll [Value.int .i64 0, Value.int .i64 0] [(0, 1, I id), (1, 1, I key)]).toArray)]).toArray 67 (0, 0))
    have hsz2 : (h.push (.cells (spliceAll (zerosL [Value.int .i64 0, Value.int .i64 0] 1) [(0, 2, .agg (spliceAll [Value.int .i64 0, Value.int .i64 0] [(0, 1, I id), (1, 1, I key)]).toArray)]).toArray 67 (0, 0))).size = h.size + 1 := push_size
    generalize (h.push (.cells (spliceAll (zerosL [Value.int .i64 0, Value.int .i64 0] 1) [(0, 2, .agg (spliceAll [Value.int .i64 0, Value.int .i64 0] [(0, 1, I id), (1, 1, I key)]).toArray)]).toArray 67 (0, 0))) = h2' at hnew u2 hsz2
    have hll := hp.length_eq
    refine append_of (ys := [(id, key)]) encH_len encH_plain rfl (hs.upd u2 (fun f => f)) rfl ?_ (by decide) (by simp; omega) fun v' bl' h3 hs3 hbl' u3 hlt3 => ?_
    · simp only [cellsOfSl, Nat.one_mul]
      rw [cellsAt_of (i := 0) (cs := [I id, I key]) hnew _ 0 (by simp)]; rfl
    have hr3 : h3[r]? = _ := u3.get (u2.get hr (fun f => f)) (by
      rintro ⟨rfl, cs, hcs⟩
      rw [u2.get hr (fun f => f)] at hcs; simp at hcs)
    refine rput (h := h) (F := F) hr3 hs3 f1 ?_ (hlt3 (by have := hlow _ f2; omega)) hlow ((u2.mono fun _ hf _ => hf.elim).trans u3 fun b hb _ => hb.1 ▸ f2) ?_ (by simp; omega) fun h5 F' H5 g5 u5 _ => ?_
    · rcases hbl' with e | e
      · exact .inl (e ▸ f2)
      · exact .inr (by omega)
    · rw [List.map_append, List.nodup_append]
      refine ⟨hid, by simp, ?_⟩
      intro a ha b hb
      simp at hb; subst hb
      obtain ⟨p, hp', rfl⟩ := List.mem_map.1 ha
      exact hno p hp'
    · exact h0 (fun p hm => hno p (hp.mem_iff.2 hm)) (by omega) (by omega) h5 F' ⟨_, H5, (List.perm_append_comm (l₁ := l) (l₂ := [(id, key)])).trans (hp.cons _)⟩ g5 u5

theorem qlower (H : QV h F r L n)
    (h2 : (id < 0 ∨ n ≤ id) → K (I 2) h) (h20 : 0 ≤ id → id < n → (∀ p ∈ L, p.1 ≠ id) → K (I 20) h) (h2' : ∀ p ∈ L, 0 ≤ id → id < n → p.1 = id → p.2 < key → K (I 2) h)
    (h0 : ∀ p ∈ L, p.1 = id → 0 ≤ id → id < n → ¬ p.2 < key → ∀ h' F', QV h' F' r ((id, key) :: L.erase p) n → Grow h F F' → Upd F h h' → K (I 0) h') :
    callS Try.prog 20 [ptr r, I id, I key] h K := by
  obtain ⟨l, H, hp⟩ := H
  refine callS_of (link20 _ _ _ ?_)
  unfold sh20
  have HR := H
  obtain ⟨⟨v, bl, hr, hs, f1, f2⟩, hlow, hid, hsm'⟩ := H
  have c0 := hcell0 hr
  have c1 := hcell1 hr
  simp only [pBin_lss, ifV_dec, pNil_ptr, pField_ptr, pLoad_ptr, Nat.add_zero, Nat.zero_add, c0, c1, pBin_geq]
  refine ⟨fun e => h2 (.inl e), fun hlt => ⟨fun e => h2 (.inr e), fun hge => ?_⟩⟩
  refine rat HR (fun i hi e => ?_) fun hno => ?_
  · simp only [pBin_lss, ifV_dec]
    refine ⟨fun e => by omega, fun _ => ?_⟩
    have hm := hp.mem_iff.1 (List.getElem_mem hi)
    have ck := hs.slot encH_len hi (j := 1) (by omega)
    rw [show (encH l[i])[1]? = some (I l[i].2) from rfl] at ck
    simp only [c1]
    refine hs.idx hi ?_
    simp only [pField_ptr, pLoad_ptr, ck, pBin_lss, ifV_dec]
    refine ⟨fun hk => h2' _ hm (by omega) (by omega) e hk, fun hk => ?_⟩
    refine hs.idx hi ?_
    obtain ⟨cap, rest, rfl, hb, hrest, hcap⟩ := hs.full (by omega)
    have hlen := row_length encH_len l
    simp only [pField_ptr]
    refine pStore_of rfl hb rfl (by simp [hlen]; omega) (by simp) ?_
    have eo : over (Mh.row encH l ++ rest) (i * 2 + 1) (I key).cells.toList = Mh.row encH (l.set i (l[i].1, key)) ++ rest := by
      have o := row_over encH_len hi (l[i].1, key) rest
      rw [← o]
      have hlt' : i * 2 < (Mh.row encH l ++ rest).length := by simp [hlen]; omega
      have hg := row_get encH_len hi (j := 0) (by omega) rest
      rw [Nat.add_zero, List.getElem?_eq_getElem hlt'] at hg
      have ht : (Mh.row encH l ++ rest).take (i * 2 + 1) = (Mh.row encH l ++ rest).take (i * 2) ++ [I l[i].1] := by
        rw [List.take_succ_eq_append_getElem hlt']
        congr 2
        simpa [encH] using hg
      unfold over
      rw [ht]
      simp [encH]
    rw [eo]
    have hne : bl ≠ r := by rintro rfl; rw [hr] at hb; simp at hb
    have u1 : Upd F h (upd h bl (.cells (Mh.row encH (l.set i (l[i].1, key)) ++ rest).toArray 67 (0, 0))) := Upd.upd _ _ f2
    have hl1 : (l.set i (l[i].1, key)).length = l.length := List.length_set
    refine h0 _ hm e (by omega) (by omega) hk _ F ⟨l.set i (l[i].1, key), ⟨⟨_, bl, (upd_ne hne).trans hr, .inr ⟨cap, rest, by rw [hl1], upd_self' hb, by rw [hl1]; exact hrest, by rw [hl1]; exact hcap⟩, f1, f2⟩,
      fun b hb => Nat.lt_of_lt_of_le (hlow b hb) u1.size, by rw [ids_set hi]; exact hid, by rw [hl1]; exact hsm'⟩, ?_⟩ (fun b hb => .inl hb) u1
    refine (set_perm (l := l) (i := i) (a := (l[i].1, key)) hi).trans ?_
    rw [e]
    exact (hp.erase l[i]).cons _
  · simp only [pBin_lss]
    rw [show decide ((-1 : Int) < 0) = true from rfl]
    simp only [ifV_true]
    exact h20 (by omega) (by omega) fun p hm => hno p (hp.mem_iff.2 hm)

theorem erase_split {i : Nat} (hi : i < l.length) : (l.take i ++ l.drop (i + 1)).Perm (l.erase l[i]) := by
  have h1 : l.Perm (l[i] :: (l.take i ++ l.drop (i + 1))) := by
    have : l = l.take i ++ l[i] :: l.drop (i + 1) := by rw [← List.drop_eq_getElem_cons hi, List.take_append_drop]
    exact (List.Perm.of_eq this).trans List.perm_middle
  have := h1.erase l[i]
  simp only [List.erase_cons_head] at this
  exact this.symm

theorem qpop (H : QV h F r L n) (h0 : L = [] → K (.tuple #[I 0, I 0, .bool false]) h)
    (h1 : ∀ p, Min L p → ∀ h' F', QV h' F' r (L.erase p) n → Grow h F F' → Upd F h h' → K (.tuple #[I p.1, I p.2, .bool true]) h') : callS Try.prog 21 [ptr r] h K := by
  obtain ⟨l, H, hp⟩ := H
  refine callS_of (link21 _ ?_)
  unfold sh21
  refine rleast H (fun e => ?_) fun i hi hm => ?_
  · simp only [pBin_lss]
    rw [show decide ((-1 : Int) < 0) = true from rfl]
    exact h0 (by subst e; exact hp.nil_eq.symm)
  · obtain ⟨⟨v, bl, hr, hs, f1, f2⟩, hlow, hid, hsm⟩ := H
    have c1 := hcell1 hr
    have ck0 := hs.slot encH_len hi (j := 0) (by omega)
    have ck1 := hs.slot encH_len hi (j := 1) (by omega)
    rw [show (encH l[i])[0]? = some (I l[i].1) from rfl] at ck0
    rw [show (encH l[i])[1]? = some (I l[i].2) from rfl] at ck1
    simp only [pBin_lss, ifV_dec, pNil_ptr, pField_ptr, pLoad_ptr, Nat.zero_add, c1]
    refine ⟨fun e => by omega, fun _ => hs.idx hi ?_⟩
    rw [Nat.add_zero] at ck0
    have ca : cellsAt h bl (i * 2) 2 = some [I l[i].1, I l[i].2] := by simp [cellsAt, ck0, ck1]
    simp only [pLoadN_ptr, ca]
    refine pBox_of ?_
    refine pStore_of rfl push_new rfl (by simp) (by simp [Mh.plainCell]) ?_
    have x1 : Ext h (upd (h.push (.cells (Value.agg #[.int .i64 0, .int .i64 0]).cells 67 (0, 0))) h.size (.cells (over [Value.int .i64 0, Value.int .i64 0] 0 (Value.agg [I l[i].1, I l[i].2].toArray).cells.toList).toArray 67 (0, 0))) :=
      ((Upd.push _ _ _).trans (Upd.upd (S := fun b => b = h.size) _ _ rfl) (fun b hb hlt => by omega))
    have hf1 : (upd (h.push (.cells (Value.agg #[.int .i64 0, .int .i64 0]).cells 67 (0, 0))) h.size (.cells (over [Value.int .i64 0, Value.int .i64 0] 0 (Value.agg [I l[i].1, I l[i].2].toArray).cells.toList).toArray 67 (0, 0)))[h.size]? =
      some (.cells #[I l[i].1, I l[i].2] 67 (0, 0)) := upd_self' push_new
    have hsz1 := get_lt hf1
    generalize (upd (h.push (.cells (Value.agg #[.int .i64 0, .int .i64 0]).cells 67 (0, 0))) h.size (.cells (over [Value.int .i64 0, Value.int .i64 0] 0 (Value.agg [I l[i].1, I l[i].2].toArray).cells.toList).toArray 67 (0, 0))) = hA at x1 hf1 hsz1
    have hrA := x1.get hr
    have cA := hcell1 hrA
    have hsA := hs.upd x1 (fun f => f)
    simp only [cA]
    refine hsA.view.sub (i := 0) (j := i) encH_len rfl rfl (by omega) (by omega) fun va hva => ?_
    have e3 : IntKind.i64.wrap ((i : Int) + 1) = ((i + 1 : Nat) : Int) := by rw [w64 (by omega) (by omega)]; rfl
    simp only [pBin_add, e3]
    refine hsA.view.sub (i := i + 1) (j := l.length) encH_len rfl rfl (by omega) (by omega) fun vb hvb => ?_
    rw [List.drop_zero, Nat.sub_zero] at hva
    have hdl : (l.drop (i + 1)).take (l.length - (i + 1)) = l.drop (i + 1) := by rw [List.take_of_length_le]; simp
    rw [hdl] at hvb
    refine ⟨by simp [sizesOk], ?_⟩
    have hE : (hA.push (.cells (spliceAll (zerosL [Value.int .i64 0, Value.int .i64 0] 0) []).toArray 67 (0, 0)))[hA.size]? = some (.cells #[] 67 (0, 0)) := by rw [push_new]; rfl
    have xE := Upd.push (fun _ => False) hA (.cells (spliceAll (zerosL [Value.int .i64 0, Value.int .i64 0] 0) []).toArray 67 (0, 0))
    have hszE : (hA.push (.cells (spliceAll (zerosL [Value.int .i64 0, Value.int .i64 0] 0) []).toArray 67 (0, 0))).size = hA.size + 1 := push_size
    generalize (hA.push (.cells (spliceAll (zerosL [Value.int .i64 0, Value.int .i64 0] 0) []).toArray 67 (0, 0))) = hB at hE xE hszE
    have hse : SlR encH 2 67 hB (.slice (some ⟨hA.size, 0, none⟩) 0 0) hA.size ([] : List HE) := .inr ⟨0, [], rfl, by rw [hE]; rfl, by simp, by simp⟩
    have hvaB := hva.upd xE (fun f => f)
    have hvbB := hvb.upd xE (fun f => f)
    obtain ⟨ba, capa, rfl, hca⟩ := hvaB.cells encH_len
    have hrB := xE.get hrA (fun f => f)
    have hfB := xE.get hf1 (fun f => f)
    have hrlt := hlow _ f1
    have hblt := hlow _ f2
    refine append_of (ys := l.take i) encH_len encH_plain rfl hse rfl hca (by decide) (by simp; omega) fun v1 b1 hC hs1 hb1 u1 hl1 => ?_
    have hb1' : hA.size ≤ b1 := by rcases hb1 with e | e <;> omega
    have hrC := u1.get hrB (fun e => by omega)
    have hfC := u1.get hfB (fun e => by omega)
    have hvbC := hvbB.upd u1 (fun e => by omega)
    have cC := hcell1 hrC
    simp only [cC, true_and]
    obtain ⟨bb, capb, rfl, hcb⟩ := hvbC.cells encH_len
    refine append_of (ys := l.drop (i + 1)) encH_len encH_plain rfl hs1 rfl hcb (by decide) (by simp; omega) fun v2 b2 hD hs2 hb2 u2 hl2 => ?_
    have hCs := u1.size
    have hb2' : hA.size ≤ b2 := by rcases hb2 with e | e <;> omega
    have hrD := u2.get hrC (fun e => by omega)
    have hfD := u2.get hfC (fun e => by omega)
    have uD : Upd F h hD := (((x1.mono (S' := F) fun _ hf _ => hf.elim).trans xE fun _ hf _ => hf.elim).trans u1 fun b hb hlt => by omega).trans u2 fun b hb hlt => by omega
    rw [List.nil_append] at hs2
    have hperm := erase_split hi
    refine rput (h := h) (F := F) hrD hs2 f1 (.inr (by omega)) (hl2 (hl1 (by omega))) hlow uD ?_ ?_ fun h5 F' H5 g5 u5 ur => ?_
    · rw [(hperm.map _).nodup_iff]
      exact (List.Sublist.map _ List.erase_sublist).nodup hid
    · rw [hperm.length_eq, List.length_erase_of_mem (List.getElem_mem hi)]; omega
    · have hf5 := ur.get hfD (fun e => by omega)
      have k0 := hcell0 hf5
      have k1 := hcell1 hf5
      simp only [pField_ptr, pLoad_ptr, Nat.add_zero, Nat.zero_add, k0, k1]
      exact h1 _ (hm.perm hp) h5 F' ⟨_, H5, hperm.trans (hp.erase _)⟩ g5 u5

end
end Go.Proofs.Ytdpofmalgemcdaa
