/- A text of the proofs of seat Ytdpofmalgemcdaa: 'HeapB'. It has no condition of its own. -/
import Derived.Test.YtdpofmalgemcdaaMhIMap
import Derived.Test.YtdpofmalgemcdaaHeapA
set_option linter.unusedVariables false
set_option linter.unusedSimpArgs false
namespace Go.Proofs.Ytdpofmalgemcdaa
open Go Go.Mh

abbrev tHeap : Nat := 59
abbrev tHeld : Nat := 62

abbrev ptr (b : Nat) : Value := .pointer (some ⟨b, 0, none⟩)
abbrev I (n : Int) : Value := .int .i64 n

theorem isNaN64_ok {x : Int} {h : Heap} {K : Value → Heap → Prop} (hk : K (.bool false) h) : callS Try.prog 35 [I x] h K :=
  callS_of (link35 _ (by simpa [sh35] using hk))
theorem isNaN_ok {x : Int} {h : Heap} {K : Value → Heap → Prop} (hk : K (.bool false) h) : callS Try.prog 36 [I x] h K :=
  callS_of (link36 _ (by simpa [sh36] using hk))

def cmpI (x y : Int) : Int := if x < y then -1 else if y < x then 1 else 0

theorem compare64_ok {x y : Int} {h : Heap} {K : Value → Heap → Prop} (hk : K (I (cmpI x y)) h) : callS Try.prog 32 [I x, I y] h K := by
  refine callS_of (link32 _ _ (isNaN64_ok (isNaN64_ok ?_)))
  unfold cmpI at hk
  by_cases h1 : x < y
  · simpa [h1] using hk
  · by_cases h2 : y < x
    · simpa [h1, h2] using hk
    · simpa [h1, h2] using hk
theorem compare_ok {x y : Int} {h : Heap} {K : Value → Heap → Prop} (hk : K (I (cmpI x y)) h) : callS Try.prog 33 [I x, I y] h K := by
  refine callS_of (link33 _ _ (isNaN_ok (isNaN_ok ?_)))
  unfold cmpI at hk
  by_cases h1 : x < y
  · simpa [h1] using hk
  · by_cases h2 : y < x
    · simpa [h1, h2] using hk
    · simpa [h1, h2] using hk

theorem or2_ok {a b : Int} {c : Nat} {h : Heap} {T : TypeId} {K : Value → Heap → Prop} (hb : h[c]? = some (.cells #[I a, I b] T (0, 0)))
    (hk : K (I (if a = 0 then b else a)) h) : callS Try.prog 31 [.slice (some ⟨c, 0, none⟩) 2 2] h K := by
  refine callS_of (link31 _ ?_)
  have c0 : hcell h ⟨c, 0, none⟩ = some (I a) := hcell_of hb rfl
  have c1 : hcell h ⟨c, 1, none⟩ = some (I b) := hcell_of hb rfl
  unfold sh31
  simp only [pLen_sl]
  refine LoopH_intro (fun x h' => h' = h ∧ ((x.1 = I 0) ∨ (x.1 = I 1 ∧ a = 0) ∨ (x.1 = I 2 ∧ a = 0 ∧ b = 0))) (fun x _ => match x.1 with | .int _ n => (2 - n).toNat | _ => 0) ⟨rfl, .inl rfl⟩ ?_
  rintro ⟨x, ⟨⟩⟩ h' Z ⟨rfl, hx⟩ hZ
  dsimp only at hx hZ ⊢
  unfold sh31_L1
  rcases hx with rfl | ⟨rfl, rfl⟩ | ⟨rfl, rfl, rfl⟩
  · simp [c0]
    exact ⟨fun ha => by simpa [ha] using hk, fun ha => hZ _ _ ⟨rfl, .inr (.inl ⟨rfl, ha⟩)⟩ (by decide)⟩
  · simp [c1]
    exact ⟨fun hb => by simpa using hk, fun hb => hZ _ _ ⟨rfl, .inr (.inr ⟨rfl, rfl, hb⟩)⟩ (by decide)⟩
  · simpa using hk

/-! ### The heap in memory -/

abbrev HE := Int × Int
def encH (p : HE) : List Value := [I p.1, I p.2]
theorem encH_len (p : HE) : (encH p).length = 2 := rfl

def pos (l : List HE) (id : Int) : Option Value := (l.findIdx? (fun p => p.1 == id)).map fun i => I i

structure Rep (h : Heap) (r m bl : Nat) (l : List HE) (n : Int) : Prop where
  row : ∃ sl cap rest, h[r]? = some (.cells #[sl, .map (some m), I n] tHeap (0, 0)) ∧
    ((sl = .slice none 0 0 ∧ l = [] ∧ cap = 0) ∨ (sl = .slice (some ⟨bl, 0, none⟩) l.length cap ∧ h[bl]? = some (.cells (Mh.row encH l ++ rest).toArray tHeld (0, 0)) ∧
      rest.length = (cap - l.length) * 2 ∧ l.length ≤ cap))
  map : ∃ es c, h[m]? = some (.map es c) ∧ IMap es c (pos l)
  ids : (l.map (·.1)).Nodup
  small : l.length < 2 ^ 40

theorem Rep.upd {h h' : Heap} {r m bl : Nat} {l : List HE} {n : Int} {S : Nat → Prop} (H : Rep h r m bl l n) (hu : Upd S h h') (h1 : ¬ S r) (h2 : ¬ S m) (h3 : ¬ S bl) : Rep h' r m bl l n := by
  obtain ⟨⟨sl, cap, rest, hr, hs⟩, ⟨es, c, hm, hi⟩, hn, hsm⟩ := H
  refine ⟨⟨sl, cap, rest, hu.get hr h1, ?_⟩, ⟨es, c, hu.get hm h2, hi⟩, hn, hsm⟩
  rcases hs with hs | ⟨a, b, c, d⟩
  · exact .inl hs
  · exact .inr ⟨a, hu.get b h3, c, d⟩

theorem Rep.full {h : Heap} {r m bl : Nat} {l : List HE} {n : Int} (H : Rep h r m bl l n) (hl : 0 < l.length) : ∃ cap rest,
    h[r]? = some (.cells #[.slice (some ⟨bl, 0, none⟩) l.length cap, .map (some m), I n] tHeap (0, 0)) ∧ h[bl]? = some (.cells (Mh.row encH l ++ rest).toArray tHeld (0, 0)) ∧
      rest.length = (cap - l.length) * 2 ∧ l.length ≤ cap := by
  obtain ⟨sl, cap, rest, hr, hs⟩ := H.row
  rcases hs with ⟨_, h0, _⟩ | ⟨rfl, b, c, d⟩
  · subst h0; simp at hl
  · exact ⟨cap, rest, hr, b, c, d⟩

theorem Rep.r_ne {h : Heap} {r m bl : Nat} {l : List HE} {n : Int} (H : Rep h r m bl l n) (hl : 0 < l.length) : r ≠ bl ∧ r ≠ m ∧ bl ≠ m := by
  obtain ⟨cap, rest, hr, hb, _, _⟩ := H.full hl
  obtain ⟨es, c, hm, _⟩ := H.map
  refine ⟨?_, ?_, ?_⟩
  · rintro rfl; rw [hr] at hb; simp at hb; exact absurd hb.2 (by decide)
  · rintro rfl; rw [hr] at hm; simp at hm
  · rintro rfl; rw [hb] at hm; simp at hm

theorem row_cell {h : Heap} {bl : Nat} {l : List HE} {rest : List Value} {T : TypeId} {fz : Nat × Nat} (hb : h[bl]? = some (.cells (Mh.row encH l ++ rest).toArray T fz)) {i j : Nat} (hi : i < l.length) (hj : j < 2) :
    hcell h ⟨bl, i * 2 + j, none⟩ = (encH l[i])[j]? := by
  rw [hcell_of hb (v := (encH l[i])[j]'(by rw [encH_len]; exact hj)) (by
    have := row_get encH_len hi hj rest
    rw [List.getElem?_toArray, this]; simp)]
  simp

theorem row_id {h : Heap} {bl : Nat} {l : List HE} {rest : List Value} {T : TypeId} {fz : Nat × Nat} (hb : h[bl]? = some (.cells (Mh.row encH l ++ rest).toArray T fz)) {i : Nat} (hi : i < l.length) :
    hcell h ⟨bl, i * 2, none⟩ = some (I l[i].1) := row_cell hb hi (j := 0) (by omega)
theorem row_key {h : Heap} {bl : Nat} {l : List HE} {rest : List Value} {T : TypeId} {fz : Nat × Nat} (hb : h[bl]? = some (.cells (Mh.row encH l ++ rest).toArray T fz)) {i : Nat} (hi : i < l.length) :
    hcell h ⟨bl, i * 2 + 1, none⟩ = some (I l[i].2) := row_cell hb hi (j := 1) (by omega)

/-- The order: keys, then numbers. -/
def hlt (p q : HE) : Bool := decide (p.2 < q.2 ∨ p.2 = q.2 ∧ p.1 < q.1)

theorem cmp_hlt (p q : HE) : ((if cmpI p.2 q.2 = 0 then cmpI p.1 q.1 else cmpI p.2 q.2) < 0) ↔ hlt p q = true := by
  unfold hlt cmpI
  simp only [decide_eq_true_eq]
  rcases Int.lt_trichotomy p.2 q.2 with h | h | h
  · simp [h]
  · simp only [h, Int.lt_irrefl, if_false, if_true, false_or, true_and]
    by_cases h1 : p.1 < q.1
    · simp [h1]
    · simp only [h1, if_false, iff_false]; split <;> omega
  · have h1 : ¬ p.2 < q.2 := by omega
    have h2 : ¬ p.2 = q.2 := by omega
    simp [h, h1, h2]

theorem ahead_ok {h : Heap} {r m bl : Nat} {l : List HE} {n : Int} {i k : Nat} {K : Value → Heap → Prop} (H : Rep h r m bl l n) (hi : i < l.length) (hk : k < l.length)
    (hK : ∀ h', Ext h h' → K (.bool (hlt l[i] l[k])) h') : callS Try.prog 29 [ptr r, I i, I k] h K := by
  obtain ⟨cap, rest, hr, hb, _, _⟩ := H.full (by omega)
  refine callS_of (link29 _ _ _ ?_)
  have c0 : hcell h ⟨r, 0, none⟩ = some (.slice (some ⟨bl, 0, none⟩) l.length cap) := hcell_of hr rfl
  have ci0 := row_id hb hi
  have ci1 := row_key hb hi
  have ck0 := row_id hb hk
  have ck1 := row_key hb hk
  unfold sh29
  simp [c0, hi, hk, ci0, ci1, ck0, ck1]
  refine compare64_ok ?_
  simp [c0, ci0, ck0]
  refine compare_ok ?_
  refine ⟨by simp [sizesOk, Value.cells, zerosL], ?_⟩
  have hnew : (h.push (.cells #[I (cmpI l[i].2 l[k].2), I (cmpI l[i].1 l[k].1)] 3 (0, 0)))[h.size]? = some (.cells #[I (cmpI l[i].2 l[k].2), I (cmpI l[i].1 l[k].1)] 3 (0, 0)) := push_new
  refine or2_ok hnew ?_
  simp only [pBin_lss]
  have := hK (h.push (.cells #[I (cmpI l[i].2 l[k].2), I (cmpI l[i].1 l[k].1)] 3 (0, 0))) (Upd.push _ _ _)
  have e : hlt l[i] l[k] = decide ((if cmpI l[i].2 l[k].2 = 0 then cmpI l[i].1 l[k].1 else cmpI l[i].2 l[k].2) < 0) := by
    rw [Bool.eq_iff_iff, decide_eq_true_eq]; exact (cmp_hlt _ _).symm
  rw [← e]; exact this

/-! ### Where a number stands -/

theorem pos_get {l : List HE} (hn : (l.map (·.1)).Nodup) {i : Nat} (hi : i < l.length) : pos l l[i].1 = some (I i) := by
  unfold pos
  have : l.findIdx? (fun p => p.1 == l[i].1) = some i := by
    rw [List.findIdx?_eq_some_iff_getElem]
    refine ⟨hi, by simp, fun j hj => ?_⟩
    have hne : l[j].1 ≠ l[i].1 := by
      have := List.pairwise_iff_getElem.1 hn j i (by simp; omega) (by simpa using hi) hj
      simpa using this
    simpa using hne
  rw [this]; rfl

theorem pos_none {l : List HE} {id : Int} (h : ∀ p ∈ l, p.1 ≠ id) : pos l id = none := by
  unfold pos
  have : l.findIdx? (fun p => p.1 == id) = none := by
    rw [List.findIdx?_eq_none_iff]; intro p hp; simpa using h p hp
  rw [this]; rfl

theorem pos_cases (l : List HE) (id : Int) : (∃ i, ∃ hi : i < l.length, l[i].1 = id) ∨ ∀ p ∈ l, p.1 ≠ id := by
  by_cases h : ∃ p ∈ l, p.1 = id
  · obtain ⟨p, hp, rfl⟩ := h
    obtain ⟨i, hi, rfl⟩ := List.mem_iff_getElem.1 hp
    exact .inl ⟨i, hi, rfl⟩
  · exact .inr fun p hp e => h ⟨p, hp, e⟩

theorem ids_inj {l : List HE} (hn : (l.map (·.1)).Nodup) {i k : Nat} (hi : i < l.length) (hk : k < l.length) (he : l[i].1 = l[k].1) : i = k := by
  rcases Nat.lt_trichotomy i k with h | h | h
  · have := List.pairwise_iff_getElem.1 hn i k (by simpa using hi) (by simpa using hk) h
    simp [he] at this
  · exact h
  · have := List.pairwise_iff_getElem.1 hn k i (by simpa using hk) (by simpa using hi) h
    simp [he] at this

/-- Two places exchanged. -/
def swapL (l : List HE) (i k : Nat) (hi : i < l.length) (hk : k < l.length) : List HE := (l.set i l[k]).set k l[i]

theorem swapL_length {l : List HE} {i k : Nat} (hi : i < l.length) (hk : k < l.length) : (swapL l i k hi hk).length = l.length := by simp [swapL]

theorem swapL_get {l : List HE} {i k : Nat} (hi : i < l.length) (hk : k < l.length) {j : Nat} (hj : j < (swapL l i k hi hk).length) :
    (swapL l i k hi hk)[j] = if j = k then l[i] else if j = i then l[k] else l[j]'(by simpa [swapL] using hj) := by
  simp only [swapL, List.getElem_set]
  by_cases h1 : k = j
  · simp [h1]
  · by_cases h2 : i = j
    · simp [h1, h2, show ¬ j = k from fun e => h1 e.symm]
    · simp [h1, h2, show ¬ j = k from fun e => h1 e.symm, show ¬ j = i from fun e => h2 e.symm]

theorem swapL_perm {l : List HE} {i k : Nat} (hi : i < l.length) (hk : k < l.length) : (swapL l i k hi hk).Perm l := by
  rw [List.perm_iff_count]
  intro a
  unfold swapL
  rw [List.count_set (by simpa using hk), List.count_set hi, List.getElem_set]
  by_cases hik : i = k
  · subst hik
    simp only [if_true]
    by_cases h : l[i] = a
    · have : 0 < l.count a := List.count_pos_iff.2 (h ▸ List.getElem_mem hi)
      simp [h]; omega
    · simp [h]
  · simp only [hik, if_false]
    by_cases h1 : l[i] = a <;> by_cases h2 : l[k] = a
    · have : 0 < l.count a := List.count_pos_iff.2 (h1 ▸ List.getElem_mem hi)
      simp [h1, h2]; omega
    · have : 0 < l.count a := List.count_pos_iff.2 (h1 ▸ List.getElem_mem hi)
      simp [h1, h2]; omega
    · have : 0 < l.count a := List.count_pos_iff.2 (h2 ▸ List.getElem_mem hk)
      simp [h1, h2]
    · simp [h1, h2]

theorem swapL_nodup {l : List HE} {i k : Nat} (hi : i < l.length) (hk : k < l.length) (hn : (l.map (·.1)).Nodup) : ((swapL l i k hi hk).map (·.1)).Nodup :=
  ((swapL_perm hi hk).map _).nodup_iff.2 hn

theorem pos_swap {l : List HE} {i k : Nat} (hi : i < l.length) (hk : k < l.length) (hn : (l.map (·.1)).Nodup) (id : Int) :
    fset (fset (pos l) l[k].1 (I i)) l[i].1 (I k) id = pos (swapL l i k hi hk) id := by
  have hn' := swapL_nodup hi hk hn
  rcases pos_cases (swapL l i k hi hk) id with ⟨j, hj, rfl⟩ | h
  · rw [pos_get hn' hj]
    have hjl : j < l.length := by simpa [swapL] using hj
    rw [swapL_get hi hk hj]
    unfold fset
    by_cases h1 : j = k
    · simp [h1]
    · by_cases h2 : j = i
      · subst h2
        have : l[k].1 ≠ l[j].1 := fun e => h1 (ids_inj hn hk hi e).symm
        simp [h1, this]
      · have e1 : l[j].1 ≠ l[i].1 := fun e => h2 (ids_inj hn hjl hi e)
        have e2 : l[j].1 ≠ l[k].1 := fun e => h1 (ids_inj hn hjl hk e)
        simp [h1, h2, e1, e2, pos_get hn hjl]
  · rw [pos_none h]
    have hp := swapL_perm hi hk
    have h' : ∀ p ∈ l, p.1 ≠ id := fun p hp' => h p (hp.mem_iff.2 hp')
    have e1 := h' l[i] (List.getElem_mem hi)
    have e2 := h' l[k] (List.getElem_mem hk)
    unfold fset
    rw [if_neg (fun e => e1 e.symm), if_neg (fun e => e2 e.symm), pos_none h']

theorem swap_ok {h : Heap} {r m bl : Nat} {l : List HE} {n : Int} {i k : Nat} {K : Value → Heap → Prop} (H : Rep h r m bl l n) (hi : i < l.length) (hk : k < l.length)
    (hK : ∀ h', Rep h' r m bl (swapL l i k hi hk) n → Upd (fun b => b = m ∨ b = bl) h h' → K (.tuple #[]) h') : callS Try.prog 23 [ptr r, I i, I k] h K := by
  obtain ⟨cap, rest, hr, hb, hrest, hcap⟩ := H.full (by omega)
  obtain ⟨hne1, hne2, hne3⟩ := H.r_ne (by omega)
  obtain ⟨es, c, hm, him⟩ := H.map
  refine callS_of (link23 _ _ _ ?_)
  have c0 : hcell h ⟨r, 0, none⟩ = some (.slice (some ⟨bl, 0, none⟩) l.length cap) := hcell_of hr rfl
  have ci0 := row_id hb hi
  have ci1 := row_key hb hi
  have ck0 := row_id hb hk
  have ck1 := row_key hb hk
  unfold sh23
  simp [c0, hi, hk, cellsAt, ci0, ci1, ck0, ck1]
  have hlen := row_length encH_len l
  have o1 := row_over encH_len hi l[k] rest
  refine pStore_of rfl hb rfl (by simp [hlen]; omega) (by simp) ?_
  simp only [cells_agg]
  rw [show over (Mh.row encH l ++ rest) (i * 2) [Value.int .i64 l[k].1, Value.int .i64 l[k].2] = Mh.row encH (l.set i l[k]) ++ rest from o1]
  have hb1 : (upd h bl (.cells (Mh.row encH (l.set i l[k]) ++ rest).toArray tHeld (0, 0)))[bl]? = _ := upd_self' hb
  have hk' : k < (l.set i l[k]).length := by simpa using hk
  have o2 := row_over encH_len hk' l[i] rest
  refine pStore_of rfl hb1 rfl (by simp [row_length encH_len]; omega) (by simp) ?_
  simp only [cells_agg]
  rw [show over (Mh.row encH (l.set i l[k]) ++ rest) (k * 2) [Value.int .i64 l[i].1, Value.int .i64 l[i].2] = Mh.row encH (swapL l i k hi hk) ++ rest from o2, upd_upd]
  have hi' : i < (swapL l i k hi hk).length := by simpa [swapL] using hi
  have hk'' : k < (swapL l i k hi hk).length := by simpa [swapL] using hk
  have hb2 : (upd h bl (.cells (Mh.row encH (swapL l i k hi hk) ++ rest).toArray tHeld (0, 0)))[bl]? = _ := upd_self' hb
  have hr2 := (upd_ne (o := .cells (Mh.row encH (swapL l i k hi hk) ++ rest).toArray tHeld (0, 0)) hne1.symm).trans hr
  have hm2 := (upd_ne (o := .cells (Mh.row encH (swapL l i k hi hk) ++ rest).toArray tHeld (0, 0)) hne3).trans hm
  have d0 := hcell_of (i := 0) hr2 rfl
  have d1 := hcell_of (i := 1) hr2 rfl
  have di := row_id hb2 hi'
  have dk := row_id hb2 hk''
  have ei : (swapL l i k hi hk)[i].1 = l[k].1 := by rw [swapL_get]; split <;> simp_all
  have ek : (swapL l i k hi hk)[k].1 = l[i].1 := by rw [swapL_get]; simp
  rw [ei] at di
  rw [ek] at dk
  simp [d0, d1, hi, hk, di, dk]
  refine mapEntry_of hm2 him fun es1 c1 s1 him1 hs1 => ?_
  simp
  refine entryStore_of (upd_self' hm2) him1 hs1 fun es2 him2 => ?_
  rw [upd_upd]
  refine mapEntry_of (upd_self' hm2) him2 fun es3 c3 s3 him3 hs3 => ?_
  simp
  rw [upd_upd]
  refine entryStore_of (upd_self' hm2) him3 hs3 fun es4 him4 => ?_
  rw [upd_upd]
  refine hK _ ⟨⟨_, cap, rest, (upd_ne hne2.symm).trans hr2, .inr ⟨by rw [swapL_length], (upd_ne hne3.symm).trans hb2, by rw [swapL_length]; exact hrest, by rw [swapL_length]; exact hcap⟩⟩,
    ⟨es4, _, upd_self' hm2, him4.congr fun id => ?_⟩, swapL_nodup hi hk H.ids, by rw [swapL_length]; exact H.small⟩ ?_
  · rw [fset_same, fset_same]; exact pos_swap hi hk H.ids id
  · exact (Upd.upd h _ (S := fun b => b = m ∨ b = bl) (.inr rfl)).trans (Upd.upd (S := fun b => b = m ∨ b = bl) _ _ (.inl rfl)) fun _ h _ => h

end Go.Proofs.Ytdpofmalgemcdaa
