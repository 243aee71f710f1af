/- A text of the proofs of seat Ytdpofmalgemcdaa: 'HeapE'. It has no condition of its own. -/
import Derived.Test.YtdpofmalgemcdaaHeapD
set_option linter.unusedVariables false
set_option linter.unusedSimpArgs false
namespace Go.Proofs.Ytdpofmalgemcdaa
open Go Go.Mh

theorem encH_plain (a : HE) : ∀ u ∈ encH a, Mh.plainCell u = true := by intro u hu; simp [encH] at hu; rcases hu with rfl | rfl <;> rfl

theorem Rep.slr {h : Heap} {r m bl : Nat} {l : List HE} {n : Int} (H : Rep h r m bl l n) : ∃ v, h[r]? = some (.cells #[v, .map (some m), I n] tHeap (0, 0)) ∧ SlR encH 2 tHeld h v bl l := by
  obtain ⟨sl, cap, rest, hr, hs⟩ := H.row
  refine ⟨sl, hr, ?_⟩
  rcases hs with ⟨a, b, _⟩ | ⟨a, b, c, d⟩
  · exact .inl ⟨a, b⟩
  · exact .inr ⟨cap, rest, a, b, c, d⟩

theorem Rep.of {h : Heap} {r m bl : Nat} {l : List HE} {n : Int} {v : Value} {es : Array MapEntry} {c : Nat} (hr : h[r]? = some (.cells #[v, .map (some m), I n] tHeap (0, 0))) (hs : SlR encH 2 tHeld h v bl l)
    (hm : h[m]? = some (.map es c)) (hi : IMap es c (pos l)) (hn : (l.map (·.1)).Nodup) (hl : l.length < 2 ^ 40) : Rep h r m bl l n := by
  refine ⟨?_, ⟨es, c, hm, hi⟩, hn, hl⟩
  rcases hs with ⟨a, b⟩ | ⟨cap, rest, a, b, c, d⟩
  · exact ⟨v, 0, [], hr, .inl ⟨a, b, rfl⟩⟩
  · exact ⟨v, cap, rest, hr, .inr ⟨a, b, c, d⟩⟩

/-! ### A heap object, as its users see it -/

def Grow (h : Heap) (F F' : Nat → Prop) : Prop := ∀ b, F' b → F b ∨ h.size ≤ b

structure HV (h : Heap) (F : Nat → Prop) (r : Nat) (l : List HE) (n : Int) : Prop where
  rep : ∃ m bl, Rep h r m bl l n ∧ HeapOrd l ∧ F r ∧ F m ∧ F bl
  low : ∀ b, F b → b < h.size
  rng : ∀ p ∈ l, 0 ≤ p.1 ∧ p.1 < n

theorem HV.nodup {h : Heap} {F : Nat → Prop} {r : Nat} {l : List HE} {n : Int} (H : HV h F r l n) : (l.map (·.1)).Nodup := by
  obtain ⟨m, bl, R, _⟩ := H.rep; exact R.ids

theorem HV.small {h : Heap} {F : Nat → Prop} {r : Nat} {l : List HE} {n : Int} (H : HV h F r l n) : l.length < 2 ^ 40 := by
  obtain ⟨m, bl, R, _⟩ := H.rep; exact R.small

theorem HV.upd {h h' : Heap} {F S : Nat → Prop} {r : Nat} {l : List HE} {n : Int} (H : HV h F r l n) (hu : Upd S h h') (hd : ∀ b, F b → ¬ S b) : HV h' F r l n := by
  obtain ⟨⟨m, bl, R, ho, f1, f2, f3⟩, hlow, hr⟩ := H
  exact ⟨⟨m, bl, R.upd hu (hd _ f1) (hd _ f2) (hd _ f3), ho, f1, f2, f3⟩, fun b hb => Nat.lt_of_lt_of_le (hlow b hb) hu.size, hr⟩

def Min (l : List HE) (p : HE) : Prop := p ∈ l ∧ ∀ q ∈ l, ¬ hlt q p = true

theorem hlt_total {p q : HE} (h1 : ¬ hlt p q = true) (h2 : ¬ hlt q p = true) : p = q := by
  rw [hlt_iff] at h1 h2
  obtain ⟨a, b⟩ := p
  obtain ⟨c, d⟩ := q
  simp only [Prod.mk.injEq] at *
  omega

theorem Min.uniq {l l' : List HE} {p p' : HE} (h : Min l p) (h' : Min l' p') (hp : l.Perm l') : p = p' :=
  hlt_total (h'.2 p (hp.mem_iff.1 h.1)) (h.2 p' (hp.mem_iff.2 h'.1))

theorem HeapOrd.min {l : List HE} (h : HeapOrd l) (hl : 0 < l.length) : Min l l[0] := by
  refine ⟨List.getElem_mem hl, fun q hq => ?_⟩
  obtain ⟨j, hj, rfl⟩ := List.mem_iff_getElem.1 hq
  rw [gt_eq hj, gt_eq hl]
  clear hq
  induction j using Nat.strongRecOn with
  | _ j ih =>
    by_cases h0 : j = 0
    · subst h0; exact fun e => hlt_asymm e e
    · exact hlt_trans (h j (by omega) hj) (ih ((j - 1) / 4) (by omega) (by omega))

theorem len_ok {h : Heap} {F : Nat → Prop} {r : Nat} {l : List HE} {n : Int} {K : Value → Heap → Prop} (H : HV h F r l n) (hK : K (I l.length) h) : callS Try.prog 13 [ptr r] h K := by
  obtain ⟨⟨m, bl, R, ho, f1, f2, f3⟩, hlow, hrg⟩ := H
  obtain ⟨v, hr, hs⟩ := R.slr
  refine callS_of (link13 _ ?_)
  unfold sh13
  have c0 := hcell0 hr
  simp only [pEq_ptr_nil, Option.isNone_some, ifV_false, pNil_ptr, pField_ptr, pLoad_ptr, c0]
  exact hs.lenK hK

theorem least_ok {h : Heap} {F : Nat → Prop} {r : Nat} {l : List HE} {n : Int} {K : Value → Heap → Prop} (H : HV h F r l n)
    (h0 : l = [] → K (.tuple #[I 0, .bool false]) h) (h1 : ∀ p, Min l p → K (.tuple #[I p.2, .bool true]) h) : callS Try.prog 11 [ptr r] h K := by
  refine callS_of (link11 _ ?_)
  unfold sh11
  refine len_ok H ?_
  obtain ⟨⟨m, bl, R, ho, f1, f2, f3⟩, hlow, hrg⟩ := H
  obtain ⟨v, hr, hs⟩ := R.slr
  have c0 := hcell0 hr
  simp only [pBin_eql, ifV_beq, pNil_ptr, pField_ptr, pLoad_ptr, c0]
  refine ⟨fun he => h0 (List.eq_nil_of_length_eq_zero (by omega)), fun he => ?_⟩
  have hl : 0 < l.length := by omega
  have hi := hs.idx (i := 0) (k := .i64) (K := fun t12 => pField 1 t12 fun t13 => pLoad h t13 fun t14 => K (.tuple #[t14, .bool true]) h) hl (by
    have := hs.slot encH_len hl (j := 1) (by omega)
    simp only [Nat.zero_mul, Nat.zero_add] at this
    simp only [pField_ptr, pLoad_ptr, Nat.zero_mul, Nat.zero_add, this]
    exact h1 _ (ho.min hl))
  exact hi

theorem key_ok {h : Heap} {F : Nat → Prop} {r : Nat} {l : List HE} {n id : Int} {K : Value → Heap → Prop} (H : HV h F r l n)
    (h0 : (∀ p ∈ l, p.1 ≠ id) → K (.tuple #[I 0, .bool false]) h) (h1 : ∀ p ∈ l, p.1 = id → K (.tuple #[I p.2, .bool true]) h) : callS Try.prog 15 [ptr r, I id] h K := by
  refine callS_of (link15 _ _ ?_)
  unfold sh15
  refine len_ok H ?_
  obtain ⟨⟨m, bl, R, ho, f1, f2, f3⟩, hlow, hrg⟩ := H
  obtain ⟨v, hr, hs⟩ := R.slr
  obtain ⟨es, c, hm, him⟩ := R.map
  have c0 := hcell0 hr
  have c1 := hcell1 hr
  simp only [pBin_eql, ifV_beq, pNil_ptr, pField_ptr, pLoad_ptr, c0, c1, Nat.zero_add]
  refine ⟨fun he => h0 (by have : l = [] := List.eq_nil_of_length_eq_zero (by omega); subst this; simp), fun he => ?_⟩
  refine look_of hm him ?_
  rcases pos_cases l id with ⟨i, hi, rfl⟩ | hno
  · simp only [pos_get R.ids hi, if_true, Option.getD_some, Option.isSome_some, pExt_tuple]
    show pUn .not (.bool true) _
    simp only [pUn_not, Bool.not_true, ifV_false]
    refine hs.idx hi ?_
    simp only [pField_ptr, pLoad_ptr, hs.slot encH_len hi (j := 1) (by omega)]
    exact h1 _ (List.getElem_mem hi) rfl
  · simp only [pos_none hno, if_true, Option.getD_none, Option.isSome_none, pExt_tuple]
    show pUn .not (.bool false) _
    simp only [pUn_not, Bool.not_false, ifV_true]
    exact h0 hno

theorem new_ok {h : Heap} {n : Int} {K : Value → Heap → Prop} (hK : ∀ h' F r, HV h' F r [] (max n 0) → (∀ b, F b → h.size ≤ b) → Ext h h' → K (ptr r) h') : callS Try.prog 9 [I n] h K := by
  refine callS_of (link9 _ ?_)
  unfold sh9 pMakeMap pBuild
  refine ⟨by simp [sizesOk], ?_⟩
  dsimp only
  rw [pMax_int]
  have e : (if (0 : Int) > n then 0 else n) = max n 0 := by omega
  rw [e]
  refine ⟨by simp [sizesOk, spliceAll], ?_⟩
  refine pBox_of ?_
  simp only [spliceAll]
  have hs1 : (h.push (Obj.map #[] 0)).size = h.size + 1 := by simp
  refine hK _ (fun b => b = h.size ∨ b = h.size + 1) (h.push (Obj.map #[] 0)).size ?_ (fun b hb => by omega) ((Upd.push _ _ _).trans (Upd.push _ _ _) fun _ h _ => h)
  have hm : ((h.push (Obj.map #[] 0)).push (.cells #[.slice none 0 0, .map (some h.size), I (max n 0)] tHeap (0, 0)))[h.size]? = some (.map #[] 0) :=
    (Upd.push (fun _ => False) (h.push (Obj.map #[] 0)) (.cells #[.slice none 0 0, .map (some h.size), I (max n 0)] tHeap (0, 0))).get push_new id
  refine ⟨⟨h.size, h.size, Rep.of push_new (.inl ⟨rfl, rfl⟩) hm (IMap.empty.congr fun k => rfl) (by simp) (by simp), fun j _ hj => by simp at hj, .inr hs1, .inl rfl, .inl rfl⟩, fun b hb => by simp; omega, by simp⟩

end Go.Proofs.Ytdpofmalgemcdaa
