/- Texts of the proofs of seat YtleaknaadodjeaaGreat, joined: Slice, View, Wrap, IMap, All, Own, OwnS, Graph, KMap, OwnM, OwnP, OwnD. They have no conditions of their own. -/
import Derived.Test.YtleaknaadodjeaaGreatMb
import Derived.Laws.Append
import Derived.WalkKit
import Derived.ProofKit
import Derived.Deep.Slices
import Derived.ReadAgain
import Derived.Handed
set_option linter.unusedVariables false
set_option linter.unusedSimpArgs false
set_option linter.unusedSectionVars false

namespace Go.Mh
open Go

section
variable {h : Heap} {b : Nat}

theorem hcell0 {v : Value} {l : List Value} {T : TypeId} {fz : Nat × Nat} (hb : h[b]? = some (.cells (v :: l).toArray T fz)) : hcell h ⟨b, 0, none⟩ = some v := hcell_of hb (by simp)
theorem hcell1 {u v : Value} {l : List Value} {T : TypeId} {fz : Nat × Nat} (hb : h[b]? = some (.cells (u :: v :: l).toArray T fz)) : hcell h ⟨b, 1, none⟩ = some v := hcell_of hb (by simp)
theorem hcell2 {u t v : Value} {l : List Value} {T : TypeId} {fz : Nat × Nat} (hb : h[b]? = some (.cells (u :: t :: v :: l).toArray T fz)) : hcell h ⟨b, 2, none⟩ = some v := hcell_of hb (by simp)
theorem hcell3 {u t w v : Value} {l : List Value} {T : TypeId} {fz : Nat × Nat} (hb : h[b]? = some (.cells (u :: t :: w :: v :: l).toArray T fz)) : hcell h ⟨b, 3, none⟩ = some v := hcell_of hb (by simp)

theorem takeM_of {K : Heap → Prop} : ∀ (m : List Nat) (h : Heap), (∀ D ∈ m, h[D]? = some (.deferred (some []))) → m.Nodup → (∀ h', Upd (fun b => b ∈ m) h h' → K h') → takeM m h K
  | [], h, _, _, hk => hk h (.refl _ _)
  | D :: m, h, hD, hn, hk => by
    refine ⟨hD D List.mem_cons_self, ?_⟩
    rw [List.nodup_cons] at hn
    refine takeM_of m _ (fun D' hD' => ?_) hn.2 fun h' hu => hk h' ?_
    · rw [setIf_upd, upd_ne (fun e : D = D' => hn.1 (by rw [e]; exact hD'))]; exact hD D' (List.mem_cons_of_mem _ hD')
    · exact (Upd.upd (S := fun b => b ∈ D :: m) h _ List.mem_cons_self).trans hu fun b hb _ => List.mem_cons_of_mem _ hb

theorem roundK_normal {l : Nat} {L : Loop} {R : Value → Heap → Prop} {p : Option Code} (hb : h[l]? = some (lo L .busy p)) (hk : R (.bool true) (upd h l (lo L .ready none))) : roundK l L R .normal h :=
  ⟨p, hb, hk⟩

theorem beginR_of {l : Nat} {L : Loop} {K : Heap → Prop} {p : Option Code} (hb : h[l]? = some (lo L .ready p)) (hk : K (upd h l (lo L .busy p))) : beginR l L h K :=
  ⟨p, hb, hk⟩
end

section
variable {K : Value → Prop} {a b c d : Value} {l : List Value}
theorem pExt0 : pExt (.tuple (a :: l).toArray) 0 K = K a := by simp [pExt]
theorem pExt1 : pExt (.tuple (a :: b :: l).toArray) 1 K = K b := by simp [pExt]
theorem pExt2 : pExt (.tuple (a :: b :: c :: l).toArray) 2 K = K c := by simp [pExt]
theorem pExt3 : pExt (.tuple (a :: b :: c :: d :: l).toArray) 3 K = K d := by simp [pExt]
end

/-! ### A slice of its own block -/

section
variable {α : Type} {enc : α → List Value} {n : Nat} {T : TypeId} {h h' : Heap} {v : Value} {bl : Nat} {xs ys : List α}

def SlR (enc : α → List Value) (n : Nat) (T : TypeId) (h : Heap) (v : Value) (bl : Nat) (xs : List α) : Prop :=
  (v = .slice none 0 0 ∧ xs = []) ∨ ∃ cap rest, v = .slice (some ⟨bl, 0, none⟩) xs.length cap ∧ h[bl]? = some (.cells (row enc xs ++ rest).toArray T (0, 0)) ∧
    rest.length = (cap - xs.length) * n ∧ xs.length ≤ cap

theorem SlR.len (H : SlR enc n T h v bl xs) : ∃ base cap, v = .slice base xs.length cap := by
  rcases H with ⟨rfl, rfl⟩ | ⟨_, _, rfl, _⟩
  · exact ⟨_, _, rfl⟩
  · exact ⟨_, _, rfl⟩

theorem SlR.full (H : SlR enc n T h v bl xs) (hl : 0 < xs.length) : ∃ cap rest, v = .slice (some ⟨bl, 0, none⟩) xs.length cap ∧ h[bl]? = some (.cells (row enc xs ++ rest).toArray T (0, 0)) ∧
    rest.length = (cap - xs.length) * n ∧ xs.length ≤ cap := by
  rcases H with ⟨rfl, rfl⟩ | H
  · simp at hl
  · exact H

theorem SlR.upd {S : Nat → Prop} (H : SlR enc n T h v bl xs) (hu : Upd S h h') (hn' : ¬ S bl) : SlR enc n T h' v bl xs := by
  rcases H with H | ⟨cap, rest, a, b, c, d⟩
  · exact .inl H
  · exact .inr ⟨cap, rest, a, hu.get b hn', c, d⟩

theorem SlR.slot {m : Nat} (H : SlR enc m T h v bl xs) {i j : Nat} (he : ∀ a, (enc a).length = m) (hi : i < xs.length) (hj : j < m) : hcell h ⟨bl, i * m + j, none⟩ = (enc xs[i])[j]? := by
  obtain ⟨cap, rest, _, hb, _, _⟩ := H.full (by omega)
  rw [hcell_of hb (v := (enc xs[i])[j]'(by rw [he]; exact hj)) (by
    have := row_get he hi hj rest
    rw [List.getElem?_toArray, this]; simp)]
  simp

/-- The index of an element. -/
theorem SlR.idx (H : SlR enc n T h v bl xs) {i : Nat} {k : IntKind} {K : Value → Prop} (hi : i < xs.length) (hk : K (.pointer (some ⟨bl, i * n, none⟩))) : pIdx n v (.int k i) K := by
  obtain ⟨cap, rest, rfl, hb, _, _⟩ := H.full (by omega)
  rw [pIdx_sl]
  refine ⟨⟨by omega, by omega⟩, ?_⟩
  simpa using hk

theorem SlR.lenK (H : SlR enc n T h v bl xs) {K : Value → Prop} (hk : K (.int .i64 xs.length)) : pLen v K := by
  obtain ⟨b, c, rfl⟩ := H.len
  exact hk

theorem SlR.lt (H : SlR enc n T h v bl xs) (hl : 0 < xs.length) : bl < h.size := by
  obtain ⟨cap, rest, _, hb, _, _⟩ := H.full hl
  exact get_lt hb

theorem cellsOf_SlR (he : ∀ a, (enc a).length = n) (H : SlR enc n T h v bl xs) : ∃ base cap, v = .slice base xs.length cap ∧ cellsOfSl h n xs.length base = some (row enc xs) := by
  rcases H with ⟨rfl, rfl⟩ | ⟨cap, rest, rfl, hb, _, _⟩
  · exact ⟨_, _, rfl, rfl⟩
  · refine ⟨some ⟨bl, 0, none⟩, cap, rfl, ?_⟩
    have hl := row_length he xs
    simp only [cellsOfSl]
    rw [cellsAt_of (i := 0) hb _ 0 (by simp [hl])]
    rw [List.drop_zero, ← hl, List.take_left']
    rfl

/-- More elements behind. -/
theorem append_of {bytes : Nat} {zero : List Value} {xb : Option Addr} {m xc : Nat} {K : Value → Heap → Prop} (he : ∀ a, (enc a).length = n) (hp : ∀ a, ∀ u ∈ enc a, plainCell u = true) (hz : zero.length = n)
    (H : SlR enc n T h v bl xs) (hm : m = ys.length) (hx : cellsOfSl h n m xb = some (row enc ys)) (hby : 0 < bytes) (hb : (xs.length + ys.length) * bytes ≤ 2 ^ 47)
    (hK : ∀ v' bl' h', SlR enc n T h' v' bl' (xs ++ ys) → (bl' = bl ∨ bl' = h.size) → Upd (fun b => b = bl ∧ ∃ cs, h[b]? = some (.cells cs T (0, 0))) h h' → (bl < h.size → bl' < h'.size) → K v' h') :
    pAppend T n bytes zero v (.slice xb m xc) h K := by
  subst hm
  have hrx := row_length he xs
  have hry := row_length he ys
  have hpl : ∀ u ∈ row enc ys, plainCell u = true := by
    intro u hu
    simp only [row, List.mem_flatMap] at hu
    obtain ⟨a, _, ha⟩ := hu
    exact hp a u ha
  have hcapB : ∀ cap, cap < xs.length + ys.length → Builtin.nextslicecap (xs.length + ys.length) cap * bytes ≤ 2 ^ 48 ∧ xs.length + ys.length < 2 ^ 63 := by
    intro cap hc
    refine ⟨growslice_fits hc (by omega), ?_⟩
    have := Nat.le_mul_of_pos_right (xs.length + ys.length) hby
    omega
  have hzl : ∀ m, (zerosL zero m).length = m * n := by
    intro m; simp [zerosL, hz]
  have fresh : ∀ (c : Nat), xs.length + ys.length ≤ c → K (.slice (some ⟨h.size, 0, none⟩) (xs.length + ys.length) c) (h.push (.cells (row enc xs ++ row enc ys ++ zerosL zero (c - (xs.length + ys.length))).toArray T (0, 0))) := by
    intro c hc
    exact hK _ h.size _ (.inr ⟨c, zerosL zero (c - (xs.length + ys.length)), by simp, by rw [push_new, row_append], by simp [hzl], by simpa using hc⟩) (.inr rfl) (Upd.push _ _ _) (fun _ => by simp)
  rcases H with ⟨rfl, rfl⟩ | ⟨cap, rest, rfl, hbk, hr, hle⟩
  · simp only [pAppend, hx]
    by_cases h0 : ys.length = 0
    · have : ys = [] := List.eq_nil_of_length_eq_zero h0
      subst this
      simp only [List.length_nil, Nat.add_zero, Nat.le_refl, if_true]
      exact hK _ bl _ (.inl ⟨rfl, rfl⟩) (.inl rfl) (.refl _ _) id
    · rw [if_neg (by omega)]
      simp only [cellsOfSl, List.nil_append]
      have hc := hcapB 0 (by simp; omega)
      simp only [List.length_nil] at hc
      refine ⟨hc.1, hc.2, fun c h1 h2 => ?_⟩
      have := fresh c (by simpa using h1)
      simpa [row] using this
  · simp only [pAppend, hx]
    by_cases hcap : xs.length + ys.length ≤ cap
    · rw [if_pos hcap]
      have hrl : rest.length = cap * n - xs.length * n := by rw [hr, Nat.sub_mul]
      have hmul : (xs.length + ys.length) * n ≤ cap * n := Nat.mul_le_mul_right n hcap
      rw [Nat.add_mul] at hmul
      refine storeL_of _ _ _ _ hbk (by rw [List.length_append, hrx, hry]; omega) hpl ?_
      have ov : over (row enc xs ++ rest) (0 + xs.length * n) (row enc ys) = row enc (xs ++ ys) ++ rest.drop (ys.length * n) := by
        unfold over
        rw [Nat.zero_add, ← hrx, List.take_left', hry, List.drop_append, row_append]
        · rw [List.drop_of_length_le (by omega), show (row enc xs).length + ys.length * n - (row enc xs).length = ys.length * n by omega]; simp
        · rfl
      rw [ov]
      refine hK _ bl _ (.inr ⟨cap, rest.drop (ys.length * n), by simp, upd_self' hbk, ?_, by simpa using hcap⟩) (.inl rfl) (Upd.upd _ _ ⟨rfl, _, hbk⟩) (by simp [upd_size])
      rw [List.length_drop, hrl, List.length_append, Nat.sub_mul, Nat.add_mul]; omega
    · rw [if_neg hcap]
      have hl := cellsOf_SlR he (.inr ⟨cap, rest, rfl, hbk, hr, hle⟩ : SlR enc n T h (.slice (some ⟨bl, 0, none⟩) xs.length cap) bl xs)
      obtain ⟨b0, c0, e0, hl⟩ := hl
      injection e0 with e0 _ _
      subst e0
      rw [hl]
      have hc := hcapB cap (by omega)
      exact ⟨hc.1, hc.2, fun c h1 h2 => fresh c h1⟩

/-- An element set. -/
theorem SlR.set {sz : Nat} {w : Value} {i : Nat} {a : α} {KH : Value → Heap → Prop} {q : Value} (he : ∀ a, (enc a).length = n) (hp : ∀ u ∈ enc a, plainCell u = true)
    (H : SlR enc n T h v bl xs) (hi : i < xs.length) (hq : q = .pointer (some ⟨bl, i * n, none⟩)) (hw : w.cells.toList = enc a) (hsz : sz = n)
    (hK : ∀ h', SlR enc n T h' v bl (xs.set i a) → Upd (fun b => b = bl) h h' → h'.size = h.size → KH undef h') : pStore sz q w h KH := by
  rw [hsz]
  obtain ⟨cap, rest, rfl, hb, hr, hle⟩ := H.full (by omega)
  have hwl : w.cells.size = n := by rw [← he a, ← hw]; simp
  have hrx := row_length he xs
  have hmul : (i + 1) * n ≤ xs.length * n := Nat.mul_le_mul_right n hi
  rw [Nat.succ_mul] at hmul
  refine pStore_of hq hb hwl (by rw [hwl, List.length_append, hrx]; omega) (by rw [hw]; exact hp) ?_
  rw [hw, row_over he hi]
  exact hK _ (.inr ⟨cap, rest, by simp, upd_self' hb, by simpa using hr, by simpa using hle⟩) (Upd.upd _ _ rfl) upd_size

/-! ### A view of a row -/

def VwR (enc : α → List Value) (n : Nat) (h : Heap) (v : Value) (bl : Nat) (ys : List α) : Prop :=
  ∃ base cap, v = .slice base ys.length cap ∧ ys.length ≤ cap ∧ ((ys = [] ∧ (base = none ∨ ∃ b o, base = some ⟨b, o, none⟩)) ∨
    ∃ o pre post T fz, base = some ⟨bl, o, none⟩ ∧ h[bl]? = some (.cells (pre ++ row enc ys ++ post).toArray T fz) ∧ pre.length = o)

theorem VwR.upd {S : Nat → Prop} (H : VwR enc n h v bl ys) (hu : Upd S h h') (hn : ¬ S bl) : VwR enc n h' v bl ys := by
  obtain ⟨base, cap, rfl, hc, H⟩ := H
  refine ⟨base, cap, rfl, hc, ?_⟩
  rcases H with H | ⟨o, pre, post, T, fz, a, b, c⟩
  · exact .inl H
  · exact .inr ⟨o, pre, post, T, fz, a, hu.get b hn, c⟩

theorem SlR.view (H : SlR enc n T h v bl xs) : VwR enc n h v bl xs := by
  rcases H with ⟨rfl, rfl⟩ | ⟨cap, rest, rfl, hb, _, hle⟩
  · exact ⟨none, 0, rfl, Nat.le_refl _, .inl ⟨rfl, .inl rfl⟩⟩
  · exact ⟨_, _, rfl, hle, .inr ⟨0, [], rest, T, _, rfl, hb, rfl⟩⟩

theorem VwR.cells (he : ∀ a, (enc a).length = n) (H : VwR enc n h v bl ys) : ∃ base cap, v = .slice base ys.length cap ∧ cellsOfSl h n ys.length base = some (row enc ys) := by
  obtain ⟨base, cap, rfl, hc, H⟩ := H
  refine ⟨base, cap, rfl, ?_⟩
  rcases H with ⟨rfl, rfl | ⟨b, o, rfl⟩⟩ | ⟨o, pre, post, T, fz, rfl, hb, ho⟩
  · rfl
  · simp [cellsOfSl, cellsAt, row]
  · have hl := row_length he ys
    simp only [cellsOfSl]
    rw [cellsAt_of (i := 0) hb _ o (by simp [hl]; omega)]
    rw [List.append_assoc, ← ho, List.drop_left', ← hl, List.take_left']
    · rfl
    · rfl

theorem VwR.slot (he : ∀ a, (enc a).length = n) (H : VwR enc n h v bl ys) {i j : Nat} (hi : i < ys.length) (hj : j < n) :
    ∃ o cap, v = .slice (some ⟨bl, o, none⟩) ys.length cap ∧ hcell h ⟨bl, o + i * n + j, none⟩ = (enc ys[i])[j]? := by
  obtain ⟨base, cap, rfl, hc, H⟩ := H
  rcases H with ⟨rfl, _⟩ | ⟨o, pre, post, T, fz, rfl, hb, ho⟩
  · simp at hi
  · refine ⟨o, cap, rfl, ?_⟩
    rw [hcell_of hb (v := (enc ys[i])[j]'(by rw [he]; exact hj)) (by
      have := row_get he hi hj post
      rw [List.getElem?_toArray, List.append_assoc, List.getElem?_append_right (by omega), show o + i * n + j - pre.length = i * n + j by omega, this]; simp)]
    simp

theorem VwR.sub {lo hi : Option Value} {K : Value → Prop} {i j : Nat} (he : ∀ a, (enc a).length = n) (H : VwR enc n h v bl ys) (hlo : bndOf 0 lo = some (i : Int)) (hhi : bndOf ys.length hi = some (j : Int)) (hij : i ≤ j) (hj : j ≤ ys.length)
    (hK : ∀ v', VwR enc n h v' bl ((ys.drop i).take (j - i)) → K v') : pSlice n v lo hi none K := by
  obtain ⟨base, cap, rfl, hc, H⟩ := H
  simp only [pSlice, hlo, hhi]
  rw [show bndOf cap none = some (cap : Int) from rfl]
  dsimp only
  refine ⟨by simp, by omega, by omega, by omega, Int.le_refl _, ?_⟩
  refine hK _ ⟨_, _, by rw [show ((j : Int).toNat - (i : Int).toNat) = ((ys.drop i).take (j - i)).length by simp; omega], by simp; omega, ?_⟩
  simp only [Int.toNat_natCast]
  unfold slBase
  by_cases hci : cap = i
  · rw [if_pos hci]
    have : (ys.drop i).take (j - i) = [] := by
      apply List.eq_nil_of_length_eq_zero; simp; omega
    rcases H with ⟨_, hb⟩ | ⟨o, pre, post, T, fz, rfl, hb, ho⟩
    · exact .inl ⟨this, hb⟩
    · exact .inl ⟨this, .inr ⟨_, _, rfl⟩⟩
  · rw [if_neg hci]
    rcases H with ⟨rfl, rfl | ⟨b, o, rfl⟩⟩ | ⟨o, pre, post, T, fz, rfl, hb, ho⟩
    · exact .inl ⟨by simp, .inl rfl⟩
    · exact .inl ⟨by simp, .inr ⟨_, _, rfl⟩⟩
    · refine .inr ⟨o + i * n, pre ++ row enc (ys.take i), row enc ((ys.drop i).drop (j - i)) ++ post, T, fz, rfl, ?_, ?_⟩
      · rw [hb]
        have : row enc ys = row enc (ys.take i) ++ (row enc ((ys.drop i).take (j - i)) ++ row enc ((ys.drop i).drop (j - i))) := by
          rw [← row_append, List.take_append_drop, ← row_append, List.take_append_drop]
        rw [this]; simp [List.append_assoc]
      · rw [List.length_append, row_length he, ho]; simp; rw [Nat.min_eq_left (by omega)]

theorem VwR.lenK (H : VwR enc n h v bl ys) {K : Value → Prop} (hk : K (.int .i64 ys.length)) : pLen v K := by
  obtain ⟨b, c, rfl, _⟩ := H
  exact hk

/-- A front part of one's own row. -/
theorem SlR.pre {k : IntKind} {K : Value → Prop} {j : Nat} (H : SlR enc n T h v bl xs) (he : ∀ a, (enc a).length = n) (hj : j ≤ xs.length)
    (hK : ∀ v', SlR enc n T h v' bl (xs.take j) → K v') : pSlice n v none (some (.int k j)) none K := by
  rcases H with ⟨rfl, rfl⟩ | ⟨cap, rest, rfl, hb, hr, hle⟩
  · have : j = 0 := by simpa using hj
    subst this
    refine ⟨by simp, by simp, by simp, by simp, by simp, hK _ (.inl ⟨by simp [slBase], by simp⟩)⟩
  · refine ⟨by simp, by simp, by omega, by omega, Int.le_refl _, hK _ (.inr ⟨cap, row enc (xs.drop j) ++ rest, ?_, ?_, ?_, ?_⟩)⟩
    · have : slBase n 0 cap (some ⟨bl, 0, none⟩) = some ⟨bl, 0, none⟩ := by simp [slBase]
      simp [this, hj]
    · rw [hb, ← List.append_assoc, ← row_append, List.take_append_drop]
    · rw [List.length_append, row_length he, hr]; simp only [List.length_drop, List.length_take, Nat.min_eq_left hj]
      rw [← Nat.add_mul]; congr 1; omega
    · simp; omega

theorem makeSlice_of {bytes : Nat} {k k' : IntKind} {m : Nat} {a : α} {K : Value → Heap → Prop} (hb : (bytes : Int) * m ≤ 2 ^ 48) (hm : m < 2 ^ 63)
    (hK : ∀ w h', SlR enc n T h' w h.size (List.replicate m a) → Ext h h' → h'.size = h.size + 1 → K w h') : pMakeSlice T bytes (enc a) (.int k m) (.int k' m) h K := by
  refine ⟨by omega, Int.le_refl _, hb, by omega, ?_⟩
  refine hK _ _ (.inr ⟨m, [], by simp, ?_, by simp, by simp⟩) (Upd.push _ _ _) push_size
  rw [push_new]
  have : row enc (List.replicate m a) = (List.replicate m (enc a)).flatten := by simp [row, List.flatMap]
  simp [this]

/-- The place of an element of a view. -/
theorem VwR.idx {k : IntKind} {K : Value → Prop} {i : Nat} (he : ∀ a, (enc a).length = n) (H : VwR enc n h v bl ys) (hi : i < ys.length)
    (hK : ∀ o, (∀ j, j < n → hcell h ⟨bl, o + j, none⟩ = (enc ys[i])[j]?) → K (.pointer (some ⟨bl, o, none⟩))) : pIdx n v (.int k i) K := by
  obtain ⟨base, cap, rfl, hc, H⟩ := H
  rcases H with ⟨rfl, _⟩ | ⟨o, pre, post, T, fz, rfl, hb, ho⟩
  · simp at hi
  · rw [pIdx_sl]
    refine ⟨⟨by omega, by omega⟩, ?_⟩
    simp only [Int.toNat_natCast]
    refine hK _ fun j hj => ?_
    rw [hcell_of hb (v := (enc ys[i])[j]'(by rw [he]; exact hj)) (by
      have := row_get he hi hj post
      rw [List.getElem?_toArray, List.append_assoc, List.getElem?_append_right (by omega), show o + i * n + j - pre.length = i * n + j by omega, this]; simp)]
    simp

end
end Go.Mh

namespace Go.Mh
open Go Go.ChangeShapes Go.WideShapes Go.ChangeAt Go.RowKit

section
variable {H : Type} {encD : TypeId × Value → H} {P : Program} {w : World} {α : Type} {enc : α → List Value} {ok : α → Prop} {n : Nat} {e t : TypeId} {v : Value} {r : Reach} {base : Nat} {d : DataW H} {p : List MemPlace}

theorem add_plain {a : Addr} (hs : a.spot = none) (k : Nat) : a.add k = ⟨a.block, a.off + k, none⟩ := by
  obtain ⟨b, o, s⟩ := a
  simp only at hs
  subst hs
  unfold Addr.add
  split
  · rename_i h; subst h; rfl
  · rfl

theorem okWide_slice_spot {a : Addr} {len cap : Nat} (ht : P.underlying t = some (.slice e)) (h : Value.okWide P w r base t (.slice (some a) len cap)) : a.spot = none := by
  simp only [Value.okWide, ht, Cell.okWide, Cell.ok] at h
  exact h.2.2.2.1

theorem mapM_get {β γ : Type} {f : β → Option γ} : ∀ {l : List β} {r : List γ}, l.mapM f = some r → ∀ (i : Nat) (x : β), l[i]? = some x → f x = r[i]?
  | [], r, h, i, x, hx => by simp at hx
  | y :: l, r, h, i, x, hx => by
    rw [List.mapM_cons] at h
    simp only [Option.pure_def, Option.bind_eq_bind, Option.bind_eq_some_iff] at h
    obtain ⟨z, hz, rs, hrs, hr⟩ := h
    simp only [Option.some.injEq] at hr
    subst hr
    cases i with
    | zero => simp at hx; subst hx; simp [hz]
    | succ i => simp at hx; simpa using mapM_get hrs i x hx

theorem choose_list {Q : Nat → α → Prop} : ∀ len, (∀ i, i < len → ∃ x, Q i x) → ∃ xs : List α, xs.length = len ∧ ∀ i (hi : i < xs.length), Q i xs[i]
  | 0, _ => ⟨[], rfl, fun i hi => by simp at hi⟩
  | len + 1, hall => by
    obtain ⟨xs, hl, hxs⟩ := choose_list len fun i hi => hall i (by omega)
    obtain ⟨x, h1⟩ := hall len (by omega)
    refine ⟨xs ++ [x], by simp [hl], fun i hi => ?_⟩
    by_cases hlt : i < xs.length
    · rw [List.getElem_append_left hlt]; exact hxs i hlt
    · have : i = len := by simp at hi; omega
      subst this
      rw [List.getElem_append_right (by omega)]
      simpa [hl] using h1

theorem view_of (he : ∀ a, (enc a).length = n) (ht : P.underlying t = some (.slice e)) (hn : P.cellsOf e = n) (hpos : 0 < n)
    (hdec : ∀ fuel cs x, DataW.trod encD P w 0 (fun _ => true) true fuel e cs = some x → ∃ a, cs = enc a ∧ ok a)
    (hv : Value.okWide P w r base t v) (hd : DataW.Trod encD P w 0 (fun _ => true) true t v d p) :
    ∃ bl xs, VwR enc n w.heap v bl xs ∧ (∀ a ∈ xs, ok a) ∧ xs.length ≤ maxLen := by
  obtain ⟨a0, len0, cap0, rfl⟩ := okWide_slice ht hv
  obtain ⟨fuel, hf⟩ := hd
  rcases Go.Deep.open_slice ht hf with ⟨hc, _⟩ | ⟨a, len, cap, m, fuel', D, Pl, hc, _, hle, hmx, hm, _, hx⟩
  · simp only [Value.cells, List.cons.injEq, and_true] at hc
    rw [hc]
    exact ⟨0, [], ⟨none, 0, rfl, Nat.le_refl _, .inl ⟨rfl, .inl rfl⟩⟩, by simp, by simp⟩
  · simp only [Value.cells, List.cons.injEq, and_true] at hc
    rw [hc] at hv ⊢
    have hsp := okWide_slice_spot ht hv
    simp only [if_true] at hm
    subst hm
    have hall : ∀ i, i < len → ∃ x : α, w.cells? 0 (a.add (i * n)) n = some (enc x) ∧ ok x := by
      intro i hi
      obtain ⟨cs', h1, h2⟩ := hx i (by omega)
      obtain ⟨x, rfl, hok⟩ := hdec _ _ _ h2
      rw [hn] at h1
      exact ⟨x, h1, hok⟩
    obtain ⟨xs, hl, hxs⟩ := choose_list (Q := fun i x => w.cells? 0 (a.add (i * n)) n = some (enc x) ∧ ok x) len hall
    refine ⟨a.block, xs, ?_, fun x hx' => ?_, by omega⟩
    · refine ⟨some a, m, by rw [hl], by omega, ?_⟩
      have ha : a = ⟨a.block, a.off, none⟩ := by
        obtain ⟨b, o, s⟩ := a; simp only at hsp; subst hsp; rfl
      by_cases h0 : xs = []
      · exact .inl ⟨h0, .inr ⟨_, _, by rw [← ha]⟩⟩
      · right
        have hlp : 0 < xs.length := List.length_pos_iff.2 h0
        have hcell : ∀ i (hi : i < xs.length) j, j < n → w.cell? ⟨a.block, a.off + i * n + j, none⟩ = (enc xs[i])[j]? := by
          intro i hi j hj
          have h1 := (hxs i hi).1
          unfold World.cells? at h1
          rw [if_pos (Nat.zero_le _), add_plain hsp] at h1
          have := mapM_get h1 j j (by simp [hj])
          rw [add_plain rfl] at this
          exact this
        have h00 := hcell 0 hlp 0 hpos
        simp only [World.cell?] at h00
        have hblk : ∃ c T fz, w.heap[a.block]? = some (.cells c T fz) := by
          split at h00
          · rename_i c T fz hb; exact ⟨c, T, fz, hb⟩
          · rw [List.getElem?_eq_getElem (by rw [he]; exact hpos)] at h00; cases h00
        obtain ⟨c, T, fz, hb⟩ := hblk
        have hcc : ∀ i (hi : i < xs.length) j, j < n → c[a.off + i * n + j]? = (enc xs[i])[j]? := by
          intro i hi j hj
          have := hcell i hi j hj
          simpa [World.cell?, hb] using this
        have hrl := row_length he xs
        have hmid : (c.toList.drop a.off).take (xs.length * n) = row enc xs := by
          apply List.ext_getElem?
          intro k
          by_cases hk : k < xs.length * n
          · have hi : k / n < xs.length := (Nat.div_lt_iff_lt_mul hpos).2 hk
            have hj : k % n < n := Nat.mod_lt _ hpos
            have hkk : k / n * n + k % n = k := by rw [Nat.mul_comm]; exact Nat.div_add_mod k n
            have g := row_get he hi hj []
            rw [List.append_nil, hkk] at g
            rw [g, ← hcc _ hi _ hj, List.getElem?_take_of_lt hk, List.getElem?_drop, Nat.add_assoc, hkk]
            simp
          · rw [List.getElem?_eq_none (by simp; omega), List.getElem?_eq_none (by omega)]
        have hsize : a.off + xs.length * n ≤ c.size := by
          have hi : xs.length - 1 < xs.length := by omega
          have h1 := hcc (xs.length - 1) hi (n - 1) (by omega)
          rw [List.getElem?_eq_getElem (by rw [he]; omega)] at h1
          have h2 := (Array.getElem?_eq_some_iff.1 h1).1
          have h3 : (xs.length - 1) * n + n = xs.length * n := by rw [← Nat.succ_mul]; congr 1; omega
          omega
        refine ⟨a.off, c.toList.take a.off, c.toList.drop (a.off + xs.length * n), T, fz, by rw [← ha], ?_, by simp; omega⟩
        rw [hb, ← hmid]
        have : c.toList.take a.off ++ (c.toList.drop a.off).take (xs.length * n) ++ c.toList.drop (a.off + xs.length * n) = c.toList := by
          rw [← List.drop_drop, List.append_assoc, List.take_append_drop, List.take_append_drop]
        rw [this]
    · obtain ⟨i, hi, rfl⟩ := List.mem_iff_getElem.1 hx'
      exact (hxs i hi).2

theorem dec_int {k : IntKind} (he : P.underlying e = some (.int k)) {sp : Nat → Bool} : ∀ fuel cs x, DataW.trod encD P w 0 sp true fuel e cs = some x → ∃ a : Int, cs = [.int k a] ∧ k.min ≤ a ∧ a ≤ k.max := by
  intro fuel cs x h
  obtain ⟨n', rfl, _, hw⟩ := DataW.trod_int he h
  refine ⟨n', rfl, ?_⟩
  simpa [Lit.wf] using hw

theorem int_of {k : IntKind} (ht : P.underlying t = some (.int k)) (hv : Value.okWide P w r base t v) (hd : DataW.Trod encD P w 0 (fun _ => true) true t v d p) : ∃ a : Int, v = .int k a ∧ k.min ≤ a ∧ a ≤ k.max := by
  obtain ⟨a, rfl, _, _, hw⟩ := open_int ht hv hd
  exact ⟨a, rfl, by simpa [Lit.wf] using hw⟩

end
end Go.Mh

namespace Go.Mh
open Go Go.ChangeShapes Go.WideShapes Go.ChangeAt Go.RowKit

section
variable {H : Type} {enc : TypeId × Value → H} {P : Program} {W W' : World}

theorem sameAt_of_ext (hx : Ext W.heap W'.heap) {p : MemPlace} (hp : p.block < W.heap.size) : W.sameAt W' p := by
  cases p with
  | cell b off =>
    have := hx.same b hp id
    show W'.cell? _ = W.cell? _
    simp only [World.cell?, this]
  | map b => exact hx.same b hp id

theorem trodAll_carry {base : Nat} {spare : Nat → Bool} {held : Bool} : ∀ {ts : List TypeId} {vs : List Value} {ds : List (DataW H)} {ps : List MemPlace}, DataW.TrodAll enc P W base spare held ts vs ds ps →
    (∀ p ∈ ps, W.sameAt W' p) → DataW.TrodAll enc P W' base spare held ts vs ds ps
  | [], [], [], _, h, _ => h
  | _ :: _, _ :: _, _ :: _, _, ⟨p, q, ⟨n, hn⟩, hs, e⟩, ha => by
    subst e
    exact ⟨p, q, ⟨n, DataW.trod_carry n _ _ _ hn fun x hx => ha x (List.mem_append_left _ hx)⟩, trodAll_carry hs fun x hx => ha x (List.mem_append_right _ hx), rfl⟩

theorem kept_of_ext (hs : Same W W') (hx : Ext W.heap W'.heap) (may : MemPlace → Prop) : W.keptBut W' may := by
  refine ⟨hs.os, hs.output, fun i hi => ?_⟩
  rw [hx.same i hi id]
  have : W.heap[i]? = some W.heap[i] := by simp [hi]
  rw [this]
  cases W.heap[i] <;> simp

theorem trodAll_length {base : Nat} {spare : Nat → Bool} {held : Bool} : ∀ {ts : List TypeId} {vs : List Value} {ds : List (DataW H)} {ps : List MemPlace}, DataW.TrodAll enc P W base spare held ts vs ds ps → ds.length = ts.length
  | [], [], [], _, _ => rfl
  | _ :: _, _ :: _, _ :: _, _, ⟨_, _, _, hs, _⟩ => by simp [trodAll_length hs]

theorem law_lifted {C : Checked} {os : Os} {f : FuncId} {fn : Func} {s : ChangeSpec} {conds : List PathCond} {tb : TypeId}
    (own : ownKnob C.prog.godebug = none) (started : os.Started) (noInit : C.prog.inits.idxOf? f = none) (hfn : C.prog.funcs[f]? = some fn)
    (witness : ∃ (w : World) (tape : Tape) (i : Input), w.os = os ∧ (w.forCall tape i).Shaped C.prog ∧ i.vars = [] ∧ Input.okWide C.prog (w.forCall tape i) .any w.heap.size f i ∧
      s.pre6 enc C.prog fn conds false (w.forCall tape i).memory i.args ∧ ({} : Assume).holds C.prog (lone (Frame.enter C.prog f i.args .normal) [] (w.forCall tape i)))
    (hvars : s.vars = []) (hres : fn.resultTypes = #[tb]) (htb : C.prog.underlying tb = some .bool)
    (hspec : ∀ ds : List (DataW H), ds.length = fn.params.toList.length → s.fn H ds = { results := [.lit (.bool true)], args := ds })
    (kids : Kids C.prog (· < C.prog.types.size)) (full : ∀ t e, t < C.prog.types.size → C.prog.underlying t = some (.slice e) → 0 < C.prog.cellsOf e) (hpar : ∀ t ∈ fn.params.toList, t < C.prog.types.size)
    (hcall : ∀ (W : World) (base : Nat) (args : Array Value) (ds : List (DataW H)) (ps : List MemPlace), (∀ (j : Nat) t v, fn.params[j]? = some t → args[j]? = some v → Value.okWide C.prog W .any base t v) →
      DataW.TrodAll enc C.prog W 0 (fun _ => true) true fn.params.toList args.toList ds ps → conds.all (PathCond.test C.prog ⟨fn.params.toList, ds, s.plain.varTypes C.prog, []⟩) = true →
      CallsH C.prog f args W.heap fun v h' => v = .bool true ∧ Ext W.heap h') :
    ReturnsInHanded {} C os f .any (s.pre6 enc C.prog fn conds false) (s.post enc C.prog fn false true false false) := by
  refine returnsInHanded_of_change own started noInit hfn witness ?_
  intro W base args ds gs before hval hW hcnd _
  have hW' := hW
  obtain ⟨p, q, hA, hV, rfl, hfz, hnd⟩ := hW
  rw [hvars] at hV
  obtain ⟨rfl, rfl⟩ := trodVars_none hV
  refine calls_of_H (hcall W base args ds p hval hA hcnd) fun v w' hs hv => ⟨v, rfl, ?_⟩
  obtain ⟨rfl, hx⟩ := hv
  have hlt : ∀ x ∈ p, x.block < W.heap.size := fun x hx => hW'.lt x (by simpa using hx)
  have hsp := hspec ds (trodAll_length hA)
  unfold ChangeSpec.post
  refine ⟨ds, [], p ++ [], [], p, [], hW', ?_, ?_, ?_, kept_of_ext hs hx _, fun h => by cases h⟩
  · rw [List.append_nil, hsp, hres]
    exact trodAll_mk1 ⟨1, by simp [DataW.trod, htb, Value.cells]⟩
  · rw [List.append_nil, hsp]
    exact trodAll_carry (DataW.TrodAll.respare kids full hpar hA fun x hx => by simpa using hlt x hx) fun x hx' => sameAt_of_ext hx (hlt x hx')
  · rw [List.append_nil, hsp, hvars]; rfl


/-- The same, of a row that lists what package-level variables hold. -/
theorem law_laid {C : Checked} {os : Os} {f : FuncId} {fn : Func} {s : ChangeSpec} {conds : List PathCond} {tb : TypeId} {X : World → Array Value → Prop}
    (hX : ∀ (w w' : World) (args : Array Value), w.heap = w'.heap → X w args → X w' args)
    (own : ownKnob C.prog.godebug = none) (started : os.Started) (noInit : C.prog.inits.idxOf? f = none) (hfn : C.prog.funcs[f]? = some fn)
    (witness : ∃ (w : World) (tape : Tape) (i : Input), w.os = os ∧ (w.forCall tape i).Shaped C.prog ∧ i.vars = [] ∧ Input.okWide C.prog (w.forCall tape i) .any w.heap.size f i ∧
      ((s.pre enc C.prog fn conds false (w.forCall tape i).memory i.args ∧ X (w.forCall tape i).memory i.args) ∧ sizedMet enc C.prog fn (OpenSpec.ofChange s) false (w.forCall tape i).memory i.args) ∧ ({} : Assume).holds C.prog (lone (Frame.enter C.prog f i.args .normal) [] (w.forCall tape i)))
    (hvars : s.vars = []) (hres : fn.resultTypes = #[tb]) (htb : C.prog.underlying tb = some .bool)
    (hspec : ∀ ds : List (DataW H), ds.length = fn.params.toList.length → s.fn H ds = { results := [.lit (.bool true)], args := ds })
    (kids : Kids C.prog (· < C.prog.types.size)) (full : ∀ t e, t < C.prog.types.size → C.prog.underlying t = some (.slice e) → 0 < C.prog.cellsOf e) (hpar : ∀ t ∈ fn.params.toList, t < C.prog.types.size)
    (hcall : ∀ (W : World) (base : Nat) (args : Array Value) (ds : List (DataW H)) (ps : List MemPlace), (∀ (j : Nat) t v, fn.params[j]? = some t → args[j]? = some v → Value.okWide C.prog W .any base t v) →
      DataW.TrodAll enc C.prog W 0 (fun _ => true) true fn.params.toList args.toList ds ps →
      CallsH C.prog f args W.heap fun v h' => v = .bool true ∧ Ext W.heap h') :
    ReturnsInHanded {} C os f .any (fun w args => (s.pre enc C.prog fn conds false w args ∧ X w args) ∧ sizedMet enc C.prog fn (OpenSpec.ofChange s) false w args) (s.post enc C.prog fn false true false false) := by
  refine returnsInHanded_of_change_and hX own started noInit hfn witness ?_
  intro W base args ds gs before hval hW hcnd _ _ _
  have hW' := hW
  obtain ⟨p, q, hA, hV, rfl, hfz, hnd⟩ := hW
  rw [hvars] at hV
  obtain ⟨rfl, rfl⟩ := trodVars_none hV
  refine calls_of_H (hcall W base args ds p hval hA) fun v w' hs hv => ⟨v, rfl, ?_⟩
  obtain ⟨rfl, hx⟩ := hv
  have hlt : ∀ x ∈ p, x.block < W.heap.size := fun x hx => hW'.lt x (by simpa using hx)
  have hsp := hspec ds (trodAll_length hA)
  unfold ChangeSpec.post
  refine ⟨ds, [], p ++ [], [], p, [], hW', ?_, ?_, ?_, kept_of_ext hs hx _, fun h => by cases h⟩
  · rw [List.append_nil, hsp, hres]
    exact trodAll_mk1 ⟨1, by simp [DataW.trod, htb, Value.cells]⟩
  · rw [List.append_nil, hsp]
    exact trodAll_carry (DataW.TrodAll.respare kids full hpar hA fun x hx => by simpa using hlt x hx) fun x hx' => sameAt_of_ext hx (hlt x hx')
  · rw [List.append_nil, hsp, hvars]; rfl

end
end Go.Mh

namespace Go.Mh
open Go

/-! Maps whose keys are ints, as functions. -/

abbrev Ent := Int × Value × Nat

def ent (x : Ent) : MapEntry := { key := .int .i64 x.1, val := x.2.1, born := x.2.2 }

def lk (k : Int) : List Ent → Option Value
  | [] => none
  | x :: r => if x.1 = k then some x.2.1 else lk k r

def fi (k : Int) : List Ent → Nat → Option (Nat × Value)
  | [], _ => none
  | x :: r, j => if x.1 = k then some (j, x.2.1) else fi k r (j + 1)

structure IMapL (es : Array MapEntry) (clock : Nat) (t : List Ent) : Prop where
  ents : es.toList = t.map ent
  keys : (t.map (·.1)).Nodup
  borns : (t.map (·.2.2)).Nodup
  old : ∀ x ∈ t, x.2.2 < clock

/-- The entries of a map that is f. -/
def IMap (es : Array MapEntry) (clock : Nat) (f : Int → Option Value) : Prop := ∃ t, IMapL es clock t ∧ ∀ k, f k = lk k t

def fset (f : Int → Option Value) (k : Int) (v : Value) : Int → Option Value := fun x => if x = k then some v else f x
def fdel (f : Int → Option Value) (k : Int) : Int → Option Value := fun x => if x = k then none else f x

theorem fset_same (f : Int → Option Value) (k : Int) (x y : Value) : fset (fset f k x) k y = fset f k y := by
  funext z; unfold fset; split <;> rfl

theorem findNow_ents (k : Int) : ∀ (t : List Ent) (j : Nat), Instr.findNow (.int .i64) (.int .i64 k) (t.map ent) j = some (fi k t j)
  | [], j => rfl
  | x :: t, j => by
    simp only [List.map_cons, Instr.findNow, ent, Instr.sameNow, if_true]
    by_cases h : x.1 = k
    · subst h; simp [fi]
    · have : (k == x.1) = false := by simpa using fun e => h e.symm
      rw [this]
      simp only [fi, if_neg h]
      exact findNow_ents k t (j + 1)

theorem fi_lk (k : Int) : ∀ (t : List Ent) (j : Nat), (fi k t j).map (·.2) = lk k t
  | [], _ => rfl
  | x :: t, j => by
    simp only [fi, lk]; split
    · rfl
    · exact fi_lk k t (j + 1)

theorem fi_none {k : Int} : ∀ {t : List Ent} {j : Nat}, fi k t j = none → ∀ x ∈ t, x.1 ≠ k
  | [], _, _ => by intro x hx; cases hx
  | x :: t, j, h => by
    simp only [fi] at h
    split at h
    · cases h
    · rename_i hx
      intro y hy
      rcases List.mem_cons.1 hy with rfl | hy
      · exact hx
      · exact fi_none h y hy

theorem lk_none {k : Int} : ∀ {t : List Ent}, (∀ x ∈ t, x.1 ≠ k) → lk k t = none
  | [], _ => rfl
  | x :: t, h => by
    simp only [lk, if_neg (h x List.mem_cons_self)]
    exact lk_none fun y hy => h y (List.mem_cons_of_mem _ hy)

theorem lk_append {k : Int} {t s : List Ent} : lk k (t ++ s) = (lk k t).orElse fun _ => lk k s := by
  induction t with
  | nil => rfl
  | cons x t ih =>
    simp only [List.cons_append, lk]; split
    · rfl
    · exact ih

/-- What is found at a place is the one entry with the key. -/
theorem fi_modify {k : Int} {g : Ent → Ent} : ∀ {t : List Ent} {j i : Nat} {v : Value}, (t.map (·.1)).Nodup → fi k t j = some (i, v) →
    j ≤ i ∧ t.modify (i - j) g = t.map (fun x => if x.1 = k then g x else x)
  | x :: t, j, i, v, hn, h => by
    simp only [List.map_cons, List.nodup_cons] at hn
    simp only [fi] at h
    split at h
    · rename_i hx
      simp only [Option.some.injEq, Prod.mk.injEq] at h
      obtain ⟨rfl, rfl⟩ := h
      refine ⟨Nat.le_refl _, ?_⟩
      simp only [Nat.sub_self, List.modify_zero_cons, List.map_cons, if_pos hx]
      congr 1
      have : ∀ y ∈ t, y.1 ≠ k := fun y hy e => hn.1 (by rw [hx, ← e]; exact List.mem_map_of_mem hy)
      symm
      rw [List.map_congr_left (g := id) (fun y hy => by simp [this y hy])]
      simp
    · rename_i hx
      obtain ⟨h1, h2⟩ := fi_modify (g := g) hn.2 h
      refine ⟨by omega, ?_⟩
      rw [show i - j = (i - (j + 1)) + 1 by omega]
      simp only [List.modify_succ_cons, List.map_cons, if_neg hx, h2]

theorem fi_erase {k : Int} : ∀ {t : List Ent} {j i : Nat} {v : Value}, (t.map (·.1)).Nodup → fi k t j = some (i, v) →
    j ≤ i ∧ i - j < t.length ∧ t.eraseIdx (i - j) = t.filter (fun x => x.1 ≠ k)
  | x :: t, j, i, v, hn, h => by
    simp only [List.map_cons, List.nodup_cons] at hn
    simp only [fi] at h
    split at h
    · rename_i hx
      simp only [Option.some.injEq, Prod.mk.injEq] at h
      obtain ⟨rfl, rfl⟩ := h
      refine ⟨Nat.le_refl _, by simp, ?_⟩
      have : ∀ y ∈ t, y.1 ≠ k := fun y hy e => hn.1 (by rw [hx, ← e]; exact List.mem_map_of_mem hy)
      simp only [Nat.sub_self, List.eraseIdx_zero, List.tail_cons]
      rw [List.filter_cons_of_neg (by simp [hx]), List.filter_eq_self.2 (fun y hy => by simpa using this y hy)]
    · rename_i hx
      obtain ⟨h1, h2, h3⟩ := fi_erase hn.2 h
      refine ⟨by omega, by simp; omega, ?_⟩
      rw [show i - j = (i - (j + 1)) + 1 by omega]
      simp only [List.eraseIdx_cons_succ, h3]
      rw [List.filter_cons_of_pos (by simpa using hx)]

theorem lk_map {k k' : Int} {v : Value} : ∀ {t : List Ent}, lk k' (t.map fun x => if x.1 = k then (x.1, v, x.2.2) else x) = if k' = k then (lk k t).map (fun _ => v) else lk k' t
  | [] => by simp [lk]
  | x :: t => by
    have ih := lk_map (k := k) (k' := k') (v := v) (t := t)
    simp only [List.map_cons, lk]
    by_cases hx : x.1 = k
    · simp only [if_pos hx]
      by_cases hk : k' = k
      · simp [hk, hx]
      · have : ¬ x.1 = k' := fun e => hk (by rw [← e, hx])
        simp only [this, if_false, hk] at ih ⊢
        exact ih
    · simp only [if_neg hx]
      by_cases hk : x.1 = k'
      · have : ¬ k' = k := fun e => hx (by rw [hk, e])
        simp [hk, this]
      · simp only [if_neg hk]; exact ih

theorem lk_filter {k k' : Int} : ∀ {t : List Ent}, lk k' (t.filter fun x => x.1 ≠ k) = if k' = k then none else lk k' t
  | [] => by simp [lk]
  | x :: t => by
    have ih := lk_filter (k := k) (k' := k') (t := t)
    by_cases hx : x.1 = k
    · rw [List.filter_cons_of_neg (by simp [hx]), ih]
      simp only [lk]
      by_cases hk : k' = k
      · simp [hk]
      · have : ¬ x.1 = k' := fun e => hk (by rw [← e, hx])
        simp [hk, this]
    · rw [List.filter_cons_of_pos (by simpa using hx)]
      simp only [lk, ih]
      by_cases hk : x.1 = k'
      · have : ¬ k' = k := fun e => hx (by rw [hk, e])
        simp [hk, this]
      · simp [hk]

theorem IMap.congr {es : Array MapEntry} {c : Nat} {f g : Int → Option Value} (h : IMap es c f) (hfg : ∀ k, f k = g k) : IMap es c g := by
  obtain ⟨t, ht, hf⟩ := h
  exact ⟨t, ht, fun k => (hfg k).symm.trans (hf k)⟩

theorem IMap.empty : IMap #[] 0 (fun _ => none) := ⟨[], ⟨rfl, by simp, by simp, by simp⟩, fun _ => rfl⟩

theorem map_eraseIdx {α β : Type} (g : α → β) : ∀ (t : List α) (i : Nat), (t.eraseIdx i).map g = (t.map g).eraseIdx i
  | [], _ => by simp
  | _ :: _, 0 => by simp
  | x :: t, i + 1 => by simp [map_eraseIdx g t i]

section
variable {h : Heap} {m c : Nat} {es : Array MapEntry} {f : Int → Option Value}

theorem look_of {z : Value} {ok : Bool} {k : Int} {K : Value → Prop} (hm : h[m]? = some (.map es c)) (hi : IMap es c f)
    (hk : K (if ok then .tuple #[(f k).getD z, .bool (f k).isSome] else (f k).getD z)) : pLook (.int .i64) z ok h (.map (some m)) (.int .i64 k) K := by
  obtain ⟨t, ht, hf⟩ := hi
  simp only [pLook, hm, ht.ents, findK_int, findNow_ents]
  have hlk := fi_lk k t 0
  rw [hf k, ← hlk] at hk
  cases hfi : fi k t 0 with
  | none => rw [hfi] at hk; simpa using hk
  | some p => rw [hfi] at hk; simpa using hk

theorem IMapL.set {t : List Ent} {i : Nat} {k : Int} {v old : Value} (ht : IMapL es c t) (hfi : fi k t 0 = some (i, old)) :
    IMapL (es.modify i fun e => { e with key := .int .i64 k, val := v }) c (t.map fun x => if x.1 = k then (x.1, v, x.2.2) else x) := by
  have hm := (fi_modify (g := fun x => (x.1, v, x.2.2)) ht.keys hfi).2
  rw [Nat.sub_zero] at hm
  refine ⟨?_, ?_, ?_, ?_⟩
  · rw [Array.toList_modify, ht.ents, ← hm]
    apply List.ext_getElem
    · simp
    · intro j h1 h2
      simp only [List.getElem_modify, List.getElem_map]
      split
      · rename_i e; subst e
        have hlt : i < t.length := by simpa using h1
        have : (t.modify i fun x => (x.1, v, x.2.2))[i]? = (t.map fun x => if x.1 = k then (x.1, v, x.2.2) else x)[i]? := by rw [hm]
        have hkey : t[i].1 = k := by
          have key : ∀ (t : List Ent) (j i : Nat), fi k t j = some (i, old) → ∃ hlt : i - j < t.length, t[i - j].1 = k ∧ j ≤ i := by
            intro t
            induction t with
            | nil => intro j i h; cases h
            | cons x t ih =>
              intro j i h
              simp only [fi] at h
              split at h
              · rename_i hx
                simp only [Option.some.injEq, Prod.mk.injEq] at h
                obtain ⟨rfl, _⟩ := h
                exact ⟨by simp, by simpa using hx, Nat.le_refl _⟩
              · obtain ⟨h1, h2, h3⟩ := ih _ _ h
                refine ⟨by simp; omega, ?_, by omega⟩
                have : i - j = (i - (j + 1)) + 1 := by omega
                simp only [this, List.getElem_cons_succ]; exact h2
          obtain ⟨_, h2, _⟩ := key t 0 i hfi
          simpa using h2
        simp [ent, hkey]
      · rfl
  · have : (t.map fun x => if x.1 = k then (x.1, v, x.2.2) else x).map (·.1) = t.map (·.1) := by
      rw [List.map_map]; apply List.map_congr_left; intro x _; simp only [Function.comp]; split <;> rfl
    rw [this]; exact ht.keys
  · have : (t.map fun x => if x.1 = k then (x.1, v, x.2.2) else x).map (·.2.2) = t.map (·.2.2) := by
      rw [List.map_map]; apply List.map_congr_left; intro x _; simp only [Function.comp]; split <;> rfl
    rw [this]; exact ht.borns
  · intro x hx
    obtain ⟨y, hy, rfl⟩ := List.mem_map.1 hx
    have := ht.old y hy
    split <;> exact this

theorem IMapL.push {t : List Ent} {k : Int} {v : Value} (ht : IMapL es c t) (hfi : fi k t 0 = none) :
    IMapL (es.push { key := .int .i64 k, val := v, born := c }) (c + 1) (t ++ [(k, v, c)]) := by
  refine ⟨by simp [ht.ents, ent], ?_, ?_, ?_⟩
  · rw [List.map_append, List.nodup_append]
    refine ⟨ht.keys, by simp, ?_⟩
    intro a ha b hb
    obtain ⟨x, hx, rfl⟩ := List.mem_map.1 ha
    simp only [List.map_cons, List.map_nil, List.mem_singleton] at hb; subst hb
    exact fi_none hfi x hx
  · rw [List.map_append, List.nodup_append]
    refine ⟨ht.borns, by simp, ?_⟩
    intro a ha b hb
    obtain ⟨x, hx, rfl⟩ := List.mem_map.1 ha
    simp only [List.map_cons, List.map_nil, List.mem_singleton] at hb; subst hb
    exact Nat.ne_of_lt (ht.old x hx)
  · intro x hx
    rcases List.mem_append.1 hx with hx | hx
    · exact Nat.lt_succ_of_lt (ht.old x hx)
    · rw [List.mem_singleton.1 hx]; exact Nat.lt_succ_self _

theorem lk_set {t : List Ent} {k : Int} {v old : Value} {i : Nat} (hfi : fi k t 0 = some (i, old)) (x : Int) :
    lk x (t.map fun x => if x.1 = k then (x.1, v, x.2.2) else x) = if x = k then some v else lk x t := by
  rw [lk_map]
  split
  · rw [← fi_lk k t 0, hfi]; rfl
  · rfl

theorem lk_push {t : List Ent} {k : Int} {v : Value} {b : Nat} (hfi : fi k t 0 = none) (x : Int) :
    lk x (t ++ [(k, v, b)]) = if x = k then some v else lk x t := by
  rw [lk_append]
  by_cases hx : x = k
  · subst hx; rw [lk_none (fi_none hfi)]; simp [lk]
  · have : ¬ k = x := fun e => hx e.symm
    simp [hx, lk, this]

theorem mapSet_of {k : Int} {v : Value} {K : Value → Heap → Prop} (hm : h[m]? = some (.map es c)) (hi : IMap es c f)
    (hk : ∀ es' c', IMap es' c' (fset f k v) → K undef (upd h m (.map es' c'))) : pMapSet (.int .i64) (.map (some m)) (.int .i64 k) v h K := by
  obtain ⟨t, ht, hf⟩ := hi
  simp only [pMapSet, hm, ht.ents, findK_int, findNow_ents]
  cases hfi : fi k t 0 with
  | none => exact hk _ _ ⟨_, ht.push hfi, fun x => by rw [lk_push hfi]; simp [fset, hf]⟩
  | some p => exact hk _ _ ⟨_, ht.set hfi, fun x => by rw [lk_set hfi]; simp [fset, hf]⟩

/-- The stamp of an entry. -/
def Stamp (es : Array MapEntry) (s k : Int) : Prop := ∃ e ∈ es.toList, e.key = .int .i64 k ∧ (e.born : Int) = s

theorem mapEntry_of {k : Int} {z : Value} {K : Value → Heap → Prop} (hm : h[m]? = some (.map es c)) (hi : IMap es c f)
    (hk : ∀ es' c' s, IMap es' c' (fset f k ((f k).getD z)) → Stamp es' s k → K (.tuple #[(f k).getD z, .int .i64 s]) (upd h m (.map es' c'))) :
    pMapEntry (.int .i64) z (.map (some m)) (.int .i64 k) h K := by
  obtain ⟨t, ht, hf⟩ := hi
  simp only [pMapEntry, hm, ht.ents, findK_int, findNow_ents]
  have hlk := fi_lk k t 0
  cases hfi : fi k t 0 with
  | none =>
    rw [hfi] at hlk
    have hfk : f k = none := by rw [hf]; exact hlk.symm
    rw [hfk] at hk
    refine hk _ _ _ ⟨_, ht.push hfi, fun x => by rw [lk_push hfi]; simp [fset, hf]⟩ ⟨{ key := .int .i64 k, val := z, born := c }, by simp, rfl, rfl⟩
  | some p =>
    obtain ⟨i, v⟩ := p
    rw [hfi] at hlk
    have hfk : f k = some v := by rw [hf]; exact hlk.symm
    rw [hfk] at hk
    have hset := ht.set (v := v) hfi
    obtain ⟨_, hmod⟩ := fi_modify (g := fun x => x) ht.keys hfi
    have hi : i < t.length := by
      have key : ∀ (t : List Ent) (j i : Nat), fi k t j = some (i, v) → i - j < t.length ∧ j ≤ i := by
        intro t
        induction t with
        | nil => intro j i h; cases h
        | cons x t ih =>
          intro j i h
          simp only [fi] at h
          split at h
          · simp only [Option.some.injEq, Prod.mk.injEq] at h
            obtain ⟨rfl, _⟩ := h
            exact ⟨by simp, Nat.le_refl _⟩
          · obtain ⟨h1, h2⟩ := ih _ _ h
            exact ⟨by simp; omega, by omega⟩
      simpa using (key t 0 i hfi).1
    have hes : es[i]? = some (ent t[i]) := by
      rw [← Array.getElem?_toList, ht.ents]; simp [hi]
    have hti : t[i].1 = k ∧ t[i].2.1 = v := by
      obtain ⟨_, e, he, hv, hs⟩ := findNow_some (by rw [findNow_ents, hfi] : Instr.findNow (.int .i64) (.int .i64 k) (t.map ent) 0 = some (some (i, v)))
      simp [hi] at he; subst he
      simp [ent, Instr.sameNow] at hv hs
      exact ⟨hs.symm, hv⟩
    have hsame : (es.modify i fun e => { e with key := .int .i64 k }) = es.modify i fun e => { e with key := .int .i64 k, val := v } := by
      apply Array.ext
      · simp
      · intro j h1 h2
        simp only [Array.getElem_modify]
        split
        · rename_i e; subst e
          have hlt : i < es.size := by simpa using h1
          have : es[i]? = some es[i] := Array.getElem?_eq_getElem hlt
          rw [hes] at this
          simp only [Option.some.injEq] at this
          rw [← this]; simp [ent, hti.2]
        · rfl
    dsimp only
    rw [hsame, hes]
    refine hk _ _ _ ⟨_, hset, fun x => by rw [lk_set hfi]; simp [fset, hf]⟩ ?_
    refine ⟨{ (ent t[i]) with key := .int .i64 k, val := v }, ?_, rfl, rfl⟩
    rw [Array.toList_modify]
    refine List.mem_of_getElem? (i := i) ?_
    simp [hes]

theorem entryStore_of {k s : Int} {v : Value} {K : Value → Heap → Prop} (hm : h[m]? = some (.map es c)) (hi : IMap es c f) (hs : Stamp es s k)
    (hk : ∀ es', IMap es' c (fset f k v) → K undef (upd h m (.map es' c))) : pEntryStore (.map (some m)) (.int .i64 s) v h K := by
  obtain ⟨t, ht, hf⟩ := hi
  obtain ⟨e, he, hek, hes⟩ := hs
  rw [ht.ents] at he
  obtain ⟨x, hx, rfl⟩ := List.mem_map.1 he
  simp only [ent, Value.int.injEq, true_and] at hek hes
  have hxk : x.1 = k := by simpa using hek
  simp only [pEntryStore, hm]
  -- the place of the stamp
  have key : ∀ (t : List Ent), (t.map (·.1)).Nodup → (t.map (·.2.2)).Nodup → x ∈ t → ∃ i, (t.map ent).findIdx? (fun e => (e.born : Int) == s) = some i ∧ ∀ j, fi k t j = some (i + j, x.2.1) := by
    intro t
    induction t with
    | nil => intro _ _ hx; cases hx
    | cons y t ih =>
      intro hk hb hx
      simp only [List.map_cons, List.nodup_cons] at hk hb
      by_cases hy : y = x
      · subst hy
        refine ⟨0, ?_, fun j => by simp [fi, hxk]⟩
        simp [List.findIdx?_cons, ent, hes]
      · have hx' : x ∈ t := by
          rcases List.mem_cons.1 hx with h | h
          · exact (hy h.symm).elim
          · exact h
        obtain ⟨i, h1, h2⟩ := ih hk.2 hb.2 hx'
        have hyb : ¬ ((y.2.2 : Int) = s) := by
          rw [← hes]; intro e
          have : y.2.2 = x.2.2 := by exact_mod_cast e
          exact hb.1 (this ▸ List.mem_map_of_mem hx')
        have hyk : y.1 ≠ k := fun e => hk.1 (by rw [e, ← hxk]; exact List.mem_map_of_mem hx')
        refine ⟨i + 1, ?_, fun j => ?_⟩
        · rw [List.map_cons, List.findIdx?_cons]
          simp only [ent, beq_iff_eq, hyb, if_false]
          rw [show (fun (e : MapEntry) => (e.born : Int) == s) = fun e => (e.born : Int) == s from rfl, h1]; rfl
        · simp only [fi, if_neg hyk]
          rw [h2 (j + 1)]; congr 2; omega
  obtain ⟨i, h1, h2⟩ := key t ht.keys ht.borns hx
  have hidx : es.findIdx? (fun e => (e.born : Int) == s) = some i := by
    have e : es = (t.map ent).toArray := Array.ext' ht.ents
    rw [e, List.findIdx?_toArray]; exact h1
  rw [hidx]
  have hfi : fi k t 0 = some (i, x.2.1) := by simpa using h2 0
  have hset := ht.set (v := v) hfi
  have hsame : (es.modify i fun e => { e with val := v }) = es.modify i fun e => { e with key := .int .i64 k, val := v } := by
    obtain ⟨_, e, he, _, hs⟩ := findNow_some (by rw [findNow_ents, hfi] : Instr.findNow (.int .i64) (.int .i64 k) (t.map ent) 0 = some (some (i, x.2.1)))
    rw [Nat.sub_zero, ← ht.ents, Array.getElem?_toList] at he
    apply Array.ext
    · simp
    · intro j h1 h2
      simp only [Array.getElem_modify]
      split
      · rename_i e2; subst e2
        have hlt : i < es.size := by simpa using h1
        have h3 : es[i]? = some es[i] := Array.getElem?_eq_getElem hlt
        rw [he] at h3
        simp only [Option.some.injEq] at h3
        have hek : e ∈ es.toList := by rw [← Array.getElem?_toList] at he; exact List.mem_of_getElem? he
        rw [ht.ents] at hek
        obtain ⟨y, _, rfl⟩ := List.mem_map.1 hek
        rw [← h3]
        simp only [ent, Instr.sameNow, if_true, Option.some.injEq, beq_iff_eq] at hs
        simp [ent, hs]
      · rfl
  dsimp only
  rw [hsame]
  exact hk _ ⟨_, hset, fun x => by rw [lk_set hfi]; simp [fset, hf]⟩

theorem delete_of {k : Int} {K : Value → Heap → Prop} (hm : h[m]? = some (.map es c)) (hi : IMap es c f)
    (hk : ∀ es', IMap es' c (fdel f k) → K (.tuple #[]) (upd h m (.map es' c))) : pDelete (.int .i64) (.map (some m)) (.int .i64 k) h K := by
  obtain ⟨t, ht, hf⟩ := hi
  simp only [pDelete, hm, ht.ents, findK_int, findNow_ents]
  cases hfi : fi k t 0 with
  | none =>
    refine hk es ⟨t, ht, fun x => ?_⟩
    unfold fdel
    split
    · rename_i e; subst e; exact (lk_none (fi_none hfi)).symm
    · exact hf x
  | some p =>
    obtain ⟨i, v⟩ := p
    obtain ⟨_, hlt, her⟩ := fi_erase ht.keys hfi
    rw [Nat.sub_zero] at hlt her
    have hsz : i < es.size := by
      have := congrArg List.length ht.ents; simp at this; omega
    have hes : (es.eraseIdxIfInBounds i).toList = (t.filter fun x => x.1 ≠ k).map ent := by
      unfold Array.eraseIdxIfInBounds
      rw [dif_pos hsz, Array.toList_eraseIdx, ht.ents, ← her, map_eraseIdx]
    refine hk _ ⟨t.filter fun x => x.1 ≠ k, ⟨hes, ?_, ?_, ?_⟩, fun x => ?_⟩
    · exact (List.filter_sublist.map _).nodup ht.keys
    · exact (List.filter_sublist.map _).nodup ht.borns
    · intro x hx; exact ht.old x (List.mem_filter.1 hx).1
    · rw [lk_filter]; unfold fdel; split
      · rfl
      · exact hf x

end
end Go.Mh



namespace Go.Mh
open Go

/-- A part of memory: its blocks, and what they hold. -/
structure Res where
  F : Nat → Prop
  Q : Heap → Prop
  st : ∀ {h h' : Heap}, (∀ b, F b → h'[b]? = h[b]?) → Q h → Q h'

def nilR : Res := ⟨fun _ => False, fun _ => True, fun _ _ => trivial⟩

/-- What was below h0 is as it was; above it there are these parts, apart from each other. -/
structure Own (h0 h : Heap) (L : List Res) : Prop where
  ext : Ext h0 h
  q : ∀ {i : Nat} {r : Res}, L[i]? = some r → r.Q h ∧ ∀ b, r.F b → h0.size ≤ b ∧ b < h.size
  ap : ∀ {i j : Nat} {r s : Res}, L[i]? = some r → L[j]? = some s → i ≠ j → ∀ b, r.F b → ¬ s.F b

section
variable {h0 h h' : Heap} {L L' : List Res} {r r' : Res} {i j : Nat}

theorem Own.start (h : Heap) : Own h h [] := ⟨.refl _ _, fun h => by simp at h, fun h => by simp at h⟩

theorem Own.get (o : Own h0 h L) (i : Nat) (hi : L[i]? = some r) : r.Q h := (o.q hi).1

theorem Own.more (o : Own h0 h L) (x : Ext h h') : Own h0 h' L :=
  ⟨o.ext.trans x fun _ hf _ => hf, fun hi => ⟨Res.st _ (fun b hb => x.same b ((o.q hi).2 b hb).2 id) (o.q hi).1, fun b hb => ⟨((o.q hi).2 b hb).1, Nat.lt_of_lt_of_le ((o.q hi).2 b hb).2 x.size⟩⟩, o.ap⟩

theorem Own.frame (o : Own h0 h L) (o' : Own h h' L') : Own h0 h' (L' ++ L) := by
  have o1 := o.more o'.ext
  refine ⟨o1.ext, fun {i r} hi => ?_, fun {i j r s} hi hj hne b hb hs => ?_⟩
  · by_cases hlt : i < L'.length
    · rw [List.getElem?_append_left hlt] at hi
      exact ⟨(o'.q hi).1, fun b hb => ⟨Nat.le_trans o.ext.size ((o'.q hi).2 b hb).1, ((o'.q hi).2 b hb).2⟩⟩
    · rw [List.getElem?_append_right (by omega)] at hi
      exact o1.q hi
  · by_cases h1 : i < L'.length <;> by_cases h2 : j < L'.length
    · rw [List.getElem?_append_left h1] at hi
      rw [List.getElem?_append_left h2] at hj
      exact o'.ap hi hj hne b hb hs
    · rw [List.getElem?_append_left h1] at hi
      rw [List.getElem?_append_right (by omega)] at hj
      have a := ((o'.q hi).2 b hb).1
      have c := ((o.q hj).2 b hs).2
      omega
    · rw [List.getElem?_append_right (by omega)] at hi
      rw [List.getElem?_append_left h2] at hj
      have a := ((o'.q hj).2 b hs).1
      have c := ((o.q hi).2 b hb).2
      omega
    · rw [List.getElem?_append_right (by omega)] at hi
      rw [List.getElem?_append_right (by omega)] at hj
      exact o.ap hi hj (by omega) b hb hs

/-- A part is turned, and may have grown. -/
theorem Own.set (o : Own h0 h L) (i : Nat) (hi : L[i]? = some r) (u : Upd r.F h h') (q : r'.Q h') (g : ∀ b, r'.F b → (r.F b ∨ h.size ≤ b) ∧ b < h'.size) : Own h0 h' (L.set i r') := by
  have hlt : i < L.length := (List.getElem?_eq_some_iff.1 hi).1
  have key : ∀ {j s}, (L.set i r')[j]? = some s → (j = i ∧ s = r') ∨ (j ≠ i ∧ L[j]? = some s) := by
    intro j s hs
    by_cases e : j = i
    · subst e
      rw [List.getElem?_set_self hlt] at hs
      exact .inl ⟨rfl, (Option.some.inj hs).symm⟩
    · rw [List.getElem?_set_ne (fun e' => e e'.symm)] at hs
      exact .inr ⟨e, hs⟩
  refine ⟨o.ext.trans u fun b hb hlt => ?_, fun {j s} hs => ?_, fun {j k s t} hs ht hne b hb hb' => ?_⟩
  · have := ((o.q hi).2 b hb).1; omega
  · rcases key hs with ⟨rfl, rfl⟩ | ⟨hne, hs⟩
    · refine ⟨q, fun b hb => ⟨?_, (g b hb).2⟩⟩
      rcases (g b hb).1 with h1 | h1
      · exact ((o.q hi).2 b h1).1
      · exact Nat.le_trans o.ext.size h1
    · refine ⟨Res.st _ (fun b hb => u.same b ((o.q hs).2 b hb).2 (o.ap hs hi hne b hb)) (o.q hs).1, fun b hb => ⟨((o.q hs).2 b hb).1, Nat.lt_of_lt_of_le ((o.q hs).2 b hb).2 u.size⟩⟩
  · rcases key hs with ⟨rfl, rfl⟩ | ⟨n1, hs1⟩ <;> rcases key ht with ⟨rfl, rfl⟩ | ⟨n2, ht1⟩
    · exact hne rfl
    · rcases (g b hb).1 with h1 | h1
      · exact o.ap hi ht1 hne b h1 hb'
      · have := ((o.q ht1).2 b hb').2; omega
    · rcases (g b hb').1 with h1 | h1
      · exact o.ap hs1 hi hne b hb h1
      · have := ((o.q hs1).2 b hb).2; omega
    · exact o.ap hs1 ht1 hne b hb hb'

/-- A part that is new. -/
theorem Own.cons (o : Own h0 h L) (x : Ext h h') (q : r.Q h') (g : ∀ b, r.F b → h.size ≤ b ∧ b < h'.size) : Own h0 h' (r :: L) :=
  o.frame (L' := [r]) ⟨x, fun {i s} hi => by
    cases i with
    | zero => simp at hi; subst hi; exact ⟨q, g⟩
    | succ i => simp at hi, fun {i j s t} hi hj hne => by
    cases i <;> cases j <;> simp at hi hj
    exact absurd rfl hne⟩

/-- Some of the parts, in any order. -/
theorem Own.sel (o : Own h0 h L) (is : List Nat) (hn : is.Nodup) : Own h0 h (is.map fun i => L.getD i nilR) := by
  have key : ∀ {j : Nat} {s : Res}, (is.map fun i => L.getD i nilR)[j]? = some s → s = nilR ∨ ∃ i, is[j]? = some i ∧ L[i]? = some s := by
    intro j s hs
    rw [List.getElem?_map, Option.map_eq_some_iff] at hs
    obtain ⟨i, hi, rfl⟩ := hs
    rw [List.getD_eq_getElem?_getD]
    cases hL : L[i]? with
    | none => exact .inl rfl
    | some s => exact .inr ⟨i, hi, hL⟩
  refine ⟨o.ext, fun {j s} hs => ?_, fun {j k s t} hs ht hne b hb hb' => ?_⟩
  · rcases key hs with rfl | ⟨i, _, hi⟩
    · exact ⟨trivial, fun b hb => hb.elim⟩
    · exact o.q hi
  · rcases key hs with rfl | ⟨a, ha, hs⟩
    · exact hb.elim
    · rcases key ht with rfl | ⟨c, hc, ht⟩
      · exact hb'.elim
      · refine o.ap hs ht (fun e => hne ?_) b hb hb'
        subst e
        have h1 := (List.getElem?_eq_some_iff.1 ha)
        have h2 := (List.getElem?_eq_some_iff.1 hc)
        exact (List.getElem_inj hn).1 (h1.2.trans h2.2.symm)

theorem Own.tail (o : Own h0 h (r :: L)) : Own h0 h L :=
  ⟨o.ext, fun {i _} hi => o.q (i := i + 1) hi, fun {i j _ _} hi hj hne => o.ap (i := i + 1) (j := j + 1) hi hj (by omega)⟩

theorem Own.left (o : Own h0 h (L ++ L')) : Own h0 h L := by
  have key : ∀ {j : Nat} {s : Res}, L[j]? = some s → (L ++ L')[j]? = some s := fun {j s} hj => by
    rw [List.getElem?_append_left (List.getElem?_eq_some_iff.1 hj).1]; exact hj
  exact ⟨o.ext, fun hi => o.q (key hi), fun hi hj hne => o.ap (key hi) (key hj) hne⟩

theorem Own.erase (o : Own h0 h L) (k : Nat) : Own h0 h (L.eraseIdx k) := by
  have key : ∀ {j : Nat} {s : Res}, (L.eraseIdx k)[j]? = some s → L[if j < k then j else j + 1]? = some s := fun {j s} hj => by
    rw [List.getElem?_eraseIdx] at hj
    split at hj <;> rename_i h1
    · rw [if_pos h1]; exact hj
    · rw [if_neg h1]; exact hj
  refine ⟨o.ext, fun hi => o.q (key hi), fun hi hj hne => o.ap (key hi) (key hj) fun e => hne ?_⟩
  split at e <;> split at e <;> omega

/-- Two parts beside each other swapped. -/
theorem Own.swap {s : Res} (o : Own h0 h (r :: s :: L)) : Own h0 h (s :: r :: L) := by
  let g : Nat → Nat := fun | 0 => 1 | 1 => 0 | n => n
  have key : ∀ {j : Nat} {t : Res}, (s :: r :: L)[j]? = some t → (r :: s :: L)[g j]? = some t := fun {j t} hj => by
    match j, hj with
    | 0, hj => exact hj
    | 1, hj => exact hj
    | n + 2, hj => exact hj
  refine ⟨o.ext, fun hi => o.q (key hi), fun {i j _ _} hi hj hne => o.ap (key hi) (key hj) fun e => hne ?_⟩
  match i, j, e with
  | 0, 0, _ => rfl
  | 1, 1, _ => rfl
  | 0, n + 2, e => exact absurd e (by simp [g])
  | n + 2, 0, e => exact absurd e (by simp [g])
  | 1, n + 2, e => exact absurd e (by simp [g])
  | n + 2, 1, e => exact absurd e (by simp [g])
  | n + 2, m + 2, e => exact e
  | 0, 1, e => exact absurd e (by simp [g])
  | 1, 0, e => exact absurd e (by simp [g])

end

/-! ### Cells -/

def cellR (b : Nat) (cs : List Value) (T : TypeId) : Res := ⟨fun c => c = b, fun h => h[b]? = some (.cells cs.toArray T (0, 0)), fun hs hq => (hs b rfl).trans hq⟩
def objR (b : Nat) (o : Obj) : Res := ⟨fun c => c = b, fun h => h[b]? = some o, fun hs hq => (hs b rfl).trans hq⟩

section
variable {P : Program} {h0 h h' : Heap} {L : List Res} {i b off n : Nat} {cs : List Value} {T : TypeId} {v : Value} {K : Value → Prop} {KH : Value → Heap → Prop} {KP : Heap → Prop}

theorem Own.new {x : Obj} {r : Res} (o : Own h0 h L) (q : r.Q (h.push x)) (g : ∀ b, r.F b → b = h.size) : Own h0 (h.push x) (r :: L) :=
  o.cons (Upd.push _ _ _) q fun b hb => by rw [g b hb, push_size]; omega

theorem Own.box (o : Own h0 h L) (hk : ∀ b h', Own h0 h' (cellR b v.cells.toList T :: L) → KH (.pointer (some ⟨b, 0, none⟩)) h') : pBox T v h KH := by
  refine hk h.size _ (o.new ?_ fun b hb => hb)
  show (h.push _)[h.size]? = _
  rw [push_new]

theorem Own.load (o : Own h0 h L) (i : Nat) (hi : L[i]? = some (cellR b cs T)) (hv : cs[off]? = some v) (hk : K v) : pLoad h (.pointer (some ⟨b, off, none⟩)) K := by
  have : hcell h ⟨b, off, none⟩ = some v := hcell_of (o.get i hi) (by simpa using hv)
  simp only [pLoad_ptr, this]; exact hk

theorem Own.loadN (o : Own h0 h L) (i : Nat) (hi : L[i]? = some (cellR b cs T)) (hn : off + n ≤ cs.length) (hk : K (.agg ((cs.drop off).take n).toArray)) : pLoadN n h (.pointer (some ⟨b, off, none⟩)) K := by
  have : cellsAt h b off n = some ((cs.drop off).take n) := cellsAt_of (i := 0) (o.get i hi) n off hn
  simp only [pLoadN_ptr, this]; exact hk

theorem Own.store (o : Own h0 h L) (i : Nat) (hi : L[i]? = some (cellR b cs T)) (hn : v.cells.size = n) (hle : off + v.cells.size ≤ cs.length) (hp : ∀ u ∈ v.cells.toList, plainCell u = true)
    (hk : ∀ h', Own h0 h' (L.set i (cellR b (over cs off v.cells.toList) T)) → KH undef h') : pStore n (.pointer (some ⟨b, off, none⟩)) v h KH := by
  have hb : h[b]? = some (.cells cs.toArray T (0, 0)) := o.get i hi
  have hlt := ((o.q hi).2 b rfl).2
  refine pStore_of rfl hb hn hle hp (hk _ (o.set i hi (Upd.upd _ _ rfl) ?_ fun c hc => ⟨.inl hc, ?_⟩))
  · exact upd_self hlt
  · rw [upd_size]; exact (show c = b from hc) ▸ hlt

/-- A store of one plain value. -/
theorem Own.put (o : Own h0 h L) (i : Nat) (hi : L[i]? = some (cellR b cs T)) (hv : v.cells = #[v]) (hle : off < cs.length) (hp : plainCell v = true)
    (hk : ∀ h', Own h0 h' (L.set i (cellR b (over cs off [v]) T)) → KH undef h') : pStore 1 (.pointer (some ⟨b, off, none⟩)) v h KH :=
  o.store i hi (by rw [hv]; rfl) (by rw [hv]; exact hle) (by rw [hv]; simpa using hp) (by rw [hv]; exact hk)

/-! ### Marks of deferred lists -/

def markR (D : Nat) : Res := objR D (.deferred (some []))
def marksR (m : List Nat) : Res := ⟨fun c => c ∈ m, fun h => m.Nodup ∧ ∀ D ∈ m, h[D]? = some (.deferred (some [])), fun hs hq => ⟨hq.1, fun D hD => (hs D hD).trans (hq.2 D hD)⟩⟩

theorem Own.noMarks (o : Own h0 h L) : Own h0 h (marksR [] :: L) :=
  o.cons (.refl _ _) ⟨.nil, fun _ h => by cases h⟩ fun _ h => by cases h

theorem Own.addMark {D : Nat} {m : List Nat} (o : Own h0 h (markR D :: L)) (j : Nat) (hj : L[j]? = some (marksR m)) : Own h0 h (L.set j (marksR (D :: m))) := by
  have hm : D ∉ m := o.ap (i := 0) (j := j + 1) rfl hj (by omega) D rfl
  have q0 := o.get 0 rfl
  have q1 := o.tail.get j hj
  have hlt : j < L.length := (List.getElem?_eq_some_iff.1 hj).1
  have key : ∀ {k s}, (L.set j (marksR (D :: m)))[k]? = some s → (k = j ∧ s = marksR (D :: m)) ∨ (k ≠ j ∧ L[k]? = some s) := by
    intro k s hs
    by_cases e : k = j
    · subst e
      rw [List.getElem?_set_self hlt] at hs
      exact .inl ⟨rfl, (Option.some.inj hs).symm⟩
    · rw [List.getElem?_set_ne (fun e' => e e'.symm)] at hs
      exact .inr ⟨e, hs⟩
  refine ⟨o.ext, fun {k s} hs => ?_, fun {k l s t} hs ht hne b hb hb' => ?_⟩
  · rcases key hs with ⟨rfl, rfl⟩ | ⟨_, hs⟩
    · refine ⟨⟨List.nodup_cons.2 ⟨hm, q1.1⟩, fun E hE => ?_⟩, fun b hb => ?_⟩
      · rcases List.mem_cons.1 hE with rfl | hE
        · exact q0
        · exact q1.2 E hE
      · rcases List.mem_cons.1 (show b ∈ D :: m from hb) with rfl | hb
        · exact (o.q (i := 0) rfl).2 _ rfl
        · exact (o.tail.q hj).2 b hb
    · exact o.tail.q hs
  · rcases key hs with ⟨rfl, rfl⟩ | ⟨n1, hs1⟩ <;> rcases key ht with ⟨rfl, rfl⟩ | ⟨n2, ht1⟩
    · exact hne rfl
    · rcases List.mem_cons.1 (show b ∈ D :: m from hb) with rfl | hb
      · exact o.ap (i := 0) (j := l + 1) rfl ht1 (by omega) _ rfl hb'
      · exact o.tail.ap hj ht1 hne b hb hb'
    · rcases List.mem_cons.1 (show b ∈ D :: m from hb') with rfl | hb'
      · exact o.ap (i := 0) (j := k + 1) rfl hs1 (by omega) _ rfl hb
      · exact o.tail.ap hs1 hj hne b hb hb'
    · exact o.tail.ap hs1 ht1 hne b hb hb'

theorem Own.take {m : List Nat} (o : Own h0 h L) (j : Nat) (hj : L[j]? = some (marksR m)) (hk : ∀ h', Own h0 h' (L.set j nilR) → KP h') : takeM m h KP := by
  obtain ⟨hn, hq⟩ := o.get j hj
  refine takeM_of m h hq hn fun h' u => hk h' (o.set j hj u trivial fun b hb => hb.elim)

theorem Own.take1 {D : Nat} (o : Own h0 h L) (j : Nat) (hj : L[j]? = some (markR D)) (hk : ∀ h', Own h0 h' (L.set j nilR) → KP h') : takeM [D] h KP := by
  have hq := o.get j hj
  refine takeM_of [D] h (fun E hE => by simp at hE; subst hE; exact hq) (by simp) fun h' u => hk h' (o.set j hj (u.mono fun b hb _ => List.mem_singleton.1 hb) trivial fun b hb => hb.elim)

/-- Of a mark ahead, and others. -/
theorem Own.takeC {D : Nat} {m : List Nat} (o : Own h0 h (markR D :: L)) (j : Nat) (hj : L[j]? = some (marksR m)) (hk : ∀ h', Own h0 h' (L.set j nilR) → KP h') : takeM (D :: m) h KP := by
  have o1 := o.addMark j hj
  have hlt : j < L.length := (List.getElem?_eq_some_iff.1 hj).1
  refine o1.take j (List.getElem?_set_self hlt) fun h' o' => hk h' ?_
  rwa [List.set_set] at o'

/-! ### Ranges over functions -/

def loopR (l : Nat) (x : Obj) : Res := objR l x

theorem Own.begin {l : Nat} {M : Loop} {p : Option Code} (o : Own h0 h L) (i : Nat) (hi : L[i]? = some (loopR l (lo M .ready p))) (hk : ∀ h', Own h0 h' (L.set i (loopR l (lo M .busy p))) → KP h') : beginR l M h KP := by
  have hb : h[l]? = some (lo M .ready p) := o.get i hi
  have hlt := ((o.q hi).2 l rfl).2
  refine beginR_of hb (hk _ (o.set i hi (Upd.upd _ _ rfl) (upd_self hlt) fun c hc => ⟨.inl hc, ?_⟩))
  rw [upd_size]; exact (show c = l from hc) ▸ hlt

def valsOf : (l : List Nat) → List Value → Vals l
  | [], _ => ()
  | _ :: r, [] => (undef, valsOf r [])
  | _ :: r, v :: vs => (v, valsOf r vs)

theorem listV_valsOf : ∀ {l : List Nat} {vs : List Value}, vs.length = l.length → listV l (valsOf l vs) = vs
  | [], [], _ => rfl
  | _ :: _, _ :: _, h => by simp only [valsOf, listV]; rw [listV_valsOf (by simpa using h)]

/-- A function that yields rows, as long as it may: from the state s a row x is yielded, and s' is behind it, if next says so; it may end where stop says so. Q is what it must find in memory. -/
def IterG (P : Program) (fv : Value) (Q : Heap → Prop) {σ : Type} (s0 : σ) (next : σ → List Value → σ → Prop) (stop : σ → Prop) : Prop :=
  ∀ (yv : Value) (h0 h : Heap) (Rs : List Res) (K : Value → Heap → Prop) (J : σ → List Res → Prop) (E : List Res → Prop), (∃ l, yv = yieldV l) →
    Own h0 h Rs → J s0 Rs → (∀ s Rs' h', J s Rs' → Own h0 h' Rs' → Q h') →
    (∀ s x s' Rs' Pr h' R, next s x s' → J s Rs' → Own h0 h' (Rs' ++ Pr) → (∀ Rs'' h'', J s' Rs'' → Own h0 h'' (Rs'' ++ Pr) → R (.bool true) h'') →
      (∀ Rs'' h'', E Rs'' → Own h0 h'' (Rs'' ++ Pr) → R (.bool false) h'') → callV P yv x.toArray h' R) →
    (∀ Rs' h', ((∃ s, stop s ∧ J s Rs') ∨ E Rs') → Own h0 h' Rs' → K (.tuple #[]) h') → callF P fv #[yv] h K

/-- n rows, one behind the other. -/
abbrev Iter (P : Program) (fv : Value) (Q : Heap → Prop) (n : Nat) (f : (i : Nat) → i < n → List Value) : Prop :=
  IterG P fv Q (σ := Nat) 0 (fun i x i' => (∃ hi : i < n, x = f i hi) ∧ i' = i + 1) (fun i => i = n)
/-- Rows of which something is known. -/
abbrev IterS (P : Program) (fv : Value) (Q : Heap → Prop) (S : List Value → Prop) : Prop :=
  IterG P fv Q (σ := Unit) () (fun _ x _ => S x) (fun _ => True)

theorem Own.rot {r : Res} : ∀ {L : List Res}, Own h0 h (r :: L) → Own h0 h (L ++ [r]) := by
  intro L o
  have key : ∀ {j : Nat} {s : Res}, (L ++ [r])[j]? = some s → (r :: L)[if j < L.length then j + 1 else 0]? = some s ∧ j ≤ L.length := fun {j s} hj => by
    by_cases h1 : j < L.length
    · rw [List.getElem?_append_left h1] at hj
      rw [if_pos h1]; exact ⟨hj, by omega⟩
    · rw [List.getElem?_append_right (by omega)] at hj
      rw [if_neg h1]
      obtain ⟨h2, h3⟩ := List.getElem?_eq_some_iff.1 hj
      simp at h2 h3
      exact ⟨by simp [h3], by omega⟩
  refine ⟨o.ext, fun hi => o.q (key hi).1, fun hi hj hne => o.ap (key hi).1 (key hj).1 fun e => hne ?_⟩
  have a := (key hi).2
  have b := (key hj).2
  split at e <;> split at e <;> omega

theorem Own.range {fv : Value} {Q : Heap → Prop} {σ : Type} {s0 : σ} {next : σ → List Value → σ → Prop} {stop : σ → Prop} {ps : List Nat} {B : Loop → Vals ps → Heap → (Exit → Heap → Prop) → Prop} {Kn Kr : Heap → Prop} {Ks : List (Nat × (Heap → Prop))}
    (o : Own h0 h L) (hI : IterG P fv Q s0 next stop) (hf : ∀ s x s', next s x s' → x.length = ps.length) (J : σ → List Res → Prop) (Er : List Res → Prop) (Ex : Nat → List Res → Prop)
    (j0 : J s0 L) (hQ : ∀ s Rs' h', J s Rs' → Own h0 h' Rs' → Q h')
    (step : ∀ M s x s' Rs' Pr h' (R : Exit → Heap → Prop), next s x s' → J s Rs' → Own h0 h' (loopR (h.size + 1) (lo M .ready none) :: markR h.size :: (Rs' ++ Pr)) →
      (∀ Rs'' h'', J s' Rs'' → Own h0 h'' (loopR (h.size + 1) (lo M .busy none) :: markR h.size :: (Rs'' ++ Pr)) → R .normal h'') →
      (∀ Rs'' h'', Er Rs'' → Own h0 h'' (loopR (h.size + 1) (lo M .busy none) :: markR h.size :: (Rs'' ++ Pr)) → R .ret h'') →
      (∀ id Rs'' h'', Ex id Rs'' → Own h0 h'' (loopR (h.size + 1) (lo M .busy none) :: markR h.size :: (Rs'' ++ Pr)) → R (.exit id) h'') → B M (valsOf ps x) h' R)
    (fin : ∀ s h' Rs', stop s → J s Rs' → Own h0 h' (markR h.size :: Rs') → Kn h') (finr : ∀ h' Rs', Er Rs' → Own h0 h' (markR h.size :: Rs') → Kr h')
    (finx : ∀ id h' Rs', Ex id Rs' → Own h0 h' (markR h.size :: Rs') → lookK Ks id h') :
    rangeH P fv ps (h.size + 1) (h.push (.deferred (some []))) B Kn Kr Ks := by
  intro M hy
  have e1 : (h.push (.deferred (some []))).size = h.size + 1 := push_size
  have o1 : Own h0 (h.push (.deferred (some []))) (markR h.size :: L) := o.new (r := markR h.size) push_new fun b hb => hb
  have o2 : Own h0 ((h.push (.deferred (some []))).push (lo M .ready none)) (loopR (h.size + 1) (lo M .ready none) :: markR h.size :: L) :=
    o1.new (r := loopR (h.size + 1) (lo M .ready none)) (by show (Array.push _ _)[h.size + 1]? = _; rw [← e1, push_new]) fun b hb => hb.trans e1.symm
  refine hI (yieldV (h.size + 1)) h0 _ _ _ (fun s Rs => ∃ Rs1, Rs = loopR (h.size + 1) (lo M .ready none) :: markR h.size :: Rs1 ∧ J s Rs1)
    (fun Rs => ∃ p Rs1, Rs = loopR (h.size + 1) (lo M .done (some p)) :: markR h.size :: Rs1 ∧ ((p = .ret ∧ Er Rs1) ∨ ∃ id, p = .exit id ∧ Ex id Rs1)) ⟨_, rfl⟩ o2 ⟨L, rfl, j0⟩
    (fun s Rs' h' ⟨Rs1, e, hj⟩ o' => hQ s Rs1 h' hj (by subst e; exact o'.tail.tail)) ?_ ?_
  · rintro s x s' _ Pr h' R hn ⟨Rs1, rfl, hj⟩ o' hT hF
    have hb : h'[h.size + 1]? = some (lo M .ready none) := o'.get 0 rfl
    have := hy (valsOf ps x) h' R .ready none hb
    rw [listV_valsOf (hf _ _ _ hn)] at this
    refine this (step M s x s' Rs1 Pr h' _ hn hj o' ?_ ?_ ?_)
    · intro Rs'' h'' hj' o''
      have hb' : h''[h.size + 1]? = some (lo M .busy none) := o''.get 0 rfl
      have hlt := get_lt hb'
      refine ⟨none, hb', hT (loopR (h.size + 1) (lo M .ready none) :: markR h.size :: Rs'') _ ⟨Rs'', rfl, hj'⟩ ?_⟩
      refine o''.set 0 (r' := loopR (h.size + 1) (lo M .ready none)) rfl (Upd.upd (S := (loopR (h.size + 1) (lo M .busy none)).F) h'' _ rfl) (upd_self hlt) fun c hc => ⟨.inl hc, ?_⟩
      rw [setIf_upd, upd_size]; exact (show c = h.size + 1 from hc) ▸ hlt
    · intro Rs'' h'' hj' o''
      have hb' : h''[h.size + 1]? = some (lo M .busy none) := o''.get 0 rfl
      have hlt := get_lt hb'
      refine ⟨none, hb', hF (loopR (h.size + 1) (lo M .done (some .ret)) :: markR h.size :: Rs'') _ ⟨.ret, Rs'', rfl, .inl ⟨rfl, hj'⟩⟩ ?_⟩
      refine o''.set 0 (r' := loopR (h.size + 1) (lo M .done (some .ret))) rfl (Upd.upd (S := (loopR (h.size + 1) (lo M .busy none)).F) h'' _ rfl) (upd_self hlt) fun c hc => ⟨.inl hc, ?_⟩
      rw [setIf_upd, upd_size]; exact (show c = h.size + 1 from hc) ▸ hlt
    · intro id Rs'' h'' hj' o''
      have hb' : h''[h.size + 1]? = some (lo M .busy none) := o''.get 0 rfl
      have hlt := get_lt hb'
      refine ⟨none, hb', hF (loopR (h.size + 1) (lo M .done (some (.exit id))) :: markR h.size :: Rs'') _ ⟨.exit id, Rs'', rfl, .inr ⟨id, rfl, hj'⟩⟩ ?_⟩
      refine o''.set 0 (r' := loopR (h.size + 1) (lo M .done (some (.exit id)))) rfl (Upd.upd (S := (loopR (h.size + 1) (lo M .busy none)).F) h'' _ rfl) (upd_self hlt) fun c hc => ⟨.inl hc, ?_⟩
      rw [setIf_upd, upd_size]; exact (show c = h.size + 1 from hc) ▸ hlt
  · have close : ∀ {Rs1 : List Res} {h' : Heap} {st : LoopState} {p : Option Code}, Own h0 h' (loopR (h.size + 1) (lo M st p) :: markR h.size :: Rs1) → Own h0 (upd h' (h.size + 1) (lo M .exhausted p)) (markR h.size :: Rs1) := by
      intro Rs1 h' st p o'
      have hb' : h'[h.size + 1]? = some (lo M st p) := o'.get 0 rfl
      have hlt := get_lt hb'
      exact (o'.set 0 (r' := nilR) rfl (Upd.upd (S := (loopR (h.size + 1) (lo M st p)).F) h' (lo M .exhausted p) rfl) trivial fun c hc => hc.elim).tail
    rintro Rs' h' (⟨s, hs, Rs1, rfl, hj⟩ | ⟨p, Rs1, rfl, hp⟩) o'
    · exact ⟨.ready, none, by decide, o'.get 0 rfl, fin _ _ _ hs hj (close o')⟩
    · refine ⟨.done, some p, by decide, o'.get 0 rfl, ?_⟩
      rcases hp with ⟨rfl, he⟩ | ⟨id, rfl, he⟩
      · exact finr _ _ he (close o')
      · exact finx _ _ _ he (close o')

end
end Go.Mh

namespace Go.Mh
open Go

abbrev ptr (b : Nat) : Value := .pointer (some ⟨b, 0, none⟩)
abbrev I (n : Int) : Value := .int .i64 n
def encI (x : Int) : List Value := [I x]
theorem encI_len (x : Int) : (encI x).length = 1 := rfl
theorem encI_plain (x : Int) : ∀ u ∈ encI x, plainCell u = true := by intro u hu; simp [encI] at hu; subst hu; rfl

/-! ### Views that stay -/

section
variable {α : Type} {enc : α → List Value} {n : Nat} {h0 h h' : Heap} {v w : Value} {ys xs : List α} {K : Value → Prop} {KH : Value → Heap → Prop} {k : IntKind} {i : Nat}

def Vw (enc : α → List Value) (n : Nat) (h : Heap) (v : Value) (ys : List α) : Prop := ∃ bl, VwR enc n h v bl ys

theorem Vw.more (H : Vw enc n h v ys) (x : Ext h h') : Vw enc n h' v ys := by
  obtain ⟨bl, H⟩ := H
  exact ⟨bl, H.upd x id⟩

theorem Vw.nil : Vw enc n h (.slice none 0 0) [] := ⟨0, none, 0, rfl, Nat.le_refl _, .inl ⟨rfl, .inl rfl⟩⟩

theorem Vw.len (H : Vw enc n h v ys) (hk : K (I ys.length)) : pLen v K := by
  obtain ⟨bl, H⟩ := H
  exact H.lenK hk

theorem Vw.isSl (H : Vw enc n h v ys) : ∃ b c, v = .slice b ys.length c := by
  obtain ⟨bl, b, c, e, _⟩ := H
  exact ⟨b, c, e⟩

theorem cellsAt_of_hcell {b : Nat} : ∀ (l : List Value) (o : Nat), (∀ j, j < l.length → hcell h ⟨b, o + j, none⟩ = l[j]?) → cellsAt h b o l.length = some l
  | [], o, _ => rfl
  | v :: l, o, H => by
    have h0 : hcell h ⟨b, o, none⟩ = some v := by simpa using H 0 (by simp)
    simp only [List.length_cons, cellsAt, h0]
    rw [cellsAt_of_hcell l (o + 1) fun j hj => by
      have := H (j + 1) (by simp; omega)
      rw [show o + 1 + j = o + (j + 1) by omega]; simpa using this]

theorem Vw.idx (he : ∀ a, (enc a).length = n) (H : Vw enc n h v ys) (hi : i < ys.length)
    (hK : ∀ b o, (∀ j, j < n → hcell h ⟨b, o + j, none⟩ = (enc ys[i])[j]?) → K (.pointer (some ⟨b, o, none⟩))) : pIdx n v (.int k i) K := by
  obtain ⟨bl, H⟩ := H
  exact H.idx he hi fun o ho => hK bl o ho

theorem Vw.at1 {e : α → Value} (H : Vw enc 1 h v ys) (he : ∀ a, enc a = [e a]) (hi : i < ys.length) (hk : K (e ys[i])) : pIdx 1 v (.int k i) (fun t => pLoad h t K) := by
  refine H.idx (fun a => by rw [he]; rfl) hi fun b o hc => ?_
  have := hc 0 (by omega)
  rw [he] at this
  simp only [Nat.add_zero, List.getElem?_cons_zero] at this
  simp only [pLoad_ptr, this]; exact hk

theorem Vw.atI {ys : List Int} (H : Vw encI 1 h v ys) (hi : i < ys.length) (hk : K (I ys[i])) : pIdx 1 v (.int k i) (fun t => pLoad h t K) :=
  H.at1 (e := fun x => I x) (fun _ => rfl) hi hk

theorem Vw.atN (he : ∀ a, (enc a).length = n) (H : Vw enc n h v ys) (hi : i < ys.length) (hk : K (.agg (enc ys[i]).toArray)) : pIdx n v (.int k i) (fun t => pLoadN n h t K) := by
  refine H.idx he hi fun b o hc => ?_
  have := cellsAt_of_hcell (enc ys[i]) o (fun j hj => hc j (by rw [he] at hj; exact hj))
  rw [he] at this
  simp only [pLoadN_ptr, this]; exact hk

theorem Vw.atF {j : Nat} {u : Value} (he : ∀ a, (enc a).length = n) (H : Vw enc n h v ys) (hi : i < ys.length) (hj : j < n) (hu : (enc ys[i])[j]? = some u) (hk : K u) :
    pIdx n v (.int k i) (fun t => pField j t fun t' => pLoad h t' K) := by
  refine H.idx he hi fun b o hc => ?_
  have := hc j hj
  rw [hu] at this
  simp only [pField_ptr, pLoad_ptr, this]; exact hk

theorem Vw.sub {lo hi : Option Value} {a j : Nat} (he : ∀ a, (enc a).length = n) (H : Vw enc n h v ys) (hlo : bndOf 0 lo = some (a : Int)) (hhi : bndOf ys.length hi = some (j : Int)) (hij : a ≤ j) (hj : j ≤ ys.length)
    (hK : ∀ v', Vw enc n h v' ((ys.drop a).take (j - a)) → K v') : pSlice n v lo hi none K := by
  obtain ⟨bl, H⟩ := H
  exact H.sub he hlo hhi hij hj fun v' H' => hK v' ⟨bl, H'⟩

theorem Vw.cells (he : ∀ a, (enc a).length = n) (H : Vw enc n h v ys) : ∃ base cap, v = .slice base ys.length cap ∧ cellsOfSl h n ys.length base = some (row enc ys) := by
  obtain ⟨bl, H⟩ := H
  exact H.cells he

end

/-! ### Slices of one's own -/

def blkOf : Value → Nat → Prop
  | .slice (some a) _ _, c => c = a.block
  | _, _ => False

section
variable {α : Type} {enc : α → List Value} {n : Nat} {T : TypeId} {h0 h h' : Heap} {v w : Value} {ys xs : List α} {K : Value → Prop} {KH : Value → Heap → Prop} {k : IntKind} {i : Nat} {L : List Res}

def slR (enc : α → List Value) (n : Nat) (T : TypeId) (v : Value) (xs : List α) : Res := ⟨blkOf v, fun h => ∃ bl, SlR enc n T h v bl xs, fun {h h'} hs hq => by
  obtain ⟨bl, H⟩ := hq
  refine ⟨bl, ?_⟩
  rcases H with H | ⟨cap, rest, rfl, hb, a, c⟩
  · exact .inl H
  · exact .inr ⟨cap, rest, rfl, (hs bl rfl).trans hb, a, c⟩⟩

theorem Own.vw (o : Own h0 h L) (i : Nat) (hi : L[i]? = some (slR enc n T v xs)) : Vw enc n h v xs := by
  obtain ⟨bl, H⟩ := o.get i hi
  exact ⟨bl, H.view⟩

theorem slR_of {bl : Nat} (H : SlR enc n T h v bl xs) : (slR enc n T v xs).Q h := ⟨bl, H⟩

theorem Own.nilS (o : Own h0 h L) : Own h0 h (slR enc n T (.slice none 0 0) ([] : List α) :: L) :=
  o.cons (.refl _ _) ⟨0, .inl ⟨rfl, rfl⟩⟩ fun b hb => hb.elim

theorem SlR.blk {bl : Nat} (H : SlR enc n T h v bl xs) {b : Nat} (hb : blkOf v b) : b = bl := by
  rcases H with ⟨rfl, _⟩ | ⟨cap, rest, rfl, _⟩
  · exact hb.elim
  · exact hb

theorem SlR.blkLt {bl : Nat} (H : SlR enc n T h v bl xs) {b : Nat} (hb : blkOf v b) : b < h.size := by
  have e := H.blk hb
  rcases H with ⟨rfl, _⟩ | ⟨cap, rest, rfl, hx, _⟩
  · exact hb.elim
  · subst e; exact get_lt hx

/-- A slice that was just made. -/
theorem Own.fresh {c : Nat} {rest : List Value} (o : Own h0 h L) (hr : rest.length = (c - xs.length) * n) (hc : xs.length ≤ c) :
    Own h0 (h.push (.cells (row enc xs ++ rest).toArray T (0, 0))) (slR enc n T (.slice (some ⟨h.size, 0, none⟩) xs.length c) xs :: L) :=
  o.new (slR_of (bl := h.size) (.inr ⟨c, rest, rfl, push_new, hr, hc⟩)) fun b hb => hb

theorem Own.make {bytes : Nat} {zero : List Value} {k' : IntKind} {m : Nat} {a : α} (o : Own h0 h L) (hz : zero = enc a) (hb : (bytes : Int) * m ≤ 2 ^ 48) (hm : m < 2 ^ 63)
    (hK : ∀ w h', Own h0 h' (slR enc n T w (List.replicate m a) :: L) → KH w h') : pMakeSlice T bytes zero (.int k m) (.int k' m) h KH := by
  subst hz
  refine makeSlice_of hb hm fun w h' H x hs => hK w h' (o.cons x (slR_of H) fun b hb => ?_)
  have := H.blk hb
  subst this
  omega

theorem Own.build {zs : List Value} {parts : List (Nat × Nat × Value)} {len : Nat} (o : Own h0 h L) (xs : List α) (hrow : spliceAll zs parts = row enc xs) (hsz : sizesOk zs.length parts) (hl : len = xs.length)
    (hK : ∀ w h', Own h0 h' (slR enc n T w xs :: L) → KH w h') : pBuildSlice T zs parts len h KH := by
  subst hl
  refine ⟨hsz, hK _ _ ?_⟩
  have := o.fresh (enc := enc) (n := n) (T := T) (xs := xs) (c := xs.length) (rest := []) (by simp) (Nat.le_refl _)
  rw [hrow]; simpa using this

/-- More elements behind. -/
theorem Own.app {bytes : Nat} {zero : List Value} {x : Value} (o : Own h0 h L) (i : Nat) (hi : L[i]? = some (slR enc n T v xs)) (he : ∀ a, (enc a).length = n) (hp : ∀ a, ∀ u ∈ enc a, plainCell u = true) (hz : zero.length = n)
    (hx : Vw enc n h x ys) (hby : 0 < bytes) (hb : (xs.length + ys.length) * bytes ≤ 2 ^ 47) (hK : ∀ v' h', Own h0 h' (L.set i (slR enc n T v' (xs ++ ys))) → KH v' h') : pAppend T n bytes zero v x h KH := by
  obtain ⟨bl, H⟩ := o.get i hi
  obtain ⟨xb, xc, rfl, hcx⟩ := hx.cells he
  have hF : (∃ cs, h[bl]? = some (.cells cs T (0, 0))) → v = .slice none 0 0 ∨ blkOf v bl := fun _ => by
    rcases H with ⟨rfl, _⟩ | ⟨cap, rest, rfl, _⟩
    · exact .inl rfl
    · exact .inr rfl
  rcases H with ⟨rfl, rfl⟩ | ⟨cap, rest, rfl, H⟩
  · -- a nil slice: nothing of it can be turned
    have H0 : SlR enc n T h (.slice none 0 0) h.size ([] : List α) := .inl ⟨rfl, rfl⟩
    refine append_of he hp hz H0 rfl hcx hby hb fun v' bl' h' H' hbl u hlt => hK v' h' (o.set i hi (u.mono fun b ⟨e, cs, hcs⟩ hlt => ?_) (slR_of H') fun b hb => ?_)
    · subst e; exact absurd hlt (Nat.lt_irrefl _)
    · have := H'.blk hb
      exact ⟨.inr (by rcases hbl with e | e <;> omega), H'.blkLt hb⟩
  · refine append_of he hp hz (.inr ⟨cap, rest, rfl, H⟩) rfl hcx hby hb fun v' bl' h' H' hbl u hlt => hK v' h' (o.set i hi (u.mono fun b ⟨e, cs, hcs⟩ _ => e) (slR_of H') fun b hb => ?_)
    have hb' := H'.blk hb
    refine ⟨?_, H'.blkLt hb⟩
    rcases hbl with e | e
    · exact .inl (hb'.trans e)
    · exact .inr (by omega)

/-- One element more: 'append(v, x)'. -/
theorem Own.app1 {bytes : Nat} {zero zs : List Value} {parts : List (Nat × Nat × Value)} (o : Own h0 h L) (i : Nat) (a : α) (hi : L[i]? = some (slR enc n T v xs)) (hrow : spliceAll zs parts = enc a) (hsz : sizesOk zs.length parts)
    (he : ∀ a, (enc a).length = n) (hp : ∀ a, ∀ u ∈ enc a, plainCell u = true) (hz : zero.length = n) (hby : 0 < bytes) (hb : (xs.length + 1) * bytes ≤ 2 ^ 47)
    (hK : ∀ v' h', Own h0 h' (L.set i (slR enc n T v' (xs ++ [a]))) → KH v' h') : pBuildSlice T zs parts 1 h fun t h1 => pAppend T n bytes zero v t h1 KH := by
  refine o.build (enc := enc) (n := n) [a] (by rw [hrow]; simp [row]) hsz rfl fun w h1 o1 => ?_
  exact o1.app (i + 1) hi he hp hz (o1.vw 0 rfl) hby hb fun v' h' o' => hK v' h' o'.tail

/-- An element set. -/
theorem Own.setAt {a : α} {j : Nat} (o : Own h0 h L) (i : Nat) (hi : L[i]? = some (slR enc n T v xs)) (he : ∀ a, (enc a).length = n) (hp : ∀ u ∈ enc a, plainCell u = true) (hj : j < xs.length) (hw : w.cells.toList = enc a)
    (hK : ∀ h', Own h0 h' (L.set i (slR enc n T v (xs.set j a))) → KH undef h') : pIdx n v (.int k j) fun t => pStore n t w h KH := by
  obtain ⟨bl, H⟩ := o.get i hi
  refine H.idx hj (SlR.set he hp H hj rfl hw rfl fun h' H' u hs => hK h' (o.set i hi (u.mono fun b hb _ => ?_) (slR_of H') fun b hb => ⟨.inl hb, H'.blkLt hb⟩))
  subst hb
  obtain ⟨cap, rest, rfl, _⟩ := H.full (by omega)
  rfl

theorem Own.setI {xs : List Int} {z : Int} {j : Nat} (o : Own h0 h L) (i : Nat) (hi : L[i]? = some (slR encI 1 T v xs)) (hj : j < xs.length)
    (hK : ∀ h', Own h0 h' (L.set i (slR encI 1 T v (xs.set j z))) → KH undef h') : pIdx 1 v (.int k j) fun t => pStore 1 t (I z) h KH :=
  o.setAt i hi encI_len (encI_plain z) hj rfl hK

/-- The place of an element. -/
theorem Own.idxAt {j : Nat} (o : Own h0 h L) (i : Nat) (hi : L[i]? = some (slR enc n T v xs)) (hj : j < xs.length) (hK : ∀ bl, SlR enc n T h v bl xs → blkOf v bl → K (.pointer (some ⟨bl, j * n, none⟩))) : pIdx n v (.int k j) K := by
  obtain ⟨bl, H⟩ := o.get i hi
  refine H.idx hj (hK bl H ?_)
  obtain ⟨cap, rest, rfl, _⟩ := H.full (by omega)
  rfl

theorem over_row {j f : Nat} {u : Value} {a : α} {rest : List Value} (he : ∀ a, (enc a).length = n) (hj : j < xs.length) (hf : f < n) (ha : enc a = (enc xs[j]).set f u) :
    over (row enc xs ++ rest) (j * n + f) [u] = row enc (xs.set j a) ++ rest := by
  have hlen := row_length he xs
  have hmul : (j + 1) * n ≤ xs.length * n := Nat.mul_le_mul_right n hj
  rw [Nat.succ_mul] at hmul
  have hle : j * n + f < (row enc xs ++ rest).length := by rw [List.length_append, hlen]; omega
  have e1 : over (row enc xs ++ rest) (j * n + f) [u] = (row enc xs ++ rest).set (j * n + f) u := by
    rw [List.set_eq_take_append_cons_drop, if_pos hle]; simp [over]
  rw [e1, ← row_over he hj a rest]
  apply List.ext_getElem?
  intro m
  have hla : (enc a).length = n := he a
  have hg : ∀ m', m' < n → (row enc xs ++ rest)[j * n + m']? = (enc xs[j])[m']? := fun m' hm' => row_get he hj hm' rest
  unfold over
  clear e1
  generalize row enc xs ++ rest = R at hle hg
  by_cases h1 : m < j * n
  · rw [List.getElem?_set_ne (by omega), List.append_assoc, List.getElem?_append_left (by simp; omega), List.getElem?_take_of_lt h1]
  · by_cases h2 : m < j * n + n
    · rw [List.append_assoc, List.getElem?_append_right (by simp; omega), List.length_take, Nat.min_eq_left (by omega), List.getElem?_append_left (by omega), ha]
      by_cases h3 : m = j * n + f
      · subst h3
        rw [List.getElem?_set_self hle, show j * n + f - j * n = f by omega, List.getElem?_set_self (by rw [he]; exact hf)]
      · rw [List.getElem?_set_ne (by omega), List.getElem?_set_ne (by omega), ← hg (m - j * n) (by omega), show j * n + (m - j * n) = m by omega]
    · rw [List.getElem?_set_ne (by omega), List.append_assoc, List.getElem?_append_right (by simp; omega), List.length_take, Nat.min_eq_left (by omega), List.getElem?_append_right (by omega), List.getElem?_drop, hla]
      congr 1; omega

/-- A field of an element set. -/
theorem Own.setF {a : α} {j f : Nat} {u : Value} (o : Own h0 h L) (i : Nat) (hi : L[i]? = some (slR enc n T v xs)) (he : ∀ a, (enc a).length = n) (hj : j < xs.length) (hf : f < n) (hu : u.cells = #[u]) (hp : plainCell u = true) (ha : enc a = (enc xs[j]).set f u)
    (hK : ∀ h', Own h0 h' (L.set i (slR enc n T v (xs.set j a))) → KH undef h') : pIdx n v (.int k j) fun t => pField f t fun t' => pStore 1 t' u h KH := by
  refine o.idxAt i hi hj fun bl H hbl => ?_
  obtain ⟨cap, rest, rfl, hb, hr, hle⟩ := H.full (by omega)
  have hlen := row_length he xs
  have hmul : (j + 1) * n ≤ xs.length * n := Nat.mul_le_mul_right n hj
  rw [Nat.succ_mul] at hmul
  simp only [pField_ptr]
  refine pStore_of rfl hb (by rw [hu]; rfl) (by rw [hu, List.length_append, hlen]; show j * n + f + 1 ≤ _; omega) (by rw [hu]; simpa using hp) (hk := hK _ ?_)
  rw [hu, over_row he hj hf ha]
  refine o.set i hi (Upd.upd _ _ rfl) (slR_of (bl := bl) (.inr ⟨cap, rest, by simp, upd_self' hb, by simpa using hr, by simpa using hle⟩)) fun b hb' => ⟨.inl hb', ?_⟩
  have : b = bl := hb'
  subst this
  rw [upd_size]; exact get_lt hb

end

/-! ### Maps of integers -/

def mapR (m : Nat) (f : Int → Option Value) : Res := ⟨fun b => b = m, fun h => ∃ es c, h[m]? = some (.map es c) ∧ IMap es c f, fun hs ⟨es, c, a, b⟩ => ⟨es, c, (hs m rfl).trans a, b⟩⟩

section
variable {h0 h : Heap} {L : List Res} {m : Nat} {f : Int → Option Value} {K : Value → Prop} {KH : Value → Heap → Prop} {k : Int} {z v : Value} {ok : Bool}

theorem Own.mkMap (o : Own h0 h L) (hK : ∀ m h', Own h0 h' (mapR m (fun _ => none) :: L) → KH (.map (some m)) h') : pMakeMap h KH :=
  hK h.size _ (o.new (r := mapR h.size _) ⟨#[], 0, push_new, .empty⟩ fun b hb => hb)

theorem Own.look (o : Own h0 h L) (i : Nat) (hi : L[i]? = some (mapR m f)) (hk : K (if ok then .tuple #[(f k).getD z, .bool (f k).isSome] else (f k).getD z)) : pLook (.int .i64) z ok h (.map (some m)) (I k) K := by
  obtain ⟨es, c, hm, him⟩ := o.get i hi
  exact look_of hm him hk

theorem Own.mapPut {f' : Int → Option Value} (o : Own h0 h L) (i : Nat) (hi : L[i]? = some (mapR m f)) (hf : ∀ x, f' x = fset f k v x) (hK : ∀ h', Own h0 h' (L.set i (mapR m f')) → KH undef h') : pMapSet (.int .i64) (.map (some m)) (I k) v h KH := by
  obtain ⟨es, c, hm, him⟩ := o.get i hi
  have hlt := get_lt hm
  refine mapSet_of hm him fun es' c' him' => hK _ (o.set i hi (Upd.upd _ _ rfl) ⟨es', c', upd_self hlt, him'.congr fun x => (hf x).symm ▸ rfl⟩ fun b hb => ⟨.inl hb, ?_⟩)
  rw [upd_size]; exact (show b = m from hb) ▸ hlt

theorem Own.mapDel {f' : Int → Option Value} (o : Own h0 h L) (i : Nat) (hi : L[i]? = some (mapR m f)) (hf : ∀ x, f' x = fdel f k x) (hK : ∀ h', Own h0 h' (L.set i (mapR m f')) → KH (.tuple #[]) h') : pDelete (.int .i64) (.map (some m)) (I k) h KH := by
  obtain ⟨es, c, hm, him⟩ := o.get i hi
  have hlt := get_lt hm
  refine delete_of hm him fun es' him' => hK _ (o.set i hi (Upd.upd _ _ rfl) ⟨es', c, upd_self hlt, him'.congr fun x => (hf x).symm ▸ rfl⟩ fun b hb => ⟨.inl hb, ?_⟩)
  rw [upd_size]; exact (show b = m from hb) ▸ hlt

end

/-! ### More on parts of memory -/

section
variable {h0 h h' : Heap} {L L' : List Res} {r r' : Res} {i : Nat}

theorem set_get {α : Type} {L : List α} {i : Nat} {r x : α} (hi : L[i]? = some r) : (L.set i x)[i]? = some x :=
  List.getElem?_set_self (List.getElem?_eq_some_iff.1 hi).1

theorem Own.conv (o : Own h0 h L) (i : Nat) (hi : L[i]? = some r) (q : r'.Q h) (g : ∀ b, r'.F b → r.F b) : Own h0 h (L.set i r') :=
  o.set i hi (.refl _ _) q fun b hb => ⟨.inl (g b hb), ((o.q hi).2 b (g b hb)).2⟩

/-- Some parts as one. -/
def allR (l : List Res) : Res := ⟨fun b => ∃ r ∈ l, r.F b, fun h => ∀ r ∈ l, r.Q h, fun hs hq r hr => r.st (fun b hb => hs b ⟨r, hr, hb⟩) (hq r hr)⟩

theorem Own.pack : ∀ {l L : List Res}, Own h0 h (l ++ L) → Own h0 h (allR l :: L) := by
  intro l L o
  have key : ∀ {j : Nat} {s : Res}, L[j]? = some s → (l ++ L)[l.length + j]? = some s := fun {j s} hj => by
    rw [List.getElem?_append_right (by omega), Nat.add_sub_cancel_left]; exact hj
  have keyl : ∀ {s : Res}, s ∈ l → ∃ j, j < l.length ∧ (l ++ L)[j]? = some s := fun {s} hs => by
    obtain ⟨j, hj, rfl⟩ := List.mem_iff_getElem.1 hs
    exact ⟨j, hj, by rw [List.getElem?_append_left hj]; simp⟩
  refine ⟨o.ext, fun {i s} hi => ?_, fun {i j s t} hi hj hne b hb hb' => ?_⟩
  · cases i with
    | zero =>
      simp at hi; subst hi
      refine ⟨fun r hr => ?_, fun b ⟨r, hr, hb⟩ => ?_⟩
      · obtain ⟨j, _, hj⟩ := keyl hr; exact (o.q hj).1
      · obtain ⟨j, _, hj⟩ := keyl hr; exact (o.q hj).2 b hb
    | succ i => exact o.q (key (j := i) (by simpa using hi))
  · cases i with
    | zero =>
      simp at hi; subst hi
      obtain ⟨r, hr, hb⟩ := hb
      obtain ⟨k, hk, hkr⟩ := keyl hr
      cases j with
      | zero => exact hne rfl
      | succ j => exact o.ap hkr (key (j := j) (by simpa using hj)) (by omega) b hb hb'
    | succ i =>
      cases j with
      | zero =>
        simp at hj; subst hj
        obtain ⟨r, hr, hb'⟩ := hb'
        obtain ⟨k, hk, hkr⟩ := keyl hr
        exact o.ap (key (j := i) (by simpa using hi)) hkr (by omega) b hb hb'
      | succ j => exact o.ap (key (j := i) (by simpa using hi)) (key (j := j) (by simpa using hj)) (by omega) b hb hb'

/-- A part that keeps less in mind. -/
theorem Own.weak (o : Own h0 h (r :: L)) (q : r.Q h → r'.Q h) (g : ∀ b, r'.F b → r.F b) : Own h0 h (r' :: L) :=
  o.conv 0 rfl (q (o.get 0 rfl)) g

/-- Of the first k parts some, in any order; the others as they are. -/
theorem Own.front (o : Own h0 h L) (k : Nat) (is : List Nat) (hn : is.Nodup) (hk : ∀ i ∈ is, i < k) : Own h0 h ((is.map fun i => L.getD i nilR) ++ L.drop k) := by
  have key : ∀ {j : Nat} {s : Res}, ((is.map fun i => L.getD i nilR) ++ L.drop k)[j]? = some s → s = nilR ∨ ∃ i, L[i]? = some s ∧ ((j < is.length ∧ is[j]? = some i) ∨ (is.length ≤ j ∧ i = k + (j - is.length))) := by
    intro j s hs
    by_cases hj : j < is.length
    · rw [List.getElem?_append_left (by simpa using hj), List.getElem?_map, Option.map_eq_some_iff] at hs
      obtain ⟨i, hi, rfl⟩ := hs
      rw [List.getD_eq_getElem?_getD]
      cases hL : L[i]? with
      | none => exact .inl rfl
      | some s => exact .inr ⟨i, hL, .inl ⟨hj, hi⟩⟩
    · rw [List.getElem?_append_right (by simp; omega), List.length_map, List.getElem?_drop] at hs
      exact .inr ⟨_, hs, .inr ⟨by omega, rfl⟩⟩
  refine ⟨o.ext, fun {j s} hs => ?_, fun {j l s t} hs ht hne b hb hb' => ?_⟩
  · rcases key hs with rfl | ⟨i, hi, _⟩
    · exact ⟨trivial, fun b hb => hb.elim⟩
    · exact o.q hi
  · rcases key hs with rfl | ⟨a, ha, h1⟩
    · exact hb.elim
    · rcases key ht with rfl | ⟨c, hc, h2⟩
      · exact hb'.elim
      · refine o.ap ha hc (fun e => hne ?_) b hb hb'
        subst e
        rcases h1 with ⟨h1, h1'⟩ | ⟨h1, h1'⟩ <;> rcases h2 with ⟨h2, h2'⟩ | ⟨h2, h2'⟩
        · have e1 := (List.getElem?_eq_some_iff.1 h1')
          have e2 := (List.getElem?_eq_some_iff.1 h2')
          exact (List.getElem_inj hn).1 (e1.2.trans e2.2.symm)
        · have := hk a (List.mem_of_getElem? h1'); omega
        · have := hk a (List.mem_of_getElem? h2'); omega
        · omega

theorem Vw.plain {α : Type} {enc : α → List Value} {n : Nat} {v : Value} {xs : List α} (H : Vw enc n h v xs) : plainCell v = true := by
  obtain ⟨b, c, rfl⟩ := H.isSl; rfl
theorem Vw.one {α : Type} {enc : α → List Value} {n : Nat} {v : Value} {xs : List α} (H : Vw enc n h v xs) : v.cells = #[v] := by
  obtain ⟨b, c, rfl⟩ := H.isSl; rfl

/-- A store of plain values, by lists that are written out. -/
theorem Own.st {b off n : Nat} {cs cs' l : List Value} {T : TypeId} {v : Value} {KH : Value → Heap → Prop} (o : Own h0 h L) (i : Nat) (hi : L[i]? = some (cellR b cs T)) (hv : v.cells = l.toArray) (hn : l.length = n) (hle : Nat.ble (off + n) cs.length = true) (hcs : over cs off l = cs')
    (hp : ∀ u ∈ l, plainCell u = true) (hk : ∀ h', Own h0 h' (L.set i (cellR b cs' T)) → KH undef h') : pStore n (.pointer (some ⟨b, off, none⟩)) v h KH := by
  have hs : v.cells.size = n := by rw [hv]; simpa using hn
  refine o.store i hi hs (by rw [hs]; exact Nat.le_of_ble_eq_true hle) (by rw [hv]; simpa using hp) fun h' o' => hk h' ?_
  rw [hv] at o'
  simp only [hcs] at o'
  exact o'

theorem Own.st1 {b off : Nat} {cs cs' : List Value} {T : TypeId} {v : Value} {KH : Value → Heap → Prop} (o : Own h0 h L) (i : Nat) (hi : L[i]? = some (cellR b cs T)) (hle : Nat.blt off cs.length = true) (hcs : over cs off [v] = cs') (hv : v.cells = #[v]) (hp : plainCell v = true)
    (hk : ∀ h', Own h0 h' (L.set i (cellR b cs' T)) → KH undef h') : pStore 1 (.pointer (some ⟨b, off, none⟩)) v h KH :=
  o.st i hi (l := [v]) hv rfl hle hcs (by simpa using hp) hk

/-- A struct read whole. -/
theorem Own.ldN {b off n : Nat} {cs cs' : List Value} {T : TypeId} {K : Value → Prop} (o : Own h0 h L) (i : Nat) (hi : L[i]? = some (cellR b cs T)) (hle : Nat.ble (off + n) cs.length = true) (hcs : (cs.drop off).take n = cs') (hk : K (.agg cs'.toArray)) : pLoadN n h (.pointer (some ⟨b, off, none⟩)) K :=
  o.loadN i hi (Nat.le_of_ble_eq_true hle) (by rw [hcs]; exact hk)

theorem Own.nilTail (o : Own h0 h L) : Own h0 h (L ++ []) := by rwa [List.append_nil]
theorem Own.toNil (o : Own h0 h (L ++ [])) : Own h0 h L := by rwa [List.append_nil] at o

/-- A call that only adds to memory. -/
theorem Own.ext2 (o : Own h0 h L) (x : Ext h h') : Ext h0 h' := (o.more x).ext

end

/-! ### Loops that count -/

theorem LoopH_count {σ : Type} {B : σ → Heap → (σ → Heap → Prop) → Prop} {x : σ} {h : Heap} (N : Nat) (I : Nat → σ → Heap → Prop) (h0 : I 0 x h)
    (step : ∀ (i : Nat) (x : σ) (h : Heap) (Z : σ → Heap → Prop), i ≤ N → I i x h → (∀ x' h', i < N → I (i + 1) x' h' → Z x' h') → B x h Z) : LoopH B x h := by
  intro Z hZ
  have key : ∀ k i x h, N - i = k → i ≤ N → I i x h → Z x h := by
    intro k
    induction k with
    | zero => intro i x h hk hi hI; exact hZ x h (step i x h Z hi hI fun x' h' hlt => by omega)
    | succ k ih => intro i x h hk hi hI; exact hZ x h (step i x h Z hi hI fun x' h' hlt hI' => ih (i + 1) x' h' (by omega) (by omega) hI')
  exact key _ 0 x h rfl (Nat.zero_le _) h0

theorem LoopH_down {σ : Type} {B : σ → Heap → (σ → Heap → Prop) → Prop} {x : σ} {h : Heap} (I : Nat → σ → Heap → Prop) {k0 : Nat} (h0 : I k0 x h)
    (step : ∀ (k : Nat) (x : σ) (h : Heap) (Z : σ → Heap → Prop), I k x h → (∀ x' h' k', k' < k → I k' x' h' → Z x' h') → B x h Z) : LoopH B x h := by
  intro Z hZ
  have key : ∀ k x h, I k x h → Z x h := by
    intro k
    induction k using Nat.strongRecOn with
    | _ k ih => intro x h hI; exact hZ x h (step k x h Z hI fun x' h' k' hlt hI' => ih k' hlt x' h' hI')
  exact key _ x h h0

theorem wI (n : Nat) (hn : n < 9223372036854775807) : IntKind.i64.wrap ((n : Int) + 1) = ((n + 1 : Nat) : Int) := by rw [w64 (by omega) (by omega)]; rfl

/-! ### Copies into one's own -/

section
variable {α : Type} {enc : α → List Value} {n : Nat} {T : TypeId} {h0 h : Heap} {v : Value} {ys xs : List α} {KP : Heap → Prop} {KH : Value → Heap → Prop} {L : List Res}

theorem over_rows {rest : List Value} {j : Nat} (he : ∀ a, (enc a).length = n) (hj : j + ys.length ≤ xs.length) :
    over (row enc xs ++ rest) (j * n) (row enc ys) = row enc (xs.take j ++ ys ++ xs.drop (j + ys.length)) ++ rest := by
  have hl := row_length he xs
  have hm : (j + ys.length) * n ≤ xs.length * n := Nat.mul_le_mul_right n hj
  rw [Nat.add_mul] at hm
  unfold over
  rw [row_length he ys, List.take_append_of_le_length (by omega), row_take he, ← Nat.add_mul, List.drop_append_of_le_length (by rw [Nat.add_mul]; omega), row_drop he, row_append, row_append]
  simp [List.append_assoc]

theorem Own.storeRow {j : Nat} (o : Own h0 h L) (i : Nat) (hi : L[i]? = some (slR enc n T v xs)) (he : ∀ a, (enc a).length = n) (hp : ∀ a, ∀ u ∈ enc a, plainCell u = true) {bl : Nat} (H : SlR enc n T h v bl xs) (hb : blkOf v bl) (hj : j + ys.length ≤ xs.length)
    (hk : ∀ h', Own h0 h' (L.set i (slR enc n T v (xs.take j ++ ys ++ xs.drop (j + ys.length)))) → KP h') : storeL h bl (j * n) (row enc ys) KP := by
  rcases H with ⟨rfl, _⟩ | ⟨cap, rest, rfl, hbk, hr, hle⟩
  · exact hb.elim
  have hl := row_length he xs
  have hly := row_length he ys
  have hm : (j + ys.length) * n ≤ xs.length * n := Nat.mul_le_mul_right n hj
  rw [Nat.add_mul] at hm
  have hlen : (xs.take j ++ ys ++ xs.drop (j + ys.length)).length = xs.length := by simp; omega
  refine storeL_of _ _ _ _ hbk (by rw [List.length_append]; omega) (fun u hu => ?_) (hk _ ?_)
  · simp only [row, List.mem_flatMap] at hu
    obtain ⟨a, _, ha⟩ := hu
    exact hp a u ha
  · rw [over_rows he hj]
    refine o.set i hi (Upd.upd _ _ rfl) (slR_of (bl := bl) (.inr ⟨cap, rest, by rw [hlen], upd_self' hbk, by rw [hlen]; exact hr, by rw [hlen]; exact hle⟩)) fun b hb' => ⟨.inl hb', ?_⟩
    have : b = bl := hb'
    subst this
    rw [upd_size]; exact get_lt hbk

end
/-! ### More on what yields -/

section
variable {P : Program} {fv : Value} {Q Q' : Heap → Prop}

theorem IterG.map {σ τ : Type} {s0 : σ} {t0 : τ} {next : σ → List Value → σ → Prop} {stop : σ → Prop} {next' : τ → List Value → τ → Prop} {stop' : τ → Prop} (g : σ → τ) (h : IterG P fv Q s0 next stop)
    (h0 : g s0 = t0) (hn : ∀ s x s', next s x s' → next' (g s) x (g s')) (hs : ∀ s, stop s → stop' (g s)) : IterG P fv Q t0 next' stop' := by
  intro yv b0 h1 Rs K J E hl o j0 hQ hY hK
  refine h yv b0 h1 Rs K (fun s => J (g s)) E hl o (h0 ▸ j0) (fun s Rs' h' hj => hQ _ Rs' h' hj) (fun s x s' Rs' Pr h' R hx => hY _ _ _ Rs' Pr h' R (hn _ _ _ hx)) fun Rs' h' hje => hK Rs' h' ?_
  rcases hje with ⟨s, h1, h2⟩ | h
  · exact .inl ⟨_, hs _ h1, h2⟩
  · exact .inr h

theorem Iter.toS {n : Nat} {f : (i : Nat) → i < n → List Value} {S : List Value → Prop} (h : Iter P fv Q n f) (hS : ∀ i hi, S (f i hi)) : IterS P fv Q S :=
  h.map (fun _ => ()) rfl (fun s x s' ⟨⟨hi, e⟩, _⟩ => e ▸ hS _ hi) fun _ _ => trivial

theorem IterG.need {σ : Type} {s0 : σ} {next : σ → List Value → σ → Prop} {stop : σ → Prop} (h : IterG P fv Q s0 next stop) (hq : ∀ h, Q' h → Q h) : IterG P fv Q' s0 next stop :=
  fun yv b0 h1 Rs K J E hl o j0 hQ hY hK => h yv b0 h1 Rs K J E hl o j0 (fun s Rs' h' hj o' => hq _ (hQ s Rs' h' hj o')) hY hK

end

theorem callV_of {P : Program} {f : Nat} {first captured : Array Value} {args l : List Value} {h : Heap} {K : Value → Heap → Prop} (e : first.toList ++ args ++ captured.toList = l) (hc : CallsH P f l.toArray h K) :
    callV P (.func (.func f) first captured) args.toArray h K := by
  have : first ++ args.toArray ++ captured = l.toArray := by
    apply Array.ext'; simp [← e]
  refine callV_func ?_
  rw [this]; exact hc

theorem callF_of {P : Program} {f : Nat} {first captured : Array Value} {args : Array Value} {l : List Value} {h : Heap} {K : Value → Heap → Prop} (e : first.toList ++ args.toList ++ captured.toList = l) (hc : CallsH P f l.toArray h K) :
    callF P (.func (.func f) first captured) args h K := by
  have : first ++ args ++ captured = l.toArray := by
    apply Array.ext'; simp [← e]
  show CallsH P f (first ++ args ++ captured) h K
  rw [this]; exact hc

def sizesB (n : Nat) : List (Nat × Nat × Value) → Bool
  | [] => true
  | (off, size, v) :: r => Nat.beq v.cells.size size && (Nat.ble (off + size) n && sizesB n r)
theorem sizesOk_of : ∀ {n : Nat} {l : List (Nat × Nat × Value)}, sizesB n l = true → sizesOk n l
  | _, [], _ => trivial
  | _, _ :: _, h => by
    simp only [sizesB, Bool.and_eq_true] at h
    exact ⟨Nat.eq_of_beq_eq_true h.1, Nat.le_of_ble_eq_true h.2.1, sizesOk_of h.2.2⟩

section
variable {α : Type} {enc : α → List Value} {n : Nat} {T : TypeId} {h0 h : Heap} {x : Value} {KH : Value → Heap → Prop} {L : List Res} {k k' : IntKind}

/-- A slice made, its block known. -/
theorem Own.makeB {bytes m : Nat} {zero : List Value} (o : Own h0 h L) (hb : (bytes : Int) * m ≤ 2 ^ 48) (hm : m < 2 ^ 63)
    (hK : ∀ bl h', Own h0 h' (cellR bl (List.replicate m zero).flatten T :: L) → KH (.slice (some ⟨bl, 0, none⟩) m m) h') : pMakeSlice T bytes zero (.int k m) (.int k' m) h KH := by
  refine ⟨by omega, Int.le_refl _, hb, by omega, ?_⟩
  simp only [Int.toNat_natCast]
  exact hK h.size _ (o.new (r := cellR h.size _ T) push_new fun b hb => hb)

/-- An element behind, where there is room. -/
theorem Own.appIn {bytes bl off len cap : Nat} {zero cs : List Value} {e : α → Value} {a : α} (o : Own h0 h L) (i : Nat) (hi : L[i]? = some (cellR bl cs T)) (he : ∀ a, enc a = [e a]) (hp : plainCell (e a) = true) (hx : Vw enc 1 h x [a]) (hlen : len + 1 ≤ cap) (hpos : off + len < cs.length)
    (hK : ∀ h', Own h0 h' (L.set i (cellR bl (cs.set (off + len) (e a)) T)) → KH (.slice (some ⟨bl, off, none⟩) (len + 1) cap) h') : pAppend T 1 bytes zero (.slice (some ⟨bl, off, none⟩) len cap) x h KH := by
  obtain ⟨xb, xc, rfl, hc⟩ := hx.cells fun a => by rw [he]; rfl
  have hc' : cellsOfSl h 1 1 xb = some [e a] := by
    have e1 : Mh.row enc [a] = [e a] := by simp [row, he]
    rw [← e1]; exact hc
  simp only [pAppend, List.length_singleton, hc']
  rw [if_pos hlen, Nat.mul_one]
  have hb : h[bl]? = some (.cells cs.toArray T (0, 0)) := o.get i hi
  have hlt := ((o.q hi).2 bl rfl).2
  refine storeL_of _ _ _ _ hb (by show off + len + 1 ≤ _; omega) (by simpa using hp) (hK _ ?_)
  have eo : over cs (off + len) [e a] = cs.set (off + len) (e a) := by rw [List.set_eq_take_append_cons_drop, if_pos hpos]; simp [over]
  rw [eo]
  refine o.set i hi (Upd.upd _ _ rfl) (upd_self hlt) fun b hb' => ⟨.inl hb', ?_⟩
  rw [upd_size]; exact (show b = bl from hb') ▸ hlt

end

theorem Vw.atQ {h : Heap} {v : Value} {ys : List Int} {i : Nat} {z : Int} {k : IntKind} {K : Value → Prop} (H : Vw encI 1 h v ys) (hq : ys[i]? = some z) (hk : K (I z)) : pIdx 1 v (.int k i) (fun t => pLoad h t K) := by
  obtain ⟨hi, rfl⟩ := List.getElem?_eq_some_iff.1 hq
  exact H.atI hi hk

theorem hcell_more {h h' : Heap} {a : Addr} {v : Value} (x : Ext h h') (hc : hcell h a = some v) : hcell h' a = some v := by
  unfold hcell at *
  split at hc
  · rename_i c T fz hb
    rw [x.get hb]
    exact hc
  · cases hc

/-- The place of a number in a view, which is read there, now and later. -/
theorem Vw.idxI {h : Heap} {v : Value} {ys : List Int} {i : Nat} {k : IntKind} {K : Value → Prop} (H : Vw encI 1 h v ys) (hi : i < ys.length) (hK : ∀ b o, hcell h ⟨b, o, none⟩ = some (I ys[i]) → K (.pointer (some ⟨b, o, none⟩))) : pIdx 1 v (.int k i) K :=
  H.idx (fun _ => rfl) hi fun b o hc => hK b o (by simpa [encI] using hc 0 (by omega))

end Go.Mh

namespace Go.Mh
open Go

/-- An arc, and a graph, as data. -/
structure A where
  f : Nat
  t : Nat
  w : Nat
  deriving DecidableEq
structure G where
  n : Nat
  X : List Int
  Y : List Int
  arcs : List A

def encA (a : A) : List Value := [I a.f, I a.t, I a.w]
theorem encA_len (a : A) : (encA a).length = 3 := rfl
theorem encA_plain (a : A) : ∀ u ∈ encA a, plainCell u = true := by
  intro u hu; simp [encA] at hu; rcases hu with rfl | rfl | rfl <;> rfl
abbrev vA (a : A) : Value := .agg #[I a.f, I a.t, I a.w]

/-- A graph that is right. -/
structure G.Right (g : G) : Prop where
  pos : 1 ≤ g.n
  most : g.n ≤ 16777216
  x : g.X.length = g.n
  y : g.Y.length = g.n
  xr : ∀ c ∈ g.X, -2147483648 ≤ c ∧ c ≤ 2147483647
  yr : ∀ c ∈ g.Y, -2147483648 ≤ c ∧ c ≤ 2147483647
  many : g.arcs.length ≤ 67108864
  ends : ∀ a ∈ g.arcs, a.f < g.n ∧ a.t < g.n ∧ a.w ≤ 2147483647

/-- A graph's lists in memory. -/
def RawL (h : Heap) (vx vy va : Value) (g : G) : Prop := Vw encI 1 h vx g.X ∧ Vw encI 1 h vy g.Y ∧ Vw encA 3 h va g.arcs
def RawV (h : Heap) (v : Value) (g : G) : Prop := ∃ vx vy va, v = .agg #[I g.n, vx, vy, va] ∧ RawL h vx vy va g

theorem RawL.more {h h' : Heap} {vx vy va : Value} {g : G} (H : RawL h vx vy va g) (x : Ext h h') : RawL h' vx vy va g := ⟨H.1.more x, H.2.1.more x, H.2.2.more x⟩
theorem RawV.more {h h' : Heap} {v : Value} {g : G} (H : RawV h v g) (x : Ext h h') : RawV h' v g := by
  obtain ⟨vx, vy, va, e, H⟩ := H
  exact ⟨vx, vy, va, e, H.more x⟩

def encU8 (x : Int) : List Value := [.int .u8 x]
theorem encU8_len (x : Int) : (encU8 x).length = 1 := rfl
def encV (v : Value) : List Value := [v]
theorem encV_len (v : Value) : (encV v).length = 1 := rfl

/-- The arcs that go out of a node, in to it. -/
def outsP (p : A → Bool) : List A → Nat → List Nat
  | [], _ => []
  | a :: l, i => if p a then i :: outsP p l (i + 1) else outsP p l (i + 1)
def G.out (g : G) (v : Nat) : List Nat := outsP (fun a => a.f == v) g.arcs 0
def G.in (g : G) (v : Nat) : List Nat := outsP (fun a => a.t == v) g.arcs 0
def encN (x : Nat) : List Value := [I x]
theorem encN_len (x : Nat) : (encN x).length = 1 := rfl
theorem encN_plain (x : Nat) : ∀ u ∈ encN x, plainCell u = true := by intro u hu; simp [encN] at hu; subst hu; rfl

theorem u8_wrap (x : Int) : 0 ≤ IntKind.u8.wrap x ∧ IntKind.u8.wrap x < 256 := by
  simp only [IntKind.wrap, IntKind.bits, IntKind.signed, Bool.false_and, Bool.false_eq_true, if_false]
  omega

end Go.Mh

namespace Go.Mh.KM
open Go Go.Mh

/-! Maps by any keys that are compared at once, as functions. -/
variable {κ : Type} [DecidableEq κ]

abbrev Ent (κ : Type) := κ × Value × Nat

def ent (ke : κ → Value) (x : Ent κ) : MapEntry := { key := ke x.1, val := x.2.1, born := x.2.2 }

def lk (k : κ) : List (Ent κ) → Option Value
  | [] => none
  | x :: r => if x.1 = k then some x.2.1 else lk k r

def fi (k : κ) : List (Ent κ) → Nat → Option (Nat × Value)
  | [], _ => none
  | x :: r, j => if x.1 = k then some (j, x.2.1) else fi k r (j + 1)

/-- How keys are written, and found. -/
structure KE (κ : Type) [DecidableEq κ] where
  ke : κ → Value
  kd : TypeDesc
  inj : ∀ a b, ke a = ke b → a = b
  find : ∀ (k : κ) (t : List (Ent κ)), findK kd (ke k) (t.map (ent ke)) = some (fi k t 0)

variable {Q : KE κ}

structure IMapL (Q : KE κ) (es : Array MapEntry) (clock : Nat) (t : List (Ent κ)) : Prop where
  ents : es.toList = t.map (ent Q.ke)
  keys : (t.map (·.1)).Nodup
  borns : (t.map (·.2.2)).Nodup
  old : ∀ x ∈ t, x.2.2 < clock

/-- The entries of a map that is f. -/
def IMap (Q : KE κ) (es : Array MapEntry) (clock : Nat) (f : κ → Option Value) : Prop := ∃ t, IMapL Q es clock t ∧ ∀ k, f k = lk k t

def fset (f : κ → Option Value) (k : κ) (v : Value) : κ → Option Value := fun x => if x = k then some v else f x
def fdel (f : κ → Option Value) (k : κ) : κ → Option Value := fun x => if x = k then none else f x

theorem fset_same (f : κ → Option Value) (k : κ) (x y : Value) : fset (fset f k x) k y = fset f k y := by
  funext z; unfold fset; split <;> rfl

theorem fi_at {k : κ} : ∀ {t : List (Ent κ)} {j i : Nat} {v : Value}, fi k t j = some (i, v) → j ≤ i ∧ ∃ x, t[i - j]? = some x ∧ x.1 = k ∧ x.2.1 = v
  | x :: t, j, i, v, h => by
    simp only [fi] at h
    split at h
    · rename_i hx
      simp only [Option.some.injEq, Prod.mk.injEq] at h
      obtain ⟨rfl, rfl⟩ := h
      exact ⟨Nat.le_refl _, x, by simp, hx, rfl⟩
    · obtain ⟨h1, y, h2, h3⟩ := fi_at h
      refine ⟨by omega, y, ?_, h3⟩
      rw [show i - j = (i - (j + 1)) + 1 by omega]
      simpa using h2

theorem fi_lk (k : κ) : ∀ (t : List (Ent κ)) (j : Nat), (fi k t j).map (·.2) = lk k t
  | [], _ => rfl
  | x :: t, j => by
    simp only [fi, lk]; split
    · rfl
    · exact fi_lk k t (j + 1)

theorem fi_none {k : κ} : ∀ {t : List (Ent κ)} {j : Nat}, fi k t j = none → ∀ x ∈ t, x.1 ≠ k
  | [], _, _ => by intro x hx; cases hx
  | x :: t, j, h => by
    simp only [fi] at h
    split at h
    · cases h
    · rename_i hx
      intro y hy
      rcases List.mem_cons.1 hy with rfl | hy
      · exact hx
      · exact fi_none h y hy

theorem lk_none {k : κ} : ∀ {t : List (Ent κ)}, (∀ x ∈ t, x.1 ≠ k) → lk k t = none
  | [], _ => rfl
  | x :: t, h => by
    simp only [lk, if_neg (h x List.mem_cons_self)]
    exact lk_none fun y hy => h y (List.mem_cons_of_mem _ hy)

theorem lk_append {k : κ} {t s : List (Ent κ)} : lk k (t ++ s) = (lk k t).orElse fun _ => lk k s := by
  induction t with
  | nil => rfl
  | cons x t ih =>
    simp only [List.cons_append, lk]; split
    · rfl
    · exact ih

/-- What is found at a place is the one entry with the key. -/
theorem fi_modify {k : κ} {g : Ent κ → Ent κ} : ∀ {t : List (Ent κ)} {j i : Nat} {v : Value}, (t.map (·.1)).Nodup → fi k t j = some (i, v) →
    j ≤ i ∧ t.modify (i - j) g = t.map (fun x => if x.1 = k then g x else x)
  | x :: t, j, i, v, hn, h => by
    simp only [List.map_cons, List.nodup_cons] at hn
    simp only [fi] at h
    split at h
    · rename_i hx
      simp only [Option.some.injEq, Prod.mk.injEq] at h
      obtain ⟨rfl, rfl⟩ := h
      refine ⟨Nat.le_refl _, ?_⟩
      simp only [Nat.sub_self, List.modify_zero_cons, List.map_cons, if_pos hx]
      congr 1
      have : ∀ y ∈ t, y.1 ≠ k := fun y hy e => hn.1 (by rw [hx, ← e]; exact List.mem_map_of_mem hy)
      symm
      rw [List.map_congr_left (g := id) (fun y hy => by simp [this y hy])]
      simp
    · rename_i hx
      obtain ⟨h1, h2⟩ := fi_modify (g := g) hn.2 h
      refine ⟨by omega, ?_⟩
      rw [show i - j = (i - (j + 1)) + 1 by omega]
      simp only [List.modify_succ_cons, List.map_cons, if_neg hx, h2]

theorem fi_erase {k : κ} : ∀ {t : List (Ent κ)} {j i : Nat} {v : Value}, (t.map (·.1)).Nodup → fi k t j = some (i, v) →
    j ≤ i ∧ i - j < t.length ∧ t.eraseIdx (i - j) = t.filter (fun x => x.1 ≠ k)
  | x :: t, j, i, v, hn, h => by
    simp only [List.map_cons, List.nodup_cons] at hn
    simp only [fi] at h
    split at h
    · rename_i hx
      simp only [Option.some.injEq, Prod.mk.injEq] at h
      obtain ⟨rfl, rfl⟩ := h
      refine ⟨Nat.le_refl _, by simp, ?_⟩
      have : ∀ y ∈ t, y.1 ≠ k := fun y hy e => hn.1 (by rw [hx, ← e]; exact List.mem_map_of_mem hy)
      simp only [Nat.sub_self, List.eraseIdx_zero, List.tail_cons]
      rw [List.filter_cons_of_neg (by simp [hx]), List.filter_eq_self.2 (fun y hy => by simpa using this y hy)]
    · rename_i hx
      obtain ⟨h1, h2, h3⟩ := fi_erase hn.2 h
      refine ⟨by omega, by simp; omega, ?_⟩
      rw [show i - j = (i - (j + 1)) + 1 by omega]
      simp only [List.eraseIdx_cons_succ, h3]
      rw [List.filter_cons_of_pos (by simpa using hx)]

theorem lk_map {k k' : κ} {v : Value} : ∀ {t : List (Ent κ)}, lk k' (t.map fun x => if x.1 = k then (x.1, v, x.2.2) else x) = if k' = k then (lk k t).map (fun _ => v) else lk k' t
  | [] => by simp [lk]
  | x :: t => by
    have ih := lk_map (k := k) (k' := k') (v := v) (t := t)
    simp only [List.map_cons, lk]
    by_cases hx : x.1 = k
    · simp only [if_pos hx]
      by_cases hk : k' = k
      · simp [hk, hx]
      · have : ¬ x.1 = k' := fun e => hk (by rw [← e, hx])
        simp only [this, if_false, hk] at ih ⊢
        exact ih
    · simp only [if_neg hx]
      by_cases hk : x.1 = k'
      · have : ¬ k' = k := fun e => hx (by rw [hk, e])
        simp [hk, this]
      · simp only [if_neg hk]; exact ih

theorem lk_filter {k k' : κ} : ∀ {t : List (Ent κ)}, lk k' (t.filter fun x => x.1 ≠ k) = if k' = k then none else lk k' t
  | [] => by simp [lk]
  | x :: t => by
    have ih := lk_filter (k := k) (k' := k') (t := t)
    by_cases hx : x.1 = k
    · rw [List.filter_cons_of_neg (by simp [hx]), ih]
      simp only [lk]
      by_cases hk : k' = k
      · simp [hk]
      · have : ¬ x.1 = k' := fun e => hk (by rw [← e, hx])
        simp [hk, this]
    · rw [List.filter_cons_of_pos (by simpa using hx)]
      simp only [lk, ih]
      by_cases hk : x.1 = k'
      · have : ¬ k' = k := fun e => hx (by rw [hk, e])
        simp [hk, this]
      · simp [hk]

theorem IMap.congr {es : Array MapEntry} {c : Nat} {f g : κ → Option Value} (h : IMap Q es c f) (hfg : ∀ k, f k = g k) : IMap Q es c g := by
  obtain ⟨t, ht, hf⟩ := h
  exact ⟨t, ht, fun k => (hfg k).symm.trans (hf k)⟩

theorem IMap.empty : IMap Q #[] 0 (fun _ => none) := ⟨[], ⟨rfl, by simp, by simp, by simp⟩, fun _ => rfl⟩

theorem map_eraseIdx {α β : Type} (g : α → β) : ∀ (t : List α) (i : Nat), (t.eraseIdx i).map g = (t.map g).eraseIdx i
  | [], _ => by simp
  | _ :: _, 0 => by simp
  | x :: t, i + 1 => by simp [map_eraseIdx g t i]

section
variable {h : Heap} {m c : Nat} {es : Array MapEntry} {f : κ → Option Value}

theorem look_of {z : Value} {ok : Bool} {k : κ} {K : Value → Prop} (hm : h[m]? = some (.map es c)) (hi : IMap Q es c f)
    (hk : K (if ok then .tuple #[(f k).getD z, .bool (f k).isSome] else (f k).getD z)) : pLook Q.kd z ok h (.map (some m)) (Q.ke k) K := by
  obtain ⟨t, ht, hf⟩ := hi
  simp only [pLook, hm, ht.ents, Q.find]
  have hlk := fi_lk k t 0
  rw [hf k, ← hlk] at hk
  cases hfi : fi k t 0 with
  | none => rw [hfi] at hk; simpa using hk
  | some p => rw [hfi] at hk; simpa using hk

theorem IMapL.set {t : List (Ent κ)} {i : Nat} {k : κ} {v old : Value} (ht : IMapL Q es c t) (hfi : fi k t 0 = some (i, old)) :
    IMapL Q (es.modify i fun e => { e with key := Q.ke k, val := v }) c (t.map fun x => if x.1 = k then (x.1, v, x.2.2) else x) := by
  have hm := (fi_modify (g := fun x => (x.1, v, x.2.2)) ht.keys hfi).2
  rw [Nat.sub_zero] at hm
  refine ⟨?_, ?_, ?_, ?_⟩
  · rw [Array.toList_modify, ht.ents, ← hm]
    apply List.ext_getElem
    · simp
    · intro j h1 h2
      simp only [List.getElem_modify, List.getElem_map]
      split
      · rename_i e; subst e
        have hlt : i < t.length := by simpa using h1
        have : (t.modify i fun x => (x.1, v, x.2.2))[i]? = (t.map fun x => if x.1 = k then (x.1, v, x.2.2) else x)[i]? := by rw [hm]
        have hkey : t[i].1 = k := by
          have key : ∀ (t : List (Ent κ)) (j i : Nat), fi k t j = some (i, old) → ∃ hlt : i - j < t.length, t[i - j].1 = k ∧ j ≤ i := by
            intro t
            induction t with
            | nil => intro j i h; cases h
            | cons x t ih =>
              intro j i h
              simp only [fi] at h
              split at h
              · rename_i hx
                simp only [Option.some.injEq, Prod.mk.injEq] at h
                obtain ⟨rfl, _⟩ := h
                exact ⟨by simp, by simpa using hx, Nat.le_refl _⟩
              · obtain ⟨h1, h2, h3⟩ := ih _ _ h
                refine ⟨by simp; omega, ?_, by omega⟩
                have : i - j = (i - (j + 1)) + 1 := by omega
                simp only [this, List.getElem_cons_succ]; exact h2
          obtain ⟨_, h2, _⟩ := key t 0 i hfi
          simpa using h2
        simp [ent, hkey]
      · rfl
  · have : (t.map fun x => if x.1 = k then (x.1, v, x.2.2) else x).map (·.1) = t.map (·.1) := by
      rw [List.map_map]; apply List.map_congr_left; intro x _; simp only [Function.comp]; split <;> rfl
    rw [this]; exact ht.keys
  · have : (t.map fun x => if x.1 = k then (x.1, v, x.2.2) else x).map (·.2.2) = t.map (·.2.2) := by
      rw [List.map_map]; apply List.map_congr_left; intro x _; simp only [Function.comp]; split <;> rfl
    rw [this]; exact ht.borns
  · intro x hx
    obtain ⟨y, hy, rfl⟩ := List.mem_map.1 hx
    have := ht.old y hy
    split <;> exact this

theorem IMapL.push {t : List (Ent κ)} {k : κ} {v : Value} (ht : IMapL Q es c t) (hfi : fi k t 0 = none) :
    IMapL Q (es.push { key := Q.ke k, val := v, born := c }) (c + 1) (t ++ [(k, v, c)]) := by
  refine ⟨by simp [ht.ents, ent], ?_, ?_, ?_⟩
  · rw [List.map_append, List.nodup_append]
    refine ⟨ht.keys, by simp, ?_⟩
    intro a ha b hb
    obtain ⟨x, hx, rfl⟩ := List.mem_map.1 ha
    simp only [List.map_cons, List.map_nil, List.mem_singleton] at hb; subst hb
    exact fi_none hfi x hx
  · rw [List.map_append, List.nodup_append]
    refine ⟨ht.borns, by simp, ?_⟩
    intro a ha b hb
    obtain ⟨x, hx, rfl⟩ := List.mem_map.1 ha
    simp only [List.map_cons, List.map_nil, List.mem_singleton] at hb; subst hb
    exact Nat.ne_of_lt (ht.old x hx)
  · intro x hx
    rcases List.mem_append.1 hx with hx | hx
    · exact Nat.lt_succ_of_lt (ht.old x hx)
    · rw [List.mem_singleton.1 hx]; exact Nat.lt_succ_self _

theorem lk_set {t : List (Ent κ)} {k : κ} {v old : Value} {i : Nat} (hfi : fi k t 0 = some (i, old)) (x : κ) :
    lk x (t.map fun x => if x.1 = k then (x.1, v, x.2.2) else x) = if x = k then some v else lk x t := by
  rw [lk_map]
  split
  · rw [← fi_lk k t 0, hfi]; rfl
  · rfl

theorem lk_push {t : List (Ent κ)} {k : κ} {v : Value} {b : Nat} (hfi : fi k t 0 = none) (x : κ) :
    lk x (t ++ [(k, v, b)]) = if x = k then some v else lk x t := by
  rw [lk_append]
  by_cases hx : x = k
  · subst hx; rw [lk_none (fi_none hfi)]; simp [lk]
  · have : ¬ k = x := fun e => hx e.symm
    simp [hx, lk, this]

theorem mapSet_of {k : κ} {v : Value} {K : Value → Heap → Prop} (hm : h[m]? = some (.map es c)) (hi : IMap Q es c f)
    (hk : ∀ es' c', IMap Q es' c' (fset f k v) → K undef (upd h m (.map es' c'))) : pMapSet Q.kd (.map (some m)) (Q.ke k) v h K := by
  obtain ⟨t, ht, hf⟩ := hi
  simp only [pMapSet, hm, ht.ents, Q.find]
  cases hfi : fi k t 0 with
  | none => exact hk _ _ ⟨_, ht.push hfi, fun x => by rw [lk_push hfi]; simp [fset, hf]⟩
  | some p => exact hk _ _ ⟨_, ht.set hfi, fun x => by rw [lk_set hfi]; simp [fset, hf]⟩

/-- The stamp of an entry. -/
def Stamp (Q : KE κ) (es : Array MapEntry) (s : Int) (k : κ) : Prop := ∃ e ∈ es.toList, e.key = Q.ke k ∧ (e.born : Int) = s

theorem mapEntry_of {k : κ} {z : Value} {K : Value → Heap → Prop} (hm : h[m]? = some (.map es c)) (hi : IMap Q es c f)
    (hk : ∀ es' c' s, IMap Q es' c' (fset f k ((f k).getD z)) → Stamp Q es' s k → K (.tuple #[(f k).getD z, .int .i64 s]) (upd h m (.map es' c'))) :
    pMapEntry Q.kd z (.map (some m)) (Q.ke k) h K := by
  obtain ⟨t, ht, hf⟩ := hi
  simp only [pMapEntry, hm, ht.ents, Q.find]
  have hlk := fi_lk k t 0
  cases hfi : fi k t 0 with
  | none =>
    rw [hfi] at hlk
    have hfk : f k = none := by rw [hf]; exact hlk.symm
    rw [hfk] at hk
    refine hk _ _ _ ⟨_, ht.push hfi, fun x => by rw [lk_push hfi]; simp [fset, hf]⟩ ⟨{ key := Q.ke k, val := z, born := c }, by simp, rfl, rfl⟩
  | some p =>
    obtain ⟨i, v⟩ := p
    rw [hfi] at hlk
    have hfk : f k = some v := by rw [hf]; exact hlk.symm
    rw [hfk] at hk
    have hset := ht.set (v := v) hfi
    obtain ⟨_, hmod⟩ := fi_modify (g := fun x => x) ht.keys hfi
    have hi : i < t.length := by
      have key : ∀ (t : List (Ent κ)) (j i : Nat), fi k t j = some (i, v) → i - j < t.length ∧ j ≤ i := by
        intro t
        induction t with
        | nil => intro j i h; cases h
        | cons x t ih =>
          intro j i h
          simp only [fi] at h
          split at h
          · simp only [Option.some.injEq, Prod.mk.injEq] at h
            obtain ⟨rfl, _⟩ := h
            exact ⟨by simp, Nat.le_refl _⟩
          · obtain ⟨h1, h2⟩ := ih _ _ h
            exact ⟨by simp; omega, by omega⟩
      simpa using (key t 0 i hfi).1
    have hes : es[i]? = some (ent Q.ke t[i]) := by
      rw [← Array.getElem?_toList, ht.ents]; simp [hi]
    have hti : t[i].1 = k ∧ t[i].2.1 = v := by
      obtain ⟨_, x, hx, h1, h2⟩ := fi_at hfi
      rw [Nat.sub_zero, List.getElem?_eq_getElem hi] at hx
      obtain rfl := Option.some.inj hx
      exact ⟨h1, h2⟩
    have hsame : (es.modify i fun e => { e with key := Q.ke k }) = es.modify i fun e => { e with key := Q.ke k, val := v } := by
      apply Array.ext
      · simp
      · intro j h1 h2
        simp only [Array.getElem_modify]
        split
        · rename_i e; subst e
          have hlt : i < es.size := by simpa using h1
          have : es[i]? = some es[i] := Array.getElem?_eq_getElem hlt
          rw [hes] at this
          simp only [Option.some.injEq] at this
          rw [← this]; simp [ent, hti.2]
        · rfl
    dsimp only
    rw [hsame, hes]
    refine hk _ _ _ ⟨_, hset, fun x => by rw [lk_set hfi]; simp [fset, hf]⟩ ?_
    refine ⟨{ (ent Q.ke t[i]) with key := Q.ke k, val := v }, ?_, rfl, rfl⟩
    rw [Array.toList_modify]
    refine List.mem_of_getElem? (i := i) ?_
    simp [hes]

theorem entryStore_of {k : κ} {s : Int} {v : Value} {K : Value → Heap → Prop} (hm : h[m]? = some (.map es c)) (hi : IMap Q es c f) (hs : Stamp Q es s k)
    (hk : ∀ es', IMap Q es' c (fset f k v) → K undef (upd h m (.map es' c))) : pEntryStore (.map (some m)) (.int .i64 s) v h K := by
  obtain ⟨t, ht, hf⟩ := hi
  obtain ⟨e, he, hek, hes⟩ := hs
  rw [ht.ents] at he
  obtain ⟨x, hx, rfl⟩ := List.mem_map.1 he
  simp only [ent] at hek hes
  have hxk : x.1 = k := Q.inj _ _ hek
  simp only [pEntryStore, hm]
  -- the place of the stamp
  have key : ∀ (t : List (Ent κ)), (t.map (·.1)).Nodup → (t.map (·.2.2)).Nodup → x ∈ t → ∃ i, (t.map (ent Q.ke)).findIdx? (fun e => (e.born : Int) == s) = some i ∧ ∀ j, fi k t j = some (i + j, x.2.1) := by
    intro t
    induction t with
    | nil => intro _ _ hx; cases hx
    | cons y t ih =>
      intro hk hb hx
      simp only [List.map_cons, List.nodup_cons] at hk hb
      by_cases hy : y = x
      · subst hy
        refine ⟨0, ?_, fun j => by simp [fi, hxk]⟩
        simp [List.findIdx?_cons, ent, hes]
      · have hx' : x ∈ t := by
          rcases List.mem_cons.1 hx with h | h
          · exact (hy h.symm).elim
          · exact h
        obtain ⟨i, h1, h2⟩ := ih hk.2 hb.2 hx'
        have hyb : ¬ ((y.2.2 : Int) = s) := by
          rw [← hes]; intro e
          have : y.2.2 = x.2.2 := by exact_mod_cast e
          exact hb.1 (this ▸ List.mem_map_of_mem hx')
        have hyk : y.1 ≠ k := fun e => hk.1 (by rw [e, ← hxk]; exact List.mem_map_of_mem hx')
        refine ⟨i + 1, ?_, fun j => ?_⟩
        · rw [List.map_cons, List.findIdx?_cons]
          simp only [ent, beq_iff_eq, hyb, if_false]
          rw [show (fun (e : MapEntry) => (e.born : Int) == s) = fun e => (e.born : Int) == s from rfl, h1]; rfl
        · simp only [fi, if_neg hyk]
          rw [h2 (j + 1)]; congr 2; omega
  obtain ⟨i, h1, h2⟩ := key t ht.keys ht.borns hx
  have hidx : es.findIdx? (fun e => (e.born : Int) == s) = some i := by
    have e : es = (t.map (ent Q.ke)).toArray := Array.ext' ht.ents
    rw [e, List.findIdx?_toArray]; exact h1
  rw [hidx]
  have hfi : fi k t 0 = some (i, x.2.1) := by simpa using h2 0
  have hset := ht.set (v := v) hfi
  have hsame : (es.modify i fun e => { e with val := v }) = es.modify i fun e => { e with key := Q.ke k, val := v } := by
    obtain ⟨_, y0, hy0, hy1, _⟩ := fi_at hfi
    rw [Nat.sub_zero] at hy0
    have he : es[i]? = some (ent Q.ke y0) := by
      rw [← Array.getElem?_toList, ht.ents, List.getElem?_map, hy0]; rfl
    apply Array.ext
    · simp
    · intro j h1 h2
      simp only [Array.getElem_modify]
      split
      · rename_i e2; subst e2
        have hlt : i < es.size := by simpa using h1
        have h3 : es[i]? = some es[i] := Array.getElem?_eq_getElem hlt
        rw [he] at h3
        simp only [Option.some.injEq] at h3
        rw [← h3]
        simp [ent, hy1]
      · rfl
  dsimp only
  rw [hsame]
  exact hk _ ⟨_, hset, fun x => by rw [lk_set hfi]; simp [fset, hf]⟩

theorem delete_of {k : κ} {K : Value → Heap → Prop} (hm : h[m]? = some (.map es c)) (hi : IMap Q es c f)
    (hk : ∀ es', IMap Q es' c (fdel f k) → K (.tuple #[]) (upd h m (.map es' c))) : pDelete Q.kd (.map (some m)) (Q.ke k) h K := by
  obtain ⟨t, ht, hf⟩ := hi
  simp only [pDelete, hm, ht.ents, Q.find]
  cases hfi : fi k t 0 with
  | none =>
    refine hk es ⟨t, ht, fun x => ?_⟩
    unfold fdel
    split
    · rename_i e; subst e; exact (lk_none (fi_none hfi)).symm
    · exact hf x
  | some p =>
    obtain ⟨i, v⟩ := p
    obtain ⟨_, hlt, her⟩ := fi_erase ht.keys hfi
    rw [Nat.sub_zero] at hlt her
    have hsz : i < es.size := by
      have := congrArg List.length ht.ents; simp at this; omega
    have hes : (es.eraseIdxIfInBounds i).toList = (t.filter fun x => x.1 ≠ k).map (ent Q.ke) := by
      unfold Array.eraseIdxIfInBounds
      rw [dif_pos hsz, Array.toList_eraseIdx, ht.ents, ← her, map_eraseIdx]
    refine hk _ ⟨t.filter fun x => x.1 ≠ k, ⟨hes, ?_, ?_, ?_⟩, fun x => ?_⟩
    · exact (List.filter_sublist.map _).nodup ht.keys
    · exact (List.filter_sublist.map _).nodup ht.borns
    · intro x hx; exact ht.old x (List.mem_filter.1 hx).1
    · rw [lk_filter]; unfold fdel; split
      · rfl
      · exact hf x

end
end Go.Mh.KM

/-! Maps by any keys, as parts of memory. -/
namespace Go.Mh
open Go

def kmapR {κ : Type} [DecidableEq κ] (Q : KM.KE κ) (m : Nat) (f : κ → Option Value) : Res := ⟨fun b => b = m, fun h => ∃ es c, h[m]? = some (.map es c) ∧ KM.IMap Q es c f, fun hs ⟨es, c, a, b⟩ => ⟨es, c, (hs m rfl).trans a, b⟩⟩

section
variable {κ : Type} [DecidableEq κ] {Q : KM.KE κ} {h0 h : Heap} {L : List Res} {m : Nat} {f : κ → Option Value} {K : Value → Prop} {KH : Value → Heap → Prop} {k : κ} {z v : Value} {ok : Bool}

theorem Own.kmk (Q : KM.KE κ) (o : Own h0 h L) (hK : ∀ m h', Own h0 h' (kmapR Q m (fun _ => none) :: L) → KH (.map (some m)) h') : pMakeMap h KH :=
  hK h.size _ (o.new (r := kmapR Q h.size _) ⟨#[], 0, push_new, .empty⟩ fun b hb => hb)

theorem Own.klook (o : Own h0 h L) (i : Nat) (hi : L[i]? = some (kmapR Q m f)) (hk : K (if ok then .tuple #[(f k).getD z, .bool (f k).isSome] else (f k).getD z)) : pLook Q.kd z ok h (.map (some m)) (Q.ke k) K := by
  obtain ⟨es, c, hm, him⟩ := o.get i hi
  exact KM.look_of hm him hk

theorem Own.kput {f' : κ → Option Value} (o : Own h0 h L) (i : Nat) (hi : L[i]? = some (kmapR Q m f)) (hf : ∀ x, f' x = KM.fset f k v x) (hK : ∀ h', Own h0 h' (L.set i (kmapR Q m f')) → KH undef h') : pMapSet Q.kd (.map (some m)) (Q.ke k) v h KH := by
  obtain ⟨es, c, hm, him⟩ := o.get i hi
  have hlt := get_lt hm
  refine KM.mapSet_of hm him fun es' c' him' => hK _ (o.set i hi (Upd.upd _ _ rfl) ⟨es', c', upd_self hlt, him'.congr fun x => (hf x).symm ▸ rfl⟩ fun b hb => ⟨.inl hb, ?_⟩)
  rw [upd_size]; exact (show b = m from hb) ▸ hlt

theorem Own.kentry (o : Own h0 h L) (i : Nat) (hi : L[i]? = some (kmapR Q m f))
    (hK : ∀ h' s, Own h0 h' (L.set i (kmapR Q m (KM.fset f k ((f k).getD z)))) →
      (∀ (v : Value) (K' : Value → Heap → Prop), (∀ h'', Own h0 h'' (L.set i (kmapR Q m (KM.fset f k v))) → K' undef h'') → pEntryStore (.map (some m)) (.int .i64 s) v h' K') →
      KH (.tuple #[(f k).getD z, .int .i64 s]) h') : pMapEntry Q.kd z (.map (some m)) (Q.ke k) h KH := by
  obtain ⟨es, c, hm, him⟩ := o.get i hi
  have hlt := get_lt hm
  have hF : ∀ b, (kmapR Q m f).F b → ((kmapR Q m f).F b ∨ h.size ≤ b) := fun b hb => .inl hb
  refine KM.mapEntry_of hm him fun es' c' s him' hst => ?_
  have o1 : Own h0 (upd h m (.map es' c')) (L.set i (kmapR Q m (KM.fset f k ((f k).getD z)))) :=
    o.set i hi (Upd.upd _ _ rfl) ⟨es', c', upd_self hlt, him'⟩ fun b hb => ⟨.inl hb, by rw [upd_size]; exact (show b = m from hb) ▸ hlt⟩
  refine hK _ s o1 fun v K' hK' => ?_
  have hm' : (upd h m (.map es' c'))[m]? = some (.map es' c') := upd_self hlt
  have hlt' := get_lt hm'
  refine KM.entryStore_of hm' him' hst fun es'' him'' => hK' _ ?_
  have o2 := o1.set i (set_get hi) (r' := kmapR Q m (KM.fset f k v)) (Upd.upd _ (.map es'' c') rfl) ⟨es'', c', upd_self hlt', ?_⟩ fun b hb => ⟨.inl hb, by rw [upd_size]; exact (show b = m from hb) ▸ hlt'⟩
  · rw [List.set_set] at o2; exact o2
  · rw [KM.fset_same] at him''; exact him''

theorem Own.kdel {f' : κ → Option Value} (o : Own h0 h L) (i : Nat) (hi : L[i]? = some (kmapR Q m f)) (hf : ∀ x, f' x = KM.fdel f k x) (hK : ∀ h', Own h0 h' (L.set i (kmapR Q m f')) → KH (.tuple #[]) h') : pDelete Q.kd (.map (some m)) (Q.ke k) h KH := by
  obtain ⟨es, c, hm, him⟩ := o.get i hi
  have hlt := get_lt hm
  refine KM.delete_of hm him fun es' him' => hK _ (o.set i hi (Upd.upd _ _ rfl) ⟨es', c, upd_self hlt, him'.congr fun x => (hf x).symm ▸ rfl⟩ fun b hb => ⟨.inl hb, ?_⟩)
  rw [upd_size]; exact (show b = m from hb) ▸ hlt

end

section
variable {h0 h : Heap} {L : List Res} {m : Nat} {f : Int → Option Value} {KH : Value → Heap → Prop} {k : Int} {z v : Value}

/-- m[k] = v, by an entry. -/
theorem Own.mapAsg {f' : Int → Option Value} (o : Own h0 h L) (i : Nat) (hi : L[i]? = some (mapR m f)) (hf : ∀ x, f' x = fset f k v x) (hK : ∀ h', Own h0 h' (L.set i (mapR m f')) → KH undef h') :
    pMapEntry (.int .i64) z (.map (some m)) (I k) h fun t h1 => pExt t 1 fun s => pEntryStore (.map (some m)) s v h1 KH := by
  obtain ⟨es, c, hm, him⟩ := o.get i hi
  have hlt := get_lt hm
  refine mapEntry_of hm him fun es' c' s him' hst => ?_
  rw [pExt_tuple]
  show pEntryStore (.map (some m)) (.int .i64 s) v (Mh.upd h m (.map es' c')) KH
  have o1 : Own h0 (Mh.upd h m (.map es' c')) (L.set i (mapR m (fset f k ((f k).getD z)))) :=
    o.set i hi (Upd.upd _ _ rfl) ⟨es', c', upd_self hlt, him'⟩ fun b hb => ⟨.inl hb, by rw [upd_size]; exact (show b = m from hb) ▸ hlt⟩
  have hm' : (Mh.upd h m (.map es' c'))[m]? = some (.map es' c') := upd_self hlt
  have hlt' := get_lt hm'
  refine entryStore_of hm' him' hst fun es'' him'' => hK _ ?_
  have o2 := o1.set i (set_get hi) (r' := mapR m f') (Upd.upd _ (.map es'' c') rfl) ⟨es'', c', upd_self hlt', him''.congr fun x => ?_⟩ fun b hb => ⟨.inl hb, by rw [upd_size]; exact (show b = m from hb) ▸ hlt'⟩
  · rw [List.set_set] at o2; exact o2
  · rw [hf]; unfold fset; split <;> rfl

end

abbrev Key3 := Int × Int × Int
def ke3 (k : Key3) : Value := .agg #[.int .i64 k.1, .int .i64 k.2.1, .int .i64 k.2.2]

theorem findA_fi (k : Key3) : ∀ (t : List (KM.Ent Key3)) (j : Nat), findA k (t.map (KM.ent ke3)) j = some (KM.fi k t j)
  | [], j => rfl
  | x :: t, j => by
    have : key3 (KM.ent ke3 x).key = some x.1 := rfl
    simp only [List.map_cons, findA, this, KM.fi]
    by_cases e : k = x.1
    · rw [if_pos e, if_pos e.symm]; rfl
    · rw [if_neg e, if_neg (fun h => e h.symm)]; exact findA_fi k t (j + 1)

/-- Arrays of three numbers as keys. -/
def Q3 (n : Nat) (e : TypeId) : KM.KE Key3 where
  ke := ke3
  kd := .array n e
  inj := fun a b h => by
    obtain ⟨a1, a2, a3⟩ := a
    obtain ⟨b1, b2, b3⟩ := b
    simp [ke3] at h
    obtain ⟨rfl, rfl, rfl⟩ := h
    rfl
  find := fun k t => findA_fi k t 0

end Go.Mh

namespace Go.Mh
open Go

section
variable {P : Program} {h0 h h' : Heap} {L : List Res} {i b off n : Nat}

/-- Two rows of parts exchanged. -/
theorem Own.comm : ∀ {L L' : List Res}, Own h0 h (L ++ L') → Own h0 h (L' ++ L)
  | [], L', o => by rw [List.append_nil]; exact o
  | r :: L, L', o => by
    have o1 : Own h0 h ((L ++ L') ++ [r]) := Own.rot o
    rw [List.append_assoc] at o1
    have o2 := Own.comm o1
    rw [List.append_assoc] at o2
    exact o2

/-- As IterG; it has parts of memory of its own, Pr0, which it may turn. -/
def IterP (P : Program) (fv : Value) {σ : Type} (Q : σ → Heap → Prop) (Pr0 : List Res) (s0 : σ) (next : σ → List Value → σ → Prop) (stop : σ → Prop) : Prop :=
  ∀ (yv : Value) (h0 h : Heap) (Rs : List Res) (K : Value → Heap → Prop) (J : σ → List Res → Prop) (E : List Res → Prop), (∃ l, yv = yieldV l) →
    Own h0 h (Rs ++ Pr0) → J s0 Rs → (∀ s Rs' h', J s Rs' → Own h0 h' Rs' → Q s h') →
    (∀ s x s' Rs' Pr h' R, next s x s' → J s Rs' → Own h0 h' (Rs' ++ Pr) → (∀ Rs'' h'', J s' Rs'' → Own h0 h'' (Rs'' ++ Pr) → R (.bool true) h'') →
      (∀ Rs'' h'', E Rs'' → Own h0 h'' (Rs'' ++ Pr) → R (.bool false) h'') → callV P yv x.toArray h' R) →
    (∀ Rs' h', ((∃ s, stop s ∧ J s Rs') ∨ E Rs') → Own h0 h' Rs' → K (.tuple #[]) h') → callF P fv #[yv] h K

theorem IterG.toP {fv : Value} {Q : Heap → Prop} {σ : Type} {s0 : σ} {next : σ → List Value → σ → Prop} {stop : σ → Prop} (H : IterG P fv Q s0 next stop) : IterP P fv (fun _ => Q) [] s0 next stop :=
  fun yv h0 h Rs K J E hy o j0 hQ hY hK => H yv h0 h Rs K J E hy o.toNil j0 hQ hY hK

theorem Own.rangeP {fv : Value} {Pr0 : List Res} {σ : Type} {Q : σ → Heap → Prop} {s0 : σ} {next : σ → List Value → σ → Prop} {stop : σ → Prop} {ps : List Nat} {B : Loop → Vals ps → Heap → (Exit → Heap → Prop) → Prop} {Kn Kr : Heap → Prop} {Ks : List (Nat × (Heap → Prop))}
    (o : Own h0 h (L ++ Pr0)) (hI : IterP P fv Q Pr0 s0 next stop) (hf : ∀ s x s', next s x s' → x.length = ps.length) (J : σ → List Res → Prop) (Er : List Res → Prop) (Ex : Nat → List Res → Prop)
    (j0 : J s0 L) (hQ : ∀ s Rs' h', J s Rs' → Own h0 h' Rs' → Q s h')
    (step : ∀ M s x s' Rs' Pr h' (R : Exit → Heap → Prop), next s x s' → J s Rs' → Own h0 h' (loopR (h.size + 1) (lo M .ready none) :: markR h.size :: (Rs' ++ Pr)) →
      (∀ Rs'' h'', J s' Rs'' → Own h0 h'' (loopR (h.size + 1) (lo M .busy none) :: markR h.size :: (Rs'' ++ Pr)) → R .normal h'') →
      (∀ Rs'' h'', Er Rs'' → Own h0 h'' (loopR (h.size + 1) (lo M .busy none) :: markR h.size :: (Rs'' ++ Pr)) → R .ret h'') →
      (∀ id Rs'' h'', Ex id Rs'' → Own h0 h'' (loopR (h.size + 1) (lo M .busy none) :: markR h.size :: (Rs'' ++ Pr)) → R (.exit id) h'') → B M (valsOf ps x) h' R)
    (fin : ∀ s h' Rs', stop s → J s Rs' → Own h0 h' (markR h.size :: Rs') → Kn h') (finr : ∀ h' Rs', Er Rs' → Own h0 h' (markR h.size :: Rs') → Kr h')
    (finx : ∀ id h' Rs', Ex id Rs' → Own h0 h' (markR h.size :: Rs') → lookK Ks id h') :
    rangeH P fv ps (h.size + 1) (h.push (.deferred (some []))) B Kn Kr Ks := by
  intro M hy
  have e1 : (h.push (.deferred (some []))).size = h.size + 1 := push_size
  have o1 : Own h0 (h.push (.deferred (some []))) (markR h.size :: (L ++ Pr0)) := o.new (r := markR h.size) push_new fun b hb => hb
  have o2 : Own h0 ((h.push (.deferred (some []))).push (lo M .ready none)) (loopR (h.size + 1) (lo M .ready none) :: markR h.size :: (L ++ Pr0)) :=
    o1.new (r := loopR (h.size + 1) (lo M .ready none)) (by show (Array.push _ _)[h.size + 1]? = _; rw [← e1, push_new]) fun b hb => hb.trans e1.symm
  refine hI (yieldV (h.size + 1)) h0 _ _ _ (fun s Rs => ∃ Rs1, Rs = loopR (h.size + 1) (lo M .ready none) :: markR h.size :: Rs1 ∧ J s Rs1)
    (fun Rs => ∃ p Rs1, Rs = loopR (h.size + 1) (lo M .done (some p)) :: markR h.size :: Rs1 ∧ ((p = .ret ∧ Er Rs1) ∨ ∃ id, p = .exit id ∧ Ex id Rs1)) ⟨_, rfl⟩ o2 ⟨L, rfl, j0⟩
    (fun s Rs' h' ⟨Rs1, e, hj⟩ o' => hQ s Rs1 h' hj (by subst e; exact o'.tail.tail)) ?_ ?_
  · rintro s x s' _ Pr h' R hn ⟨Rs1, rfl, hj⟩ o' hT hF
    have hb : h'[h.size + 1]? = some (lo M .ready none) := o'.get 0 rfl
    have := hy (valsOf ps x) h' R .ready none hb
    rw [listV_valsOf (hf _ _ _ hn)] at this
    refine this (step M s x s' Rs1 Pr h' _ hn hj o' ?_ ?_ ?_)
    · intro Rs'' h'' hj' o''
      have hb' : h''[h.size + 1]? = some (lo M .busy none) := o''.get 0 rfl
      have hlt := get_lt hb'
      refine ⟨none, hb', hT (loopR (h.size + 1) (lo M .ready none) :: markR h.size :: Rs'') _ ⟨Rs'', rfl, hj'⟩ ?_⟩
      refine o''.set 0 (r' := loopR (h.size + 1) (lo M .ready none)) rfl (Upd.upd (S := (loopR (h.size + 1) (lo M .busy none)).F) h'' _ rfl) (upd_self hlt) fun c hc => ⟨.inl hc, ?_⟩
      rw [setIf_upd, upd_size]; exact (show c = h.size + 1 from hc) ▸ hlt
    · intro Rs'' h'' hj' o''
      have hb' : h''[h.size + 1]? = some (lo M .busy none) := o''.get 0 rfl
      have hlt := get_lt hb'
      refine ⟨none, hb', hF (loopR (h.size + 1) (lo M .done (some .ret)) :: markR h.size :: Rs'') _ ⟨.ret, Rs'', rfl, .inl ⟨rfl, hj'⟩⟩ ?_⟩
      refine o''.set 0 (r' := loopR (h.size + 1) (lo M .done (some .ret))) rfl (Upd.upd (S := (loopR (h.size + 1) (lo M .busy none)).F) h'' _ rfl) (upd_self hlt) fun c hc => ⟨.inl hc, ?_⟩
      rw [setIf_upd, upd_size]; exact (show c = h.size + 1 from hc) ▸ hlt
    · intro id Rs'' h'' hj' o''
      have hb' : h''[h.size + 1]? = some (lo M .busy none) := o''.get 0 rfl
      have hlt := get_lt hb'
      refine ⟨none, hb', hF (loopR (h.size + 1) (lo M .done (some (.exit id))) :: markR h.size :: Rs'') _ ⟨.exit id, Rs'', rfl, .inr ⟨id, rfl, hj'⟩⟩ ?_⟩
      refine o''.set 0 (r' := loopR (h.size + 1) (lo M .done (some (.exit id)))) rfl (Upd.upd (S := (loopR (h.size + 1) (lo M .busy none)).F) h'' _ rfl) (upd_self hlt) fun c hc => ⟨.inl hc, ?_⟩
      rw [setIf_upd, upd_size]; exact (show c = h.size + 1 from hc) ▸ hlt
  · have close : ∀ {Rs1 : List Res} {h' : Heap} {st : LoopState} {p : Option Code}, Own h0 h' (loopR (h.size + 1) (lo M st p) :: markR h.size :: Rs1) → Own h0 (upd h' (h.size + 1) (lo M .exhausted p)) (markR h.size :: Rs1) := by
      intro Rs1 h' st p o'
      have hb' : h'[h.size + 1]? = some (lo M st p) := o'.get 0 rfl
      have hlt := get_lt hb'
      exact (o'.set 0 (r' := nilR) rfl (Upd.upd (S := (loopR (h.size + 1) (lo M st p)).F) h' (lo M .exhausted p) rfl) trivial fun c hc => hc.elim).tail
    rintro Rs' h' (⟨s, hs, Rs1, rfl, hj⟩ | ⟨p, Rs1, rfl, hp⟩) o'
    · exact ⟨.ready, none, by decide, o'.get 0 rfl, fin _ _ _ hs hj (close o')⟩
    · refine ⟨.done, some p, by decide, o'.get 0 rfl, ?_⟩
      rcases hp with ⟨rfl, he⟩ | ⟨id, rfl, he⟩
      · exact finr _ _ he (close o')
      · exact finx _ _ _ he (close o')

end
end Go.Mh

/-! Parts of memory of a disk: parts in parts, cells that stay, maps by strings, ranges over maps, bytes. -/
namespace Go.Mh
open Go

/-! ### Strings -/

theorem toList_eq (a : ByteArray) : a.toList = a.data.toList := by
  unfold ByteArray.toList
  have hsz : a.data.toList.length = a.size := Array.length_toList
  have key : ∀ (n i : Nat) (r : List UInt8), a.size - i = n → ByteArray.toList.loop a i r = r.reverse ++ a.data.toList.drop i := by
    intro n
    induction n with
    | zero =>
      intro i r h
      unfold ByteArray.toList.loop
      rw [if_neg (by omega), List.drop_eq_nil_of_le (by omega), List.append_nil]
    | succ n ih =>
      intro i r h
      unfold ByteArray.toList.loop
      have hi : i < a.size := by omega
      rw [if_pos hi, ih (i + 1) _ (by omega)]
      have hi' : i < a.data.toList.length := by omega
      rw [List.drop_eq_getElem_cons hi', List.reverse_cons, List.append_assoc]
      congr 1
      have hd : i < a.data.size := by rw [← Array.length_toList]; exact hi'
      simp [ByteArray.get!, getElem!_pos a.data i hd]
  simpa using key a.size 0 [] (by simp)

theorem toList_inj {a b : ByteArray} : a.toList = b.toList ↔ a = b := by
  rw [toList_eq, toList_eq]
  constructor
  · intro h; cases a; cases b; simp at h; simpa using h
  · rintro rfl; rfl

section
variable {K : Value → Prop} {a b : ByteArray}
theorem pBin_eqlS : pBin .eql (.string a) (.string b) K ↔ K (.bool (decide (a = b))) := by
  have : (a.toList == b.toList) = decide (a = b) := by
    by_cases h : a = b
    · subst h; simp
    · rw [decide_eq_false h]; simpa [toList_inj] using h
  simp only [pBin, this]
theorem pBin_neqS : pBin .neq (.string a) (.string b) K ↔ K (.bool (!decide (a = b))) := by
  have : (a.toList == b.toList) = decide (a = b) := by
    by_cases h : a = b
    · subst h; simp
    · rw [decide_eq_false h]; simpa [toList_inj] using h
  simp only [pBin, this]
theorem pBin_addS (h : a.size + b.size ≤ 9223372036854775807) (hK : K (.string (a ++ b))) : pBin .add (.string a) (.string b) K := ⟨h, hK⟩
end

def ltS (a b : ByteArray) : Bool := Op.bytesLess a.data.toList b.data.toList
theorem pBin_lssS {K : Value → Prop} {a b : ByteArray} : pBin .lss (.string a) (.string b) K ↔ K (.bool (ltS a b)) := by
  simp only [pBin, ltS, toList_eq]

/-! ### Maps by strings -/

theorem beqB (a b : ByteArray) : (a == b) = decide (a = b) := by
  have : (a == b) = (a.data == b.data) := by cases a; cases b; rfl
  rw [this]
  by_cases h : a = b
  · subst h; simp
  · rw [decide_eq_false h, beq_eq_false_iff_ne]
    intro e; apply h; cases a; cases b; simpa using e

def encS (s : ByteArray) : List Value := [.string s]

def QS : KM.KE ByteArray where
  ke := .string
  kd := .string
  inj := fun a b h => by injection h
  find := fun k t => by
    have : ∀ (t : List (KM.Ent ByteArray)) (j : Nat), Instr.findNow .string (.string k) (t.map (KM.ent .string)) j = some (KM.fi k t j) := by
      intro t
      induction t with
      | nil => intro j; rfl
      | cons x t ih =>
        intro j
        simp only [List.map_cons, Instr.findNow, KM.fi, KM.ent, Instr.sameNow]
        by_cases e : x.1 = k
        · rw [if_pos e, e, beqB, decide_eq_true rfl]
        · rw [if_neg e, beqB, decide_eq_false (fun h : k = x.1 => e h.symm)]
          exact ih (j + 1)
    exact this t 0

def QI : KM.KE Int where
  ke := fun z => I z
  kd := .int .i64
  inj := fun a b h => by injection h
  find := fun k t => by
    have : ∀ (t : List (KM.Ent Int)) (j : Nat), Instr.findNow (.int .i64) (I k) (t.map (KM.ent fun z => I z)) j = some (KM.fi k t j) := by
      intro t
      induction t with
      | nil => intro j; rfl
      | cons x t ih =>
        intro j
        simp only [List.map_cons, Instr.findNow, KM.fi, KM.ent, Instr.sameNow, if_true]
        by_cases e : x.1 = k
        · rw [if_pos e, e, beq_self_eq_true]
        · rw [if_neg e, beq_eq_false_iff_ne.2 (fun h : k = x.1 => e h.symm)]
          exact ih (j + 1)
    exact this t 0

/-! ### Parts in a part -/

def sepR (l : List Res) : Res := ⟨fun b => ∃ r ∈ l, r.F b, fun h => (∀ r ∈ l, r.Q h) ∧ ∀ {i j : Nat} {r s : Res}, l[i]? = some r → l[j]? = some s → i ≠ j → ∀ b, r.F b → ¬ s.F b,
  fun hs hq => ⟨fun r hr => r.st (fun b hb => hs b ⟨r, hr, hb⟩) (hq.1 r hr), hq.2⟩⟩

section
variable {h0 h h' : Heap} {L l : List Res} {i j : Nat} {r : Res}

theorem Own.out (o : Own h0 h L) (i : Nat) (hi : L[i]? = some (sepR l)) : Own h0 h (l ++ L.set i nilR) := by
  have hlt : i < L.length := (List.getElem?_eq_some_iff.1 hi).1
  have key : ∀ {j s}, (l ++ L.set i nilR)[j]? = some s → (j < l.length ∧ l[j]? = some s) ∨ (l.length ≤ j ∧ ((j - l.length = i ∧ s = nilR) ∨ (j - l.length ≠ i ∧ L[j - l.length]? = some s))) := by
    intro j s hs
    by_cases h1 : j < l.length
    · rw [List.getElem?_append_left h1] at hs; exact .inl ⟨h1, hs⟩
    · rw [List.getElem?_append_right (by omega)] at hs
      refine .inr ⟨by omega, ?_⟩
      by_cases e : j - l.length = i
      · rw [e, List.getElem?_set_self hlt] at hs
        exact .inl ⟨e, (Option.some.inj hs).symm⟩
      · rw [List.getElem?_set_ne (fun e' => e e'.symm)] at hs
        exact .inr ⟨e, hs⟩
  have q := o.q hi
  refine ⟨o.ext, fun {k s} hs => ?_, fun {a c s t} hs ht hne b hb hb' => ?_⟩
  · rcases key hs with ⟨_, hs⟩ | ⟨_, ⟨_, rfl⟩ | ⟨_, hs⟩⟩
    · have hm := List.mem_of_getElem? hs
      exact ⟨q.1.1 s hm, fun b hb => q.2 b ⟨s, hm, hb⟩⟩
    · exact ⟨trivial, fun b hb => hb.elim⟩
    · exact o.q hs
  · rcases key hs with ⟨h1, hs⟩ | ⟨h1, ⟨_, rfl⟩ | ⟨e1, hs⟩⟩ <;> rcases key ht with ⟨h2, ht⟩ | ⟨h2, ⟨_, rfl⟩ | ⟨e2, ht⟩⟩
    · exact q.1.2 hs ht hne b hb hb'
    · exact hb'
    · exact o.ap hi ht (fun e => e2 e.symm) b ⟨s, List.mem_of_getElem? hs, hb⟩ hb'
    · exact hb
    · exact hb
    · exact hb
    · exact o.ap hi hs (fun e => e1 e.symm) b ⟨t, List.mem_of_getElem? ht, hb'⟩ hb
    · exact hb'
    · exact o.ap hs ht (by omega) b hb hb'

theorem Own.back (o : Own h0 h (l ++ L)) (i : Nat) (hi : L[i]? = some nilR) : Own h0 h (L.set i (sepR l)) := by
  have hlt : i < L.length := (List.getElem?_eq_some_iff.1 hi).1
  have kl : ∀ {j s}, l[j]? = some s → (l ++ L)[j]? = some s := fun {j s} hj => by
    rw [List.getElem?_append_left (List.getElem?_eq_some_iff.1 hj).1]; exact hj
  have kr : ∀ {j s}, L[j]? = some s → (l ++ L)[l.length + j]? = some s := fun {j s} hj => by
    rw [List.getElem?_append_right (by omega), show l.length + j - l.length = j by omega]; exact hj
  have key : ∀ {j s}, (L.set i (sepR l))[j]? = some s → (j = i ∧ s = sepR l) ∨ (j ≠ i ∧ L[j]? = some s) := by
    intro j s hs
    by_cases e : j = i
    · subst e
      rw [List.getElem?_set_self hlt] at hs
      exact .inl ⟨rfl, (Option.some.inj hs).symm⟩
    · rw [List.getElem?_set_ne (fun e' => e e'.symm)] at hs
      exact .inr ⟨e, hs⟩
  refine ⟨o.ext, fun {k s} hs => ?_, fun {a c s t} hs ht hne b hb hb' => ?_⟩
  · rcases key hs with ⟨_, rfl⟩ | ⟨_, hs⟩
    · refine ⟨⟨fun r hr => ?_, fun hi hj hne => o.ap (kl hi) (kl hj) hne⟩, fun b ⟨r, hr, hb⟩ => ?_⟩
      · obtain ⟨k, hk⟩ := List.getElem?_of_mem hr
        exact (o.q (kl hk)).1
      · obtain ⟨k, hk⟩ := List.getElem?_of_mem hr
        exact (o.q (kl hk)).2 b hb
    · exact o.q (kr hs)
  · rcases key hs with ⟨e1, rfl⟩ | ⟨e1, hs⟩ <;> rcases key ht with ⟨e2, rfl⟩ | ⟨e2, ht⟩
    · exact hne (e1.trans e2.symm)
    · obtain ⟨r, hr, hb⟩ := hb
      obtain ⟨k, hk⟩ := List.getElem?_of_mem hr
      have := (List.getElem?_eq_some_iff.1 hk).1
      exact o.ap (kl hk) (kr ht) (by omega) b hb hb'
    · obtain ⟨r, hr, hb'⟩ := hb'
      obtain ⟨k, hk⟩ := List.getElem?_of_mem hr
      have := (List.getElem?_eq_some_iff.1 hk).1
      exact o.ap (kl hk) (kr hs) (by omega) b hb' hb
    · exact o.ap (kr hs) (kr ht) (by omega) b hb hb'

/-- Some parts at the front packed. -/
theorem Own.sep (o : Own h0 h (l ++ L)) : Own h0 h (sepR l :: L) := by
  have o1 : Own h0 h ((l ++ L) ++ [nilR]) := Own.rot (o.cons (r := nilR) (.refl _ _) trivial fun b hb => hb.elim)
  have o2 : Own h0 h (l ++ (L ++ [nilR])) := by rwa [← List.append_assoc]
  have o3 := o2.back L.length (by rw [List.getElem?_append_right (Nat.le_refl _), Nat.sub_self]; rfl)
  rw [List.set_append_right _ _ (Nat.le_refl _), Nat.sub_self] at o3
  exact Own.comm o3

theorem Own.unsep (o : Own h0 h (sepR l :: L)) : Own h0 h (l ++ L) := by
  have o1 := o.out 0 rfl
  have o2 : Own h0 h ((l ++ [nilR]) ++ L) := by rw [List.append_assoc]; exact o1
  have o3 := Own.comm o2
  have o4 : Own h0 h ((L ++ l) ++ [nilR]) := by rw [List.append_assoc]; exact o3
  exact Own.comm o4.left

end

/-! ### Cells that stay -/

def roR (B : List (Nat × List Value × TypeId)) : Res := ⟨fun c => ∃ x ∈ B, x.1 = c, fun h => ∀ x ∈ B, h[x.1]? = some (.cells x.2.1.toArray x.2.2 (0, 0)), fun hs hq x hx => (hs x.1 ⟨x, hx, rfl⟩).trans (hq x hx)⟩

section
variable {h0 h h' : Heap} {L l : List Res} {i j b off n : Nat} {r : Res} {cs : List Value} {T : TypeId} {B : List (Nat × List Value × TypeId)} {v : Value} {K : Value → Prop} {KH : Value → Heap → Prop}

theorem Own.noRo (o : Own h0 h L) : Own h0 h (roR [] :: L) := o.cons (.refl _ _) (fun _ h => by cases h) fun _ ⟨_, h, _⟩ => by cases h

theorem Own.ro (o : Own h0 h (cellR b cs T :: L)) (j : Nat) (hj : L[j]? = some (roR B)) : Own h0 h (L.set j (roR ((b, cs, T) :: B))) := by
  have q0 := o.get 0 rfl
  have o1 : Own h0 h ([cellR b cs T, roR B] ++ L.set j nilR) := by
    have := (o.set (j + 1) (r' := sepR [roR B]) hj (.refl _ _) ⟨fun r hr => by simp at hr; subst hr; exact o.tail.get j hj, fun {a c r s} ha hc hne => by
      rw [List.getElem?_singleton] at ha hc; split at ha <;> split at hc <;> simp_all⟩ fun c hc => by
        obtain ⟨r, hr, hc⟩ := hc
        simp at hr; subst hr
        exact ⟨.inl hc, ((o.tail.q hj).2 c hc).2⟩)
    rw [List.set_cons_succ] at this
    have hlt : j < L.length := (List.getElem?_eq_some_iff.1 hj).1
    have o2 := this.out (j + 1) (l := [roR B]) (by simp [hlt])
    rw [List.set_cons_succ, List.set_set] at o2
    exact o2.swap
  have hlt : j < L.length := (List.getElem?_eq_some_iff.1 hj).1
  have o3 := o1.back j (List.getElem?_set_self hlt)
  rw [List.set_set] at o3
  have := o3.conv j (r' := roR ((b, cs, T) :: B)) (List.getElem?_set_self hlt) (fun x hx => ?_) fun c hc => ?_
  · rwa [List.set_set] at this
  · rcases List.mem_cons.1 hx with rfl | hx
    · exact q0
    · exact o.tail.get j hj x hx
  · obtain ⟨x, hx, rfl⟩ := hc
    rcases List.mem_cons.1 hx with rfl | hx
    · exact ⟨_, List.mem_cons_self, rfl⟩
    · exact ⟨_, List.mem_cons_of_mem _ List.mem_cons_self, x, hx, rfl⟩

theorem Own.roLoad (o : Own h0 h L) (i : Nat) (hi : L[i]? = some (roR B)) (hm : (b, cs, T) ∈ B) (hv : cs[off]? = some v) (hk : K v) : pLoad h (.pointer (some ⟨b, off, none⟩)) K := by
  have : hcell h ⟨b, off, none⟩ = some v := hcell_of (o.get i hi _ hm) (by simpa using hv)
  simp only [pLoad_ptr, this]; exact hk

end

/-! ### Ranges over maps -/

section
variable {κ : Type} [DecidableEq κ] {Q : KM.KE κ} {h0 h : Heap} {L : List Res} {m r clock : Nat} {es : Array MapEntry} {t s : List (KM.Ent κ)} {f : κ → Option Value} {K : Value → Prop} {KH : Value → Heap → Prop}

def itR (r m clock : Nat) (s : List (KM.Ent κ)) : Res := objR r (.mapIter (some m) clock (s.map (·.2.2)).toArray clock)

omit [DecidableEq κ] in
theorem Own.rangeM (o : Own h0 h L) (hm : h[m]? = some (.map es clock)) (hK : ∀ r h', Own h0 h' (itR r m clock ([] : List (KM.Ent κ)) :: L) → KH (ptr r) h') : pRangeM (.map (some m)) h KH := by
  simp only [pRangeM, hm]
  exact hK _ _ (o.new (r := itR h.size m clock []) push_new fun b hb => hb)

theorem born_eq (ht : KM.IMapL Q es clock t) {x y : KM.Ent κ} (hx : x ∈ t) (hy : y ∈ t) (e : x.2.2 = y.2.2) : x = y := by
  obtain ⟨i, hi, rfl⟩ := List.mem_iff_getElem.1 hx
  obtain ⟨j, hj, rfl⟩ := List.mem_iff_getElem.1 hy
  have := (List.getElem_inj (i := i) (j := j) (h₀ := by simpa using hi) (h₁ := by simpa using hj) ht.borns).1 (by simpa using e)
  subst this; rfl

theorem Own.nextM (o : Own h0 h L) (i : Nat) (hi : L[i]? = some (itR r m clock s)) (hm : h[m]? = some (.map es clock)) (ht : KM.IMapL Q es clock t) (hs : ∀ e ∈ s, e ∈ t)
    (hY : ∀ e ∈ t, e ∉ s → ∀ h', Own h0 h' (L.set i (itR r m clock (s ++ [e]))) → KH (.tuple #[.bool true, Q.ke e.1, e.2.1]) h') (hE : (∀ e ∈ t, e ∈ s) → KH (.tuple #[.bool false]) h) : pNextM (ptr r) h KH := by
  have hr : h[r]? = some (.mapIter (some m) clock (s.map (·.2.2)).toArray clock) := o.get i hi
  have mem : ∀ e : MapEntry, e ∈ es ↔ ∃ x ∈ t, KM.ent Q.ke x = e := fun e => by
    rw [← Array.mem_toList_iff, ht.ents, List.mem_map]
  have un : ∀ e : MapEntry, e ∈ unmet es (s.map (·.2.2)).toArray ↔ ∃ x ∈ t, x ∉ s ∧ KM.ent Q.ke x = e := fun e => by
    unfold unmet
    rw [Array.mem_filter, mem]
    constructor
    · rintro ⟨⟨x, hx, rfl⟩, hc⟩
      refine ⟨x, hx, fun hxs => ?_, rfl⟩
      simp only [KM.ent, List.contains_toArray, Bool.not_eq_true', List.contains_eq_mem, decide_eq_false_iff_not, List.mem_map, not_exists, not_and] at hc
      exact hc x hxs rfl
    · rintro ⟨x, hx, hxs, rfl⟩
      refine ⟨⟨x, hx, rfl⟩, ?_⟩
      simp only [KM.ent, List.contains_toArray, Bool.not_eq_true', List.contains_eq_mem, decide_eq_false_iff_not, List.mem_map, not_exists, not_and]
      intro y hy e
      exact hxs (born_eq ht (hs y hy) hx e ▸ hy)
  simp only [pNextM, ptr, hr, hm]
  refine ⟨?_, fun e he => ?_, fun hem => ?_⟩
  · rw [Bool.and_eq_false_iff]
    by_cases hes : es = #[]
    · left; subst hes; simp
    · right
      rw [Bool.eq_false_iff]
      intro hall
      rw [Array.all_eq_true'] at hall
      have hne : t ≠ [] := by
        rintro rfl
        apply hes
        have := ht.ents
        simpa using this
      obtain ⟨x, r', rfl⟩ := List.exists_cons_of_ne_nil hne
      have hh := hall (KM.ent Q.ke x) ((mem _).2 ⟨x, List.mem_cons_self, rfl⟩)
      have := ht.old x List.mem_cons_self
      have hh2 : clock ≤ x.2.2 := by simpa [KM.ent] using hh
      omega
  · obtain ⟨x, hx, hxs, rfl⟩ := (un e).1 he
    have hlt := get_lt hr
    have o' : Own h0 (upd h r (.mapIter (some m) clock ((s ++ [x]).map (·.2.2)).toArray clock)) (L.set i (itR r m clock (s ++ [x]))) :=
      o.set i hi (Upd.upd _ _ rfl) (upd_self hlt) fun b hb => ⟨.inl hb, by rw [upd_size]; exact (show b = r from hb) ▸ hlt⟩
    have q := hY x hx hxs _ o'
    have ea : (s.map (·.2.2)).toArray.push (KM.ent Q.ke x).born = ((s ++ [x]).map (·.2.2)).toArray := by simp [KM.ent]
    rw [ea]
    exact q
  · refine hE fun e he => ?_
    refine Classical.byContradiction fun hes => ?_
    have h1 := (un (KM.ent Q.ke e)).2 ⟨e, he, hes, rfl⟩
    have h2 : KM.ent Q.ke e ∈ (unmet es (s.map (·.2.2)).toArray).filter fun e => e.born < clock := by
      rw [Array.mem_filter]
      exact ⟨h1, decide_eq_true (ht.old e he)⟩
    rw [Array.isEmpty_iff] at hem
    rw [hem] at h2
    simp at h2

theorem Own.entryM {e : KM.Ent κ} (o : Own h0 h L) (i : Nat) (hi : L[i]? = some (itR r m clock (s ++ [e]))) (hm : h[m]? = some (.map es clock)) (ht : KM.IMapL Q es clock t) (he : e ∈ t) (hK : K (.tuple #[Q.ke e.1, e.2.1])) : pEntryM (ptr r) h K := by
  have hr : h[r]? = some (.mapIter (some m) clock ((s ++ [e]).map (·.2.2)).toArray clock) := o.get i hi
  have hb : ((s ++ [e]).map (·.2.2)).toArray.back? = some e.2.2 := by simp
  have hf : (es.find? fun x => x.born == e.2.2) = some (KM.ent Q.ke e) := by
    rw [← Array.find?_toList, ht.ents]
    have : ∀ (l : List (KM.Ent κ)), e ∈ l → (∀ x ∈ l, x ∈ t) → (l.map (KM.ent Q.ke)).find? (fun x => x.born == e.2.2) = some (KM.ent Q.ke e) := by
      intro l
      induction l with
      | nil => intro h; cases h
      | cons x l ih =>
        intro hm hl
        rw [List.map_cons, List.find?_cons]
        by_cases c : x.2.2 = e.2.2
        · have := born_eq ht (hl x List.mem_cons_self) he c
          subst this
          simp [KM.ent]
        · rw [show ((KM.ent Q.ke x).born == e.2.2) = false by simpa [KM.ent] using c]
          rcases List.mem_cons.1 hm with rfl | hm
          · exact absurd rfl c
          · exact ih hm fun y hy => hl y (List.mem_cons_of_mem _ hy)
    exact this t he fun _ h => h
  simp only [pEntryM, ptr, hr, hb, hm, hf]
  exact ⟨trivial, hK⟩

end

/-! ### Bytes -/

def encB8 (b : UInt8) : List Value := [.int .u8 b.toNat]
theorem encB8_plain (x : UInt8) : ∀ u ∈ encB8 x, plainCell u = true := by intro u hu; simp [encB8] at hu; subst hu; rfl
theorem row_B8 : ∀ l : List UInt8, row encB8 l = l.map fun b => Value.int .u8 b.toNat
  | [] => rfl
  | b :: l => by
    have := row_B8 l
    simp only [row, List.flatMap_cons, List.map_cons, encB8] at this ⊢
    rw [this]; rfl

theorem pushB_B8 : ∀ (l : List UInt8) (s : ByteArray), pushB (row encB8 l) s = some ⟨s.data ++ l.toArray⟩
  | [], s => by simp [row, pushB]
  | b :: l, s => by
    have := pushB_B8 l (s.push b)
    rw [row_B8] at this ⊢
    simp only [List.map_cons, pushB]
    rw [show UInt8.ofNat ((b.toNat : Int)).toNat = b by simp]
    rw [this]
    simp [ByteArray.push]

def bstr (l : List UInt8) : ByteArray := ⟨l.toArray⟩

theorem Vw.str {h : Heap} {v : Value} {l : List UInt8} {K : Value → Prop} (H : Vw encB8 1 h v l) (hK : K (.string (bstr l))) : pConvBS h v K := by
  obtain ⟨base, cap, rfl, hc⟩ := H.cells (enc := encB8) (n := 1) (fun _ => rfl)
  cases base with
  | none =>
    simp only [cellsOfSl] at hc
    have : l = [] := by
      cases l with
      | nil => rfl
      | cons a l => simp [row_B8] at hc
    subst this; exact hK
  | some a =>
    obtain ⟨b, o, sp⟩ := a
    cases sp with
    | some _ => simp [cellsOfSl] at hc
    | none =>
      simp only [cellsOfSl] at hc
      have e : pushB (row encB8 l) .empty = some (bstr l) := by
        rw [pushB_B8]
        show some (⟨#[] ++ l.toArray⟩ : ByteArray) = some ⟨l.toArray⟩
        rw [Array.empty_append]
      rw [Nat.mul_one] at hc
      simp only [pConvBS, hc, e]
      exact hK

def putL (xs : List UInt8) (a : Nat) (s : List UInt8) : List UInt8 := xs.take a ++ s ++ xs.drop (a + s.length)

theorem Own.copyTo {h0 h : Heap} {L : List Res} {v : Value} {xs : List UInt8} {T : TypeId} {a : Nat} {K : Value → Prop} (o : Own h0 h L) (i : Nat) (hi : L[i]? = some (slR encB8 1 T v xs)) (ha : a ≤ xs.length)
    (hK : ∀ d, (∀ (s : ByteArray) (KH : Value → Heap → Prop), a + s.size ≤ xs.length → (∀ h', Own h0 h' (L.set i (slR encB8 1 T v (putL xs a s.data.toList))) → KH (I s.size) h') → pCopyS d (.string s) h KH) → K d) : pSlice 1 v (some (I a)) none none K := by
  obtain ⟨bl, H⟩ := o.get i hi
  have H' := H
  rcases H with ⟨rfl, rfl⟩ | ⟨cap, rest, rfl, hb, hr, hle⟩
  · have e : a = 0 := by simpa using ha
    subst e
    refine ⟨by simp, by simp, by simp, by simp, by simp, hK _ fun s KH hs hk => ?_⟩
    have es : s.size = 0 := by simpa using hs
    have ed : s.data.toList = [] := List.eq_nil_of_length_eq_zero (by rw [Array.length_toList]; exact es)
    have hb0 : ∀ m, slBase 1 ((0 : Nat) : Int).toNat m none = none := by intro m; unfold slBase; split <;> rfl
    rw [hb0]
    simp only [pCopyS, es]
    rw [ed, es] at hk
    refine hk h ?_
    have : putL [] 0 [] = ([] : List UInt8) := rfl
    rw [this]
    have hs : L.set i (slR encB8 1 T (.slice none 0 0) ([] : List UInt8)) = L := by
      apply List.ext_getElem?
      intro n
      by_cases e : n = i
      · subst e; rw [hi, List.getElem?_set_self (List.getElem?_eq_some_iff.1 hi).1]
      · rw [List.getElem?_set_ne (fun h => e h.symm)]
    rwa [hs]
  · refine ⟨by simp, by omega, by omega, by omega, Int.le_refl _, hK _ fun s KH hs hk => ?_⟩
    have hmin : Nat.min s.size (xs.length - a) = s.size := Nat.min_eq_left (by omega)
    have hext : (s.extract 0 s.size).data.map (fun b => Value.int .u8 b.toNat) = (row encB8 s.data.toList).toArray := by
      rw [row_B8]
      have : (s.extract 0 s.size).data = s.data := by rw [ByteArray.data_extract]; exact Array.extract_size
      rw [this]
      apply Array.ext'
      simp
    have hmin' : Nat.min s.size ((xs.length : Int).toNat - (a : Int).toNat) = s.size := by simpa using hmin
    simp only [pCopyS, hmin', Int.toNat_natCast cap]
    have ed : s.data.toList.length = s.size := Array.length_toList
    by_cases hz : s.size = 0
    · have e0 : s.data.toList = [] := List.eq_nil_of_length_eq_zero (by omega)
      have e1 : ((s.extract 0 s.size).data.map (fun b => Value.int .u8 b.toNat)).toList = [] := by rw [hext, e0]; rfl
      have hs : L.set i (slR encB8 1 T (.slice (some ⟨bl, 0, none⟩) xs.length cap) xs) = L := by
        apply List.ext_getElem?
        intro n
        by_cases e : n = i
        · subst e; rw [hi, List.getElem?_set_self (List.getElem?_eq_some_iff.1 hi).1]
        · rw [List.getElem?_set_ne (fun h => e h.symm)]
      have key := hk h (by
        rw [e0]
        have : putL xs a [] = xs := by simp [putL]
        rw [this, hs]; exact o)
      obtain ⟨o', ho⟩ : ∃ o', slBase 1 (a : Int).toNat cap (some ⟨bl, 0, none⟩) = some ⟨bl, o', none⟩ := by
        unfold slBase; split
        · exact ⟨_, rfl⟩
        · exact ⟨_, rfl⟩
      rw [ho]
      show storeL h bl _ _ _
      rw [e1]; exact key
    · have hca : cap ≠ (a : Int).toNat := by
        rw [Int.toNat_natCast]; omega
      unfold slBase
      rw [if_neg hca]
      dsimp only
      rw [hext]
      show storeL h bl (0 + (a : Int).toNat * 1) (row encB8 s.data.toList) _
      rw [Int.toNat_natCast, Nat.zero_add]
      refine o.storeRow i hi (fun _ => rfl) encB8_plain H' rfl (by omega) fun h' o' => ?_
      exact hk h' o'

/-! ### Zeros behind -/

section
variable {α : Type} {enc : α → List Value} {n : Nat} {T : TypeId} {h0 h : Heap} {L : List Res} {v : Value} {xs : List α} {KH : Value → Heap → Prop}

theorem row_rep {a : α} : ∀ m, row enc (List.replicate m a) = zerosL (enc a) m := by
  intro m
  simp [row, zerosL, List.flatMap]

theorem Own.appZ {bytes m : Nat} {zero : List Value} {a : α} (o : Own h0 h L) (i : Nat) (hi : L[i]? = some (slR enc n T v xs)) (he : ∀ a, (enc a).length = n) (hp : ∀ a, ∀ u ∈ enc a, plainCell u = true) (hz : zero = enc a)
    (hby : 0 < bytes) (hb : (xs.length + m) * bytes ≤ 2 ^ 47) (hK : ∀ v' h', Own h0 h' (L.set i (slR enc n T v' (xs ++ List.replicate m a))) → KH v' h') : pAppendZ T n bytes zero v (.int .i64 m) h KH := by
  subst hz
  obtain ⟨bl, H⟩ := o.get i hi
  have hm : xs.length + m ≤ (xs.length + m) * bytes := Nat.le_mul_of_pos_right _ hby
  have hmb : m * bytes ≤ (xs.length + m) * bytes := Nat.mul_le_mul_right _ (by omega)
  have hrx := row_length he xs
  have hry : (zerosL (enc a) m).length = m * n := by rw [← row_rep, row_length he, List.length_replicate]
  have hzl : ∀ m, (zerosL (enc a) m).length = m * n := by intro m; rw [← row_rep, row_length he, List.length_replicate]
  have hpl : ∀ u ∈ zerosL (enc a) m, plainCell u = true := by
    intro u hu
    rw [← row_rep] at hu
    simp only [row, List.mem_flatMap] at hu
    obtain ⟨a, _, ha⟩ := hu
    exact hp a u ha
  have fresh : ∀ (c : Nat), xs.length + m ≤ c → KH (.slice (some ⟨h.size, 0, none⟩) (xs.length + m) c) (h.push (.cells (row enc xs ++ zerosL (enc a) m ++ zerosL (enc a) (c - (xs.length + m))).toArray T (0, 0))) := by
    intro c hc
    have H' : SlR enc n T (h.push (.cells (row enc xs ++ zerosL (enc a) m ++ zerosL (enc a) (c - (xs.length + m))).toArray T (0, 0))) (.slice (some ⟨h.size, 0, none⟩) (xs.length + m) c) h.size (xs ++ List.replicate m a) :=
      .inr ⟨c, zerosL (enc a) (c - (xs.length + m)), by simp, by rw [push_new, row_append, row_rep], by simp [hzl], by simpa using hc⟩
    exact hK _ _ (o.set i hi (Upd.push _ _ _) (slR_of H') fun b hb => by
      have := H'.blk hb
      exact ⟨.inr (by omega), H'.blkLt hb⟩)
  have hi64 : ((m : Int) * (bytes : Int)) ≤ 2 ^ 48 := by
    have : ((m * bytes : Nat) : Int) ≤ ((2 ^ 47 : Nat) : Int) := Int.ofNat_le.2 (Nat.le_trans hmb hb)
    rw [Int.natCast_mul] at this
    exact Int.le_trans this (by decide)
  rcases H with ⟨rfl, rfl⟩ | ⟨cap, rest, rfl, hbk, hr, hle⟩
  · refine ⟨by omega, by omega, hi64, ?_⟩
    rw [Int.toNat_natCast]
    by_cases h0 : m = 0
    · subst h0
      rw [if_pos (by omega)]
      have := hK (.slice none 0 0) h (by
        simp only [List.replicate_zero, List.append_nil]
        have : L.set i (slR enc n T (.slice none 0 0) ([] : List α)) = L := by
          apply List.ext_getElem?
          intro n
          by_cases e : n = i
          · subst e; rw [hi, List.getElem?_set_self (List.getElem?_eq_some_iff.1 hi).1]
          · rw [List.getElem?_set_ne (fun h => e h.symm)]
        rw [this]; exact o)
      exact this
    · rw [if_neg (by omega)]
      refine ⟨?_, by simp at hm hb ⊢; omega, fun c h1 h2 => ?_⟩
      · exact growslice_fits (by omega) (by simp at hb ⊢; omega)
      · have := fresh c (by simpa using h1)
        simpa [row] using this
  · refine ⟨by omega, by omega, hi64, ?_⟩
    rw [Int.toNat_natCast]
    by_cases hcap : xs.length + m ≤ cap
    · rw [if_pos hcap]
      have hrl : rest.length = cap * n - xs.length * n := by rw [hr, Nat.sub_mul]
      have hmul : (xs.length + m) * n ≤ cap * n := Nat.mul_le_mul_right n hcap
      rw [Nat.add_mul] at hmul
      refine storeL_of _ _ _ _ hbk (by rw [List.length_append, hrx, hry]; omega) hpl ?_
      have ov : over (row enc xs ++ rest) (0 + xs.length * n) (zerosL (enc a) m) = row enc (xs ++ List.replicate m a) ++ rest.drop (m * n) := by
        unfold over
        rw [Nat.zero_add, ← hrx, List.take_left', hry, List.drop_append, row_append, row_rep]
        · rw [List.drop_of_length_le (by omega), show (row enc xs).length + m * n - (row enc xs).length = m * n by omega]; simp
        · rfl
      rw [ov]
      have H' : SlR enc n T (upd h bl (.cells (row enc (xs ++ List.replicate m a) ++ rest.drop (m * n)).toArray T (0, 0))) (.slice (some ⟨bl, 0, none⟩) (xs.length + m) cap) bl (xs ++ List.replicate m a) :=
        .inr ⟨cap, rest.drop (m * n), by simp, upd_self' hbk, by
          rw [List.length_drop, hrl, List.length_append, List.length_replicate, Nat.sub_mul, Nat.add_mul]; omega, by simpa using hcap⟩
      exact hK _ _ (o.set i hi (Upd.upd _ _ rfl) (slR_of H') fun b hb => ⟨.inl hb, H'.blkLt hb⟩)
    · rw [if_neg hcap]
      have hl := cellsOf_SlR he (.inr ⟨cap, rest, rfl, hbk, hr, hle⟩ : SlR enc n T h (.slice (some ⟨bl, 0, none⟩) xs.length cap) bl xs)
      obtain ⟨b0, c0, e0, hl⟩ := hl
      injection e0 with e0 _ _
      subst e0
      rw [hl]
      exact ⟨growslice_fits (by omega) (by omega), by omega, fun c h1 h2 => fresh c h1⟩

end

end Go.Mh
