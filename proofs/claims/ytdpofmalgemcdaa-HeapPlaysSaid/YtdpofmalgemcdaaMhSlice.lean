/- A text of the proofs of seat Ytdpofmalgemcdaa: 'Mh.Slice'. It has no condition of its own. -/
import Derived.Test.YtdpofmalgemcdaaMhStep
import Derived.Laws.Append
set_option linter.unusedVariables false
set_option linter.unusedSimpArgs false
namespace Go.Mh
open Go

section
variable {h : Heap} {b : Nat}

theorem hcell0 {v : Value} {l : List Value} {T : TypeId} {fz : Nat × Nat} (hb : h[b]? = some (.cells (v :: l).toArray T fz)) : hcell h ⟨b, 0, none⟩ = some v := hcell_of hb (by simp)
theorem hcell1 {u v : Value} {l : List Value} {T : TypeId} {fz : Nat × Nat} (hb : h[b]? = some (.cells (u :: v :: l).toArray T fz)) : hcell h ⟨b, 1, none⟩ = some v := hcell_of hb (by simp)
theorem hcell2 {u t v : Value} {l : List Value} {T : TypeId} {fz : Nat × Nat} (hb : h[b]? = some (.cells (u :: t :: v :: l).toArray T fz)) : hcell h ⟨b, 2, none⟩ = some v := hcell_of hb (by simp)
theorem hcell3 {u t w v : Value} {l : List Value} {T : TypeId} {fz : Nat × Nat} (hb : h[b]? = some (.cells (u :: t :: w :: v :: l).toArray T fz)) : hcell h ⟨b, 3, none⟩ = some v := hcell_of hb (by simp)

theorem takeM_of {K : Heap → Prop} : ∀ (m : List Nat) (h : Heap), (∀ D ∈ m, h[D]? = some (.deferred (some []))) → m.Nodup → (∀ h', Upd (fun b => b ∈ m) h h' → K h') → takeM m h K
  | [], h, _, _, hk => hk h (.refl _ _)
  | D :: m, h, hD, hn, hk => by
    refine ⟨hD D List.mem_cons_self, ?_⟩
    rw [List.nodup_cons] at hn
    refine takeM_of m _ (fun D' hD' => ?_) hn.2 fun h' hu => hk h' ?_
    · rw [setIf_upd, upd_ne (fun e : D = D' => hn.1 (by rw [e]; exact hD'))]; exact hD D' (List.mem_cons_of_mem _ hD')
    · exact (Upd.upd (S := fun b => b ∈ D :: m) h _ List.mem_cons_self).trans hu fun b hb _ => List.mem_cons_of_mem _ hb

theorem roundK_normal {l : Nat} {L : Loop} {R : Value → Heap → Prop} {p : Option Code} (hb : h[l]? = some (lo L .busy p)) (hk : R (.bool true) (upd h l (lo L .ready none))) : roundK l L R .normal h :=
  ⟨p, hb, hk⟩

theorem beginR_of {l : Nat} {L : Loop} {K : Heap → Prop} {p : Option Code} (hb : h[l]? = some (lo L .ready p)) (hk : K (upd h l (lo L .busy p))) : beginR l L h K :=
  ⟨p, hb, hk⟩
end

section
variable {K : Value → Prop} {a b c d : Value} {l : List Value}
theorem pExt0 : pExt (.tuple (a :: l).toArray) 0 K = K a := by simp [pExt]
theorem pExt1 : pExt (.tuple (a :: b :: l).toArray) 1 K = K b := by simp [pExt]
theorem pExt2 : pExt (.tuple (a :: b :: c :: l).toArray) 2 K = K c := by simp [pExt]
theorem pExt3 : pExt (.tuple (a :: b :: c :: d :: l).toArray) 3 K = K d := by simp [pExt]
end

/-! ### A slice of its own block -/

section
variable {α : Type} {enc : α → List Value} {n : Nat} {T : TypeId} {h h' : Heap} {v : Value} {bl : Nat} {xs ys : List α}

def SlR (enc : α → List Value) (n : Nat) (T : TypeId) (h : Heap) (v : Value) (bl : Nat) (xs : List α) : Prop :=
  (v = .slice none 0 0 ∧ xs = []) ∨ ∃ cap rest, v = .slice (some ⟨bl, 0, none⟩) xs.length cap ∧ h[bl]? = some (.cells (row enc xs ++ rest).toArray T (0, 0)) ∧
    rest.length = (cap - xs.length) * n ∧ xs.length ≤ cap

theorem SlR.len (H : SlR enc n T h v bl xs) : ∃ base cap, v = .slice base xs.length cap := by
  rcases H with ⟨rfl, rfl⟩ | ⟨_, _, rfl, _⟩
  · exact ⟨_, _, rfl⟩
  · exact ⟨_, _, rfl⟩

theorem SlR.full (H : SlR enc n T h v bl xs) (hl : 0 < xs.length) : ∃ cap rest, v = .slice (some ⟨bl, 0, none⟩) xs.length cap ∧ h[bl]? = some (.cells (row enc xs ++ rest).toArray T (0, 0)) ∧
    rest.length = (cap - xs.length) * n ∧ xs.length ≤ cap := by
  rcases H with ⟨rfl, rfl⟩ | H
  · simp at hl
  · exact H

theorem SlR.upd {S : Nat → Prop} (H : SlR enc n T h v bl xs) (hu : Upd S h h') (hn' : ¬ S bl) : SlR enc n T h' v bl xs := by
  rcases H with H | ⟨cap, rest, a, b, c, d⟩
  · exact .inl H
  · exact .inr ⟨cap, rest, a, hu.get b hn', c, d⟩

theorem SlR.slot {m : Nat} (H : SlR enc m T h v bl xs) {i j : Nat} (he : ∀ a, (enc a).length = m) (hi : i < xs.length) (hj : j < m) : hcell h ⟨bl, i * m + j, none⟩ = (enc xs[i])[j]? := by
  obtain ⟨cap, rest, _, hb, _, _⟩ := H.full (by omega)
  rw [hcell_of hb (v := (enc xs[i])[j]'(by rw [he]; exact hj)) (by
    have := row_get he hi hj rest
    rw [List.getElem?_toArray, this]; simp)]
  simp

/-- The index of an element. -/
theorem SlR.idx (H : SlR enc n T h v bl xs) {i : Nat} {k : IntKind} {K : Value → Prop} (hi : i < xs.length) (hk : K (.pointer (some ⟨bl, i * n, none⟩))) : pIdx n v (.int k i) K := by
  obtain ⟨cap, rest, rfl, hb, _, _⟩ := H.full (by omega)
  rw [pIdx_sl]
  refine ⟨⟨by omega, by omega⟩, ?_⟩
  simpa using hk

theorem SlR.lenK (H : SlR enc n T h v bl xs) {K : Value → Prop} (hk : K (.int .i64 xs.length)) : pLen v K := by
  obtain ⟨b, c, rfl⟩ := H.len
  exact hk

theorem SlR.lt (H : SlR enc n T h v bl xs) (hl : 0 < xs.length) : bl < h.size := by
  obtain ⟨cap, rest, _, hb, _, _⟩ := H.full hl
  exact get_lt hb

theorem cellsOf_SlR (he : ∀ a, (enc a).length = n) (H : SlR enc n T h v bl xs) : ∃ base cap, v = .slice base xs.length cap ∧ cellsOfSl h n xs.length base = some (row enc xs) := by
  rcases H with ⟨rfl, rfl⟩ | ⟨cap, rest, rfl, hb, _, _⟩
  · exact ⟨_, _, rfl, rfl⟩
  · refine ⟨some ⟨bl, 0, none⟩, cap, rfl, ?_⟩
    have hl := row_length he xs
    simp only [cellsOfSl]
    rw [cellsAt_of (i := 0) hb _ 0 (by simp [hl])]
    rw [List.drop_zero, ← hl, List.take_left']
    rfl

/-- More elements behind. -/
theorem append_of {bytes : Nat} {zero : List Value} {xb : Option Addr} {m xc : Nat} {K : Value → Heap → Prop} (he : ∀ a, (enc a).length = n) (hp : ∀ a, ∀ u ∈ enc a, plainCell u = true) (hz : zero.length = n)
    (H : SlR enc n T h v bl xs) (hm : m = ys.length) (hx : cellsOfSl h n m xb = some (row enc ys)) (hby : 0 < bytes) (hb : (xs.length + ys.length) * bytes ≤ 2 ^ 47)
    (hK : ∀ v' bl' h', SlR enc n T h' v' bl' (xs ++ ys) → (bl' = bl ∨ bl' = h.size) → Upd (fun b => b = bl ∧ ∃ cs, h[b]? = some (.cells cs T (0, 0))) h h' → (bl < h.size → bl' < h'.size) → K v' h') :
    pAppend T n bytes zero v (.slice xb m xc) h K := by
  subst hm
  have hrx := row_length he xs
  have hry := row_length he ys
  have hpl : ∀ u ∈ row enc ys, plainCell u = true := by
    intro u hu
    simp only [row, List.mem_flatMap] at hu
    obtain ⟨a, _, ha⟩ := hu
    exact hp a u ha
  have hcapB : ∀ cap, cap < xs.length + ys.length → Builtin.nextslicecap (xs.length + ys.length) cap * bytes ≤ 2 ^ 48 ∧ xs.length + ys.length < 2 ^ 63 := by
    intro cap hc
    refine ⟨growslice_fits hc (by omega), ?_⟩
    have := Nat.le_mul_of_pos_right (xs.length + ys.length) hby
    omega
  have hzl : ∀ m, (zerosL zero m).length = m * n := by
    intro m; simp [zerosL, hz]
  have fresh : ∀ (c : Nat), xs.length + ys.length ≤ c → K (.slice (some ⟨h.size, 0, none⟩) (xs.length + ys.length) c) (h.push (.cells (row enc xs ++ row enc ys ++ zerosL zero (c - (xs.length + ys.length))).toArray T (0, 0))) := by
    intro c hc
    exact hK _ h.size _ (.inr ⟨c, zerosL zero (c - (xs.length + ys.length)), by simp, by rw [push_new, row_append], by simp [hzl], by simpa using hc⟩) (.inr rfl) (Upd.push _ _ _) (fun _ => by simp)
  rcases H with ⟨rfl, rfl⟩ | ⟨cap, rest, rfl, hbk, hr, hle⟩
  · simp only [pAppend, hx]
    by_cases h0 : ys.length = 0
    · have : ys = [] := List.eq_nil_of_length_eq_zero h0
      subst this
      simp only [List.length_nil, Nat.add_zero, Nat.le_refl, if_true]
      exact hK _ bl _ (.inl ⟨rfl, rfl⟩) (.inl rfl) (.refl _ _) id
    · rw [if_neg (by omega)]
      simp only [cellsOfSl, List.nil_append]
      have hc := hcapB 0 (by simp; omega)
      simp only [List.length_nil] at hc
      refine ⟨hc.1, hc.2, fun c h1 h2 => ?_⟩
      have := fresh c (by simpa using h1)
      simpa [row] using this
  · simp only [pAppend, hx]
    by_cases hcap : xs.length + ys.length ≤ cap
    · rw [if_pos hcap]
      have hrl : rest.length = cap * n - xs.length * n := by rw [hr, Nat.sub_mul]
      have hmul : (xs.length + ys.length) * n ≤ cap * n := Nat.mul_le_mul_right n hcap
      rw [Nat.add_mul] at hmul
      refine storeL_of _ _ _ _ hbk (by rw [List.length_append, hrx, hry]; omega) hpl ?_
      have ov : over (row enc xs ++ rest) (0 + xs.length * n) (row enc ys) = row enc (xs ++ ys) ++ rest.drop (ys.length * n) := by
        unfold over
        rw [Nat.zero_add, ← hrx, List.take_left', hry, List.drop_append, row_append]
        · rw [List.drop_of_length_le (by omega), show (row enc xs).length + ys.length * n - (row enc xs).length = ys.length * n by omega]; simp
        · rfl
      rw [ov]
      refine hK _ bl _ (.inr ⟨cap, rest.drop (ys.length * n), by simp, upd_self' hbk, ?_, by simpa using hcap⟩) (.inl rfl) (Upd.upd _ _ ⟨rfl, _, hbk⟩) (by simp [upd_size])
      rw [List.length_drop, hrl, List.length_append, Nat.sub_mul, Nat.add_mul]; omega
    · rw [if_neg hcap]
      have hl := cellsOf_SlR he (.inr ⟨cap, rest, rfl, hbk, hr, hle⟩ : SlR enc n T h (.slice (some ⟨bl, 0, none⟩) xs.length cap) bl xs)
      obtain ⟨b0, c0, e0, hl⟩ := hl
      injection e0 with e0 _ _
      subst e0
      rw [hl]
      have hc := hcapB cap (by omega)
      exact ⟨hc.1, hc.2, fun c h1 h2 => fresh c h1⟩

/-- An element set. -/
theorem SlR.set {sz : Nat} {w : Value} {i : Nat} {a : α} {KH : Value → Heap → Prop} {q : Value} (he : ∀ a, (enc a).length = n) (hp : ∀ u ∈ enc a, plainCell u = true)
    (H : SlR enc n T h v bl xs) (hi : i < xs.length) (hq : q = .pointer (some ⟨bl, i * n, none⟩)) (hw : w.cells.toList = enc a) (hsz : sz = n)
    (hK : ∀ h', SlR enc n T h' v bl (xs.set i a) → Upd (fun b => b = bl) h h' → h'.size = h.size → KH undef h') : pStore sz q w h KH := by
  rw [hsz]
  obtain ⟨cap, rest, rfl, hb, hr, hle⟩ := H.full (by omega)
  have hwl : w.cells.size = n := by rw [← he a, ← hw]; simp
  have hrx := row_length he xs
  have hmul : (i + 1) * n ≤ xs.length * n := Nat.mul_le_mul_right n hi
  rw [Nat.succ_mul] at hmul
  refine pStore_of hq hb hwl (by rw [hwl, List.length_append, hrx]; omega) (by rw [hw]; exact hp) ?_
  rw [hw, row_over he hi]
  exact hK _ (.inr ⟨cap, rest, by simp, upd_self' hb, by simpa using hr, by simpa using hle⟩) (Upd.upd _ _ rfl) upd_size

/-! ### A view of a row -/

def VwR (enc : α → List Value) (n : Nat) (h : Heap) (v : Value) (bl : Nat) (ys : List α) : Prop :=
  ∃ base cap, v = .slice base ys.length cap ∧ ys.length ≤ cap ∧ ((ys = [] ∧ (base = none ∨ ∃ b o, base = some ⟨b, o, none⟩)) ∨
    ∃ o pre post T fz, base = some ⟨bl, o, none⟩ ∧ h[bl]? = some (.cells (pre ++ row enc ys ++ post).toArray T fz) ∧ pre.length = o)

theorem VwR.upd {S : Nat → Prop} (H : VwR enc n h v bl ys) (hu : Upd S h h') (hn : ¬ S bl) : VwR enc n h' v bl ys := by
  obtain ⟨base, cap, rfl, hc, H⟩ := H
  refine ⟨base, cap, rfl, hc, ?_⟩
  rcases H with H | ⟨o, pre, post, T, fz, a, b, c⟩
  · exact .inl H
  · exact .inr ⟨o, pre, post, T, fz, a, hu.get b hn, c⟩

theorem SlR.view (H : SlR enc n T h v bl xs) : VwR enc n h v bl xs := by
  rcases H with ⟨rfl, rfl⟩ | ⟨cap, rest, rfl, hb, _, hle⟩
  · exact ⟨none, 0, rfl, Nat.le_refl _, .inl ⟨rfl, .inl rfl⟩⟩
  · exact ⟨_, _, rfl, hle, .inr ⟨0, [], rest, T, _, rfl, hb, rfl⟩⟩

theorem VwR.cells (he : ∀ a, (enc a).length = n) (H : VwR enc n h v bl ys) : ∃ base cap, v = .slice base ys.length cap ∧ cellsOfSl h n ys.length base = some (row enc ys) := by
  obtain ⟨base, cap, rfl, hc, H⟩ := H
  refine ⟨base, cap, rfl, ?_⟩
  rcases H with ⟨rfl, rfl | ⟨b, o, rfl⟩⟩ | ⟨o, pre, post, T, fz, rfl, hb, ho⟩
  · rfl
  · simp [cellsOfSl, cellsAt, row]
  · have hl := row_length he ys
    simp only [cellsOfSl]
    rw [cellsAt_of (i := 0) hb _ o (by simp [hl]; omega)]
    rw [List.append_assoc, ← ho, List.drop_left', ← hl, List.take_left']
    · rfl
    · rfl

theorem VwR.slot (he : ∀ a, (enc a).length = n) (H : VwR enc n h v bl ys) {i j : Nat} (hi : i < ys.length) (hj : j < n) :
    ∃ o cap, v = .slice (some ⟨bl, o, none⟩) ys.length cap ∧ hcell h ⟨bl, o + i * n + j, none⟩ = (enc ys[i])[j]? := by
  obtain ⟨base, cap, rfl, hc, H⟩ := H
  rcases H with ⟨rfl, _⟩ | ⟨o, pre, post, T, fz, rfl, hb, ho⟩
  · simp at hi
  · refine ⟨o, cap, rfl, ?_⟩
    rw [hcell_of hb (v := (enc ys[i])[j]'(by rw [he]; exact hj)) (by
      have := row_get he hi hj post
      rw [List.getElem?_toArray, List.append_assoc, List.getElem?_append_right (by omega), show o + i * n + j - pre.length = i * n + j by omega, this]; simp)]
    simp

theorem VwR.sub {lo hi : Option Value} {K : Value → Prop} {i j : Nat} (he : ∀ a, (enc a).length = n) (H : VwR enc n h v bl ys) (hlo : bndOf 0 lo = some (i : Int)) (hhi : bndOf ys.length hi = some (j : Int)) (hij : i ≤ j) (hj : j ≤ ys.length)
    (hK : ∀ v', VwR enc n h v' bl ((ys.drop i).take (j - i)) → K v') : pSlice n v lo hi none K := by
  obtain ⟨base, cap, rfl, hc, H⟩ := H
  simp only [pSlice, hlo, hhi]
  rw [show bndOf cap none = some (cap : Int) from rfl]
  dsimp only
  refine ⟨by simp, by omega, by omega, by omega, Int.le_refl _, ?_⟩
  refine hK _ ⟨_, _, by rw [show ((j : Int).toNat - (i : Int).toNat) = ((ys.drop i).take (j - i)).length by simp; omega], by simp; omega, ?_⟩
  simp only [Int.toNat_natCast]
  unfold slBase
  by_cases hci : cap = i
  · rw [if_pos hci]
    have : (ys.drop i).take (j - i) = [] := by
      apply List.eq_nil_of_length_eq_zero; simp; omega
    rcases H with ⟨_, hb⟩ | ⟨o, pre, post, T, fz, rfl, hb, ho⟩
    · exact .inl ⟨this, hb⟩
    · exact .inl ⟨this, .inr ⟨_, _, rfl⟩⟩
  · rw [if_neg hci]
    rcases H with ⟨rfl, rfl | ⟨b, o, rfl⟩⟩ | ⟨o, pre, post, T, fz, rfl, hb, ho⟩
    · exact .inl ⟨by simp, .inl rfl⟩
    · exact .inl ⟨by simp, .inr ⟨_, _, rfl⟩⟩
    · refine .inr ⟨o + i * n, pre ++ row enc (ys.take i), row enc ((ys.drop i).drop (j - i)) ++ post, T, fz, rfl, ?_, ?_⟩
      · rw [hb]
        have : row enc ys = row enc (ys.take i) ++ (row enc ((ys.drop i).take (j - i)) ++ row enc ((ys.drop i).drop (j - i))) := by
          rw [← row_append, List.take_append_drop, ← row_append, List.take_append_drop]
        rw [this]; simp [List.append_assoc]
      · rw [List.length_append, row_length he, ho]; simp; rw [Nat.min_eq_left (by omega)]

theorem VwR.lenK (H : VwR enc n h v bl ys) {K : Value → Prop} (hk : K (.int .i64 ys.length)) : pLen v K := by
  obtain ⟨b, c, rfl, _⟩ := H
  exact hk

/-- A front part of one's own row. -/
theorem SlR.pre {k : IntKind} {K : Value → Prop} {j : Nat} (H : SlR enc n T h v bl xs) (he : ∀ a, (enc a).length = n) (hj : j ≤ xs.length)
    (hK : ∀ v', SlR enc n T h v' bl (xs.take j) → K v') : pSlice n v none (some (.int k j)) none K := by
  rcases H with ⟨rfl, rfl⟩ | ⟨cap, rest, rfl, hb, hr, hle⟩
  · have : j = 0 := by simpa using hj
    subst this
    refine ⟨by simp, by simp, by simp, by simp, by simp, hK _ (.inl ⟨by simp [slBase], by simp⟩)⟩
  · refine ⟨by simp, by simp, by omega, by omega, Int.le_refl _, hK _ (.inr ⟨cap, row enc (xs.drop j) ++ rest, ?_, ?_, ?_, ?_⟩)⟩
    · have : slBase n 0 cap (some ⟨bl, 0, none⟩) = some ⟨bl, 0, none⟩ := by simp [slBase]
      simp [this, hj]
    · rw [hb, ← List.append_assoc, ← row_append, List.take_append_drop]
    · rw [List.length_append, row_length he, hr]; simp only [List.length_drop, List.length_take, Nat.min_eq_left hj]
      rw [← Nat.add_mul]; congr 1; omega
    · simp; omega

theorem makeSlice_of {bytes : Nat} {k k' : IntKind} {m : Nat} {a : α} {K : Value → Heap → Prop} (hb : (bytes : Int) * m ≤ 2 ^ 48) (hm : m < 2 ^ 63)
    (hK : ∀ w h', SlR enc n T h' w h.size (List.replicate m a) → Ext h h' → h'.size = h.size + 1 → K w h') : pMakeSlice T bytes (enc a) (.int k m) (.int k' m) h K := by
  refine ⟨by omega, Int.le_refl _, hb, by omega, ?_⟩
  refine hK _ _ (.inr ⟨m, [], by simp, ?_, by simp, by simp⟩) (Upd.push _ _ _) push_size
  rw [push_new]
  have : row enc (List.replicate m a) = (List.replicate m (enc a)).flatten := by simp [row, List.flatMap]
  simp [this]

/-- The place of an element of a view. -/
theorem VwR.idx {k : IntKind} {K : Value → Prop} {i : Nat} (he : ∀ a, (enc a).length = n) (H : VwR enc n h v bl ys) (hi : i < ys.length)
    (hK : ∀ o, (∀ j, j < n → hcell h ⟨bl, o + j, none⟩ = (enc ys[i])[j]?) → K (.pointer (some ⟨bl, o, none⟩))) : pIdx n v (.int k i) K := by
  obtain ⟨base, cap, rfl, hc, H⟩ := H
  rcases H with ⟨rfl, _⟩ | ⟨o, pre, post, T, fz, rfl, hb, ho⟩
  · simp at hi
  · rw [pIdx_sl]
    refine ⟨⟨by omega, by omega⟩, ?_⟩
    simp only [Int.toNat_natCast]
    refine hK _ fun j hj => ?_
    rw [hcell_of hb (v := (enc ys[i])[j]'(by rw [he]; exact hj)) (by
      have := row_get he hi hj post
      rw [List.getElem?_toArray, List.append_assoc, List.getElem?_append_right (by omega), show o + i * n + j - pre.length = i * n + j by omega, this]; simp)]
    simp

end
end Go.Mh
