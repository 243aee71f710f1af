/- Texts of the proofs of seat YtbacdjahpahcfaaGreatDoor, joined: Split, Split2, OwnP, Rev, Que, ViewA, ViewB, ViewC, KMap, OwnM, Ev, ViewD. They have no conditions of their own. -/
import Derived.Test.YtbacdjahpahcfaaGreatDoorMc
import Derived.Test.YtbacdjahpahcfaaGreatDoorMb
import Derived.OpenShut
set_option linter.unusedVariables false
set_option linter.unusedSimpArgs false

/-! Nodes are parted into cells: values, spreads, ways, orders, parts. -/
namespace Go.Mh
open Go

def valG (g : G) (d v : Nat) : Int := if d = 0 then g.X.getD v 0 else if d = 1 then g.Y.getD v 0 else if d = 2 then g.X.getD v 0 + g.Y.getD v 0 else g.X.getD v 0 - g.Y.getD v 0
def leaF (f : Nat → Int) (l : List Nat) (z : Int) : Int := l.foldl (fun a x => min a (f x)) z
def mosF (f : Nat → Int) (l : List Nat) (z : Int) : Int := l.foldl (fun a x => max a (f x)) z
def sprd (f : Nat → Int) : List Nat → Int
  | [] => 0
  | x :: l => mosF f (x :: l) (f x) - leaF f (x :: l) (f x)
def wayB (f : Nat → Int) : Nat → Nat × Int
  | 0 => (0, 0)
  | i + 1 => if (wayB f i).2 < f i then (i, f i) else wayB f i
def wayG (g : G) (l : List Nat) : Nat × Int := wayB (fun d => sprd (valG g d) l) 4

theorem leaF_snoc {f : Nat → Int} {l : List Nat} {x : Nat} {z : Int} : leaF f (l ++ [x]) z = min (leaF f l z) (f x) := by simp [leaF]
theorem mosF_snoc {f : Nat → Int} {l : List Nat} {x : Nat} {z : Int} : mosF f (l ++ [x]) z = max (mosF f l z) (f x) := by simp [mosF]

theorem leaF_le {f : Nat → Int} : ∀ {l : List Nat} {z : Int}, leaF f l z ≤ z ∧ ∀ x ∈ l, leaF f l z ≤ f x
  | [], z => ⟨Int.le_refl _, fun x h => by cases h⟩
  | a :: l, z => by
    obtain ⟨h1, h2⟩ := @leaF_le f l (min z (f a))
    have e : leaF f (a :: l) z = leaF f l (min z (f a)) := rfl
    rw [e]
    refine ⟨by omega, fun x hx => ?_⟩
    rcases List.mem_cons.1 hx with rfl | hx
    · omega
    · exact h2 x hx
theorem mosF_ge {f : Nat → Int} : ∀ {l : List Nat} {z : Int}, z ≤ mosF f l z ∧ ∀ x ∈ l, f x ≤ mosF f l z
  | [], z => ⟨Int.le_refl _, fun x h => by cases h⟩
  | a :: l, z => by
    obtain ⟨h1, h2⟩ := @mosF_ge f l (max z (f a))
    have e : mosF f (a :: l) z = mosF f l (max z (f a)) := rfl
    rw [e]
    refine ⟨by omega, fun x hx => ?_⟩
    rcases List.mem_cons.1 hx with rfl | hx
    · omega
    · exact h2 x hx
theorem leaF_ge {f : Nat → Int} {B : Int} : ∀ {l : List Nat} {z : Int}, B ≤ z → (∀ x ∈ l, B ≤ f x) → B ≤ leaF f l z
  | [], z, h, _ => h
  | a :: l, z, h, hl => leaF_ge (l := l) (z := min z (f a)) (by have := hl a List.mem_cons_self; omega) fun x hx => hl x (List.mem_cons_of_mem _ hx)
theorem mosF_le {f : Nat → Int} {B : Int} : ∀ {l : List Nat} {z : Int}, z ≤ B → (∀ x ∈ l, f x ≤ B) → mosF f l z ≤ B
  | [], z, h, _ => h
  | a :: l, z, h, hl => mosF_le (l := l) (z := max z (f a)) (by have := hl a List.mem_cons_self; omega) fun x hx => hl x (List.mem_cons_of_mem _ hx)

theorem sprd_nonneg {f : Nat → Int} {l : List Nat} : 0 ≤ sprd f l := by
  cases l with
  | nil => exact Int.le_refl _
  | cons x l =>
    have h1 := (@leaF_le f (x :: l) (f x)).1
    have h2 := (@mosF_ge f (x :: l) (f x)).1
    show 0 ≤ mosF f (x :: l) (f x) - leaF f (x :: l) (f x)
    omega
theorem sprd_two {f : Nat → Int} {l : List Nat} {v w : Nat} (hv : v ∈ l) (hw : w ∈ l) : f v - f w ≤ sprd f l := by
  cases l with
  | nil => cases hv
  | cons x l =>
    have h1 := (@leaF_le f (x :: l) (f x)).2 w hw
    have h2 := (@mosF_ge f (x :: l) (f x)).2 v hv
    show f v - f w ≤ mosF f (x :: l) (f x) - leaF f (x :: l) (f x)
    omega

theorem wayB_spec {f : Nat → Int} (hf : ∀ d, 0 ≤ f d) : ∀ {i : Nat}, 1 ≤ i → (wayB f i).1 < i ∧ (wayB f i).2 = f (wayB f i).1 ∧ (∀ k, k < i → f k ≤ (wayB f i).2) ∧ ∀ k, k < (wayB f i).1 → f k < (wayB f i).2
  | 1, _ => by
    have h0 := hf 0
    have e : wayB f 1 = (0, f 0) := by
      show (if (0 : Int) < f 0 then ((0 : Nat), f 0) else (0, 0)) = _
      split
      · rfl
      · rw [show f 0 = 0 by omega]
    rw [e]
    exact ⟨Nat.zero_lt_one, rfl, fun k hk => by rw [show k = 0 by omega]; exact Int.le_refl _, fun k hk => by omega⟩
  | i + 2, _ => by
    obtain ⟨h1, h2, h3, h4⟩ := wayB_spec hf (i := i + 1) (by omega)
    rw [show wayB f (i + 2) = if (wayB f (i + 1)).2 < f (i + 1) then (i + 1, f (i + 1)) else wayB f (i + 1) from rfl]
    by_cases hc : (wayB f (i + 1)).2 < f (i + 1)
    · rw [if_pos hc]
      refine ⟨by dsimp only; omega, rfl, fun k hk => ?_, fun k hk => ?_⟩
      · by_cases e : k = i + 1
        · rw [e]; exact Int.le_refl _
        · have := h3 k (by omega); dsimp only; omega
      · have := h3 k hk; dsimp only; omega
    · rw [if_neg hc]
      refine ⟨by omega, h2, fun k hk => ?_, h4⟩
      by_cases e : k = i + 1
      · rw [e]; omega
      · exact h3 k (by omega)

/-! ### Orders -/

/-- a stands behind b. -/
def gtV (f : Nat → Int) (a b : Nat) : Bool := decide (f b < f a ∨ (f a = f b ∧ b < a))
def insAt (v : Nat) (l : List Nat) (k : Nat) : List Nat := l.take k ++ v :: l.drop k
def posB (f : Nat → Int) (v : Nat) (l : List Nat) : Nat → Nat
  | 0 => 0
  | k + 1 => if gtV f (l.getD k 0) v then posB f v l k else k + 1
def insV (f : Nat → Int) (l : List Nat) (v : Nat) : List Nat := insAt v l (posB f v l l.length)
def ordV (f : Nat → Int) (l : List Nat) : List Nat := l.foldl (insV f) []

theorem posB_le {f : Nat → Int} {v : Nat} {l : List Nat} : ∀ {k : Nat}, posB f v l k ≤ k
  | 0 => Nat.le_refl _
  | k + 1 => by
    unfold posB
    split
    · exact Nat.le_succ_of_le posB_le
    · exact Nat.le_refl _
theorem posB_gt {f : Nat → Int} {v : Nat} {l : List Nat} : ∀ {k i : Nat}, posB f v l k ≤ i → i < k → gtV f (l.getD i 0) v = true
  | 0, i, _, h => by omega
  | k + 1, i, h, hi => by
    unfold posB at h
    by_cases c : gtV f (l.getD k 0) v = true
    · rw [if_pos c] at h
      by_cases e : i = k
      · rw [e]; exact c
      · exact posB_gt h (by omega)
    · rw [if_neg c] at h; omega
theorem posB_not {f : Nat → Int} {v : Nat} {l : List Nat} : ∀ {k i : Nat}, posB f v l k = i + 1 → gtV f (l.getD i 0) v = false
  | 0, i, h => by cases h
  | k + 1, i, h => by
    unfold posB at h
    by_cases c : gtV f (l.getD k 0) v = true
    · rw [if_pos c] at h
      exact posB_not h
    · rw [if_neg c] at h
      have : k = i := by omega
      subst this
      simpa using c

theorem insAt_perm {v k : Nat} {l : List Nat} : (insAt v l k).Perm (v :: l) := by
  unfold insAt
  have := List.perm_middle (a := v) (l₁ := l.take k) (l₂ := l.drop k)
  rwa [List.take_append_drop] at this
theorem insAt_len {v k : Nat} {l : List Nat} : (insAt v l k).length = l.length + 1 := insAt_perm.length_eq
theorem ordV_snoc {f : Nat → Int} {l : List Nat} {v : Nat} : ordV f (l ++ [v]) = insV f (ordV f l) v := by simp [ordV]

theorem fold_perm {f : Nat → Int} : ∀ {l m : List Nat}, (l.foldl (insV f) m).Perm (m ++ l)
  | [], m => by rw [List.append_nil]; exact List.Perm.refl _
  | v :: l, m => by
    have h := @fold_perm f l (insV f m v)
    refine h.trans ?_
    have h2 : (insV f m v ++ l).Perm ((v :: m) ++ l) := List.Perm.append_right l (insAt_perm (v := v) (l := m))
    exact h2.trans (List.perm_middle (a := v) (l₁ := m) (l₂ := l)).symm
theorem ordV_perm {f : Nat → Int} {l : List Nat} : (ordV f l).Perm l := fold_perm (m := [])
theorem ordV_len {f : Nat → Int} {l : List Nat} : (ordV f l).length = l.length := ordV_perm.length_eq

theorem gtV_irr {f : Nat → Int} {a b : Nat} (h : gtV f a b = true) : gtV f b a = false := by
  unfold gtV at h ⊢
  rw [decide_eq_true_eq] at h
  rw [decide_eq_false_iff_not]
  omega
theorem gtV_tr {f : Nat → Int} {a b c : Nat} (h : gtV f a b = false) (h2 : gtV f b c = false) : gtV f a c = false := by
  unfold gtV at h h2 ⊢
  rw [decide_eq_false_iff_not] at h h2 ⊢
  omega

theorem insV_sorted {f : Nat → Int} {l : List Nat} {v : Nat} (h : l.Pairwise fun a b => gtV f a b = false) : (insV f l v).Pairwise fun a b => gtV f a b = false := by
  unfold insV insAt
  have hle := @posB_le f v l l.length
  have hgt := fun i => @posB_gt f v l l.length i
  have hno := fun i => @posB_not f v l l.length i
  generalize posB f v l l.length = p at hle hgt hno
  rw [List.pairwise_append]
  refine ⟨h.sublist (List.take_sublist _ _), List.pairwise_cons.2 ⟨fun b hb => ?_, h.sublist (List.drop_sublist _ _)⟩, fun a ha b hb => ?_⟩
  · obtain ⟨i, hi, rfl⟩ := List.getElem_of_mem hb
    rw [List.getElem_drop]
    rw [List.length_drop] at hi
    have := hgt (p + i) (by omega) (by omega)
    rw [List.getD_eq_getElem?_getD, List.getElem?_eq_getElem (by omega)] at this
    exact gtV_irr this
  · have hav : gtV f a v = false := by
      obtain ⟨i, hi, rfl⟩ := List.getElem_of_mem ha
      rw [List.length_take] at hi
      rw [List.getElem_take]
      obtain ⟨q, rfl⟩ : ∃ q, p = q + 1 := ⟨p - 1, by omega⟩
      have h1 := hno q rfl
      rw [List.getD_eq_getElem?_getD, List.getElem?_eq_getElem (show q < l.length by omega)] at h1
      by_cases e : i = q
      · subst e; exact h1
      · exact gtV_tr (List.pairwise_iff_getElem.1 h i q (by omega) (by omega) (by omega)) h1
    rcases List.mem_cons.1 hb with rfl | hb
    · exact hav
    · have h3 := List.pairwise_append.1 (by rw [List.take_append_drop]; exact h : (l.take p ++ l.drop p).Pairwise fun a b => gtV f a b = false)
      exact h3.2.2 a ha b hb
theorem ordV_sorted {f : Nat → Int} {l : List Nat} : (ordV f l).Pairwise fun a b => gtV f a b = false := by
  have : ∀ {l m : List Nat}, m.Pairwise (fun a b => gtV f a b = false) → (l.foldl (insV f) m).Pairwise fun a b => gtV f a b = false := by
    intro l
    induction l with
    | nil => exact fun h => h
    | cons v l ih => exact fun h => ih (insV_sorted h)
  exact this (l := l) (m := []) .nil

/-! ### Parts -/

def partF (g : G) : Nat → Nat → List Nat → List (List Nat)
  | 0, _, l => [l]
  | k + 1, c, l => if c = 1 then [l] else
    partF g k (c / 2) ((ordV (valG g (wayG g l).1) l).take (l.length * (c / 2) / c)) ++ partF g k (c - c / 2) ((ordV (valG g (wayG g l).1) l).drop (l.length * (c / 2) / c))
def setL (c : Int) (l : List Nat) (out : List Int) : List Int := l.foldl (fun o v => o.set v c) out
def asgF : List (List Nat) → Nat → List Int → List Int
  | [], _, out => out
  | p :: r, i, out => asgF r (i + 1) (setL i p out)
def mapG (g : G) (c : Nat) : List Int := asgF (partF g c c (List.range g.n)) 0 (List.replicate g.n 0)

theorem asgF_append : ∀ {a b : List (List Nat)} {i : Nat} {out : List Int}, asgF (a ++ b) i out = asgF b (i + a.length) (asgF a i out)
  | [], b, i, out => by simp [asgF]
  | p :: a, b, i, out => by
    show asgF (a ++ b) (i + 1) (setL i p out) = _
    rw [asgF_append]
    show _ = asgF b (i + (a.length + 1)) (asgF a (i + 1) (setL i p out))
    rw [show i + 1 + a.length = i + (a.length + 1) by omega]
theorem setL_len {c : Int} : ∀ {l : List Nat} {out : List Int}, (setL c l out).length = out.length
  | [], out => rfl
  | v :: l, out => by
    show (setL c l (out.set v c)).length = _
    rw [setL_len, List.length_set]
theorem asgF_len : ∀ {a : List (List Nat)} {i : Nat} {out : List Int}, (asgF a i out).length = out.length
  | [], i, out => rfl
  | p :: a, i, out => by
    show (asgF a (i + 1) (setL i p out)).length = _
    rw [asgF_len, setL_len]
theorem mapG_len {g : G} {c : Nat} : (mapG g c).length = g.n := by unfold mapG; rw [asgF_len, List.length_replicate]

theorem setL_get {c : Int} {w : Nat} : ∀ {l : List Nat} {out : List Int}, w < out.length → (setL c l out)[w]? = if w ∈ l then some c else out[w]?
  | [], out, _ => by simp [setL]
  | v :: l, out, h => by
    show (setL c l (out.set v c))[w]? = _
    rw [setL_get (by rw [List.length_set]; exact h)]
    by_cases e : w = v
    · subst e
      rw [List.getElem?_set_self h]
      simp
    · rw [List.getElem?_set_ne (fun h => e h.symm)]
      simp [e]
theorem asgF_out {w : Nat} : ∀ {a : List (List Nat)} {i : Nat} {out : List Int}, w < out.length → (∀ p ∈ a, w ∉ p) → (asgF a i out)[w]? = out[w]?
  | [], i, out, _, _ => rfl
  | p :: a, i, out, h, hw => by
    show (asgF a (i + 1) (setL i p out))[w]? = _
    rw [asgF_out (by rw [setL_len]; exact h) fun p hp => hw p (List.mem_cons_of_mem _ hp), setL_get h, if_neg (hw p List.mem_cons_self)]
theorem asgF_get {w : Nat} : ∀ {a : List (List Nat)} {i j : Nat} {out : List Int}, w < out.length → a.flatten.Nodup → (hj : j < a.length) → w ∈ a[j] → (asgF a i out)[w]? = some ((i + j : Nat) : Int)
  | [], i, j, out, _, _, hj, _ => by simp at hj
  | p :: a, i, 0, out, h, hn, _, hw => by
    replace hw : w ∈ p := hw
    show (asgF a (i + 1) (setL i p out))[w]? = _
    rw [List.flatten_cons, List.nodup_append] at hn
    rw [asgF_out (by rw [setL_len]; exact h) fun q hq hwq => hn.2.2 w hw w (List.mem_flatten.2 ⟨q, hq, hwq⟩) rfl, setL_get h, if_pos hw]
    rfl
  | p :: a, i, j + 1, out, h, hn, hj, hw => by
    show (asgF a (i + 1) (setL i p out))[w]? = _
    rw [List.flatten_cons, List.nodup_append] at hn
    rw [asgF_get (by rw [setL_len]; exact h) hn.2.1 (by simpa using hj) (by simpa using hw)]
    congr 2; omega

theorem partF_len {g : G} : ∀ {k c : Nat} {l : List Nat}, 1 ≤ c → c ≤ k → (partF g k c l).length = c
  | 0, c, l, h1, h2 => by omega
  | k + 1, c, l, h1, h2 => by
    unfold partF
    by_cases e : c = 1
    · rw [if_pos e, e]; rfl
    · rw [if_neg e, List.length_append, partF_len (by omega) (by omega), partF_len (by omega) (by omega)]
      omega
theorem partF_perm {g : G} : ∀ {k c : Nat} {l : List Nat}, (partF g k c l).flatten.Perm l
  | 0, c, l => by unfold partF; simp
  | k + 1, c, l => by
    unfold partF
    by_cases e : c = 1
    · rw [if_pos e]; simp
    · rw [if_neg e, List.flatten_append]
      refine (List.Perm.append partF_perm partF_perm).trans ?_
      rw [List.take_append_drop]
      exact ordV_perm

theorem half_le {m c : Nat} (hc : 2 ≤ c) : m * (c / 2) / c ≤ m := by
  apply Nat.div_le_of_le_mul
  rw [Nat.mul_comm c m]
  exact Nat.mul_le_mul_left m (by omega)

/-- Each part has as many as there are for each, or one more. -/
theorem partF_even {g : G} {q : Nat} : ∀ {k c : Nat} {l : List Nat}, 1 ≤ c → c ≤ k → c * q ≤ l.length → l.length ≤ c * (q + 1) → ∀ p ∈ partF g k c l, q ≤ p.length ∧ p.length ≤ q + 1
  | 0, c, l, h1, h2, _, _ => by omega
  | k + 1, c, l, h1, h2, h3, h4 => by
    intro p hp
    unfold partF at hp
    by_cases e : c = 1
    · rw [if_pos e, List.mem_singleton] at hp
      subst hp; subst e
      exact ⟨by simpa using h3, by simpa using h4⟩
    · rw [if_neg e] at hp
      have hc : 2 ≤ c := by omega
      have hh := half_le (m := l.length) hc
      have lo : c / 2 * q ≤ l.length * (c / 2) / c := by
        rw [Nat.le_div_iff_mul_le (by omega)]
        calc c / 2 * q * c = c * q * (c / 2) := by rw [Nat.mul_comm (c / 2) q, Nat.mul_assoc, Nat.mul_comm (c / 2) c, ← Nat.mul_assoc, Nat.mul_comm q c]
          _ ≤ l.length * (c / 2) := Nat.mul_le_mul_right _ h3
      have hi : l.length * (c / 2) / c ≤ c / 2 * (q + 1) := by
        apply Nat.div_le_of_le_mul
        calc l.length * (c / 2) ≤ c * (q + 1) * (c / 2) := Nat.mul_le_mul_right _ h4
          _ = c * (c / 2 * (q + 1)) := by rw [Nat.mul_assoc, Nat.mul_comm (q + 1)]
      have hd := Nat.div_add_mod (l.length * (c / 2)) c
      have hm := Nat.mod_lt (l.length * (c / 2)) (show 0 < c by omega)
      have ec : c / 2 + (c - c / 2) = c := by omega
      have key : ∀ x : Nat, l.length * (c / 2) + l.length * (c - c / 2) = c * l.length := fun _ => by rw [← Nat.mul_add, ec, Nat.mul_comm]
      have k0 := key 0
      generalize hH : l.length * (c / 2) / c = H at hp hh lo hi hd
      have lo2 : (c - c / 2) * q ≤ l.length - H := by
        -- c * (m - H) ≥ m * c2 ≥ c * q * c2
        have h5 : c * q * (c - c / 2) ≤ l.length * (c - c / 2) := Nat.mul_le_mul_right _ h3
        have h6 : c * (l.length - H) = c * l.length - c * H := Nat.mul_sub _ _ _
        have h7 : c * q * (c - c / 2) = c * ((c - c / 2) * q) := by rw [Nat.mul_assoc, Nat.mul_comm q]
        have h8 : c * ((c - c / 2) * q) ≤ c * (l.length - H) := by
          rw [h6, ← h7]; omega
        exact Nat.le_of_mul_le_mul_left h8 (by omega)
      have hi2 : l.length - H ≤ (c - c / 2) * (q + 1) := by
        have h5 : l.length * (c - c / 2) ≤ c * (q + 1) * (c - c / 2) := Nat.mul_le_mul_right _ h4
        have h6 : c * (l.length - H) = c * l.length - c * H := Nat.mul_sub _ _ _
        have h7 : c * (q + 1) * (c - c / 2) = c * ((c - c / 2) * (q + 1)) := by rw [Nat.mul_assoc, Nat.mul_comm (q + 1)]
        have h8 : c * (l.length - H) < c * ((c - c / 2) * (q + 1) + 1) := by
          rw [h6, Nat.mul_add, ← h7]; omega
        have := Nat.lt_of_mul_lt_mul_left h8
        omega
      rcases List.mem_append.1 hp with hp | hp
      · refine partF_even (k := k) (c := c / 2) (by omega) (by omega) ?_ ?_ p hp
        · rw [List.length_take, ordV_len]; omega
        · rw [List.length_take, ordV_len]; omega
      · refine partF_even (k := k) (c := c - c / 2) (by omega) (by omega) ?_ ?_ p hp
        · rw [List.length_drop, ordV_len]; exact lo2
        · rw [List.length_drop, ordV_len]; exact hi2

end Go.Mh

/-! Cells: how many each has; two of them; moved, and made greater. -/
namespace Go.Mh
open Go

section
variable {g : G} {c : Nat}

theorem mapG_nodup : (partF g c c (List.range g.n)).flatten.Nodup := (partF_perm (g := g)).nodup_iff.2 List.nodup_range

theorem mapG_get {v j : Nat} (hj : j < (partF g c c (List.range g.n)).length) (hv : v ∈ (partF g c c (List.range g.n))[j]) : (mapG g c)[v]? = some (j : Int) := by
  have hvn : v < g.n := by
    have : v ∈ (partF g c c (List.range g.n)).flatten := List.mem_flatten.2 ⟨_, List.getElem_mem hj, hv⟩
    exact List.mem_range.1 ((partF_perm (g := g)).mem_iff.1 this)
  unfold mapG
  rw [asgF_get (by rw [List.length_replicate]; exact hvn) mapG_nodup hj hv]
  simp

theorem mapG_in {v : Nat} (hv : v < g.n) : ∃ j, ∃ hj : j < (partF g c c (List.range g.n)).length, v ∈ (partF g c c (List.range g.n))[j] := by
  have : v ∈ (partF g c c (List.range g.n)).flatten := (partF_perm (g := g)).mem_iff.2 (List.mem_range.2 hv)
  obtain ⟨p, hp, hvp⟩ := List.mem_flatten.1 this
  obtain ⟨j, hj, e⟩ := List.getElem_of_mem hp
  exact ⟨j, hj, by rw [e]; exact hvp⟩

theorem mapG_rng (hc : 1 ≤ c) {v : Nat} (hv : v < g.n) : ∃ j : Nat, (mapG g c)[v]? = some (j : Int) ∧ j < c := by
  obtain ⟨j, hj, hm⟩ := mapG_in (c := c) hv
  exact ⟨j, mapG_get hj hm, by rw [partF_len hc (Nat.le_refl _)] at hj; exact hj⟩

theorem mapG_iff {v j : Nat} (hv : v < g.n) (hj : j < (partF g c c (List.range g.n)).length) : (mapG g c)[v]? = some (j : Int) ↔ v ∈ (partF g c c (List.range g.n))[j] := by
  refine ⟨fun h => ?_, fun h => mapG_get hj h⟩
  obtain ⟨i, hi, hm⟩ := mapG_in (c := c) hv
  rw [mapG_get hi hm] at h
  have : i = j := by have := Option.some.inj h; omega
  subst this
  exact hm

theorem mapG_count (hc : 1 ≤ c) {j : Nat} (hj : j < c) : (mapG g c).count (j : Int) = ((partF g c c (List.range g.n)).getD j []).length := by
  have hlen := partF_len (g := g) (k := c) (c := c) (l := List.range g.n) hc (Nat.le_refl _)
  have hj' : j < (partF g c c (List.range g.n)).length := by omega
  rw [List.getD_eq_getElem?_getD, List.getElem?_eq_getElem hj']
  show _ = (partF g c c (List.range g.n))[j].length
  have hnd : (partF g c c (List.range g.n))[j].Nodup := (List.pairwise_flatten.1 mapG_nodup).1 _ (List.getElem_mem hj')
  have e : mapG g c = (List.range g.n).map fun v => (mapG g c).getD v 0 := by
    apply List.ext_getElem?
    intro i
    by_cases hi : i < g.n
    · simp [hi, List.getD_eq_getElem?_getD, List.getElem?_eq_getElem (show i < (mapG g c).length by rw [mapG_len]; exact hi)]
    · rw [List.getElem?_eq_none (by rw [mapG_len]; omega), List.getElem?_eq_none (by simp; omega)]
  rw [e, List.count_eq_countP, List.countP_map, List.countP_eq_length_filter]
  have : ((List.range g.n).filter ((fun x => x == (j : Int)) ∘ fun v => (mapG g c).getD v 0)).Perm (partF g c c (List.range g.n))[j] := by
    refine (List.perm_ext_iff_of_nodup (List.Pairwise.filter _ List.nodup_range) hnd).2 fun v => ?_
    rw [List.mem_filter, List.mem_range]
    constructor
    · rintro ⟨hv, h⟩
      refine (mapG_iff hv hj').1 ?_
      simp only [Function.comp, beq_iff_eq] at h
      obtain ⟨i, hi, _⟩ := mapG_rng (g := g) hc hv
      rw [hi]
      rw [List.getD_eq_getElem?_getD, hi] at h
      exact congrArg some h
    · intro hm
      have hvn : v < g.n := by
        have : v ∈ (partF g c c (List.range g.n)).flatten := List.mem_flatten.2 ⟨_, List.getElem_mem hj', hm⟩
        exact List.mem_range.1 ((partF_perm (g := g)).mem_iff.1 this)
      refine ⟨hvn, ?_⟩
      have := (mapG_iff hvn hj').2 hm
      simp [List.getD_eq_getElem?_getD, this]
  exact this.length_eq

theorem mapG_even (hc : 1 ≤ c) {j : Nat} (hj : j < c) : (mapG g c).count (j : Int) = g.n / c ∨ (mapG g c).count (j : Int) = g.n / c + 1 := by
  rw [mapG_count hc hj]
  have hlen := partF_len (g := g) (k := c) (c := c) (l := List.range g.n) hc (Nat.le_refl _)
  have hj' : j < (partF g c c (List.range g.n)).length := by omega
  rw [List.getD_eq_getElem?_getD, List.getElem?_eq_getElem hj']
  have h1 := Nat.div_add_mod g.n c
  have h2 := Nat.mod_lt g.n (show 0 < c by omega)
  have := partF_even (g := g) (q := g.n / c) (k := c) (c := c) (l := List.range g.n) hc (Nat.le_refl _) (by rw [List.length_range]; omega) (by rw [List.length_range, Nat.mul_add]; omega) _ (List.getElem_mem hj')
  show (partF g c c (List.range g.n))[j].length = _ ∨ (partF g c c (List.range g.n))[j].length = _
  omega

/-- Two cells: what stands ahead. -/
theorem mapG_two {v w : Nat} (hv : v < g.n) (hw : w < g.n) {a b : Int} (ha : (mapG g 2)[v]? = some a) (hb : (mapG g 2)[w]? = some b) (hab : a < b) : gtV (valG g (wayG g (List.range g.n)).1) v w = false := by
  have e : partF g 2 2 (List.range g.n) = [(ordV (valG g (wayG g (List.range g.n)).1) (List.range g.n)).take (g.n * 1 / 2), (ordV (valG g (wayG g (List.range g.n)).1) (List.range g.n)).drop (g.n * 1 / 2)] := by
    conv => lhs; unfold partF
    rw [if_neg (by decide)]
    show partF g 1 1 _ ++ partF g 1 1 _ = _
    simp [partF]
  obtain ⟨i, hi, him⟩ := mapG_in (c := 2) hv
  obtain ⟨j, hj, hjm⟩ := mapG_in (c := 2) hw
  rw [mapG_get hi him] at ha
  rw [mapG_get hj hjm] at hb
  have ha := Option.some.inj ha
  have hb := Option.some.inj hb
  have hlen : (partF g 2 2 (List.range g.n)).length = 2 := by rw [e]; rfl
  have hi0 : i = 0 := by omega
  have hj1 : j = 1 := by omega
  subst hi0; subst hj1
  have hs := @ordV_sorted (valG g (wayG g (List.range g.n)).1) (List.range g.n)
  have h3 := List.pairwise_append.1 (by rw [List.take_append_drop]; exact hs : ((ordV (valG g (wayG g (List.range g.n)).1) (List.range g.n)).take (g.n * 1 / 2) ++ (ordV (valG g (wayG g (List.range g.n)).1) (List.range g.n)).drop (g.n * 1 / 2)).Pairwise fun a b => gtV (valG g (wayG g (List.range g.n)).1) a b = false)
  refine h3.2.2 v ?_ w ?_
  · have : (partF g 2 2 (List.range g.n))[0] = (ordV (valG g (wayG g (List.range g.n)).1) (List.range g.n)).take (g.n * 1 / 2) := by simp [e]
    rw [this] at him; exact him
  · have : (partF g 2 2 (List.range g.n))[1] = (ordV (valG g (wayG g (List.range g.n)).1) (List.range g.n)).drop (g.n * 1 / 2) := by simp [e]
    rw [this] at hjm; exact hjm

/-- The way of nodes: no other one has more, none ahead as much. -/
theorem wayG_spec {l : List Nat} : (wayG g l).1 < 4 ∧ 0 ≤ (wayG g l).2 ∧ ∀ k, k < 4 → ∀ v ∈ l, ∀ w ∈ l, valG g k v - valG g k w ≤ (wayG g l).2 ∧ (k < (wayG g l).1 → valG g k v - valG g k w < (wayG g l).2) := by
  obtain ⟨h1, h2, h3, h4⟩ := wayB_spec (f := fun d => sprd (valG g d) l) (fun d => sprd_nonneg) (i := 4) (by decide)
  refine ⟨h1, ?_, fun k hk v hv w hw => ?_⟩
  · show 0 ≤ (wayB _ 4).2
    rw [h2]; exact sprd_nonneg
  · have h5 := sprd_two (f := valG g k) hv hw
    have h6 := h3 k hk
    refine ⟨Int.le_trans h5 h6, fun hkd => ?_⟩
    have h7 := h4 k hkd
    exact Int.lt_of_le_of_lt h5 h7
end

/-! ### Moved -/

section
variable {f f' : Nat → Int} {t c : Int} {l : List Nat}

theorem leaF_aff (ht : 0 < t) : ∀ {l : List Nat} {z : Int}, (∀ v ∈ l, f' v = t * f v + c) → leaF f' l (t * z + c) = t * leaF f l z + c
  | [], z, _ => rfl
  | a :: l, z, h => by
    show leaF f' l (min (t * z + c) (f' a)) = t * leaF f l (min z (f a)) + c
    rw [← leaF_aff ht fun v hv => h v (List.mem_cons_of_mem _ hv), h a List.mem_cons_self]
    congr 1
    rcases Int.le_total z (f a) with hz | hz
    · have := Int.mul_le_mul_of_nonneg_left hz (Int.le_of_lt ht)
      rw [Int.min_eq_left hz, Int.min_eq_left (by omega)]
    · have := Int.mul_le_mul_of_nonneg_left hz (Int.le_of_lt ht)
      rw [Int.min_eq_right hz, Int.min_eq_right (by omega)]
theorem mosF_aff (ht : 0 < t) : ∀ {l : List Nat} {z : Int}, (∀ v ∈ l, f' v = t * f v + c) → mosF f' l (t * z + c) = t * mosF f l z + c
  | [], z, _ => rfl
  | a :: l, z, h => by
    show mosF f' l (max (t * z + c) (f' a)) = t * mosF f l (max z (f a)) + c
    rw [← mosF_aff ht fun v hv => h v (List.mem_cons_of_mem _ hv), h a List.mem_cons_self]
    congr 1
    rcases Int.le_total z (f a) with hz | hz
    · have := Int.mul_le_mul_of_nonneg_left hz (Int.le_of_lt ht)
      rw [Int.max_eq_right hz, Int.max_eq_right (by omega)]
    · have := Int.mul_le_mul_of_nonneg_left hz (Int.le_of_lt ht)
      rw [Int.max_eq_left hz, Int.max_eq_left (by omega)]
theorem sprd_aff (ht : 0 < t) (h : ∀ v ∈ l, f' v = t * f v + c) : sprd f' l = t * sprd f l := by
  cases l with
  | nil => show (0 : Int) = t * 0; omega
  | cons x l =>
    show mosF f' (x :: l) (f' x) - leaF f' (x :: l) (f' x) = t * (mosF f (x :: l) (f x) - leaF f (x :: l) (f x))
    rw [h x List.mem_cons_self, mosF_aff ht h, leaF_aff ht h, Int.mul_sub]
    omega
theorem wayB_aff (ht : 0 < t) (h : ∀ d, f' d = t * f d) : ∀ {i : Nat}, (wayB f' i).1 = (wayB f i).1 ∧ (wayB f' i).2 = t * (wayB f i).2
  | 0 => ⟨rfl, by show (0 : Int) = t * 0; omega⟩
  | i + 1 => by
    obtain ⟨h1, h2⟩ := @wayB_aff ht h i
    show (if (wayB f' i).2 < f' i then (i, f' i) else wayB f' i).1 = (if (wayB f i).2 < f i then (i, f i) else wayB f i).1 ∧ (if (wayB f' i).2 < f' i then (i, f' i) else wayB f' i).2 = t * (if (wayB f i).2 < f i then (i, f i) else wayB f i).2
    rw [h2, h i]
    by_cases hc : (wayB f i).2 < f i
    · rw [if_pos hc, if_pos (Int.mul_lt_mul_of_pos_left hc ht)]
      exact ⟨rfl, rfl⟩
    · rw [if_neg hc, if_neg (by have := Int.mul_le_mul_of_nonneg_left (show f i ≤ (wayB f i).2 by omega) (Int.le_of_lt ht); omega)]
      exact ⟨h1, h2⟩
theorem gtV_aff (ht : 0 < t) {a b : Nat} (ha : f' a = t * f a + c) (hb : f' b = t * f b + c) : gtV f' a b = gtV f a b := by
  unfold gtV
  rw [decide_eq_decide, ha, hb]
  constructor
  · rintro (h | ⟨h, h2⟩)
    · exact .inl (Int.lt_of_mul_lt_mul_left (show t * f b < t * f a by omega) (Int.le_of_lt ht))
    · exact .inr ⟨Int.eq_of_mul_eq_mul_left (Int.ne_of_gt ht) (show t * f a = t * f b by omega), h2⟩
  · rintro (h | ⟨h, h2⟩)
    · exact .inl (by have := Int.mul_lt_mul_of_pos_left h ht; omega)
    · exact .inr ⟨by rw [h], h2⟩
theorem posB_congr {v : Nat} {l : List Nat} (h : ∀ u ∈ l, gtV f' u v = gtV f u v) : ∀ {k : Nat}, k ≤ l.length → posB f' v l k = posB f v l k
  | 0, _ => rfl
  | k + 1, hk => by
    unfold posB
    rw [posB_congr h (k := k) (by omega), h (l.getD k 0) (by rw [List.getD_eq_getElem?_getD, List.getElem?_eq_getElem (by omega)]; exact List.getElem_mem _)]
theorem ordV_congr {l : List Nat} (h : ∀ u ∈ l, ∀ v ∈ l, gtV f' u v = gtV f u v) : ordV f' l = ordV f l := by
  have : ∀ {l m : List Nat}, (∀ u, u ∈ m ∨ u ∈ l → ∀ v, v ∈ m ∨ v ∈ l → gtV f' u v = gtV f u v) → l.foldl (insV f') m = l.foldl (insV f) m := by
    intro l
    induction l with
    | nil => exact fun _ => rfl
    | cons v l ih =>
      intro m h
      show l.foldl (insV f') (insV f' m v) = l.foldl (insV f) (insV f m v)
      have e : insV f' m v = insV f m v := by
        unfold insV
        rw [posB_congr (fun u hu => h u (.inl hu) v (.inr List.mem_cons_self)) (Nat.le_refl _)]
      rw [e]
      have sub : ∀ u, u ∈ insV f m v ∨ u ∈ l → u ∈ m ∨ u ∈ v :: l := fun u hu => by
        rcases hu with hu | hu
        · rcases List.mem_cons.1 ((insAt_perm (v := v) (l := m)).mem_iff.1 hu) with e | hu
          · exact .inr (by rw [e]; exact List.mem_cons_self)
          · exact .inl hu
        · exact .inr (List.mem_cons_of_mem _ hu)
      exact ih fun u hu v' hv' => h u (sub u hu) v' (sub v' hv')
  exact this (m := []) fun u hu v hv => h u (hu.resolve_left (by simp)) v (hv.resolve_left (by simp))
end

section
variable {g h : G} {t : Int} {c : Nat → Int}

theorem wayG_aff {l : List Nat} (ht : 0 < t) (hv : ∀ d, ∀ v ∈ l, valG h d v = t * valG g d v + c d) : (wayG h l).1 = (wayG g l).1 := (wayB_aff ht fun d => sprd_aff ht (hv d)).1

theorem partF_aff (ht : 0 < t) : ∀ {k m : Nat} {l : List Nat}, (∀ d, ∀ v ∈ l, valG h d v = t * valG g d v + c d) → partF h k m l = partF g k m l
  | 0, m, l, _ => rfl
  | k + 1, m, l, hv => by
    unfold partF
    rw [wayG_aff ht hv]
    have e : ordV (valG h (wayG g l).1) l = ordV (valG g (wayG g l).1) l := ordV_congr fun u hu v hv' => gtV_aff ht (hv _ u hu) (hv _ v hv')
    rw [e]
    have hm : ∀ v, v ∈ ordV (valG g (wayG g l).1) l → v ∈ l := fun v h => ordV_perm.mem_iff.1 h
    rw [partF_aff ht fun d v h => hv d v (hm v (List.mem_of_mem_take h)), partF_aff ht fun d v h => hv d v (hm v (List.mem_of_mem_drop h))]

theorem mapG_aff {m : Nat} (ht : 0 < t) (hn : h.n = g.n) (hv : ∀ d, ∀ v, v < g.n → valG h d v = t * valG g d v + c d) : mapG h m = mapG g m := by
  unfold mapG
  rw [hn, partF_aff ht fun d v h => hv d v (List.mem_range.1 h)]

/-- Moved by one step, and so many times greater. -/
def movG (g : G) (t a b : Int) : G := ⟨g.n, g.X.map (fun x => t * x + a), g.Y.map (fun y => t * y + b), g.arcs⟩
def movC (a b : Int) (d : Nat) : Int := if d = 0 then a else if d = 1 then b else if d = 2 then a + b else a - b
theorem movG_val {a b : Int} {d v : Nat} (hx : v < g.X.length) (hy : v < g.Y.length) : valG (movG g t a b) d v = t * valG g d v + movC a b d := by
  have e1 : (movG g t a b).X.getD v 0 = t * g.X.getD v 0 + a := by
    show (g.X.map _).getD v 0 = _
    simp [List.getD_eq_getElem?_getD, hx]
  have e2 : (movG g t a b).Y.getD v 0 = t * g.Y.getD v 0 + b := by
    show (g.Y.map _).getD v 0 = _
    simp [List.getD_eq_getElem?_getD, hy]
  unfold valG movC
  rw [e1, e2]
  split
  · rfl
  · split
    · rfl
    · split
      · rw [Int.mul_add]; omega
      · rw [Int.mul_sub]; omega
theorem movG_map {a b : Int} {m : Nat} (ht : 0 < t) (hx : g.X.length = g.n) (hy : g.Y.length = g.n) : mapG (movG g t a b) m = mapG g m :=
  mapG_aff (c := movC a b) ht rfl fun d v hv => movG_val (by omega) (by omega)
end

/-! ### The examples -/

def gS : G := ⟨4, [0, 10, 2, 11], [0, 1, 9, 11], []⟩
theorem gS_right : gS.Right := ⟨by decide, by decide, rfl, rfl, by decide, by decide, by decide, by decide⟩
theorem gS_way : wayG gS [0, 1, 2, 3] = (2, 22) := by decide +kernel
theorem gS_maps : mapG gS 1 = [0, 0, 0, 0] ∧ mapG gS 2 = [0, 0, 1, 1] ∧ mapG gS 4 = [0, 1, 2, 3] := by decide +kernel
def gS3 : G := ⟨3, [5, 5, 5], [7, 7, 7], []⟩
theorem gS3_right : gS3.Right := ⟨by decide, by decide, rfl, rfl, by decide, by decide, by decide, by decide⟩
theorem gS3_ways : wayG gS3 [0, 1, 2] = (0, 0) ∧ mapG gS3 2 = [0, 1, 1] ∧ mapG gS3 5 = [1, 3, 4] := by decide +kernel
def gS4 : G := ⟨4, [2147483647, -2147483648, 2147483647, -2147483648], [2147483647, -2147483648, -2147483648, 2147483647], []⟩
theorem gS4_right : gS4.Right := ⟨by decide, by decide, rfl, rfl, by decide, by decide, by decide, by decide⟩
theorem gS4_ways : wayG gS4 [0, 1, 2, 3] = (2, 8589934590) ∧ wayG gS4 [3] = (0, 0) := by decide +kernel

end Go.Mh

namespace Go.Mh
open Go

section
variable {P : Program} {h0 h h' : Heap} {L : List Res} {i b off n : Nat}

/-- Two rows of parts exchanged. -/
theorem Own.comm : ∀ {L L' : List Res}, Own h0 h (L ++ L') → Own h0 h (L' ++ L)
  | [], L', o => by rw [List.append_nil]; exact o
  | r :: L, L', o => by
    have o1 : Own h0 h ((L ++ L') ++ [r]) := Own.rot o
    rw [List.append_assoc] at o1
    have o2 := Own.comm o1
    rw [List.append_assoc] at o2
    exact o2

/-- As IterG; it has parts of memory of its own, Pr0, which it may turn. -/
def IterP (P : Program) (fv : Value) {σ : Type} (Q : σ → Heap → Prop) (Pr0 : List Res) (s0 : σ) (next : σ → List Value → σ → Prop) (stop : σ → Prop) : Prop :=
  ∀ (yv : Value) (h0 h : Heap) (Rs : List Res) (K : Value → Heap → Prop) (J : σ → List Res → Prop) (E : List Res → Prop), (∃ l, yv = yieldV l) →
    Own h0 h (Rs ++ Pr0) → J s0 Rs → (∀ s Rs' h', J s Rs' → Own h0 h' Rs' → Q s h') →
    (∀ s x s' Rs' Pr h' R, next s x s' → J s Rs' → Own h0 h' (Rs' ++ Pr) → (∀ Rs'' h'', J s' Rs'' → Own h0 h'' (Rs'' ++ Pr) → R (.bool true) h'') →
      (∀ Rs'' h'', E Rs'' → Own h0 h'' (Rs'' ++ Pr) → R (.bool false) h'') → callV P yv x.toArray h' R) →
    (∀ Rs' h', ((∃ s, stop s ∧ J s Rs') ∨ E Rs') → Own h0 h' Rs' → K (.tuple #[]) h') → callF P fv #[yv] h K

theorem IterG.toP {fv : Value} {Q : Heap → Prop} {σ : Type} {s0 : σ} {next : σ → List Value → σ → Prop} {stop : σ → Prop} (H : IterG P fv Q s0 next stop) : IterP P fv (fun _ => Q) [] s0 next stop :=
  fun yv h0 h Rs K J E hy o j0 hQ hY hK => H yv h0 h Rs K J E hy o.toNil j0 hQ hY hK

theorem Own.rangeP {fv : Value} {Pr0 : List Res} {σ : Type} {Q : σ → Heap → Prop} {s0 : σ} {next : σ → List Value → σ → Prop} {stop : σ → Prop} {ps : List Nat} {B : Loop → Vals ps → Heap → (Exit → Heap → Prop) → Prop} {Kn Kr : Heap → Prop} {Ks : List (Nat × (Heap → Prop))}
    (o : Own h0 h (L ++ Pr0)) (hI : IterP P fv Q Pr0 s0 next stop) (hf : ∀ s x s', next s x s' → x.length = ps.length) (J : σ → List Res → Prop) (Er : List Res → Prop) (Ex : Nat → List Res → Prop)
    (j0 : J s0 L) (hQ : ∀ s Rs' h', J s Rs' → Own h0 h' Rs' → Q s h')
    (step : ∀ M s x s' Rs' Pr h' (R : Exit → Heap → Prop), next s x s' → J s Rs' → Own h0 h' (loopR (h.size + 1) (lo M .ready none) :: markR h.size :: (Rs' ++ Pr)) →
      (∀ Rs'' h'', J s' Rs'' → Own h0 h'' (loopR (h.size + 1) (lo M .busy none) :: markR h.size :: (Rs'' ++ Pr)) → R .normal h'') →
      (∀ Rs'' h'', Er Rs'' → Own h0 h'' (loopR (h.size + 1) (lo M .busy none) :: markR h.size :: (Rs'' ++ Pr)) → R .ret h'') →
      (∀ id Rs'' h'', Ex id Rs'' → Own h0 h'' (loopR (h.size + 1) (lo M .busy none) :: markR h.size :: (Rs'' ++ Pr)) → R (.exit id) h'') → B M (valsOf ps x) h' R)
    (fin : ∀ s h' Rs', stop s → J s Rs' → Own h0 h' (markR h.size :: Rs') → Kn h') (finr : ∀ h' Rs', Er Rs' → Own h0 h' (markR h.size :: Rs') → Kr h')
    (finx : ∀ id h' Rs', Ex id Rs' → Own h0 h' (markR h.size :: Rs') → lookK Ks id h') :
    rangeH P fv ps (h.size + 1) (h.push (.deferred (some []))) B Kn Kr Ks := by
  intro M hy
  have e1 : (h.push (.deferred (some []))).size = h.size + 1 := push_size
  have o1 : Own h0 (h.push (.deferred (some []))) (markR h.size :: (L ++ Pr0)) := o.new (r := markR h.size) push_new fun b hb => hb
  have o2 : Own h0 ((h.push (.deferred (some []))).push (lo M .ready none)) (loopR (h.size + 1) (lo M .ready none) :: markR h.size :: (L ++ Pr0)) :=
    o1.new (r := loopR (h.size + 1) (lo M .ready none)) (by show (Array.push _ _)[h.size + 1]? = _; rw [← e1, push_new]) fun b hb => hb.trans e1.symm
  refine hI (yieldV (h.size + 1)) h0 _ _ _ (fun s Rs => ∃ Rs1, Rs = loopR (h.size + 1) (lo M .ready none) :: markR h.size :: Rs1 ∧ J s Rs1)
    (fun Rs => ∃ p Rs1, Rs = loopR (h.size + 1) (lo M .done (some p)) :: markR h.size :: Rs1 ∧ ((p = .ret ∧ Er Rs1) ∨ ∃ id, p = .exit id ∧ Ex id Rs1)) ⟨_, rfl⟩ o2 ⟨L, rfl, j0⟩
    (fun s Rs' h' ⟨Rs1, e, hj⟩ o' => hQ s Rs1 h' hj (by subst e; exact o'.tail.tail)) ?_ ?_
  · rintro s x s' _ Pr h' R hn ⟨Rs1, rfl, hj⟩ o' hT hF
    have hb : h'[h.size + 1]? = some (lo M .ready none) := o'.get 0 rfl
    have := hy (valsOf ps x) h' R .ready none hb
    rw [listV_valsOf (hf _ _ _ hn)] at this
    refine this (step M s x s' Rs1 Pr h' _ hn hj o' ?_ ?_ ?_)
    · intro Rs'' h'' hj' o''
      have hb' : h''[h.size + 1]? = some (lo M .busy none) := o''.get 0 rfl
      have hlt := get_lt hb'
      refine ⟨none, hb', hT (loopR (h.size + 1) (lo M .ready none) :: markR h.size :: Rs'') _ ⟨Rs'', rfl, hj'⟩ ?_⟩
      refine o''.set 0 (r' := loopR (h.size + 1) (lo M .ready none)) rfl (Upd.upd (S := (loopR (h.size + 1) (lo M .busy none)).F) h'' _ rfl) (upd_self hlt) fun c hc => ⟨.inl hc, ?_⟩
      rw [setIf_upd, upd_size]; exact (show c = h.size + 1 from hc) ▸ hlt
    · intro Rs'' h'' hj' o''
      have hb' : h''[h.size + 1]? = some (lo M .busy none) := o''.get 0 rfl
      have hlt := get_lt hb'
      refine ⟨none, hb', hF (loopR (h.size + 1) (lo M .done (some .ret)) :: markR h.size :: Rs'') _ ⟨.ret, Rs'', rfl, .inl ⟨rfl, hj'⟩⟩ ?_⟩
      refine o''.set 0 (r' := loopR (h.size + 1) (lo M .done (some .ret))) rfl (Upd.upd (S := (loopR (h.size + 1) (lo M .busy none)).F) h'' _ rfl) (upd_self hlt) fun c hc => ⟨.inl hc, ?_⟩
      rw [setIf_upd, upd_size]; exact (show c = h.size + 1 from hc) ▸ hlt
    · intro id Rs'' h'' hj' o''
      have hb' : h''[h.size + 1]? = some (lo M .busy none) := o''.get 0 rfl
      have hlt := get_lt hb'
      refine ⟨none, hb', hF (loopR (h.size + 1) (lo M .done (some (.exit id))) :: markR h.size :: Rs'') _ ⟨.exit id, Rs'', rfl, .inr ⟨id, rfl, hj'⟩⟩ ?_⟩
      refine o''.set 0 (r' := loopR (h.size + 1) (lo M .done (some (.exit id)))) rfl (Upd.upd (S := (loopR (h.size + 1) (lo M .busy none)).F) h'' _ rfl) (upd_self hlt) fun c hc => ⟨.inl hc, ?_⟩
      rw [setIf_upd, upd_size]; exact (show c = h.size + 1 from hc) ▸ hlt
  · have close : ∀ {Rs1 : List Res} {h' : Heap} {st : LoopState} {p : Option Code}, Own h0 h' (loopR (h.size + 1) (lo M st p) :: markR h.size :: Rs1) → Own h0 (upd h' (h.size + 1) (lo M .exhausted p)) (markR h.size :: Rs1) := by
      intro Rs1 h' st p o'
      have hb' : h'[h.size + 1]? = some (lo M st p) := o'.get 0 rfl
      have hlt := get_lt hb'
      exact (o'.set 0 (r' := nilR) rfl (Upd.upd (S := (loopR (h.size + 1) (lo M st p)).F) h' (lo M .exhausted p) rfl) trivial fun c hc => hc.elim).tail
    rintro Rs' h' (⟨s, hs, Rs1, rfl, hj⟩ | ⟨p, Rs1, rfl, hp⟩) o'
    · exact ⟨.ready, none, by decide, o'.get 0 rfl, fin _ _ _ hs hj (close o')⟩
    · refine ⟨.done, some p, by decide, o'.get 0 rfl, ?_⟩
      rcases hp with ⟨rfl, he⟩ | ⟨id, rfl, he⟩
      · exact finr _ _ he (close o')
      · exact finx _ _ _ he (close o')

end
end Go.Mh

namespace Go.Mh
open Go
theorem set_same {α : Type} {L : List α} {i : Nat} {r : α} (hi : L[i]? = some r) : L.set i r = L := by
  apply List.ext_getElem?
  intro j
  rw [List.getElem?_set]
  split
  · rename_i e; subst e; rw [hi]; simp [(List.getElem?_eq_some_iff.1 hi).1]
  · rfl

/-- A row of which k from both ends were exchanged. -/
def rv (xs : List Int) (k : Nat) : List Int := (List.range xs.length).map fun m => if m < k ∨ xs.length - k ≤ m then xs.getD (xs.length - 1 - m) 0 else xs.getD m 0
theorem rv_len {xs : List Int} {k : Nat} : (rv xs k).length = xs.length := by simp [rv]
theorem rv_get {xs : List Int} {k m : Nat} (h : m < (rv xs k).length) : (rv xs k)[m] = if m < k ∨ xs.length - k ≤ m then xs.getD (xs.length - 1 - m) 0 else xs.getD m 0 := by simp [rv]
theorem rv_zero {xs : List Int} : rv xs 0 = xs := by
  apply List.ext_getElem rv_len
  intro m h1 h2
  rw [rv_get, if_neg (by omega), List.getD_eq_getElem?_getD, List.getElem?_eq_getElem h2]; rfl
theorem rv_done {xs : List Int} {k : Nat} (h : xs.length ≤ 2 * k + 1) : rv xs k = xs.reverse := by
  apply List.ext_getElem (by rw [rv_len, List.length_reverse])
  intro m h1 h2
  have h3 : m < xs.length := by rw [rv_len] at h1; exact h1
  rw [rv_get, List.getElem_reverse]
  split
  · rw [List.getD_eq_getElem?_getD, List.getElem?_eq_getElem (by omega)]; rfl
  · have e : xs.length - 1 - m = m := by omega
    rw [List.getD_eq_getElem?_getD, List.getElem?_eq_getElem h3]
    simp only [e, Option.getD_some]
theorem rv_step {xs : List Int} {k : Nat} (h : 2 * k + 1 < xs.length) :
    ((rv xs k).set k ((rv xs k)[xs.length - 1 - k]'(by rw [rv_len]; omega))).set (xs.length - 1 - k) ((rv xs k)[k]'(by rw [rv_len]; omega)) = rv xs (k + 1) := by
  apply List.ext_getElem (by simp [rv_len])
  intro m h1 h2
  have h3 : m < xs.length := by rw [rv_len] at h2; exact h2
  rw [List.getElem_set, rv_get h2]
  split
  · rename_i e
    subst e
    rw [rv_get, if_neg (by omega), if_pos (by omega), show xs.length - 1 - (xs.length - 1 - k) = k by omega]
  · rw [List.getElem_set]
    split
    · rename_i e
      subst e
      rw [rv_get, if_neg (by omega), if_pos (by omega)]
    · rw [rv_get]
      by_cases c : m < k ∨ xs.length - k ≤ m
      · rw [if_pos c, if_pos (by omega)]
      · rw [if_neg c, if_neg (by omega)]
end Go.Mh

/-! Queues: slices of which the front is cut off, and to which is appended. -/
namespace Go.Mh
open Go

section
variable {α : Type} {enc : α → List Value} {n : Nat} {T : TypeId} {h0 h h' : Heap} {v w : Value} {ys xs : List α} {K : Value → Prop} {KH : Value → Heap → Prop} {k : IntKind} {i : Nat} {L : List Res}

theorem pSlice_both {x : Value} {lo hi mx : Option Value} {K1 K2 : Value → Prop} (h1 : pSlice n x lo hi mx K1) (h2 : pSlice n x lo hi mx K2) : pSlice n x lo hi mx fun v => K1 v ∧ K2 v := by
  unfold pSlice at *
  split at h1
  · split at h1
    · rename_i e1 e2 e3
      simp only [e1, e2, e3] at h2 ⊢
      exact ⟨h1.1, h1.2.1, h1.2.2.1, h1.2.2.2.1, h1.2.2.2.2.1, h1.2.2.2.2.2, h2.2.2.2.2.2⟩
    · exact h1.elim
  · exact h1.elim

theorem pSlice_mono {x : Value} {lo hi mx : Option Value} {K1 K2 : Value → Prop} (h1 : pSlice n x lo hi mx K1) (h2 : ∀ v, K1 v → K2 v) : pSlice n x lo hi mx K2 := by
  unfold pSlice at *
  split at h1
  · split at h1
    · rename_i e1 e2 e3
      exact ⟨h1.1, h1.2.1, h1.2.2.1, h1.2.2.2.1, h1.2.2.2.2.1, h2 _ h1.2.2.2.2.2⟩
    · exact h1.elim
  · exact h1.elim

theorem pSlice_all {β : Type} {x : Value} {lo hi mx : Option Value} {Q : β → Prop} {K : β → Value → Prop} (b0 : β) (hb : Q b0) (h : ∀ b, Q b → pSlice n x lo hi mx (K b)) : pSlice n x lo hi mx fun v => ∀ b, Q b → K b v := by
  have h1 := h b0 hb
  unfold pSlice at h h1 ⊢
  split at h1
  · split at h1
    · rename_i e1 e2 e3
      simp only [e1, e2, e3] at h ⊢
      exact ⟨h1.1, h1.2.1, h1.2.2.1, h1.2.2.2.1, h1.2.2.2.2.1, fun b hb => (h b hb).2.2.2.2.2⟩
    · exact h1.elim
  · exact h1.elim

/-- A part of a row: it is one wherever the row is. -/
theorem Vw.subA {lo hi : Option Value} {a j : Nat} (he : ∀ a, (enc a).length = n) (H : Vw enc n h v ys) (hlo : bndOf 0 lo = some (a : Int)) (hhi : bndOf ys.length hi = some (j : Int)) (hij : a ≤ j) (hj : j ≤ ys.length)
    (hK : ∀ v', (∀ h', Vw enc n h' v ys → Vw enc n h' v' ((ys.drop a).take (j - a))) → K v') : pSlice n v lo hi none K :=
  pSlice_mono (pSlice_all (Q := fun h' => Vw enc n h' v ys) (K := fun h' v' => Vw enc n h' v' ((ys.drop a).take (j - a))) h H fun h' H' => H'.sub he hlo hhi hij hj fun v' h => h) fun v' h => hK v' h

def QuR (enc : α → List Value) (n : Nat) (T : TypeId) (h : Heap) (v : Value) (ys : List α) : Prop :=
  (v = .slice none 0 0 ∧ ys = []) ∨ ∃ bl cap pre rest, v = .slice (some ⟨bl, pre.length, none⟩) ys.length cap ∧ h[bl]? = some (.cells (pre ++ row enc ys ++ rest).toArray T (0, 0)) ∧
    (cap - ys.length) * n ≤ rest.length ∧ ys.length ≤ cap

def quR (enc : α → List Value) (n : Nat) (T : TypeId) (v : Value) (ys : List α) : Res := ⟨blkOf v, fun h => QuR enc n T h v ys, fun {h h'} hs hq => by
  rcases hq with H | ⟨bl, cap, pre, rest, rfl, hb, a, c⟩
  · exact .inl H
  · exact .inr ⟨bl, cap, pre, rest, rfl, (hs bl rfl).trans hb, a, c⟩⟩

theorem Own.que (o : Own h0 h L) (i : Nat) (hi : L[i]? = some (slR enc n T v xs)) : Own h0 h (L.set i (quR enc n T v xs)) := by
  refine o.conv i hi ?_ fun b hb => hb
  obtain ⟨bl, H⟩ := o.get i hi
  rcases H with H | ⟨cap, rest, rfl, hb, a, c⟩
  · exact .inl H
  · exact .inr ⟨bl, cap, [], rest, rfl, hb, by omega, c⟩

theorem Own.qvw (o : Own h0 h L) (i : Nat) (hi : L[i]? = some (quR enc n T v ys)) : Vw enc n h v ys := by
  rcases o.get i hi with ⟨rfl, rfl⟩ | ⟨bl, cap, pre, rest, rfl, hb, a, c⟩
  · exact .nil
  · exact ⟨bl, _, cap, rfl, c, .inr ⟨_, pre, rest, T, _, rfl, hb, rfl⟩⟩

/-- The first one off. -/
theorem Own.qtail {y : α} {hi' : Option Value} (o : Own h0 h L) (he : ∀ a, (enc a).length = n) (i : Nat) (hi : L[i]? = some (quR enc n T v (y :: ys))) (hh : hi' = none)
    (hK : ∀ v', Own h0 h (L.set i (quR enc n T v' ys)) → K v') : pSlice n v (some (.int k 1)) hi' none K := by
  subst hh
  rcases o.get i hi with ⟨rfl, h⟩ | ⟨bl, cap, pre, rest, rfl, hb, a, c⟩
  · cases h
  · simp only [List.length_cons] at c a
    refine ⟨by simp, by simp, by simp; omega, by simp; omega, by simp, ?_⟩
    refine hK _ (o.conv i hi ?_ ?_)
    · refine .inr ?_
      simp only [List.length_cons, Int.toNat_natCast]
      unfold slBase
      by_cases hc : cap = 1
      · subst hc
        have : ys = [] := List.eq_nil_of_length_eq_zero (by omega)
        subst this
        refine ⟨bl, 0, pre, enc y ++ rest, by simp, by rw [hb]; simp [row], by simp, by simp⟩
      · refine ⟨bl, cap - 1, pre ++ enc y, rest, ?_, by rw [hb]; simp [row], ?_, by omega⟩
        · rw [if_neg (by simp; omega)]; simp [he]
        · rw [show cap - 1 - ys.length = cap - (ys.length + 1) by omega]; exact a
    · intro b hb'
      unfold slBase at hb'
      split at hb'
      · exact hb'
      · exact hb'

/-- One element more. -/
theorem Own.qapp1 {bytes : Nat} {zero zs : List Value} {parts : List (Nat × Nat × Value)} (o : Own h0 h L) (i : Nat) (a : α) (hi : L[i]? = some (quR enc n T v xs)) (hrow : spliceAll zs parts = enc a) (hsz : sizesOk zs.length parts)
    (he : ∀ a, (enc a).length = n) (hp : ∀ a, ∀ u ∈ enc a, plainCell u = true) (hz : zero.length = n) (hby : 0 < bytes) (hb : (xs.length + 1) * bytes ≤ 2 ^ 47)
    (hK : ∀ v' h', Own h0 h' (L.set i (quR enc n T v' (xs ++ [a]))) → KH v' h') : pBuildSlice T zs parts 1 h fun t h1 => pAppend T n bytes zero v t h1 KH := by
  refine o.build (enc := enc) (n := n) [a] (by rw [hrow]; simp [row]) hsz rfl fun w h1 o1 => ?_
  have hi1 : (slR enc n T w [a] :: L)[i + 1]? = some (quR enc n T v xs) := hi
  obtain ⟨xb, xc, rfl, hcx⟩ := (o1.vw 0 rfl).cells he
  have fin : ∀ v' h', Own h0 h' ((slR enc n T (.slice xb [a].length xc) [a] :: L).set (i + 1) (quR enc n T v' (xs ++ [a]))) → KH v' h' := fun v' h' o' => hK v' h' o'.tail
  rcases o1.get (i + 1) hi1 with ⟨rfl, rfl⟩ | ⟨bl, cap, pre, rest, rfl, hbk, hr, hle⟩
  · have o2 := o1.conv (r' := slR enc n T (.slice none 0 0) []) (i + 1) hi1 ⟨0, .inl ⟨rfl, rfl⟩⟩ fun b hb => hb
    refine o2.app (i + 1) (set_get hi1) he hp hz (o1.vw 0 rfl) hby (by simpa using hb) fun v' h' o3 => ?_
    rw [List.set_set] at o3
    have o4 := o3.que (i + 1) (set_get hi1)
    rw [List.set_set] at o4
    exact fin v' h' o4
  · simp only [pAppend, List.length_singleton] at hcx ⊢
    rw [hcx]
    have hrx := row_length he xs
    have hra : (row enc [a]).length = n := by simp [row, he]
    have hpl : ∀ u ∈ row enc [a], plainCell u = true := by
      intro u hu; simp [row] at hu; exact hp a u hu
    have hblt := get_lt hbk
    dsimp only
    by_cases hcap : xs.length + 1 ≤ cap
    · rw [if_pos hcap]
      have hn : n ≤ rest.length := by
        refine Nat.le_trans ?_ hr
        exact Nat.le_mul_of_pos_left n (by omega)
      refine storeL_of _ _ _ _ hbk (by simp only [List.length_append]; rw [hrx, hra]; omega) hpl ?_
      have ov : over (pre ++ row enc xs ++ rest) (pre.length + xs.length * n) (row enc [a]) = pre ++ row enc (xs ++ [a]) ++ rest.drop n := by
        unfold over
        rw [hra, row_append]
        rw [show pre.length + xs.length * n = (pre ++ row enc xs).length by simp [hrx]]
        rw [List.take_left', List.drop_append, List.drop_of_length_le (by omega)]
        · rw [show (pre ++ row enc xs).length + n - (pre ++ row enc xs).length = n by omega]; simp
        · rfl
      rw [ov]
      refine fin _ _ (o1.set (i + 1) hi1 (Upd.upd _ _ rfl) (.inr ⟨bl, cap, pre, rest.drop n, by simp, upd_self' hbk, ?_, by simpa using hcap⟩) fun b hb => ⟨.inl hb, by rw [upd_size]; exact (show b = bl from hb) ▸ hblt⟩)
      rw [List.length_drop, List.length_append, List.length_singleton]
      rw [show cap - (xs.length + 1) = cap - xs.length - 1 by omega, Nat.sub_mul]; omega
    · rw [if_neg hcap]
      obtain ⟨b0, c0, e0, hl⟩ := (o1.qvw (i + 1) hi1).cells he
      injection e0 with e0 _ _
      subst e0
      rw [hl]
      have hc' : cap < xs.length + 1 := by omega
      refine ⟨growslice_fits hc' (by omega), by have := Nat.le_mul_of_pos_right (xs.length + 1) hby; omega, fun c h1' h2 => ?_⟩
      refine fin _ _ (o1.set (i + 1) hi1 (Upd.push _ _ _) (.inr ⟨h1.size, c, [], zerosL zero (c - (xs.length + 1)), by simp, ?_, ?_, by simpa using h1'⟩) fun b hb => ⟨.inr (by rw [show b = h1.size from hb]; exact Nat.le_refl _), by rw [show b = h1.size from hb, push_size]; omega⟩)
      · rw [push_new, row_append]; simp [row]
      · simp [zerosL, hz]

/-- The end of one's own row cleared. -/
theorem Own.clearTail {xs : List Int} {j : Nat} {a : Int} (o : Own h0 h L) (i : Nat) (hi : L[i]? = some (slR encI 1 T v xs)) (hj : j ≤ xs.length)
    (hK : ∀ h', Own h0 h' (L.set i (slR encI 1 T v (xs.take j ++ List.replicate (xs.length - j) a))) → KH (.tuple #[]) h') : pSlice 1 v (some (.int k j)) none none fun t => pClear [I a] t h KH := by
  have hrow : ∀ l : List Int, row encI l = l.map I := fun l => by
    induction l with
    | nil => rfl
    | cons a l ih => simp only [row, List.flatMap_cons, List.map_cons] at ih ⊢; rw [ih]; rfl
  have same : j = xs.length → L.set i (slR encI 1 T v (xs.take j ++ List.replicate (xs.length - j) a)) = L := fun e => by
    subst e
    rw [List.take_length, Nat.sub_self, List.replicate_zero, List.append_nil]
    apply List.ext_getElem?
    intro q
    rw [List.getElem?_set]
    split
    · rename_i e; subst e; rw [hi]; simp [(List.getElem?_eq_some_iff.1 hi).1]
    · rfl
  obtain ⟨bl, H⟩ := o.get i hi
  rcases H with ⟨rfl, rfl⟩ | ⟨cap, rest, rfl, hb, hr, hle⟩
  · have e0 : j = 0 := by simpa using hj
    subst e0
    refine ⟨by simp, by simp, by simp, by simp, by simp, ?_⟩
    have e : slBase 1 (Int.toNat ((0 : Nat) : Int)) (Int.toNat ((0 : Nat) : Int)) none = none := by simp [slBase]
    rw [e]
    show KH (.tuple #[]) h
    exact hK h (by rw [same rfl]; exact o)
  · have hblt := get_lt hb
    refine ⟨by simp, by simp, by simp; omega, by simp; omega, by simp, ?_⟩
    simp only [Int.toNat_natCast]
    by_cases e : xs.length = j
    · have hlen : xs.length - j = 0 := by omega
      have ho := hK h (by rw [same e.symm]; exact o)
      rw [hlen]
      unfold slBase
      split
      · exact ho
      · exact ho
    · have hb2 : slBase 1 j cap (some ⟨bl, 0, none⟩) = some ⟨bl, j, none⟩ := by
        unfold slBase; rw [if_neg (by omega)]; simp
      rw [hb2]
      obtain ⟨q, hq⟩ : ∃ q, xs.length - j = q + 1 := ⟨xs.length - j - 1, by omega⟩
      rw [hq]
      show storeL h bl j (zerosL [I a] (q + 1)) (KH (.tuple #[]))
      rw [← hq]
      have hz : zerosL [I a] (xs.length - j) = List.replicate (xs.length - j) (I a) := by simp [zerosL]
      rw [hz]
      refine storeL_of _ _ _ _ hb (by rw [List.length_append, hrow]; simp; omega) (fun u hu => by rw [List.eq_of_mem_replicate hu]; rfl) ?_
      have ov : over (row encI xs ++ rest) j (List.replicate (xs.length - j) (I a)) = row encI (xs.take j ++ List.replicate (xs.length - j) a) ++ rest := by
        rw [hrow, hrow]
        unfold over
        have hl : (List.map (fun x => I x) xs).length = xs.length := by simp
        rw [List.length_replicate, List.take_append_of_le_length (by rw [hl]; omega), show j + (xs.length - j) = (List.map (fun x => I x) xs).length by rw [hl]; omega, List.drop_left']
        · simp [List.map_take]
        · rfl
      rw [ov]
      refine hK _ (o.set i hi (Upd.upd _ _ rfl) ⟨bl, .inr ⟨cap, rest, by simp; omega, upd_self hblt, by simp; rw [hr]; congr 1; simp; omega, by simp; omega⟩⟩ fun b hb' => ⟨.inl hb', by rw [upd_size]; exact (show b = bl from hb') ▸ hblt⟩)

/-- A front part of one's own row. -/
theorem Own.pre {j : Nat} (o : Own h0 h L) (he : ∀ a, (enc a).length = n) (i : Nat) (hi : L[i]? = some (slR enc n T v xs)) (hj : j ≤ xs.length)
    (hK : ∀ v', Own h0 h (L.set i (slR enc n T v' (xs.take j))) → K v') : pSlice n v none (some (.int k j)) none K := by
  obtain ⟨bl, H⟩ := o.get i hi
  have H0 := H
  rcases H with ⟨rfl, rfl⟩ | ⟨cap, rest, rfl, hb, hr, hle⟩
  · have : j = 0 := by simpa using hj
    subst this
    refine ⟨by simp, by simp, by simp, by simp, by simp, hK _ (o.conv i hi ⟨bl, ?_⟩ ?_)⟩
    · exact .inl ⟨by simp [slBase], by simp⟩
    · intro b hb; simp [slBase, slR, blkOf] at hb
  · exact H0.pre he hj fun v' H' => hK v' (o.conv i hi ⟨bl, H'⟩ fun b hb => H'.blk hb)

/-- A front part of one's own row, and no more room than that. -/
theorem Own.qcut {j : Nat} {k' : IntKind} (o : Own h0 h L) (he : ∀ a, (enc a).length = n) (i : Nat) (hi : L[i]? = some (slR enc n T v xs)) (hj : j ≤ xs.length)
    (hK : ∀ v', Own h0 h (L.set i (quR enc n T v' (xs.take j))) → K v') : pSlice n v none (some (.int k j)) (some (.int k' j)) K := by
  obtain ⟨bl, H⟩ := o.get i hi
  rcases H with ⟨rfl, rfl⟩ | ⟨cap, rest, rfl, hb, hr, hle⟩
  · have : j = 0 := by simpa using hj
    subst this
    refine ⟨by simp, by simp, by simp, by simp, by simp, hK _ (o.conv i hi ?_ ?_)⟩
    · exact .inl ⟨by simp [slBase], by simp⟩
    · intro b hb; simp [slBase, quR, blkOf] at hb
  · have e : slBase n 0 j (some ⟨bl, 0, none⟩) = some ⟨bl, 0, none⟩ := by simp [slBase]
    refine ⟨by simp, by simp, by simp, by simp, by omega, ?_⟩
    have e2 : (Value.slice (slBase n (Int.toNat (0 : Nat)) (Int.toNat (j : Int)) (some ⟨bl, 0, none⟩)) ((j : Int).toNat - (Int.toNat (0 : Nat))) ((j : Int).toNat - (Int.toNat (0 : Nat)))) = .slice (some ⟨bl, 0, none⟩) j j := by
      simp [e]
    rw [e2]
    refine hK _ (o.conv i hi ?_ fun b hb => hb)
    refine .inr ⟨bl, j, [], row enc (xs.drop j) ++ rest, by simp [hj], ?_, by simp [hj], by simp [hj]⟩
    rw [hb, List.nil_append, ← List.append_assoc, ← row_append, List.take_append_drop]

/-- A number set. -/
theorem Own.qsetI {xs : List Int} {z : Int} {j : Nat} (o : Own h0 h L) (i : Nat) (hi : L[i]? = some (quR encI 1 T v xs)) (hj : j < xs.length)
    (hK : ∀ h', Own h0 h' (L.set i (quR encI 1 T v (xs.set j z))) → KH undef h') : pIdx 1 v (.int k j) fun t => pStore 1 t (I z) h KH := by
  rcases o.get i hi with ⟨rfl, rfl⟩ | ⟨bl, cap, pre, rest, rfl, hb, hr, hle⟩
  · cases hj
  · have hblt := get_lt hb
    have hrow : ∀ l : List Int, row encI l = l.map I := fun l => by
      induction l with
      | nil => rfl
      | cons a l ih => simp only [row, List.flatMap_cons, List.map_cons] at ih ⊢; rw [ih]; rfl
    refine ⟨by omega, by omega, ?_⟩
    refine pStore_of (cs := pre ++ row encI xs ++ rest) (i := pre.length + j) (by simp) hb rfl (by rw [hrow]; simp [Value.cells]; omega) (fun u hu => by simp [Value.cells] at hu; subst hu; rfl) ?_
    refine hK _ (o.set i hi (Upd.upd _ _ rfl) (.inr ⟨bl, cap, pre, rest, by simp, ?_, by simpa using hr, by simpa using hle⟩) fun b hb' => ⟨.inl hb', by rw [upd_size]; exact (show b = bl from hb') ▸ hblt⟩)
    rw [upd_self hblt]
    have : over (pre ++ row encI xs ++ rest) (pre.length + j) (Value.cells (I z)).toList = pre ++ row encI (xs.set j z) ++ rest := by
      rw [hrow, hrow]
      have hc : (Value.cells (I z)).toList = [I z] := rfl
      rw [hc]
      unfold over
      have hl : (List.map (fun x => I x) xs).length = xs.length := by simp
      rw [List.append_assoc pre, List.length_singleton, Nat.add_assoc, List.take_length_add_append, List.drop_length_add_append, List.take_append_of_le_length (by rw [hl]; omega), List.drop_append_of_le_length (by rw [hl]; omega),
        List.set_eq_take_append_cons_drop, if_pos hj]
      simp [List.map_take, List.map_drop]
    rw [this]

/-- The first one off, and no more room than there are. -/
theorem Own.qtail3 {y : α} {m : Int} {k' k'' : IntKind} (o : Own h0 h L) (he : ∀ a, (enc a).length = n) (i : Nat) (hi : L[i]? = some (quR enc n T v (y :: ys))) (hm : m = ys.length + 1)
    (hK : ∀ v', Own h0 h (L.set i (quR enc n T v' ys)) → K v') : pSlice n v (some (.int k 1)) (some (.int k' m)) (some (.int k'' m)) K := by
  subst hm
  rcases o.get i hi with ⟨rfl, h⟩ | ⟨bl, cap, pre, rest, rfl, hb, a, c⟩
  · cases h
  · simp only [List.length_cons] at c a
    refine ⟨fun _ => rfl, by decide, by omega, Int.le_refl _, by omega, ?_⟩
    have e1 : (Int.toNat (1 : Int)) = 1 := rfl
    have e2 : ((ys.length : Int) + 1).toNat = ys.length + 1 := by omega
    rw [e1, e2, Nat.add_sub_cancel]
    refine hK _ (o.conv i hi ?_ ?_)
    · refine .inr ?_
      unfold slBase
      by_cases hc : ys.length = 0
      · have : ys = [] := List.eq_nil_of_length_eq_zero hc
        subst this
        refine ⟨bl, 0, pre, enc y ++ rest, by simp, by rw [hb]; simp [row], by simp, by simp⟩
      · refine ⟨bl, ys.length, pre ++ enc y, rest, ?_, by rw [hb]; simp [row], by simp, Nat.le_refl _⟩
        rw [if_neg (by omega)]; simp [he]
    · intro b hb'
      unfold slBase at hb'
      split at hb'
      · exact hb'
      · exact hb'

/-- A row copied into another one of the same length. -/
theorem Own.copyAll {x : Value} {xs ys : List α} (o : Own h0 h L) (i : Nat) (hi : L[i]? = some (slR enc n T v xs)) (he : ∀ a, (enc a).length = n) (hp : ∀ a, ∀ u ∈ enc a, plainCell u = true) (hx : Vw enc n h x ys) (hl : xs.length = ys.length)
    (hK : ∀ h', Own h0 h' (L.set i (slR enc n T v ys)) → KH (.int .i64 ys.length) h') : pCopy n v x h KH := by
  obtain ⟨xb, xc, rfl, hcx⟩ := hx.cells he
  obtain ⟨bl, H⟩ := o.get i hi
  have H0 := H
  rcases H with ⟨rfl, rfl⟩ | ⟨cap, rest, rfl, hb, hr, hle⟩
  · have : ys = [] := List.eq_nil_of_length_eq_zero hl.symm
    subst this
    unfold pCopy
    have : cellsOfSl h n (Nat.min ([] : List α).length 0) xb = some [] := by
      have e : (Nat.min ([] : List α).length 0) = ([] : List α).length := rfl
      rw [e, hcx]; rfl
    simp only [this]
    refine hK h ?_
    have : L.set i (slR enc n T (.slice none 0 0) []) = L := by
      apply List.ext_getElem?
      intro q
      rw [List.getElem?_set]
      split
      · rename_i e; subst e; rw [hi]; simp [(List.getElem?_eq_some_iff.1 hi).1]
      · rfl
    rw [this]; exact o
  · unfold pCopy
    have hmin : Nat.min ys.length xs.length = ys.length := by rw [hl]; exact Nat.min_self _
    simp only [hmin, hcx]
    have hz : (0 : Nat) = 0 * n := by simp
    rw [hz]
    refine o.storeRow i hi he hp H0 rfl (by omega) fun h' o' => hK h' ?_
    have e : xs.take 0 ++ ys ++ xs.drop (0 + ys.length) = ys := by
      rw [List.take_zero, List.nil_append, Nat.zero_add, List.drop_of_length_le (by omega), List.append_nil]
    rw [e] at o'
    exact o'

end
end Go.Mh

namespace Go.Mh
open Go Go.ChangeShapes Go.WideShapes Go.ChangeAt Go.RowKit

section
variable {H : Type} {encD : TypeId × Value → H} {P : Program} {w : World} {e t : TypeId} {v : Value} {r : Reach} {base : Nat} {d : DataW H} {p : List MemPlace}

/-- An array of three numbers, given. -/
theorem arr3_of {k : IntKind} (ht : P.underlying t = some (.array 3 e)) (he : P.underlying e = some (.int k)) (hct : P.cellsOf t = 3) (hce : P.cellsOf e = 1) (hv : Value.okWide P w r base t v) (hd : DataW.Trod encD P w 0 (fun _ => true) true t v d p) :
    ∃ a b c : Int, v = .agg #[.int k a, .int k b, .int k c] ∧ (k.min ≤ a ∧ a ≤ k.max) ∧ (k.min ≤ b ∧ b ≤ k.max) ∧ (k.min ≤ c ∧ c ≤ k.max) := by
  simp only [Value.okWide, ht] at hv
  obtain ⟨cs, rfl, hsz, _⟩ := hv
  rw [hct] at hsz
  obtain ⟨l⟩ := cs
  match l, hsz with
  | [c0, c1, c2], _ =>
    obtain ⟨fuel, hf⟩ := hd
    cases fuel with
    | zero => simp [DataW.trod] at hf
    | succ n =>
      simp only [Value.cells] at hf
      unfold DataW.trod at hf
      rw [ht] at hf
      have r3 : List.range 3 = [0, 1, 2] := rfl
      simp [r3, hce] at hf
      obtain ⟨_, hf⟩ := hf
      cases h0 : DataW.trod encD P w 0 (fun _ => true) true n e [c0] with
      | none => simp [h0] at hf
      | some y0 =>
        cases h1 : DataW.trod encD P w 0 (fun _ => true) true n e [c1] with
        | none => simp [h0, h1] at hf
        | some y1 =>
          cases h2 : DataW.trod encD P w 0 (fun _ => true) true n e [c2] with
          | none => simp [h0, h1, h2] at hf
          | some y2 =>
            obtain ⟨a, ea, ra⟩ := dec_int (k := k) he _ _ _ h0
            obtain ⟨b, eb, rb⟩ := dec_int (k := k) he _ _ _ h1
            obtain ⟨c, ec, rc⟩ := dec_int (k := k) he _ _ _ h2
            simp only [List.cons.injEq, and_true] at ea eb ec
            subst ea eb ec
            exact ⟨a, b, c, rfl, ra, rb, rc⟩

end
end Go.Mh

namespace Go.Mh
open Go Go.ChangeShapes Go.WideShapes Go.ChangeAt Go.RowKit

section
variable {H : Type} {encD : TypeId × Value → H} {P : Program} {w : World} {α : Type} {enc : α → List Value} {ok : α → Prop} {n : Nat} {e t : TypeId} {v : Value} {r : Reach} {base : Nat} {d : DataW H} {p : List MemPlace} {cs : List Value}

theorem view_at {fuel : Nat} {x0 : DataW H × List MemPlace} (he : ∀ a, (enc a).length = n) (ht : P.underlying t = some (.slice e)) (hn : P.cellsOf e = n) (hpos : 0 < n)
    (hdec : ∀ fuel cs x, DataW.trod encD P w 0 (fun _ => true) true fuel e cs = some x → ∃ a, cs = enc a ∧ ok a)
    (hf : DataW.trod encD P w 0 (fun _ => true) true fuel t [v] = some x0) (hsp0 : ∀ a l c, v = .slice (some a) l c → a.spot = none) :
    ∃ bl xs, VwR enc n w.heap v bl xs ∧ (∀ a ∈ xs, ok a) ∧ xs.length ≤ maxLen := by
  rcases Go.Deep.open_slice ht hf with ⟨hc, _⟩ | ⟨a, len, cap, m, fuel', D, Pl, hc, _, hle, hmx, hm, _, hx⟩
  · simp only [List.cons.injEq, and_true] at hc
    subst hc
    exact ⟨0, [], ⟨none, 0, rfl, Nat.le_refl _, .inl ⟨rfl, .inl rfl⟩⟩, by simp, by simp⟩
  · simp only [List.cons.injEq, and_true] at hc
    subst hc
    have hsp := hsp0 a len cap rfl
    simp only [if_true] at hm
    subst hm
    have hall : ∀ i, i < len → ∃ x : α, w.cells? 0 (a.add (i * n)) n = some (enc x) ∧ ok x := by
      intro i hi
      obtain ⟨cs', h1, h2⟩ := hx i (by omega)
      obtain ⟨x, rfl, hok⟩ := hdec _ _ _ h2
      rw [hn] at h1
      exact ⟨x, h1, hok⟩
    obtain ⟨xs, hl, hxs⟩ := choose_list (Q := fun i x => w.cells? 0 (a.add (i * n)) n = some (enc x) ∧ ok x) len hall
    refine ⟨a.block, xs, ?_, fun x hx' => ?_, by omega⟩
    · refine ⟨some a, m, by rw [hl], by omega, ?_⟩
      have ha : a = ⟨a.block, a.off, none⟩ := by
        obtain ⟨b, o, s⟩ := a; simp only at hsp; subst hsp; rfl
      by_cases h0 : xs = []
      · exact .inl ⟨h0, .inr ⟨_, _, by rw [← ha]⟩⟩
      · right
        have hlp : 0 < xs.length := List.length_pos_iff.2 h0
        have hcell : ∀ i (hi : i < xs.length) j, j < n → w.cell? ⟨a.block, a.off + i * n + j, none⟩ = (enc xs[i])[j]? := by
          intro i hi j hj
          have h1 := (hxs i hi).1
          unfold World.cells? at h1
          rw [if_pos (Nat.zero_le _), add_plain hsp] at h1
          have := mapM_get h1 j j (by simp [hj])
          rw [add_plain rfl] at this
          exact this
        have h00 := hcell 0 hlp 0 hpos
        simp only [World.cell?] at h00
        have hblk : ∃ c T fz, w.heap[a.block]? = some (.cells c T fz) := by
          split at h00
          · rename_i c T fz hb; exact ⟨c, T, fz, hb⟩
          · rw [List.getElem?_eq_getElem (by rw [he]; exact hpos)] at h00; cases h00
        obtain ⟨c, T, fz, hb⟩ := hblk
        have hcc : ∀ i (hi : i < xs.length) j, j < n → c[a.off + i * n + j]? = (enc xs[i])[j]? := by
          intro i hi j hj
          have := hcell i hi j hj
          simpa [World.cell?, hb] using this
        have hrl := row_length he xs
        have hmid : (c.toList.drop a.off).take (xs.length * n) = row enc xs := by
          apply List.ext_getElem?
          intro k
          by_cases hk : k < xs.length * n
          · have hi : k / n < xs.length := (Nat.div_lt_iff_lt_mul hpos).2 hk
            have hj : k % n < n := Nat.mod_lt _ hpos
            have hkk : k / n * n + k % n = k := by rw [Nat.mul_comm]; exact Nat.div_add_mod k n
            have g := row_get he hi hj []
            rw [List.append_nil, hkk] at g
            rw [g, ← hcc _ hi _ hj, List.getElem?_take_of_lt hk, List.getElem?_drop, Nat.add_assoc, hkk]
            simp
          · rw [List.getElem?_eq_none (by simp; omega), List.getElem?_eq_none (by omega)]
        have hsize : a.off + xs.length * n ≤ c.size := by
          have hi : xs.length - 1 < xs.length := by omega
          have h1 := hcc (xs.length - 1) hi (n - 1) (by omega)
          rw [List.getElem?_eq_getElem (by rw [he]; omega)] at h1
          have h2 := (Array.getElem?_eq_some_iff.1 h1).1
          have h3 : (xs.length - 1) * n + n = xs.length * n := by rw [← Nat.succ_mul]; congr 1; omega
          omega
        refine ⟨a.off, c.toList.take a.off, c.toList.drop (a.off + xs.length * n), T, fz, by rw [← ha], ?_, by simp; omega⟩
        rw [hb, ← hmid]
        have : c.toList.take a.off ++ (c.toList.drop a.off).take (xs.length * n) ++ c.toList.drop (a.off + xs.length * n) = c.toList := by
          rw [← List.drop_drop, List.append_assoc, List.take_append_drop, List.take_append_drop]
        rw [this]
    · obtain ⟨i, hi, rfl⟩ := List.mem_iff_getElem.1 hx'
      exact (hxs i hi).2


/-- Cells of a type, given: they can be gone through, and slices among them begin at no spot. -/
def Opn (encD : TypeId × Value → H) (P : Program) (w : World) (t : TypeId) (cs : List Value) : Prop :=
  (∃ fuel x, DataW.trod encD P w 0 (fun _ => true) true fuel t cs = some x) ∧ ∀ v ∈ cs, ∀ a l c, v = .slice (some a) l c → a.spot = none

theorem cell_spot {a : Addr} {l c : Nat} (h : Cell.okWide P w r base t (.slice (some a) l c)) : a.spot = none := by
  unfold Cell.okWide at h
  cases hu : P.underlying t with
  | none => simp [hu, Cell.ok] at h
  | some u =>
    cases u <;> simp [hu, Cell.ok] at h
    exact h.2.2.2.1

theorem Opn.of_slice (ht : P.underlying t = some (.slice e)) (hv : Value.okWide P w r base t v) (hd : DataW.Trod encD P w 0 (fun _ => true) true t v d p) : Opn encD P w t [v] := by
  obtain ⟨a0, len0, cap0, rfl⟩ := okWide_slice ht hv
  obtain ⟨fuel, hf⟩ := hd
  refine ⟨⟨fuel, _, hf⟩, fun v hv' a l c e' => ?_⟩
  simp at hv'
  subst hv'
  injection e' with e1 e2 e3
  subst e1
  exact okWide_slice_spot ht hv

def isAgg (P : Program) (t : TypeId) : Bool := match P.underlying t with
  | some (.struct _) | some (.array _ _) => true
  | _ => false

theorem agg_of (ha : isAgg P t = true) (hn : P.cellsOf t = n) (hv : Value.okWide P w r base t v) (hd : DataW.Trod encD P w 0 (fun _ => true) true t v d p) :
    ∃ cs : List Value, v = .agg cs.toArray ∧ cs.length = n ∧ Opn encD P w t cs := by
  have : ∃ cs, v = .agg cs ∧ cs.size = P.cellsOf t ∧ Row.okWide P w r base t cs := by
    unfold Value.okWide at hv
    unfold isAgg at ha
    split at hv
    · exact hv
    · exact hv
    · rename_i h1 h2
      split at ha
      · rename_i h3; exact absurd h3 (h1 _)
      · rename_i h3; exact absurd h3 (h2 _ _)
      · cases ha
  obtain ⟨cs, rfl, hs, ts, _, _, hc⟩ := this
  obtain ⟨fuel, hf⟩ := hd
  refine ⟨cs.toList, by simp, by simpa [hn] using hs, ⟨fuel, _, hf⟩, fun v hv a l c e => ?_⟩
  obtain ⟨i, hi⟩ := List.getElem?_of_mem hv
  obtain ⟨u, _, hu⟩ := hc i v (by simpa using hi)
  rw [e] at hu
  exact cell_spot hu

def fieldOf (P : Program) (t : TypeId) (i : Nat) : Option (TypeId × Nat) := match P.underlying t with
  | some (.struct fs) => fs.toList[i]?.map fun f => (f.type, f.offset)
  | _ => none

theorem Opn.field (O : Opn encD P w t cs) (i : Nat) {ft : TypeId} {off : Nat} {cs' : List Value} (hf : fieldOf P t i = some (ft, off)) (hn : P.cellsOf ft = n) (hcs : (cs.drop off).take n = cs') : Opn encD P w ft cs' := by
  obtain ⟨⟨fuel, x, h⟩, hs⟩ := O
  unfold fieldOf at hf
  split at hf
  · rename_i fs ht
    obtain ⟨xs, m, rfl, _, _, _, hfs⟩ := DataW.trod_struct ht h
    simp only [Option.map_eq_some_iff] at hf
    obtain ⟨f, hi, e⟩ := hf
    injection e with e1 e2
    subst e1 e2 hn hcs
    refine ⟨⟨m, ?_⟩, fun v hv => hs v (List.mem_of_mem_drop (List.mem_of_mem_take hv))⟩
    have hh := hfs i f (by simpa using hi)
    obtain ⟨y, hy⟩ : ∃ y, xs[i]? = some y := by
      have : i < xs.length := by
        have := (List.getElem?_eq_some_iff.1 hi).1
        simp_all
      exact ⟨_, List.getElem?_eq_getElem this⟩
    exact ⟨y, by rw [hh, hy]⟩
  · cases hf

theorem Opn.elem {m : Nat} (O : Opn encD P w t cs) (i : Nat) {cs' : List Value} (ht : P.underlying t = some (.array m e)) (hi : i < m) (hn : P.cellsOf e = n) (hcs : (cs.drop (i * n)).take n = cs') : Opn encD P w e cs' := by
  obtain ⟨⟨fuel, x, h⟩, hs⟩ := O
  obtain ⟨xs, k, rfl, _, _, hl, hfs⟩ := DataW.trod_array ht h
  subst hn hcs
  refine ⟨⟨k, xs[i], ?_⟩, fun v hv => hs v (List.mem_of_mem_drop (List.mem_of_mem_take hv))⟩
  rw [hfs i hi, List.getElem?_eq_getElem (by omega)]

theorem Opn.int {k : IntKind} (O : Opn encD P w t [v]) (ht : P.underlying t = some (.int k)) : ∃ a : Int, v = .int k a ∧ k.min ≤ a ∧ a ≤ k.max := by
  obtain ⟨⟨fuel, x, h⟩, _⟩ := O
  obtain ⟨a, e, r⟩ := dec_int ht _ _ _ h
  simp only [List.cons.injEq, and_true] at e
  exact ⟨a, e, r⟩

theorem Opn.view (he : ∀ a, (enc a).length = n) (O : Opn encD P w t [v]) (ht : P.underlying t = some (.slice e)) (hn : P.cellsOf e = n) (hpos : 0 < n)
    (hdec : ∀ fuel cs x, DataW.trod encD P w 0 (fun _ => true) true fuel e cs = some x → ∃ a, cs = enc a ∧ ok a) : ∃ bl xs, VwR enc n w.heap v bl xs ∧ (∀ a ∈ xs, ok a) ∧ xs.length ≤ maxLen := by
  obtain ⟨⟨fuel, x, h⟩, hs⟩ := O
  exact view_at he ht hn hpos hdec h (hs v (by simp))

theorem dec_bool (he : P.underlying e = some .bool) {sp : Nat → Bool} : ∀ fuel cs x, DataW.trod encD P w 0 sp true fuel e cs = some x → ∃ a : Bool, cs = [.bool a] ∧ True := by
  intro fuel cs x h
  cases fuel with
  | zero => simp [DataW.trod] at h
  | succ m =>
    unfold DataW.trod at h
    rw [he] at h
    split at h <;> simp_all

theorem len2 {l : List Value} (h : l.length = 2) : ∃ a b, l = [a, b] := by match l, h with | [a, b], _ => exact ⟨a, b, rfl⟩
theorem len3 {l : List Value} (h : l.length = 3) : ∃ a b c, l = [a, b, c] := by match l, h with | [a, b, c], _ => exact ⟨a, b, c, rfl⟩
theorem len4 {l : List Value} (h : l.length = 4) : ∃ a b c d, l = [a, b, c, d] := by match l, h with | [a, b, c, d], _ => exact ⟨a, b, c, d, rfl⟩
theorem len5 {l : List Value} (h : l.length = 5) : ∃ a b c d e, l = [a, b, c, d, e] := by match l, h with | [a, b, c, d, e], _ => exact ⟨a, b, c, d, e, rfl⟩
theorem len6 {l : List Value} (h : l.length = 6) : ∃ a b c d e f, l = [a, b, c, d, e, f] := by match l, h with | [a, b, c, d, e, f], _ => exact ⟨a, b, c, d, e, f, rfl⟩
theorem len7 {l : List Value} (h : l.length = 7) : ∃ a b c d e f g, l = [a, b, c, d, e, f, g] := by match l, h with | [a, b, c, d, e, f, g], _ => exact ⟨a, b, c, d, e, f, g, rfl⟩
theorem len8 {l : List Value} (h : l.length = 8) : ∃ a b c d e f g i, l = [a, b, c, d, e, f, g, i] := by match l, h with | [a, b, c, d, e, f, g, i], _ => exact ⟨a, b, c, d, e, f, g, i, rfl⟩

/-- Numbers of a kind. -/
def encK (k : IntKind) (x : Int) : List Value := [.int k x]
theorem encK_len (k : IntKind) (x : Int) : (encK k x).length = 1 := rfl
def encB (x : Bool) : List Value := [.bool x]

end
end Go.Mh

/-! Arguments of which it is known how much memory they take. -/
namespace Go.Mh
open Go Go.ChangeShapes Go.WideShapes Go.ChangeAt Go.RowKit

section
variable {H : Type} {enc encD : TypeId × Value → H} {P : Program} {w W W' : World} {n : Nat} {e t : TypeId} {v : Value} {r : Reach} {base : Nat} {d : DataW H} {p : List MemPlace} {cs : List Value} {B : Nat}

/-- As law_laid; the arguments take no more memory than may be. -/
theorem law_laidS {C : Checked} {os : Os} {f : FuncId} {fn : Func} {s : ChangeSpec} {conds : List PathCond} {tb : TypeId} {X : World → Array Value → Prop}
    (hX : ∀ (w w' : World) (args : Array Value), w.heap = w'.heap → X w args → X w' args)
    (own : ownKnob C.prog.godebug = none) (started : os.Started) (noInit : C.prog.inits.idxOf? f = none) (hfn : C.prog.funcs[f]? = some fn)
    (witness : ∃ (w : World) (tape : Tape) (i : Input), w.os = os ∧ (w.forCall tape i).Shaped C.prog ∧ i.vars = [] ∧ Input.okWide C.prog (w.forCall tape i) .any w.heap.size f i ∧
      ((s.pre enc C.prog fn conds false (w.forCall tape i).memory i.args ∧ X (w.forCall tape i).memory i.args) ∧ sizedMet enc C.prog fn (OpenSpec.ofChange s) false (w.forCall tape i).memory i.args) ∧ ({} : Assume).holds C.prog (lone (Frame.enter C.prog f i.args .normal) [] (w.forCall tape i)))
    (hvars : s.vars = []) (hres : fn.resultTypes = #[tb]) (htb : C.prog.underlying tb = some .bool)
    (hspec : ∀ ds : List (DataW H), ds.length = fn.params.toList.length → s.fn H ds = { results := [.lit (.bool true)], args := ds })
    (kids : Kids C.prog (· < C.prog.types.size)) (full : ∀ t e, t < C.prog.types.size → C.prog.underlying t = some (.slice e) → 0 < C.prog.cellsOf e) (hpar : ∀ t ∈ fn.params.toList, t < C.prog.types.size)
    (hcall : ∀ (W : World) (base : Nat) (args : Array Value) (ds : List (DataW H)) (ps : List MemPlace), (∀ (j : Nat) t v, fn.params[j]? = some t → args[j]? = some v → Value.okWide C.prog W .any base t v) →
      DataW.TrodAll enc C.prog W 0 (fun _ => true) true fn.params.toList args.toList ds ps → (∀ q ∈ DataW.weightsEach C.prog fn.params.toList ds, q ≤ reachBytes) →
      CallsH C.prog f args W.heap fun v h' => v = .bool true ∧ Ext W.heap h') :
    ReturnsInHanded {} C os f .any (fun w args => (s.pre enc C.prog fn conds false w args ∧ X w args) ∧ sizedMet enc C.prog fn (OpenSpec.ofChange s) false w args) (s.post enc C.prog fn false true false false) := by
  refine returnsInHanded_of_change_and hX own started noInit hfn witness ?_
  intro W base args ds gs before hval hW hcnd hwt _ _
  have hW' := hW
  obtain ⟨p, q, hA, hV, rfl, hfz, hnd⟩ := hW
  rw [hvars] at hV
  obtain ⟨rfl, rfl⟩ := trodVars_none hV
  have hvt : s.plain.varTypes C.prog = [] := by
    have : s.plain.vars = [] := hvars
    simp [DataSpec.varTypes, this]
  rw [hvt, List.append_nil, List.append_nil] at hwt
  refine calls_of_H (hcall W base args ds p hval hA fun q hq => by simpa using List.all_eq_true.1 hwt q hq) fun v w' hs hv => ⟨v, rfl, ?_⟩
  obtain ⟨rfl, hx⟩ := hv
  have hlt : ∀ x ∈ p, x.block < W.heap.size := fun x hx => hW'.lt x (by simpa using hx)
  have hsp := hspec ds (trodAll_length hA)
  unfold ChangeSpec.post
  refine ⟨ds, [], p ++ [], [], p, [], hW', ?_, ?_, ?_, kept_of_ext hs hx _, fun h => by cases h⟩
  · rw [List.append_nil, hsp, hres]
    exact trodAll_mk1 ⟨1, by simp [DataW.trod, htb, Value.cells]⟩
  · rw [List.append_nil, hsp]
    exact trodAll_carry (DataW.TrodAll.respare kids full hpar hA fun x hx => by simpa using hlt x hx) fun x hx' => sameAt_of_ext hx (hlt x hx')
  · rw [List.append_nil, hsp, hvars]; rfl

/-- Cells of a type, given, of which no part takes more memory than B. -/
def OpnW (encD : TypeId × Value → H) (P : Program) (w : World) (B : Nat) (t : TypeId) (cs : List Value) : Prop :=
  (∃ fuel x, DataW.trod encD P w 0 (fun _ => true) true fuel t cs = some x ∧ ∀ q ∈ DataW.weights P t x.1, q ≤ B) ∧ ∀ v ∈ cs, ∀ a l c, v = .slice (some a) l c → a.spot = none

theorem OpnW.opn (O : OpnW encD P w B t cs) : Opn encD P w t cs := by
  obtain ⟨⟨fuel, x, h, _⟩, hs⟩ := O
  exact ⟨⟨fuel, x, h⟩, hs⟩

theorem agg_ofW (ha : isAgg P t = true) (hn : P.cellsOf t = n) (hv : Value.okWide P w r base t v) (hd : DataW.Trod encD P w 0 (fun _ => true) true t v d p) (hw : ∀ q ∈ DataW.weights P t d, q ≤ B) :
    ∃ cs : List Value, v = .agg cs.toArray ∧ cs.length = n ∧ OpnW encD P w B t cs := by
  obtain ⟨cs, rfl, hl, ⟨_, hs⟩⟩ := agg_of ha hn hv hd
  obtain ⟨fuel, hf⟩ := hd
  exact ⟨cs, rfl, hl, ⟨fuel, _, by simpa [Value.cells] using hf, hw⟩, hs⟩

theorem weightsEach_get {q : Nat} : ∀ {ts : List TypeId} {ds : List (DataW H)} {i : Nat} {u : TypeId} {d : DataW H}, ts[i]? = some u → ds[i]? = some d → q ∈ DataW.weights P u d → q ∈ DataW.weightsEach P ts ds
  | t :: ts, d :: ds, 0, u, x, h1, h2, hq => by
    simp at h1 h2
    subst h1 h2
    simp only [DataW.weightsEach]
    exact List.mem_append_left _ hq
  | t :: ts, d :: ds, i + 1, u, x, h1, h2, hq => by
    simp only [DataW.weightsEach]
    exact List.mem_append_right _ (weightsEach_get (by simpa using h1) (by simpa using h2) hq)
  | [], _, _, _, _, h1, _, _ => by simp at h1
  | _ :: _, [], _, _, _, _, h2, _ => by simp at h2

theorem OpnW.field (O : OpnW encD P w B t cs) (i : Nat) {ft : TypeId} {off : Nat} {cs' : List Value} (hf : fieldOf P t i = some (ft, off)) (hn : P.cellsOf ft = n) (hcs : (cs.drop off).take n = cs') : OpnW encD P w B ft cs' := by
  have O' := (O.opn.field i hf hn hcs).2
  obtain ⟨⟨fuel, x, h, hw⟩, hs⟩ := O
  refine ⟨?_, O'⟩
  unfold fieldOf at hf
  split at hf
  · rename_i fs ht
    obtain ⟨xs, m, rfl, rfl, _, _, hfs⟩ := DataW.trod_struct ht h
    simp only [Option.map_eq_some_iff] at hf
    obtain ⟨f, hi, e⟩ := hf
    injection e with e1 e2
    subst e1 e2 hn hcs
    have hh := hfs i f (by simpa using hi)
    obtain ⟨y, hy⟩ : ∃ y, xs[i]? = some y := by
      have : i < xs.length := by
        have := (List.getElem?_eq_some_iff.1 hi).1
        simp_all
      exact ⟨_, List.getElem?_eq_getElem this⟩
    refine ⟨m, y, by rw [hh, hy], fun q hq => hw q ?_⟩
    simp only [DataW.weights, ht]
    exact weightsEach_get (i := i) (by simp [hi]) (by simp [hy]) hq
  · cases hf

/-- A slice takes no more memory than may be. -/
theorem OpnW.len {α : Type} {enc : α → List Value} {bl : Nat} {xs : List α} {h : Heap} {b : Nat} (O : OpnW encD P w B t [v]) (ht : P.underlying t = some (.slice e)) (hb : P.bytesOf e = b) (H : VwR enc n h v bl xs) : xs.length * b ≤ B := by
  obtain ⟨⟨fuel, x, hx, hw⟩, _⟩ := O
  obtain ⟨bs, cap, rfl, _⟩ := H
  rcases Go.Deep.open_slice ht hx with ⟨hc, _⟩ | ⟨a, len, cap', m, fuel', D, Pl, hc, _, _, _, _, rfl, _⟩
  · simp only [List.cons.injEq, and_true] at hc
    injection hc with _ hl _
    rw [hl]; simp
  · simp only [List.cons.injEq, and_true] at hc
    injection hc with _ hl _
    have := hw (((List.range len).map D).length * P.bytesOf e + ((List.range (m - len)).map fun j => D (len + j)).length * P.bytesOf e) (by
      simp only [DataW.weights, ht]
      rw [← Nat.add_mul]
      exact List.mem_cons_self ..)
    rw [hb] at this
    simp at this
    rw [hl]; omega

end
end Go.Mh

namespace Go.Mh.KM
open Go Go.Mh

/-! Maps by any keys that are compared at once, as functions. -/
variable {κ : Type} [DecidableEq κ]

abbrev Ent (κ : Type) := κ × Value × Nat

def ent (ke : κ → Value) (x : Ent κ) : MapEntry := { key := ke x.1, val := x.2.1, born := x.2.2 }

def lk (k : κ) : List (Ent κ) → Option Value
  | [] => none
  | x :: r => if x.1 = k then some x.2.1 else lk k r

def fi (k : κ) : List (Ent κ) → Nat → Option (Nat × Value)
  | [], _ => none
  | x :: r, j => if x.1 = k then some (j, x.2.1) else fi k r (j + 1)

/-- How keys are written, and found. -/
structure KE (κ : Type) [DecidableEq κ] where
  ke : κ → Value
  kd : TypeDesc
  inj : ∀ a b, ke a = ke b → a = b
  find : ∀ (k : κ) (t : List (Ent κ)), findK kd (ke k) (t.map (ent ke)) = some (fi k t 0)

variable {Q : KE κ}

structure IMapL (Q : KE κ) (es : Array MapEntry) (clock : Nat) (t : List (Ent κ)) : Prop where
  ents : es.toList = t.map (ent Q.ke)
  keys : (t.map (·.1)).Nodup
  borns : (t.map (·.2.2)).Nodup
  old : ∀ x ∈ t, x.2.2 < clock

/-- The entries of a map that is f. -/
def IMap (Q : KE κ) (es : Array MapEntry) (clock : Nat) (f : κ → Option Value) : Prop := ∃ t, IMapL Q es clock t ∧ ∀ k, f k = lk k t

def fset (f : κ → Option Value) (k : κ) (v : Value) : κ → Option Value := fun x => if x = k then some v else f x
def fdel (f : κ → Option Value) (k : κ) : κ → Option Value := fun x => if x = k then none else f x

theorem fset_same (f : κ → Option Value) (k : κ) (x y : Value) : fset (fset f k x) k y = fset f k y := by
  funext z; unfold fset; split <;> rfl

theorem fi_at {k : κ} : ∀ {t : List (Ent κ)} {j i : Nat} {v : Value}, fi k t j = some (i, v) → j ≤ i ∧ ∃ x, t[i - j]? = some x ∧ x.1 = k ∧ x.2.1 = v
  | x :: t, j, i, v, h => by
    simp only [fi] at h
    split at h
    · rename_i hx
      simp only [Option.some.injEq, Prod.mk.injEq] at h
      obtain ⟨rfl, rfl⟩ := h
      exact ⟨Nat.le_refl _, x, by simp, hx, rfl⟩
    · obtain ⟨h1, y, h2, h3⟩ := fi_at h
      refine ⟨by omega, y, ?_, h3⟩
      rw [show i - j = (i - (j + 1)) + 1 by omega]
      simpa using h2

theorem fi_lk (k : κ) : ∀ (t : List (Ent κ)) (j : Nat), (fi k t j).map (·.2) = lk k t
  | [], _ => rfl
  | x :: t, j => by
    simp only [fi, lk]; split
    · rfl
    · exact fi_lk k t (j + 1)

theorem fi_none {k : κ} : ∀ {t : List (Ent κ)} {j : Nat}, fi k t j = none → ∀ x ∈ t, x.1 ≠ k
  | [], _, _ => by intro x hx; cases hx
  | x :: t, j, h => by
    simp only [fi] at h
    split at h
    · cases h
    · rename_i hx
      intro y hy
      rcases List.mem_cons.1 hy with rfl | hy
      · exact hx
      · exact fi_none h y hy

theorem lk_none {k : κ} : ∀ {t : List (Ent κ)}, (∀ x ∈ t, x.1 ≠ k) → lk k t = none
  | [], _ => rfl
  | x :: t, h => by
    simp only [lk, if_neg (h x List.mem_cons_self)]
    exact lk_none fun y hy => h y (List.mem_cons_of_mem _ hy)

theorem lk_append {k : κ} {t s : List (Ent κ)} : lk k (t ++ s) = (lk k t).orElse fun _ => lk k s := by
  induction t with
  | nil => rfl
  | cons x t ih =>
    simp only [List.cons_append, lk]; split
    · rfl
    · exact ih

/-- What is found at a place is the one entry with the key. -/
theorem fi_modify {k : κ} {g : Ent κ → Ent κ} : ∀ {t : List (Ent κ)} {j i : Nat} {v : Value}, (t.map (·.1)).Nodup → fi k t j = some (i, v) →
    j ≤ i ∧ t.modify (i - j) g = t.map (fun x => if x.1 = k then g x else x)
  | x :: t, j, i, v, hn, h => by
    simp only [List.map_cons, List.nodup_cons] at hn
    simp only [fi] at h
    split at h
    · rename_i hx
      simp only [Option.some.injEq, Prod.mk.injEq] at h
      obtain ⟨rfl, rfl⟩ := h
      refine ⟨Nat.le_refl _, ?_⟩
      simp only [Nat.sub_self, List.modify_zero_cons, List.map_cons, if_pos hx]
      congr 1
      have : ∀ y ∈ t, y.1 ≠ k := fun y hy e => hn.1 (by rw [hx, ← e]; exact List.mem_map_of_mem hy)
      symm
      rw [List.map_congr_left (g := id) (fun y hy => by simp [this y hy])]
      simp
    · rename_i hx
      obtain ⟨h1, h2⟩ := fi_modify (g := g) hn.2 h
      refine ⟨by omega, ?_⟩
      rw [show i - j = (i - (j + 1)) + 1 by omega]
      simp only [List.modify_succ_cons, List.map_cons, if_neg hx, h2]

theorem fi_erase {k : κ} : ∀ {t : List (Ent κ)} {j i : Nat} {v : Value}, (t.map (·.1)).Nodup → fi k t j = some (i, v) →
    j ≤ i ∧ i - j < t.length ∧ t.eraseIdx (i - j) = t.filter (fun x => x.1 ≠ k)
  | x :: t, j, i, v, hn, h => by
    simp only [List.map_cons, List.nodup_cons] at hn
    simp only [fi] at h
    split at h
    · rename_i hx
      simp only [Option.some.injEq, Prod.mk.injEq] at h
      obtain ⟨rfl, rfl⟩ := h
      refine ⟨Nat.le_refl _, by simp, ?_⟩
      have : ∀ y ∈ t, y.1 ≠ k := fun y hy e => hn.1 (by rw [hx, ← e]; exact List.mem_map_of_mem hy)
      simp only [Nat.sub_self, List.eraseIdx_zero, List.tail_cons]
      rw [List.filter_cons_of_neg (by simp [hx]), List.filter_eq_self.2 (fun y hy => by simpa using this y hy)]
    · rename_i hx
      obtain ⟨h1, h2, h3⟩ := fi_erase hn.2 h
      refine ⟨by omega, by simp; omega, ?_⟩
      rw [show i - j = (i - (j + 1)) + 1 by omega]
      simp only [List.eraseIdx_cons_succ, h3]
      rw [List.filter_cons_of_pos (by simpa using hx)]

theorem lk_map {k k' : κ} {v : Value} : ∀ {t : List (Ent κ)}, lk k' (t.map fun x => if x.1 = k then (x.1, v, x.2.2) else x) = if k' = k then (lk k t).map (fun _ => v) else lk k' t
  | [] => by simp [lk]
  | x :: t => by
    have ih := lk_map (k := k) (k' := k') (v := v) (t := t)
    simp only [List.map_cons, lk]
    by_cases hx : x.1 = k
    · simp only [if_pos hx]
      by_cases hk : k' = k
      · simp [hk, hx]
      · have : ¬ x.1 = k' := fun e => hk (by rw [← e, hx])
        simp only [this, if_false, hk] at ih ⊢
        exact ih
    · simp only [if_neg hx]
      by_cases hk : x.1 = k'
      · have : ¬ k' = k := fun e => hx (by rw [hk, e])
        simp [hk, this]
      · simp only [if_neg hk]; exact ih

theorem lk_filter {k k' : κ} : ∀ {t : List (Ent κ)}, lk k' (t.filter fun x => x.1 ≠ k) = if k' = k then none else lk k' t
  | [] => by simp [lk]
  | x :: t => by
    have ih := lk_filter (k := k) (k' := k') (t := t)
    by_cases hx : x.1 = k
    · rw [List.filter_cons_of_neg (by simp [hx]), ih]
      simp only [lk]
      by_cases hk : k' = k
      · simp [hk]
      · have : ¬ x.1 = k' := fun e => hk (by rw [← e, hx])
        simp [hk, this]
    · rw [List.filter_cons_of_pos (by simpa using hx)]
      simp only [lk, ih]
      by_cases hk : x.1 = k'
      · have : ¬ k' = k := fun e => hx (by rw [hk, e])
        simp [hk, this]
      · simp [hk]

theorem IMap.congr {es : Array MapEntry} {c : Nat} {f g : κ → Option Value} (h : IMap Q es c f) (hfg : ∀ k, f k = g k) : IMap Q es c g := by
  obtain ⟨t, ht, hf⟩ := h
  exact ⟨t, ht, fun k => (hfg k).symm.trans (hf k)⟩

theorem IMap.empty : IMap Q #[] 0 (fun _ => none) := ⟨[], ⟨rfl, by simp, by simp, by simp⟩, fun _ => rfl⟩

theorem map_eraseIdx {α β : Type} (g : α → β) : ∀ (t : List α) (i : Nat), (t.eraseIdx i).map g = (t.map g).eraseIdx i
  | [], _ => by simp
  | _ :: _, 0 => by simp
  | x :: t, i + 1 => by simp [map_eraseIdx g t i]

section
variable {h : Heap} {m c : Nat} {es : Array MapEntry} {f : κ → Option Value}

theorem look_of {z : Value} {ok : Bool} {k : κ} {K : Value → Prop} (hm : h[m]? = some (.map es c)) (hi : IMap Q es c f)
    (hk : K (if ok then .tuple #[(f k).getD z, .bool (f k).isSome] else (f k).getD z)) : pLook Q.kd z ok h (.map (some m)) (Q.ke k) K := by
  obtain ⟨t, ht, hf⟩ := hi
  simp only [pLook, hm, ht.ents, Q.find]
  have hlk := fi_lk k t 0
  rw [hf k, ← hlk] at hk
  cases hfi : fi k t 0 with
  | none => rw [hfi] at hk; simpa using hk
  | some p => rw [hfi] at hk; simpa using hk

theorem IMapL.set {t : List (Ent κ)} {i : Nat} {k : κ} {v old : Value} (ht : IMapL Q es c t) (hfi : fi k t 0 = some (i, old)) :
    IMapL Q (es.modify i fun e => { e with key := Q.ke k, val := v }) c (t.map fun x => if x.1 = k then (x.1, v, x.2.2) else x) := by
  have hm := (fi_modify (g := fun x => (x.1, v, x.2.2)) ht.keys hfi).2
  rw [Nat.sub_zero] at hm
  refine ⟨?_, ?_, ?_, ?_⟩
  · rw [Array.toList_modify, ht.ents, ← hm]
    apply List.ext_getElem
    · simp
    · intro j h1 h2
      simp only [List.getElem_modify, List.getElem_map]
      split
      · rename_i e; subst e
        have hlt : i < t.length := by simpa using h1
        have : (t.modify i fun x => (x.1, v, x.2.2))[i]? = (t.map fun x => if x.1 = k then (x.1, v, x.2.2) else x)[i]? := by rw [hm]
        have hkey : t[i].1 = k := by
          have key : ∀ (t : List (Ent κ)) (j i : Nat), fi k t j = some (i, old) → ∃ hlt : i - j < t.length, t[i - j].1 = k ∧ j ≤ i := by
            intro t
            induction t with
            | nil => intro j i h; cases h
            | cons x t ih =>
              intro j i h
              simp only [fi] at h
              split at h
              · rename_i hx
                simp only [Option.some.injEq, Prod.mk.injEq] at h
                obtain ⟨rfl, _⟩ := h
                exact ⟨by simp, by simpa using hx, Nat.le_refl _⟩
              · obtain ⟨h1, h2, h3⟩ := ih _ _ h
                refine ⟨by simp; omega, ?_, by omega⟩
                have : i - j = (i - (j + 1)) + 1 := by omega
                simp only [this, List.getElem_cons_succ]; exact h2
          obtain ⟨_, h2, _⟩ := key t 0 i hfi
          simpa using h2
        simp [ent, hkey]
      · rfl
  · have : (t.map fun x => if x.1 = k then (x.1, v, x.2.2) else x).map (·.1) = t.map (·.1) := by
      rw [List.map_map]; apply List.map_congr_left; intro x _; simp only [Function.comp]; split <;> rfl
    rw [this]; exact ht.keys
  · have : (t.map fun x => if x.1 = k then (x.1, v, x.2.2) else x).map (·.2.2) = t.map (·.2.2) := by
      rw [List.map_map]; apply List.map_congr_left; intro x _; simp only [Function.comp]; split <;> rfl
    rw [this]; exact ht.borns
  · intro x hx
    obtain ⟨y, hy, rfl⟩ := List.mem_map.1 hx
    have := ht.old y hy
    split <;> exact this

theorem IMapL.push {t : List (Ent κ)} {k : κ} {v : Value} (ht : IMapL Q es c t) (hfi : fi k t 0 = none) :
    IMapL Q (es.push { key := Q.ke k, val := v, born := c }) (c + 1) (t ++ [(k, v, c)]) := by
  refine ⟨by simp [ht.ents, ent], ?_, ?_, ?_⟩
  · rw [List.map_append, List.nodup_append]
    refine ⟨ht.keys, by simp, ?_⟩
    intro a ha b hb
    obtain ⟨x, hx, rfl⟩ := List.mem_map.1 ha
    simp only [List.map_cons, List.map_nil, List.mem_singleton] at hb; subst hb
    exact fi_none hfi x hx
  · rw [List.map_append, List.nodup_append]
    refine ⟨ht.borns, by simp, ?_⟩
    intro a ha b hb
    obtain ⟨x, hx, rfl⟩ := List.mem_map.1 ha
    simp only [List.map_cons, List.map_nil, List.mem_singleton] at hb; subst hb
    exact Nat.ne_of_lt (ht.old x hx)
  · intro x hx
    rcases List.mem_append.1 hx with hx | hx
    · exact Nat.lt_succ_of_lt (ht.old x hx)
    · rw [List.mem_singleton.1 hx]; exact Nat.lt_succ_self _

theorem lk_set {t : List (Ent κ)} {k : κ} {v old : Value} {i : Nat} (hfi : fi k t 0 = some (i, old)) (x : κ) :
    lk x (t.map fun x => if x.1 = k then (x.1, v, x.2.2) else x) = if x = k then some v else lk x t := by
  rw [lk_map]
  split
  · rw [← fi_lk k t 0, hfi]; rfl
  · rfl

theorem lk_push {t : List (Ent κ)} {k : κ} {v : Value} {b : Nat} (hfi : fi k t 0 = none) (x : κ) :
    lk x (t ++ [(k, v, b)]) = if x = k then some v else lk x t := by
  rw [lk_append]
  by_cases hx : x = k
  · subst hx; rw [lk_none (fi_none hfi)]; simp [lk]
  · have : ¬ k = x := fun e => hx e.symm
    simp [hx, lk, this]

theorem mapSet_of {k : κ} {v : Value} {K : Value → Heap → Prop} (hm : h[m]? = some (.map es c)) (hi : IMap Q es c f)
    (hk : ∀ es' c', IMap Q es' c' (fset f k v) → K undef (upd h m (.map es' c'))) : pMapSet Q.kd (.map (some m)) (Q.ke k) v h K := by
  obtain ⟨t, ht, hf⟩ := hi
  simp only [pMapSet, hm, ht.ents, Q.find]
  cases hfi : fi k t 0 with
  | none => exact hk _ _ ⟨_, ht.push hfi, fun x => by rw [lk_push hfi]; simp [fset, hf]⟩
  | some p => exact hk _ _ ⟨_, ht.set hfi, fun x => by rw [lk_set hfi]; simp [fset, hf]⟩

/-- The stamp of an entry. -/
def Stamp (Q : KE κ) (es : Array MapEntry) (s : Int) (k : κ) : Prop := ∃ e ∈ es.toList, e.key = Q.ke k ∧ (e.born : Int) = s

theorem mapEntry_of {k : κ} {z : Value} {K : Value → Heap → Prop} (hm : h[m]? = some (.map es c)) (hi : IMap Q es c f)
    (hk : ∀ es' c' s, IMap Q es' c' (fset f k ((f k).getD z)) → Stamp Q es' s k → K (.tuple #[(f k).getD z, .int .i64 s]) (upd h m (.map es' c'))) :
    pMapEntry Q.kd z (.map (some m)) (Q.ke k) h K := by
  obtain ⟨t, ht, hf⟩ := hi
  simp only [pMapEntry, hm, ht.ents, Q.find]
  have hlk := fi_lk k t 0
  cases hfi : fi k t 0 with
  | none =>
    rw [hfi] at hlk
    have hfk : f k = none := by rw [hf]; exact hlk.symm
    rw [hfk] at hk
    refine hk _ _ _ ⟨_, ht.push hfi, fun x => by rw [lk_push hfi]; simp [fset, hf]⟩ ⟨{ key := Q.ke k, val := z, born := c }, by simp, rfl, rfl⟩
  | some p =>
    obtain ⟨i, v⟩ := p
    rw [hfi] at hlk
    have hfk : f k = some v := by rw [hf]; exact hlk.symm
    rw [hfk] at hk
    have hset := ht.set (v := v) hfi
    obtain ⟨_, hmod⟩ := fi_modify (g := fun x => x) ht.keys hfi
    have hi : i < t.length := by
      have key : ∀ (t : List (Ent κ)) (j i : Nat), fi k t j = some (i, v) → i - j < t.length ∧ j ≤ i := by
        intro t
        induction t with
        | nil => intro j i h; cases h
        | cons x t ih =>
          intro j i h
          simp only [fi] at h
          split at h
          · simp only [Option.some.injEq, Prod.mk.injEq] at h
            obtain ⟨rfl, _⟩ := h
            exact ⟨by simp, Nat.le_refl _⟩
          · obtain ⟨h1, h2⟩ := ih _ _ h
            exact ⟨by simp; omega, by omega⟩
      simpa using (key t 0 i hfi).1
    have hes : es[i]? = some (ent Q.ke t[i]) := by
      rw [← Array.getElem?_toList, ht.ents]; simp [hi]
    have hti : t[i].1 = k ∧ t[i].2.1 = v := by
      obtain ⟨_, x, hx, h1, h2⟩ := fi_at hfi
      rw [Nat.sub_zero, List.getElem?_eq_getElem hi] at hx
      obtain rfl := Option.some.inj hx
      exact ⟨h1, h2⟩
    have hsame : (es.modify i fun e => { e with key := Q.ke k }) = es.modify i fun e => { e with key := Q.ke k, val := v } := by
      apply Array.ext
      · simp
      · intro j h1 h2
        simp only [Array.getElem_modify]
        split
        · rename_i e; subst e
          have hlt : i < es.size := by simpa using h1
          have : es[i]? = some es[i] := Array.getElem?_eq_getElem hlt
          rw [hes] at this
          simp only [Option.some.injEq] at this
          rw [← this]; simp [ent, hti.2]
        · rfl
    dsimp only
    rw [hsame, hes]
    refine hk _ _ _ ⟨_, hset, fun x => by rw [lk_set hfi]; simp [fset, hf]⟩ ?_
    refine ⟨{ (ent Q.ke t[i]) with key := Q.ke k, val := v }, ?_, rfl, rfl⟩
    rw [Array.toList_modify]
    refine List.mem_of_getElem? (i := i) ?_
    simp [hes]

theorem entryStore_of {k : κ} {s : Int} {v : Value} {K : Value → Heap → Prop} (hm : h[m]? = some (.map es c)) (hi : IMap Q es c f) (hs : Stamp Q es s k)
    (hk : ∀ es', IMap Q es' c (fset f k v) → K undef (upd h m (.map es' c))) : pEntryStore (.map (some m)) (.int .i64 s) v h K := by
  obtain ⟨t, ht, hf⟩ := hi
  obtain ⟨e, he, hek, hes⟩ := hs
  rw [ht.ents] at he
  obtain ⟨x, hx, rfl⟩ := List.mem_map.1 he
  simp only [ent] at hek hes
  have hxk : x.1 = k := Q.inj _ _ hek
  simp only [pEntryStore, hm]
  -- the place of the stamp
  have key : ∀ (t : List (Ent κ)), (t.map (·.1)).Nodup → (t.map (·.2.2)).Nodup → x ∈ t → ∃ i, (t.map (ent Q.ke)).findIdx? (fun e => (e.born : Int) == s) = some i ∧ ∀ j, fi k t j = some (i + j, x.2.1) := by
    intro t
    induction t with
    | nil => intro _ _ hx; cases hx
    | cons y t ih =>
      intro hk hb hx
      simp only [List.map_cons, List.nodup_cons] at hk hb
      by_cases hy : y = x
      · subst hy
        refine ⟨0, ?_, fun j => by simp [fi, hxk]⟩
        simp [List.findIdx?_cons, ent, hes]
      · have hx' : x ∈ t := by
          rcases List.mem_cons.1 hx with h | h
          · exact (hy h.symm).elim
          · exact h
        obtain ⟨i, h1, h2⟩ := ih hk.2 hb.2 hx'
        have hyb : ¬ ((y.2.2 : Int) = s) := by
          rw [← hes]; intro e
          have : y.2.2 = x.2.2 := by exact_mod_cast e
          exact hb.1 (this ▸ List.mem_map_of_mem hx')
        have hyk : y.1 ≠ k := fun e => hk.1 (by rw [e, ← hxk]; exact List.mem_map_of_mem hx')
        refine ⟨i + 1, ?_, fun j => ?_⟩
        · rw [List.map_cons, List.findIdx?_cons]
          simp only [ent, beq_iff_eq, hyb, if_false]
          rw [show (fun (e : MapEntry) => (e.born : Int) == s) = fun e => (e.born : Int) == s from rfl, h1]; rfl
        · simp only [fi, if_neg hyk]
          rw [h2 (j + 1)]; congr 2; omega
  obtain ⟨i, h1, h2⟩ := key t ht.keys ht.borns hx
  have hidx : es.findIdx? (fun e => (e.born : Int) == s) = some i := by
    have e : es = (t.map (ent Q.ke)).toArray := Array.ext' ht.ents
    rw [e, List.findIdx?_toArray]; exact h1
  rw [hidx]
  have hfi : fi k t 0 = some (i, x.2.1) := by simpa using h2 0
  have hset := ht.set (v := v) hfi
  have hsame : (es.modify i fun e => { e with val := v }) = es.modify i fun e => { e with key := Q.ke k, val := v } := by
    obtain ⟨_, y0, hy0, hy1, _⟩ := fi_at hfi
    rw [Nat.sub_zero] at hy0
    have he : es[i]? = some (ent Q.ke y0) := by
      rw [← Array.getElem?_toList, ht.ents, List.getElem?_map, hy0]; rfl
    apply Array.ext
    · simp
    · intro j h1 h2
      simp only [Array.getElem_modify]
      split
      · rename_i e2; subst e2
        have hlt : i < es.size := by simpa using h1
        have h3 : es[i]? = some es[i] := Array.getElem?_eq_getElem hlt
        rw [he] at h3
        simp only [Option.some.injEq] at h3
        rw [← h3]
        simp [ent, hy1]
      · rfl
  dsimp only
  rw [hsame]
  exact hk _ ⟨_, hset, fun x => by rw [lk_set hfi]; simp [fset, hf]⟩

theorem delete_of {k : κ} {K : Value → Heap → Prop} (hm : h[m]? = some (.map es c)) (hi : IMap Q es c f)
    (hk : ∀ es', IMap Q es' c (fdel f k) → K (.tuple #[]) (upd h m (.map es' c))) : pDelete Q.kd (.map (some m)) (Q.ke k) h K := by
  obtain ⟨t, ht, hf⟩ := hi
  simp only [pDelete, hm, ht.ents, Q.find]
  cases hfi : fi k t 0 with
  | none =>
    refine hk es ⟨t, ht, fun x => ?_⟩
    unfold fdel
    split
    · rename_i e; subst e; exact (lk_none (fi_none hfi)).symm
    · exact hf x
  | some p =>
    obtain ⟨i, v⟩ := p
    obtain ⟨_, hlt, her⟩ := fi_erase ht.keys hfi
    rw [Nat.sub_zero] at hlt her
    have hsz : i < es.size := by
      have := congrArg List.length ht.ents; simp at this; omega
    have hes : (es.eraseIdxIfInBounds i).toList = (t.filter fun x => x.1 ≠ k).map (ent Q.ke) := by
      unfold Array.eraseIdxIfInBounds
      rw [dif_pos hsz, Array.toList_eraseIdx, ht.ents, ← her, map_eraseIdx]
    refine hk _ ⟨t.filter fun x => x.1 ≠ k, ⟨hes, ?_, ?_, ?_⟩, fun x => ?_⟩
    · exact (List.filter_sublist.map _).nodup ht.keys
    · exact (List.filter_sublist.map _).nodup ht.borns
    · intro x hx; exact ht.old x (List.mem_filter.1 hx).1
    · rw [lk_filter]; unfold fdel; split
      · rfl
      · exact hf x

end
end Go.Mh.KM

/-! Maps by any keys, as parts of memory. -/
namespace Go.Mh
open Go

def kmapR {κ : Type} [DecidableEq κ] (Q : KM.KE κ) (m : Nat) (f : κ → Option Value) : Res := ⟨fun b => b = m, fun h => ∃ es c, h[m]? = some (.map es c) ∧ KM.IMap Q es c f, fun hs ⟨es, c, a, b⟩ => ⟨es, c, (hs m rfl).trans a, b⟩⟩

section
variable {κ : Type} [DecidableEq κ] {Q : KM.KE κ} {h0 h : Heap} {L : List Res} {m : Nat} {f : κ → Option Value} {K : Value → Prop} {KH : Value → Heap → Prop} {k : κ} {z v : Value} {ok : Bool}

theorem Own.kmk (Q : KM.KE κ) (o : Own h0 h L) (hK : ∀ m h', Own h0 h' (kmapR Q m (fun _ => none) :: L) → KH (.map (some m)) h') : pMakeMap h KH :=
  hK h.size _ (o.new (r := kmapR Q h.size _) ⟨#[], 0, push_new, .empty⟩ fun b hb => hb)

theorem Own.klook (o : Own h0 h L) (i : Nat) (hi : L[i]? = some (kmapR Q m f)) (hk : K (if ok then .tuple #[(f k).getD z, .bool (f k).isSome] else (f k).getD z)) : pLook Q.kd z ok h (.map (some m)) (Q.ke k) K := by
  obtain ⟨es, c, hm, him⟩ := o.get i hi
  exact KM.look_of hm him hk

theorem Own.kput {f' : κ → Option Value} (o : Own h0 h L) (i : Nat) (hi : L[i]? = some (kmapR Q m f)) (hf : ∀ x, f' x = KM.fset f k v x) (hK : ∀ h', Own h0 h' (L.set i (kmapR Q m f')) → KH undef h') : pMapSet Q.kd (.map (some m)) (Q.ke k) v h KH := by
  obtain ⟨es, c, hm, him⟩ := o.get i hi
  have hlt := get_lt hm
  refine KM.mapSet_of hm him fun es' c' him' => hK _ (o.set i hi (Upd.upd _ _ rfl) ⟨es', c', upd_self hlt, him'.congr fun x => (hf x).symm ▸ rfl⟩ fun b hb => ⟨.inl hb, ?_⟩)
  rw [upd_size]; exact (show b = m from hb) ▸ hlt

theorem Own.kentry (o : Own h0 h L) (i : Nat) (hi : L[i]? = some (kmapR Q m f))
    (hK : ∀ h' s, Own h0 h' (L.set i (kmapR Q m (KM.fset f k ((f k).getD z)))) →
      (∀ (v : Value) (K' : Value → Heap → Prop), (∀ h'', Own h0 h'' (L.set i (kmapR Q m (KM.fset f k v))) → K' undef h'') → pEntryStore (.map (some m)) (.int .i64 s) v h' K') →
      KH (.tuple #[(f k).getD z, .int .i64 s]) h') : pMapEntry Q.kd z (.map (some m)) (Q.ke k) h KH := by
  obtain ⟨es, c, hm, him⟩ := o.get i hi
  have hlt := get_lt hm
  have hF : ∀ b, (kmapR Q m f).F b → ((kmapR Q m f).F b ∨ h.size ≤ b) := fun b hb => .inl hb
  refine KM.mapEntry_of hm him fun es' c' s him' hst => ?_
  have o1 : Own h0 (upd h m (.map es' c')) (L.set i (kmapR Q m (KM.fset f k ((f k).getD z)))) :=
    o.set i hi (Upd.upd _ _ rfl) ⟨es', c', upd_self hlt, him'⟩ fun b hb => ⟨.inl hb, by rw [upd_size]; exact (show b = m from hb) ▸ hlt⟩
  refine hK _ s o1 fun v K' hK' => ?_
  have hm' : (upd h m (.map es' c'))[m]? = some (.map es' c') := upd_self hlt
  have hlt' := get_lt hm'
  refine KM.entryStore_of hm' him' hst fun es'' him'' => hK' _ ?_
  have o2 := o1.set i (set_get hi) (r' := kmapR Q m (KM.fset f k v)) (Upd.upd _ (.map es'' c') rfl) ⟨es'', c', upd_self hlt', ?_⟩ fun b hb => ⟨.inl hb, by rw [upd_size]; exact (show b = m from hb) ▸ hlt'⟩
  · rw [List.set_set] at o2; exact o2
  · rw [KM.fset_same] at him''; exact him''

theorem Own.kdel {f' : κ → Option Value} (o : Own h0 h L) (i : Nat) (hi : L[i]? = some (kmapR Q m f)) (hf : ∀ x, f' x = KM.fdel f k x) (hK : ∀ h', Own h0 h' (L.set i (kmapR Q m f')) → KH (.tuple #[]) h') : pDelete Q.kd (.map (some m)) (Q.ke k) h KH := by
  obtain ⟨es, c, hm, him⟩ := o.get i hi
  have hlt := get_lt hm
  refine KM.delete_of hm him fun es' him' => hK _ (o.set i hi (Upd.upd _ _ rfl) ⟨es', c, upd_self hlt, him'.congr fun x => (hf x).symm ▸ rfl⟩ fun b hb => ⟨.inl hb, ?_⟩)
  rw [upd_size]; exact (show b = m from hb) ▸ hlt

end

section
variable {h0 h : Heap} {L : List Res} {m : Nat} {f : Int → Option Value} {KH : Value → Heap → Prop} {k : Int} {z v : Value}

/-- m[k] = v, by an entry. -/
theorem Own.mapAsg {f' : Int → Option Value} (o : Own h0 h L) (i : Nat) (hi : L[i]? = some (mapR m f)) (hf : ∀ x, f' x = fset f k v x) (hK : ∀ h', Own h0 h' (L.set i (mapR m f')) → KH undef h') :
    pMapEntry (.int .i64) z (.map (some m)) (I k) h fun t h1 => pExt t 1 fun s => pEntryStore (.map (some m)) s v h1 KH := by
  obtain ⟨es, c, hm, him⟩ := o.get i hi
  have hlt := get_lt hm
  refine mapEntry_of hm him fun es' c' s him' hst => ?_
  rw [pExt_tuple]
  show pEntryStore (.map (some m)) (.int .i64 s) v (Mh.upd h m (.map es' c')) KH
  have o1 : Own h0 (Mh.upd h m (.map es' c')) (L.set i (mapR m (fset f k ((f k).getD z)))) :=
    o.set i hi (Upd.upd _ _ rfl) ⟨es', c', upd_self hlt, him'⟩ fun b hb => ⟨.inl hb, by rw [upd_size]; exact (show b = m from hb) ▸ hlt⟩
  have hm' : (Mh.upd h m (.map es' c'))[m]? = some (.map es' c') := upd_self hlt
  have hlt' := get_lt hm'
  refine entryStore_of hm' him' hst fun es'' him'' => hK _ ?_
  have o2 := o1.set i (set_get hi) (r' := mapR m f') (Upd.upd _ (.map es'' c') rfl) ⟨es'', c', upd_self hlt', him''.congr fun x => ?_⟩ fun b hb => ⟨.inl hb, by rw [upd_size]; exact (show b = m from hb) ▸ hlt'⟩
  · rw [List.set_set] at o2; exact o2
  · rw [hf]; unfold fset; split <;> rfl

end

abbrev Key3 := Int × Int × Int
def ke3 (k : Key3) : Value := .agg #[.int .i64 k.1, .int .i64 k.2.1, .int .i64 k.2.2]

theorem findA_fi (k : Key3) : ∀ (t : List (KM.Ent Key3)) (j : Nat), findA k (t.map (KM.ent ke3)) j = some (KM.fi k t j)
  | [], j => rfl
  | x :: t, j => by
    have : key3 (KM.ent ke3 x).key = some x.1 := rfl
    simp only [List.map_cons, findA, this, KM.fi]
    by_cases e : k = x.1
    · rw [if_pos e, if_pos e.symm]; rfl
    · rw [if_neg e, if_neg (fun h => e h.symm)]; exact findA_fi k t (j + 1)

/-- Arrays of three numbers as keys. -/
def Q3 (n : Nat) (e : TypeId) : KM.KE Key3 where
  ke := ke3
  kd := .array n e
  inj := fun a b h => by
    obtain ⟨a1, a2, a3⟩ := a
    obtain ⟨b1, b2, b3⟩ := b
    simp [ke3] at h
    obtain ⟨rfl, rfl, rfl⟩ := h
    rfl
  find := fun k t => findA_fi k t 0

end Go.Mh

/-! Events of searches. -/
namespace Go.Mh
open Go

structure Ev where
  kind : Int
  side : Int
  id : Int
  label : Int
  deriving DecidableEq

abbrev encE (e : Ev) : List Value := [I e.kind, I e.side, I e.id, I e.label]
theorem encE_len (e : Ev) : (encE e).length = 4 := rfl
theorem encE_plain (e : Ev) : ∀ u ∈ encE e, plainCell u = true := by
  intro u hu; simp at hu; rcases hu with rfl | rfl | rfl | rfl <;> rfl
theorem encE_cells (e : Ev) : (Value.cells (.agg (encE e).toArray)).toList = encE e := rfl

def Ev.key (e : Ev) : Key3 := (e.kind, e.side, e.id)

def mostE (n m : Nat) (k : Int) : Int := if k = 0 then n else if k = 1 then m else 0
def mayP (n m : Nat) (e : Ev) : Prop := 0 ≤ e.id ∧ e.id < mostE n m e.kind ∧ (e.side = 0 ∨ e.side = 1) ∧ (e.kind = 0 ∨ e.label = 0)
instance {n m : Nat} {e : Ev} : Decidable (mayP n m e) := by unfold mayP; infer_instance
def mayE (n m : Nat) (e : Ev) : Bool := decide (mayP n m e)

/-- Nothing is twice. -/
def OnceE (n m : Nat) (l : List Ev) : Prop := ∀ i e, l[i]? = some e → mayE n m e = true ∧ e.key ∉ (l.take i).map Ev.key

/-- The node that was popped last, on a side. -/
def lastE (l : List Ev) (side : Int) : Int := l.foldl (fun a e => if e.kind = 0 ∧ e.side = side then e.id else a) (-1)
theorem lastE_snoc {l : List Ev} {e : Ev} {side : Int} : lastE (l ++ [e]) side = if e.kind = 0 ∧ e.side = side then e.id else lastE l side := by
  unfold lastE; rw [List.foldl_append]; rfl

def tailE (g : G) (e : Ev) : Int := match g.arcs[e.id.toNat]? with
  | some a => if e.side = 1 then (a.t : Int) else (a.f : Int)
  | none => 0

/-- Scans stand behind their tails' pops. -/
def HeadsE (g : G) (l : List Ev) : Prop := ∀ i e, l[i]? = some e → mayE g.n g.arcs.length e = true ∧ (e.kind ≠ 0 → lastE (l.take i) e.side = tailE g e)

def isE (k s : Int) (e : Ev) : Bool := decide (e.kind = k ∧ e.side = s)
def ofE (k s : Int) (l : List Ev) : List Int := (l.filter (isE k s)).map Ev.id
theorem ofE_snoc {k s : Int} {l : List Ev} {e : Ev} : ofE k s (l ++ [e]) = ofE k s l ++ (if isE k s e then [e.id] else []) := by
  unfold ofE; rw [List.filter_append, List.map_append]
  congr 1
  cases h : isE k s e <;> simp [h]

/-- The label of a node's first pop, on a side. -/
def labE (l : List Ev) (s v : Int) : Option Int := ((l.filter (isE 0 s)).find? fun e => e.id == v).map Ev.label

def beyP (fs : List Int) (most : Int) (e : Ev) : Bool := decide (e.kind = 0 ∧ (e.id < 0 ∨ (fs.length : Int) ≤ e.id ∨ most < dAt fs e.id.toNat))

/-- The first of which something holds; -1: of none. -/
def Fst (p : Nat → Bool) (n : Nat) (r : Int) : Prop := (r = -1 ∧ ∀ k, k < n → p k = false) ∨ ∃ i, r = (i : Nat) ∧ i < n ∧ p i = true ∧ ∀ k, k < i → p k = false

theorem Fst.uniq {p : Nat → Bool} {n : Nat} {r s : Int} (a : Fst p n r) (b : Fst p n s) : r = s := by
  rcases a with ⟨rfl, h1⟩ | ⟨i, rfl, h1, h2, h3⟩ <;> rcases b with ⟨rfl, k1⟩ | ⟨j, rfl, k1, k2, k3⟩
  · rfl
  · rw [h1 j k1] at k2; cases k2
  · rw [k1 i h1] at h2; cases h2
  · have : i = j := by
      rcases Nat.lt_trichotomy i j with h | h | h
      · rw [k3 i h] at h2; cases h2
      · exact h
      · rw [h3 j h] at k2; cases k2
    rw [this]

theorem Fst.any {p : Nat → Bool} {n : Nat} {r : Int} (a : Fst p n r) : (decide (0 ≤ r) = true ↔ ∃ k, k < n ∧ p k = true) := by
  rw [decide_eq_true_eq]
  rcases a with ⟨rfl, h1⟩ | ⟨i, rfl, h1, h2, h3⟩
  · exact ⟨fun h => by omega, fun ⟨k, h, hk⟩ => by rw [h1 k h] at hk; cases hk⟩
  · exact ⟨fun _ => ⟨i, h1, h2⟩, fun _ => by omega⟩

/-- Between i and j there is none. -/
def GapE (k s : Int) (l : List Ev) (i j : Nat) : Prop := ∀ q e, i ≤ q → q < j → l[q]? = some e → isE k s e = false

theorem gap_filter {k s : Int} {l : List Ev} {i : Nat} : ∀ {d : Nat}, GapE k s l i (i + d) → (l.take (i + d)).filter (isE k s) = (l.take i).filter (isE k s)
  | 0, _ => rfl
  | d + 1, h => by
    have ih := gap_filter (d := d) fun q e h1 h2 h3 => h q e h1 (by omega) h3
    by_cases hl : i + d < l.length
    · rw [show i + (d + 1) = (i + d) + 1 by omega, List.take_succ_eq_append_getElem hl, List.filter_append, ih]
      have := h (i + d) l[i + d] (by omega) (by omega) (List.getElem?_eq_getElem hl)
      simp [this]
    · rw [List.take_of_length_le (l := l) (i := i + d) (by omega)] at ih
      rw [List.take_of_length_le (l := l) (i := i + (d + 1)) (by omega)]
      exact ih

theorem gap_of {k s : Int} {l : List Ev} {i j : Nat} (hij : i ≤ j) (h : GapE k s l i j) : (l.take j).filter (isE k s) = (l.take i).filter (isE k s) := by
  obtain ⟨d, rfl⟩ : ∃ d, j = i + d := ⟨j - i, by omega⟩
  exact gap_filter h

/-- The next event of a kind, on a side. -/
def NextE (k s : Int) (l : List Ev) (i : Nat) (x : List Value) (i' : Nat) : Prop :=
  ∃ (j : Nat) (e : Ev), l[j]? = some e ∧ i ≤ j ∧ isE k s e = true ∧ GapE k s l i j ∧ x = [I j, .agg (encE e).toArray] ∧ i' = j + 1

theorem next_filter {k s : Int} {l : List Ev} {i j : Nat} {e : Ev} (hj : l[j]? = some e) (hij : i ≤ j) (he : isE k s e = true) (hg : GapE k s l i j) :
    (l.take (j + 1)).filter (isE k s) = (l.take i).filter (isE k s) ++ [e] := by
  have hl : j < l.length := (List.getElem?_eq_some_iff.1 hj).1
  have e1 : l[j] = e := (List.getElem?_eq_some_iff.1 hj).2
  rw [List.take_succ_eq_append_getElem hl, List.filter_append, gap_of hij hg, e1]
  simp [he]

end Go.Mh

namespace Go.Mh
open Go Go.ChangeShapes Go.WideShapes Go.ChangeAt Go.RowKit

section
variable {H : Type} {encD : TypeId × Value → H} {P : Program} {w : World} {n : Nat} {e t : TypeId} {v : Value} {r : Reach} {base : Nat} {d : DataW H} {p : List MemPlace}

theorem trod_field {fuel : Nat} {cs : List Value} {x : DataW H × List MemPlace} {sp : Nat → Bool} (h : DataW.trod encD P w 0 sp true fuel t cs = some x) (i : Nat) {ft : TypeId} {off : Nat} {cs' : List Value}
    (hf : fieldOf P t i = some (ft, off)) (hn : P.cellsOf ft = n) (hcs : (cs.drop off).take n = cs') : ∃ m y, DataW.trod encD P w 0 sp true m ft cs' = some y := by
  unfold fieldOf at hf
  split at hf
  · rename_i fs ht
    obtain ⟨xs, m, rfl, _, _, _, hfs⟩ := DataW.trod_struct ht h
    simp only [Option.map_eq_some_iff] at hf
    obtain ⟨f, hi, e⟩ := hf
    injection e with e1 e2
    subst e1 e2 hn hcs
    refine ⟨m, ?_⟩
    have hh := hfs i f (by simpa using hi)
    obtain ⟨y, hy⟩ : ∃ y, xs[i]? = some y := by
      have : i < xs.length := by
        have := (List.getElem?_eq_some_iff.1 hi).1
        simp_all
      exact ⟨_, List.getElem?_eq_getElem this⟩
    exact ⟨y, by rw [hh, hy]⟩
  · cases hf

theorem trod_len {fuel : Nat} {cs : List Value} {x : DataW H × List MemPlace} {sp : Nat → Bool} (h : DataW.trod encD P w 0 sp true fuel t cs = some x) (hf : (fieldOf P t 0).isSome = true) : cs.length = P.cellsOf t := by
  unfold fieldOf at hf
  split at hf
  · rename_i fs ht
    obtain ⟨xs, m, rfl, _, hl, _, hfs⟩ := DataW.trod_struct ht h
    exact hl
  · cases hf

theorem Opn.bool (O : Opn encD P w t [v]) (ht : P.underlying t = some .bool) : ∃ a : Bool, v = .bool a := by
  obtain ⟨⟨fuel, x, h⟩, _⟩ := O
  obtain ⟨a, e, r⟩ := dec_bool ht _ _ _ h
  simp only [List.cons.injEq, and_true] at e
  exact ⟨a, e⟩

/-- An event, given. -/
theorem dec_ev {t0 t1 t2 t3 : TypeId} (f0 : fieldOf P e 0 = some (t0, 0)) (f1 : fieldOf P e 1 = some (t1, 1)) (f2 : fieldOf P e 2 = some (t2, 2)) (f3 : fieldOf P e 3 = some (t3, 3)) (hc : P.cellsOf e = 4)
    (h0 : P.underlying t0 = some (.int .i64)) (h1 : P.underlying t1 = some (.int .i64)) (h2 : P.underlying t2 = some (.int .i64)) (h3 : P.underlying t3 = some (.int .i64))
    (c0 : P.cellsOf t0 = 1) (c1 : P.cellsOf t1 = 1) (c2 : P.cellsOf t2 = 1) (c3 : P.cellsOf t3 = 1) {sp : Nat → Bool} :
    ∀ fuel cs x, DataW.trod encD P w 0 sp true fuel e cs = some x → ∃ a : Ev, cs = encE a ∧ True := by
  intro fuel cs x h
  have hl := trod_len h (by rw [f0]; rfl)
  rw [hc] at hl
  obtain ⟨a, b, c, d, rfl⟩ := len4 hl
  obtain ⟨m0, y0, g0⟩ := trod_field h 0 (cs' := [a]) f0 c0 rfl
  obtain ⟨m1, y1, g1⟩ := trod_field h 1 (cs' := [b]) f1 c1 rfl
  obtain ⟨m2, y2, g2⟩ := trod_field h 2 (cs' := [c]) f2 c2 rfl
  obtain ⟨m3, y3, g3⟩ := trod_field h 3 (cs' := [d]) f3 c3 rfl
  obtain ⟨za, ea, _⟩ := dec_int (k := .i64) h0 _ _ _ g0
  obtain ⟨zb, eb, _⟩ := dec_int (k := .i64) h1 _ _ _ g1
  obtain ⟨zc, ec, _⟩ := dec_int (k := .i64) h2 _ _ _ g2
  obtain ⟨zd, ed, _⟩ := dec_int (k := .i64) h3 _ _ _ g3
  simp only [List.cons.injEq, and_true] at ea eb ec ed
  subst ea eb ec ed
  exact ⟨⟨za, zb, zc, zd⟩, rfl, trivial⟩

end
end Go.Mh
