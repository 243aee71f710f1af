/- Texts of the proofs of seat YtkeoponidgpfpaaGreatDoor, joined: Ev, Both, Steps, Both2, Both3, Both4, Both5, Build, Rev, Both6, OwnP, Both8, ViewA, ViewB, ViewC, ViewD. They have no conditions of their own. -/
import Derived.Test.YtkeoponidgpfpaaGreatDoorMc
import Derived.Test.YtkeoponidgpfpaaGreatDoorMb
import Derived.OpenShut
set_option linter.unusedVariables false
set_option linter.unusedSimpArgs false

/-! Events of searches. -/
namespace Go.Mh
open Go

structure Ev where
  kind : Int
  side : Int
  id : Int
  label : Int
  deriving DecidableEq

abbrev encE (e : Ev) : List Value := [I e.kind, I e.side, I e.id, I e.label]
theorem encE_len (e : Ev) : (encE e).length = 4 := rfl
theorem encE_plain (e : Ev) : ∀ u ∈ encE e, plainCell u = true := by
  intro u hu; simp at hu; rcases hu with rfl | rfl | rfl | rfl <;> rfl
theorem encE_cells (e : Ev) : (Value.cells (.agg (encE e).toArray)).toList = encE e := rfl

def Ev.key (e : Ev) : Key3 := (e.kind, e.side, e.id)

def mostE (n m : Nat) (k : Int) : Int := if k = 0 then n else if k = 1 then m else 0
def mayP (n m : Nat) (e : Ev) : Prop := 0 ≤ e.id ∧ e.id < mostE n m e.kind ∧ (e.side = 0 ∨ e.side = 1) ∧ (e.kind = 0 ∨ e.label = 0)
instance {n m : Nat} {e : Ev} : Decidable (mayP n m e) := by unfold mayP; infer_instance
def mayE (n m : Nat) (e : Ev) : Bool := decide (mayP n m e)

/-- Nothing is twice. -/
def OnceE (n m : Nat) (l : List Ev) : Prop := ∀ i e, l[i]? = some e → mayE n m e = true ∧ e.key ∉ (l.take i).map Ev.key

/-- The node that was popped last, on a side. -/
def lastE (l : List Ev) (side : Int) : Int := l.foldl (fun a e => if e.kind = 0 ∧ e.side = side then e.id else a) (-1)
theorem lastE_snoc {l : List Ev} {e : Ev} {side : Int} : lastE (l ++ [e]) side = if e.kind = 0 ∧ e.side = side then e.id else lastE l side := by
  unfold lastE; rw [List.foldl_append]; rfl

def tailE (g : G) (e : Ev) : Int := match g.arcs[e.id.toNat]? with
  | some a => if e.side = 1 then (a.t : Int) else (a.f : Int)
  | none => 0

/-- Scans stand behind their tails' pops. -/
def HeadsE (g : G) (l : List Ev) : Prop := ∀ i e, l[i]? = some e → mayE g.n g.arcs.length e = true ∧ (e.kind ≠ 0 → lastE (l.take i) e.side = tailE g e)

def isE (k s : Int) (e : Ev) : Bool := decide (e.kind = k ∧ e.side = s)
def ofE (k s : Int) (l : List Ev) : List Int := (l.filter (isE k s)).map Ev.id
theorem ofE_snoc {k s : Int} {l : List Ev} {e : Ev} : ofE k s (l ++ [e]) = ofE k s l ++ (if isE k s e then [e.id] else []) := by
  unfold ofE; rw [List.filter_append, List.map_append]
  congr 1
  cases h : isE k s e <;> simp [h]

/-- The label of a node's first pop, on a side. -/
def labE (l : List Ev) (s v : Int) : Option Int := ((l.filter (isE 0 s)).find? fun e => e.id == v).map Ev.label

def beyP (fs : List Int) (most : Int) (e : Ev) : Bool := decide (e.kind = 0 ∧ (e.id < 0 ∨ (fs.length : Int) ≤ e.id ∨ most < dAt fs e.id.toNat))

/-- The first of which something holds; -1: of none. -/
def Fst (p : Nat → Bool) (n : Nat) (r : Int) : Prop := (r = -1 ∧ ∀ k, k < n → p k = false) ∨ ∃ i, r = (i : Nat) ∧ i < n ∧ p i = true ∧ ∀ k, k < i → p k = false

theorem Fst.uniq {p : Nat → Bool} {n : Nat} {r s : Int} (a : Fst p n r) (b : Fst p n s) : r = s := by
  rcases a with ⟨rfl, h1⟩ | ⟨i, rfl, h1, h2, h3⟩ <;> rcases b with ⟨rfl, k1⟩ | ⟨j, rfl, k1, k2, k3⟩
  · rfl
  · rw [h1 j k1] at k2; cases k2
  · rw [k1 i h1] at h2; cases h2
  · have : i = j := by
      rcases Nat.lt_trichotomy i j with h | h | h
      · rw [k3 i h] at h2; cases h2
      · exact h
      · rw [h3 j h] at k2; cases k2
    rw [this]

theorem Fst.any {p : Nat → Bool} {n : Nat} {r : Int} (a : Fst p n r) : (decide (0 ≤ r) = true ↔ ∃ k, k < n ∧ p k = true) := by
  rw [decide_eq_true_eq]
  rcases a with ⟨rfl, h1⟩ | ⟨i, rfl, h1, h2, h3⟩
  · exact ⟨fun h => by omega, fun ⟨k, h, hk⟩ => by rw [h1 k h] at hk; cases hk⟩
  · exact ⟨fun _ => ⟨i, h1, h2⟩, fun _ => by omega⟩

/-- Between i and j there is none. -/
def GapE (k s : Int) (l : List Ev) (i j : Nat) : Prop := ∀ q e, i ≤ q → q < j → l[q]? = some e → isE k s e = false

theorem gap_filter {k s : Int} {l : List Ev} {i : Nat} : ∀ {d : Nat}, GapE k s l i (i + d) → (l.take (i + d)).filter (isE k s) = (l.take i).filter (isE k s)
  | 0, _ => rfl
  | d + 1, h => by
    have ih := gap_filter (d := d) fun q e h1 h2 h3 => h q e h1 (by omega) h3
    by_cases hl : i + d < l.length
    · rw [show i + (d + 1) = (i + d) + 1 by omega, List.take_succ_eq_append_getElem hl, List.filter_append, ih]
      have := h (i + d) l[i + d] (by omega) (by omega) (List.getElem?_eq_getElem hl)
      simp [this]
    · rw [List.take_of_length_le (l := l) (i := i + d) (by omega)] at ih
      rw [List.take_of_length_le (l := l) (i := i + (d + 1)) (by omega)]
      exact ih

theorem gap_of {k s : Int} {l : List Ev} {i j : Nat} (hij : i ≤ j) (h : GapE k s l i j) : (l.take j).filter (isE k s) = (l.take i).filter (isE k s) := by
  obtain ⟨d, rfl⟩ : ∃ d, j = i + d := ⟨j - i, by omega⟩
  exact gap_filter h

/-- The next event of a kind, on a side. -/
def NextE (k s : Int) (l : List Ev) (i : Nat) (x : List Value) (i' : Nat) : Prop :=
  ∃ (j : Nat) (e : Ev), l[j]? = some e ∧ i ≤ j ∧ isE k s e = true ∧ GapE k s l i j ∧ x = [I j, .agg (encE e).toArray] ∧ i' = j + 1

theorem next_filter {k s : Int} {l : List Ev} {i j : Nat} {e : Ev} (hj : l[j]? = some e) (hij : i ≤ j) (he : isE k s e = true) (hg : GapE k s l i j) :
    (l.take (j + 1)).filter (isE k s) = (l.take i).filter (isE k s) ++ [e] := by
  have hl : j < l.length := (List.getElem?_eq_some_iff.1 hj).1
  have e1 : l[j] = e := (List.getElem?_eq_some_iff.1 hj).2
  rw [List.take_succ_eq_append_getElem hl, List.filter_append, gap_of hij hg, e1]
  simp [he]

end Go.Mh

/-! One side of a search from both ends, as data. -/
namespace Go.Mh
open Go

structure BS where
  hp : List HP
  lab : Int → Option Int
  arc : Int → Option Int
  ord : List Nat

def BS.zero : BS := ⟨[], fun _ => none, fun _ => none, []⟩

def BS.put (π : Nat → Int) (b : BS) (v : Nat) (a d : Int) : BS where
  hp := ((v : Int), 2 * d + π v) :: (match b.lab v with
    | some was => b.hp.erase ((v : Int), 2 * was + π v)
    | none => b.hp)
  lab := fun z => if z = (v : Int) then some d else b.lab z
  arc := fun z => if z = (v : Int) then some a else b.arc z
  ord := b.ord

def BS.takes (opn : Nat → Bool) (b : BS) (v : Nat) (d : Int) : Bool := opn v && (!b.ord.contains v && (match b.lab v with
  | some was => !decide (was ≤ d)
  | none => true))

def BS.pop (b : BS) (v : Nat) (k : Int) : BS := { b with hp := b.hp.erase ((v : Int), k), ord := b.ord ++ [v] }

/-- How a node was come to. -/
inductive Bk (l : List A) (tl hd : A → Nat) (ok : Nat → Bool) (arc : Int → Option Int) (ord : List Nat) (src : Nat) : Nat → List Nat → Int → Prop
  | nil : arc src = some (-1) → Bk l tl hd ok arc ord src src [] 0
  | cons {i : Nat} {r : List Nat} {d : Int} : arc (hd (arcAt l i)) = some (i : Int) → i < l.length → ok i = true → tl (arcAt l i) ∈ ord → Bk l tl hd ok arc ord src (tl (arcAt l i)) r d →
      Bk l tl hd ok arc ord src (hd (arcAt l i)) (i :: r) (d + (arcAt l i).w)

section
variable {l : List A} {tl hd : A → Nat} {ok : Nat → Bool} {n src : Nat} {opn : Nat → Bool} {π : Nat → Int} {Fe : Prop}

theorem Bk.keep {arc arc' : Int → Option Int} {ord ord' : List Nat} {u : Nat} {r : List Nat} {d : Int} (h : Bk l tl hd ok arc ord src u r d) (ha : ∀ w ∈ ord, arc' (w : Int) = arc w) (hs : ∀ w ∈ ord, w ∈ ord') :
    arc' (u : Int) = arc u → Bk l tl hd ok arc' ord' src u r d := by
  induction h with
  | nil h => intro hu; exact .nil (hu.trans h)
  | cons h1 h2 h3 h4 _ ih => intro hu; exact .cons (hu.trans h1) h2 h3 (hs _ h4) (ih (ha _ h4))

/-- What is known of a side. -/
structure SI (l : List A) (tl hd : A → Nat) (ok : Nat → Bool) (n src : Nat) (opn : Nat → Bool) (π : Nat → Int) (Fe : Prop) (b : BS) (B : Int) : Prop where
  ids : (b.hp.map (·.1)).Nodup
  ent : ∀ p ∈ b.hp, ∃ u : Nat, p.1 = u ∧ u ∉ b.ord ∧ ∃ d, b.lab u = some d ∧ p.2 = 2 * d + π u
  lab : ∀ z d, b.lab z = some d → ∃ u : Nat, z = u ∧ u < n ∧ opn u = true ∧ 0 ≤ d ∧ d ≤ B ∧ (u ∈ b.ord ∨ ((u : Int), 2 * d + π u) ∈ b.hp)
  ord : b.ord.Nodup
  ordl : ∀ v ∈ b.ord, ∃ d, b.lab (v : Int) = some d
  bk : ∀ (u : Nat) d, b.lab u = some d → ∃ r, Bk l tl hd ok b.arc b.ord src u r d ∧ r.length ≤ (if u ∈ b.ord then b.ord.idxOf u else b.ord.length)
  mono : Fe → ∀ c ∈ b.ord, ∀ dc, b.lab (c : Int) = some dc → ∀ p ∈ b.hp, 2 * dc + π c ≤ p.2
  zero : ∀ d, b.lab (src : Int) = some d → d = 0
  fst : b.ord = [] → ∀ p ∈ b.hp, p.1 = (src : Int)
  hd : ∀ v, b.ord.head? = some v → v = src

variable {b : BS} {B B' : Int}

theorem SI.start : SI l tl hd ok n src opn π Fe BS.zero 0 := by
  refine ⟨by simp [BS.zero], fun p h => by simp [BS.zero] at h, fun z d h => by simp [BS.zero] at h, by simp [BS.zero], fun v h => by simp [BS.zero] at h, fun u d h => by simp [BS.zero] at h,
    fun _ c h => by simp [BS.zero] at h, fun d h => by simp [BS.zero] at h, fun _ p h => by simp [BS.zero] at h, fun v h => by simp [BS.zero] at h⟩

theorem SI.more (H : SI l tl hd ok n src opn π Fe b B) (h : B ≤ B') : SI l tl hd ok n src opn π Fe b B' :=
  ⟨H.ids, H.ent, fun z d hz => by obtain ⟨u, a, c, e, f, g, k⟩ := H.lab z d hz; exact ⟨u, a, c, e, f, by omega, k⟩, H.ord, H.ordl, H.bk, H.mono, H.zero, H.fst, H.hd⟩

theorem SI.ordn (H : SI l tl hd ok n src opn π Fe b B) : ∀ v ∈ b.ord, v < n ∧ opn v = true := fun v hv => by
  obtain ⟨d, hd⟩ := H.ordl v hv
  obtain ⟨u, e, h1, h2, _⟩ := H.lab _ _ hd
  obtain rfl := Int.ofNat.inj e
  exact ⟨h1, h2⟩

theorem SI.olen (H : SI l tl hd ok n src opn π Fe b B) : b.ord.length ≤ n := nodup_le H.ord fun v hv => (H.ordn v hv).1

theorem SI.notin (H : SI l tl hd ok n src opn π Fe b B) {v : Nat} (h : b.lab v = none) : ∀ p ∈ b.hp, p.1 ≠ (v : Int) := fun p hp e => by
  obtain ⟨u, h1, h2, d, h3, _⟩ := H.ent p hp
  rw [← h1, e, h] at h3; cases h3

theorem SI.hlen (H : SI l tl hd ok n src opn π Fe b B) : b.hp.length ≤ n := by
  have h1 : (b.hp.map (·.1.toNat)).length ≤ n := nodup_le (by
    have e : b.hp.map (·.1.toNat) = (b.hp.map (·.1)).map Int.toNat := by simp
    rw [e, List.nodup_iff_pairwise_ne, List.pairwise_map]
    refine (List.nodup_iff_pairwise_ne.1 H.ids).imp_of_mem fun {x y} hx hy hne e => hne ?_
    obtain ⟨p, hp, rfl⟩ := List.mem_map.1 hx
    obtain ⟨q, hq, rfl⟩ := List.mem_map.1 hy
    obtain ⟨u, e1, _⟩ := H.ent p hp
    obtain ⟨w, e2, _⟩ := H.ent q hq
    rw [e1, e2] at e ⊢
    have e' : u = w := by simpa using e
    rw [e']) (fun x hx => by
    obtain ⟨p, hp, rfl⟩ := List.mem_map.1 hx
    obtain ⟨u, e1, _, d, e2, _⟩ := H.ent p hp
    obtain ⟨u', e3, e4, _⟩ := H.lab _ _ e2
    obtain rfl := Int.ofNat.inj e3
    rw [e1]; simpa using e4)
  simpa using h1

theorem mem_put {v : Nat} {a d : Int} {p : HP} : p ∈ (b.put π v a d).hp ↔ p = ((v : Int), 2 * d + π v) ∨ p ∈ (match b.lab v with | some was => b.hp.erase ((v : Int), 2 * was + π v) | none => b.hp) := by
  simp [BS.put]

theorem SI.put (H : SI l tl hd ok n src opn π Fe b B) {v : Nat} {a d : Int} (hv : v < n) (ho : opn v = true) (hno : v ∉ b.ord) (h0 : 0 ≤ d) (hB : d ≤ B)
    (hbk : ∃ r, Bk l tl hd ok (b.put π v a d).arc b.ord src v r d ∧ r.length ≤ b.ord.length) (hm : Fe → ∀ c ∈ b.ord, ∀ dc, b.lab (c : Int) = some dc → 2 * dc + π c ≤ 2 * d + π v)
    (hz : v = src → d = 0) (hf : b.ord = [] → v = src) : SI l tl hd ok n src opn π Fe (b.put π v a d) B := by
  have rest : ∀ p, p ∈ (match b.lab v with | some was => b.hp.erase ((v : Int), 2 * was + π v) | none => b.hp) → p ∈ b.hp ∧ p.1 ≠ (v : Int) := by
    intro p hp
    cases hl : b.lab v with
    | none => rw [hl] at hp; exact ⟨hp, H.notin hl p hp⟩
    | some was =>
      rw [hl] at hp
      obtain ⟨u, e, _, _, _, _, h1⟩ := H.lab _ _ hl
      obtain rfl := Int.ofNat.inj e
      exact ⟨List.mem_of_mem_erase hp, not_mem_erase H.ids (h1.resolve_left hno) hp⟩
  have back : ∀ p ∈ b.hp, p.1 ≠ (v : Int) → p ∈ (b.put π v a d).hp := by
    intro p hp hne
    refine mem_put.2 (.inr ?_)
    cases hl : b.lab v with
    | none => exact hp
    | some was => exact (List.mem_erase_of_ne fun e => hne (by rw [e])).2 hp
  have lab' : ∀ z, (b.put π v a d).lab z = if z = (v : Int) then some d else b.lab z := fun z => rfl
  have keep : ∀ w ∈ b.ord, (b.put π v a d).arc (w : Int) = b.arc w := fun w hw => by
    have : ¬ (w : Int) = v := fun e => hno (by rw [← Int.ofNat.inj e]; exact hw)
    show (if (w : Int) = (v : Int) then some a else b.arc w) = _
    rw [if_neg this]
  refine ⟨?_, ?_, ?_, H.ord, ?_, ?_, ?_, ?_, ?_, H.hd⟩
  · simp only [BS.put, List.map_cons, List.nodup_cons]
    refine ⟨fun hx => ?_, ?_⟩
    · obtain ⟨p, hp, e⟩ := List.mem_map.1 hx
      exact (rest p hp).2 e
    · cases hl : b.lab v with
      | none => exact H.ids
      | some was => exact map_erase_sub.nodup H.ids
  · intro p hp
    rcases mem_put.1 hp with rfl | hp
    · exact ⟨v, rfl, hno, d, by rw [lab', if_pos rfl], rfl⟩
    · obtain ⟨h1, h2⟩ := rest p hp
      obtain ⟨u, e1, e2, d', e3, e4⟩ := H.ent p h1
      refine ⟨u, e1, e2, d', ?_, e4⟩
      rw [lab', if_neg (by rw [← e1]; exact h2)]; exact e3
  · intro z d' hz'
    rw [lab'] at hz'
    split at hz'
    · rename_i e
      obtain rfl := Option.some.inj hz'
      exact ⟨v, e, hv, ho, h0, hB, .inr (mem_put.2 (.inl rfl))⟩
    · rename_i hne
      obtain ⟨u, e, c1, c2, c3, c4, c5⟩ := H.lab z d' hz'
      refine ⟨u, e, c1, c2, c3, c4, c5.imp id fun h => back _ h ?_⟩
      rw [← e]; exact hne
  · intro w hw
    obtain ⟨d', hd'⟩ := H.ordl w hw
    refine ⟨d', ?_⟩
    rw [lab', if_neg fun e => hno (by rw [← Int.ofNat.inj e]; exact hw)]; exact hd'
  · intro u d' hu
    rw [lab'] at hu
    split at hu
    · rename_i e
      obtain rfl := Int.ofNat.inj e
      obtain rfl := Option.some.inj hu
      obtain ⟨r, h1, h2⟩ := hbk
      refine ⟨r, h1, ?_⟩
      show r.length ≤ if u ∈ b.ord then _ else _
      rw [if_neg hno]; exact h2
    · rename_i hne
      obtain ⟨r, h1, h2⟩ := H.bk u d' hu
      refine ⟨r, h1.keep keep (fun w h => h) ?_, h2⟩
      show (if (u : Int) = (v : Int) then some a else b.arc u) = _
      rw [if_neg hne]
  · intro hF c hc dc hdc p hp
    rw [lab', if_neg fun e => hno (by rw [← Int.ofNat.inj e]; exact hc)] at hdc
    rcases mem_put.1 hp with rfl | hp
    · exact hm hF c hc dc hdc
    · exact H.mono hF c hc dc hdc p (rest p hp).1
  · intro d' hd'
    rw [lab'] at hd'
    split at hd'
    · rename_i e
      obtain rfl := Option.some.inj hd'
      exact hz (Int.ofNat.inj e).symm
    · exact H.zero d' hd'
  · intro he p hp
    rcases mem_put.1 hp with rfl | hp
    · show (v : Int) = src; rw [hf he]
    · exact H.fst he p (rest p hp).1

theorem SI.pop (H : SI l tl hd ok n src opn π Fe b B) {v : Nat} {k : Int} (hm : ((v : Int), k) ∈ b.hp) (hmin : ∀ q ∈ b.hp, ¬ hl q ((v : Int), k) = true) :
    SI l tl hd ok n src opn π Fe (b.pop v k) B ∧ v ∉ b.ord ∧ v < n ∧ opn v = true ∧ (∃ d, b.lab v = some d ∧ k = 2 * d + π v ∧ 0 ≤ d ∧ d ≤ B) ∧
      (Fe → ∀ c ∈ (b.pop v k).ord, ∀ dc, b.lab (c : Int) = some dc → 2 * dc + π c ≤ k) := by
  obtain ⟨u, e, hno, d, hd, hk⟩ := H.ent _ hm
  obtain rfl := Int.ofNat.inj e
  obtain ⟨u', e', hn, ho, h0, hB, _⟩ := H.lab _ _ hd
  obtain rfl := Int.ofNat.inj e'
  have hk : k = 2 * d + π v := hk
  have hmax : Fe → ∀ c ∈ b.ord ++ [v], ∀ dc, b.lab (c : Int) = some dc → 2 * dc + π c ≤ k := by
    intro hF c hc dc hdc
    rcases List.mem_append.1 hc with hc | hc
    · exact H.mono hF c hc dc hdc _ hm
    · obtain rfl := List.mem_singleton.1 hc
      rw [hd] at hdc
      obtain rfl := Option.some.inj hdc
      omega
  refine ⟨⟨map_erase_sub.nodup H.ids, fun p hp => ?_, fun z d' hz => ?_, ?_, fun w hw => ?_, fun w d' hw => ?_, fun hF c hc dc hdc p hp => ?_, H.zero, fun h => ?_, fun w hw => ?_⟩, hno, hn, ho, ⟨d, hd, hk, h0, hB⟩, hmax⟩
  · have h1 := List.mem_of_mem_erase hp
    obtain ⟨w, e1, e2, e3⟩ := H.ent p h1
    refine ⟨w, e1, fun h => ?_, e3⟩
    rcases List.mem_append.1 h with h | h
    · exact e2 h
    · obtain rfl := List.mem_singleton.1 h
      exact not_mem_erase H.ids hm hp e1
  · obtain ⟨w, e1, c1, c2, c3, c4, c5⟩ := H.lab z d' hz
    refine ⟨w, e1, c1, c2, c3, c4, ?_⟩
    by_cases hwv : w = v
    · exact .inl (by rw [hwv]; exact List.mem_append_right _ List.mem_cons_self)
    · refine c5.imp (List.mem_append_left _) fun h => (List.mem_erase_of_ne fun e => hwv ?_).2 h
      exact Int.ofNat.inj (congrArg Prod.fst e)
  · show (b.ord ++ [v]).Nodup
    rw [List.nodup_append]
    refine ⟨H.ord, by simp, fun a ha c hc e' => ?_⟩
    have hc := List.mem_singleton.1 hc
    rw [hc] at e'
    exact hno (e' ▸ ha)
  · rcases List.mem_append.1 hw with hw | hw
    · exact H.ordl w hw
    · obtain rfl := List.mem_singleton.1 hw
      exact ⟨d, hd⟩
  · obtain ⟨r, h1, h2⟩ := H.bk w d' hw
    refine ⟨r, h1.keep (fun _ _ => rfl) (fun _ h => List.mem_append_left _ h) rfl, ?_⟩
    show r.length ≤ if w ∈ b.ord ++ [v] then (b.ord ++ [v]).idxOf w else (b.ord ++ [v]).length
    by_cases hwo : w ∈ b.ord
    · rw [if_pos hwo] at h2
      rw [if_pos (List.mem_append_left _ hwo), List.idxOf_append, if_pos hwo]; exact h2
    · rw [if_neg hwo] at h2
      by_cases hwv : w = v
      · subst hwv
        rw [if_pos (List.mem_append_right _ List.mem_cons_self), List.idxOf_append, if_neg hno]
        omega
      · rw [if_neg (by simp [hwo, hwv]), List.length_append]; omega
  · have h1 := hmax hF c hc dc hdc
    have h2 := hmin p (List.mem_of_mem_erase hp)
    rw [hl_iff] at h2
    omega
  · simp [BS.pop] at h
  · cases ho : b.ord with
    | nil =>
      have hw : (b.ord ++ [v]).head? = some w := hw
      rw [ho] at hw
      obtain rfl := Option.some.inj hw
      exact Int.ofNat.inj (H.fst ho _ hm)
    | cons a r =>
      have hw : (b.ord ++ [v]).head? = some w := hw
      rw [ho] at hw
      exact H.hd w (by rw [ho]; exact hw)

end
end Go.Mh

/-! Events that come in blocks: a pop, and the scans of its arcs. -/
namespace Go.Mh
open Go

def sI (x : Bool) : Int := if x then 1 else 0
theorem sI_inj {x y : Bool} : sI x = sI y ↔ x = y := by cases x <;> cases y <;> decide
theorem sI_or (x : Bool) : sI x = 0 ∨ sI x = 1 := by cases x <;> decide
def tlS (x : Bool) (a : A) : Nat := if x then a.t else a.f
def hdS (x : Bool) (a : A) : Nat := if x then a.f else a.t

structure Stp where
  x : Bool
  v : Nat
  d : Int

def scanE (x : Bool) (i : Nat) : Ev := ⟨1, sI x, i, 0⟩
def popE (s : Stp) : Ev := ⟨0, sI s.x, s.v, s.d⟩
def blkS (outs : Bool → Nat → List Nat) (s : Stp) : List Ev := popE s :: (outs s.x s.v).map (scanE s.x)
def evs (outs : Bool → Nat → List Nat) (st : List Stp) : List Ev := st.flatMap (blkS outs)

theorem evs_nil {outs : Bool → Nat → List Nat} : evs outs [] = [] := rfl
theorem evs_append {outs : Bool → Nat → List Nat} {a b : List Stp} : evs outs (a ++ b) = evs outs a ++ evs outs b := List.flatMap_append
theorem evs_cons {outs : Bool → Nat → List Nat} {s : Stp} {b : List Stp} : evs outs (s :: b) = blkS outs s ++ evs outs b := rfl
theorem evs_one {outs : Bool → Nat → List Nat} {s : Stp} : evs outs [s] = blkS outs s := by simp [evs]

structure OutsOk (g : G) (outs : Bool → Nat → List Nat) : Prop where
  mem : ∀ x v i, i ∈ outs x v → i < g.arcs.length ∧ tlS x (arcAt g.arcs i) = v
  nd : ∀ x v, (outs x v).Nodup

theorem outsP_rising {q : A → Bool} : ∀ {l : List A} {i : Nat}, (outsP q l i).Pairwise (· < ·)
  | [], _ => .nil
  | a :: l, i => by
    simp only [outsP]
    split
    · refine List.pairwise_cons.2 ⟨fun j hj => ?_, outsP_rising⟩
      have := (outsP_mem.1 hj).1
      omega
    · exact outsP_rising

theorem outsP_nodup {q : A → Bool} {l : List A} {i : Nat} : (outsP q l i).Nodup := List.Pairwise.imp (fun h => Nat.ne_of_lt h) outsP_rising

def outG (g : G) (x : Bool) (v : Nat) : List Nat := if x then g.in v else g.out v

theorem outG_ok {g : G} : OutsOk g (outG g) := by
  refine ⟨fun x v i hi => ?_, fun x v => ?_⟩
  · cases x with
    | false =>
      obtain ⟨_, h1, h2⟩ := outsP_mem.1 (show i ∈ g.out v from hi)
      simp only [Nat.sub_zero] at h1 h2
      refine ⟨h1, ?_⟩
      show (arcAt g.arcs i).f = v
      simpa [arcAt, h1] using h2
    | true =>
      obtain ⟨_, h1, h2⟩ := outsP_mem.1 (show i ∈ g.in v from hi)
      simp only [Nat.sub_zero] at h1 h2
      refine ⟨h1, ?_⟩
      show (arcAt g.arcs i).t = v
      simpa [arcAt, h1] using h2
  · cases x
    · exact outsP_nodup
    · exact outsP_nodup

theorem OutsOk.filter {g : G} {outs : Bool → Nat → List Nat} (H : OutsOk g outs) (p : Nat → Bool) : OutsOk g (fun x v => (outs x v).filter p) :=
  ⟨fun x v i hi => H.mem x v i (List.mem_filter.1 hi).1, fun x v => (H.nd x v).filter p⟩

section
variable {g : G} {outs : Bool → Nat → List Nat} {st : List Stp} {l : List Ev}

theorem mem_evs {e : Ev} : e ∈ evs outs st ↔ ∃ s ∈ st, e = popE s ∨ ∃ i ∈ outs s.x s.v, e = scanE s.x i := by
  simp only [evs, List.mem_flatMap, blkS, List.mem_cons, List.mem_map]
  exact ⟨fun ⟨s, hs, h⟩ => ⟨s, hs, h.imp id fun ⟨i, a, b⟩ => ⟨i, a, b.symm⟩⟩, fun ⟨s, hs, h⟩ => ⟨s, hs, h.imp id fun ⟨i, a, b⟩ => ⟨i, a, b.symm⟩⟩⟩

theorem may_pop {s : Stp} (h : s.v < g.n) : mayE g.n g.arcs.length (popE s) = true :=
  decide_eq_true ⟨by simp [popE], by show (s.v : Int) < mostE _ _ 0; unfold mostE; rw [if_pos rfl]; omega, sI_or _, .inl rfl⟩
theorem may_scan {x : Bool} {i : Nat} (h : i < g.arcs.length) : mayE g.n g.arcs.length (scanE x i) = true :=
  decide_eq_true ⟨by simp [scanE], by show (i : Int) < mostE _ _ 1; unfold mostE; rw [if_neg (by decide), if_pos rfl]; omega, sI_or _, .inr rfl⟩

theorem evs_may (H : OutsOk g outs) (hv : ∀ s ∈ st, s.v < g.n) : ∀ e ∈ evs outs st, mayE g.n g.arcs.length e = true := by
  intro e he
  obtain ⟨s, hs, rfl | ⟨i, hi, rfl⟩⟩ := mem_evs.1 he
  · exact may_pop (hv s hs)
  · exact may_scan (H.mem _ _ _ hi).1

theorem onceE_iff {n m : Nat} : OnceE n m l ↔ (∀ e ∈ l, mayE n m e = true) ∧ (l.map Ev.key).Nodup := by
  constructor
  · intro h
    refine ⟨fun e he => ?_, ?_⟩
    · obtain ⟨i, hi⟩ := List.getElem?_of_mem he
      exact (h i e hi).1
    · rw [List.nodup_iff_pairwise_ne, List.pairwise_map, List.pairwise_iff_getElem]
      intro i j hi hj hij e
      refine (h j _ (List.getElem?_eq_getElem hj)).2 ?_
      rw [← e]
      exact List.mem_map_of_mem (List.mem_take_iff_getElem.2 ⟨i, by omega, rfl⟩)
  · rintro ⟨h1, h2⟩ i e hi
    refine ⟨h1 e (List.mem_of_getElem? hi), fun hm => ?_⟩
    obtain ⟨e', he', hk⟩ := List.mem_map.1 hm
    obtain ⟨j, hj, rfl⟩ := List.mem_take_iff_getElem.1 he'
    obtain ⟨hi', rfl⟩ := List.getElem?_eq_some_iff.1 hi
    rw [List.nodup_iff_pairwise_ne, List.pairwise_map, List.pairwise_iff_getElem] at h2
    exact h2 j i (by omega) hi' (by omega) hk

theorem popE_key (s : Stp) : (popE s).key = (0, sI s.x, (s.v : Int)) := rfl
theorem scanE_key (x : Bool) (i : Nat) : (scanE x i).key = (1, sI x, (i : Int)) := rfl

theorem blkS_nodup (H : OutsOk g outs) {s : Stp} : ((blkS outs s).map Ev.key).Nodup := by
  simp only [blkS, List.map_cons, List.map_map, List.nodup_cons]
  refine ⟨fun h => ?_, ?_⟩
  · obtain ⟨i, _, e⟩ := List.mem_map.1 h
    simp [scanE_key, popE_key] at e
  · rw [List.nodup_iff_pairwise_ne, List.pairwise_map]
    refine (List.nodup_iff_pairwise_ne.1 (H.nd s.x s.v)).imp fun {a b} hne e => hne ?_
    exact Int.ofNat.inj (by simpa [scanE_key] using e)

theorem evs_once (H : OutsOk g outs) (hv : ∀ s ∈ st, s.v < g.n) (hn : (st.map fun s => (s.x, s.v)).Nodup) : OnceE g.n g.arcs.length (evs outs st) := by
  rw [onceE_iff]
  refine ⟨evs_may H hv, ?_⟩
  clear hv
  induction st with
  | nil => simp [evs]
  | cons s st ih =>
    simp only [List.map_cons, List.nodup_cons] at hn
    rw [evs_cons, List.map_append, List.nodup_append]
    refine ⟨blkS_nodup H, ih hn.2, fun a ha b hb e => hn.1 ?_⟩
    subst e
    obtain ⟨e1, h1, rfl⟩ := List.mem_map.1 ha
    obtain ⟨e2, h2, hk⟩ := List.mem_map.1 hb
    obtain ⟨s', hs', h2⟩ := mem_evs.1 h2
    simp only [blkS, List.mem_cons, List.mem_map] at h1
    refine List.mem_map.2 ⟨s', hs', ?_⟩
    rcases h1 with rfl | ⟨i, hi, rfl⟩ <;> rcases h2 with rfl | ⟨j, hj, rfl⟩
    · simp only [popE_key, Prod.mk.injEq, sI_inj, true_and] at hk
      rw [hk.1, Int.ofNat.inj hk.2]
    · simp [popE_key, scanE_key] at hk
    · simp [popE_key, scanE_key] at hk
    · simp only [scanE_key, Prod.mk.injEq, sI_inj, true_and] at hk
      obtain ⟨hx, hk⟩ := hk
      have hk := Int.ofNat.inj hk
      have e1 := (H.mem _ _ _ hi).2
      have e2 := (H.mem _ _ _ hj).2
      rw [hk, hx, e1] at e2
      rw [hx, e2]

theorem lastE_scans {q : List Ev} {side : Int} (h : ∀ e ∈ q, e.kind ≠ 0) : lastE (l ++ q) side = lastE l side := by
  unfold lastE
  rw [List.foldl_append]
  induction q generalizing l with
  | nil => rfl
  | cons e q ih =>
    rw [List.foldl_cons, if_neg fun hh => h e List.mem_cons_self hh.1]
    exact ih fun e he => h e (List.mem_cons_of_mem _ he)

theorem heads_blk (H : OutsOk g outs) {s : Stp} (hv : s.v < g.n) (h : HeadsE g l) {k : Nat} : HeadsE g (l ++ (blkS outs s).take k) := by
  intro i e he
  by_cases hi : i < l.length
  · rw [List.getElem?_append_left hi] at he
    have := h i e he
    rw [List.take_append_of_le_length (by omega)]
    exact this
  · rw [List.getElem?_append_right (by omega)] at he
    obtain ⟨j, rfl⟩ : ∃ j, i = l.length + j := ⟨i - l.length, by omega⟩
    rw [Nat.add_sub_cancel_left] at he
    rw [List.take_length_add_append]
    have hj : j < k := by
      have := (List.getElem?_eq_some_iff.1 he).1
      rw [List.length_take] at this; omega
    rw [List.getElem?_take_of_lt hj] at he
    rw [List.take_take, Nat.min_eq_left (by omega)]
    cases j with
    | zero =>
      have : e = popE s := by simpa [blkS] using he.symm
      subst this
      exact ⟨may_pop hv, fun hk => absurd rfl hk⟩
    | succ j =>
      have he : ((outs s.x s.v).map (scanE s.x))[j]? = some e := he
      rw [List.getElem?_map] at he
      cases ho : (outs s.x s.v)[j]? with
      | none => rw [ho] at he; cases he
      | some a =>
        rw [ho] at he
        obtain rfl := Option.some.inj he
        obtain ⟨h1, h2⟩ := H.mem _ _ _ (List.mem_of_getElem? ho)
        refine ⟨may_scan h1, fun _ => ?_⟩
        show lastE (l ++ popE s :: ((outs s.x s.v).map (scanE s.x)).take j) (sI s.x) = _
        rw [show l ++ popE s :: ((outs s.x s.v).map (scanE s.x)).take j = (l ++ [popE s]) ++ ((outs s.x s.v).map (scanE s.x)).take j by simp]
        rw [lastE_scans (by
          intro e he
          obtain ⟨i, _, rfl⟩ := List.mem_map.1 (List.mem_of_mem_take he)
          show (1 : Int) ≠ 0
          decide), lastE_snoc, if_pos ⟨rfl, rfl⟩]
        have h3 : g.arcs[a]? = some (arcAt g.arcs a) := by simp [arcAt, h1]
        show (s.v : Int) = match g.arcs[((a : Int)).toNat]? with
          | some b => if sI s.x = 1 then (b.t : Int) else (b.f : Int)
          | none => 0
        rw [Int.toNat_natCast, h3]
        dsimp only
        rw [← h2]
        cases s.x <;> rfl

theorem evs_heads' (H : OutsOk g outs) : ∀ {st : List Stp} {l : List Ev}, (∀ s ∈ st, s.v < g.n) → HeadsE g l → HeadsE g (l ++ evs outs st)
  | [], l, _, h => by rw [evs_nil, List.append_nil]; exact h
  | s :: st, l, hv, h => by
    rw [evs_cons, ← List.append_assoc]
    refine evs_heads' H (fun s hs => hv s (List.mem_cons_of_mem _ hs)) ?_
    have := heads_blk H (hv s List.mem_cons_self) h (k := (blkS outs s).length)
    rwa [List.take_length] at this

theorem evs_heads (H : OutsOk g outs) (hv : ∀ s ∈ st, s.v < g.n) : HeadsE g (evs outs st) := by
  have := evs_heads' (l := []) H hv fun i e h => by simp at h
  rwa [List.nil_append] at this

theorem HeadsE.take (h : HeadsE g l) (k : Nat) : HeadsE g (l.take k) := by
  intro i e he
  have hi : i < k := by
    have := (List.getElem?_eq_some_iff.1 he).1
    rw [List.length_take] at this; omega
  rw [List.getElem?_take_of_lt hi] at he
  rw [List.take_take, Nat.min_eq_left (by omega)]
  exact h i e he
theorem OnceE.take {n m : Nat} (h : OnceE n m l) (k : Nat) : OnceE n m (l.take k) := by
  intro i e he
  have hi : i < k := by
    have := (List.getElem?_eq_some_iff.1 he).1
    rw [List.length_take] at this; omega
  rw [List.getElem?_take_of_lt hi] at he
  rw [List.take_take, Nat.min_eq_left (by omega)]
  exact h i e he

theorem ofE_append {k s : Int} {a b : List Ev} : ofE k s (a ++ b) = ofE k s a ++ ofE k s b := by
  unfold ofE; rw [List.filter_append, List.map_append]

theorem isE_pop {s : Stp} {k : Int} {x : Bool} : isE k (sI x) (popE s) = (decide (k = 0) && decide (s.x = x)) := by
  show decide ((0 : Int) = k ∧ sI s.x = sI x) = _
  simp only [sI_inj, Bool.decide_and, eq_comm (a := (0 : Int))]
theorem isE_scan {x y : Bool} {i : Nat} {k : Int} : isE k (sI x) (scanE y i) = (decide (k = 1) && decide (y = x)) := by
  show decide ((1 : Int) = k ∧ sI y = sI x) = _
  simp only [sI_inj, Bool.decide_and, eq_comm (a := (1 : Int))]

/-- The steps of a side. -/
def onS (x : Bool) (st : List Stp) : List Stp := st.filter fun s => decide (s.x = x)

theorem onS_cons {x : Bool} {s : Stp} {st : List Stp} : onS x (s :: st) = if decide (s.x = x) = true then s :: onS x st else onS x st := by
  unfold onS; rw [List.filter_cons]
theorem onS_append {x : Bool} {a b : List Stp} : onS x (a ++ b) = onS x a ++ onS x b := List.filter_append ..
theorem mem_onS {x : Bool} {s : Stp} {st : List Stp} : s ∈ onS x st ↔ s ∈ st ∧ s.x = x := by simp [onS]

theorem filter_pops {x : Bool} : ∀ {st : List Stp}, (evs outs st).filter (isE 0 (sI x)) = (onS x st).map popE
  | [] => rfl
  | s :: st => by
    rw [evs_cons, List.filter_append, filter_pops, blkS, List.filter_cons]
    have h2 : ((outs s.x s.v).map (scanE s.x)).filter (isE 0 (sI x)) = [] := by
      rw [List.filter_eq_nil_iff]
      intro e he
      obtain ⟨i, _, rfl⟩ := List.mem_map.1 he
      rw [isE_scan]; simp
    rw [h2, isE_pop, onS_cons]
    cases h : decide (s.x = x)
    · simp
    · simp

theorem evs_pops {x : Bool} : ofE 0 (sI x) (evs outs st) = (onS x st).map fun s => (s.v : Int) := by
  unfold ofE
  rw [filter_pops, List.map_map]; rfl

theorem evs_scans {x : Bool} : ∀ {st : List Stp}, ofE 1 (sI x) (evs outs st) = nI ((onS x st).flatMap fun s => outs s.x s.v)
  | [] => rfl
  | s :: st => by
    rw [evs_cons, ofE_append, evs_scans, onS_cons]
    have hp : isE 1 (sI x) (popE s) = false := by rw [isE_pop]; simp
    cases h : decide (s.x = x) with
    | false =>
      have h2 : ofE 1 (sI x) (blkS outs s) = [] := by
        unfold ofE
        rw [List.map_eq_nil_iff, List.filter_eq_nil_iff]
        intro e he
        simp only [blkS, List.mem_cons, List.mem_map] at he
        rcases he with rfl | ⟨i, _, rfl⟩
        · rw [hp]; decide
        · rw [isE_scan, h]; simp
      rw [h2, List.nil_append]; rfl
    | true =>
      have h2 : ofE 1 (sI x) (blkS outs s) = nI (outs s.x s.v) := by
        unfold ofE blkS
        rw [List.filter_cons, hp, if_neg (by decide), List.filter_eq_self.2, List.map_map]
        · rfl
        · intro e he
          obtain ⟨i, _, rfl⟩ := List.mem_map.1 he
          rw [isE_scan, h]; rfl
      rw [h2, if_pos rfl, List.flatMap_cons]
      simp [nI]

theorem evs_label {x : Bool} {v : Nat} : labE (evs outs st) (sI x) v = ((onS x st).find? fun s => decide (s.v = v)).map Stp.d := by
  unfold labE
  rw [filter_pops]
  generalize onS x st = q
  induction q with
  | nil => rfl
  | cons s q ih =>
    rw [List.map_cons, List.find?_cons, List.find?_cons]
    have : ((popE s).id == (v : Int)) = decide (s.v = v) := by
      show ((s.v : Int) == (v : Int)) = _
      rw [Bool.eq_iff_iff, beq_iff_eq, decide_eq_true_eq]
      omega
    rw [this]
    cases decide (s.v = v)
    · exact ih
    · rfl

end
end Go.Mh
namespace Go.Mh
open Go

theorem nodup_sides {st : List Stp} (h : ∀ x, ((onS x st).map Stp.v).Nodup) : (st.map fun s => (s.x, s.v)).Nodup := by
  induction st with
  | nil => simp
  | cons s st ih =>
    rw [List.map_cons, List.nodup_cons]
    refine ⟨fun hm => ?_, ih fun x => ?_⟩
    · obtain ⟨s', hs', e⟩ := List.mem_map.1 hm
      simp only [Prod.mk.injEq] at e
      have := h s.x
      rw [onS_cons, if_pos (by simp), List.map_cons, List.nodup_cons] at this
      exact this.1 (List.mem_map.2 ⟨s', mem_onS.2 ⟨hs', e.1⟩, e.2⟩)
    · have := h x
      rw [onS_cons] at this
      split at this
      · rw [List.map_cons, List.nodup_cons] at this; exact this.2
      · exact this

theorem blkS_len {outs : Bool → Nat → List Nat} {s : Stp} : (blkS outs s).length = (outs s.x s.v).length + 1 := by simp [blkS]
theorem evs_len {outs : Bool → Nat → List Nat} {m : Nat} (h : ∀ x v, (outs x v).length ≤ m) : ∀ {st : List Stp}, (evs outs st).length ≤ (m + 1) * st.length
  | [] => by simp [evs_nil]
  | s :: st => by
    rw [evs_cons, List.length_append, blkS_len, List.length_cons, Nat.mul_add]
    have := evs_len h (st := st)
    have := h s.x s.v
    omega
theorem outG_len {g : G} {x : Bool} {v : Nat} : (outG g x v).length ≤ g.arcs.length := by
  cases x
  · exact Nat.le_trans (Nat.le_of_eq (outsP_length _ _ _)) List.countP_le_length
  · exact Nat.le_trans (Nat.le_of_eq (outsP_length _ _ _)) List.countP_le_length

/-- Two rows of steps, mixed. -/
def mixS (a b : List Stp) : Nat → List Stp
  | 0 => []
  | k + 1 => mixS a b k ++ (a[k]?.toList ++ b[k]?.toList)
theorem mixS_len {a b : List Stp} : ∀ {k : Nat}, (mixS a b k).length ≤ 2 * k
  | 0 => by simp [mixS]
  | k + 1 => by
    have := mixS_len (a := a) (b := b) (k := k)
    have h : ∀ o : Option Stp, o.toList.length ≤ 1 := fun o => by cases o <;> simp
    have h1 := h a[k]?
    have h2 := h b[k]?
    simp only [mixS, List.length_append]
    omega

theorem take_succ_opt {α : Type} {a : List α} {k : Nat} : a.take (k + 1) = a.take k ++ a[k]?.toList := List.take_add_one

theorem onS_all {x : Bool} {a : List Stp} (h : ∀ s ∈ a, s.x = x) : onS x a = a := List.filter_eq_self.2 fun s hs => by simpa using h s hs
theorem onS_none {x : Bool} {a : List Stp} (h : ∀ s ∈ a, s.x ≠ x) : onS x a = [] := List.filter_eq_nil_iff.2 fun s hs => by simpa using h s hs

theorem onS_mix {a b : List Stp} (ha : ∀ s ∈ a, s.x = false) (hb : ∀ s ∈ b, s.x = true) : ∀ k, onS false (mixS a b k) = a.take k ∧ onS true (mixS a b k) = b.take k
  | 0 => by simp [mixS, onS]
  | k + 1 => by
    obtain ⟨h1, h2⟩ := onS_mix ha hb k
    have e1 : ∀ s ∈ a[k]?.toList, s.x = false := fun s hs => ha s (List.mem_of_getElem? (Option.mem_toList.1 hs))
    have e2 : ∀ s ∈ b[k]?.toList, s.x = true := fun s hs => hb s (List.mem_of_getElem? (Option.mem_toList.1 hs))
    simp only [mixS, onS_append, h1, h2, take_succ_opt]
    rw [onS_all e1, onS_none (x := false) (a := b[k]?.toList) fun s hs => by rw [e2 s hs]; decide, onS_none (x := true) (a := a[k]?.toList) fun s hs => by rw [e1 s hs]; decide, onS_all e2]
    simp

/-- The steps of a flood. -/
def stpF (x : Bool) (t : Tr) : List Stp := t.order.map fun v => ⟨x, v, dAt t.dist v⟩
theorem stpF_x {x : Bool} {t : Tr} : ∀ s ∈ stpF x t, s.x = x := fun s hs => by
  obtain ⟨v, _, rfl⟩ := List.mem_map.1 hs; rfl
theorem stpF_len {x : Bool} {t : Tr} : (stpF x t).length = t.order.length := List.length_map ..

def stF (g : G) (v : Nat) (k : Nat) : List Stp := mixS (stpF false (g.from v)) (stpF true (g.to v)) k
def evF (g : G) (v : Nat) : List Ev := evs (outG g) (stF g v (max (g.from v).order.length (g.to v).order.length))

section
variable {g : G} {v : Nat}

def treeS (g : G) (x : Bool) (v : Nat) : Tr := if x then g.to v else g.from v

theorem onS_stF (x : Bool) : onS x (stF g v (max (g.from v).order.length (g.to v).order.length)) = stpF x (treeS g x v) := by
  have h := onS_mix (a := stpF false (g.from v)) (b := stpF true (g.to v)) stpF_x stpF_x (max (g.from v).order.length (g.to v).order.length)
  cases x with
  | false => rw [stF, h.1, List.take_of_length_le (by rw [stpF_len]; omega)]; rfl
  | true => rw [stF, h.2, List.take_of_length_le (by rw [stpF_len]; omega)]; rfl

theorem mem_mixS {a b : List Stp} {s : Stp} : ∀ {k : Nat}, s ∈ mixS a b k → s ∈ a ∨ s ∈ b
  | 0, h => by simp [mixS] at h
  | k + 1, h => by
    simp only [mixS, List.mem_append] at h
    rcases h with h | h | h
    · exact mem_mixS h
    · exact .inl (List.mem_of_getElem? (Option.mem_toList.1 h))
    · exact .inr (List.mem_of_getElem? (Option.mem_toList.1 h))

theorem treeS_of (hR : g.Right) (hv : v < g.n) (x : Bool) : TreeOf g.arcs (tlS x) (hdS x) g.n v (treeS g x v) := by
  cases x
  · exact from_tree hR hv
  · exact to_tree hR hv

theorem stF_lt (hR : g.Right) (hv : v < g.n) {k : Nat} : ∀ s ∈ stF g v k, s.v < g.n := fun s hs => by
  rcases mem_mixS hs with h | h
  · obtain ⟨u, hu, rfl⟩ := List.mem_map.1 h
    exact (treeS_of hR hv false).range u hu
  · obtain ⟨u, hu, rfl⟩ := List.mem_map.1 h
    exact (treeS_of hR hv true).range u hu

theorem evF_once (hR : g.Right) (hv : v < g.n) : OnceE g.n g.arcs.length (evF g v) := by
  refine evs_once outG_ok (stF_lt hR hv) (nodup_sides fun x => ?_)
  rw [onS_stF, stpF, List.map_map]
  have : (treeS g x v).order.map ((fun s => s.v) ∘ fun v_1 => (⟨x, v_1, dAt (treeS g x v).dist v_1⟩ : Stp)) = (treeS g x v).order := by
    simp [Function.comp_def]
  rw [this]
  exact (treeS_of hR hv x).nodup

theorem evF_heads (hR : g.Right) (hv : v < g.n) : HeadsE g (evF g v) := evs_heads outG_ok (stF_lt hR hv)

theorem evF_pops {x : Bool} : ofE 0 (sI x) (evF g v) = nI (treeS g x v).order := by
  rw [evF, evs_pops, onS_stF, stpF, List.map_map]; rfl

theorem evF_label (hR : g.Right) (hv : v < g.n) {x : Bool} {u : Nat} (hu : u < g.n) : labE (evF g v) (sI x) u = if dAt (treeS g x v).dist u < far then some (dAt (treeS g x v).dist u) else none := by
  have T := treeS_of hR hv x
  rw [evF, evs_label, onS_stF]
  have key : ∀ (l : List Nat), (((l.map fun w => (⟨x, w, dAt (treeS g x v).dist w⟩ : Stp)).find? fun s => decide (s.v = u)).map Stp.d) = if u ∈ l then some (dAt (treeS g x v).dist u) else none := by
    intro l
    induction l with
    | nil => rfl
    | cons w l ih =>
      rw [List.map_cons, List.find?_cons]
      by_cases h : w = u
      · subst h; simp
      · rw [show (decide ((⟨x, w, dAt (treeS g x v).dist w⟩ : Stp).v = u)) = false by simpa using h]
        refine ih.trans ?_
        have hm : u ∈ l ↔ u ∈ w :: l := by
          rw [List.mem_cons]
          exact ⟨.inr, fun hh => hh.resolve_left fun e => h e.symm⟩
        by_cases hl : u ∈ l
        · rw [if_pos hl, if_pos (hm.1 hl)]
        · rw [if_neg hl, if_neg fun hh => hl (hm.2 hh)]
  rw [stpF, key]
  by_cases h : u ∈ (treeS g x v).order
  · rw [if_pos h, if_pos ((T.reached u hu).1 h)]
  · rw [if_neg h, if_neg fun hl => h ((T.reached u hu).2 hl)]

theorem evF_kind : ∀ e ∈ evF g v, e.kind = 0 ∨ e.kind = 1 := fun e he => by
  obtain ⟨s, _, rfl | ⟨i, _, rfl⟩⟩ := mem_evs.1 he
  · exact .inl rfl
  · exact .inr rfl

theorem evF_len (hR : g.Right) (hv : v < g.n) : (evF g v).length ≤ (g.arcs.length + 1) * (2 * g.n) := by
  refine Nat.le_trans (evs_len (m := g.arcs.length) fun _ _ => outG_len) (Nat.mul_le_mul_left _ (Nat.le_trans mixS_len ?_))
  have h1 := nodup_le (treeS_of hR hv false).nodup (treeS_of hR hv false).range
  have h2 := nodup_le (treeS_of hR hv true).nodup (treeS_of hR hv true).range
  have h1 : (g.from v).order.length ≤ g.n := h1
  have h2 : (g.to v).order.length ≤ g.n := h2
  omega

end
end Go.Mh

/-! A search from both ends, as data. -/
namespace Go.Mh
open Go

/-- What is asked: a graph, its ends, the arcs that are allowed, potentials. -/
structure Qs where
  g : G
  s : Nat
  t : Nat
  allow : List Bool
  pi : List Int

namespace Qs
variable (Q : Qs)
def opn (v : Nat) : Bool := Q.pi.isEmpty || (decide (-far < Q.pi.getD v 0) && decide (Q.pi.getD v 0 < far))
def alw (i : Nat) : Bool := Q.allow.isEmpty || Q.allow.getD i false
def ok (i : Nat) : Bool := Q.alw i && (Q.opn (arcAt Q.g.arcs i).f && Q.opn (arcAt Q.g.arcs i).t)
def p (v : Nat) : Int := Q.pi.getD v 0
def pot (x : Bool) (v : Nat) : Int := if x then - Q.p v else Q.p v
def src (x : Bool) : Nat := if x then Q.t else Q.s
def Feas : Prop := ∀ i, i < Q.g.arcs.length → Q.ok i = true → Q.p (arcAt Q.g.arcs i).f ≤ Q.p (arcAt Q.g.arcs i).t + 2 * (arcAt Q.g.arcs i).w
def outs (x : Bool) (v : Nat) : List Nat := (outG Q.g x v).filter Q.alw
structure Ok : Prop where
  r : Q.g.Right
  s : Q.s < Q.g.n
  t : Q.t < Q.g.n
  allow : Q.allow = [] ∨ Q.allow.length = Q.g.arcs.length
  pi : Q.pi = [] ∨ Q.pi.length = Q.g.n
end Qs

theorem Qs.ok_end {Q : Qs} {i : Nat} {x : Bool} : Q.ok i = true ↔ Q.alw i = true ∧ Q.opn (tlS x (arcAt Q.g.arcs i)) = true ∧ Q.opn (hdS x (arcAt Q.g.arcs i)) = true := by
  unfold Qs.ok
  cases x
  · simp [tlS, hdS]
  · simp only [tlS, hdS, if_true, Bool.and_eq_true]
    exact ⟨fun h => ⟨h.1, h.2.2, h.2.1⟩, fun h => ⟨h.1, h.2.2, h.2.1⟩⟩

theorem Qs.feas_end {Q : Qs} (h : Q.Feas) {i : Nat} (hi : i < Q.g.arcs.length) (ho : Q.ok i = true) (x : Bool) : Q.pot x (tlS x (arcAt Q.g.arcs i)) ≤ Q.pot x (hdS x (arcAt Q.g.arcs i)) + 2 * (arcAt Q.g.arcs i).w := by
  have := h i hi ho
  cases x
  · exact this
  · show - Q.p (arcAt Q.g.arcs i).t ≤ - Q.p (arcAt Q.g.arcs i).f + _
    omega

theorem Qs.p_opn {Q : Qs} {v : Nat} (h : Q.opn v = true) : -far < Q.p v ∧ Q.p v < far := by
  unfold Qs.opn at h
  unfold Qs.p
  cases hp : Q.pi with
  | nil => simp [far]
  | cons a l => rw [hp] at h; simpa using h

/-- Both sides. -/
structure BW where
  sd : Bool → BS
  ev : List Ev
  dist : Int
  meet : Int

def upd1 (f : Bool → BS) (x : Bool) (b : BS) : Bool → BS := fun y => if y = x then b else f y
theorem upd1_same {f : Bool → BS} {x : Bool} {b : BS} : upd1 f x b x = b := if_pos rfl
theorem upd1_not {f : Bool → BS} {x : Bool} {b : BS} : upd1 f x b (!x) = f (!x) := if_neg (by cases x <;> decide)
theorem upd1_ne {f : Bool → BS} {x y : Bool} {b : BS} (h : y ≠ x) : upd1 f x b y = f y := if_neg h

def BW.near (S : BW) (x : Bool) (v : Nat) (d : Int) : Option Int := match (S.sd !x).lab v with
  | some m => if d + m < S.dist then some (d + m) else none
  | none => none
def Qs.put (Q : Qs) (S : BW) (x : Bool) (v : Nat) (a d : Int) : BW :=
  ⟨upd1 S.sd x ((S.sd x).put (Q.pot x) v a d), S.ev, (S.near x v d).getD S.dist, if (S.near x v d).isSome then (v : Int) else S.meet⟩
def Qs.reach (Q : Qs) (S : BW) (x : Bool) (v : Nat) (a d : Int) : BW := if (S.sd x).takes Q.opn v d then Q.put S x v a d else S

theorem near_le {S : BW} {x : Bool} {v : Nat} {d : Int} : (S.near x v d).getD S.dist ≤ S.dist := by
  unfold BW.near
  split
  · split
    · rw [Option.getD_some]; omega
    · exact Int.le_refl _
  · exact Int.le_refl _

abbrev Qs.SIx (Q : Qs) (x : Bool) (b : BS) (B : Int) : Prop := SI Q.g.arcs (tlS x) (hdS x) Q.ok Q.g.n (Q.src x) Q.opn (Q.pot x) Q.Feas b B

structure BI (Q : Qs) (S : BW) (B : Bool → Int) : Prop where
  si : ∀ x, Q.SIx x (S.sd x) (B x)
  c1 : ∀ x (u : Nat) d d', (S.sd x).lab u = some d → (S.sd !x).lab u = some d' → S.dist ≤ d + d'
  c2 : S.dist = far ∨ ∃ (u : Nat) (d0 d1 : Int), S.meet = u ∧ (S.sd false).lab u = some d0 ∧ (S.sd true).lab u = some d1 ∧ S.dist = d0 + d1
  c3 : S.dist ≤ far

section
variable {Q : Qs} {S : BW} {B : Bool → Int}

theorem BI.put (H : BI Q S B) {x : Bool} {v : Nat} {a d : Int} (hsi : Q.SIx x ((S.sd x).put (Q.pot x) v a d) (B x)) (hlow : ∀ was, (S.sd x).lab v = some was → d < was) : BI Q (Q.put S x v a d) B := by
  have lab' : ∀ z, ((Q.put S x v a d).sd x).lab z = if z = (v : Int) then some d else (S.sd x).lab z := fun z => by
    show (upd1 S.sd x _ x).lab z = _
    rw [upd1_same]; rfl
  have labn : ∀ z, ((Q.put S x v a d).sd (!x)).lab z = (S.sd (!x)).lab z := fun z => by
    show (upd1 S.sd x _ (!x)).lab z = _
    rw [upd1_not]
  have hnear : ∀ m, (S.sd (!x)).lab v = some m → (Q.put S x v a d).dist ≤ d + m := fun m hm => by
    show (S.near x v d).getD S.dist ≤ _
    unfold BW.near
    rw [hm]
    dsimp only
    split
    · rw [Option.getD_some]; exact Int.le_refl _
    · rw [Option.getD_none]; omega
  have key : ∀ (u : Nat) e e', ((Q.put S x v a d).sd x).lab u = some e → ((Q.put S x v a d).sd (!x)).lab u = some e' → (Q.put S x v a d).dist ≤ e + e' := by
    intro u e e' h1 h2
    rw [lab'] at h1
    rw [labn] at h2
    split at h1
    · rename_i he
      obtain rfl := Int.ofNat.inj he
      obtain rfl := Option.some.inj h1
      exact hnear _ h2
    · exact Int.le_trans near_le (H.c1 x u e e' h1 h2)
  refine ⟨fun y => ?_, fun y u e e' h1 h2 => ?_, ?_, Int.le_trans near_le H.c3⟩
  · by_cases h : y = x
    · subst h
      show Q.SIx y (upd1 S.sd y _ y) (B y)
      rw [upd1_same]; exact hsi
    · show Q.SIx y (upd1 S.sd x _ y) (B y)
      rw [upd1_ne h]; exact H.si y
  · by_cases h : y = x
    · subst h; exact key u e e' h1 h2
    · have hy : y = !x := by cases x <;> cases y <;> simp_all
      subst hy
      rw [Bool.not_not] at h2
      have := key u e' e h2 h1
      omega
  · cases hn : S.near x v d with
    | some z =>
      right
      have hn0 := hn
      unfold BW.near at hn
      cases hm : (S.sd (!x)).lab v with
      | none => rw [hm] at hn; cases hn
      | some m =>
        rw [hm] at hn
        dsimp only at hn
        split at hn
        · rename_i hlt
          obtain rfl := Option.some.inj hn
          have hd : (Q.put S x v a d).dist = d + m := by
            show (S.near x v d).getD S.dist = _
            rw [hn0]; rfl
          have hme : (Q.put S x v a d).meet = (v : Int) := by
            show (if (S.near x v d).isSome = true then (v : Int) else S.meet) = _
            rw [hn0]; rfl
          have l1 : ((Q.put S x v a d).sd x).lab v = some d := by rw [lab', if_pos rfl]
          have l2 : ((Q.put S x v a d).sd (!x)).lab v = some m := by rw [labn]; exact hm
          cases x
          · exact ⟨v, d, m, hme, l1, l2, hd⟩
          · exact ⟨v, m, d, hme, l2, l1, by omega⟩
        · cases hn
    | none =>
      have hd : (Q.put S x v a d).dist = S.dist := by
        show (S.near x v d).getD S.dist = _
        rw [hn]; rfl
      have hme : (Q.put S x v a d).meet = S.meet := by
        show (if (S.near x v d).isSome = true then (v : Int) else S.meet) = _
        rw [hn]; rfl
      rw [hd, hme]
      refine H.c2.imp id fun ⟨u, d0, d1, h1, h2, h3, h4⟩ => ⟨u, d0, d1, h1, ?_⟩
      have hne : u ≠ v := fun e => by
        subst e
        unfold BW.near at hn
        cases x
        · rw [show (!false) = true from rfl, h3] at hn
          dsimp only at hn
          have := hlow d0 h2
          rw [if_pos (by omega)] at hn; cases hn
        · rw [show (!true) = false from rfl, h2] at hn
          dsimp only at hn
          have := hlow d1 h3
          rw [if_pos (by omega)] at hn; cases hn
      have hne' : ¬ (u : Int) = (v : Int) := fun e => hne (Int.ofNat.inj e)
      cases x
      · refine ⟨?_, ?_, h4⟩
        · rw [lab', if_neg hne']; exact h2
        · rw [show true = !false from rfl, labn]; exact h3
      · refine ⟨?_, ?_, h4⟩
        · rw [show false = !true from rfl, labn]; exact h2
        · rw [lab', if_neg hne']; exact h3

theorem takes_iff {opn : Nat → Bool} {b : BS} {v : Nat} {d : Int} : b.takes opn v d = true ↔ opn v = true ∧ v ∉ b.ord ∧ ∀ was, b.lab v = some was → d < was := by
  unfold BS.takes
  cases b.lab v with
  | none => simp
  | some w => simp

def BW.zero : BW := ⟨fun _ => BS.zero, [], far, 0⟩
def Qs.start (Q : Qs) : BW := Q.reach (Q.reach BW.zero false Q.s (-1) 0) true Q.t (-1) 0

theorem BI.zero : BI Q BW.zero fun _ => 0 :=
  ⟨fun x => SI.start, fun x u d d' h => by simp [BW.zero, BS.zero] at h, .inl rfl, Int.le_refl _⟩

theorem BI.first (H : BI Q S fun _ => 0) (hQ : Q.Ok) {x : Bool} (he : S.sd x = BS.zero) : BI Q (Q.reach S x (Q.src x) (-1) 0) (fun _ => 0) ∧
    (Q.opn (Q.src x) = true → ((Q.reach S x (Q.src x) (-1) 0).sd x).lab (Q.src x) = some 0) ∧ (Q.reach S x (Q.src x) (-1) 0).sd (!x) = S.sd (!x) ∧ ((Q.reach S x (Q.src x) (-1) 0).sd x).ord = [] ∧ (Q.reach S x (Q.src x) (-1) 0).ev = S.ev := by
  unfold Qs.reach
  by_cases ht : (S.sd x).takes Q.opn (Q.src x) 0 = true
  · rw [if_pos ht]
    have hs : Q.src x < Q.g.n := match x with | false => hQ.s | true => hQ.t
    have ho := (takes_iff.1 ht).1
    refine ⟨H.put ?_ (takes_iff.1 ht).2.2, fun _ => ?_, ?_, ?_, rfl⟩
    · rw [he]
      refine SI.start.put hs ho (by simp [BS.zero]) (Int.le_refl _) (Int.le_refl _) ⟨[], .nil ?_, by simp⟩ (fun _ c hc => by simp [BS.zero] at hc) (fun _ => rfl) fun _ => rfl
      show (if _ then _ else _) = _
      rw [if_pos rfl]
    · show (upd1 S.sd x _ x).lab _ = _
      rw [upd1_same]
      show (if _ then _ else _) = _
      rw [if_pos rfl]
    · show upd1 S.sd x _ (!x) = _
      rw [upd1_not]
    · show (upd1 S.sd x _ x).ord = _
      rw [upd1_same, he]; rfl
  · rw [if_neg ht]
    refine ⟨H, fun ho => absurd (takes_iff.2 ⟨ho, ?_, ?_⟩) ht, rfl, by rw [he]; rfl, rfl⟩
    · rw [he]; simp [BS.zero]
    · rw [he]; intro was h; simp [BS.zero] at h

/-! ### Scans -/

/-- From one state to a later one, of the side x; nothing is popped between. -/
structure BW.Le (x : Bool) (S S' : BW) : Prop where
  oth : S'.sd (!x) = S.sd (!x)
  ord : (S'.sd x).ord = (S.sd x).ord
  low : ∀ z d, (S.sd x).lab z = some d → ∃ d', d' ≤ d ∧ (S'.sd x).lab z = some d'
  same : ∀ c ∈ (S.sd x).ord, (S'.sd x).lab (c : Int) = (S.sd x).lab c

theorem BW.Le.refl {x : Bool} : BW.Le x S S := ⟨rfl, rfl, fun z d h => ⟨d, Int.le_refl _, h⟩, fun _ _ => rfl⟩
theorem BW.Le.trans {x : Bool} {S' S'' : BW} (a : BW.Le x S S') (b : BW.Le x S' S'') : BW.Le x S S'' :=
  ⟨b.oth.trans a.oth, b.ord.trans a.ord, fun z d h => by
    obtain ⟨d', h1, h2⟩ := a.low z d h
    obtain ⟨d'', h3, h4⟩ := b.low z d' h2
    exact ⟨d'', by omega, h4⟩, fun c hc => (b.same c (by rw [a.ord]; exact hc)).trans (a.same c hc)⟩

def Rx (Q : Qs) (S : BW) (x : Bool) (i : Nat) : Prop :=
  ∃ d', (S.sd x).lab (hdS x (arcAt Q.g.arcs i)) = some d' ∧ (Q.Feas → ∀ dv, (S.sd x).lab (tlS x (arcAt Q.g.arcs i)) = some dv → d' ≤ dv + (arcAt Q.g.arcs i).w)

theorem Rx.le {x : Bool} {i : Nat} {S' : BW} (h : Rx Q S x i) (a : BW.Le x S S') (ho : tlS x (arcAt Q.g.arcs i) ∈ (S.sd x).ord) : Rx Q S' x i := by
  obtain ⟨d', h1, h2⟩ := h
  obtain ⟨d'', h3, h4⟩ := a.low _ _ h1
  refine ⟨d'', h4, fun hF dv hv => ?_⟩
  rw [a.same _ ho] at hv
  have := h2 hF dv hv
  omega

def Qs.scan1 (Q : Qs) (x : Bool) (v : Nat) (S : BW) (i : Nat) : BW :=
  if Q.alw i then Q.reach { S with ev := S.ev ++ [scanE x i] } x (hdS x (arcAt Q.g.arcs i)) i ((((S.sd x).lab v).getD 0) + (arcAt Q.g.arcs i).w) else S

theorem BI.ev (H : BI Q S B) (ev : List Ev) : BI Q { S with ev := ev } B := ⟨H.si, H.c1, H.c2, H.c3⟩

theorem reach_ev {x : Bool} {v : Nat} {a d : Int} : (Q.reach S x v a d).ev = S.ev := by
  unfold Qs.reach; split <;> rfl

/-- An arc scanned. -/
theorem BI.scan1 (H : BI Q S B) (hQ : Q.Ok) {x : Bool} {v i : Nat} {dv : Int} (hv : v ∈ (S.sd x).ord) (hdv : (S.sd x).lab v = some dv) (hmax : Q.Feas → ∀ c ∈ (S.sd x).ord, ∀ dc, (S.sd x).lab (c : Int) = some dc → 2 * dc + Q.pot x c ≤ 2 * dv + Q.pot x v)
    (hi : i < Q.g.arcs.length) (ht : tlS x (arcAt Q.g.arcs i) = v) (hB : dv + (arcAt Q.g.arcs i).w ≤ B x) (hz : Q.opn (Q.src x) = true → (S.sd x).lab (Q.src x) = some 0) :
    BI Q (Q.scan1 x v S i) B ∧ BW.Le x S (Q.scan1 x v S i) ∧ (Q.ok i = true → Rx Q (Q.scan1 x v S i) x i) ∧ (Q.scan1 x v S i).ev = S.ev ++ (if Q.alw i = true then [scanE x i] else []) := by
  unfold Qs.scan1
  by_cases ha : Q.alw i = true
  · rw [if_pos ha, if_pos ha, reach_ev, hdv, Option.getD_some]
    have hends : hdS x (arcAt Q.g.arcs i) < Q.g.n := by
      have := hQ.r.ends _ (arcAt_mem hi)
      cases x
      · exact this.2.1
      · exact this.1
    have h0 : 0 ≤ dv := by
      obtain ⟨_, _, _, _, h, _⟩ := (H.si x).lab _ _ hdv
      exact h
    have hov : Q.opn v = true := ((H.si x).ordn v hv).2
    unfold Qs.reach
    by_cases hk : BS.takes Q.opn (S.sd x) (hdS x (arcAt Q.g.arcs i)) (dv + (arcAt Q.g.arcs i).w) = true
    · rw [if_pos hk]
      obtain ⟨ho, hno, hlow⟩ := takes_iff.1 hk
      have hok : Q.ok i = true := (Qs.ok_end (x := x)).2 ⟨ha, by rw [ht]; exact hov, ho⟩
      have lab' : ∀ z, ((Q.put { S with ev := S.ev ++ [scanE x i] } x (hdS x (arcAt Q.g.arcs i)) i (dv + (arcAt Q.g.arcs i).w)).sd x).lab z = if z = ((hdS x (arcAt Q.g.arcs i) : Nat) : Int) then some (dv + (arcAt Q.g.arcs i).w : Int) else (S.sd x).lab z := fun z => by
        show (upd1 S.sd x _ x).lab z = _
        rw [upd1_same]; rfl
      have hsame : ∀ c ∈ (S.sd x).ord, ((Q.put { S with ev := S.ev ++ [scanE x i] } x (hdS x (arcAt Q.g.arcs i)) i (dv + (arcAt Q.g.arcs i).w)).sd x).lab (c : Int) = (S.sd x).lab c := fun c hc => by
        rw [lab', if_neg fun e => hno (by rw [← Int.ofNat.inj e]; exact hc)]
      refine ⟨BI.put (H.ev _) ?_ hlow, ⟨?_, ?_, fun z d hzd => ?_, hsame⟩, fun _ => ⟨_, by rw [lab', if_pos rfl], fun hF dv' hdv' => ?_⟩, rfl⟩
      · refine (H.si x).put hends ho hno (by omega) hB ?_ ?_ ?_ ?_
        · obtain ⟨r, h1, h2⟩ := (H.si x).bk v dv hdv
          rw [if_pos hv] at h2
          refine ⟨i :: r, .cons ?_ hi hok (by rw [ht]; exact hv) ?_, ?_⟩
          · show (if _ then _ else _) = _
            rw [if_pos rfl]
          · have kp : ∀ w ∈ (S.sd x).ord, (BS.put (Q.pot x) (S.sd x) (hdS x (arcAt Q.g.arcs i)) (i : Int) (dv + (arcAt Q.g.arcs i).w)).arc (w : Int) = (S.sd x).arc w := fun w hw => by
              show (if (w : Int) = _ then _ else (S.sd x).arc w) = _
              rw [if_neg fun e => hno (by rw [← Int.ofNat.inj e]; exact hw)]
            rw [ht]
            exact h1.keep kp (fun _ h => h) (kp v hv)
          · have := List.idxOf_lt_length_of_mem hv
            rw [List.length_cons]; omega
        · intro hF c hc dc hdc
          have h1 := hmax hF c hc dc hdc
          have h2 := Qs.feas_end hF hi hok x
          rw [ht] at h2
          omega
        · intro e
          have hs := hz (by rw [← e]; exact ho)
          rw [← e] at hs
          have := hlow 0 hs
          omega
        · intro e
          rw [e] at hv; cases hv
      · show upd1 S.sd x _ (!x) = _
        rw [upd1_not]
      · show (upd1 S.sd x _ x).ord = _
        rw [upd1_same]; rfl
      · rw [lab']
        split
        · rename_i e
          rw [e] at hzd
          have := hlow d hzd
          exact ⟨_, by omega, rfl⟩
        · exact ⟨d, Int.le_refl _, hzd⟩
      · rw [ht, hsame v hv, hdv] at hdv'
        obtain rfl := Option.some.inj hdv'
        exact Int.le_refl _
    · rw [if_neg hk]
      refine ⟨H.ev _, ⟨rfl, rfl, fun z d h => ⟨d, Int.le_refl _, h⟩, fun _ _ => rfl⟩, fun hok => ?_, rfl⟩
      have ho := ((Qs.ok_end (x := x)).1 hok).2.2
      by_cases hm : hdS x (arcAt Q.g.arcs i) ∈ (S.sd x).ord
      · obtain ⟨d', hd'⟩ := (H.si x).ordl _ hm
        refine ⟨d', hd', fun hF dv' hdv' => ?_⟩
        have hdv' : (S.sd x).lab (tlS x (arcAt Q.g.arcs i)) = some dv' := hdv'
        rw [ht, hdv] at hdv'
        obtain rfl := Option.some.inj hdv'
        have h1 := hmax hF _ hm _ hd'
        have h2 := Qs.feas_end hF hi hok x
        rw [ht] at h2
        omega
      · cases hl : (S.sd x).lab (hdS x (arcAt Q.g.arcs i)) with
        | none => exact absurd (takes_iff.2 ⟨ho, hm, fun was h => by rw [hl] at h; cases h⟩) hk
        | some was =>
          refine ⟨was, hl, fun hF dv' hdv' => ?_⟩
          have hdv' : (S.sd x).lab (tlS x (arcAt Q.g.arcs i)) = some dv' := hdv'
          rw [ht, hdv] at hdv'
          obtain rfl := Option.some.inj hdv'
          rcases Int.lt_or_le (dv + (arcAt Q.g.arcs i).w) was with h | h
          · exact absurd (takes_iff.2 ⟨ho, hm, fun was' h' => by rw [hl] at h'; rw [← Option.some.inj h']; exact h⟩) hk
          · exact h
  · rw [if_neg ha, if_neg ha, List.append_nil]
    exact ⟨H, .refl, fun hok => absurd ((Qs.ok_end (x := x)).1 hok).1 ha, rfl⟩

def Qs.scan (Q : Qs) (x : Bool) (v : Nat) (S : BW) (ids : List Nat) : BW := ids.foldl (Q.scan1 x v) S

theorem BI.scan (hQ : Q.Ok) {x : Bool} {v : Nat} {dv : Int} (hB : dv + W ≤ B x) : ∀ {ids : List Nat} {S : BW}, BI Q S B → v ∈ (S.sd x).ord → (S.sd x).lab v = some dv →
    (Q.Feas → ∀ c ∈ (S.sd x).ord, ∀ dc, (S.sd x).lab (c : Int) = some dc → 2 * dc + Q.pot x c ≤ 2 * dv + Q.pot x v) → (∀ i ∈ ids, i < Q.g.arcs.length ∧ tlS x (arcAt Q.g.arcs i) = v) → (Q.opn (Q.src x) = true → (S.sd x).lab (Q.src x) = some 0) →
    BI Q (Q.scan x v S ids) B ∧ BW.Le x S (Q.scan x v S ids) ∧ (∀ i ∈ ids, Q.ok i = true → Rx Q (Q.scan x v S ids) x i) ∧ (Q.scan x v S ids).ev = S.ev ++ (ids.filter Q.alw).map (scanE x) ∧ (Q.opn (Q.src x) = true → ((Q.scan x v S ids).sd x).lab (Q.src x) = some 0)
  | [], S, H, _, _, _, _, hz => ⟨H, .refl, fun i h => absurd h List.not_mem_nil, (List.append_nil _).symm, hz⟩
  | i :: ids, S, H, hv, hdv, hmax, hids, hz => by
    obtain ⟨hi, ht⟩ := hids i List.mem_cons_self
    have hw : ((arcAt Q.g.arcs i).w : Int) ≤ W := by
      have := (hQ.r.ends _ (arcAt_mem hi)).2.2
      show ((arcAt Q.g.arcs i).w : Int) ≤ 2147483647
      omega
    obtain ⟨h1, h2, h3, h4⟩ := H.scan1 hQ hv hdv hmax hi ht (by omega) hz
    have hz' : Q.opn (Q.src x) = true → ((Q.scan1 x v S i).sd x).lab (Q.src x) = some 0 := fun ho => by
      obtain ⟨d', e1, e2⟩ := h2.low _ _ (hz ho)
      rw [e2, (h1.si x).zero d' e2]
    have hv' : v ∈ ((Q.scan1 x v S i).sd x).ord := by rw [h2.ord]; exact hv
    have hdv' : ((Q.scan1 x v S i).sd x).lab v = some dv := (h2.same v hv).trans hdv
    obtain ⟨g1, g2, g3, g4, g5⟩ := BI.scan hQ hB (ids := ids) h1 hv' hdv' (fun hF c hc dc hdc => by
      rw [h2.ord] at hc
      rw [h2.same c hc] at hdc
      exact hmax hF c hc dc hdc) (fun j hj => hids j (List.mem_cons_of_mem _ hj)) hz'
    refine ⟨g1, h2.trans g2, fun j hj hok => ?_, ?_, g5⟩
    · rcases List.mem_cons.1 hj with rfl | hj
      · exact (h3 hok).le g2 (by rw [ht]; exact hv')
      · exact g3 j hj hok
    · show (Q.scan x v (Q.scan1 x v S i) ids).ev = _
      rw [g4, h4, List.filter_cons]
      split
      · simp
      · simp

end
end Go.Mh

/-! What a search from both ends tells. -/
namespace Go.Mh
open Go

theorem Way.cat {l : List A} {tl hd : A → Nat} {s u v : Nat} {d e : Int} (h : Way l tl hd s u d) (h' : Way l tl hd u v e) : Way l tl hd s v (d + e) := by
  induction h' with
  | nil => rw [Int.add_zero]; exact h
  | step a _ hm ht ih => rw [← Int.add_assoc]; exact .step a ih hm ht
theorem Way.rev {l : List A} {tl hd : A → Nat} {s v : Nat} {d : Int} (h : Way l tl hd s v d) : Way l hd tl v s d := by
  induction h with
  | nil => exact .nil
  | step a _ hm ht ih =>
    rename_i v d _
    have h1 : Way l hd tl (hd a) (tl a) (0 + a.w) := .step a .nil hm rfl
    rw [ht] at h1
    have := h1.cat ih
    rw [show 0 + (a.w : Int) + d = d + a.w by omega] at this
    exact this

def Qs.H (Q : Qs) : List A := ((List.range Q.g.arcs.length).filter Q.ok).map (arcAt Q.g.arcs)

section
variable {Q : Qs} {S : BW}

theorem mem_H {a : A} : a ∈ Q.H ↔ ∃ i, i < Q.g.arcs.length ∧ Q.ok i = true ∧ arcAt Q.g.arcs i = a := by
  simp only [Qs.H, List.mem_map, List.mem_filter, List.mem_range]
  exact ⟨fun ⟨i, ⟨a, b⟩, c⟩ => ⟨i, a, b, c⟩, fun ⟨i, a, b, c⟩ => ⟨i, ⟨a, b⟩, c⟩⟩

theorem way_ends {x : Bool} {s v : Nat} {d : Int} (h : Way Q.H (tlS x) (hdS x) s v d) : v = s ∨ (Q.opn s = true ∧ Q.opn v = true) := by
  induction h with
  | nil => exact .inl rfl
  | step a _ hm ht ih =>
    obtain ⟨i, hi, ho, rfl⟩ := mem_H.1 hm
    obtain ⟨_, h1, h2⟩ := (Qs.ok_end (x := x)).1 ho
    right
    rcases ih with e | e
    · exact ⟨by rw [← e, ← ht]; exact h1, h2⟩
    · exact ⟨e.1, h2⟩

theorem way_feas (hF : Q.Feas) {x : Bool} {s v : Nat} {d : Int} (h : Way Q.H (tlS x) (hdS x) s v d) : Q.pot x s ≤ Q.pot x v + 2 * d := by
  induction h with
  | nil => omega
  | step a _ hm ht ih =>
    obtain ⟨i, hi, ho, rfl⟩ := mem_H.1 hm
    have := Qs.feas_end hF hi ho x
    rw [ht] at this
    omega

theorem way_back {x : Bool} {s v : Nat} {d : Int} (h : Way Q.H (tlS x) (hdS x) s v d) : Way Q.H (tlS (!x)) (hdS (!x)) v s d := by
  cases x
  · exact h.rev
  · exact h.rev

theorem Bk.way {x : Bool} {arc : Int → Option Int} {ord : List Nat} {u : Nat} {r : List Nat} {d : Int} (h : Bk Q.g.arcs (tlS x) (hdS x) Q.ok arc ord (Q.src x) u r d) : Way Q.H (tlS x) (hdS x) (Q.src x) u d := by
  induction h with
  | nil => exact .nil
  | cons _ hi ho _ _ ih => exact .step _ ih (mem_H.2 ⟨_, hi, ho, rfl⟩) rfl

theorem Bk.all {x : Bool} {arc : Int → Option Int} {ord : List Nat} {u : Nat} {r : List Nat} {d : Int} (h : Bk Q.g.arcs (tlS x) (hdS x) Q.ok arc ord (Q.src x) u r d) : tsum Q.g.arcs r = d ∧ ∀ i ∈ r, i < Q.g.arcs.length ∧ Q.ok i = true := by
  induction h with
  | nil => exact ⟨rfl, fun i h => absurd h List.not_mem_nil⟩
  | cons _ hi ho _ _ ih =>
    refine ⟨by rw [tsum_cons, ih.1]; omega, fun j hj => ?_⟩
    rcases List.mem_cons.1 hj with rfl | hj
    · exact ⟨hi, ho⟩
    · exact ih.2 j hj

theorem Bk.trail1 {arc : Int → Option Int} {ord : List Nat} {u : Nat} {r : List Nat} {d : Int} (h : Bk Q.g.arcs (tlS true) (hdS true) Q.ok arc ord (Q.src true) u r d) : Trail Q.g.arcs u r Q.t := by
  induction h with
  | nil => exact rfl
  | cons _ hi _ _ _ ih => exact ⟨hi, rfl, ih⟩
theorem Bk.trail0 {arc : Int → Option Int} {ord : List Nat} {u : Nat} {r : List Nat} {d : Int} (h : Bk Q.g.arcs (tlS false) (hdS false) Q.ok arc ord (Q.src false) u r d) : Trail Q.g.arcs Q.s r.reverse u := by
  induction h with
  | nil => exact rfl
  | cons _ hi _ _ _ ih =>
    rw [List.reverse_cons]
    exact ih.append ⟨hi, rfl, rfl⟩

/-! ### Steps -/

def BW.next (S : BW) : Option Bool := match least (S.sd false).hp, least (S.sd true).hp with
  | some p, some q => if 2 * S.dist ≤ p.2 + q.2 then none else if p.2 ≤ q.2 then some false else some true
  | _, _ => none

def Qs.pop (Q : Qs) (x : Bool) (p : HP) (S : BW) : BW := { S with sd := upd1 S.sd x ((S.sd x).pop p.1.toNat p.2), ev := S.ev ++ [popE ⟨x, p.1.toNat, ((S.sd x).lab p.1).getD 0⟩] }
def Qs.step (Q : Qs) (x : Bool) (S : BW) : BW := match least (S.sd x).hp with
  | some p => Q.scan x p.1.toNat (Q.pop x p S) (outG Q.g x p.1.toNat)
  | none => S
def Qs.run (Q : Qs) : Nat → BW → BW
  | 0, S => S
  | k + 1, S => match S.next with
    | none => S
    | some x => Q.run k (Q.step x S)

structure RunI (Q : Qs) (S : BW) (st : List Stp) : Prop where
  bi : BI Q S (fun x => (S.sd x).ord.length * W)
  z : ∀ x, Q.opn (Q.src x) = true → (S.sd x).lab (Q.src x) = some 0
  r : ∀ x i, i < Q.g.arcs.length → Q.ok i = true → tlS x (arcAt Q.g.arcs i) ∈ (S.sd x).ord → Rx Q S x i
  ev : S.ev = evs Q.outs st
  s1 : ∀ x, (onS x st).map Stp.v = (S.sd x).ord
  s2 : ∀ e ∈ st, (S.sd e.x).lab e.v = some e.d
  s3 : Q.Feas → ∀ x, (onS x st).Pairwise fun a b => 2 * a.d + Q.pot x a.v ≤ 2 * b.d + Q.pot x b.v
  s4 : Q.s ≠ Q.t → Q.Feas → ∀ e ∈ st, ∀ D, Way Q.H A.f A.t Q.s Q.t D → 2 * e.d + Q.pot e.x e.v ≤ D

theorem RunI.reach_or {st : List Stp} (R : RunI Q S st) (hF : Q.Feas) {x : Bool} (ho : Q.opn (Q.src x) = true) {u : Nat} {D : Int} (h : Way Q.H (tlS x) (hdS x) (Q.src x) u D) :
    (u ∈ (S.sd x).ord ∧ ∃ d, (S.sd x).lab u = some d ∧ d ≤ D) ∨
    ∃ (w : Nat) (dw D2 : Int), w ∉ (S.sd x).ord ∧ (S.sd x).lab w = some dw ∧ ((w : Int), 2 * dw + Q.pot x w) ∈ (S.sd x).hp ∧ Way Q.H (tlS x) (hdS x) w u D2 ∧ dw + D2 ≤ D := by
  have lb : ∀ (w : Nat) (dw D : Int), (S.sd x).lab w = some dw → dw ≤ D → (w ∈ (S.sd x).ord ∧ ∃ d, (S.sd x).lab w = some d ∧ d ≤ D) ∨
      ∃ (w' : Nat) (dw D2 : Int), w' ∉ (S.sd x).ord ∧ (S.sd x).lab w' = some dw ∧ ((w' : Int), 2 * dw + Q.pot x w') ∈ (S.sd x).hp ∧ Way Q.H (tlS x) (hdS x) w' w D2 ∧ dw + D2 ≤ D := fun w dw D hl hle => by
    obtain ⟨w', e, _, _, _, _, hh⟩ := (R.bi.si x).lab _ _ hl
    obtain rfl := Int.ofNat.inj e
    by_cases hw : w ∈ (S.sd x).ord
    · exact .inl ⟨hw, dw, hl, hle⟩
    · exact .inr ⟨w, dw, 0, hw, hl, hh.resolve_left hw, .nil, by omega⟩
  induction h with
  | nil => exact lb _ _ _ (R.z x ho) (Int.le_refl _)
  | step a _ hm ht ih =>
    rcases ih with ⟨h1, d, h2, h3⟩ | ⟨w, dw, D2, h1, h2, h3, h4, h5⟩
    · obtain ⟨i, hi, hok, rfl⟩ := mem_H.1 hm
      obtain ⟨d', e1, e2⟩ := R.r x i hi hok (by rw [ht]; exact h1)
      refine lb _ _ _ e1 ?_
      have := e2 hF d (by rw [ht]; exact h2)
      omega
    · exact .inr ⟨w, dw, D2 + a.w, h1, h2, h3, .step a h4 hm ht, by omega⟩

theorem RunI.meet {st : List Stp} (R : RunI Q S st) (hne : Q.s ≠ Q.t) (hF : Q.Feas) {D : Int} (h : Way Q.H A.f A.t Q.s Q.t D) :
    S.dist ≤ D ∨ ∃ p ∈ (S.sd false).hp, ∃ q ∈ (S.sd true).hp, p.2 + q.2 ≤ 2 * D := by
  have h : Way Q.H (tlS false) (hdS false) Q.s Q.t D := h
  obtain ⟨o1, o2⟩ := (way_ends h).resolve_left fun e => hne e.symm
  rcases R.reach_or hF (x := false) o1 h with ⟨_, d, h2, h3⟩ | ⟨w, dw, D2, h1, h2, h3, h4, h5⟩
  · left
    have := R.bi.c1 false Q.t d 0 h2 (R.z true o2)
    omega
  · rcases R.reach_or hF (x := true) o2 (way_back h4) with ⟨_, d, g2, g3⟩ | ⟨w', dw', D3, g1, g2, g3, g4, g5⟩
    · left
      have := R.bi.c1 false w dw d h2 g2
      omega
    · right
      refine ⟨_, h3, _, g3, ?_⟩
      have hf := way_feas hF g4
      have e1 : Q.pot true w' = - Q.p w' := rfl
      have e2 : Q.pot true w = - Q.p w := rfl
      have e3 : Q.pot false w = Q.p w := rfl
      rw [e1, e2] at hf
      rw [e1, e3]
      show 2 * dw + Q.p w + (2 * dw' + -Q.p w') ≤ 2 * D
      omega

theorem next_some {x : Bool} (h : S.next = some x) : ∃ p q, least (S.sd x).hp = some p ∧ least (S.sd !x).hp = some q ∧ p.2 + q.2 < 2 * S.dist ∧ p.2 ≤ q.2 := by
  unfold BW.next at h
  split at h
  · rename_i p q hp hq
    split at h
    · cases h
    · split at h
      · obtain rfl := Option.some.inj h
        exact ⟨p, q, hp, hq, by omega, by omega⟩
      · obtain rfl := Option.some.inj h
        exact ⟨q, p, hq, hp, by omega, by omega⟩
  · cases h

theorem outG_mem {g : G} {x : Bool} {i : Nat} (hi : i < g.arcs.length) : i ∈ outG g x (tlS x (arcAt g.arcs i)) := by
  have e : g.arcs[i] = arcAt g.arcs i := by simp [arcAt, hi]
  cases x
  · exact outsP_mem.2 ⟨Nat.zero_le _, by simpa using hi, by simp [e, tlS]⟩
  · exact outsP_mem.2 ⟨Nat.zero_le _, by simpa using hi, by simp [e, tlS]⟩

theorem RunI.step {st : List Stp} (R : RunI Q S st) (hQ : Q.Ok) {x : Bool} (hn : S.next = some x) :
    ∃ (v : Nat) (k d : Int), least (S.sd x).hp = some ((v : Int), k) ∧ v < Q.g.n ∧ v ∉ (S.sd x).ord ∧ (S.sd x).lab v = some d ∧ RunI Q (Q.step x S) (st ++ [⟨x, v, d⟩]) ∧ ((Q.step x S).sd x).ord = (S.sd x).ord ++ [v] ∧ (Q.step x S).sd (!x) = S.sd (!x) := by
  obtain ⟨⟨z, k⟩, q, hp, hq, hlt, hle⟩ := next_some hn
  have hm := least_spec hp
  obtain ⟨v, e, _⟩ := (R.bi.si x).ent _ hm.1
  have e : z = (v : Int) := e
  subst e
  obtain ⟨P1, P2, P3, P4, ⟨d, P5, P6, P7, P8⟩, P9⟩ := (R.bi.si x).pop hm.1 hm.2
  refine ⟨v, k, d, hp, P3, P2, P5, ?_⟩
  have hstep : Q.step x S = Q.scan x v (Q.pop x ((v : Int), k) S) (outG Q.g x v) := by
    unfold Qs.step
    rw [hp]
    dsimp only
    rw [Int.toNat_natCast]
  rw [hstep]
  have hsd : (Q.pop x ((v : Int), k) S).sd = upd1 S.sd x ((S.sd x).pop v k) := by
    show upd1 S.sd x ((S.sd x).pop ((v : Int)).toNat k) = _
    rw [Int.toNat_natCast]
  have hev : (Q.pop x ((v : Int), k) S).ev = S.ev ++ [popE ⟨x, v, d⟩] := by
    show S.ev ++ [popE ⟨x, ((v : Int)).toNat, ((S.sd x).lab (v : Int)).getD 0⟩] = _
    rw [Int.toNat_natCast, P5]; rfl
  have hdist : (Q.pop x ((v : Int), k) S).dist = S.dist := rfl
  have hmeet : (Q.pop x ((v : Int), k) S).meet = S.meet := rfl
  generalize Q.pop x ((v : Int), k) S = S1 at hsd hev hdist hmeet
  have hx : S1.sd x = (S.sd x).pop v k := by rw [hsd, upd1_same]
  have hnx : S1.sd (!x) = S.sd (!x) := by rw [hsd, upd1_not]
  have labx : ∀ y z, (S1.sd y).lab z = (S.sd y).lab z := fun y z => by
    by_cases h : y = x
    · subst h; rw [hx]; rfl
    · rw [hsd, upd1_ne h]
  have B1 : BI Q S1 (fun y => if y = x then (S.sd x).ord.length * W + W else (S.sd y).ord.length * W) := by
    refine ⟨fun y => ?_, fun y u e e' h1 h2 => ?_, ?_, by rw [hdist]; exact R.bi.c3⟩
    · by_cases h : y = x
      · subst h
        rw [hx, if_pos rfl]
        exact P1.more (by have : (0 : Int) ≤ W := by decide
                          omega)
      · rw [hsd, upd1_ne h, if_neg h]; exact R.bi.si y
    · rw [labx] at h1 h2
      rw [hdist]; exact R.bi.c1 y u e e' h1 h2
    · rw [hdist, hmeet]
      refine R.bi.c2.imp id fun ⟨u, d0, d1, h1, h2, h3, h4⟩ => ⟨u, d0, d1, h1, ?_, ?_, h4⟩
      · rw [labx]; exact h2
      · rw [labx]; exact h3
  have hvo : v ∈ (S1.sd x).ord := by rw [hx]; exact List.mem_append_right _ List.mem_cons_self
  have hout : ∀ i ∈ outG Q.g x v, i < Q.g.arcs.length ∧ tlS x (arcAt Q.g.arcs i) = v := fun i hi => outG_ok.mem x v i hi
  have hmax : Q.Feas → ∀ c ∈ (S1.sd x).ord, ∀ dc, (S1.sd x).lab (c : Int) = some dc → 2 * dc + Q.pot x c ≤ 2 * d + Q.pot x v := fun hF c hc dc hdc => by
    rw [hx] at hc
    rw [labx] at hdc
    rw [← P6]; exact P9 hF c hc dc hdc
  obtain ⟨g1, g2, g3, g4, g5⟩ := BI.scan hQ (x := x) (v := v) (dv := d) (B := fun y => if y = x then (S.sd x).ord.length * W + W else (S.sd y).ord.length * W) (by rw [if_pos rfl]; omega) (ids := outG Q.g x v) B1 hvo ((labx x v).trans P5) hmax hout (fun h => (labx x _).trans (R.z x h))
  have ordx : ((Q.scan x v S1 (outG Q.g x v)).sd x).ord = (S.sd x).ord ++ [v] := by rw [g2.ord, hx]; rfl
  have oth : (Q.scan x v S1 (outG Q.g x v)).sd (!x) = S.sd (!x) := g2.oth.trans hnx
  have othy : ∀ y, y ≠ x → (Q.scan x v S1 (outG Q.g x v)).sd y = S.sd y := fun y hy => by
    have : y = !x := by cases x <;> cases y <;> simp_all
    rw [this]; exact oth
  refine ⟨⟨?_, fun y hy => ?_, fun y i hi hok ho => ?_, ?_, fun y => ?_, fun e he => ?_, fun hF y => ?_, fun hne hF e he D hD => ?_⟩, ordx, oth⟩
  · refine ⟨fun y => ?_, g1.c1, g1.c2, g1.c3⟩
    have := g1.si y
    by_cases h : y = x
    · subst h
      refine this.more ?_
      rw [if_pos rfl, ordx, List.length_append, List.length_singleton]
      have e1 : (((S.sd y).ord.length + 1 : Nat) : Int) * W = (S.sd y).ord.length * W + W := by
        rw [Int.natCast_add, Int.add_mul]; rfl
      omega
    · rw [if_neg h] at this
      rw [othy y h] at this ⊢
      exact this
  · by_cases h : y = x
    · subst h; exact g5 hy
    · rw [othy y h]; exact R.z y hy
  · by_cases h : y = x
    · subst h
      by_cases ht : tlS y (arcAt Q.g.arcs i) = v
      · exact g3 i (by rw [← ht]; exact outG_mem hi) hok
      · rw [ordx] at ho
        have ho' : tlS y (arcAt Q.g.arcs i) ∈ (S.sd y).ord := (List.mem_append.1 ho).resolve_right fun h => ht (List.mem_singleton.1 h)
        have h1 := R.r y i hi hok ho'
        have h2 : Rx Q S1 y i := by
          obtain ⟨d', e1, e2⟩ := h1
          exact ⟨d', (labx y _).trans e1, fun hF dv hdv => e2 hF dv ((labx y _).symm.trans hdv)⟩
        exact h2.le g2 (by rw [hx]; exact List.mem_append_left _ ho')
    · rw [othy y h] at ho
      obtain ⟨d', e1, e2⟩ := R.r y i hi hok ho
      refine ⟨d', ?_, ?_⟩
      · rw [othy y h]; exact e1
      · rw [othy y h]; exact e2
  · rw [g4, hev, R.ev, evs_append, evs_one]
    simp [blkS, Qs.outs]
  · rw [onS_append, List.map_append, R.s1]
    by_cases h : y = x
    · subst h
      rw [ordx, onS_all (a := [⟨y, v, d⟩]) (by simp)]; rfl
    · rw [othy y h, onS_none (a := [⟨x, v, d⟩]) (by simpa using fun e => h e.symm)]; simp
  · rcases List.mem_append.1 he with he | he
    · have h1 := R.s2 e he
      by_cases h : e.x = x
      · have hm : e.v ∈ (S.sd e.x).ord := by rw [← R.s1]; exact List.mem_map_of_mem (mem_onS.2 ⟨he, rfl⟩)
        rw [h] at h1 hm ⊢
        rw [g2.same e.v (by rw [hx]; exact List.mem_append_left _ hm), labx]; exact h1
      · rw [othy _ h]; exact h1
    · obtain rfl := List.mem_singleton.1 he
      show ((Q.scan x v S1 (outG Q.g x v)).sd x).lab (v : Int) = some d
      rw [g2.same v hvo, labx]; exact P5
  · rw [onS_append, List.pairwise_append]
    refine ⟨R.s3 hF y, ?_, fun a ha b hb => ?_⟩
    · by_cases h : x = y
      · rw [onS_all (by simpa using h)]; exact List.pairwise_singleton _ _
      · rw [onS_none (by simpa using h)]; exact .nil
    · obtain ⟨hb, hbx⟩ := mem_onS.1 hb
      obtain rfl := List.mem_singleton.1 hb
      have hbx : x = y := hbx
      subst hbx
      obtain ⟨ha1, ha2⟩ := mem_onS.1 ha
      have h1 := R.s2 a ha1
      have hm : a.v ∈ (S.sd a.x).ord := by rw [← R.s1]; exact List.mem_map_of_mem (mem_onS.2 ⟨ha1, rfl⟩)
      rw [ha2] at h1 hm
      show 2 * a.d + Q.pot x a.v ≤ 2 * d + Q.pot x v
      rw [← P6]
      exact P9 hF a.v (List.mem_append_left _ hm) a.d h1
  · rcases List.mem_append.1 he with he | he
    · exact R.s4 hne hF e he D hD
    · obtain rfl := List.mem_singleton.1 he
      show 2 * d + Q.pot x v ≤ D
      rw [← P6]
      have hq' := (least_spec hq).2
      rcases R.meet hne hF hD with h | ⟨p', hp', q', hq2, h⟩
      · have : k + q.2 < 2 * S.dist := hlt
        have : k ≤ q.2 := hle
        omega
      · have : k ≤ q.2 := hle
        have l0 := hm.2
        cases x
        · have a1 := l0 p' hp'
          have a2 := hq' q' hq2
          rw [hl_iff] at a1 a2
          omega
        · have a1 := l0 q' hq2
          have a2 := hq' p' hp'
          rw [hl_iff] at a1 a2
          omega

theorem RunI.start (hQ : Q.Ok) : RunI Q Q.start [] := by
  obtain ⟨a1, a2, a3, a4, a5⟩ := BI.first (Q := Q) (S := BW.zero) BI.zero hQ (x := false) rfl
  have a3 : ((Q.reach BW.zero false Q.s (-1) 0).sd true) = BS.zero := a3
  obtain ⟨b1, b2, b3, b4, b5⟩ := BI.first a1 hQ (x := true) a3
  have b1 : BI Q Q.start fun _ => 0 := b1
  have b3 : Q.start.sd false = (Q.reach BW.zero false Q.s (-1) 0).sd false := b3
  have b4 : (Q.start.sd true).ord = [] := b4
  have ho : ∀ x, (Q.start.sd x).ord = [] := fun x => by
    cases x
    · rw [b3]; exact a4
    · exact b4
  refine ⟨?_, fun x hx => ?_, fun x i _ _ h => ?_, ?_, fun x => ?_, fun e h => absurd h List.not_mem_nil, fun _ x => .nil, fun _ _ e h => absurd h List.not_mem_nil⟩
  · refine ⟨fun x => ?_, b1.c1, b1.c2, b1.c3⟩
    have := b1.si x
    rw [ho]
    simpa using this
  · cases x
    · rw [b3]; exact a2 hx
    · exact b2 hx
  · rw [ho] at h; cases h
  · exact b5.trans a5
  · rw [ho]; rfl

theorem RunI.run (hQ : Q.Ok) : ∀ {k : Nat} {S : BW} {st : List Stp}, RunI Q S st → 2 * Q.g.n < k + (S.sd false).ord.length + (S.sd true).ord.length → ∃ st', RunI Q (Q.run k S) st' ∧ (Q.run k S).next = none
  | 0, S, st, R, h => by
    have h0 := (R.bi.si false).olen
    have h1 := (R.bi.si true).olen
    omega
  | k + 1, S, st, R, h => by
    unfold Qs.run
    cases hn : S.next with
    | none => exact ⟨st, R, hn⟩
    | some x =>
      dsimp only
      obtain ⟨v, kk, d, _, _, _, _, R', e1, e2⟩ := R.step hQ hn
      refine RunI.run hQ R' ?_
      cases x
      · rw [e1, show (true : Bool) = !false from rfl, e2, List.length_append, List.length_singleton]
        show _ < _ + _ + (S.sd true).ord.length
        omega
      · rw [e1, show (false : Bool) = !true from rfl, e2, List.length_append, List.length_singleton]
        show _ < k + (S.sd false).ord.length + _
        omega

def Qs.fin (Q : Qs) : BW := Q.run (2 * Q.g.n + 1) Q.start

theorem Qs.fin_run (hQ : Q.Ok) : ∃ st, RunI Q Q.fin st ∧ Q.fin.next = none := RunI.run hQ (RunI.start hQ) (by omega)

/-! ### What is told -/

theorem RunI.least {st : List Stp} (R : RunI Q S st) (hn : S.next = none) (hne : Q.s ≠ Q.t) (hF : Q.Feas) {D : Int} (h : Way Q.H A.f A.t Q.s Q.t D) : S.dist ≤ D := by
  rcases R.meet hne hF h with h | ⟨p, hp, q, hq, hle⟩
  · exact h
  · unfold BW.next at hn
    split at hn
    · rename_i p' q' hp' hq'
      have a1 := (least_spec hp').2 p hp
      have a2 := (least_spec hq').2 q hq
      rw [hl_iff] at a1 a2
      split at hn
      · omega
      · split at hn <;> cases hn
    · rename_i hno
      cases h1 : Mh.least (S.sd false).hp with
      | none => rw [least_none.1 h1] at hp; cases hp
      | some p' =>
        cases h2 : Mh.least (S.sd true).hp with
        | none => rw [least_none.1 h2] at hq; cases hq
        | some q' => exact absurd h2 (hno p' q' h1)

/-- What was found is a walk. -/
theorem RunI.found {st : List Stp} (R : RunI Q S st) (hlt : S.dist ≠ far) : ∃ (u : Nat) (r0 r1 : List Nat) (d0 d1 : Int), S.meet = u ∧ (S.sd false).lab u = some d0 ∧ (S.sd true).lab u = some d1 ∧
    Bk Q.g.arcs (tlS false) (hdS false) Q.ok (S.sd false).arc (S.sd false).ord Q.s u r0 d0 ∧ Bk Q.g.arcs (tlS true) (hdS true) Q.ok (S.sd true).arc (S.sd true).ord Q.t u r1 d1 ∧ r0.length ≤ Q.g.n ∧ r1.length ≤ Q.g.n ∧
    Trail Q.g.arcs Q.s (r0.reverse ++ r1) Q.t ∧ tsum Q.g.arcs (r0.reverse ++ r1) = S.dist ∧ ∀ i ∈ r0.reverse ++ r1, i < Q.g.arcs.length ∧ Q.ok i = true := by
  obtain ⟨u, d0, d1, h1, h2, h3, h4⟩ := R.bi.c2.resolve_left hlt
  have sh : ∀ x d, (S.sd x).lab u = some d → ∃ r, Bk Q.g.arcs (tlS x) (hdS x) Q.ok (S.sd x).arc (S.sd x).ord (Q.src x) u r d ∧ r.length ≤ Q.g.n := fun x d hd => by
    obtain ⟨r, k1, k2⟩ := (R.bi.si x).bk u d hd
    have := (R.bi.si x).olen
    refine ⟨r, k1, ?_⟩
    split at k2
    · have := List.idxOf_le_length (a := u) (l := (S.sd x).ord); omega
    · omega
  obtain ⟨r0, a1, a2⟩ := sh false d0 h2
  obtain ⟨r1, b1, b2⟩ := sh true d1 h3
  refine ⟨u, r0, r1, d0, d1, h1, h2, h3, a1, b1, a2, b2, a1.trail0.append b1.trail1, ?_, fun i hi => ?_⟩
  · rw [tsum_append, b1.all.1, h4]
    congr 1
    rw [← a1.all.1]
    unfold tsum
    rw [List.map_reverse, List.sum_reverse]
  · rcases List.mem_append.1 hi with h | h
    · exact a1.all.2 i (List.mem_reverse.1 h)
    · exact b1.all.2 i h

theorem RunI.way {st : List Stp} (R : RunI Q S st) (hlt : S.dist ≠ far) : Way Q.H A.f A.t Q.s Q.t S.dist := by
  obtain ⟨u, r0, r1, d0, d1, h1, h2, h3, a1, b1, _⟩ := R.found hlt
  obtain ⟨u', e0, e1, k1, k2, k3, k4⟩ := R.bi.c2.resolve_left hlt
  have : u = u' := Int.ofNat.inj (h1.symm.trans k1)
  subst this
  rw [h2] at k2
  rw [h3] at k3
  obtain rfl := Option.some.inj k2
  obtain rfl := Option.some.inj k3
  rw [k4]
  have w0 : Way Q.H A.f A.t Q.s u d0 := Bk.way (x := false) a1
  have w1 : Way Q.H A.f A.t u Q.t d1 := (Bk.way (x := true) b1).rev
  exact w0.cat w1

theorem RunI.nonneg {st : List Stp} (R : RunI Q S st) : 0 ≤ S.dist ∧ S.dist ≤ far := by
  refine ⟨?_, R.bi.c3⟩
  by_cases h : S.dist = far
  · rw [h]; decide
  · exact (R.way h).nonneg

/-- Labels of nodes that were popped. -/
theorem RunI.label {st : List Stp} (R : RunI Q S st) (hQ : Q.Ok) {e : Stp} (he : e ∈ st) : e.v < Q.g.n ∧ Q.opn e.v = true ∧ 0 ≤ e.d ∧ e.d < far ∧ Way Q.H (tlS e.x) (hdS e.x) (Q.src e.x) e.v e.d ∧
    (Q.Feas → Q.opn (Q.src e.x) = true → ∀ D, Way Q.H (tlS e.x) (hdS e.x) (Q.src e.x) e.v D → e.d ≤ D) := by
  have hl := R.s2 e he
  obtain ⟨u, hu, h1, h2, h3, h4, h5⟩ := (R.bi.si e.x).lab _ _ hl
  have hu := Int.ofNat.inj hu
  subst hu
  have hm : e.v ∈ (S.sd e.x).ord := by rw [← R.s1]; exact List.mem_map_of_mem (mem_onS.2 ⟨he, rfl⟩)
  have ho := (R.bi.si e.x).olen
  obtain ⟨r, hb, _⟩ := (R.bi.si e.x).bk _ _ hl
  refine ⟨h1, h2, h3, ?_, hb.way, fun hF ho D hD => ?_⟩
  · have hmost := hQ.r.most
    have hW : ((S.sd e.x).ord.length : Int) * W ≤ 16777216 * W := Int.mul_le_mul_of_nonneg_right (by omega) (by decide)
    have : (16777216 : Int) * W < far := by decide
    omega
  · rcases R.reach_or hF ho hD with ⟨_, d, g1, g2⟩ | ⟨w, dw, D2, g1, g2, g3, g4, g5⟩
    · rw [hl] at g1
      obtain rfl := Option.some.inj g1
      exact g2
    · have m1 := (R.bi.si e.x).mono hF e.v hm e.d hl _ g3
      have m2 := way_feas hF g4
      have m1 : 2 * e.d + Q.pot e.x e.v ≤ 2 * dw + Q.pot e.x w := m1
      omega

end
end Go.Mh

/-! What the laws ask of a search from both ends. -/
namespace Go.Mh
open Go

section
variable {Q : Qs} {S : BW}

/-! ### The reach of all nodes, by definition -/

structure ReI (Q : Qs) (x : Bool) (d : List Int) : Prop where
  len : d.length = Q.g.n
  zero : Q.opn (Q.src x) = true → dAt d (Q.src x) = 0
  shut : Q.opn (Q.src x) = false → ∀ v, v < Q.g.n → dAt d v = far
  way : ∀ v, v < Q.g.n → dAt d v = far ∨ (dAt d v < far ∧ Way Q.H (tlS x) (hdS x) (Q.src x) v (dAt d v))

theorem ReI.rng {x : Bool} {d : List Int} (H : ReI Q x d) {v : Nat} (hv : v < Q.g.n) : 0 ≤ dAt d v ∧ dAt d v ≤ far := by
  rcases H.way v hv with h | ⟨h, hw⟩
  · rw [h]; exact ⟨by decide, Int.le_refl _⟩
  · exact ⟨hw.nonneg, Int.le_of_lt h⟩

theorem src_lt (hQ : Q.Ok) (x : Bool) : Q.src x < Q.g.n := match x with | false => hQ.s | true => hQ.t

theorem ReI.start (hQ : Q.Ok) {x : Bool} : ReI Q x (if Q.opn (Q.src x) = true then (List.replicate Q.g.n far).set (Q.src x) 0 else List.replicate Q.g.n far) := by
  have hs := src_lt hQ x
  have hfar : ∀ v, dAt (List.replicate Q.g.n far) v = far := fun v => by
    by_cases h : v < Q.g.n
    · simp [dAt, List.getD_eq_getElem?_getD, h]
    · exact dAt_le (by simpa using h)
  cases ho : Q.opn (Q.src x) with
  | false =>
    rw [if_neg (by decide)]
    exact ⟨by simp, fun h => (by rw [ho] at h; cases h), fun _ v _ => hfar v, fun v _ => .inl (hfar v)⟩
  | true =>
    rw [if_pos rfl]
    refine ⟨by simp, fun _ => by rw [dAt_set (by simpa using hs), if_pos rfl], fun h => (by rw [ho] at h; cases h), fun v hv => ?_⟩
    rw [dAt_set (by simpa using hs)]
    split
    · rename_i e; subst e; exact .inr ⟨by decide, .nil⟩
    · exact .inl (hfar v)

theorem ReI.relax (hQ : Q.Ok) {x : Bool} {d : List Int} (H : ReI Q x d) {i : Nat} (hi : i < Q.g.arcs.length) (hok : Q.ok i = true) (h1 : dAt d (tlS x (arcAt Q.g.arcs i)) < far)
    (h2 : dAt d (tlS x (arcAt Q.g.arcs i)) + (arcAt Q.g.arcs i).w < dAt d (hdS x (arcAt Q.g.arcs i))) :
    ReI Q x (d.set (hdS x (arcAt Q.g.arcs i)) (dAt d (tlS x (arcAt Q.g.arcs i)) + (arcAt Q.g.arcs i).w)) ∧ dsum (d.set (hdS x (arcAt Q.g.arcs i)) (dAt d (tlS x (arcAt Q.g.arcs i)) + (arcAt Q.g.arcs i).w)) < dsum d := by
  have he := hQ.r.ends _ (arcAt_mem hi)
  have hf : tlS x (arcAt Q.g.arcs i) < Q.g.n := by cases x; · exact he.1
                                                   · exact he.2.1
  have ht : hdS x (arcAt Q.g.arcs i) < Q.g.n := by cases x; · exact he.2.1
                                                   · exact he.1
  have r1 := H.rng hf
  have r2 := H.rng ht
  have hd : hdS x (arcAt Q.g.arcs i) < d.length := by rw [H.len]; exact ht
  refine ⟨⟨by simp [H.len], fun ho => ?_, fun hs v hv => ?_, fun v hv => ?_⟩, ?_⟩
  · have hz := H.zero ho
    have hst : Q.src x ≠ hdS x (arcAt Q.g.arcs i) := fun e => by rw [← e, hz] at h2; omega
    rw [dAt_set hd, if_neg hst]; exact hz
  · have := H.shut hs _ hf
    omega
  · rw [dAt_set hd]
    split
    · rename_i e
      subst e
      refine .inr ⟨by omega, ?_⟩
      rcases H.way _ hf with h | ⟨_, h⟩
      · omega
      · exact .step _ h (mem_H.2 ⟨i, hi, hok, rfl⟩) rfl
    · exact H.way v hv
  · refine dsum_set hd (by omega) ?_
    rw [dAt_get]; exact h2

/-- The reach. -/
structure RL (Q : Qs) (x : Bool) (d : List Int) : Prop extends ReI Q x d where
  arcs : ∀ i, i < Q.g.arcs.length → Q.ok i = true → dAt d (tlS x (arcAt Q.g.arcs i)) < far → dAt d (hdS x (arcAt Q.g.arcs i)) ≤ dAt d (tlS x (arcAt Q.g.arcs i)) + (arcAt Q.g.arcs i).w

theorem RL.le_way {x : Bool} {d : List Int} (H : RL Q x d) (ho : Q.opn (Q.src x) = true) {v : Nat} {w : Int} (h : Way Q.H (tlS x) (hdS x) (Q.src x) v w) : w < far → dAt d v ≤ w := by
  induction h with
  | nil => intro _; rw [H.zero ho]; exact Int.le_refl 0
  | step a hw hm ht ih =>
    intro hlt
    have h1 := ih (by omega)
    obtain ⟨i, hi, hok, rfl⟩ := mem_H.1 hm
    have := H.arcs i hi hok (by rw [ht]; omega)
    rw [ht] at this
    omega

/-! ### What is found -/

theorem fin_exact (hQ : Q.Ok) (hne : Q.s ≠ Q.t) (hF : Q.Feas) {d : List Int} (H : RL Q false d) : Q.fin.dist = if Q.opn Q.t = true then dAt d Q.t else far := by
  obtain ⟨st, R, hn⟩ := Q.fin_run hQ
  have hr := H.rng hQ.t
  by_cases hf : Q.fin.dist = far
  · by_cases ho : Q.opn Q.t = true
    · rw [if_pos ho, hf]
      rcases H.way Q.t hQ.t with h | ⟨_, h⟩
      · exact h.symm
      · have := R.least hn hne hF h
        omega
    · rw [if_neg ho, hf]
  · have hw := R.way hf
    have hw' : Way Q.H (tlS false) (hdS false) Q.s Q.t Q.fin.dist := hw
    obtain ⟨o1, o2⟩ := (way_ends hw').resolve_left fun e => hne e.symm
    rw [if_pos o2]
    have h1 := H.le_way o1 hw' (by have := R.nonneg; omega)
    rcases H.way Q.t hQ.t with h | ⟨_, h⟩
    · have := R.nonneg; omega
    · have := R.least hn hne hF h
      omega

theorem label_exact (hQ : Q.Ok) {st : List Stp} (R : RunI Q S st) {e : Stp} (he : e ∈ st) {d : List Int} (H : RL Q e.x d) : dAt d e.v ≤ e.d ∧ (Q.Feas → e.d = dAt d e.v) := by
  obtain ⟨h1, h2, h3, h4, h5, h6⟩ := R.label hQ he
  have ho : Q.opn (Q.src e.x) = true := by
    rcases way_ends h5 with e' | e'
    · rw [← e']; exact h2
    · exact e'.1
  have hle := H.le_way ho h5 h4
  refine ⟨hle, fun hF => ?_⟩
  rcases H.way e.v h1 with h | ⟨_, h⟩
  · omega
  · have := h6 hF ho _ h
    omega

/-! ### By a landmark -/

def lessI (v t : Int) : Int := if far ≤ t then 0 else if far ≤ v then far else if 0 < v - t then v - t else 0
theorem less_p1 {df dt de w : Int} (hw : 0 ≤ w) (ha : dt < far → df ≤ dt + w) (h1 : lessI df de < far) (h3 : lessI dt de < far) : lessI df de ≤ lessI dt de + w := by
  unfold lessI at *
  by_cases c1 : far ≤ de
  · simp only [if_pos c1]; omega
  · by_cases c2 : far ≤ dt
    · rw [if_neg c1, if_pos c2] at h3; omega
    · by_cases c3 : far ≤ df
      · rw [if_neg c1, if_pos c3] at h1; omega
      · have := ha (by omega)
        simp only [if_neg c1, if_neg c2, if_neg c3]
        split <;> split <;> omega
theorem less_p2 {df dt ds w : Int} (hw : 0 ≤ w) (n1 : df ≤ far) (ha : dt < far → df ≤ dt + w) (h4 : lessI ds dt < far) : lessI ds dt ≤ lessI ds df + w := by
  unfold lessI at *
  by_cases c1 : far ≤ dt
  · simp only [if_pos c1]
    split
    · omega
    · split
      · unfold far; omega
      · split <;> omega
  · by_cases c2 : far ≤ ds
    · rw [if_neg c1, if_pos c2] at h4; omega
    · have := ha (by omega)
      by_cases c3 : far ≤ df
      · simp only [if_neg c1, if_neg c2, if_pos c3]
        split <;> omega
      · simp only [if_neg c1, if_neg c2, if_neg c3]
        split <;> split <;> omega
def landI (dv ds dt : Int) : Int := if far ≤ lessI dv dt ∨ far ≤ lessI ds dv then far else lessI dv dt - lessI ds dv
theorem land_le {df dt ds de w : Int} (hw : 0 ≤ w) (n1 : 0 ≤ df ∧ df ≤ far) (n2 : 0 ≤ dt ∧ dt ≤ far) (n3 : 0 ≤ ds) (n4 : 0 ≤ de) (ha : dt < far → df ≤ dt + w) (o1 : landI df ds de < far) (o2 : landI dt ds de < far) :
    landI df ds de ≤ landI dt ds de + 2 * w := by
  unfold landI at *
  split at o1
  · omega
  · split at o2
    · omega
    · rename_i h1 h2
      rw [if_neg h1, if_neg h2]
      have p1 := less_p1 (de := de) hw ha (by omega) (by omega)
      have p2 := less_p2 (ds := ds) hw n1.2 ha (by omega)
      omega

def landP (d : List Int) (s t : Nat) (v : Nat) : Int := landI (dAt d v) (dAt d s) (dAt d t)

theorem land_feas (hQ : Q.Ok) {d : List Int} {m : Nat} (H : LS Q.g.arcs A.t A.f Q.g.n m d) (hp : ∀ v, v < Q.g.n → Q.p v = landP d Q.s Q.t v) : Q.Feas := by
  intro i hi hok
  obtain ⟨_, o1, o2⟩ := (Qs.ok_end (x := false)).1 hok
  have he := hQ.r.ends _ (arcAt_mem hi)
  have o1 := (Qs.p_opn o1).2
  have o2 := (Qs.p_opn o2).2
  simp only [tlS, hdS, Bool.false_eq_true, if_false] at o1 o2
  have ha := H.arcs _ (arcAt_mem hi)
  have n1 := H.nonneg he.1
  have n2 := H.nonneg he.2.1
  have n3 := H.nonneg hQ.s
  have n4 := H.nonneg hQ.t
  have m1 := H.far_le he.1
  have m2 := H.far_le he.2.1
  rw [hp _ he.1] at o1 ⊢
  rw [hp _ he.2.1] at o2 ⊢
  exact land_le (by omega) ⟨n1, m1⟩ ⟨n2, m2⟩ n3 n4 ha o1 o2

end
end Go.Mh

namespace Go.Mh
open Go

/-! ### Turned round -/

def Qs.turn (Q : Qs) : Qs := ⟨Q.g.turned, Q.t, Q.s, Q.allow, Q.pi.map fun z => -z⟩

section
variable {Q : Qs}

theorem arcAt_swap {l : List A} {i : Nat} : arcAt (l.map A.swap) i = (arcAt l i).swap := by
  by_cases h : i < l.length
  · simp [arcAt, h]
  · simp [arcAt, h, A.swap]

theorem turn_p {v : Nat} : Q.turn.p v = - Q.p v := by
  unfold Qs.p Qs.turn
  by_cases h : v < Q.pi.length
  · simp [List.getD_eq_getElem?_getD, h]
  · simp [List.getD_eq_getElem?_getD, h]

theorem turn_opn {v : Nat} : Q.turn.opn v = Q.opn v := by
  have h := @turn_p Q v
  unfold Qs.p at h
  unfold Qs.opn
  rw [h]
  have e : Q.turn.pi.isEmpty = Q.pi.isEmpty := by unfold Qs.turn; cases Q.pi <;> rfl
  rw [e]
  congr 1
  rw [Bool.eq_iff_iff]
  simp only [Bool.and_eq_true, decide_eq_true_eq]
  omega

theorem turn_ok {i : Nat} : Q.turn.ok i = Q.ok i := by
  unfold Qs.ok
  rw [turn_opn, turn_opn]
  have e : arcAt Q.turn.g.arcs i = (arcAt Q.g.arcs i).swap := arcAt_swap
  rw [e]
  show (Q.alw i && (Q.opn (arcAt Q.g.arcs i).t && Q.opn (arcAt Q.g.arcs i).f)) = _
  rw [Bool.and_comm (Q.opn (arcAt Q.g.arcs i).t)]

theorem turn_feas (hF : Q.Feas) : Q.turn.Feas := by
  intro i hi ho
  have hi : i < Q.g.arcs.length := by simpa [Qs.turn, G.turned] using hi
  have := hF i hi (by rw [← turn_ok]; exact ho)
  have e : arcAt Q.turn.g.arcs i = (arcAt Q.g.arcs i).swap := arcAt_swap
  rw [e, turn_p, turn_p]
  show - Q.p (arcAt Q.g.arcs i).t ≤ - Q.p (arcAt Q.g.arcs i).f + 2 * (arcAt Q.g.arcs i).w
  omega

theorem way_swap' {l l' : List A} {s v : Nat} {d : Int} (h : Way l A.t A.f s v d) (hs : ∀ a ∈ l, a.swap ∈ l') : Way l' A.f A.t s v d := by
  induction h with
  | nil => exact .nil
  | step a _ hm ht ih => exact .step a.swap ih (hs a hm) ht

theorem way_swap {l l' : List A} {s v : Nat} {d : Int} (h : Way l A.f A.t s v d) (hs : ∀ a ∈ l, a.swap ∈ l') : Way l' A.f A.t v s d := way_swap' h.rev hs

theorem mem_turnH {a : A} : a ∈ Q.turn.H ↔ a.swap ∈ Q.H := by
  rw [mem_H, mem_H]
  constructor
  · rintro ⟨i, hi, ho, rfl⟩
    exact ⟨i, by simpa [Qs.turn, G.turned] using hi, by rw [← turn_ok]; exact ho, by rw [show arcAt Q.turn.g.arcs i = (arcAt Q.g.arcs i).swap from arcAt_swap]; rfl⟩
  · rintro ⟨i, hi, ho, e⟩
    refine ⟨i, by simpa [Qs.turn, G.turned] using hi, by rw [turn_ok]; exact ho, ?_⟩
    rw [show arcAt Q.turn.g.arcs i = (arcAt Q.g.arcs i).swap from arcAt_swap, e]; rfl

theorem turn_Ok (hQ : Q.Ok) : Q.turn.Ok where
  r := hQ.r.turned
  s := hQ.t
  t := hQ.s
  allow := hQ.allow.imp id fun h => by simpa [Qs.turn, G.turned] using h
  pi := hQ.pi.imp (fun h => by simp [Qs.turn, h]) fun h => by simpa [Qs.turn, G.turned] using h

theorem fin_turn (hQ : Q.Ok) (hne : Q.s ≠ Q.t) (hF : Q.Feas) : Q.fin.dist = Q.turn.fin.dist := by
  obtain ⟨st, R, hn⟩ := Q.fin_run hQ
  obtain ⟨st', R', hn'⟩ := Q.turn.fin_run (turn_Ok hQ)
  have n1 := R.nonneg
  have n2 := R'.nonneg
  have a1 : Q.fin.dist ≠ far → Q.turn.fin.dist ≤ Q.fin.dist := fun h => R'.least hn' (fun e => hne e.symm) (turn_feas hF) (way_swap (R.way h) fun a ha => mem_turnH.2 ha)
  have a2 : Q.turn.fin.dist ≠ far → Q.fin.dist ≤ Q.turn.fin.dist := fun h => R.least hn hne hF (way_swap (R'.way h) fun a ha => mem_turnH.1 ha)
  omega

/-! ### Without potentials -/

def Qs.plain (g : G) (s t : Nat) : Qs := ⟨g, s, t, [], []⟩

theorem plain_ok {g : G} {s t i : Nat} : (Qs.plain g s t).ok i = true := rfl
theorem plain_p {g : G} {s t v : Nat} {x : Bool} : (Qs.plain g s t).pot x v = 0 := by cases x <;> rfl
theorem plain_feas {g : G} {s t : Nat} : (Qs.plain g s t).Feas := fun i _ _ => by
  show (0 : Int) ≤ 0 + 2 * _
  omega
theorem plain_H {g : G} {s t : Nat} {a : A} : a ∈ (Qs.plain g s t).H ↔ a ∈ g.arcs := by
  rw [mem_H]
  constructor
  · rintro ⟨i, hi, _, rfl⟩; exact arcAt_mem hi
  · intro h
    obtain ⟨i, hi, rfl⟩ := List.mem_iff_getElem.1 h
    exact ⟨i, hi, rfl, by simp [Qs.plain, arcAt, hi]⟩
theorem plain_RL {g : G} {s t : Nat} {d : List Int} (H : LS g.arcs A.f A.t g.n s d) : RL (Qs.plain g s t) false d where
  len := H.len
  zero := fun _ => H.zero
  shut := fun h => by cases h
  way := fun v hv => (H.way v hv).imp id fun ⟨a, b⟩ => ⟨a, b.mono fun a ha => plain_H.2 ha⟩
  arcs := fun i hi _ h => H.arcs _ (arcAt_mem hi) h

theorem plain_exact {g : G} {s t : Nat} (hR : g.Right) (hs : s < g.n) (ht : t < g.n) (hne : s ≠ t) {d : List Int} (H : LS g.arcs A.f A.t g.n s d) : (Qs.plain g s t).fin.dist = dAt d t := by
  have := fin_exact (Q := Qs.plain g s t) ⟨hR, hs, ht, .inl rfl, .inl rfl⟩ hne plain_feas (plain_RL H)
  exact this.trans (if_pos rfl)

/-! ### Blocks -/

theorem blk_at {outs : Bool → Nat → List Nat} : ∀ {st : List Stp} {i : Nat} {e : Ev}, (evs outs st)[i]? = some e → e.kind = 0 →
    ∃ s rest, s ∈ st ∧ e = popE s ∧ (evs outs st).drop (i + 1) = (outs s.x s.v).map (scanE s.x) ++ rest ∧ (rest = [] ∨ ∃ s' r', rest = popE s' :: r')
  | [], i, e, h, _ => by simp [evs_nil] at h
  | s :: st, i, e, h, hk => by
    rw [evs_cons] at h ⊢
    by_cases hi : i < (blkS outs s).length
    · rw [List.getElem?_append_left hi] at h
      cases i with
      | zero =>
        have : e = popE s := by simpa [blkS] using h.symm
        subst this
        refine ⟨s, evs outs st, List.mem_cons_self, rfl, ?_, ?_⟩
        · simp [blkS]
        · cases st with
          | nil => exact .inl rfl
          | cons s' st' => exact .inr ⟨s', (outs s'.x s'.v).map (scanE s'.x) ++ evs outs st', rfl⟩
      | succ i =>
        have h : ((outs s.x s.v).map (scanE s.x))[i]? = some e := h
        obtain ⟨a, _, rfl⟩ := List.mem_map.1 (List.mem_of_getElem? h)
        exact absurd hk (show ¬ (1 : Int) = 0 by decide)
    · rw [List.getElem?_append_right (by omega)] at h
      obtain ⟨s', rest, h1, h2, h3, h4⟩ := blk_at h hk
      refine ⟨s', rest, List.mem_cons_of_mem _ h1, h2, ?_, h4⟩
      rw [List.drop_append, List.drop_eq_nil_of_le (by omega), List.nil_append, ← h3]
      congr 1
      omega

end
end Go.Mh

/-! A node popped: what is known on the way through its arcs. -/
namespace Go.Mh
open Go

section
variable {Q : Qs} {S : BW}

/-- Behind a pop, on a side. -/
structure PopI (Q : Qs) (x : Bool) (v : Nat) (d : Int) (S1 : BW) (B : Bool → Int) : Prop where
  bi : BI Q S1 B
  mem : v ∈ (S1.sd x).ord
  lab : (S1.sd x).lab v = some d
  max : Q.Feas → ∀ c ∈ (S1.sd x).ord, ∀ dc, (S1.sd x).lab (c : Int) = some dc → 2 * dc + Q.pot x c ≤ 2 * d + Q.pot x v
  z : Q.opn (Q.src x) = true → (S1.sd x).lab (Q.src x) = some 0
  bd : d + W ≤ B x
  d0 : 0 ≤ d
  far : ∀ x, B x ≤ far

theorem RunI.popped {st : List Stp} (R : RunI Q S st) (hQ : Q.Ok) {x : Bool} (hn : S.next = some x) :
    ∃ (v : Nat) (k d : Int), Mh.least (S.sd x).hp = some ((v : Int), k) ∧ v < Q.g.n ∧ v ∉ (S.sd x).ord ∧ (S.sd x).lab v = some d ∧ ∃ B, PopI Q x v d (Q.pop x ((v : Int), k) S) B := by
  obtain ⟨⟨z, k⟩, q, hp, hq, hlt, hle⟩ := next_some hn
  have hm := least_spec hp
  obtain ⟨v, e, _⟩ := (R.bi.si x).ent _ hm.1
  have e : z = (v : Int) := e
  subst e
  obtain ⟨P1, P2, P3, P4, ⟨d, P5, P6, P7, P8⟩, P9⟩ := (R.bi.si x).pop hm.1 hm.2
  refine ⟨v, k, d, hp, P3, P2, P5, fun y => if y = x then (S.sd x).ord.length * W + W else (S.sd y).ord.length * W, ?_⟩
  have hsd : (Q.pop x ((v : Int), k) S).sd = upd1 S.sd x ((S.sd x).pop v k) := by
    show upd1 S.sd x ((S.sd x).pop ((v : Int)).toNat k) = _
    rw [Int.toNat_natCast]
  have hdist : (Q.pop x ((v : Int), k) S).dist = S.dist := rfl
  have hmeet : (Q.pop x ((v : Int), k) S).meet = S.meet := rfl
  generalize Q.pop x ((v : Int), k) S = S1 at hsd hdist hmeet
  have hx : S1.sd x = (S.sd x).pop v k := by rw [hsd, upd1_same]
  have labx : ∀ y z, (S1.sd y).lab z = (S.sd y).lab z := fun y z => by
    by_cases h : y = x
    · subst h; rw [hx]; rfl
    · rw [hsd, upd1_ne h]
  have hmost := hQ.r.most
  have hW : (0 : Int) ≤ W := by decide
  have hfar : (16777216 : Int) * W < far := by decide
  have hb : ∀ m : Nat, m ≤ Q.g.n → (m : Int) * W ≤ 16777216 * W := fun m hm => Int.mul_le_mul_of_nonneg_right (by omega) hW
  refine ⟨⟨fun y => ?_, fun y u e e' h1 h2 => ?_, ?_, by rw [hdist]; exact R.bi.c3⟩, by rw [hx]; exact List.mem_append_right _ List.mem_cons_self, (labx x v).trans P5, fun hF c hc dc hdc => ?_, fun h => (labx x _).trans (R.z x h), ?_, P7, fun y => ?_⟩
  · by_cases h : y = x
    · subst h
      rw [hx, if_pos rfl]
      exact P1.more (by omega)
    · rw [hsd, upd1_ne h, if_neg h]; exact R.bi.si y
  · rw [labx] at h1 h2
    rw [hdist]; exact R.bi.c1 y u e e' h1 h2
  · rw [hdist, hmeet]
    refine R.bi.c2.imp id fun ⟨u, d0, d1, h1, h2, h3, h4⟩ => ⟨u, d0, d1, h1, ?_, ?_, h4⟩
    · rw [labx]; exact h2
    · rw [labx]; exact h3
  · rw [hx] at hc
    rw [labx] at hdc
    rw [← P6]; exact P9 hF c hc dc hdc
  · rw [if_pos rfl]; omega
  · show (if y = x then _ else _) ≤ far
    split
    · have h1 : ((S.sd x).ord ++ [v]).length ≤ Q.g.n := P1.olen
      rw [List.length_append, List.length_singleton] at h1
      have := hb _ h1
      rw [Int.natCast_add, Int.add_mul] at this
      have e1 : ((1 : Nat) : Int) * W = W := Int.one_mul _
      omega
    · have := hb _ (R.bi.si y).olen
      omega

/-- .. and behind some of its arcs. -/
theorem PopI.scan (hQ : Q.Ok) {x : Bool} {v : Nat} {d : Int} {S1 : BW} {B : Bool → Int} (P : PopI Q x v d S1 B) {ids : List Nat} (hids : ∀ i ∈ ids, i < Q.g.arcs.length ∧ tlS x (arcAt Q.g.arcs i) = v) :
    PopI Q x v d (Q.scan x v S1 ids) B := by
  obtain ⟨g1, g2, _, _, g5⟩ := BI.scan hQ P.bd P.bi P.mem P.lab P.max hids P.z
  refine ⟨g1, by rw [g2.ord]; exact P.mem, (g2.same v P.mem).trans P.lab, fun hF c hc dc hdc => ?_, g5, P.bd, P.d0, P.far⟩
  rw [g2.ord] at hc
  rw [g2.same c hc] at hdc
  exact P.max hF c hc dc hdc

theorem scan_snoc {x : Bool} {v : Nat} {S1 : BW} {ids : List Nat} {k : Nat} (hk : k < ids.length) : Q.scan x v S1 (ids.take (k + 1)) = Q.scan1 x v (Q.scan x v S1 (ids.take k)) ids[k] := by
  unfold Qs.scan
  rw [List.take_succ_eq_append_getElem hk, List.foldl_append]; rfl

theorem scan_evlen {x : Bool} {v : Nat} : ∀ {ids : List Nat} {S1 : BW}, (Q.scan x v S1 ids).ev.length ≤ S1.ev.length + ids.length
  | [], S1 => Nat.le_refl _
  | i :: ids, S1 => by
    have h1 := scan_evlen (x := x) (v := v) (ids := ids) (S1 := Q.scan1 x v S1 i)
    have h2 : (Q.scan1 x v S1 i).ev.length ≤ S1.ev.length + 1 := by
      unfold Qs.scan1
      split
      · rw [reach_ev]; simp
      · omega
    show (Q.scan x v (Q.scan1 x v S1 i) ids).ev.length ≤ _
    rw [List.length_cons]; omega

end
end Go.Mh

/-! A value built of parts of one cell each. -/
namespace Go.Mh
open Go

def setAll (cs : List Value) : List (Nat × Nat × Value) → List Value
  | [] => cs
  | (off, _, v) :: r => setAll (cs.set off v) r

def onesB (n : Nat) : List (Nat × Nat × Value) → Bool
  | [] => true
  | (off, size, _) :: r => Nat.beq size 1 && (Nat.blt off n && onesB n r)

theorem splice_set {cs : List Value} {off : Nat} {v : Value} (h : off < cs.length) (hv : v.cells = #[v]) : cs.take off ++ v.cells.toList ++ cs.drop (off + v.cells.size) = cs.set off v := by
  rw [hv, List.set_eq_take_append_cons_drop, if_pos h]; simp

theorem ones_of : ∀ {parts : List (Nat × Nat × Value)} {cs : List Value}, (∀ p ∈ parts, p.2.2.cells = #[p.2.2]) → onesB cs.length parts = true → sizesOk cs.length parts ∧ spliceAll cs parts = setAll cs parts
  | [], _, _, _ => ⟨trivial, rfl⟩
  | (off, size, v) :: r, cs, h1, h2 => by
    simp only [onesB, Bool.and_eq_true] at h2
    have hs : size = 1 := Nat.eq_of_beq_eq_true h2.1
    have ho : off < cs.length := Nat.le_of_ble_eq_true h2.2.1
    have hv := h1 (off, size, v) (List.mem_cons_self ..)
    have ih := @ones_of r (cs.set off v) (fun p hp => h1 p (List.mem_cons_of_mem _ hp)) (by rw [List.length_set]; exact h2.2.2)
    rw [List.length_set] at ih
    refine ⟨⟨by rw [show v.cells = #[v] from hv, hs]; rfl, by omega, ih.1⟩, ?_⟩
    simp only [spliceAll, setAll]
    rw [splice_set ho hv]
    exact ih.2

theorem pBuild_ones {zero cs' : List Value} {parts : List (Nat × Nat × Value)} {K : Value → Prop} (h1 : ∀ p ∈ parts, p.2.2.cells = #[p.2.2]) (h2 : onesB zero.length parts = true) (hcs : setAll zero parts = cs') (hk : K (.agg cs'.toArray)) : pBuild zero parts K := by
  have := ones_of h1 h2
  refine ⟨this.1, ?_⟩
  rw [this.2, hcs]; exact hk

end Go.Mh

namespace Go.Mh
open Go
theorem set_same {α : Type} {L : List α} {i : Nat} {r : α} (hi : L[i]? = some r) : L.set i r = L := by
  apply List.ext_getElem?
  intro j
  rw [List.getElem?_set]
  split
  · rename_i e; subst e; rw [hi]; simp [(List.getElem?_eq_some_iff.1 hi).1]
  · rfl

/-- A row of which k from both ends were exchanged. -/
def rv (xs : List Int) (k : Nat) : List Int := (List.range xs.length).map fun m => if m < k ∨ xs.length - k ≤ m then xs.getD (xs.length - 1 - m) 0 else xs.getD m 0
theorem rv_len {xs : List Int} {k : Nat} : (rv xs k).length = xs.length := by simp [rv]
theorem rv_get {xs : List Int} {k m : Nat} (h : m < (rv xs k).length) : (rv xs k)[m] = if m < k ∨ xs.length - k ≤ m then xs.getD (xs.length - 1 - m) 0 else xs.getD m 0 := by simp [rv]
theorem rv_zero {xs : List Int} : rv xs 0 = xs := by
  apply List.ext_getElem rv_len
  intro m h1 h2
  rw [rv_get, if_neg (by omega), List.getD_eq_getElem?_getD, List.getElem?_eq_getElem h2]; rfl
theorem rv_done {xs : List Int} {k : Nat} (h : xs.length ≤ 2 * k + 1) : rv xs k = xs.reverse := by
  apply List.ext_getElem (by rw [rv_len, List.length_reverse])
  intro m h1 h2
  have h3 : m < xs.length := by rw [rv_len] at h1; exact h1
  rw [rv_get, List.getElem_reverse]
  split
  · rw [List.getD_eq_getElem?_getD, List.getElem?_eq_getElem (by omega)]; rfl
  · have e : xs.length - 1 - m = m := by omega
    rw [List.getD_eq_getElem?_getD, List.getElem?_eq_getElem h3]
    simp only [e, Option.getD_some]
theorem rv_step {xs : List Int} {k : Nat} (h : 2 * k + 1 < xs.length) :
    ((rv xs k).set k ((rv xs k)[xs.length - 1 - k]'(by rw [rv_len]; omega))).set (xs.length - 1 - k) ((rv xs k)[k]'(by rw [rv_len]; omega)) = rv xs (k + 1) := by
  apply List.ext_getElem (by simp [rv_len])
  intro m h1 h2
  have h3 : m < xs.length := by rw [rv_len] at h2; exact h2
  rw [List.getElem_set, rv_get h2]
  split
  · rename_i e
    subst e
    rw [rv_get, if_neg (by omega), if_pos (by omega), show xs.length - 1 - (xs.length - 1 - k) = k by omega]
  · rw [List.getElem_set]
    split
    · rename_i e
      subst e
      rw [rv_get, if_neg (by omega), if_pos (by omega)]
    · rw [rv_get]
      by_cases c : m < k ∨ xs.length - k ≤ m
      · rw [if_pos c, if_pos (by omega)]
      · rw [if_neg c, if_neg (by omega)]
end Go.Mh

/-! Events of a search. -/
namespace Go.Mh
open Go

def codeE (n m : Nat) (e : Ev) : Nat := if e.kind = 0 then (if e.side = 0 then e.id.toNat else n + e.id.toNat) else 2 * n + (if e.side = 0 then e.id.toNat else m + e.id.toNat)

theorem once_len {n m : Nat} {l : List Ev} (h : OnceE n m l) : l.length ≤ 2 * n + 2 * m := by
  obtain ⟨h1, h2⟩ := onceE_iff.1 h
  have bnd : ∀ e ∈ l, 0 ≤ e.id ∧ (e.kind = 0 ∧ e.id < n ∨ e.kind = 1 ∧ e.id < m) ∧ (e.side = 0 ∨ e.side = 1) := fun e he => by
    obtain ⟨a, b, c, _⟩ := of_decide_eq_true (h1 e he)
    refine ⟨a, ?_, c⟩
    unfold mostE at b
    split at b
    · exact .inl ⟨by assumption, b⟩
    · split at b
      · exact .inr ⟨by assumption, b⟩
      · omega
  have : (l.map (codeE n m)).length ≤ 2 * n + 2 * m := by
    refine nodup_le ?_ fun z hz => ?_
    · rw [List.nodup_iff_pairwise_ne, List.pairwise_map]
      rw [List.nodup_iff_pairwise_ne, List.pairwise_map] at h2
      refine h2.imp_of_mem fun {a b} ha hb hne e => hne ?_
      obtain ⟨a1, a2, a3⟩ := bnd a ha
      obtain ⟨b1, b2, b3⟩ := bnd b hb
      have key : a.kind = b.kind ∧ a.side = b.side ∧ a.id = b.id := by
        unfold codeE at e
        rcases a2 with ⟨a2, a4⟩ | ⟨a2, a4⟩ <;> rcases b2 with ⟨b2, b4⟩ | ⟨b2, b4⟩ <;> rcases a3 with a3 | a3 <;> rcases b3 with b3 | b3 <;> simp [a2, b2, a3, b3] at e <;> (refine ⟨?_, ?_, ?_⟩ <;> omega)
      unfold Ev.key
      rw [key.1, key.2.1, key.2.2]
    · obtain ⟨e, he, rfl⟩ := List.mem_map.1 hz
      obtain ⟨a1, a2, a3⟩ := bnd e he
      unfold codeE
      rcases a2 with ⟨a2, a4⟩ | ⟨a2, a4⟩ <;> rcases a3 with a3 | a3 <;> simp only [a2, a3] <;> simp <;> omega
  rwa [List.length_map] at this

section
variable {Q : Qs} {S : BW} {st : List Stp}

theorem RunI.lt (R : RunI Q S st) : ∀ s ∈ st, s.v < Q.g.n := fun s hs => by
  obtain ⟨u, e, h, _⟩ := (R.bi.si s.x).lab _ _ (R.s2 s hs)
  obtain rfl := Int.ofNat.inj e
  exact h

theorem RunI.once (R : RunI Q S st) : OnceE Q.g.n Q.g.arcs.length S.ev := by
  rw [R.ev]
  refine evs_once (outG_ok.filter Q.alw) R.lt (nodup_sides fun x => ?_)
  rw [R.s1]; exact (R.bi.si x).ord

theorem RunI.heads (R : RunI Q S st) : HeadsE Q.g S.ev := by
  rw [R.ev]; exact evs_heads (outG_ok.filter Q.alw) R.lt

theorem RunI.evlen (R : RunI Q S st) (hQ : Q.Ok) : S.ev.length ≤ 2 ^ 32 := by
  have h1 := once_len R.once
  have h2 := hQ.r.most
  have h3 := hQ.r.many
  omega

theorem RunI.pops (R : RunI Q S st) (x : Bool) : ofE 0 (sI x) S.ev = nI (S.sd x).ord := by
  rw [R.ev, evs_pops, ← R.s1]; simp [nI]

/-- The label of a node. -/
theorem RunI.labE (R : RunI Q S st) (x : Bool) (v : Nat) : (Mh.labE S.ev (sI x) v = none ∧ v ∉ (S.sd x).ord) ∨ ∃ s ∈ st, s.x = x ∧ s.v = v ∧ Mh.labE S.ev (sI x) v = some s.d := by
  rw [R.ev, evs_label]
  cases hf : (onS x st).find? fun s => decide (s.v = v) with
  | none =>
    refine .inl ⟨rfl, fun hm => ?_⟩
    rw [← R.s1] at hm
    obtain ⟨s, hs, e⟩ := List.mem_map.1 hm
    have := List.find?_eq_none.1 hf s hs
    simp at this
    exact this e
  | some s =>
    obtain ⟨h1, h2⟩ := mem_onS.1 (List.mem_of_find?_eq_some hf)
    exact .inr ⟨s, h1, h2, by simpa using List.find?_some hf, rfl⟩

end
end Go.Mh

namespace Go.Mh
open Go

section
variable {P : Program} {h0 h h' : Heap} {L : List Res} {i b off n : Nat}

/-- Two rows of parts exchanged. -/
theorem Own.comm : ∀ {L L' : List Res}, Own h0 h (L ++ L') → Own h0 h (L' ++ L)
  | [], L', o => by rw [List.append_nil]; exact o
  | r :: L, L', o => by
    have o1 : Own h0 h ((L ++ L') ++ [r]) := Own.rot o
    rw [List.append_assoc] at o1
    have o2 := Own.comm o1
    rw [List.append_assoc] at o2
    exact o2

/-- As IterG; it has parts of memory of its own, Pr0, which it may turn. -/
def IterP (P : Program) (fv : Value) {σ : Type} (Q : σ → Heap → Prop) (Pr0 : List Res) (s0 : σ) (next : σ → List Value → σ → Prop) (stop : σ → Prop) : Prop :=
  ∀ (yv : Value) (h0 h : Heap) (Rs : List Res) (K : Value → Heap → Prop) (J : σ → List Res → Prop) (E : List Res → Prop), (∃ l, yv = yieldV l) →
    Own h0 h (Rs ++ Pr0) → J s0 Rs → (∀ s Rs' h', J s Rs' → Own h0 h' Rs' → Q s h') →
    (∀ s x s' Rs' Pr h' R, next s x s' → J s Rs' → Own h0 h' (Rs' ++ Pr) → (∀ Rs'' h'', J s' Rs'' → Own h0 h'' (Rs'' ++ Pr) → R (.bool true) h'') →
      (∀ Rs'' h'', E Rs'' → Own h0 h'' (Rs'' ++ Pr) → R (.bool false) h'') → callV P yv x.toArray h' R) →
    (∀ Rs' h', ((∃ s, stop s ∧ J s Rs') ∨ E Rs') → Own h0 h' Rs' → K (.tuple #[]) h') → callF P fv #[yv] h K

theorem IterG.toP {fv : Value} {Q : Heap → Prop} {σ : Type} {s0 : σ} {next : σ → List Value → σ → Prop} {stop : σ → Prop} (H : IterG P fv Q s0 next stop) : IterP P fv (fun _ => Q) [] s0 next stop :=
  fun yv h0 h Rs K J E hy o j0 hQ hY hK => H yv h0 h Rs K J E hy o.toNil j0 hQ hY hK

theorem Own.rangeP {fv : Value} {Pr0 : List Res} {σ : Type} {Q : σ → Heap → Prop} {s0 : σ} {next : σ → List Value → σ → Prop} {stop : σ → Prop} {ps : List Nat} {B : Loop → Vals ps → Heap → (Exit → Heap → Prop) → Prop} {Kn Kr : Heap → Prop} {Ks : List (Nat × (Heap → Prop))}
    (o : Own h0 h (L ++ Pr0)) (hI : IterP P fv Q Pr0 s0 next stop) (hf : ∀ s x s', next s x s' → x.length = ps.length) (J : σ → List Res → Prop) (Er : List Res → Prop) (Ex : Nat → List Res → Prop)
    (j0 : J s0 L) (hQ : ∀ s Rs' h', J s Rs' → Own h0 h' Rs' → Q s h')
    (step : ∀ M s x s' Rs' Pr h' (R : Exit → Heap → Prop), next s x s' → J s Rs' → Own h0 h' (loopR (h.size + 1) (lo M .ready none) :: markR h.size :: (Rs' ++ Pr)) →
      (∀ Rs'' h'', J s' Rs'' → Own h0 h'' (loopR (h.size + 1) (lo M .busy none) :: markR h.size :: (Rs'' ++ Pr)) → R .normal h'') →
      (∀ Rs'' h'', Er Rs'' → Own h0 h'' (loopR (h.size + 1) (lo M .busy none) :: markR h.size :: (Rs'' ++ Pr)) → R .ret h'') →
      (∀ id Rs'' h'', Ex id Rs'' → Own h0 h'' (loopR (h.size + 1) (lo M .busy none) :: markR h.size :: (Rs'' ++ Pr)) → R (.exit id) h'') → B M (valsOf ps x) h' R)
    (fin : ∀ s h' Rs', stop s → J s Rs' → Own h0 h' (markR h.size :: Rs') → Kn h') (finr : ∀ h' Rs', Er Rs' → Own h0 h' (markR h.size :: Rs') → Kr h')
    (finx : ∀ id h' Rs', Ex id Rs' → Own h0 h' (markR h.size :: Rs') → lookK Ks id h') :
    rangeH P fv ps (h.size + 1) (h.push (.deferred (some []))) B Kn Kr Ks := by
  intro M hy
  have e1 : (h.push (.deferred (some []))).size = h.size + 1 := push_size
  have o1 : Own h0 (h.push (.deferred (some []))) (markR h.size :: (L ++ Pr0)) := o.new (r := markR h.size) push_new fun b hb => hb
  have o2 : Own h0 ((h.push (.deferred (some []))).push (lo M .ready none)) (loopR (h.size + 1) (lo M .ready none) :: markR h.size :: (L ++ Pr0)) :=
    o1.new (r := loopR (h.size + 1) (lo M .ready none)) (by show (Array.push _ _)[h.size + 1]? = _; rw [← e1, push_new]) fun b hb => hb.trans e1.symm
  refine hI (yieldV (h.size + 1)) h0 _ _ _ (fun s Rs => ∃ Rs1, Rs = loopR (h.size + 1) (lo M .ready none) :: markR h.size :: Rs1 ∧ J s Rs1)
    (fun Rs => ∃ p Rs1, Rs = loopR (h.size + 1) (lo M .done (some p)) :: markR h.size :: Rs1 ∧ ((p = .ret ∧ Er Rs1) ∨ ∃ id, p = .exit id ∧ Ex id Rs1)) ⟨_, rfl⟩ o2 ⟨L, rfl, j0⟩
    (fun s Rs' h' ⟨Rs1, e, hj⟩ o' => hQ s Rs1 h' hj (by subst e; exact o'.tail.tail)) ?_ ?_
  · rintro s x s' _ Pr h' R hn ⟨Rs1, rfl, hj⟩ o' hT hF
    have hb : h'[h.size + 1]? = some (lo M .ready none) := o'.get 0 rfl
    have := hy (valsOf ps x) h' R .ready none hb
    rw [listV_valsOf (hf _ _ _ hn)] at this
    refine this (step M s x s' Rs1 Pr h' _ hn hj o' ?_ ?_ ?_)
    · intro Rs'' h'' hj' o''
      have hb' : h''[h.size + 1]? = some (lo M .busy none) := o''.get 0 rfl
      have hlt := get_lt hb'
      refine ⟨none, hb', hT (loopR (h.size + 1) (lo M .ready none) :: markR h.size :: Rs'') _ ⟨Rs'', rfl, hj'⟩ ?_⟩
      refine o''.set 0 (r' := loopR (h.size + 1) (lo M .ready none)) rfl (Upd.upd (S := (loopR (h.size + 1) (lo M .busy none)).F) h'' _ rfl) (upd_self hlt) fun c hc => ⟨.inl hc, ?_⟩
      rw [setIf_upd, upd_size]; exact (show c = h.size + 1 from hc) ▸ hlt
    · intro Rs'' h'' hj' o''
      have hb' : h''[h.size + 1]? = some (lo M .busy none) := o''.get 0 rfl
      have hlt := get_lt hb'
      refine ⟨none, hb', hF (loopR (h.size + 1) (lo M .done (some .ret)) :: markR h.size :: Rs'') _ ⟨.ret, Rs'', rfl, .inl ⟨rfl, hj'⟩⟩ ?_⟩
      refine o''.set 0 (r' := loopR (h.size + 1) (lo M .done (some .ret))) rfl (Upd.upd (S := (loopR (h.size + 1) (lo M .busy none)).F) h'' _ rfl) (upd_self hlt) fun c hc => ⟨.inl hc, ?_⟩
      rw [setIf_upd, upd_size]; exact (show c = h.size + 1 from hc) ▸ hlt
    · intro id Rs'' h'' hj' o''
      have hb' : h''[h.size + 1]? = some (lo M .busy none) := o''.get 0 rfl
      have hlt := get_lt hb'
      refine ⟨none, hb', hF (loopR (h.size + 1) (lo M .done (some (.exit id))) :: markR h.size :: Rs'') _ ⟨.exit id, Rs'', rfl, .inr ⟨id, rfl, hj'⟩⟩ ?_⟩
      refine o''.set 0 (r' := loopR (h.size + 1) (lo M .done (some (.exit id)))) rfl (Upd.upd (S := (loopR (h.size + 1) (lo M .busy none)).F) h'' _ rfl) (upd_self hlt) fun c hc => ⟨.inl hc, ?_⟩
      rw [setIf_upd, upd_size]; exact (show c = h.size + 1 from hc) ▸ hlt
  · have close : ∀ {Rs1 : List Res} {h' : Heap} {st : LoopState} {p : Option Code}, Own h0 h' (loopR (h.size + 1) (lo M st p) :: markR h.size :: Rs1) → Own h0 (upd h' (h.size + 1) (lo M .exhausted p)) (markR h.size :: Rs1) := by
      intro Rs1 h' st p o'
      have hb' : h'[h.size + 1]? = some (lo M st p) := o'.get 0 rfl
      have hlt := get_lt hb'
      exact (o'.set 0 (r' := nilR) rfl (Upd.upd (S := (loopR (h.size + 1) (lo M st p)).F) h' (lo M .exhausted p) rfl) trivial fun c hc => hc.elim).tail
    rintro Rs' h' (⟨s, hs, Rs1, rfl, hj⟩ | ⟨p, Rs1, rfl, hp⟩) o'
    · exact ⟨.ready, none, by decide, o'.get 0 rfl, fin _ _ _ hs hj (close o')⟩
    · refine ⟨.done, some p, by decide, o'.get 0 rfl, ?_⟩
      rcases hp with ⟨rfl, he⟩ | ⟨id, rfl, he⟩
      · exact finr _ _ he (close o')
      · exact finx _ _ _ he (close o')

end
end Go.Mh

/-! The events of a run, whole. -/
namespace Go.Mh
open Go

theorem ofE_few {n m : Nat} {l : List Ev} (h : OnceE n m l) {s : Int} : (ofE 1 s l).length ≤ m := by
  obtain ⟨h1, h2⟩ := onceE_iff.1 h
  have : ((ofE 1 s l).map Int.toNat).length ≤ m := by
    refine nodup_le ?_ fun z hz => ?_
    · rw [List.nodup_iff_pairwise_ne, List.pairwise_map]
      unfold ofE
      rw [List.pairwise_map]
      rw [List.nodup_iff_pairwise_ne, List.pairwise_map] at h2
      refine (h2.filter (isE 1 s)).imp_of_mem fun {a b} ha hb hne e => hne ?_
      obtain ⟨ha1, ha2⟩ := List.mem_filter.1 ha
      obtain ⟨hb1, hb2⟩ := List.mem_filter.1 hb
      obtain ⟨a1, a2⟩ := of_decide_eq_true ha2
      obtain ⟨b1, b2⟩ := of_decide_eq_true hb2
      have p1 := (of_decide_eq_true (h1 a ha1)).1
      have p2 := (of_decide_eq_true (h1 b hb1)).1
      unfold Ev.key
      rw [a1, a2, b1, b2, show a.id = b.id by omega]
    · obtain ⟨w, hw, rfl⟩ := List.mem_map.1 hz
      obtain ⟨e, he, rfl⟩ := List.mem_map.1 hw
      obtain ⟨he1, he2⟩ := List.mem_filter.1 he
      obtain ⟨k1, k2⟩ := of_decide_eq_true he2
      obtain ⟨q1, q2, _⟩ := of_decide_eq_true (h1 e he1)
      unfold mostE at q2
      rw [if_neg (by omega), if_pos k1] at q2
      omega
  rwa [List.length_map] at this

structure OnceF (Q : Qs) (l : List Ev) : Prop where
  len : ∀ x, (ofE 0 (sI x) l).length ≤ Q.g.n
  src : ∀ x, ofE 0 (sI x) l = [] ∨ ∃ r, ofE 0 (sI x) l = (Q.src x : Int) :: r ∧ labE l (sI x) (Q.src x) = some 0
  blk : ∀ i e, l[i]? = some e → e.kind = 0 → ∃ (x : Bool) (v : Nat) (rest : List Ev), e.side = sI x ∧ e.id = (v : Int) ∧ v < Q.g.n ∧ l.drop (i + 1) = (Q.outs x v).map (scanE x) ++ rest ∧ ∀ e', rest[0]? = some e' → e'.kind = 0

theorem OnceF.nil {Q : Qs} : OnceF Q [] := ⟨fun x => Nat.zero_le _, fun x => .inl rfl, fun i e h => by simp at h⟩

variable {Q : Qs} {S : BW} {st : List Stp}

theorem RunI.onceF (R : RunI Q S st) : OnceF Q S.ev where
  len x := by
    rw [R.pops]
    have := (R.bi.si x).olen
    simpa [nI] using this
  src x := by
    rw [R.pops]
    cases ho : (S.sd x).ord with
    | nil => exact .inl rfl
    | cons v r =>
      have e : v = Q.src x := (R.bi.si x).hd v (by rw [ho]; rfl)
      subst e
      refine .inr ⟨nI r, rfl, ?_⟩
      rcases R.labE x (Q.src x) with ⟨_, h⟩ | ⟨s, hs, e1, e2, h⟩
      · exact absurd (by rw [ho]; exact List.mem_cons_self) h
      · rw [h]
        have := R.s2 s hs
        rw [e1, e2] at this
        rw [(R.bi.si x).zero _ this]
  blk i e hi hk := by
    have hv := R.lt
    rw [R.ev] at hi ⊢
    obtain ⟨s, rest, h1, h2, h3, h4⟩ := blk_at hi hk
    subst h2
    refine ⟨s.x, s.v, rest, rfl, rfl, hv s h1, h3, fun e' he => ?_⟩
    rcases h4 with rfl | ⟨s', r', rfl⟩
    · simp at he
    · simp at he; subst he; rfl

theorem filter_at {α : Type} {p : α → Bool} {l : List α} {j : Nat} (hj : j < l.length) (hp : p l[j] = true) : (l.filter p)[((l.take j).filter p).length]? = some l[j] := by
  conv => lhs; arg 1; rw [← List.take_append_drop j l, List.filter_append]
  rw [List.getElem?_append_right (Nat.le_refl _), Nat.sub_self, List.drop_eq_getElem_cons hj, List.filter_cons_of_pos hp]
  rfl

end Go.Mh

namespace Go.Mh
open Go Go.ChangeShapes Go.WideShapes Go.ChangeAt Go.RowKit

section
variable {H : Type} {encD : TypeId × Value → H} {P : Program} {w : World} {e t : TypeId} {v : Value} {r : Reach} {base : Nat} {d : DataW H} {p : List MemPlace}

/-- An array of three numbers, given. -/
theorem arr3_of {k : IntKind} (ht : P.underlying t = some (.array 3 e)) (he : P.underlying e = some (.int k)) (hct : P.cellsOf t = 3) (hce : P.cellsOf e = 1) (hv : Value.okWide P w r base t v) (hd : DataW.Trod encD P w 0 (fun _ => true) true t v d p) :
    ∃ a b c : Int, v = .agg #[.int k a, .int k b, .int k c] ∧ (k.min ≤ a ∧ a ≤ k.max) ∧ (k.min ≤ b ∧ b ≤ k.max) ∧ (k.min ≤ c ∧ c ≤ k.max) := by
  simp only [Value.okWide, ht] at hv
  obtain ⟨cs, rfl, hsz, _⟩ := hv
  rw [hct] at hsz
  obtain ⟨l⟩ := cs
  match l, hsz with
  | [c0, c1, c2], _ =>
    obtain ⟨fuel, hf⟩ := hd
    cases fuel with
    | zero => simp [DataW.trod] at hf
    | succ n =>
      simp only [Value.cells] at hf
      unfold DataW.trod at hf
      rw [ht] at hf
      have r3 : List.range 3 = [0, 1, 2] := rfl
      simp [r3, hce] at hf
      obtain ⟨_, hf⟩ := hf
      cases h0 : DataW.trod encD P w 0 (fun _ => true) true n e [c0] with
      | none => simp [h0] at hf
      | some y0 =>
        cases h1 : DataW.trod encD P w 0 (fun _ => true) true n e [c1] with
        | none => simp [h0, h1] at hf
        | some y1 =>
          cases h2 : DataW.trod encD P w 0 (fun _ => true) true n e [c2] with
          | none => simp [h0, h1, h2] at hf
          | some y2 =>
            obtain ⟨a, ea, ra⟩ := dec_int (k := k) he _ _ _ h0
            obtain ⟨b, eb, rb⟩ := dec_int (k := k) he _ _ _ h1
            obtain ⟨c, ec, rc⟩ := dec_int (k := k) he _ _ _ h2
            simp only [List.cons.injEq, and_true] at ea eb ec
            subst ea eb ec
            exact ⟨a, b, c, rfl, ra, rb, rc⟩

end
end Go.Mh

namespace Go.Mh
open Go Go.ChangeShapes Go.WideShapes Go.ChangeAt Go.RowKit

section
variable {H : Type} {encD : TypeId × Value → H} {P : Program} {w : World} {α : Type} {enc : α → List Value} {ok : α → Prop} {n : Nat} {e t : TypeId} {v : Value} {r : Reach} {base : Nat} {d : DataW H} {p : List MemPlace} {cs : List Value}

theorem view_at {fuel : Nat} {x0 : DataW H × List MemPlace} (he : ∀ a, (enc a).length = n) (ht : P.underlying t = some (.slice e)) (hn : P.cellsOf e = n) (hpos : 0 < n)
    (hdec : ∀ fuel cs x, DataW.trod encD P w 0 (fun _ => true) true fuel e cs = some x → ∃ a, cs = enc a ∧ ok a)
    (hf : DataW.trod encD P w 0 (fun _ => true) true fuel t [v] = some x0) (hsp0 : ∀ a l c, v = .slice (some a) l c → a.spot = none) :
    ∃ bl xs, VwR enc n w.heap v bl xs ∧ (∀ a ∈ xs, ok a) ∧ xs.length ≤ maxLen := by
  rcases Go.Deep.open_slice ht hf with ⟨hc, _⟩ | ⟨a, len, cap, m, fuel', D, Pl, hc, _, hle, hmx, hm, _, hx⟩
  · simp only [List.cons.injEq, and_true] at hc
    subst hc
    exact ⟨0, [], ⟨none, 0, rfl, Nat.le_refl _, .inl ⟨rfl, .inl rfl⟩⟩, by simp, by simp⟩
  · simp only [List.cons.injEq, and_true] at hc
    subst hc
    have hsp := hsp0 a len cap rfl
    simp only [if_true] at hm
    subst hm
    have hall : ∀ i, i < len → ∃ x : α, w.cells? 0 (a.add (i * n)) n = some (enc x) ∧ ok x := by
      intro i hi
      obtain ⟨cs', h1, h2⟩ := hx i (by omega)
      obtain ⟨x, rfl, hok⟩ := hdec _ _ _ h2
      rw [hn] at h1
      exact ⟨x, h1, hok⟩
    obtain ⟨xs, hl, hxs⟩ := choose_list (Q := fun i x => w.cells? 0 (a.add (i * n)) n = some (enc x) ∧ ok x) len hall
    refine ⟨a.block, xs, ?_, fun x hx' => ?_, by omega⟩
    · refine ⟨some a, m, by rw [hl], by omega, ?_⟩
      have ha : a = ⟨a.block, a.off, none⟩ := by
        obtain ⟨b, o, s⟩ := a; simp only at hsp; subst hsp; rfl
      by_cases h0 : xs = []
      · exact .inl ⟨h0, .inr ⟨_, _, by rw [← ha]⟩⟩
      · right
        have hlp : 0 < xs.length := List.length_pos_iff.2 h0
        have hcell : ∀ i (hi : i < xs.length) j, j < n → w.cell? ⟨a.block, a.off + i * n + j, none⟩ = (enc xs[i])[j]? := by
          intro i hi j hj
          have h1 := (hxs i hi).1
          unfold World.cells? at h1
          rw [if_pos (Nat.zero_le _), add_plain hsp] at h1
          have := mapM_get h1 j j (by simp [hj])
          rw [add_plain rfl] at this
          exact this
        have h00 := hcell 0 hlp 0 hpos
        simp only [World.cell?] at h00
        have hblk : ∃ c T fz, w.heap[a.block]? = some (.cells c T fz) := by
          split at h00
          · rename_i c T fz hb; exact ⟨c, T, fz, hb⟩
          · rw [List.getElem?_eq_getElem (by rw [he]; exact hpos)] at h00; cases h00
        obtain ⟨c, T, fz, hb⟩ := hblk
        have hcc : ∀ i (hi : i < xs.length) j, j < n → c[a.off + i * n + j]? = (enc xs[i])[j]? := by
          intro i hi j hj
          have := hcell i hi j hj
          simpa [World.cell?, hb] using this
        have hrl := row_length he xs
        have hmid : (c.toList.drop a.off).take (xs.length * n) = row enc xs := by
          apply List.ext_getElem?
          intro k
          by_cases hk : k < xs.length * n
          · have hi : k / n < xs.length := (Nat.div_lt_iff_lt_mul hpos).2 hk
            have hj : k % n < n := Nat.mod_lt _ hpos
            have hkk : k / n * n + k % n = k := by rw [Nat.mul_comm]; exact Nat.div_add_mod k n
            have g := row_get he hi hj []
            rw [List.append_nil, hkk] at g
            rw [g, ← hcc _ hi _ hj, List.getElem?_take_of_lt hk, List.getElem?_drop, Nat.add_assoc, hkk]
            simp
          · rw [List.getElem?_eq_none (by simp; omega), List.getElem?_eq_none (by omega)]
        have hsize : a.off + xs.length * n ≤ c.size := by
          have hi : xs.length - 1 < xs.length := by omega
          have h1 := hcc (xs.length - 1) hi (n - 1) (by omega)
          rw [List.getElem?_eq_getElem (by rw [he]; omega)] at h1
          have h2 := (Array.getElem?_eq_some_iff.1 h1).1
          have h3 : (xs.length - 1) * n + n = xs.length * n := by rw [← Nat.succ_mul]; congr 1; omega
          omega
        refine ⟨a.off, c.toList.take a.off, c.toList.drop (a.off + xs.length * n), T, fz, by rw [← ha], ?_, by simp; omega⟩
        rw [hb, ← hmid]
        have : c.toList.take a.off ++ (c.toList.drop a.off).take (xs.length * n) ++ c.toList.drop (a.off + xs.length * n) = c.toList := by
          rw [← List.drop_drop, List.append_assoc, List.take_append_drop, List.take_append_drop]
        rw [this]
    · obtain ⟨i, hi, rfl⟩ := List.mem_iff_getElem.1 hx'
      exact (hxs i hi).2


/-- Cells of a type, given: they can be gone through, and slices among them begin at no spot. -/
def Opn (encD : TypeId × Value → H) (P : Program) (w : World) (t : TypeId) (cs : List Value) : Prop :=
  (∃ fuel x, DataW.trod encD P w 0 (fun _ => true) true fuel t cs = some x) ∧ ∀ v ∈ cs, ∀ a l c, v = .slice (some a) l c → a.spot = none

theorem cell_spot {a : Addr} {l c : Nat} (h : Cell.okWide P w r base t (.slice (some a) l c)) : a.spot = none := by
  unfold Cell.okWide at h
  cases hu : P.underlying t with
  | none => simp [hu, Cell.ok] at h
  | some u =>
    cases u <;> simp [hu, Cell.ok] at h
    exact h.2.2.2.1

theorem Opn.of_slice (ht : P.underlying t = some (.slice e)) (hv : Value.okWide P w r base t v) (hd : DataW.Trod encD P w 0 (fun _ => true) true t v d p) : Opn encD P w t [v] := by
  obtain ⟨a0, len0, cap0, rfl⟩ := okWide_slice ht hv
  obtain ⟨fuel, hf⟩ := hd
  refine ⟨⟨fuel, _, hf⟩, fun v hv' a l c e' => ?_⟩
  simp at hv'
  subst hv'
  injection e' with e1 e2 e3
  subst e1
  exact okWide_slice_spot ht hv

def isAgg (P : Program) (t : TypeId) : Bool := match P.underlying t with
  | some (.struct _) | some (.array _ _) => true
  | _ => false

theorem agg_of (ha : isAgg P t = true) (hn : P.cellsOf t = n) (hv : Value.okWide P w r base t v) (hd : DataW.Trod encD P w 0 (fun _ => true) true t v d p) :
    ∃ cs : List Value, v = .agg cs.toArray ∧ cs.length = n ∧ Opn encD P w t cs := by
  have : ∃ cs, v = .agg cs ∧ cs.size = P.cellsOf t ∧ Row.okWide P w r base t cs := by
    unfold Value.okWide at hv
    unfold isAgg at ha
    split at hv
    · exact hv
    · exact hv
    · rename_i h1 h2
      split at ha
      · rename_i h3; exact absurd h3 (h1 _)
      · rename_i h3; exact absurd h3 (h2 _ _)
      · cases ha
  obtain ⟨cs, rfl, hs, ts, _, _, hc⟩ := this
  obtain ⟨fuel, hf⟩ := hd
  refine ⟨cs.toList, by simp, by simpa [hn] using hs, ⟨fuel, _, hf⟩, fun v hv a l c e => ?_⟩
  obtain ⟨i, hi⟩ := List.getElem?_of_mem hv
  obtain ⟨u, _, hu⟩ := hc i v (by simpa using hi)
  rw [e] at hu
  exact cell_spot hu

def fieldOf (P : Program) (t : TypeId) (i : Nat) : Option (TypeId × Nat) := match P.underlying t with
  | some (.struct fs) => fs.toList[i]?.map fun f => (f.type, f.offset)
  | _ => none

theorem Opn.field (O : Opn encD P w t cs) (i : Nat) {ft : TypeId} {off : Nat} {cs' : List Value} (hf : fieldOf P t i = some (ft, off)) (hn : P.cellsOf ft = n) (hcs : (cs.drop off).take n = cs') : Opn encD P w ft cs' := by
  obtain ⟨⟨fuel, x, h⟩, hs⟩ := O
  unfold fieldOf at hf
  split at hf
  · rename_i fs ht
    obtain ⟨xs, m, rfl, _, _, _, hfs⟩ := DataW.trod_struct ht h
    simp only [Option.map_eq_some_iff] at hf
    obtain ⟨f, hi, e⟩ := hf
    injection e with e1 e2
    subst e1 e2 hn hcs
    refine ⟨⟨m, ?_⟩, fun v hv => hs v (List.mem_of_mem_drop (List.mem_of_mem_take hv))⟩
    have hh := hfs i f (by simpa using hi)
    obtain ⟨y, hy⟩ : ∃ y, xs[i]? = some y := by
      have : i < xs.length := by
        have := (List.getElem?_eq_some_iff.1 hi).1
        simp_all
      exact ⟨_, List.getElem?_eq_getElem this⟩
    exact ⟨y, by rw [hh, hy]⟩
  · cases hf

theorem Opn.elem {m : Nat} (O : Opn encD P w t cs) (i : Nat) {cs' : List Value} (ht : P.underlying t = some (.array m e)) (hi : i < m) (hn : P.cellsOf e = n) (hcs : (cs.drop (i * n)).take n = cs') : Opn encD P w e cs' := by
  obtain ⟨⟨fuel, x, h⟩, hs⟩ := O
  obtain ⟨xs, k, rfl, _, _, hl, hfs⟩ := DataW.trod_array ht h
  subst hn hcs
  refine ⟨⟨k, xs[i], ?_⟩, fun v hv => hs v (List.mem_of_mem_drop (List.mem_of_mem_take hv))⟩
  rw [hfs i hi, List.getElem?_eq_getElem (by omega)]

theorem Opn.int {k : IntKind} (O : Opn encD P w t [v]) (ht : P.underlying t = some (.int k)) : ∃ a : Int, v = .int k a ∧ k.min ≤ a ∧ a ≤ k.max := by
  obtain ⟨⟨fuel, x, h⟩, _⟩ := O
  obtain ⟨a, e, r⟩ := dec_int ht _ _ _ h
  simp only [List.cons.injEq, and_true] at e
  exact ⟨a, e, r⟩

theorem Opn.view (he : ∀ a, (enc a).length = n) (O : Opn encD P w t [v]) (ht : P.underlying t = some (.slice e)) (hn : P.cellsOf e = n) (hpos : 0 < n)
    (hdec : ∀ fuel cs x, DataW.trod encD P w 0 (fun _ => true) true fuel e cs = some x → ∃ a, cs = enc a ∧ ok a) : ∃ bl xs, VwR enc n w.heap v bl xs ∧ (∀ a ∈ xs, ok a) ∧ xs.length ≤ maxLen := by
  obtain ⟨⟨fuel, x, h⟩, hs⟩ := O
  exact view_at he ht hn hpos hdec h (hs v (by simp))

theorem dec_bool (he : P.underlying e = some .bool) {sp : Nat → Bool} : ∀ fuel cs x, DataW.trod encD P w 0 sp true fuel e cs = some x → ∃ a : Bool, cs = [.bool a] ∧ True := by
  intro fuel cs x h
  cases fuel with
  | zero => simp [DataW.trod] at h
  | succ m =>
    unfold DataW.trod at h
    rw [he] at h
    split at h <;> simp_all

theorem len2 {l : List Value} (h : l.length = 2) : ∃ a b, l = [a, b] := by match l, h with | [a, b], _ => exact ⟨a, b, rfl⟩
theorem len3 {l : List Value} (h : l.length = 3) : ∃ a b c, l = [a, b, c] := by match l, h with | [a, b, c], _ => exact ⟨a, b, c, rfl⟩
theorem len4 {l : List Value} (h : l.length = 4) : ∃ a b c d, l = [a, b, c, d] := by match l, h with | [a, b, c, d], _ => exact ⟨a, b, c, d, rfl⟩
theorem len5 {l : List Value} (h : l.length = 5) : ∃ a b c d e, l = [a, b, c, d, e] := by match l, h with | [a, b, c, d, e], _ => exact ⟨a, b, c, d, e, rfl⟩
theorem len6 {l : List Value} (h : l.length = 6) : ∃ a b c d e f, l = [a, b, c, d, e, f] := by match l, h with | [a, b, c, d, e, f], _ => exact ⟨a, b, c, d, e, f, rfl⟩
theorem len7 {l : List Value} (h : l.length = 7) : ∃ a b c d e f g, l = [a, b, c, d, e, f, g] := by match l, h with | [a, b, c, d, e, f, g], _ => exact ⟨a, b, c, d, e, f, g, rfl⟩
theorem len8 {l : List Value} (h : l.length = 8) : ∃ a b c d e f g i, l = [a, b, c, d, e, f, g, i] := by match l, h with | [a, b, c, d, e, f, g, i], _ => exact ⟨a, b, c, d, e, f, g, i, rfl⟩

/-- Numbers of a kind. -/
def encK (k : IntKind) (x : Int) : List Value := [.int k x]
theorem encK_len (k : IntKind) (x : Int) : (encK k x).length = 1 := rfl
def encB (x : Bool) : List Value := [.bool x]

end
end Go.Mh

/-! Arguments of which it is known how much memory they take. -/
namespace Go.Mh
open Go Go.ChangeShapes Go.WideShapes Go.ChangeAt Go.RowKit

section
variable {H : Type} {enc encD : TypeId × Value → H} {P : Program} {w W W' : World} {n : Nat} {e t : TypeId} {v : Value} {r : Reach} {base : Nat} {d : DataW H} {p : List MemPlace} {cs : List Value} {B : Nat}

/-- As law_laid; the arguments take no more memory than may be. -/
theorem law_laidS {C : Checked} {os : Os} {f : FuncId} {fn : Func} {s : ChangeSpec} {conds : List PathCond} {tb : TypeId} {X : World → Array Value → Prop}
    (hX : ∀ (w w' : World) (args : Array Value), w.heap = w'.heap → X w args → X w' args)
    (own : ownKnob C.prog.godebug = none) (started : os.Started) (noInit : C.prog.inits.idxOf? f = none) (hfn : C.prog.funcs[f]? = some fn)
    (witness : ∃ (w : World) (tape : Tape) (i : Input), w.os = os ∧ (w.forCall tape i).Shaped C.prog ∧ i.vars = [] ∧ Input.okWide C.prog (w.forCall tape i) .any w.heap.size f i ∧
      ((s.pre enc C.prog fn conds false (w.forCall tape i).memory i.args ∧ X (w.forCall tape i).memory i.args) ∧ sizedMet enc C.prog fn (OpenSpec.ofChange s) false (w.forCall tape i).memory i.args) ∧ ({} : Assume).holds C.prog (lone (Frame.enter C.prog f i.args .normal) [] (w.forCall tape i)))
    (hvars : s.vars = []) (hres : fn.resultTypes = #[tb]) (htb : C.prog.underlying tb = some .bool)
    (hspec : ∀ ds : List (DataW H), ds.length = fn.params.toList.length → s.fn H ds = { results := [.lit (.bool true)], args := ds })
    (kids : Kids C.prog (· < C.prog.types.size)) (full : ∀ t e, t < C.prog.types.size → C.prog.underlying t = some (.slice e) → 0 < C.prog.cellsOf e) (hpar : ∀ t ∈ fn.params.toList, t < C.prog.types.size)
    (hcall : ∀ (W : World) (base : Nat) (args : Array Value) (ds : List (DataW H)) (ps : List MemPlace), (∀ (j : Nat) t v, fn.params[j]? = some t → args[j]? = some v → Value.okWide C.prog W .any base t v) →
      DataW.TrodAll enc C.prog W 0 (fun _ => true) true fn.params.toList args.toList ds ps → (∀ q ∈ DataW.weightsEach C.prog fn.params.toList ds, q ≤ reachBytes) →
      CallsH C.prog f args W.heap fun v h' => v = .bool true ∧ Ext W.heap h') :
    ReturnsInHanded {} C os f .any (fun w args => (s.pre enc C.prog fn conds false w args ∧ X w args) ∧ sizedMet enc C.prog fn (OpenSpec.ofChange s) false w args) (s.post enc C.prog fn false true false false) := by
  refine returnsInHanded_of_change_and hX own started noInit hfn witness ?_
  intro W base args ds gs before hval hW hcnd hwt _ _
  have hW' := hW
  obtain ⟨p, q, hA, hV, rfl, hfz, hnd⟩ := hW
  rw [hvars] at hV
  obtain ⟨rfl, rfl⟩ := trodVars_none hV
  have hvt : s.plain.varTypes C.prog = [] := by
    have : s.plain.vars = [] := hvars
    simp [DataSpec.varTypes, this]
  rw [hvt, List.append_nil, List.append_nil] at hwt
  refine calls_of_H (hcall W base args ds p hval hA fun q hq => by simpa using List.all_eq_true.1 hwt q hq) fun v w' hs hv => ⟨v, rfl, ?_⟩
  obtain ⟨rfl, hx⟩ := hv
  have hlt : ∀ x ∈ p, x.block < W.heap.size := fun x hx => hW'.lt x (by simpa using hx)
  have hsp := hspec ds (trodAll_length hA)
  unfold ChangeSpec.post
  refine ⟨ds, [], p ++ [], [], p, [], hW', ?_, ?_, ?_, kept_of_ext hs hx _, fun h => by cases h⟩
  · rw [List.append_nil, hsp, hres]
    exact trodAll_mk1 ⟨1, by simp [DataW.trod, htb, Value.cells]⟩
  · rw [List.append_nil, hsp]
    exact trodAll_carry (DataW.TrodAll.respare kids full hpar hA fun x hx => by simpa using hlt x hx) fun x hx' => sameAt_of_ext hx (hlt x hx')
  · rw [List.append_nil, hsp, hvars]; rfl

/-- Cells of a type, given, of which no part takes more memory than B. -/
def OpnW (encD : TypeId × Value → H) (P : Program) (w : World) (B : Nat) (t : TypeId) (cs : List Value) : Prop :=
  (∃ fuel x, DataW.trod encD P w 0 (fun _ => true) true fuel t cs = some x ∧ ∀ q ∈ DataW.weights P t x.1, q ≤ B) ∧ ∀ v ∈ cs, ∀ a l c, v = .slice (some a) l c → a.spot = none

theorem OpnW.opn (O : OpnW encD P w B t cs) : Opn encD P w t cs := by
  obtain ⟨⟨fuel, x, h, _⟩, hs⟩ := O
  exact ⟨⟨fuel, x, h⟩, hs⟩

theorem agg_ofW (ha : isAgg P t = true) (hn : P.cellsOf t = n) (hv : Value.okWide P w r base t v) (hd : DataW.Trod encD P w 0 (fun _ => true) true t v d p) (hw : ∀ q ∈ DataW.weights P t d, q ≤ B) :
    ∃ cs : List Value, v = .agg cs.toArray ∧ cs.length = n ∧ OpnW encD P w B t cs := by
  obtain ⟨cs, rfl, hl, ⟨_, hs⟩⟩ := agg_of ha hn hv hd
  obtain ⟨fuel, hf⟩ := hd
  exact ⟨cs, rfl, hl, ⟨fuel, _, by simpa [Value.cells] using hf, hw⟩, hs⟩

theorem weightsEach_get {q : Nat} : ∀ {ts : List TypeId} {ds : List (DataW H)} {i : Nat} {u : TypeId} {d : DataW H}, ts[i]? = some u → ds[i]? = some d → q ∈ DataW.weights P u d → q ∈ DataW.weightsEach P ts ds
  | t :: ts, d :: ds, 0, u, x, h1, h2, hq => by
    simp at h1 h2
    subst h1 h2
    simp only [DataW.weightsEach]
    exact List.mem_append_left _ hq
  | t :: ts, d :: ds, i + 1, u, x, h1, h2, hq => by
    simp only [DataW.weightsEach]
    exact List.mem_append_right _ (weightsEach_get (by simpa using h1) (by simpa using h2) hq)
  | [], _, _, _, _, h1, _, _ => by simp at h1
  | _ :: _, [], _, _, _, _, h2, _ => by simp at h2

theorem OpnW.field (O : OpnW encD P w B t cs) (i : Nat) {ft : TypeId} {off : Nat} {cs' : List Value} (hf : fieldOf P t i = some (ft, off)) (hn : P.cellsOf ft = n) (hcs : (cs.drop off).take n = cs') : OpnW encD P w B ft cs' := by
  have O' := (O.opn.field i hf hn hcs).2
  obtain ⟨⟨fuel, x, h, hw⟩, hs⟩ := O
  refine ⟨?_, O'⟩
  unfold fieldOf at hf
  split at hf
  · rename_i fs ht
    obtain ⟨xs, m, rfl, rfl, _, _, hfs⟩ := DataW.trod_struct ht h
    simp only [Option.map_eq_some_iff] at hf
    obtain ⟨f, hi, e⟩ := hf
    injection e with e1 e2
    subst e1 e2 hn hcs
    have hh := hfs i f (by simpa using hi)
    obtain ⟨y, hy⟩ : ∃ y, xs[i]? = some y := by
      have : i < xs.length := by
        have := (List.getElem?_eq_some_iff.1 hi).1
        simp_all
      exact ⟨_, List.getElem?_eq_getElem this⟩
    refine ⟨m, y, by rw [hh, hy], fun q hq => hw q ?_⟩
    simp only [DataW.weights, ht]
    exact weightsEach_get (i := i) (by simp [hi]) (by simp [hy]) hq
  · cases hf

/-- A slice takes no more memory than may be. -/
theorem OpnW.len {α : Type} {enc : α → List Value} {bl : Nat} {xs : List α} {h : Heap} {b : Nat} (O : OpnW encD P w B t [v]) (ht : P.underlying t = some (.slice e)) (hb : P.bytesOf e = b) (H : VwR enc n h v bl xs) : xs.length * b ≤ B := by
  obtain ⟨⟨fuel, x, hx, hw⟩, _⟩ := O
  obtain ⟨bs, cap, rfl, _⟩ := H
  rcases Go.Deep.open_slice ht hx with ⟨hc, _⟩ | ⟨a, len, cap', m, fuel', D, Pl, hc, _, _, _, _, rfl, _⟩
  · simp only [List.cons.injEq, and_true] at hc
    injection hc with _ hl _
    rw [hl]; simp
  · simp only [List.cons.injEq, and_true] at hc
    injection hc with _ hl _
    have := hw (((List.range len).map D).length * P.bytesOf e + ((List.range (m - len)).map fun j => D (len + j)).length * P.bytesOf e) (by
      simp only [DataW.weights, ht]
      rw [← Nat.add_mul]
      exact List.mem_cons_self ..)
    rw [hb] at this
    simp at this
    rw [hl]; omega

end
end Go.Mh

namespace Go.Mh
open Go Go.ChangeShapes Go.WideShapes Go.ChangeAt Go.RowKit

section
variable {H : Type} {encD : TypeId × Value → H} {P : Program} {w : World} {n : Nat} {e t : TypeId} {v : Value} {r : Reach} {base : Nat} {d : DataW H} {p : List MemPlace}

theorem trod_field {fuel : Nat} {cs : List Value} {x : DataW H × List MemPlace} {sp : Nat → Bool} (h : DataW.trod encD P w 0 sp true fuel t cs = some x) (i : Nat) {ft : TypeId} {off : Nat} {cs' : List Value}
    (hf : fieldOf P t i = some (ft, off)) (hn : P.cellsOf ft = n) (hcs : (cs.drop off).take n = cs') : ∃ m y, DataW.trod encD P w 0 sp true m ft cs' = some y := by
  unfold fieldOf at hf
  split at hf
  · rename_i fs ht
    obtain ⟨xs, m, rfl, _, _, _, hfs⟩ := DataW.trod_struct ht h
    simp only [Option.map_eq_some_iff] at hf
    obtain ⟨f, hi, e⟩ := hf
    injection e with e1 e2
    subst e1 e2 hn hcs
    refine ⟨m, ?_⟩
    have hh := hfs i f (by simpa using hi)
    obtain ⟨y, hy⟩ : ∃ y, xs[i]? = some y := by
      have : i < xs.length := by
        have := (List.getElem?_eq_some_iff.1 hi).1
        simp_all
      exact ⟨_, List.getElem?_eq_getElem this⟩
    exact ⟨y, by rw [hh, hy]⟩
  · cases hf

theorem trod_len {fuel : Nat} {cs : List Value} {x : DataW H × List MemPlace} {sp : Nat → Bool} (h : DataW.trod encD P w 0 sp true fuel t cs = some x) (hf : (fieldOf P t 0).isSome = true) : cs.length = P.cellsOf t := by
  unfold fieldOf at hf
  split at hf
  · rename_i fs ht
    obtain ⟨xs, m, rfl, _, hl, _, hfs⟩ := DataW.trod_struct ht h
    exact hl
  · cases hf

theorem Opn.bool (O : Opn encD P w t [v]) (ht : P.underlying t = some .bool) : ∃ a : Bool, v = .bool a := by
  obtain ⟨⟨fuel, x, h⟩, _⟩ := O
  obtain ⟨a, e, r⟩ := dec_bool ht _ _ _ h
  simp only [List.cons.injEq, and_true] at e
  exact ⟨a, e⟩

/-- An event, given. -/
theorem dec_ev {t0 t1 t2 t3 : TypeId} (f0 : fieldOf P e 0 = some (t0, 0)) (f1 : fieldOf P e 1 = some (t1, 1)) (f2 : fieldOf P e 2 = some (t2, 2)) (f3 : fieldOf P e 3 = some (t3, 3)) (hc : P.cellsOf e = 4)
    (h0 : P.underlying t0 = some (.int .i64)) (h1 : P.underlying t1 = some (.int .i64)) (h2 : P.underlying t2 = some (.int .i64)) (h3 : P.underlying t3 = some (.int .i64))
    (c0 : P.cellsOf t0 = 1) (c1 : P.cellsOf t1 = 1) (c2 : P.cellsOf t2 = 1) (c3 : P.cellsOf t3 = 1) {sp : Nat → Bool} :
    ∀ fuel cs x, DataW.trod encD P w 0 sp true fuel e cs = some x → ∃ a : Ev, cs = encE a ∧ True := by
  intro fuel cs x h
  have hl := trod_len h (by rw [f0]; rfl)
  rw [hc] at hl
  obtain ⟨a, b, c, d, rfl⟩ := len4 hl
  obtain ⟨m0, y0, g0⟩ := trod_field h 0 (cs' := [a]) f0 c0 rfl
  obtain ⟨m1, y1, g1⟩ := trod_field h 1 (cs' := [b]) f1 c1 rfl
  obtain ⟨m2, y2, g2⟩ := trod_field h 2 (cs' := [c]) f2 c2 rfl
  obtain ⟨m3, y3, g3⟩ := trod_field h 3 (cs' := [d]) f3 c3 rfl
  obtain ⟨za, ea, _⟩ := dec_int (k := .i64) h0 _ _ _ g0
  obtain ⟨zb, eb, _⟩ := dec_int (k := .i64) h1 _ _ _ g1
  obtain ⟨zc, ec, _⟩ := dec_int (k := .i64) h2 _ _ _ g2
  obtain ⟨zd, ed, _⟩ := dec_int (k := .i64) h3 _ _ _ g3
  simp only [List.cons.injEq, and_true] at ea eb ec ed
  subst ea eb ec ed
  exact ⟨⟨za, zb, zc, zd⟩, rfl, trivial⟩

end
end Go.Mh
