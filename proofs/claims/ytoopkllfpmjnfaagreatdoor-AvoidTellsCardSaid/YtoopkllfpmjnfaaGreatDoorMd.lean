/- Texts of the proofs of seat YtoopkllfpmjnfaaGreatDoor, joined: OwnM, Ev, Both, Steps, Both2, Both3, Both4, TightW, Follow, Meet, Avoid, Avoid2, Avoid3, Avoid4, Avoid5. They have no conditions of their own. -/
import Derived.Test.YtoopkllfpmjnfaaGreatDoorMc
set_option linter.unusedVariables false
set_option linter.unusedSimpArgs false

/-! Maps by any keys, as parts of memory. -/
namespace Go.Mh
open Go

def kmapR {κ : Type} [DecidableEq κ] (Q : KM.KE κ) (m : Nat) (f : κ → Option Value) : Res := ⟨fun b => b = m, fun h => ∃ es c, h[m]? = some (.map es c) ∧ KM.IMap Q es c f, fun hs ⟨es, c, a, b⟩ => ⟨es, c, (hs m rfl).trans a, b⟩⟩

section
variable {κ : Type} [DecidableEq κ] {Q : KM.KE κ} {h0 h : Heap} {L : List Res} {m : Nat} {f : κ → Option Value} {K : Value → Prop} {KH : Value → Heap → Prop} {k : κ} {z v : Value} {ok : Bool}

theorem Own.kmk (Q : KM.KE κ) (o : Own h0 h L) (hK : ∀ m h', Own h0 h' (kmapR Q m (fun _ => none) :: L) → KH (.map (some m)) h') : pMakeMap h KH :=
  hK h.size _ (o.new (r := kmapR Q h.size _) ⟨#[], 0, push_new, .empty⟩ fun b hb => hb)

theorem Own.klook (o : Own h0 h L) (i : Nat) (hi : L[i]? = some (kmapR Q m f)) (hk : K (if ok then .tuple #[(f k).getD z, .bool (f k).isSome] else (f k).getD z)) : pLook Q.kd z ok h (.map (some m)) (Q.ke k) K := by
  obtain ⟨es, c, hm, him⟩ := o.get i hi
  exact KM.look_of hm him hk

theorem Own.kput {f' : κ → Option Value} (o : Own h0 h L) (i : Nat) (hi : L[i]? = some (kmapR Q m f)) (hf : ∀ x, f' x = KM.fset f k v x) (hK : ∀ h', Own h0 h' (L.set i (kmapR Q m f')) → KH undef h') : pMapSet Q.kd (.map (some m)) (Q.ke k) v h KH := by
  obtain ⟨es, c, hm, him⟩ := o.get i hi
  have hlt := get_lt hm
  refine KM.mapSet_of hm him fun es' c' him' => hK _ (o.set i hi (Upd.upd _ _ rfl) ⟨es', c', upd_self hlt, him'.congr fun x => (hf x).symm ▸ rfl⟩ fun b hb => ⟨.inl hb, ?_⟩)
  rw [upd_size]; exact (show b = m from hb) ▸ hlt

theorem Own.kentry (o : Own h0 h L) (i : Nat) (hi : L[i]? = some (kmapR Q m f))
    (hK : ∀ h' s, Own h0 h' (L.set i (kmapR Q m (KM.fset f k ((f k).getD z)))) →
      (∀ (v : Value) (K' : Value → Heap → Prop), (∀ h'', Own h0 h'' (L.set i (kmapR Q m (KM.fset f k v))) → K' undef h'') → pEntryStore (.map (some m)) (.int .i64 s) v h' K') →
      KH (.tuple #[(f k).getD z, .int .i64 s]) h') : pMapEntry Q.kd z (.map (some m)) (Q.ke k) h KH := by
  obtain ⟨es, c, hm, him⟩ := o.get i hi
  have hlt := get_lt hm
  have hF : ∀ b, (kmapR Q m f).F b → ((kmapR Q m f).F b ∨ h.size ≤ b) := fun b hb => .inl hb
  refine KM.mapEntry_of hm him fun es' c' s him' hst => ?_
  have o1 : Own h0 (upd h m (.map es' c')) (L.set i (kmapR Q m (KM.fset f k ((f k).getD z)))) :=
    o.set i hi (Upd.upd _ _ rfl) ⟨es', c', upd_self hlt, him'⟩ fun b hb => ⟨.inl hb, by rw [upd_size]; exact (show b = m from hb) ▸ hlt⟩
  refine hK _ s o1 fun v K' hK' => ?_
  have hm' : (upd h m (.map es' c'))[m]? = some (.map es' c') := upd_self hlt
  have hlt' := get_lt hm'
  refine KM.entryStore_of hm' him' hst fun es'' him'' => hK' _ ?_
  have o2 := o1.set i (set_get hi) (r' := kmapR Q m (KM.fset f k v)) (Upd.upd _ (.map es'' c') rfl) ⟨es'', c', upd_self hlt', ?_⟩ fun b hb => ⟨.inl hb, by rw [upd_size]; exact (show b = m from hb) ▸ hlt'⟩
  · rw [List.set_set] at o2; exact o2
  · rw [KM.fset_same] at him''; exact him''

theorem Own.kdel {f' : κ → Option Value} (o : Own h0 h L) (i : Nat) (hi : L[i]? = some (kmapR Q m f)) (hf : ∀ x, f' x = KM.fdel f k x) (hK : ∀ h', Own h0 h' (L.set i (kmapR Q m f')) → KH (.tuple #[]) h') : pDelete Q.kd (.map (some m)) (Q.ke k) h KH := by
  obtain ⟨es, c, hm, him⟩ := o.get i hi
  have hlt := get_lt hm
  refine KM.delete_of hm him fun es' him' => hK _ (o.set i hi (Upd.upd _ _ rfl) ⟨es', c, upd_self hlt, him'.congr fun x => (hf x).symm ▸ rfl⟩ fun b hb => ⟨.inl hb, ?_⟩)
  rw [upd_size]; exact (show b = m from hb) ▸ hlt

end

section
variable {h0 h : Heap} {L : List Res} {m : Nat} {f : Int → Option Value} {KH : Value → Heap → Prop} {k : Int} {z v : Value}

/-- m[k] = v, by an entry. -/
theorem Own.mapAsg {f' : Int → Option Value} (o : Own h0 h L) (i : Nat) (hi : L[i]? = some (mapR m f)) (hf : ∀ x, f' x = fset f k v x) (hK : ∀ h', Own h0 h' (L.set i (mapR m f')) → KH undef h') :
    pMapEntry (.int .i64) z (.map (some m)) (I k) h fun t h1 => pExt t 1 fun s => pEntryStore (.map (some m)) s v h1 KH := by
  obtain ⟨es, c, hm, him⟩ := o.get i hi
  have hlt := get_lt hm
  refine mapEntry_of hm him fun es' c' s him' hst => ?_
  rw [pExt_tuple]
  show pEntryStore (.map (some m)) (.int .i64 s) v (Mh.upd h m (.map es' c')) KH
  have o1 : Own h0 (Mh.upd h m (.map es' c')) (L.set i (mapR m (fset f k ((f k).getD z)))) :=
    o.set i hi (Upd.upd _ _ rfl) ⟨es', c', upd_self hlt, him'⟩ fun b hb => ⟨.inl hb, by rw [upd_size]; exact (show b = m from hb) ▸ hlt⟩
  have hm' : (Mh.upd h m (.map es' c'))[m]? = some (.map es' c') := upd_self hlt
  have hlt' := get_lt hm'
  refine entryStore_of hm' him' hst fun es'' him'' => hK _ ?_
  have o2 := o1.set i (set_get hi) (r' := mapR m f') (Upd.upd _ (.map es'' c') rfl) ⟨es'', c', upd_self hlt', him''.congr fun x => ?_⟩ fun b hb => ⟨.inl hb, by rw [upd_size]; exact (show b = m from hb) ▸ hlt'⟩
  · rw [List.set_set] at o2; exact o2
  · rw [hf]; unfold fset; split <;> rfl

end

abbrev Key3 := Int × Int × Int
def ke3 (k : Key3) : Value := .agg #[.int .i64 k.1, .int .i64 k.2.1, .int .i64 k.2.2]

theorem findA_fi (k : Key3) : ∀ (t : List (KM.Ent Key3)) (j : Nat), findA k (t.map (KM.ent ke3)) j = some (KM.fi k t j)
  | [], j => rfl
  | x :: t, j => by
    have : key3 (KM.ent ke3 x).key = some x.1 := rfl
    simp only [List.map_cons, findA, this, KM.fi]
    by_cases e : k = x.1
    · rw [if_pos e, if_pos e.symm]; rfl
    · rw [if_neg e, if_neg (fun h => e h.symm)]; exact findA_fi k t (j + 1)

/-- Arrays of three numbers as keys. -/
def Q3 (n : Nat) (e : TypeId) : KM.KE Key3 where
  ke := ke3
  kd := .array n e
  inj := fun a b h => by
    obtain ⟨a1, a2, a3⟩ := a
    obtain ⟨b1, b2, b3⟩ := b
    simp [ke3] at h
    obtain ⟨rfl, rfl, rfl⟩ := h
    rfl
  find := fun k t => findA_fi k t 0

end Go.Mh

/-! Events of searches. -/
namespace Go.Mh
open Go

structure Ev where
  kind : Int
  side : Int
  id : Int
  label : Int
  deriving DecidableEq

abbrev encE (e : Ev) : List Value := [I e.kind, I e.side, I e.id, I e.label]
theorem encE_len (e : Ev) : (encE e).length = 4 := rfl
theorem encE_plain (e : Ev) : ∀ u ∈ encE e, plainCell u = true := by
  intro u hu; simp at hu; rcases hu with rfl | rfl | rfl | rfl <;> rfl
theorem encE_cells (e : Ev) : (Value.cells (.agg (encE e).toArray)).toList = encE e := rfl

def Ev.key (e : Ev) : Key3 := (e.kind, e.side, e.id)

def mostE (n m : Nat) (k : Int) : Int := if k = 0 then n else if k = 1 then m else 0
def mayP (n m : Nat) (e : Ev) : Prop := 0 ≤ e.id ∧ e.id < mostE n m e.kind ∧ (e.side = 0 ∨ e.side = 1) ∧ (e.kind = 0 ∨ e.label = 0)
instance {n m : Nat} {e : Ev} : Decidable (mayP n m e) := by unfold mayP; infer_instance
def mayE (n m : Nat) (e : Ev) : Bool := decide (mayP n m e)

/-- Nothing is twice. -/
def OnceE (n m : Nat) (l : List Ev) : Prop := ∀ i e, l[i]? = some e → mayE n m e = true ∧ e.key ∉ (l.take i).map Ev.key

/-- The node that was popped last, on a side. -/
def lastE (l : List Ev) (side : Int) : Int := l.foldl (fun a e => if e.kind = 0 ∧ e.side = side then e.id else a) (-1)
theorem lastE_snoc {l : List Ev} {e : Ev} {side : Int} : lastE (l ++ [e]) side = if e.kind = 0 ∧ e.side = side then e.id else lastE l side := by
  unfold lastE; rw [List.foldl_append]; rfl

def tailE (g : G) (e : Ev) : Int := match g.arcs[e.id.toNat]? with
  | some a => if e.side = 1 then (a.t : Int) else (a.f : Int)
  | none => 0

/-- Scans stand behind their tails' pops. -/
def HeadsE (g : G) (l : List Ev) : Prop := ∀ i e, l[i]? = some e → mayE g.n g.arcs.length e = true ∧ (e.kind ≠ 0 → lastE (l.take i) e.side = tailE g e)

def isE (k s : Int) (e : Ev) : Bool := decide (e.kind = k ∧ e.side = s)
def ofE (k s : Int) (l : List Ev) : List Int := (l.filter (isE k s)).map Ev.id
theorem ofE_snoc {k s : Int} {l : List Ev} {e : Ev} : ofE k s (l ++ [e]) = ofE k s l ++ (if isE k s e then [e.id] else []) := by
  unfold ofE; rw [List.filter_append, List.map_append]
  congr 1
  cases h : isE k s e <;> simp [h]

/-- The label of a node's first pop, on a side. -/
def labE (l : List Ev) (s v : Int) : Option Int := ((l.filter (isE 0 s)).find? fun e => e.id == v).map Ev.label

def beyP (fs : List Int) (most : Int) (e : Ev) : Bool := decide (e.kind = 0 ∧ (e.id < 0 ∨ (fs.length : Int) ≤ e.id ∨ most < dAt fs e.id.toNat))

/-- The first of which something holds; -1: of none. -/
def Fst (p : Nat → Bool) (n : Nat) (r : Int) : Prop := (r = -1 ∧ ∀ k, k < n → p k = false) ∨ ∃ i, r = (i : Nat) ∧ i < n ∧ p i = true ∧ ∀ k, k < i → p k = false

theorem Fst.uniq {p : Nat → Bool} {n : Nat} {r s : Int} (a : Fst p n r) (b : Fst p n s) : r = s := by
  rcases a with ⟨rfl, h1⟩ | ⟨i, rfl, h1, h2, h3⟩ <;> rcases b with ⟨rfl, k1⟩ | ⟨j, rfl, k1, k2, k3⟩
  · rfl
  · rw [h1 j k1] at k2; cases k2
  · rw [k1 i h1] at h2; cases h2
  · have : i = j := by
      rcases Nat.lt_trichotomy i j with h | h | h
      · rw [k3 i h] at h2; cases h2
      · exact h
      · rw [h3 j h] at k2; cases k2
    rw [this]

theorem Fst.any {p : Nat → Bool} {n : Nat} {r : Int} (a : Fst p n r) : (decide (0 ≤ r) = true ↔ ∃ k, k < n ∧ p k = true) := by
  rw [decide_eq_true_eq]
  rcases a with ⟨rfl, h1⟩ | ⟨i, rfl, h1, h2, h3⟩
  · exact ⟨fun h => by omega, fun ⟨k, h, hk⟩ => by rw [h1 k h] at hk; cases hk⟩
  · exact ⟨fun _ => ⟨i, h1, h2⟩, fun _ => by omega⟩

/-- Between i and j there is none. -/
def GapE (k s : Int) (l : List Ev) (i j : Nat) : Prop := ∀ q e, i ≤ q → q < j → l[q]? = some e → isE k s e = false

theorem gap_filter {k s : Int} {l : List Ev} {i : Nat} : ∀ {d : Nat}, GapE k s l i (i + d) → (l.take (i + d)).filter (isE k s) = (l.take i).filter (isE k s)
  | 0, _ => rfl
  | d + 1, h => by
    have ih := gap_filter (d := d) fun q e h1 h2 h3 => h q e h1 (by omega) h3
    by_cases hl : i + d < l.length
    · rw [show i + (d + 1) = (i + d) + 1 by omega, List.take_succ_eq_append_getElem hl, List.filter_append, ih]
      have := h (i + d) l[i + d] (by omega) (by omega) (List.getElem?_eq_getElem hl)
      simp [this]
    · rw [List.take_of_length_le (l := l) (i := i + d) (by omega)] at ih
      rw [List.take_of_length_le (l := l) (i := i + (d + 1)) (by omega)]
      exact ih

theorem gap_of {k s : Int} {l : List Ev} {i j : Nat} (hij : i ≤ j) (h : GapE k s l i j) : (l.take j).filter (isE k s) = (l.take i).filter (isE k s) := by
  obtain ⟨d, rfl⟩ : ∃ d, j = i + d := ⟨j - i, by omega⟩
  exact gap_filter h

/-- The next event of a kind, on a side. -/
def NextE (k s : Int) (l : List Ev) (i : Nat) (x : List Value) (i' : Nat) : Prop :=
  ∃ (j : Nat) (e : Ev), l[j]? = some e ∧ i ≤ j ∧ isE k s e = true ∧ GapE k s l i j ∧ x = [I j, .agg (encE e).toArray] ∧ i' = j + 1

theorem next_filter {k s : Int} {l : List Ev} {i j : Nat} {e : Ev} (hj : l[j]? = some e) (hij : i ≤ j) (he : isE k s e = true) (hg : GapE k s l i j) :
    (l.take (j + 1)).filter (isE k s) = (l.take i).filter (isE k s) ++ [e] := by
  have hl : j < l.length := (List.getElem?_eq_some_iff.1 hj).1
  have e1 : l[j] = e := (List.getElem?_eq_some_iff.1 hj).2
  rw [List.take_succ_eq_append_getElem hl, List.filter_append, gap_of hij hg, e1]
  simp [he]

end Go.Mh

/-! One side of a search from both ends, as data. -/
namespace Go.Mh
open Go

structure BS where
  hp : List HP
  lab : Int → Option Int
  arc : Int → Option Int
  ord : List Nat

def BS.zero : BS := ⟨[], fun _ => none, fun _ => none, []⟩

def BS.put (π : Nat → Int) (b : BS) (v : Nat) (a d : Int) : BS where
  hp := ((v : Int), 2 * d + π v) :: (match b.lab v with
    | some was => b.hp.erase ((v : Int), 2 * was + π v)
    | none => b.hp)
  lab := fun z => if z = (v : Int) then some d else b.lab z
  arc := fun z => if z = (v : Int) then some a else b.arc z
  ord := b.ord

def BS.takes (opn : Nat → Bool) (b : BS) (v : Nat) (d : Int) : Bool := opn v && (!b.ord.contains v && (match b.lab v with
  | some was => !decide (was ≤ d)
  | none => true))

def BS.pop (b : BS) (v : Nat) (k : Int) : BS := { b with hp := b.hp.erase ((v : Int), k), ord := b.ord ++ [v] }

/-- How a node was come to. -/
inductive Bk (l : List A) (tl hd : A → Nat) (ok : Nat → Bool) (arc : Int → Option Int) (ord : List Nat) (src : Nat) : Nat → List Nat → Int → Prop
  | nil : arc src = some (-1) → Bk l tl hd ok arc ord src src [] 0
  | cons {i : Nat} {r : List Nat} {d : Int} : arc (hd (arcAt l i)) = some (i : Int) → i < l.length → ok i = true → tl (arcAt l i) ∈ ord → Bk l tl hd ok arc ord src (tl (arcAt l i)) r d →
      Bk l tl hd ok arc ord src (hd (arcAt l i)) (i :: r) (d + (arcAt l i).w)

section
variable {l : List A} {tl hd : A → Nat} {ok : Nat → Bool} {n src : Nat} {opn : Nat → Bool} {π : Nat → Int} {Fe : Prop}

theorem Bk.keep {arc arc' : Int → Option Int} {ord ord' : List Nat} {u : Nat} {r : List Nat} {d : Int} (h : Bk l tl hd ok arc ord src u r d) (ha : ∀ w ∈ ord, arc' (w : Int) = arc w) (hs : ∀ w ∈ ord, w ∈ ord') :
    arc' (u : Int) = arc u → Bk l tl hd ok arc' ord' src u r d := by
  induction h with
  | nil h => intro hu; exact .nil (hu.trans h)
  | cons h1 h2 h3 h4 _ ih => intro hu; exact .cons (hu.trans h1) h2 h3 (hs _ h4) (ih (ha _ h4))

/-- What is known of a side. -/
structure SI (l : List A) (tl hd : A → Nat) (ok : Nat → Bool) (n src : Nat) (opn : Nat → Bool) (π : Nat → Int) (Fe : Prop) (b : BS) (B : Int) : Prop where
  ids : (b.hp.map (·.1)).Nodup
  ent : ∀ p ∈ b.hp, ∃ u : Nat, p.1 = u ∧ u ∉ b.ord ∧ ∃ d, b.lab u = some d ∧ p.2 = 2 * d + π u
  lab : ∀ z d, b.lab z = some d → ∃ u : Nat, z = u ∧ u < n ∧ opn u = true ∧ 0 ≤ d ∧ d ≤ B ∧ (u ∈ b.ord ∨ ((u : Int), 2 * d + π u) ∈ b.hp)
  ord : b.ord.Nodup
  ordl : ∀ v ∈ b.ord, ∃ d, b.lab (v : Int) = some d
  bk : ∀ (u : Nat) d, b.lab u = some d → ∃ r, Bk l tl hd ok b.arc b.ord src u r d ∧ r.length ≤ (if u ∈ b.ord then b.ord.idxOf u else b.ord.length)
  mono : Fe → ∀ c ∈ b.ord, ∀ dc, b.lab (c : Int) = some dc → ∀ p ∈ b.hp, 2 * dc + π c ≤ p.2
  zero : ∀ d, b.lab (src : Int) = some d → d = 0
  fst : b.ord = [] → ∀ p ∈ b.hp, p.1 = (src : Int)
  hd : ∀ v, b.ord.head? = some v → v = src

variable {b : BS} {B B' : Int}

theorem SI.start : SI l tl hd ok n src opn π Fe BS.zero 0 := by
  refine ⟨by simp [BS.zero], fun p h => by simp [BS.zero] at h, fun z d h => by simp [BS.zero] at h, by simp [BS.zero], fun v h => by simp [BS.zero] at h, fun u d h => by simp [BS.zero] at h,
    fun _ c h => by simp [BS.zero] at h, fun d h => by simp [BS.zero] at h, fun _ p h => by simp [BS.zero] at h, fun v h => by simp [BS.zero] at h⟩

theorem SI.more (H : SI l tl hd ok n src opn π Fe b B) (h : B ≤ B') : SI l tl hd ok n src opn π Fe b B' :=
  ⟨H.ids, H.ent, fun z d hz => by obtain ⟨u, a, c, e, f, g, k⟩ := H.lab z d hz; exact ⟨u, a, c, e, f, by omega, k⟩, H.ord, H.ordl, H.bk, H.mono, H.zero, H.fst, H.hd⟩

theorem SI.ordn (H : SI l tl hd ok n src opn π Fe b B) : ∀ v ∈ b.ord, v < n ∧ opn v = true := fun v hv => by
  obtain ⟨d, hd⟩ := H.ordl v hv
  obtain ⟨u, e, h1, h2, _⟩ := H.lab _ _ hd
  obtain rfl := Int.ofNat.inj e
  exact ⟨h1, h2⟩

theorem SI.olen (H : SI l tl hd ok n src opn π Fe b B) : b.ord.length ≤ n := nodup_le H.ord fun v hv => (H.ordn v hv).1

theorem SI.notin (H : SI l tl hd ok n src opn π Fe b B) {v : Nat} (h : b.lab v = none) : ∀ p ∈ b.hp, p.1 ≠ (v : Int) := fun p hp e => by
  obtain ⟨u, h1, h2, d, h3, _⟩ := H.ent p hp
  rw [← h1, e, h] at h3; cases h3

theorem SI.hlen (H : SI l tl hd ok n src opn π Fe b B) : b.hp.length ≤ n := by
  have h1 : (b.hp.map (·.1.toNat)).length ≤ n := nodup_le (by
    have e : b.hp.map (·.1.toNat) = (b.hp.map (·.1)).map Int.toNat := by simp
    rw [e, List.nodup_iff_pairwise_ne, List.pairwise_map]
    refine (List.nodup_iff_pairwise_ne.1 H.ids).imp_of_mem fun {x y} hx hy hne e => hne ?_
    obtain ⟨p, hp, rfl⟩ := List.mem_map.1 hx
    obtain ⟨q, hq, rfl⟩ := List.mem_map.1 hy
    obtain ⟨u, e1, _⟩ := H.ent p hp
    obtain ⟨w, e2, _⟩ := H.ent q hq
    rw [e1, e2] at e ⊢
    have e' : u = w := by simpa using e
    rw [e']) (fun x hx => by
    obtain ⟨p, hp, rfl⟩ := List.mem_map.1 hx
    obtain ⟨u, e1, _, d, e2, _⟩ := H.ent p hp
    obtain ⟨u', e3, e4, _⟩ := H.lab _ _ e2
    obtain rfl := Int.ofNat.inj e3
    rw [e1]; simpa using e4)
  simpa using h1

theorem mem_put {v : Nat} {a d : Int} {p : HP} : p ∈ (b.put π v a d).hp ↔ p = ((v : Int), 2 * d + π v) ∨ p ∈ (match b.lab v with | some was => b.hp.erase ((v : Int), 2 * was + π v) | none => b.hp) := by
  simp [BS.put]

theorem SI.put (H : SI l tl hd ok n src opn π Fe b B) {v : Nat} {a d : Int} (hv : v < n) (ho : opn v = true) (hno : v ∉ b.ord) (h0 : 0 ≤ d) (hB : d ≤ B)
    (hbk : ∃ r, Bk l tl hd ok (b.put π v a d).arc b.ord src v r d ∧ r.length ≤ b.ord.length) (hm : Fe → ∀ c ∈ b.ord, ∀ dc, b.lab (c : Int) = some dc → 2 * dc + π c ≤ 2 * d + π v)
    (hz : v = src → d = 0) (hf : b.ord = [] → v = src) : SI l tl hd ok n src opn π Fe (b.put π v a d) B := by
  have rest : ∀ p, p ∈ (match b.lab v with | some was => b.hp.erase ((v : Int), 2 * was + π v) | none => b.hp) → p ∈ b.hp ∧ p.1 ≠ (v : Int) := by
    intro p hp
    cases hl : b.lab v with
    | none => rw [hl] at hp; exact ⟨hp, H.notin hl p hp⟩
    | some was =>
      rw [hl] at hp
      obtain ⟨u, e, _, _, _, _, h1⟩ := H.lab _ _ hl
      obtain rfl := Int.ofNat.inj e
      exact ⟨List.mem_of_mem_erase hp, not_mem_erase H.ids (h1.resolve_left hno) hp⟩
  have back : ∀ p ∈ b.hp, p.1 ≠ (v : Int) → p ∈ (b.put π v a d).hp := by
    intro p hp hne
    refine mem_put.2 (.inr ?_)
    cases hl : b.lab v with
    | none => exact hp
    | some was => exact (List.mem_erase_of_ne fun e => hne (by rw [e])).2 hp
  have lab' : ∀ z, (b.put π v a d).lab z = if z = (v : Int) then some d else b.lab z := fun z => rfl
  have keep : ∀ w ∈ b.ord, (b.put π v a d).arc (w : Int) = b.arc w := fun w hw => by
    have : ¬ (w : Int) = v := fun e => hno (by rw [← Int.ofNat.inj e]; exact hw)
    show (if (w : Int) = (v : Int) then some a else b.arc w) = _
    rw [if_neg this]
  refine ⟨?_, ?_, ?_, H.ord, ?_, ?_, ?_, ?_, ?_, H.hd⟩
  · simp only [BS.put, List.map_cons, List.nodup_cons]
    refine ⟨fun hx => ?_, ?_⟩
    · obtain ⟨p, hp, e⟩ := List.mem_map.1 hx
      exact (rest p hp).2 e
    · cases hl : b.lab v with
      | none => exact H.ids
      | some was => exact map_erase_sub.nodup H.ids
  · intro p hp
    rcases mem_put.1 hp with rfl | hp
    · exact ⟨v, rfl, hno, d, by rw [lab', if_pos rfl], rfl⟩
    · obtain ⟨h1, h2⟩ := rest p hp
      obtain ⟨u, e1, e2, d', e3, e4⟩ := H.ent p h1
      refine ⟨u, e1, e2, d', ?_, e4⟩
      rw [lab', if_neg (by rw [← e1]; exact h2)]; exact e3
  · intro z d' hz'
    rw [lab'] at hz'
    split at hz'
    · rename_i e
      obtain rfl := Option.some.inj hz'
      exact ⟨v, e, hv, ho, h0, hB, .inr (mem_put.2 (.inl rfl))⟩
    · rename_i hne
      obtain ⟨u, e, c1, c2, c3, c4, c5⟩ := H.lab z d' hz'
      refine ⟨u, e, c1, c2, c3, c4, c5.imp id fun h => back _ h ?_⟩
      rw [← e]; exact hne
  · intro w hw
    obtain ⟨d', hd'⟩ := H.ordl w hw
    refine ⟨d', ?_⟩
    rw [lab', if_neg fun e => hno (by rw [← Int.ofNat.inj e]; exact hw)]; exact hd'
  · intro u d' hu
    rw [lab'] at hu
    split at hu
    · rename_i e
      obtain rfl := Int.ofNat.inj e
      obtain rfl := Option.some.inj hu
      obtain ⟨r, h1, h2⟩ := hbk
      refine ⟨r, h1, ?_⟩
      show r.length ≤ if u ∈ b.ord then _ else _
      rw [if_neg hno]; exact h2
    · rename_i hne
      obtain ⟨r, h1, h2⟩ := H.bk u d' hu
      refine ⟨r, h1.keep keep (fun w h => h) ?_, h2⟩
      show (if (u : Int) = (v : Int) then some a else b.arc u) = _
      rw [if_neg hne]
  · intro hF c hc dc hdc p hp
    rw [lab', if_neg fun e => hno (by rw [← Int.ofNat.inj e]; exact hc)] at hdc
    rcases mem_put.1 hp with rfl | hp
    · exact hm hF c hc dc hdc
    · exact H.mono hF c hc dc hdc p (rest p hp).1
  · intro d' hd'
    rw [lab'] at hd'
    split at hd'
    · rename_i e
      obtain rfl := Option.some.inj hd'
      exact hz (Int.ofNat.inj e).symm
    · exact H.zero d' hd'
  · intro he p hp
    rcases mem_put.1 hp with rfl | hp
    · show (v : Int) = src; rw [hf he]
    · exact H.fst he p (rest p hp).1

theorem SI.pop (H : SI l tl hd ok n src opn π Fe b B) {v : Nat} {k : Int} (hm : ((v : Int), k) ∈ b.hp) (hmin : ∀ q ∈ b.hp, ¬ hl q ((v : Int), k) = true) :
    SI l tl hd ok n src opn π Fe (b.pop v k) B ∧ v ∉ b.ord ∧ v < n ∧ opn v = true ∧ (∃ d, b.lab v = some d ∧ k = 2 * d + π v ∧ 0 ≤ d ∧ d ≤ B) ∧
      (Fe → ∀ c ∈ (b.pop v k).ord, ∀ dc, b.lab (c : Int) = some dc → 2 * dc + π c ≤ k) := by
  obtain ⟨u, e, hno, d, hd, hk⟩ := H.ent _ hm
  obtain rfl := Int.ofNat.inj e
  obtain ⟨u', e', hn, ho, h0, hB, _⟩ := H.lab _ _ hd
  obtain rfl := Int.ofNat.inj e'
  have hk : k = 2 * d + π v := hk
  have hmax : Fe → ∀ c ∈ b.ord ++ [v], ∀ dc, b.lab (c : Int) = some dc → 2 * dc + π c ≤ k := by
    intro hF c hc dc hdc
    rcases List.mem_append.1 hc with hc | hc
    · exact H.mono hF c hc dc hdc _ hm
    · obtain rfl := List.mem_singleton.1 hc
      rw [hd] at hdc
      obtain rfl := Option.some.inj hdc
      omega
  refine ⟨⟨map_erase_sub.nodup H.ids, fun p hp => ?_, fun z d' hz => ?_, ?_, fun w hw => ?_, fun w d' hw => ?_, fun hF c hc dc hdc p hp => ?_, H.zero, fun h => ?_, fun w hw => ?_⟩, hno, hn, ho, ⟨d, hd, hk, h0, hB⟩, hmax⟩
  · have h1 := List.mem_of_mem_erase hp
    obtain ⟨w, e1, e2, e3⟩ := H.ent p h1
    refine ⟨w, e1, fun h => ?_, e3⟩
    rcases List.mem_append.1 h with h | h
    · exact e2 h
    · obtain rfl := List.mem_singleton.1 h
      exact not_mem_erase H.ids hm hp e1
  · obtain ⟨w, e1, c1, c2, c3, c4, c5⟩ := H.lab z d' hz
    refine ⟨w, e1, c1, c2, c3, c4, ?_⟩
    by_cases hwv : w = v
    · exact .inl (by rw [hwv]; exact List.mem_append_right _ List.mem_cons_self)
    · refine c5.imp (List.mem_append_left _) fun h => (List.mem_erase_of_ne fun e => hwv ?_).2 h
      exact Int.ofNat.inj (congrArg Prod.fst e)
  · show (b.ord ++ [v]).Nodup
    rw [List.nodup_append]
    refine ⟨H.ord, by simp, fun a ha c hc e' => ?_⟩
    have hc := List.mem_singleton.1 hc
    rw [hc] at e'
    exact hno (e' ▸ ha)
  · rcases List.mem_append.1 hw with hw | hw
    · exact H.ordl w hw
    · obtain rfl := List.mem_singleton.1 hw
      exact ⟨d, hd⟩
  · obtain ⟨r, h1, h2⟩ := H.bk w d' hw
    refine ⟨r, h1.keep (fun _ _ => rfl) (fun _ h => List.mem_append_left _ h) rfl, ?_⟩
    show r.length ≤ if w ∈ b.ord ++ [v] then (b.ord ++ [v]).idxOf w else (b.ord ++ [v]).length
    by_cases hwo : w ∈ b.ord
    · rw [if_pos hwo] at h2
      rw [if_pos (List.mem_append_left _ hwo), List.idxOf_append, if_pos hwo]; exact h2
    · rw [if_neg hwo] at h2
      by_cases hwv : w = v
      · subst hwv
        rw [if_pos (List.mem_append_right _ List.mem_cons_self), List.idxOf_append, if_neg hno]
        omega
      · rw [if_neg (by simp [hwo, hwv]), List.length_append]; omega
  · have h1 := hmax hF c hc dc hdc
    have h2 := hmin p (List.mem_of_mem_erase hp)
    rw [hl_iff] at h2
    omega
  · simp [BS.pop] at h
  · cases ho : b.ord with
    | nil =>
      have hw : (b.ord ++ [v]).head? = some w := hw
      rw [ho] at hw
      obtain rfl := Option.some.inj hw
      exact Int.ofNat.inj (H.fst ho _ hm)
    | cons a r =>
      have hw : (b.ord ++ [v]).head? = some w := hw
      rw [ho] at hw
      exact H.hd w (by rw [ho]; exact hw)

end
end Go.Mh

/-! Events that come in blocks: a pop, and the scans of its arcs. -/
namespace Go.Mh
open Go

def sI (x : Bool) : Int := if x then 1 else 0
theorem sI_inj {x y : Bool} : sI x = sI y ↔ x = y := by cases x <;> cases y <;> decide
theorem sI_or (x : Bool) : sI x = 0 ∨ sI x = 1 := by cases x <;> decide
def tlS (x : Bool) (a : A) : Nat := if x then a.t else a.f
def hdS (x : Bool) (a : A) : Nat := if x then a.f else a.t

structure Stp where
  x : Bool
  v : Nat
  d : Int

def scanE (x : Bool) (i : Nat) : Ev := ⟨1, sI x, i, 0⟩
def popE (s : Stp) : Ev := ⟨0, sI s.x, s.v, s.d⟩
def blkS (outs : Bool → Nat → List Nat) (s : Stp) : List Ev := popE s :: (outs s.x s.v).map (scanE s.x)
def evs (outs : Bool → Nat → List Nat) (st : List Stp) : List Ev := st.flatMap (blkS outs)

theorem evs_nil {outs : Bool → Nat → List Nat} : evs outs [] = [] := rfl
theorem evs_append {outs : Bool → Nat → List Nat} {a b : List Stp} : evs outs (a ++ b) = evs outs a ++ evs outs b := List.flatMap_append
theorem evs_cons {outs : Bool → Nat → List Nat} {s : Stp} {b : List Stp} : evs outs (s :: b) = blkS outs s ++ evs outs b := rfl
theorem evs_one {outs : Bool → Nat → List Nat} {s : Stp} : evs outs [s] = blkS outs s := by simp [evs]

structure OutsOk (g : G) (outs : Bool → Nat → List Nat) : Prop where
  mem : ∀ x v i, i ∈ outs x v → i < g.arcs.length ∧ tlS x (arcAt g.arcs i) = v
  nd : ∀ x v, (outs x v).Nodup

theorem outsP_rising {q : A → Bool} : ∀ {l : List A} {i : Nat}, (outsP q l i).Pairwise (· < ·)
  | [], _ => .nil
  | a :: l, i => by
    simp only [outsP]
    split
    · refine List.pairwise_cons.2 ⟨fun j hj => ?_, outsP_rising⟩
      have := (outsP_mem.1 hj).1
      omega
    · exact outsP_rising

theorem outsP_nodup {q : A → Bool} {l : List A} {i : Nat} : (outsP q l i).Nodup := List.Pairwise.imp (fun h => Nat.ne_of_lt h) outsP_rising

def outG (g : G) (x : Bool) (v : Nat) : List Nat := if x then g.in v else g.out v

theorem outG_ok {g : G} : OutsOk g (outG g) := by
  refine ⟨fun x v i hi => ?_, fun x v => ?_⟩
  · cases x with
    | false =>
      obtain ⟨_, h1, h2⟩ := outsP_mem.1 (show i ∈ g.out v from hi)
      simp only [Nat.sub_zero] at h1 h2
      refine ⟨h1, ?_⟩
      show (arcAt g.arcs i).f = v
      simpa [arcAt, h1] using h2
    | true =>
      obtain ⟨_, h1, h2⟩ := outsP_mem.1 (show i ∈ g.in v from hi)
      simp only [Nat.sub_zero] at h1 h2
      refine ⟨h1, ?_⟩
      show (arcAt g.arcs i).t = v
      simpa [arcAt, h1] using h2
  · cases x
    · exact outsP_nodup
    · exact outsP_nodup

theorem OutsOk.filter {g : G} {outs : Bool → Nat → List Nat} (H : OutsOk g outs) (p : Nat → Bool) : OutsOk g (fun x v => (outs x v).filter p) :=
  ⟨fun x v i hi => H.mem x v i (List.mem_filter.1 hi).1, fun x v => (H.nd x v).filter p⟩

section
variable {g : G} {outs : Bool → Nat → List Nat} {st : List Stp} {l : List Ev}

theorem mem_evs {e : Ev} : e ∈ evs outs st ↔ ∃ s ∈ st, e = popE s ∨ ∃ i ∈ outs s.x s.v, e = scanE s.x i := by
  simp only [evs, List.mem_flatMap, blkS, List.mem_cons, List.mem_map]
  exact ⟨fun ⟨s, hs, h⟩ => ⟨s, hs, h.imp id fun ⟨i, a, b⟩ => ⟨i, a, b.symm⟩⟩, fun ⟨s, hs, h⟩ => ⟨s, hs, h.imp id fun ⟨i, a, b⟩ => ⟨i, a, b.symm⟩⟩⟩

theorem may_pop {s : Stp} (h : s.v < g.n) : mayE g.n g.arcs.length (popE s) = true :=
  decide_eq_true ⟨by simp [popE], by show (s.v : Int) < mostE _ _ 0; unfold mostE; rw [if_pos rfl]; omega, sI_or _, .inl rfl⟩
theorem may_scan {x : Bool} {i : Nat} (h : i < g.arcs.length) : mayE g.n g.arcs.length (scanE x i) = true :=
  decide_eq_true ⟨by simp [scanE], by show (i : Int) < mostE _ _ 1; unfold mostE; rw [if_neg (by decide), if_pos rfl]; omega, sI_or _, .inr rfl⟩

theorem evs_may (H : OutsOk g outs) (hv : ∀ s ∈ st, s.v < g.n) : ∀ e ∈ evs outs st, mayE g.n g.arcs.length e = true := by
  intro e he
  obtain ⟨s, hs, rfl | ⟨i, hi, rfl⟩⟩ := mem_evs.1 he
  · exact may_pop (hv s hs)
  · exact may_scan (H.mem _ _ _ hi).1

theorem onceE_iff {n m : Nat} : OnceE n m l ↔ (∀ e ∈ l, mayE n m e = true) ∧ (l.map Ev.key).Nodup := by
  constructor
  · intro h
    refine ⟨fun e he => ?_, ?_⟩
    · obtain ⟨i, hi⟩ := List.getElem?_of_mem he
      exact (h i e hi).1
    · rw [List.nodup_iff_pairwise_ne, List.pairwise_map, List.pairwise_iff_getElem]
      intro i j hi hj hij e
      refine (h j _ (List.getElem?_eq_getElem hj)).2 ?_
      rw [← e]
      exact List.mem_map_of_mem (List.mem_take_iff_getElem.2 ⟨i, by omega, rfl⟩)
  · rintro ⟨h1, h2⟩ i e hi
    refine ⟨h1 e (List.mem_of_getElem? hi), fun hm => ?_⟩
    obtain ⟨e', he', hk⟩ := List.mem_map.1 hm
    obtain ⟨j, hj, rfl⟩ := List.mem_take_iff_getElem.1 he'
    obtain ⟨hi', rfl⟩ := List.getElem?_eq_some_iff.1 hi
    rw [List.nodup_iff_pairwise_ne, List.pairwise_map, List.pairwise_iff_getElem] at h2
    exact h2 j i (by omega) hi' (by omega) hk

theorem popE_key (s : Stp) : (popE s).key = (0, sI s.x, (s.v : Int)) := rfl
theorem scanE_key (x : Bool) (i : Nat) : (scanE x i).key = (1, sI x, (i : Int)) := rfl

theorem blkS_nodup (H : OutsOk g outs) {s : Stp} : ((blkS outs s).map Ev.key).Nodup := by
  simp only [blkS, List.map_cons, List.map_map, List.nodup_cons]
  refine ⟨fun h => ?_, ?_⟩
  · obtain ⟨i, _, e⟩ := List.mem_map.1 h
    simp [scanE_key, popE_key] at e
  · rw [List.nodup_iff_pairwise_ne, List.pairwise_map]
    refine (List.nodup_iff_pairwise_ne.1 (H.nd s.x s.v)).imp fun {a b} hne e => hne ?_
    exact Int.ofNat.inj (by simpa [scanE_key] using e)

theorem evs_once (H : OutsOk g outs) (hv : ∀ s ∈ st, s.v < g.n) (hn : (st.map fun s => (s.x, s.v)).Nodup) : OnceE g.n g.arcs.length (evs outs st) := by
  rw [onceE_iff]
  refine ⟨evs_may H hv, ?_⟩
  clear hv
  induction st with
  | nil => simp [evs]
  | cons s st ih =>
    simp only [List.map_cons, List.nodup_cons] at hn
    rw [evs_cons, List.map_append, List.nodup_append]
    refine ⟨blkS_nodup H, ih hn.2, fun a ha b hb e => hn.1 ?_⟩
    subst e
    obtain ⟨e1, h1, rfl⟩ := List.mem_map.1 ha
    obtain ⟨e2, h2, hk⟩ := List.mem_map.1 hb
    obtain ⟨s', hs', h2⟩ := mem_evs.1 h2
    simp only [blkS, List.mem_cons, List.mem_map] at h1
    refine List.mem_map.2 ⟨s', hs', ?_⟩
    rcases h1 with rfl | ⟨i, hi, rfl⟩ <;> rcases h2 with rfl | ⟨j, hj, rfl⟩
    · simp only [popE_key, Prod.mk.injEq, sI_inj, true_and] at hk
      rw [hk.1, Int.ofNat.inj hk.2]
    · simp [popE_key, scanE_key] at hk
    · simp [popE_key, scanE_key] at hk
    · simp only [scanE_key, Prod.mk.injEq, sI_inj, true_and] at hk
      obtain ⟨hx, hk⟩ := hk
      have hk := Int.ofNat.inj hk
      have e1 := (H.mem _ _ _ hi).2
      have e2 := (H.mem _ _ _ hj).2
      rw [hk, hx, e1] at e2
      rw [hx, e2]

theorem lastE_scans {q : List Ev} {side : Int} (h : ∀ e ∈ q, e.kind ≠ 0) : lastE (l ++ q) side = lastE l side := by
  unfold lastE
  rw [List.foldl_append]
  induction q generalizing l with
  | nil => rfl
  | cons e q ih =>
    rw [List.foldl_cons, if_neg fun hh => h e List.mem_cons_self hh.1]
    exact ih fun e he => h e (List.mem_cons_of_mem _ he)

theorem heads_blk (H : OutsOk g outs) {s : Stp} (hv : s.v < g.n) (h : HeadsE g l) {k : Nat} : HeadsE g (l ++ (blkS outs s).take k) := by
  intro i e he
  by_cases hi : i < l.length
  · rw [List.getElem?_append_left hi] at he
    have := h i e he
    rw [List.take_append_of_le_length (by omega)]
    exact this
  · rw [List.getElem?_append_right (by omega)] at he
    obtain ⟨j, rfl⟩ : ∃ j, i = l.length + j := ⟨i - l.length, by omega⟩
    rw [Nat.add_sub_cancel_left] at he
    rw [List.take_length_add_append]
    have hj : j < k := by
      have := (List.getElem?_eq_some_iff.1 he).1
      rw [List.length_take] at this; omega
    rw [List.getElem?_take_of_lt hj] at he
    rw [List.take_take, Nat.min_eq_left (by omega)]
    cases j with
    | zero =>
      have : e = popE s := by simpa [blkS] using he.symm
      subst this
      exact ⟨may_pop hv, fun hk => absurd rfl hk⟩
    | succ j =>
      have he : ((outs s.x s.v).map (scanE s.x))[j]? = some e := he
      rw [List.getElem?_map] at he
      cases ho : (outs s.x s.v)[j]? with
      | none => rw [ho] at he; cases he
      | some a =>
        rw [ho] at he
        obtain rfl := Option.some.inj he
        obtain ⟨h1, h2⟩ := H.mem _ _ _ (List.mem_of_getElem? ho)
        refine ⟨may_scan h1, fun _ => ?_⟩
        show lastE (l ++ popE s :: ((outs s.x s.v).map (scanE s.x)).take j) (sI s.x) = _
        rw [show l ++ popE s :: ((outs s.x s.v).map (scanE s.x)).take j = (l ++ [popE s]) ++ ((outs s.x s.v).map (scanE s.x)).take j by simp]
        rw [lastE_scans (by
          intro e he
          obtain ⟨i, _, rfl⟩ := List.mem_map.1 (List.mem_of_mem_take he)
          show (1 : Int) ≠ 0
          decide), lastE_snoc, if_pos ⟨rfl, rfl⟩]
        have h3 : g.arcs[a]? = some (arcAt g.arcs a) := by simp [arcAt, h1]
        show (s.v : Int) = match g.arcs[((a : Int)).toNat]? with
          | some b => if sI s.x = 1 then (b.t : Int) else (b.f : Int)
          | none => 0
        rw [Int.toNat_natCast, h3]
        dsimp only
        rw [← h2]
        cases s.x <;> rfl

theorem evs_heads' (H : OutsOk g outs) : ∀ {st : List Stp} {l : List Ev}, (∀ s ∈ st, s.v < g.n) → HeadsE g l → HeadsE g (l ++ evs outs st)
  | [], l, _, h => by rw [evs_nil, List.append_nil]; exact h
  | s :: st, l, hv, h => by
    rw [evs_cons, ← List.append_assoc]
    refine evs_heads' H (fun s hs => hv s (List.mem_cons_of_mem _ hs)) ?_
    have := heads_blk H (hv s List.mem_cons_self) h (k := (blkS outs s).length)
    rwa [List.take_length] at this

theorem evs_heads (H : OutsOk g outs) (hv : ∀ s ∈ st, s.v < g.n) : HeadsE g (evs outs st) := by
  have := evs_heads' (l := []) H hv fun i e h => by simp at h
  rwa [List.nil_append] at this

theorem HeadsE.take (h : HeadsE g l) (k : Nat) : HeadsE g (l.take k) := by
  intro i e he
  have hi : i < k := by
    have := (List.getElem?_eq_some_iff.1 he).1
    rw [List.length_take] at this; omega
  rw [List.getElem?_take_of_lt hi] at he
  rw [List.take_take, Nat.min_eq_left (by omega)]
  exact h i e he
theorem OnceE.take {n m : Nat} (h : OnceE n m l) (k : Nat) : OnceE n m (l.take k) := by
  intro i e he
  have hi : i < k := by
    have := (List.getElem?_eq_some_iff.1 he).1
    rw [List.length_take] at this; omega
  rw [List.getElem?_take_of_lt hi] at he
  rw [List.take_take, Nat.min_eq_left (by omega)]
  exact h i e he

theorem ofE_append {k s : Int} {a b : List Ev} : ofE k s (a ++ b) = ofE k s a ++ ofE k s b := by
  unfold ofE; rw [List.filter_append, List.map_append]

theorem isE_pop {s : Stp} {k : Int} {x : Bool} : isE k (sI x) (popE s) = (decide (k = 0) && decide (s.x = x)) := by
  show decide ((0 : Int) = k ∧ sI s.x = sI x) = _
  simp only [sI_inj, Bool.decide_and, eq_comm (a := (0 : Int))]
theorem isE_scan {x y : Bool} {i : Nat} {k : Int} : isE k (sI x) (scanE y i) = (decide (k = 1) && decide (y = x)) := by
  show decide ((1 : Int) = k ∧ sI y = sI x) = _
  simp only [sI_inj, Bool.decide_and, eq_comm (a := (1 : Int))]

/-- The steps of a side. -/
def onS (x : Bool) (st : List Stp) : List Stp := st.filter fun s => decide (s.x = x)

theorem onS_cons {x : Bool} {s : Stp} {st : List Stp} : onS x (s :: st) = if decide (s.x = x) = true then s :: onS x st else onS x st := by
  unfold onS; rw [List.filter_cons]
theorem onS_append {x : Bool} {a b : List Stp} : onS x (a ++ b) = onS x a ++ onS x b := List.filter_append ..
theorem mem_onS {x : Bool} {s : Stp} {st : List Stp} : s ∈ onS x st ↔ s ∈ st ∧ s.x = x := by simp [onS]

theorem filter_pops {x : Bool} : ∀ {st : List Stp}, (evs outs st).filter (isE 0 (sI x)) = (onS x st).map popE
  | [] => rfl
  | s :: st => by
    rw [evs_cons, List.filter_append, filter_pops, blkS, List.filter_cons]
    have h2 : ((outs s.x s.v).map (scanE s.x)).filter (isE 0 (sI x)) = [] := by
      rw [List.filter_eq_nil_iff]
      intro e he
      obtain ⟨i, _, rfl⟩ := List.mem_map.1 he
      rw [isE_scan]; simp
    rw [h2, isE_pop, onS_cons]
    cases h : decide (s.x = x)
    · simp
    · simp

theorem evs_pops {x : Bool} : ofE 0 (sI x) (evs outs st) = (onS x st).map fun s => (s.v : Int) := by
  unfold ofE
  rw [filter_pops, List.map_map]; rfl

theorem evs_scans {x : Bool} : ∀ {st : List Stp}, ofE 1 (sI x) (evs outs st) = nI ((onS x st).flatMap fun s => outs s.x s.v)
  | [] => rfl
  | s :: st => by
    rw [evs_cons, ofE_append, evs_scans, onS_cons]
    have hp : isE 1 (sI x) (popE s) = false := by rw [isE_pop]; simp
    cases h : decide (s.x = x) with
    | false =>
      have h2 : ofE 1 (sI x) (blkS outs s) = [] := by
        unfold ofE
        rw [List.map_eq_nil_iff, List.filter_eq_nil_iff]
        intro e he
        simp only [blkS, List.mem_cons, List.mem_map] at he
        rcases he with rfl | ⟨i, _, rfl⟩
        · rw [hp]; decide
        · rw [isE_scan, h]; simp
      rw [h2, List.nil_append]; rfl
    | true =>
      have h2 : ofE 1 (sI x) (blkS outs s) = nI (outs s.x s.v) := by
        unfold ofE blkS
        rw [List.filter_cons, hp, if_neg (by decide), List.filter_eq_self.2, List.map_map]
        · rfl
        · intro e he
          obtain ⟨i, _, rfl⟩ := List.mem_map.1 he
          rw [isE_scan, h]; rfl
      rw [h2, if_pos rfl, List.flatMap_cons]
      simp [nI]

theorem evs_label {x : Bool} {v : Nat} : labE (evs outs st) (sI x) v = ((onS x st).find? fun s => decide (s.v = v)).map Stp.d := by
  unfold labE
  rw [filter_pops]
  generalize onS x st = q
  induction q with
  | nil => rfl
  | cons s q ih =>
    rw [List.map_cons, List.find?_cons, List.find?_cons]
    have : ((popE s).id == (v : Int)) = decide (s.v = v) := by
      show ((s.v : Int) == (v : Int)) = _
      rw [Bool.eq_iff_iff, beq_iff_eq, decide_eq_true_eq]
      omega
    rw [this]
    cases decide (s.v = v)
    · exact ih
    · rfl

end
end Go.Mh
namespace Go.Mh
open Go

theorem nodup_sides {st : List Stp} (h : ∀ x, ((onS x st).map Stp.v).Nodup) : (st.map fun s => (s.x, s.v)).Nodup := by
  induction st with
  | nil => simp
  | cons s st ih =>
    rw [List.map_cons, List.nodup_cons]
    refine ⟨fun hm => ?_, ih fun x => ?_⟩
    · obtain ⟨s', hs', e⟩ := List.mem_map.1 hm
      simp only [Prod.mk.injEq] at e
      have := h s.x
      rw [onS_cons, if_pos (by simp), List.map_cons, List.nodup_cons] at this
      exact this.1 (List.mem_map.2 ⟨s', mem_onS.2 ⟨hs', e.1⟩, e.2⟩)
    · have := h x
      rw [onS_cons] at this
      split at this
      · rw [List.map_cons, List.nodup_cons] at this; exact this.2
      · exact this

theorem blkS_len {outs : Bool → Nat → List Nat} {s : Stp} : (blkS outs s).length = (outs s.x s.v).length + 1 := by simp [blkS]
theorem evs_len {outs : Bool → Nat → List Nat} {m : Nat} (h : ∀ x v, (outs x v).length ≤ m) : ∀ {st : List Stp}, (evs outs st).length ≤ (m + 1) * st.length
  | [] => by simp [evs_nil]
  | s :: st => by
    rw [evs_cons, List.length_append, blkS_len, List.length_cons, Nat.mul_add]
    have := evs_len h (st := st)
    have := h s.x s.v
    omega
theorem outG_len {g : G} {x : Bool} {v : Nat} : (outG g x v).length ≤ g.arcs.length := by
  cases x
  · exact Nat.le_trans (Nat.le_of_eq (outsP_length _ _ _)) List.countP_le_length
  · exact Nat.le_trans (Nat.le_of_eq (outsP_length _ _ _)) List.countP_le_length

/-- Two rows of steps, mixed. -/
def mixS (a b : List Stp) : Nat → List Stp
  | 0 => []
  | k + 1 => mixS a b k ++ (a[k]?.toList ++ b[k]?.toList)
theorem mixS_len {a b : List Stp} : ∀ {k : Nat}, (mixS a b k).length ≤ 2 * k
  | 0 => by simp [mixS]
  | k + 1 => by
    have := mixS_len (a := a) (b := b) (k := k)
    have h : ∀ o : Option Stp, o.toList.length ≤ 1 := fun o => by cases o <;> simp
    have h1 := h a[k]?
    have h2 := h b[k]?
    simp only [mixS, List.length_append]
    omega

theorem take_succ_opt {α : Type} {a : List α} {k : Nat} : a.take (k + 1) = a.take k ++ a[k]?.toList := List.take_add_one

theorem onS_all {x : Bool} {a : List Stp} (h : ∀ s ∈ a, s.x = x) : onS x a = a := List.filter_eq_self.2 fun s hs => by simpa using h s hs
theorem onS_none {x : Bool} {a : List Stp} (h : ∀ s ∈ a, s.x ≠ x) : onS x a = [] := List.filter_eq_nil_iff.2 fun s hs => by simpa using h s hs

theorem onS_mix {a b : List Stp} (ha : ∀ s ∈ a, s.x = false) (hb : ∀ s ∈ b, s.x = true) : ∀ k, onS false (mixS a b k) = a.take k ∧ onS true (mixS a b k) = b.take k
  | 0 => by simp [mixS, onS]
  | k + 1 => by
    obtain ⟨h1, h2⟩ := onS_mix ha hb k
    have e1 : ∀ s ∈ a[k]?.toList, s.x = false := fun s hs => ha s (List.mem_of_getElem? (Option.mem_toList.1 hs))
    have e2 : ∀ s ∈ b[k]?.toList, s.x = true := fun s hs => hb s (List.mem_of_getElem? (Option.mem_toList.1 hs))
    simp only [mixS, onS_append, h1, h2, take_succ_opt]
    rw [onS_all e1, onS_none (x := false) (a := b[k]?.toList) fun s hs => by rw [e2 s hs]; decide, onS_none (x := true) (a := a[k]?.toList) fun s hs => by rw [e1 s hs]; decide, onS_all e2]
    simp

/-- The steps of a flood. -/
def stpF (x : Bool) (t : Tr) : List Stp := t.order.map fun v => ⟨x, v, dAt t.dist v⟩
theorem stpF_x {x : Bool} {t : Tr} : ∀ s ∈ stpF x t, s.x = x := fun s hs => by
  obtain ⟨v, _, rfl⟩ := List.mem_map.1 hs; rfl
theorem stpF_len {x : Bool} {t : Tr} : (stpF x t).length = t.order.length := List.length_map ..

def stF (g : G) (v : Nat) (k : Nat) : List Stp := mixS (stpF false (g.from v)) (stpF true (g.to v)) k
def evF (g : G) (v : Nat) : List Ev := evs (outG g) (stF g v (max (g.from v).order.length (g.to v).order.length))

section
variable {g : G} {v : Nat}

def treeS (g : G) (x : Bool) (v : Nat) : Tr := if x then g.to v else g.from v

theorem onS_stF (x : Bool) : onS x (stF g v (max (g.from v).order.length (g.to v).order.length)) = stpF x (treeS g x v) := by
  have h := onS_mix (a := stpF false (g.from v)) (b := stpF true (g.to v)) stpF_x stpF_x (max (g.from v).order.length (g.to v).order.length)
  cases x with
  | false => rw [stF, h.1, List.take_of_length_le (by rw [stpF_len]; omega)]; rfl
  | true => rw [stF, h.2, List.take_of_length_le (by rw [stpF_len]; omega)]; rfl

theorem mem_mixS {a b : List Stp} {s : Stp} : ∀ {k : Nat}, s ∈ mixS a b k → s ∈ a ∨ s ∈ b
  | 0, h => by simp [mixS] at h
  | k + 1, h => by
    simp only [mixS, List.mem_append] at h
    rcases h with h | h | h
    · exact mem_mixS h
    · exact .inl (List.mem_of_getElem? (Option.mem_toList.1 h))
    · exact .inr (List.mem_of_getElem? (Option.mem_toList.1 h))

theorem treeS_of (hR : g.Right) (hv : v < g.n) (x : Bool) : TreeOf g.arcs (tlS x) (hdS x) g.n v (treeS g x v) := by
  cases x
  · exact from_tree hR hv
  · exact to_tree hR hv

theorem stF_lt (hR : g.Right) (hv : v < g.n) {k : Nat} : ∀ s ∈ stF g v k, s.v < g.n := fun s hs => by
  rcases mem_mixS hs with h | h
  · obtain ⟨u, hu, rfl⟩ := List.mem_map.1 h
    exact (treeS_of hR hv false).range u hu
  · obtain ⟨u, hu, rfl⟩ := List.mem_map.1 h
    exact (treeS_of hR hv true).range u hu

theorem evF_once (hR : g.Right) (hv : v < g.n) : OnceE g.n g.arcs.length (evF g v) := by
  refine evs_once outG_ok (stF_lt hR hv) (nodup_sides fun x => ?_)
  rw [onS_stF, stpF, List.map_map]
  have : (treeS g x v).order.map ((fun s => s.v) ∘ fun v_1 => (⟨x, v_1, dAt (treeS g x v).dist v_1⟩ : Stp)) = (treeS g x v).order := by
    simp [Function.comp_def]
  rw [this]
  exact (treeS_of hR hv x).nodup

theorem evF_heads (hR : g.Right) (hv : v < g.n) : HeadsE g (evF g v) := evs_heads outG_ok (stF_lt hR hv)

theorem evF_pops {x : Bool} : ofE 0 (sI x) (evF g v) = nI (treeS g x v).order := by
  rw [evF, evs_pops, onS_stF, stpF, List.map_map]; rfl

theorem evF_label (hR : g.Right) (hv : v < g.n) {x : Bool} {u : Nat} (hu : u < g.n) : labE (evF g v) (sI x) u = if dAt (treeS g x v).dist u < far then some (dAt (treeS g x v).dist u) else none := by
  have T := treeS_of hR hv x
  rw [evF, evs_label, onS_stF]
  have key : ∀ (l : List Nat), (((l.map fun w => (⟨x, w, dAt (treeS g x v).dist w⟩ : Stp)).find? fun s => decide (s.v = u)).map Stp.d) = if u ∈ l then some (dAt (treeS g x v).dist u) else none := by
    intro l
    induction l with
    | nil => rfl
    | cons w l ih =>
      rw [List.map_cons, List.find?_cons]
      by_cases h : w = u
      · subst h; simp
      · rw [show (decide ((⟨x, w, dAt (treeS g x v).dist w⟩ : Stp).v = u)) = false by simpa using h]
        refine ih.trans ?_
        have hm : u ∈ l ↔ u ∈ w :: l := by
          rw [List.mem_cons]
          exact ⟨.inr, fun hh => hh.resolve_left fun e => h e.symm⟩
        by_cases hl : u ∈ l
        · rw [if_pos hl, if_pos (hm.1 hl)]
        · rw [if_neg hl, if_neg fun hh => hl (hm.2 hh)]
  rw [stpF, key]
  by_cases h : u ∈ (treeS g x v).order
  · rw [if_pos h, if_pos ((T.reached u hu).1 h)]
  · rw [if_neg h, if_neg fun hl => h ((T.reached u hu).2 hl)]

theorem evF_kind : ∀ e ∈ evF g v, e.kind = 0 ∨ e.kind = 1 := fun e he => by
  obtain ⟨s, _, rfl | ⟨i, _, rfl⟩⟩ := mem_evs.1 he
  · exact .inl rfl
  · exact .inr rfl

theorem evF_len (hR : g.Right) (hv : v < g.n) : (evF g v).length ≤ (g.arcs.length + 1) * (2 * g.n) := by
  refine Nat.le_trans (evs_len (m := g.arcs.length) fun _ _ => outG_len) (Nat.mul_le_mul_left _ (Nat.le_trans mixS_len ?_))
  have h1 := nodup_le (treeS_of hR hv false).nodup (treeS_of hR hv false).range
  have h2 := nodup_le (treeS_of hR hv true).nodup (treeS_of hR hv true).range
  have h1 : (g.from v).order.length ≤ g.n := h1
  have h2 : (g.to v).order.length ≤ g.n := h2
  omega

end
end Go.Mh

/-! A search from both ends, as data. -/
namespace Go.Mh
open Go

/-- What is asked: a graph, its ends, the arcs that are allowed, potentials. -/
structure Qs where
  g : G
  s : Nat
  t : Nat
  allow : List Bool
  pi : List Int

namespace Qs
variable (Q : Qs)
def opn (v : Nat) : Bool := Q.pi.isEmpty || (decide (-far < Q.pi.getD v 0) && decide (Q.pi.getD v 0 < far))
def alw (i : Nat) : Bool := Q.allow.isEmpty || Q.allow.getD i false
def ok (i : Nat) : Bool := Q.alw i && (Q.opn (arcAt Q.g.arcs i).f && Q.opn (arcAt Q.g.arcs i).t)
def p (v : Nat) : Int := Q.pi.getD v 0
def pot (x : Bool) (v : Nat) : Int := if x then - Q.p v else Q.p v
def src (x : Bool) : Nat := if x then Q.t else Q.s
def Feas : Prop := ∀ i, i < Q.g.arcs.length → Q.ok i = true → Q.p (arcAt Q.g.arcs i).f ≤ Q.p (arcAt Q.g.arcs i).t + 2 * (arcAt Q.g.arcs i).w
def outs (x : Bool) (v : Nat) : List Nat := (outG Q.g x v).filter Q.alw
structure Ok : Prop where
  r : Q.g.Right
  s : Q.s < Q.g.n
  t : Q.t < Q.g.n
  allow : Q.allow = [] ∨ Q.allow.length = Q.g.arcs.length
  pi : Q.pi = [] ∨ Q.pi.length = Q.g.n
end Qs

theorem Qs.ok_end {Q : Qs} {i : Nat} {x : Bool} : Q.ok i = true ↔ Q.alw i = true ∧ Q.opn (tlS x (arcAt Q.g.arcs i)) = true ∧ Q.opn (hdS x (arcAt Q.g.arcs i)) = true := by
  unfold Qs.ok
  cases x
  · simp [tlS, hdS]
  · simp only [tlS, hdS, if_true, Bool.and_eq_true]
    exact ⟨fun h => ⟨h.1, h.2.2, h.2.1⟩, fun h => ⟨h.1, h.2.2, h.2.1⟩⟩

theorem Qs.feas_end {Q : Qs} (h : Q.Feas) {i : Nat} (hi : i < Q.g.arcs.length) (ho : Q.ok i = true) (x : Bool) : Q.pot x (tlS x (arcAt Q.g.arcs i)) ≤ Q.pot x (hdS x (arcAt Q.g.arcs i)) + 2 * (arcAt Q.g.arcs i).w := by
  have := h i hi ho
  cases x
  · exact this
  · show - Q.p (arcAt Q.g.arcs i).t ≤ - Q.p (arcAt Q.g.arcs i).f + _
    omega

theorem Qs.p_opn {Q : Qs} {v : Nat} (h : Q.opn v = true) : -far < Q.p v ∧ Q.p v < far := by
  unfold Qs.opn at h
  unfold Qs.p
  cases hp : Q.pi with
  | nil => simp [far]
  | cons a l => rw [hp] at h; simpa using h

/-- Both sides. -/
structure BW where
  sd : Bool → BS
  ev : List Ev
  dist : Int
  meet : Int

def upd1 (f : Bool → BS) (x : Bool) (b : BS) : Bool → BS := fun y => if y = x then b else f y
theorem upd1_same {f : Bool → BS} {x : Bool} {b : BS} : upd1 f x b x = b := if_pos rfl
theorem upd1_not {f : Bool → BS} {x : Bool} {b : BS} : upd1 f x b (!x) = f (!x) := if_neg (by cases x <;> decide)
theorem upd1_ne {f : Bool → BS} {x y : Bool} {b : BS} (h : y ≠ x) : upd1 f x b y = f y := if_neg h

def BW.near (S : BW) (x : Bool) (v : Nat) (d : Int) : Option Int := match (S.sd !x).lab v with
  | some m => if d + m < S.dist then some (d + m) else none
  | none => none
def Qs.put (Q : Qs) (S : BW) (x : Bool) (v : Nat) (a d : Int) : BW :=
  ⟨upd1 S.sd x ((S.sd x).put (Q.pot x) v a d), S.ev, (S.near x v d).getD S.dist, if (S.near x v d).isSome then (v : Int) else S.meet⟩
def Qs.reach (Q : Qs) (S : BW) (x : Bool) (v : Nat) (a d : Int) : BW := if (S.sd x).takes Q.opn v d then Q.put S x v a d else S

theorem near_le {S : BW} {x : Bool} {v : Nat} {d : Int} : (S.near x v d).getD S.dist ≤ S.dist := by
  unfold BW.near
  split
  · split
    · rw [Option.getD_some]; omega
    · exact Int.le_refl _
  · exact Int.le_refl _

abbrev Qs.SIx (Q : Qs) (x : Bool) (b : BS) (B : Int) : Prop := SI Q.g.arcs (tlS x) (hdS x) Q.ok Q.g.n (Q.src x) Q.opn (Q.pot x) Q.Feas b B

structure BI (Q : Qs) (S : BW) (B : Bool → Int) : Prop where
  si : ∀ x, Q.SIx x (S.sd x) (B x)
  c1 : ∀ x (u : Nat) d d', (S.sd x).lab u = some d → (S.sd !x).lab u = some d' → S.dist ≤ d + d'
  c2 : S.dist = far ∨ ∃ (u : Nat) (d0 d1 : Int), S.meet = u ∧ (S.sd false).lab u = some d0 ∧ (S.sd true).lab u = some d1 ∧ S.dist = d0 + d1
  c3 : S.dist ≤ far

section
variable {Q : Qs} {S : BW} {B : Bool → Int}

theorem BI.put (H : BI Q S B) {x : Bool} {v : Nat} {a d : Int} (hsi : Q.SIx x ((S.sd x).put (Q.pot x) v a d) (B x)) (hlow : ∀ was, (S.sd x).lab v = some was → d < was) : BI Q (Q.put S x v a d) B := by
  have lab' : ∀ z, ((Q.put S x v a d).sd x).lab z = if z = (v : Int) then some d else (S.sd x).lab z := fun z => by
    show (upd1 S.sd x _ x).lab z = _
    rw [upd1_same]; rfl
  have labn : ∀ z, ((Q.put S x v a d).sd (!x)).lab z = (S.sd (!x)).lab z := fun z => by
    show (upd1 S.sd x _ (!x)).lab z = _
    rw [upd1_not]
  have hnear : ∀ m, (S.sd (!x)).lab v = some m → (Q.put S x v a d).dist ≤ d + m := fun m hm => by
    show (S.near x v d).getD S.dist ≤ _
    unfold BW.near
    rw [hm]
    dsimp only
    split
    · rw [Option.getD_some]; exact Int.le_refl _
    · rw [Option.getD_none]; omega
  have key : ∀ (u : Nat) e e', ((Q.put S x v a d).sd x).lab u = some e → ((Q.put S x v a d).sd (!x)).lab u = some e' → (Q.put S x v a d).dist ≤ e + e' := by
    intro u e e' h1 h2
    rw [lab'] at h1
    rw [labn] at h2
    split at h1
    · rename_i he
      obtain rfl := Int.ofNat.inj he
      obtain rfl := Option.some.inj h1
      exact hnear _ h2
    · exact Int.le_trans near_le (H.c1 x u e e' h1 h2)
  refine ⟨fun y => ?_, fun y u e e' h1 h2 => ?_, ?_, Int.le_trans near_le H.c3⟩
  · by_cases h : y = x
    · subst h
      show Q.SIx y (upd1 S.sd y _ y) (B y)
      rw [upd1_same]; exact hsi
    · show Q.SIx y (upd1 S.sd x _ y) (B y)
      rw [upd1_ne h]; exact H.si y
  · by_cases h : y = x
    · subst h; exact key u e e' h1 h2
    · have hy : y = !x := by cases x <;> cases y <;> simp_all
      subst hy
      rw [Bool.not_not] at h2
      have := key u e' e h2 h1
      omega
  · cases hn : S.near x v d with
    | some z =>
      right
      have hn0 := hn
      unfold BW.near at hn
      cases hm : (S.sd (!x)).lab v with
      | none => rw [hm] at hn; cases hn
      | some m =>
        rw [hm] at hn
        dsimp only at hn
        split at hn
        · rename_i hlt
          obtain rfl := Option.some.inj hn
          have hd : (Q.put S x v a d).dist = d + m := by
            show (S.near x v d).getD S.dist = _
            rw [hn0]; rfl
          have hme : (Q.put S x v a d).meet = (v : Int) := by
            show (if (S.near x v d).isSome = true then (v : Int) else S.meet) = _
            rw [hn0]; rfl
          have l1 : ((Q.put S x v a d).sd x).lab v = some d := by rw [lab', if_pos rfl]
          have l2 : ((Q.put S x v a d).sd (!x)).lab v = some m := by rw [labn]; exact hm
          cases x
          · exact ⟨v, d, m, hme, l1, l2, hd⟩
          · exact ⟨v, m, d, hme, l2, l1, by omega⟩
        · cases hn
    | none =>
      have hd : (Q.put S x v a d).dist = S.dist := by
        show (S.near x v d).getD S.dist = _
        rw [hn]; rfl
      have hme : (Q.put S x v a d).meet = S.meet := by
        show (if (S.near x v d).isSome = true then (v : Int) else S.meet) = _
        rw [hn]; rfl
      rw [hd, hme]
      refine H.c2.imp id fun ⟨u, d0, d1, h1, h2, h3, h4⟩ => ⟨u, d0, d1, h1, ?_⟩
      have hne : u ≠ v := fun e => by
        subst e
        unfold BW.near at hn
        cases x
        · rw [show (!false) = true from rfl, h3] at hn
          dsimp only at hn
          have := hlow d0 h2
          rw [if_pos (by omega)] at hn; cases hn
        · rw [show (!true) = false from rfl, h2] at hn
          dsimp only at hn
          have := hlow d1 h3
          rw [if_pos (by omega)] at hn; cases hn
      have hne' : ¬ (u : Int) = (v : Int) := fun e => hne (Int.ofNat.inj e)
      cases x
      · refine ⟨?_, ?_, h4⟩
        · rw [lab', if_neg hne']; exact h2
        · rw [show true = !false from rfl, labn]; exact h3
      · refine ⟨?_, ?_, h4⟩
        · rw [show false = !true from rfl, labn]; exact h2
        · rw [lab', if_neg hne']; exact h3

theorem takes_iff {opn : Nat → Bool} {b : BS} {v : Nat} {d : Int} : b.takes opn v d = true ↔ opn v = true ∧ v ∉ b.ord ∧ ∀ was, b.lab v = some was → d < was := by
  unfold BS.takes
  cases b.lab v with
  | none => simp
  | some w => simp

def BW.zero : BW := ⟨fun _ => BS.zero, [], far, 0⟩
def Qs.start (Q : Qs) : BW := Q.reach (Q.reach BW.zero false Q.s (-1) 0) true Q.t (-1) 0

theorem BI.zero : BI Q BW.zero fun _ => 0 :=
  ⟨fun x => SI.start, fun x u d d' h => by simp [BW.zero, BS.zero] at h, .inl rfl, Int.le_refl _⟩

theorem BI.first (H : BI Q S fun _ => 0) (hQ : Q.Ok) {x : Bool} (he : S.sd x = BS.zero) : BI Q (Q.reach S x (Q.src x) (-1) 0) (fun _ => 0) ∧
    (Q.opn (Q.src x) = true → ((Q.reach S x (Q.src x) (-1) 0).sd x).lab (Q.src x) = some 0) ∧ (Q.reach S x (Q.src x) (-1) 0).sd (!x) = S.sd (!x) ∧ ((Q.reach S x (Q.src x) (-1) 0).sd x).ord = [] ∧ (Q.reach S x (Q.src x) (-1) 0).ev = S.ev := by
  unfold Qs.reach
  by_cases ht : (S.sd x).takes Q.opn (Q.src x) 0 = true
  · rw [if_pos ht]
    have hs : Q.src x < Q.g.n := match x with | false => hQ.s | true => hQ.t
    have ho := (takes_iff.1 ht).1
    refine ⟨H.put ?_ (takes_iff.1 ht).2.2, fun _ => ?_, ?_, ?_, rfl⟩
    · rw [he]
      refine SI.start.put hs ho (by simp [BS.zero]) (Int.le_refl _) (Int.le_refl _) ⟨[], .nil ?_, by simp⟩ (fun _ c hc => by simp [BS.zero] at hc) (fun _ => rfl) fun _ => rfl
      show (if _ then _ else _) = _
      rw [if_pos rfl]
    · show (upd1 S.sd x _ x).lab _ = _
      rw [upd1_same]
      show (if _ then _ else _) = _
      rw [if_pos rfl]
    · show upd1 S.sd x _ (!x) = _
      rw [upd1_not]
    · show (upd1 S.sd x _ x).ord = _
      rw [upd1_same, he]; rfl
  · rw [if_neg ht]
    refine ⟨H, fun ho => absurd (takes_iff.2 ⟨ho, ?_, ?_⟩) ht, rfl, by rw [he]; rfl, rfl⟩
    · rw [he]; simp [BS.zero]
    · rw [he]; intro was h; simp [BS.zero] at h

/-! ### Scans -/

/-- From one state to a later one, of the side x; nothing is popped between. -/
structure BW.Le (x : Bool) (S S' : BW) : Prop where
  oth : S'.sd (!x) = S.sd (!x)
  ord : (S'.sd x).ord = (S.sd x).ord
  low : ∀ z d, (S.sd x).lab z = some d → ∃ d', d' ≤ d ∧ (S'.sd x).lab z = some d'
  same : ∀ c ∈ (S.sd x).ord, (S'.sd x).lab (c : Int) = (S.sd x).lab c

theorem BW.Le.refl {x : Bool} : BW.Le x S S := ⟨rfl, rfl, fun z d h => ⟨d, Int.le_refl _, h⟩, fun _ _ => rfl⟩
theorem BW.Le.trans {x : Bool} {S' S'' : BW} (a : BW.Le x S S') (b : BW.Le x S' S'') : BW.Le x S S'' :=
  ⟨b.oth.trans a.oth, b.ord.trans a.ord, fun z d h => by
    obtain ⟨d', h1, h2⟩ := a.low z d h
    obtain ⟨d'', h3, h4⟩ := b.low z d' h2
    exact ⟨d'', by omega, h4⟩, fun c hc => (b.same c (by rw [a.ord]; exact hc)).trans (a.same c hc)⟩

def Rx (Q : Qs) (S : BW) (x : Bool) (i : Nat) : Prop :=
  ∃ d', (S.sd x).lab (hdS x (arcAt Q.g.arcs i)) = some d' ∧ (Q.Feas → ∀ dv, (S.sd x).lab (tlS x (arcAt Q.g.arcs i)) = some dv → d' ≤ dv + (arcAt Q.g.arcs i).w)

theorem Rx.le {x : Bool} {i : Nat} {S' : BW} (h : Rx Q S x i) (a : BW.Le x S S') (ho : tlS x (arcAt Q.g.arcs i) ∈ (S.sd x).ord) : Rx Q S' x i := by
  obtain ⟨d', h1, h2⟩ := h
  obtain ⟨d'', h3, h4⟩ := a.low _ _ h1
  refine ⟨d'', h4, fun hF dv hv => ?_⟩
  rw [a.same _ ho] at hv
  have := h2 hF dv hv
  omega

def Qs.scan1 (Q : Qs) (x : Bool) (v : Nat) (S : BW) (i : Nat) : BW :=
  if Q.alw i then Q.reach { S with ev := S.ev ++ [scanE x i] } x (hdS x (arcAt Q.g.arcs i)) i ((((S.sd x).lab v).getD 0) + (arcAt Q.g.arcs i).w) else S

theorem BI.ev (H : BI Q S B) (ev : List Ev) : BI Q { S with ev := ev } B := ⟨H.si, H.c1, H.c2, H.c3⟩

theorem reach_ev {x : Bool} {v : Nat} {a d : Int} : (Q.reach S x v a d).ev = S.ev := by
  unfold Qs.reach; split <;> rfl

/-- An arc scanned. -/
theorem BI.scan1 (H : BI Q S B) (hQ : Q.Ok) {x : Bool} {v i : Nat} {dv : Int} (hv : v ∈ (S.sd x).ord) (hdv : (S.sd x).lab v = some dv) (hmax : Q.Feas → ∀ c ∈ (S.sd x).ord, ∀ dc, (S.sd x).lab (c : Int) = some dc → 2 * dc + Q.pot x c ≤ 2 * dv + Q.pot x v)
    (hi : i < Q.g.arcs.length) (ht : tlS x (arcAt Q.g.arcs i) = v) (hB : dv + (arcAt Q.g.arcs i).w ≤ B x) (hz : Q.opn (Q.src x) = true → (S.sd x).lab (Q.src x) = some 0) :
    BI Q (Q.scan1 x v S i) B ∧ BW.Le x S (Q.scan1 x v S i) ∧ (Q.ok i = true → Rx Q (Q.scan1 x v S i) x i) ∧ (Q.scan1 x v S i).ev = S.ev ++ (if Q.alw i = true then [scanE x i] else []) := by
  unfold Qs.scan1
  by_cases ha : Q.alw i = true
  · rw [if_pos ha, if_pos ha, reach_ev, hdv, Option.getD_some]
    have hends : hdS x (arcAt Q.g.arcs i) < Q.g.n := by
      have := hQ.r.ends _ (arcAt_mem hi)
      cases x
      · exact this.2.1
      · exact this.1
    have h0 : 0 ≤ dv := by
      obtain ⟨_, _, _, _, h, _⟩ := (H.si x).lab _ _ hdv
      exact h
    have hov : Q.opn v = true := ((H.si x).ordn v hv).2
    unfold Qs.reach
    by_cases hk : BS.takes Q.opn (S.sd x) (hdS x (arcAt Q.g.arcs i)) (dv + (arcAt Q.g.arcs i).w) = true
    · rw [if_pos hk]
      obtain ⟨ho, hno, hlow⟩ := takes_iff.1 hk
      have hok : Q.ok i = true := (Qs.ok_end (x := x)).2 ⟨ha, by rw [ht]; exact hov, ho⟩
      have lab' : ∀ z, ((Q.put { S with ev := S.ev ++ [scanE x i] } x (hdS x (arcAt Q.g.arcs i)) i (dv + (arcAt Q.g.arcs i).w)).sd x).lab z = if z = ((hdS x (arcAt Q.g.arcs i) : Nat) : Int) then some (dv + (arcAt Q.g.arcs i).w : Int) else (S.sd x).lab z := fun z => by
        show (upd1 S.sd x _ x).lab z = _
        rw [upd1_same]; rfl
      have hsame : ∀ c ∈ (S.sd x).ord, ((Q.put { S with ev := S.ev ++ [scanE x i] } x (hdS x (arcAt Q.g.arcs i)) i (dv + (arcAt Q.g.arcs i).w)).sd x).lab (c : Int) = (S.sd x).lab c := fun c hc => by
        rw [lab', if_neg fun e => hno (by rw [← Int.ofNat.inj e]; exact hc)]
      refine ⟨BI.put (H.ev _) ?_ hlow, ⟨?_, ?_, fun z d hzd => ?_, hsame⟩, fun _ => ⟨_, by rw [lab', if_pos rfl], fun hF dv' hdv' => ?_⟩, rfl⟩
      · refine (H.si x).put hends ho hno (by omega) hB ?_ ?_ ?_ ?_
        · obtain ⟨r, h1, h2⟩ := (H.si x).bk v dv hdv
          rw [if_pos hv] at h2
          refine ⟨i :: r, .cons ?_ hi hok (by rw [ht]; exact hv) ?_, ?_⟩
          · show (if _ then _ else _) = _
            rw [if_pos rfl]
          · have kp : ∀ w ∈ (S.sd x).ord, (BS.put (Q.pot x) (S.sd x) (hdS x (arcAt Q.g.arcs i)) (i : Int) (dv + (arcAt Q.g.arcs i).w)).arc (w : Int) = (S.sd x).arc w := fun w hw => by
              show (if (w : Int) = _ then _ else (S.sd x).arc w) = _
              rw [if_neg fun e => hno (by rw [← Int.ofNat.inj e]; exact hw)]
            rw [ht]
            exact h1.keep kp (fun _ h => h) (kp v hv)
          · have := List.idxOf_lt_length_of_mem hv
            rw [List.length_cons]; omega
        · intro hF c hc dc hdc
          have h1 := hmax hF c hc dc hdc
          have h2 := Qs.feas_end hF hi hok x
          rw [ht] at h2
          omega
        · intro e
          have hs := hz (by rw [← e]; exact ho)
          rw [← e] at hs
          have := hlow 0 hs
          omega
        · intro e
          rw [e] at hv; cases hv
      · show upd1 S.sd x _ (!x) = _
        rw [upd1_not]
      · show (upd1 S.sd x _ x).ord = _
        rw [upd1_same]; rfl
      · rw [lab']
        split
        · rename_i e
          rw [e] at hzd
          have := hlow d hzd
          exact ⟨_, by omega, rfl⟩
        · exact ⟨d, Int.le_refl _, hzd⟩
      · rw [ht, hsame v hv, hdv] at hdv'
        obtain rfl := Option.some.inj hdv'
        exact Int.le_refl _
    · rw [if_neg hk]
      refine ⟨H.ev _, ⟨rfl, rfl, fun z d h => ⟨d, Int.le_refl _, h⟩, fun _ _ => rfl⟩, fun hok => ?_, rfl⟩
      have ho := ((Qs.ok_end (x := x)).1 hok).2.2
      by_cases hm : hdS x (arcAt Q.g.arcs i) ∈ (S.sd x).ord
      · obtain ⟨d', hd'⟩ := (H.si x).ordl _ hm
        refine ⟨d', hd', fun hF dv' hdv' => ?_⟩
        have hdv' : (S.sd x).lab (tlS x (arcAt Q.g.arcs i)) = some dv' := hdv'
        rw [ht, hdv] at hdv'
        obtain rfl := Option.some.inj hdv'
        have h1 := hmax hF _ hm _ hd'
        have h2 := Qs.feas_end hF hi hok x
        rw [ht] at h2
        omega
      · cases hl : (S.sd x).lab (hdS x (arcAt Q.g.arcs i)) with
        | none => exact absurd (takes_iff.2 ⟨ho, hm, fun was h => by rw [hl] at h; cases h⟩) hk
        | some was =>
          refine ⟨was, hl, fun hF dv' hdv' => ?_⟩
          have hdv' : (S.sd x).lab (tlS x (arcAt Q.g.arcs i)) = some dv' := hdv'
          rw [ht, hdv] at hdv'
          obtain rfl := Option.some.inj hdv'
          rcases Int.lt_or_le (dv + (arcAt Q.g.arcs i).w) was with h | h
          · exact absurd (takes_iff.2 ⟨ho, hm, fun was' h' => by rw [hl] at h'; rw [← Option.some.inj h']; exact h⟩) hk
          · exact h
  · rw [if_neg ha, if_neg ha, List.append_nil]
    exact ⟨H, .refl, fun hok => absurd ((Qs.ok_end (x := x)).1 hok).1 ha, rfl⟩

def Qs.scan (Q : Qs) (x : Bool) (v : Nat) (S : BW) (ids : List Nat) : BW := ids.foldl (Q.scan1 x v) S

theorem BI.scan (hQ : Q.Ok) {x : Bool} {v : Nat} {dv : Int} (hB : dv + W ≤ B x) : ∀ {ids : List Nat} {S : BW}, BI Q S B → v ∈ (S.sd x).ord → (S.sd x).lab v = some dv →
    (Q.Feas → ∀ c ∈ (S.sd x).ord, ∀ dc, (S.sd x).lab (c : Int) = some dc → 2 * dc + Q.pot x c ≤ 2 * dv + Q.pot x v) → (∀ i ∈ ids, i < Q.g.arcs.length ∧ tlS x (arcAt Q.g.arcs i) = v) → (Q.opn (Q.src x) = true → (S.sd x).lab (Q.src x) = some 0) →
    BI Q (Q.scan x v S ids) B ∧ BW.Le x S (Q.scan x v S ids) ∧ (∀ i ∈ ids, Q.ok i = true → Rx Q (Q.scan x v S ids) x i) ∧ (Q.scan x v S ids).ev = S.ev ++ (ids.filter Q.alw).map (scanE x) ∧ (Q.opn (Q.src x) = true → ((Q.scan x v S ids).sd x).lab (Q.src x) = some 0)
  | [], S, H, _, _, _, _, hz => ⟨H, .refl, fun i h => absurd h List.not_mem_nil, (List.append_nil _).symm, hz⟩
  | i :: ids, S, H, hv, hdv, hmax, hids, hz => by
    obtain ⟨hi, ht⟩ := hids i List.mem_cons_self
    have hw : ((arcAt Q.g.arcs i).w : Int) ≤ W := by
      have := (hQ.r.ends _ (arcAt_mem hi)).2.2
      show ((arcAt Q.g.arcs i).w : Int) ≤ 2147483647
      omega
    obtain ⟨h1, h2, h3, h4⟩ := H.scan1 hQ hv hdv hmax hi ht (by omega) hz
    have hz' : Q.opn (Q.src x) = true → ((Q.scan1 x v S i).sd x).lab (Q.src x) = some 0 := fun ho => by
      obtain ⟨d', e1, e2⟩ := h2.low _ _ (hz ho)
      rw [e2, (h1.si x).zero d' e2]
    have hv' : v ∈ ((Q.scan1 x v S i).sd x).ord := by rw [h2.ord]; exact hv
    have hdv' : ((Q.scan1 x v S i).sd x).lab v = some dv := (h2.same v hv).trans hdv
    obtain ⟨g1, g2, g3, g4, g5⟩ := BI.scan hQ hB (ids := ids) h1 hv' hdv' (fun hF c hc dc hdc => by
      rw [h2.ord] at hc
      rw [h2.same c hc] at hdc
      exact hmax hF c hc dc hdc) (fun j hj => hids j (List.mem_cons_of_mem _ hj)) hz'
    refine ⟨g1, h2.trans g2, fun j hj hok => ?_, ?_, g5⟩
    · rcases List.mem_cons.1 hj with rfl | hj
      · exact (h3 hok).le g2 (by rw [ht]; exact hv')
      · exact g3 j hj hok
    · show (Q.scan x v (Q.scan1 x v S i) ids).ev = _
      rw [g4, h4, List.filter_cons]
      split
      · simp
      · simp

end
end Go.Mh

/-! What a search from both ends tells. -/
namespace Go.Mh
open Go

theorem Way.cat {l : List A} {tl hd : A → Nat} {s u v : Nat} {d e : Int} (h : Way l tl hd s u d) (h' : Way l tl hd u v e) : Way l tl hd s v (d + e) := by
  induction h' with
  | nil => rw [Int.add_zero]; exact h
  | step a _ hm ht ih => rw [← Int.add_assoc]; exact .step a ih hm ht
theorem Way.rev {l : List A} {tl hd : A → Nat} {s v : Nat} {d : Int} (h : Way l tl hd s v d) : Way l hd tl v s d := by
  induction h with
  | nil => exact .nil
  | step a _ hm ht ih =>
    rename_i v d _
    have h1 : Way l hd tl (hd a) (tl a) (0 + a.w) := .step a .nil hm rfl
    rw [ht] at h1
    have := h1.cat ih
    rw [show 0 + (a.w : Int) + d = d + a.w by omega] at this
    exact this

def Qs.H (Q : Qs) : List A := ((List.range Q.g.arcs.length).filter Q.ok).map (arcAt Q.g.arcs)

section
variable {Q : Qs} {S : BW}

theorem mem_H {a : A} : a ∈ Q.H ↔ ∃ i, i < Q.g.arcs.length ∧ Q.ok i = true ∧ arcAt Q.g.arcs i = a := by
  simp only [Qs.H, List.mem_map, List.mem_filter, List.mem_range]
  exact ⟨fun ⟨i, ⟨a, b⟩, c⟩ => ⟨i, a, b, c⟩, fun ⟨i, a, b, c⟩ => ⟨i, ⟨a, b⟩, c⟩⟩

theorem way_ends {x : Bool} {s v : Nat} {d : Int} (h : Way Q.H (tlS x) (hdS x) s v d) : v = s ∨ (Q.opn s = true ∧ Q.opn v = true) := by
  induction h with
  | nil => exact .inl rfl
  | step a _ hm ht ih =>
    obtain ⟨i, hi, ho, rfl⟩ := mem_H.1 hm
    obtain ⟨_, h1, h2⟩ := (Qs.ok_end (x := x)).1 ho
    right
    rcases ih with e | e
    · exact ⟨by rw [← e, ← ht]; exact h1, h2⟩
    · exact ⟨e.1, h2⟩

theorem way_feas (hF : Q.Feas) {x : Bool} {s v : Nat} {d : Int} (h : Way Q.H (tlS x) (hdS x) s v d) : Q.pot x s ≤ Q.pot x v + 2 * d := by
  induction h with
  | nil => omega
  | step a _ hm ht ih =>
    obtain ⟨i, hi, ho, rfl⟩ := mem_H.1 hm
    have := Qs.feas_end hF hi ho x
    rw [ht] at this
    omega

theorem way_back {x : Bool} {s v : Nat} {d : Int} (h : Way Q.H (tlS x) (hdS x) s v d) : Way Q.H (tlS (!x)) (hdS (!x)) v s d := by
  cases x
  · exact h.rev
  · exact h.rev

theorem Bk.way {x : Bool} {arc : Int → Option Int} {ord : List Nat} {u : Nat} {r : List Nat} {d : Int} (h : Bk Q.g.arcs (tlS x) (hdS x) Q.ok arc ord (Q.src x) u r d) : Way Q.H (tlS x) (hdS x) (Q.src x) u d := by
  induction h with
  | nil => exact .nil
  | cons _ hi ho _ _ ih => exact .step _ ih (mem_H.2 ⟨_, hi, ho, rfl⟩) rfl

theorem Bk.all {x : Bool} {arc : Int → Option Int} {ord : List Nat} {u : Nat} {r : List Nat} {d : Int} (h : Bk Q.g.arcs (tlS x) (hdS x) Q.ok arc ord (Q.src x) u r d) : tsum Q.g.arcs r = d ∧ ∀ i ∈ r, i < Q.g.arcs.length ∧ Q.ok i = true := by
  induction h with
  | nil => exact ⟨rfl, fun i h => absurd h List.not_mem_nil⟩
  | cons _ hi ho _ _ ih =>
    refine ⟨by rw [tsum_cons, ih.1]; omega, fun j hj => ?_⟩
    rcases List.mem_cons.1 hj with rfl | hj
    · exact ⟨hi, ho⟩
    · exact ih.2 j hj

theorem Bk.trail1 {arc : Int → Option Int} {ord : List Nat} {u : Nat} {r : List Nat} {d : Int} (h : Bk Q.g.arcs (tlS true) (hdS true) Q.ok arc ord (Q.src true) u r d) : Trail Q.g.arcs u r Q.t := by
  induction h with
  | nil => exact rfl
  | cons _ hi _ _ _ ih => exact ⟨hi, rfl, ih⟩
theorem Bk.trail0 {arc : Int → Option Int} {ord : List Nat} {u : Nat} {r : List Nat} {d : Int} (h : Bk Q.g.arcs (tlS false) (hdS false) Q.ok arc ord (Q.src false) u r d) : Trail Q.g.arcs Q.s r.reverse u := by
  induction h with
  | nil => exact rfl
  | cons _ hi _ _ _ ih =>
    rw [List.reverse_cons]
    exact ih.append ⟨hi, rfl, rfl⟩

/-! ### Steps -/

def BW.next (S : BW) : Option Bool := match least (S.sd false).hp, least (S.sd true).hp with
  | some p, some q => if 2 * S.dist ≤ p.2 + q.2 then none else if p.2 ≤ q.2 then some false else some true
  | _, _ => none

def Qs.pop (Q : Qs) (x : Bool) (p : HP) (S : BW) : BW := { S with sd := upd1 S.sd x ((S.sd x).pop p.1.toNat p.2), ev := S.ev ++ [popE ⟨x, p.1.toNat, ((S.sd x).lab p.1).getD 0⟩] }
def Qs.step (Q : Qs) (x : Bool) (S : BW) : BW := match least (S.sd x).hp with
  | some p => Q.scan x p.1.toNat (Q.pop x p S) (outG Q.g x p.1.toNat)
  | none => S
def Qs.run (Q : Qs) : Nat → BW → BW
  | 0, S => S
  | k + 1, S => match S.next with
    | none => S
    | some x => Q.run k (Q.step x S)

structure RunI (Q : Qs) (S : BW) (st : List Stp) : Prop where
  bi : BI Q S (fun x => (S.sd x).ord.length * W)
  z : ∀ x, Q.opn (Q.src x) = true → (S.sd x).lab (Q.src x) = some 0
  r : ∀ x i, i < Q.g.arcs.length → Q.ok i = true → tlS x (arcAt Q.g.arcs i) ∈ (S.sd x).ord → Rx Q S x i
  ev : S.ev = evs Q.outs st
  s1 : ∀ x, (onS x st).map Stp.v = (S.sd x).ord
  s2 : ∀ e ∈ st, (S.sd e.x).lab e.v = some e.d
  s3 : Q.Feas → ∀ x, (onS x st).Pairwise fun a b => 2 * a.d + Q.pot x a.v ≤ 2 * b.d + Q.pot x b.v
  s4 : Q.s ≠ Q.t → Q.Feas → ∀ e ∈ st, ∀ D, Way Q.H A.f A.t Q.s Q.t D → 2 * e.d + Q.pot e.x e.v ≤ D

theorem RunI.reach_or {st : List Stp} (R : RunI Q S st) (hF : Q.Feas) {x : Bool} (ho : Q.opn (Q.src x) = true) {u : Nat} {D : Int} (h : Way Q.H (tlS x) (hdS x) (Q.src x) u D) :
    (u ∈ (S.sd x).ord ∧ ∃ d, (S.sd x).lab u = some d ∧ d ≤ D) ∨
    ∃ (w : Nat) (dw D2 : Int), w ∉ (S.sd x).ord ∧ (S.sd x).lab w = some dw ∧ ((w : Int), 2 * dw + Q.pot x w) ∈ (S.sd x).hp ∧ Way Q.H (tlS x) (hdS x) w u D2 ∧ dw + D2 ≤ D := by
  have lb : ∀ (w : Nat) (dw D : Int), (S.sd x).lab w = some dw → dw ≤ D → (w ∈ (S.sd x).ord ∧ ∃ d, (S.sd x).lab w = some d ∧ d ≤ D) ∨
      ∃ (w' : Nat) (dw D2 : Int), w' ∉ (S.sd x).ord ∧ (S.sd x).lab w' = some dw ∧ ((w' : Int), 2 * dw + Q.pot x w') ∈ (S.sd x).hp ∧ Way Q.H (tlS x) (hdS x) w' w D2 ∧ dw + D2 ≤ D := fun w dw D hl hle => by
    obtain ⟨w', e, _, _, _, _, hh⟩ := (R.bi.si x).lab _ _ hl
    obtain rfl := Int.ofNat.inj e
    by_cases hw : w ∈ (S.sd x).ord
    · exact .inl ⟨hw, dw, hl, hle⟩
    · exact .inr ⟨w, dw, 0, hw, hl, hh.resolve_left hw, .nil, by omega⟩
  induction h with
  | nil => exact lb _ _ _ (R.z x ho) (Int.le_refl _)
  | step a _ hm ht ih =>
    rcases ih with ⟨h1, d, h2, h3⟩ | ⟨w, dw, D2, h1, h2, h3, h4, h5⟩
    · obtain ⟨i, hi, hok, rfl⟩ := mem_H.1 hm
      obtain ⟨d', e1, e2⟩ := R.r x i hi hok (by rw [ht]; exact h1)
      refine lb _ _ _ e1 ?_
      have := e2 hF d (by rw [ht]; exact h2)
      omega
    · exact .inr ⟨w, dw, D2 + a.w, h1, h2, h3, .step a h4 hm ht, by omega⟩

theorem RunI.meet {st : List Stp} (R : RunI Q S st) (hne : Q.s ≠ Q.t) (hF : Q.Feas) {D : Int} (h : Way Q.H A.f A.t Q.s Q.t D) :
    S.dist ≤ D ∨ ∃ p ∈ (S.sd false).hp, ∃ q ∈ (S.sd true).hp, p.2 + q.2 ≤ 2 * D := by
  have h : Way Q.H (tlS false) (hdS false) Q.s Q.t D := h
  obtain ⟨o1, o2⟩ := (way_ends h).resolve_left fun e => hne e.symm
  rcases R.reach_or hF (x := false) o1 h with ⟨_, d, h2, h3⟩ | ⟨w, dw, D2, h1, h2, h3, h4, h5⟩
  · left
    have := R.bi.c1 false Q.t d 0 h2 (R.z true o2)
    omega
  · rcases R.reach_or hF (x := true) o2 (way_back h4) with ⟨_, d, g2, g3⟩ | ⟨w', dw', D3, g1, g2, g3, g4, g5⟩
    · left
      have := R.bi.c1 false w dw d h2 g2
      omega
    · right
      refine ⟨_, h3, _, g3, ?_⟩
      have hf := way_feas hF g4
      have e1 : Q.pot true w' = - Q.p w' := rfl
      have e2 : Q.pot true w = - Q.p w := rfl
      have e3 : Q.pot false w = Q.p w := rfl
      rw [e1, e2] at hf
      rw [e1, e3]
      show 2 * dw + Q.p w + (2 * dw' + -Q.p w') ≤ 2 * D
      omega

theorem next_some {x : Bool} (h : S.next = some x) : ∃ p q, least (S.sd x).hp = some p ∧ least (S.sd !x).hp = some q ∧ p.2 + q.2 < 2 * S.dist ∧ p.2 ≤ q.2 := by
  unfold BW.next at h
  split at h
  · rename_i p q hp hq
    split at h
    · cases h
    · split at h
      · obtain rfl := Option.some.inj h
        exact ⟨p, q, hp, hq, by omega, by omega⟩
      · obtain rfl := Option.some.inj h
        exact ⟨q, p, hq, hp, by omega, by omega⟩
  · cases h

theorem outG_mem {g : G} {x : Bool} {i : Nat} (hi : i < g.arcs.length) : i ∈ outG g x (tlS x (arcAt g.arcs i)) := by
  have e : g.arcs[i] = arcAt g.arcs i := by simp [arcAt, hi]
  cases x
  · exact outsP_mem.2 ⟨Nat.zero_le _, by simpa using hi, by simp [e, tlS]⟩
  · exact outsP_mem.2 ⟨Nat.zero_le _, by simpa using hi, by simp [e, tlS]⟩

theorem RunI.step {st : List Stp} (R : RunI Q S st) (hQ : Q.Ok) {x : Bool} (hn : S.next = some x) :
    ∃ (v : Nat) (k d : Int), least (S.sd x).hp = some ((v : Int), k) ∧ v < Q.g.n ∧ v ∉ (S.sd x).ord ∧ (S.sd x).lab v = some d ∧ RunI Q (Q.step x S) (st ++ [⟨x, v, d⟩]) ∧ ((Q.step x S).sd x).ord = (S.sd x).ord ++ [v] ∧ (Q.step x S).sd (!x) = S.sd (!x) := by
  obtain ⟨⟨z, k⟩, q, hp, hq, hlt, hle⟩ := next_some hn
  have hm := least_spec hp
  obtain ⟨v, e, _⟩ := (R.bi.si x).ent _ hm.1
  have e : z = (v : Int) := e
  subst e
  obtain ⟨P1, P2, P3, P4, ⟨d, P5, P6, P7, P8⟩, P9⟩ := (R.bi.si x).pop hm.1 hm.2
  refine ⟨v, k, d, hp, P3, P2, P5, ?_⟩
  have hstep : Q.step x S = Q.scan x v (Q.pop x ((v : Int), k) S) (outG Q.g x v) := by
    unfold Qs.step
    rw [hp]
    dsimp only
    rw [Int.toNat_natCast]
  rw [hstep]
  have hsd : (Q.pop x ((v : Int), k) S).sd = upd1 S.sd x ((S.sd x).pop v k) := by
    show upd1 S.sd x ((S.sd x).pop ((v : Int)).toNat k) = _
    rw [Int.toNat_natCast]
  have hev : (Q.pop x ((v : Int), k) S).ev = S.ev ++ [popE ⟨x, v, d⟩] := by
    show S.ev ++ [popE ⟨x, ((v : Int)).toNat, ((S.sd x).lab (v : Int)).getD 0⟩] = _
    rw [Int.toNat_natCast, P5]; rfl
  have hdist : (Q.pop x ((v : Int), k) S).dist = S.dist := rfl
  have hmeet : (Q.pop x ((v : Int), k) S).meet = S.meet := rfl
  generalize Q.pop x ((v : Int), k) S = S1 at hsd hev hdist hmeet
  have hx : S1.sd x = (S.sd x).pop v k := by rw [hsd, upd1_same]
  have hnx : S1.sd (!x) = S.sd (!x) := by rw [hsd, upd1_not]
  have labx : ∀ y z, (S1.sd y).lab z = (S.sd y).lab z := fun y z => by
    by_cases h : y = x
    · subst h; rw [hx]; rfl
    · rw [hsd, upd1_ne h]
  have B1 : BI Q S1 (fun y => if y = x then (S.sd x).ord.length * W + W else (S.sd y).ord.length * W) := by
    refine ⟨fun y => ?_, fun y u e e' h1 h2 => ?_, ?_, by rw [hdist]; exact R.bi.c3⟩
    · by_cases h : y = x
      · subst h
        rw [hx, if_pos rfl]
        exact P1.more (by have : (0 : Int) ≤ W := by decide
                          omega)
      · rw [hsd, upd1_ne h, if_neg h]; exact R.bi.si y
    · rw [labx] at h1 h2
      rw [hdist]; exact R.bi.c1 y u e e' h1 h2
    · rw [hdist, hmeet]
      refine R.bi.c2.imp id fun ⟨u, d0, d1, h1, h2, h3, h4⟩ => ⟨u, d0, d1, h1, ?_, ?_, h4⟩
      · rw [labx]; exact h2
      · rw [labx]; exact h3
  have hvo : v ∈ (S1.sd x).ord := by rw [hx]; exact List.mem_append_right _ List.mem_cons_self
  have hout : ∀ i ∈ outG Q.g x v, i < Q.g.arcs.length ∧ tlS x (arcAt Q.g.arcs i) = v := fun i hi => outG_ok.mem x v i hi
  have hmax : Q.Feas → ∀ c ∈ (S1.sd x).ord, ∀ dc, (S1.sd x).lab (c : Int) = some dc → 2 * dc + Q.pot x c ≤ 2 * d + Q.pot x v := fun hF c hc dc hdc => by
    rw [hx] at hc
    rw [labx] at hdc
    rw [← P6]; exact P9 hF c hc dc hdc
  obtain ⟨g1, g2, g3, g4, g5⟩ := BI.scan hQ (x := x) (v := v) (dv := d) (B := fun y => if y = x then (S.sd x).ord.length * W + W else (S.sd y).ord.length * W) (by rw [if_pos rfl]; omega) (ids := outG Q.g x v) B1 hvo ((labx x v).trans P5) hmax hout (fun h => (labx x _).trans (R.z x h))
  have ordx : ((Q.scan x v S1 (outG Q.g x v)).sd x).ord = (S.sd x).ord ++ [v] := by rw [g2.ord, hx]; rfl
  have oth : (Q.scan x v S1 (outG Q.g x v)).sd (!x) = S.sd (!x) := g2.oth.trans hnx
  have othy : ∀ y, y ≠ x → (Q.scan x v S1 (outG Q.g x v)).sd y = S.sd y := fun y hy => by
    have : y = !x := by cases x <;> cases y <;> simp_all
    rw [this]; exact oth
  refine ⟨⟨?_, fun y hy => ?_, fun y i hi hok ho => ?_, ?_, fun y => ?_, fun e he => ?_, fun hF y => ?_, fun hne hF e he D hD => ?_⟩, ordx, oth⟩
  · refine ⟨fun y => ?_, g1.c1, g1.c2, g1.c3⟩
    have := g1.si y
    by_cases h : y = x
    · subst h
      refine this.more ?_
      rw [if_pos rfl, ordx, List.length_append, List.length_singleton]
      have e1 : (((S.sd y).ord.length + 1 : Nat) : Int) * W = (S.sd y).ord.length * W + W := by
        rw [Int.natCast_add, Int.add_mul]; rfl
      omega
    · rw [if_neg h] at this
      rw [othy y h] at this ⊢
      exact this
  · by_cases h : y = x
    · subst h; exact g5 hy
    · rw [othy y h]; exact R.z y hy
  · by_cases h : y = x
    · subst h
      by_cases ht : tlS y (arcAt Q.g.arcs i) = v
      · exact g3 i (by rw [← ht]; exact outG_mem hi) hok
      · rw [ordx] at ho
        have ho' : tlS y (arcAt Q.g.arcs i) ∈ (S.sd y).ord := (List.mem_append.1 ho).resolve_right fun h => ht (List.mem_singleton.1 h)
        have h1 := R.r y i hi hok ho'
        have h2 : Rx Q S1 y i := by
          obtain ⟨d', e1, e2⟩ := h1
          exact ⟨d', (labx y _).trans e1, fun hF dv hdv => e2 hF dv ((labx y _).symm.trans hdv)⟩
        exact h2.le g2 (by rw [hx]; exact List.mem_append_left _ ho')
    · rw [othy y h] at ho
      obtain ⟨d', e1, e2⟩ := R.r y i hi hok ho
      refine ⟨d', ?_, ?_⟩
      · rw [othy y h]; exact e1
      · rw [othy y h]; exact e2
  · rw [g4, hev, R.ev, evs_append, evs_one]
    simp [blkS, Qs.outs]
  · rw [onS_append, List.map_append, R.s1]
    by_cases h : y = x
    · subst h
      rw [ordx, onS_all (a := [⟨y, v, d⟩]) (by simp)]; rfl
    · rw [othy y h, onS_none (a := [⟨x, v, d⟩]) (by simpa using fun e => h e.symm)]; simp
  · rcases List.mem_append.1 he with he | he
    · have h1 := R.s2 e he
      by_cases h : e.x = x
      · have hm : e.v ∈ (S.sd e.x).ord := by rw [← R.s1]; exact List.mem_map_of_mem (mem_onS.2 ⟨he, rfl⟩)
        rw [h] at h1 hm ⊢
        rw [g2.same e.v (by rw [hx]; exact List.mem_append_left _ hm), labx]; exact h1
      · rw [othy _ h]; exact h1
    · obtain rfl := List.mem_singleton.1 he
      show ((Q.scan x v S1 (outG Q.g x v)).sd x).lab (v : Int) = some d
      rw [g2.same v hvo, labx]; exact P5
  · rw [onS_append, List.pairwise_append]
    refine ⟨R.s3 hF y, ?_, fun a ha b hb => ?_⟩
    · by_cases h : x = y
      · rw [onS_all (by simpa using h)]; exact List.pairwise_singleton _ _
      · rw [onS_none (by simpa using h)]; exact .nil
    · obtain ⟨hb, hbx⟩ := mem_onS.1 hb
      obtain rfl := List.mem_singleton.1 hb
      have hbx : x = y := hbx
      subst hbx
      obtain ⟨ha1, ha2⟩ := mem_onS.1 ha
      have h1 := R.s2 a ha1
      have hm : a.v ∈ (S.sd a.x).ord := by rw [← R.s1]; exact List.mem_map_of_mem (mem_onS.2 ⟨ha1, rfl⟩)
      rw [ha2] at h1 hm
      show 2 * a.d + Q.pot x a.v ≤ 2 * d + Q.pot x v
      rw [← P6]
      exact P9 hF a.v (List.mem_append_left _ hm) a.d h1
  · rcases List.mem_append.1 he with he | he
    · exact R.s4 hne hF e he D hD
    · obtain rfl := List.mem_singleton.1 he
      show 2 * d + Q.pot x v ≤ D
      rw [← P6]
      have hq' := (least_spec hq).2
      rcases R.meet hne hF hD with h | ⟨p', hp', q', hq2, h⟩
      · have : k + q.2 < 2 * S.dist := hlt
        have : k ≤ q.2 := hle
        omega
      · have : k ≤ q.2 := hle
        have l0 := hm.2
        cases x
        · have a1 := l0 p' hp'
          have a2 := hq' q' hq2
          rw [hl_iff] at a1 a2
          omega
        · have a1 := l0 q' hq2
          have a2 := hq' p' hp'
          rw [hl_iff] at a1 a2
          omega

theorem RunI.start (hQ : Q.Ok) : RunI Q Q.start [] := by
  obtain ⟨a1, a2, a3, a4, a5⟩ := BI.first (Q := Q) (S := BW.zero) BI.zero hQ (x := false) rfl
  have a3 : ((Q.reach BW.zero false Q.s (-1) 0).sd true) = BS.zero := a3
  obtain ⟨b1, b2, b3, b4, b5⟩ := BI.first a1 hQ (x := true) a3
  have b1 : BI Q Q.start fun _ => 0 := b1
  have b3 : Q.start.sd false = (Q.reach BW.zero false Q.s (-1) 0).sd false := b3
  have b4 : (Q.start.sd true).ord = [] := b4
  have ho : ∀ x, (Q.start.sd x).ord = [] := fun x => by
    cases x
    · rw [b3]; exact a4
    · exact b4
  refine ⟨?_, fun x hx => ?_, fun x i _ _ h => ?_, ?_, fun x => ?_, fun e h => absurd h List.not_mem_nil, fun _ x => .nil, fun _ _ e h => absurd h List.not_mem_nil⟩
  · refine ⟨fun x => ?_, b1.c1, b1.c2, b1.c3⟩
    have := b1.si x
    rw [ho]
    simpa using this
  · cases x
    · rw [b3]; exact a2 hx
    · exact b2 hx
  · rw [ho] at h; cases h
  · exact b5.trans a5
  · rw [ho]; rfl

theorem RunI.run (hQ : Q.Ok) : ∀ {k : Nat} {S : BW} {st : List Stp}, RunI Q S st → 2 * Q.g.n < k + (S.sd false).ord.length + (S.sd true).ord.length → ∃ st', RunI Q (Q.run k S) st' ∧ (Q.run k S).next = none
  | 0, S, st, R, h => by
    have h0 := (R.bi.si false).olen
    have h1 := (R.bi.si true).olen
    omega
  | k + 1, S, st, R, h => by
    unfold Qs.run
    cases hn : S.next with
    | none => exact ⟨st, R, hn⟩
    | some x =>
      dsimp only
      obtain ⟨v, kk, d, _, _, _, _, R', e1, e2⟩ := R.step hQ hn
      refine RunI.run hQ R' ?_
      cases x
      · rw [e1, show (true : Bool) = !false from rfl, e2, List.length_append, List.length_singleton]
        show _ < _ + _ + (S.sd true).ord.length
        omega
      · rw [e1, show (false : Bool) = !true from rfl, e2, List.length_append, List.length_singleton]
        show _ < k + (S.sd false).ord.length + _
        omega

def Qs.fin (Q : Qs) : BW := Q.run (2 * Q.g.n + 1) Q.start

theorem Qs.fin_run (hQ : Q.Ok) : ∃ st, RunI Q Q.fin st ∧ Q.fin.next = none := RunI.run hQ (RunI.start hQ) (by omega)

/-! ### What is told -/

theorem RunI.least {st : List Stp} (R : RunI Q S st) (hn : S.next = none) (hne : Q.s ≠ Q.t) (hF : Q.Feas) {D : Int} (h : Way Q.H A.f A.t Q.s Q.t D) : S.dist ≤ D := by
  rcases R.meet hne hF h with h | ⟨p, hp, q, hq, hle⟩
  · exact h
  · unfold BW.next at hn
    split at hn
    · rename_i p' q' hp' hq'
      have a1 := (least_spec hp').2 p hp
      have a2 := (least_spec hq').2 q hq
      rw [hl_iff] at a1 a2
      split at hn
      · omega
      · split at hn <;> cases hn
    · rename_i hno
      cases h1 : Mh.least (S.sd false).hp with
      | none => rw [least_none.1 h1] at hp; cases hp
      | some p' =>
        cases h2 : Mh.least (S.sd true).hp with
        | none => rw [least_none.1 h2] at hq; cases hq
        | some q' => exact absurd h2 (hno p' q' h1)

/-- What was found is a walk. -/
theorem RunI.found {st : List Stp} (R : RunI Q S st) (hlt : S.dist ≠ far) : ∃ (u : Nat) (r0 r1 : List Nat) (d0 d1 : Int), S.meet = u ∧ (S.sd false).lab u = some d0 ∧ (S.sd true).lab u = some d1 ∧
    Bk Q.g.arcs (tlS false) (hdS false) Q.ok (S.sd false).arc (S.sd false).ord Q.s u r0 d0 ∧ Bk Q.g.arcs (tlS true) (hdS true) Q.ok (S.sd true).arc (S.sd true).ord Q.t u r1 d1 ∧ r0.length ≤ Q.g.n ∧ r1.length ≤ Q.g.n ∧
    Trail Q.g.arcs Q.s (r0.reverse ++ r1) Q.t ∧ tsum Q.g.arcs (r0.reverse ++ r1) = S.dist ∧ ∀ i ∈ r0.reverse ++ r1, i < Q.g.arcs.length ∧ Q.ok i = true := by
  obtain ⟨u, d0, d1, h1, h2, h3, h4⟩ := R.bi.c2.resolve_left hlt
  have sh : ∀ x d, (S.sd x).lab u = some d → ∃ r, Bk Q.g.arcs (tlS x) (hdS x) Q.ok (S.sd x).arc (S.sd x).ord (Q.src x) u r d ∧ r.length ≤ Q.g.n := fun x d hd => by
    obtain ⟨r, k1, k2⟩ := (R.bi.si x).bk u d hd
    have := (R.bi.si x).olen
    refine ⟨r, k1, ?_⟩
    split at k2
    · have := List.idxOf_le_length (a := u) (l := (S.sd x).ord); omega
    · omega
  obtain ⟨r0, a1, a2⟩ := sh false d0 h2
  obtain ⟨r1, b1, b2⟩ := sh true d1 h3
  refine ⟨u, r0, r1, d0, d1, h1, h2, h3, a1, b1, a2, b2, a1.trail0.append b1.trail1, ?_, fun i hi => ?_⟩
  · rw [tsum_append, b1.all.1, h4]
    congr 1
    rw [← a1.all.1]
    unfold tsum
    rw [List.map_reverse, List.sum_reverse]
  · rcases List.mem_append.1 hi with h | h
    · exact a1.all.2 i (List.mem_reverse.1 h)
    · exact b1.all.2 i h

theorem RunI.way {st : List Stp} (R : RunI Q S st) (hlt : S.dist ≠ far) : Way Q.H A.f A.t Q.s Q.t S.dist := by
  obtain ⟨u, r0, r1, d0, d1, h1, h2, h3, a1, b1, _⟩ := R.found hlt
  obtain ⟨u', e0, e1, k1, k2, k3, k4⟩ := R.bi.c2.resolve_left hlt
  have : u = u' := Int.ofNat.inj (h1.symm.trans k1)
  subst this
  rw [h2] at k2
  rw [h3] at k3
  obtain rfl := Option.some.inj k2
  obtain rfl := Option.some.inj k3
  rw [k4]
  have w0 : Way Q.H A.f A.t Q.s u d0 := Bk.way (x := false) a1
  have w1 : Way Q.H A.f A.t u Q.t d1 := (Bk.way (x := true) b1).rev
  exact w0.cat w1

theorem RunI.nonneg {st : List Stp} (R : RunI Q S st) : 0 ≤ S.dist ∧ S.dist ≤ far := by
  refine ⟨?_, R.bi.c3⟩
  by_cases h : S.dist = far
  · rw [h]; decide
  · exact (R.way h).nonneg

/-- Labels of nodes that were popped. -/
theorem RunI.label {st : List Stp} (R : RunI Q S st) (hQ : Q.Ok) {e : Stp} (he : e ∈ st) : e.v < Q.g.n ∧ Q.opn e.v = true ∧ 0 ≤ e.d ∧ e.d < far ∧ Way Q.H (tlS e.x) (hdS e.x) (Q.src e.x) e.v e.d ∧
    (Q.Feas → Q.opn (Q.src e.x) = true → ∀ D, Way Q.H (tlS e.x) (hdS e.x) (Q.src e.x) e.v D → e.d ≤ D) := by
  have hl := R.s2 e he
  obtain ⟨u, hu, h1, h2, h3, h4, h5⟩ := (R.bi.si e.x).lab _ _ hl
  have hu := Int.ofNat.inj hu
  subst hu
  have hm : e.v ∈ (S.sd e.x).ord := by rw [← R.s1]; exact List.mem_map_of_mem (mem_onS.2 ⟨he, rfl⟩)
  have ho := (R.bi.si e.x).olen
  obtain ⟨r, hb, _⟩ := (R.bi.si e.x).bk _ _ hl
  refine ⟨h1, h2, h3, ?_, hb.way, fun hF ho D hD => ?_⟩
  · have hmost := hQ.r.most
    have hW : ((S.sd e.x).ord.length : Int) * W ≤ 16777216 * W := Int.mul_le_mul_of_nonneg_right (by omega) (by decide)
    have : (16777216 : Int) * W < far := by decide
    omega
  · rcases R.reach_or hF ho hD with ⟨_, d, g1, g2⟩ | ⟨w, dw, D2, g1, g2, g3, g4, g5⟩
    · rw [hl] at g1
      obtain rfl := Option.some.inj g1
      exact g2
    · have m1 := (R.bi.si e.x).mono hF e.v hm e.d hl _ g3
      have m2 := way_feas hF g4
      have m1 : 2 * e.d + Q.pot e.x e.v ≤ 2 * dw + Q.pot e.x w := m1
      omega

end
end Go.Mh

/-! What the laws ask of a search from both ends. -/
namespace Go.Mh
open Go

section
variable {Q : Qs} {S : BW}

/-! ### The reach of all nodes, by definition -/

structure ReI (Q : Qs) (x : Bool) (d : List Int) : Prop where
  len : d.length = Q.g.n
  zero : Q.opn (Q.src x) = true → dAt d (Q.src x) = 0
  shut : Q.opn (Q.src x) = false → ∀ v, v < Q.g.n → dAt d v = far
  way : ∀ v, v < Q.g.n → dAt d v = far ∨ (dAt d v < far ∧ Way Q.H (tlS x) (hdS x) (Q.src x) v (dAt d v))

theorem ReI.rng {x : Bool} {d : List Int} (H : ReI Q x d) {v : Nat} (hv : v < Q.g.n) : 0 ≤ dAt d v ∧ dAt d v ≤ far := by
  rcases H.way v hv with h | ⟨h, hw⟩
  · rw [h]; exact ⟨by decide, Int.le_refl _⟩
  · exact ⟨hw.nonneg, Int.le_of_lt h⟩

theorem src_lt (hQ : Q.Ok) (x : Bool) : Q.src x < Q.g.n := match x with | false => hQ.s | true => hQ.t

theorem ReI.start (hQ : Q.Ok) {x : Bool} : ReI Q x (if Q.opn (Q.src x) = true then (List.replicate Q.g.n far).set (Q.src x) 0 else List.replicate Q.g.n far) := by
  have hs := src_lt hQ x
  have hfar : ∀ v, dAt (List.replicate Q.g.n far) v = far := fun v => by
    by_cases h : v < Q.g.n
    · simp [dAt, List.getD_eq_getElem?_getD, h]
    · exact dAt_le (by simpa using h)
  cases ho : Q.opn (Q.src x) with
  | false =>
    rw [if_neg (by decide)]
    exact ⟨by simp, fun h => (by rw [ho] at h; cases h), fun _ v _ => hfar v, fun v _ => .inl (hfar v)⟩
  | true =>
    rw [if_pos rfl]
    refine ⟨by simp, fun _ => by rw [dAt_set (by simpa using hs), if_pos rfl], fun h => (by rw [ho] at h; cases h), fun v hv => ?_⟩
    rw [dAt_set (by simpa using hs)]
    split
    · rename_i e; subst e; exact .inr ⟨by decide, .nil⟩
    · exact .inl (hfar v)

theorem ReI.relax (hQ : Q.Ok) {x : Bool} {d : List Int} (H : ReI Q x d) {i : Nat} (hi : i < Q.g.arcs.length) (hok : Q.ok i = true) (h1 : dAt d (tlS x (arcAt Q.g.arcs i)) < far)
    (h2 : dAt d (tlS x (arcAt Q.g.arcs i)) + (arcAt Q.g.arcs i).w < dAt d (hdS x (arcAt Q.g.arcs i))) :
    ReI Q x (d.set (hdS x (arcAt Q.g.arcs i)) (dAt d (tlS x (arcAt Q.g.arcs i)) + (arcAt Q.g.arcs i).w)) ∧ dsum (d.set (hdS x (arcAt Q.g.arcs i)) (dAt d (tlS x (arcAt Q.g.arcs i)) + (arcAt Q.g.arcs i).w)) < dsum d := by
  have he := hQ.r.ends _ (arcAt_mem hi)
  have hf : tlS x (arcAt Q.g.arcs i) < Q.g.n := by cases x; · exact he.1
                                                   · exact he.2.1
  have ht : hdS x (arcAt Q.g.arcs i) < Q.g.n := by cases x; · exact he.2.1
                                                   · exact he.1
  have r1 := H.rng hf
  have r2 := H.rng ht
  have hd : hdS x (arcAt Q.g.arcs i) < d.length := by rw [H.len]; exact ht
  refine ⟨⟨by simp [H.len], fun ho => ?_, fun hs v hv => ?_, fun v hv => ?_⟩, ?_⟩
  · have hz := H.zero ho
    have hst : Q.src x ≠ hdS x (arcAt Q.g.arcs i) := fun e => by rw [← e, hz] at h2; omega
    rw [dAt_set hd, if_neg hst]; exact hz
  · have := H.shut hs _ hf
    omega
  · rw [dAt_set hd]
    split
    · rename_i e
      subst e
      refine .inr ⟨by omega, ?_⟩
      rcases H.way _ hf with h | ⟨_, h⟩
      · omega
      · exact .step _ h (mem_H.2 ⟨i, hi, hok, rfl⟩) rfl
    · exact H.way v hv
  · refine dsum_set hd (by omega) ?_
    rw [dAt_get]; exact h2

/-- The reach. -/
structure RL (Q : Qs) (x : Bool) (d : List Int) : Prop extends ReI Q x d where
  arcs : ∀ i, i < Q.g.arcs.length → Q.ok i = true → dAt d (tlS x (arcAt Q.g.arcs i)) < far → dAt d (hdS x (arcAt Q.g.arcs i)) ≤ dAt d (tlS x (arcAt Q.g.arcs i)) + (arcAt Q.g.arcs i).w

theorem RL.le_way {x : Bool} {d : List Int} (H : RL Q x d) (ho : Q.opn (Q.src x) = true) {v : Nat} {w : Int} (h : Way Q.H (tlS x) (hdS x) (Q.src x) v w) : w < far → dAt d v ≤ w := by
  induction h with
  | nil => intro _; rw [H.zero ho]; exact Int.le_refl 0
  | step a hw hm ht ih =>
    intro hlt
    have h1 := ih (by omega)
    obtain ⟨i, hi, hok, rfl⟩ := mem_H.1 hm
    have := H.arcs i hi hok (by rw [ht]; omega)
    rw [ht] at this
    omega

/-! ### What is found -/

theorem fin_exact (hQ : Q.Ok) (hne : Q.s ≠ Q.t) (hF : Q.Feas) {d : List Int} (H : RL Q false d) : Q.fin.dist = if Q.opn Q.t = true then dAt d Q.t else far := by
  obtain ⟨st, R, hn⟩ := Q.fin_run hQ
  have hr := H.rng hQ.t
  by_cases hf : Q.fin.dist = far
  · by_cases ho : Q.opn Q.t = true
    · rw [if_pos ho, hf]
      rcases H.way Q.t hQ.t with h | ⟨_, h⟩
      · exact h.symm
      · have := R.least hn hne hF h
        omega
    · rw [if_neg ho, hf]
  · have hw := R.way hf
    have hw' : Way Q.H (tlS false) (hdS false) Q.s Q.t Q.fin.dist := hw
    obtain ⟨o1, o2⟩ := (way_ends hw').resolve_left fun e => hne e.symm
    rw [if_pos o2]
    have h1 := H.le_way o1 hw' (by have := R.nonneg; omega)
    rcases H.way Q.t hQ.t with h | ⟨_, h⟩
    · have := R.nonneg; omega
    · have := R.least hn hne hF h
      omega

theorem label_exact (hQ : Q.Ok) {st : List Stp} (R : RunI Q S st) {e : Stp} (he : e ∈ st) {d : List Int} (H : RL Q e.x d) : dAt d e.v ≤ e.d ∧ (Q.Feas → e.d = dAt d e.v) := by
  obtain ⟨h1, h2, h3, h4, h5, h6⟩ := R.label hQ he
  have ho : Q.opn (Q.src e.x) = true := by
    rcases way_ends h5 with e' | e'
    · rw [← e']; exact h2
    · exact e'.1
  have hle := H.le_way ho h5 h4
  refine ⟨hle, fun hF => ?_⟩
  rcases H.way e.v h1 with h | ⟨_, h⟩
  · omega
  · have := h6 hF ho _ h
    omega

/-! ### By a landmark -/

def lessI (v t : Int) : Int := if far ≤ t then 0 else if far ≤ v then far else if 0 < v - t then v - t else 0
theorem less_p1 {df dt de w : Int} (hw : 0 ≤ w) (ha : dt < far → df ≤ dt + w) (h1 : lessI df de < far) (h3 : lessI dt de < far) : lessI df de ≤ lessI dt de + w := by
  unfold lessI at *
  by_cases c1 : far ≤ de
  · simp only [if_pos c1]; omega
  · by_cases c2 : far ≤ dt
    · rw [if_neg c1, if_pos c2] at h3; omega
    · by_cases c3 : far ≤ df
      · rw [if_neg c1, if_pos c3] at h1; omega
      · have := ha (by omega)
        simp only [if_neg c1, if_neg c2, if_neg c3]
        split <;> split <;> omega
theorem less_p2 {df dt ds w : Int} (hw : 0 ≤ w) (n1 : df ≤ far) (ha : dt < far → df ≤ dt + w) (h4 : lessI ds dt < far) : lessI ds dt ≤ lessI ds df + w := by
  unfold lessI at *
  by_cases c1 : far ≤ dt
  · simp only [if_pos c1]
    split
    · omega
    · split
      · unfold far; omega
      · split <;> omega
  · by_cases c2 : far ≤ ds
    · rw [if_neg c1, if_pos c2] at h4; omega
    · have := ha (by omega)
      by_cases c3 : far ≤ df
      · simp only [if_neg c1, if_neg c2, if_pos c3]
        split <;> omega
      · simp only [if_neg c1, if_neg c2, if_neg c3]
        split <;> split <;> omega
def landI (dv ds dt : Int) : Int := if far ≤ lessI dv dt ∨ far ≤ lessI ds dv then far else lessI dv dt - lessI ds dv
theorem land_le {df dt ds de w : Int} (hw : 0 ≤ w) (n1 : 0 ≤ df ∧ df ≤ far) (n2 : 0 ≤ dt ∧ dt ≤ far) (n3 : 0 ≤ ds) (n4 : 0 ≤ de) (ha : dt < far → df ≤ dt + w) (o1 : landI df ds de < far) (o2 : landI dt ds de < far) :
    landI df ds de ≤ landI dt ds de + 2 * w := by
  unfold landI at *
  split at o1
  · omega
  · split at o2
    · omega
    · rename_i h1 h2
      rw [if_neg h1, if_neg h2]
      have p1 := less_p1 (de := de) hw ha (by omega) (by omega)
      have p2 := less_p2 (ds := ds) hw n1.2 ha (by omega)
      omega

def landP (d : List Int) (s t : Nat) (v : Nat) : Int := landI (dAt d v) (dAt d s) (dAt d t)

theorem land_feas (hQ : Q.Ok) {d : List Int} {m : Nat} (H : LS Q.g.arcs A.t A.f Q.g.n m d) (hp : ∀ v, v < Q.g.n → Q.p v = landP d Q.s Q.t v) : Q.Feas := by
  intro i hi hok
  obtain ⟨_, o1, o2⟩ := (Qs.ok_end (x := false)).1 hok
  have he := hQ.r.ends _ (arcAt_mem hi)
  have o1 := (Qs.p_opn o1).2
  have o2 := (Qs.p_opn o2).2
  simp only [tlS, hdS, Bool.false_eq_true, if_false] at o1 o2
  have ha := H.arcs _ (arcAt_mem hi)
  have n1 := H.nonneg he.1
  have n2 := H.nonneg he.2.1
  have n3 := H.nonneg hQ.s
  have n4 := H.nonneg hQ.t
  have m1 := H.far_le he.1
  have m2 := H.far_le he.2.1
  rw [hp _ he.1] at o1 ⊢
  rw [hp _ he.2.1] at o2 ⊢
  exact land_le (by omega) ⟨n1, m1⟩ ⟨n2, m2⟩ n3 n4 ha o1 o2

end
end Go.Mh

namespace Go.Mh
open Go

/-! ### Turned round -/

def Qs.turn (Q : Qs) : Qs := ⟨Q.g.turned, Q.t, Q.s, Q.allow, Q.pi.map fun z => -z⟩

section
variable {Q : Qs}

theorem arcAt_swap {l : List A} {i : Nat} : arcAt (l.map A.swap) i = (arcAt l i).swap := by
  by_cases h : i < l.length
  · simp [arcAt, h]
  · simp [arcAt, h, A.swap]

theorem turn_p {v : Nat} : Q.turn.p v = - Q.p v := by
  unfold Qs.p Qs.turn
  by_cases h : v < Q.pi.length
  · simp [List.getD_eq_getElem?_getD, h]
  · simp [List.getD_eq_getElem?_getD, h]

theorem turn_opn {v : Nat} : Q.turn.opn v = Q.opn v := by
  have h := @turn_p Q v
  unfold Qs.p at h
  unfold Qs.opn
  rw [h]
  have e : Q.turn.pi.isEmpty = Q.pi.isEmpty := by unfold Qs.turn; cases Q.pi <;> rfl
  rw [e]
  congr 1
  rw [Bool.eq_iff_iff]
  simp only [Bool.and_eq_true, decide_eq_true_eq]
  omega

theorem turn_ok {i : Nat} : Q.turn.ok i = Q.ok i := by
  unfold Qs.ok
  rw [turn_opn, turn_opn]
  have e : arcAt Q.turn.g.arcs i = (arcAt Q.g.arcs i).swap := arcAt_swap
  rw [e]
  show (Q.alw i && (Q.opn (arcAt Q.g.arcs i).t && Q.opn (arcAt Q.g.arcs i).f)) = _
  rw [Bool.and_comm (Q.opn (arcAt Q.g.arcs i).t)]

theorem turn_feas (hF : Q.Feas) : Q.turn.Feas := by
  intro i hi ho
  have hi : i < Q.g.arcs.length := by simpa [Qs.turn, G.turned] using hi
  have := hF i hi (by rw [← turn_ok]; exact ho)
  have e : arcAt Q.turn.g.arcs i = (arcAt Q.g.arcs i).swap := arcAt_swap
  rw [e, turn_p, turn_p]
  show - Q.p (arcAt Q.g.arcs i).t ≤ - Q.p (arcAt Q.g.arcs i).f + 2 * (arcAt Q.g.arcs i).w
  omega

theorem way_swap' {l l' : List A} {s v : Nat} {d : Int} (h : Way l A.t A.f s v d) (hs : ∀ a ∈ l, a.swap ∈ l') : Way l' A.f A.t s v d := by
  induction h with
  | nil => exact .nil
  | step a _ hm ht ih => exact .step a.swap ih (hs a hm) ht

theorem way_swap {l l' : List A} {s v : Nat} {d : Int} (h : Way l A.f A.t s v d) (hs : ∀ a ∈ l, a.swap ∈ l') : Way l' A.f A.t v s d := way_swap' h.rev hs

theorem mem_turnH {a : A} : a ∈ Q.turn.H ↔ a.swap ∈ Q.H := by
  rw [mem_H, mem_H]
  constructor
  · rintro ⟨i, hi, ho, rfl⟩
    exact ⟨i, by simpa [Qs.turn, G.turned] using hi, by rw [← turn_ok]; exact ho, by rw [show arcAt Q.turn.g.arcs i = (arcAt Q.g.arcs i).swap from arcAt_swap]; rfl⟩
  · rintro ⟨i, hi, ho, e⟩
    refine ⟨i, by simpa [Qs.turn, G.turned] using hi, by rw [turn_ok]; exact ho, ?_⟩
    rw [show arcAt Q.turn.g.arcs i = (arcAt Q.g.arcs i).swap from arcAt_swap, e]; rfl

theorem turn_Ok (hQ : Q.Ok) : Q.turn.Ok where
  r := hQ.r.turned
  s := hQ.t
  t := hQ.s
  allow := hQ.allow.imp id fun h => by simpa [Qs.turn, G.turned] using h
  pi := hQ.pi.imp (fun h => by simp [Qs.turn, h]) fun h => by simpa [Qs.turn, G.turned] using h

theorem fin_turn (hQ : Q.Ok) (hne : Q.s ≠ Q.t) (hF : Q.Feas) : Q.fin.dist = Q.turn.fin.dist := by
  obtain ⟨st, R, hn⟩ := Q.fin_run hQ
  obtain ⟨st', R', hn'⟩ := Q.turn.fin_run (turn_Ok hQ)
  have n1 := R.nonneg
  have n2 := R'.nonneg
  have a1 : Q.fin.dist ≠ far → Q.turn.fin.dist ≤ Q.fin.dist := fun h => R'.least hn' (fun e => hne e.symm) (turn_feas hF) (way_swap (R.way h) fun a ha => mem_turnH.2 ha)
  have a2 : Q.turn.fin.dist ≠ far → Q.fin.dist ≤ Q.turn.fin.dist := fun h => R.least hn hne hF (way_swap (R'.way h) fun a ha => mem_turnH.1 ha)
  omega

/-! ### Without potentials -/

def Qs.plain (g : G) (s t : Nat) : Qs := ⟨g, s, t, [], []⟩

theorem plain_ok {g : G} {s t i : Nat} : (Qs.plain g s t).ok i = true := rfl
theorem plain_p {g : G} {s t v : Nat} {x : Bool} : (Qs.plain g s t).pot x v = 0 := by cases x <;> rfl
theorem plain_feas {g : G} {s t : Nat} : (Qs.plain g s t).Feas := fun i _ _ => by
  show (0 : Int) ≤ 0 + 2 * _
  omega
theorem plain_H {g : G} {s t : Nat} {a : A} : a ∈ (Qs.plain g s t).H ↔ a ∈ g.arcs := by
  rw [mem_H]
  constructor
  · rintro ⟨i, hi, _, rfl⟩; exact arcAt_mem hi
  · intro h
    obtain ⟨i, hi, rfl⟩ := List.mem_iff_getElem.1 h
    exact ⟨i, hi, rfl, by simp [Qs.plain, arcAt, hi]⟩
theorem plain_RL {g : G} {s t : Nat} {d : List Int} (H : LS g.arcs A.f A.t g.n s d) : RL (Qs.plain g s t) false d where
  len := H.len
  zero := fun _ => H.zero
  shut := fun h => by cases h
  way := fun v hv => (H.way v hv).imp id fun ⟨a, b⟩ => ⟨a, b.mono fun a ha => plain_H.2 ha⟩
  arcs := fun i hi _ h => H.arcs _ (arcAt_mem hi) h

theorem plain_exact {g : G} {s t : Nat} (hR : g.Right) (hs : s < g.n) (ht : t < g.n) (hne : s ≠ t) {d : List Int} (H : LS g.arcs A.f A.t g.n s d) : (Qs.plain g s t).fin.dist = dAt d t := by
  have := fin_exact (Q := Qs.plain g s t) ⟨hR, hs, ht, .inl rfl, .inl rfl⟩ hne plain_feas (plain_RL H)
  exact this.trans (if_pos rfl)

/-! ### Blocks -/

theorem blk_at {outs : Bool → Nat → List Nat} : ∀ {st : List Stp} {i : Nat} {e : Ev}, (evs outs st)[i]? = some e → e.kind = 0 →
    ∃ s rest, s ∈ st ∧ e = popE s ∧ (evs outs st).drop (i + 1) = (outs s.x s.v).map (scanE s.x) ++ rest ∧ (rest = [] ∨ ∃ s' r', rest = popE s' :: r')
  | [], i, e, h, _ => by simp [evs_nil] at h
  | s :: st, i, e, h, hk => by
    rw [evs_cons] at h ⊢
    by_cases hi : i < (blkS outs s).length
    · rw [List.getElem?_append_left hi] at h
      cases i with
      | zero =>
        have : e = popE s := by simpa [blkS] using h.symm
        subst this
        refine ⟨s, evs outs st, List.mem_cons_self, rfl, ?_, ?_⟩
        · simp [blkS]
        · cases st with
          | nil => exact .inl rfl
          | cons s' st' => exact .inr ⟨s', (outs s'.x s'.v).map (scanE s'.x) ++ evs outs st', rfl⟩
      | succ i =>
        have h : ((outs s.x s.v).map (scanE s.x))[i]? = some e := h
        obtain ⟨a, _, rfl⟩ := List.mem_map.1 (List.mem_of_getElem? h)
        exact absurd hk (show ¬ (1 : Int) = 0 by decide)
    · rw [List.getElem?_append_right (by omega)] at h
      obtain ⟨s', rest, h1, h2, h3, h4⟩ := blk_at h hk
      refine ⟨s', rest, List.mem_cons_of_mem _ h1, h2, ?_, h4⟩
      rw [List.drop_append, List.drop_eq_nil_of_le (by omega), List.nil_append, ← h3]
      congr 1
      omega

end
end Go.Mh

namespace Go.Mh
open Go

section
variable {g : G} {b s : Nat}

/-- A row of tight arcs is as long as told. -/
theorem tgt_trail {l : List A} {d : List Int} {b : Nat} (hb : dAt d b = 0) : ∀ {r : List Nat} {s : Nat}, Trail l s r b → (∀ i ∈ r, tgt d (arcAt l i) = true) → dAt d s = tsum l r
  | [], _, h, _ => by cases h; rw [hb]; rfl
  | i :: r, s, ⟨_, b', h⟩, ht => by
    have ih := tgt_trail hb h fun j hj => ht j (List.mem_cons_of_mem _ hj)
    have h1 := ht i (List.mem_cons_self ..)
    unfold tgt at h1
    rw [Bool.and_eq_true, decide_eq_true_eq, beq_iff_eq] at h1
    rw [tsum_cons, ← b', ← ih, ← h1.2]
    omega

/-- From each node that was reached there is a row of tight arcs. -/
theorem tgt_rch (hR : g.Right) (hb : b < g.n) : ∀ {k : Nat} {s : Nat}, s < g.n → (g.to b).order.idxOf s ≤ k → dAt (g.to b).dist s < far → ∃ r, Trail g.arcs s r b ∧ ∀ i ∈ r, tgt (g.to b).dist (arcAt g.arcs i) = true := by
  have T := to_tree hR hb
  intro k
  induction k with
  | zero =>
    intro s hs hk hd
    by_cases e : s = b
    · subst e; exact ⟨[], rfl, fun _ h => by cases h⟩
    · obtain ⟨i, _, _, _, _, _, h6⟩ := T.arc s ((T.reached s hs).2 hd) e
      omega
  | succ k ih =>
    intro s hs hk hd
    by_cases e : s = b
    · subst e; exact ⟨[], rfl, fun _ h => by cases h⟩
    · have hso := (T.reached s hs).2 hd
      obtain ⟨i, h1, h2, h3, h4, h5, h6⟩ := T.arc s hso e
      obtain ⟨j, e1, _, ht⟩ := tgt_tree hR hb hs (by rw [h2]; omega)
      have : j = i := by omega
      subst this
      have hn := T.range _ h4
      obtain ⟨r, hr, hrt⟩ := ih hn (by omega) ((T.reached _ hn).1 h4)
      refine ⟨j :: r, ⟨h1, h3, hr⟩, fun i hi => ?_⟩
      rcases List.mem_cons.1 hi with rfl | hi
      · exact ht
      · exact hrt i hi

theorem Rch.of_trail {l : List A} {mk : Nat → Bool} {s : Nat} : ∀ {r : List Nat} {u t : Nat}, Rch l mk s u → Trail l u r t → (∀ i ∈ r, mk i = true) → Rch l mk s t
  | [], _, _, hu, h, _ => by cases h; exact hu
  | i :: _, _, _, hu, ⟨a, b, h⟩, hm => Rch.of_trail (.step hu a (hm i (List.mem_cons_self ..)) b) h fun j hj => hm j (List.mem_cons_of_mem _ hj)

theorem Rch.trail {l : List A} {mk : Nat → Bool} {s t : Nat} (h : Rch l mk s t) : ∃ r, Trail l s r t ∧ ∀ i ∈ r, mk i = true := by
  induction h with
  | here => exact ⟨[], rfl, fun _ h => by cases h⟩
  | @step u i _ hi hm hf ih =>
    obtain ⟨r, h1, h2⟩ := ih
    refine ⟨r ++ [i], h1.append ⟨hi, hf, rfl⟩, fun j hj => ?_⟩
    rcases List.mem_append.1 hj with hj | hj
    · exact h2 j hj
    · simp at hj; subst hj; exact hm

theorem Rch.congr {l : List A} {mk mk' : Nat → Bool} {s v : Nat} (h : Rch l mk s v) (he : ∀ i, i < l.length → mk i = true → mk' i = true) : Rch l mk' s v := by
  induction h with
  | here => exact .here
  | step _ hi hm hf ih => exact .step ih hi (he _ hi hm) hf

/-- Where tight arcs lead. -/
theorem tgt_iff (hR : g.Right) (hb : b < g.n) (hs : s < g.n) : Rch g.arcs (fun i => tgt (g.to b).dist (arcAt g.arcs i)) s b ↔ dAt (g.to b).dist s < far := by
  have T := to_tree hR hb
  refine ⟨fun h => ?_, fun h => ?_⟩
  · obtain ⟨r, h1, h2⟩ := h.trail
    cases r with
    | nil => cases h1; rw [T.ls.zero]; decide
    | cons i r =>
      have h1' := h2 i (List.mem_cons_self ..)
      unfold tgt at h1'
      rw [Bool.and_eq_true, decide_eq_true_eq, beq_iff_eq] at h1'
      rw [← h1.2.1, ← h1'.2]; exact h1'.1
  · obtain ⟨r, h1, h2⟩ := tgt_rch hR hb hs (Nat.le_refl _) h
    exact Rch.of_trail .here h1 h2

end
end Go.Mh

/-! Following the arcs of a tree. -/
namespace Go.Mh
open Go

/-- The arcs that are followed from v, behind acc. -/
def fol (n : Nat) (l : List A) (ar : List Int) (hd tl : A → Nat) : Nat → Nat → List Nat → Option (List Nat)
  | 0, _, _ => none
  | k + 1, v, acc =>
    if v < ar.length ∧ 0 ≤ ar.getD v (-1) then
      if ar.getD v (-1) < l.length ∧ hd (arcAt l (ar.getD v (-1)).toNat) = v ∧ acc.length + 1 < n then fol n l ar hd tl k (tl (arcAt l (ar.getD v (-1)).toNat)) (acc ++ [(ar.getD v (-1)).toNat]) else none
    else some acc

/-- Was a node reached, as a tree tells? -/
def rchd (d : List Int) (v : Int) : Bool := decide (0 ≤ v) && (decide (v < d.length) && (decide (0 ≤ d.getD v.toNat far) && decide (d.getD v.toNat far < far)))

def folI (n : Nat) (l : List A) (d ar : List Int) (hd tl : A → Nat) (v : Int) : Option (List Nat) :=
  if rchd d v = true ∧ v < n then fol n l ar hd tl n v.toNat [] else none

/-- Where both are least. -/
def meetGo (a b : List Int) : Nat → Int × Int
  | 0 => (-1, far)
  | i + 1 => let p := meetGo a b i
    if rchd a i = true ∧ rchd b i = true ∧ (p.1 < 0 ∨ a.getD i far + b.getD i far < p.2) then ((i : Int), a.getD i far + b.getD i far) else p
def meet (a b : List Int) : Int × Int := meetGo a b (min a.length b.length)

section
variable {n s : Nat} {l : List A} {t : Tr} {hd tl : A → Nat}

theorem fol_tree (T : TreeOf l tl hd n s t) : ∀ {k v : Nat} {acc : List Nat}, v < n → dAt t.dist v < far → t.order.idxOf v < k → acc.length + t.order.idxOf v < n →
    ∃ r, fol n l t.arc hd tl k v acc = some (acc ++ r) ∧ r.length ≤ t.order.idxOf v ∧ (∀ i ∈ r, i < l.length) ∧ dAt t.dist v = tsum l r := by
  intro k
  induction k with
  | zero => intro v acc _ _ hk; omega
  | succ k ih =>
    intro v acc hv hd' hk hn
    have hal := T.al
    unfold fol
    by_cases e : v = s
    · subst e
      rw [if_neg (by rw [T.root]; omega)]
      exact ⟨[], by simp, by simp, fun _ h => by (cases h), by rw [T.ls.zero]; rfl⟩
    · obtain ⟨i, h1, h2, h3, h4, h5, h6⟩ := T.arc v ((T.reached v hv).2 hd') e
      rw [h2, if_pos ⟨by omega, by omega⟩, Int.toNat_natCast, if_pos ⟨by omega, h3, by omega⟩]
      have hn' := T.range _ h4
      obtain ⟨r, r1, r2, r3, r4⟩ := ih (v := tl (arcAt l i)) (acc := acc ++ [i]) hn' ((T.reached _ hn').1 h4) (by omega) (by simp; omega)
      refine ⟨i :: r, by rw [r1]; simp, by simp; omega, fun j hj => ?_, by rw [h5, r4, tsum_cons]; omega⟩
      rcases List.mem_cons.1 hj with rfl | hj
      · exact h1
      · exact r3 j hj

/-- A row of arcs gone through from v to s, by which end is here and which is next. -/
def RTrail (l : List A) (hd tl : A → Nat) : Nat → List Nat → Nat → Prop
  | v, [], s => v = s
  | v, i :: r, s => i < l.length ∧ hd (arcAt l i) = v ∧ RTrail l hd tl (tl (arcAt l i)) r s

def vis (l : List A) (tl : A → Nat) (v : Nat) (r : List Nat) : List Nat := v :: r.map fun i => tl (arcAt l i)
/-- The nodes of a walk. -/
abbrev nds (l : List A) (s : Nat) (r : List Nat) : List Nat := vis l A.t s r

theorem RTrail.fwd {l : List A} : ∀ {r : List Nat} {v s : Nat}, RTrail l A.f A.t v r s → Trail l v r s
  | [], _, _, h => h
  | _ :: _, _, _, ⟨a, b, h⟩ => ⟨a, b, RTrail.fwd h⟩

theorem RTrail.bwd {l : List A} : ∀ {r : List Nat} {v s : Nat}, RTrail l A.t A.f v r s → Trail l s r.reverse v
  | [], _, _, h => h.symm
  | i :: r, v, s, ⟨a, b, h⟩ => by
    rw [List.reverse_cons]
    exact (RTrail.bwd h).append ⟨a, rfl, b⟩

theorem nds_append {l : List A} {s : Nat} {r q : List Nat} : nds l s (r ++ q) = nds l s r ++ q.map fun i => (arcAt l i).t := by simp [nds, vis]

theorem vis_cons {l : List A} {tl : A → Nat} {v i : Nat} {r : List Nat} : vis l tl v (i :: r) = v :: vis l tl (tl (arcAt l i)) r := rfl

theorem RTrail.nds {l : List A} : ∀ {r : List Nat} {v s : Nat}, RTrail l A.t A.f v r s → Go.Mh.nds l s r.reverse = (vis l A.f v r).reverse
  | [], _, _, h => by cases h; rfl
  | i :: r, v, s, ⟨a, b, h⟩ => by
    rw [List.reverse_cons, nds_append, RTrail.nds h, vis_cons, List.reverse_cons]
    simp [b]

theorem fol_tree2 (T : TreeOf l tl hd n s t) : ∀ {k v : Nat} {acc : List Nat}, v < n → dAt t.dist v < far → t.order.idxOf v < k → acc.length + t.order.idxOf v < n →
    ∃ r, fol n l t.arc hd tl k v acc = some (acc ++ r) ∧ RTrail l hd tl v r s ∧ dAt t.dist v = tsum l r ∧ (vis l tl v r).Pairwise (fun a b => t.order.idxOf b < t.order.idxOf a) ∧ ∀ u ∈ vis l tl v r, u < n ∧ dAt t.dist u < far := by
  intro k
  induction k with
  | zero => intro v acc _ _ hk; omega
  | succ k ih =>
    intro v acc hv hd' hk hn
    have hal := T.al
    unfold fol
    by_cases e : v = s
    · subst e
      rw [if_neg (by rw [T.root]; omega)]
      exact ⟨[], by simp, rfl, by rw [T.ls.zero]; rfl, by simp [vis], by simpa [vis] using ⟨hv, hd'⟩⟩
    · obtain ⟨i, h1, h2, h3, h4, h5, h6⟩ := T.arc v ((T.reached v hv).2 hd') e
      rw [h2, if_pos ⟨by omega, by omega⟩, Int.toNat_natCast, if_pos ⟨by omega, h3, by omega⟩]
      have hn' := T.range _ h4
      obtain ⟨r, r1, r2, r3, r4, r5⟩ := ih (v := tl (arcAt l i)) (acc := acc ++ [i]) hn' ((T.reached _ hn').1 h4) (by omega) (by simp; omega)
      refine ⟨i :: r, by rw [r1]; simp, ⟨h1, h3, r2⟩, by rw [h5, r3, tsum_cons]; omega, ?_, ?_⟩
      · rw [vis_cons, List.pairwise_cons]
        refine ⟨fun u hu => ?_, r4⟩
        rcases List.mem_cons.1 hu with rfl | hu
        · exact h6
        · have := (List.pairwise_cons.1 r4).1 u hu
          omega
      · intro u hu
        rcases List.mem_cons.1 hu with rfl | hu
        · exact ⟨hv, hd'⟩
        · exact r5 u hu

/-- A row of arcs as the tree has them. -/
def FolR (l : List A) (ar : List Int) (tl : A → Nat) : Nat → List Nat → Prop
  | v, [] => ¬ (v < ar.length ∧ 0 ≤ ar.getD v (-1))
  | v, i :: r => v < ar.length ∧ ar.getD v (-1) = (i : Int) ∧ FolR l ar tl (tl (arcAt l i)) r

theorem fol_folR {ar : List Int} : ∀ {k v : Nat} {acc x : List Nat}, fol n l ar hd tl k v acc = some x → ∃ r, x = acc ++ r ∧ FolR l ar tl v r := by
  intro k
  induction k with
  | zero => intro v acc x h; cases h
  | succ k ih =>
    intro v acc x h
    unfold fol at h
    split at h
    · rename_i hc
      split at h
      · obtain ⟨r, h1, h2⟩ := ih h
        exact ⟨_ :: r, by rw [h1]; simp, hc.1, (Int.toNat_of_nonneg hc.2).symm, h2⟩
      · cases h
    · rename_i hc
      exact ⟨[], by simpa using (Option.some.inj h).symm, hc⟩

theorem FolR.uniq {ar : List Int} : ∀ {r q : List Nat} {v : Nat}, FolR l ar tl v r → FolR l ar tl v q → r = q
  | [], [], _, _, _ => rfl
  | [], i :: q, v, h, ⟨a, b, _⟩ => absurd ⟨a, by omega⟩ h
  | i :: r, [], v, ⟨a, b, _⟩, h => absurd ⟨a, by omega⟩ h
  | i :: r, j :: q, v, ⟨_, b, h⟩, ⟨_, b', h'⟩ => by
    have : i = j := by omega
    subst this
    rw [h.uniq h']

theorem FolR.drop {ar : List Int} : ∀ {j : Nat} {r : List Nat} {v u : Nat}, FolR l ar tl v r → (vis l tl v r)[j]? = some u → FolR l ar tl u (r.drop j)
  | 0, r, v, u, h, hu => by simp [vis] at hu; subst hu; exact h
  | j + 1, [], v, u, h, hu => by simp [vis] at hu
  | j + 1, i :: r, v, u, ⟨_, _, h⟩, hu => by
    rw [vis_cons, List.getElem?_cons_succ] at hu
    exact h.drop hu

/-- What is followed in a flood's tree. -/
structure FolTree (l : List A) (tl hd : A → Nat) (n s : Nat) (t : Tr) (v : Nat) (r : List Nat) : Prop where
  rt : RTrail l hd tl v r s
  fr : FolR l t.arc tl v r
  sum : dAt t.dist v = tsum l r
  down : (vis l tl v r).Pairwise (fun a b => t.order.idxOf b < t.order.idxOf a)
  reach : ∀ u ∈ vis l tl v r, u < n ∧ dAt t.dist u < far

theorem rchd_iff {d : List Int} {v : Nat} (hv : v < d.length) (h0 : 0 ≤ dAt d v) : rchd d v = true ↔ dAt d v < far := by
  unfold rchd
  simp only [Bool.and_eq_true, decide_eq_true_eq, Int.toNat_natCast]
  exact ⟨fun h => h.2.2.2, fun h => ⟨by omega, by omega, h0, h⟩⟩

theorem folI_tree (T : TreeOf l tl hd n s t) {v : Nat} (hv : v < n) : (dAt t.dist v < far → ∃ r, folI n l t.dist t.arc hd tl v = some r ∧ FolTree l tl hd n s t v r) ∧ (¬ dAt t.dist v < far → folI n l t.dist t.arc hd tl v = none) := by
  have hr := rchd_iff (d := t.dist) (v := v) (by rw [T.ls.len]; exact hv) (T.ls.nonneg hv)
  unfold folI
  refine ⟨fun h => ?_, fun h => by rw [if_neg fun e => h (hr.1 e.1)]⟩
  rw [if_pos ⟨hr.2 h, by omega⟩, Int.toNat_natCast]
  have hm := (T.reached v hv).2 h
  have hi : t.order.idxOf v < t.order.length := List.idxOf_lt_length_iff.2 hm
  have hl := nodup_le T.nodup T.range
  obtain ⟨r, r1, r2, r3, r4, r5⟩ := fol_tree2 T (k := n) (acc := []) hv h (by omega) (by simp; omega)
  obtain ⟨r', h1, h2⟩ := fol_folR r1
  have : r = r' := by simpa using h1
  subst this
  exact ⟨r, by simpa using r1, r2, h2, r3, r4, r5⟩

theorem FolTree.nodup {v : Nat} {r : List Nat} (F : FolTree l tl hd n s t v r) : (vis l tl v r).Nodup := by
  refine List.Pairwise.imp (fun {a b} h e => ?_) F.down
  subst e; omega

theorem folI_not {d ar : List Int} {z : Int} (h : ¬ z < n) : folI n l d ar hd tl z = none := by
  unfold folI; rw [if_neg fun e => h e.2]

/-- At each node of a row that is followed the rest of it is followed. -/
theorem FolTree.at (T : TreeOf l tl hd n s t) {v : Nat} {r : List Nat} (F : FolTree l tl hd n s t v r) {j u : Nat} (hu : (vis l tl v r)[j]? = some u) :
    u < n ∧ dAt t.dist u < far ∧ folI n l t.dist t.arc hd tl u = some (r.drop j) ∧ dAt t.dist u = tsum l (r.drop j) := by
  obtain ⟨h1, h2⟩ := F.reach u (List.mem_of_getElem? hu)
  obtain ⟨q, q1, Fq⟩ := (folI_tree T h1).1 h2
  have e := Fq.fr.uniq (F.fr.drop hu)
  subst e
  exact ⟨h1, h2, q1, Fq.sum⟩

end
end Go.Mh

/-! Where two floods meet. -/
namespace Go.Mh
open Go

theorem meetGo_spec {d d' : List Int} : ∀ i : Nat, (meetGo d d' i = (-1, far) ∧ ∀ u : Nat, u < i → ¬ (rchd d u = true ∧ rchd d' u = true)) ∨
    ∃ v : Nat, v < i ∧ meetGo d d' i = ((v : Int), d.getD v far + d'.getD v far) ∧ rchd d v = true ∧ rchd d' v = true ∧ ∀ u : Nat, u < i → rchd d u = true → rchd d' u = true → d.getD v far + d'.getD v far ≤ d.getD u far + d'.getD u far
  | 0 => .inl ⟨rfl, fun u h => absurd h (by omega)⟩
  | i + 1 => by
    have step : meetGo d d' (i + 1) = if rchd d i = true ∧ rchd d' i = true ∧ ((meetGo d d' i).1 < 0 ∨ d.getD i far + d'.getD i far < (meetGo d d' i).2) then ((i : Int), d.getD i far + d'.getD i far) else meetGo d d' i := rfl
    have split : ∀ {u : Nat}, u < i + 1 → u < i ∨ u = i := fun h => by omega
    by_cases hb : rchd d i = true ∧ rchd d' i = true
    · rcases meetGo_spec (d := d) (d' := d') i with ⟨h1, h2⟩ | ⟨v, hv, h1, r1, r2, h2⟩
      · rw [h1, if_pos ⟨hb.1, hb.2, .inl (by decide)⟩] at step
        refine .inr ⟨i, by omega, step, hb.1, hb.2, fun u hu a b => ?_⟩
        rcases split hu with h | rfl
        · exact absurd ⟨a, b⟩ (h2 u h)
        · exact Int.le_refl _
      · rw [h1] at step
        by_cases hlt : d.getD i far + d'.getD i far < d.getD v far + d'.getD v far
        · rw [if_pos ⟨hb.1, hb.2, .inr hlt⟩] at step
          refine .inr ⟨i, by omega, step, hb.1, hb.2, fun u hu a b => ?_⟩
          rcases split hu with h | rfl
          · have := h2 u h a b; omega
          · exact Int.le_refl _
        · rw [if_neg (by rintro ⟨_, _, h | h⟩; exact absurd h (by omega); exact hlt h)] at step
          refine .inr ⟨v, by omega, step, r1, r2, fun u hu a b => ?_⟩
          rcases split hu with h | rfl
          · exact h2 u h a b
          · omega
    · rw [if_neg fun e => hb ⟨e.1, e.2.1⟩] at step
      rcases meetGo_spec (d := d) (d' := d') i with ⟨h1, h2⟩ | ⟨v, hv, h1, r1, r2, h2⟩
      · refine .inl ⟨by rw [step, h1], fun u hu => ?_⟩
        rcases split hu with h | rfl
        · exact h2 u h
        · exact hb
      · refine .inr ⟨v, by omega, by rw [step, h1], r1, r2, fun u hu a b => ?_⟩
        rcases split hu with h | rfl
        · exact h2 u h a b
        · exact absurd ⟨a, b⟩ hb

section
variable {g : G} {s t : Nat}

/-- What is known of a node that both floods reach. -/
theorem meet_node (hR : g.Right) (hs : s < g.n) (ht : t < g.n) {u : Nat} (hu : u < g.n) (h1 : dAt (g.from s).dist u < far) (h2 : dAt (g.to t).dist u < far) :
    ∃ la lb, folI g.n g.arcs (g.from s).dist (g.from s).arc A.t A.f u = some la ∧ folI g.n g.arcs (g.to t).dist (g.to t).arc A.f A.t u = some lb ∧ Trail g.arcs s (la.reverse ++ lb) t ∧
      tsum g.arcs (la.reverse ++ lb) = dAt (g.from s).dist u + dAt (g.to t).dist u ∧ dAt (g.from s).dist t ≤ dAt (g.from s).dist u + dAt (g.to t).dist u ∧ dAt (g.from s).dist t < far := by
  have TF := from_tree hR hs
  have TT := to_tree hR ht
  obtain ⟨la, ha, FA⟩ := (folI_tree TF hu).1 h1
  obtain ⟨lb, hb, FB⟩ := (folI_tree TT hu).1 h2
  have hmost := hR.most
  have tsr : ∀ r : List Nat, tsum g.arcs r.reverse = tsum g.arcs r := fun r => by
    induction r with
    | nil => rfl
    | cons i r ih => rw [List.reverse_cons, tsum_append, tsum_cons, tsum_cons, ih, tsum_nil]; omega
  have tr := FA.rt.bwd.append FB.rt.fwd
  have es : tsum g.arcs (la.reverse ++ lb) = dAt (g.from s).dist u + dAt (g.to t).dist u := by
    rw [tsum_append, tsr, FA.sum, FB.sum]
  have top : ∀ {tl hd : A → Nat} {s : Nat} {T : Tr}, TreeOf g.arcs tl hd g.n s T → dAt T.dist u < far → dAt T.dist u ≤ 16777215 * 2147483647 := by
    intro tl hd s T H hl
    have hm := (H.reached u hu).2 hl
    have q := H.top (fun a ha => by have := (hR.ends a ha).2.2; show (a.w : Int) ≤ 2147483647; omega) u hm
    have hi : T.order.idxOf u < T.order.length := List.idxOf_lt_length_iff.2 hm
    have hlen := nodup_le H.nodup H.range
    refine Int.le_trans q ?_
    have : ((T.order.idxOf u : Nat) : Int) ≤ 16777215 := by omega
    show _ * 2147483647 ≤ _
    omega
  have t1 := top TF h1
  have t2 := top TT h2
  have hf : far = 72057594037927936 := rfl
  have w := Trail.way .nil tr
  rw [Int.zero_add, es] at w
  have le := TF.ls.le_way w (by omega)
  exact ⟨la, lb, ha, hb, tr, es, le, by omega⟩

/-- Where both floods meet. -/
theorem meet_tree (hR : g.Right) (hs : s < g.n) (ht : t < g.n) :
    (dAt (g.from s).dist t < far ∧ ∃ v : Nat, v < g.n ∧ meet (g.from s).dist (g.to t).dist = ((v : Int), dAt (g.from s).dist t) ∧ dAt (g.from s).dist v < far ∧ dAt (g.to t).dist v < far ∧ dAt (g.from s).dist v + dAt (g.to t).dist v = dAt (g.from s).dist t) ∨
    (¬ dAt (g.from s).dist t < far ∧ meet (g.from s).dist (g.to t).dist = (-1, far) ∧ ∀ u, u < g.n → ¬ (dAt (g.from s).dist u < far ∧ dAt (g.to t).dist u < far)) := by
  have TF := from_tree hR hs
  have TT := to_tree hR ht
  have r1 : ∀ {u : Nat}, u < g.n → (rchd (g.from s).dist u = true ↔ dAt (g.from s).dist u < far) := fun hu => rchd_iff (by rw [TF.ls.len]; exact hu) (TF.ls.nonneg hu)
  have r2 : ∀ {u : Nat}, u < g.n → (rchd (g.to t).dist u = true ↔ dAt (g.to t).dist u < far) := fun hu => rchd_iff (by rw [TT.ls.len]; exact hu) (TT.ls.nonneg hu)
  have hl : min (g.from s).dist.length (g.to t).dist.length = g.n := by rw [TF.ls.len, TT.ls.len]; omega
  unfold meet
  rw [hl]
  rcases meetGo_spec (d := (g.from s).dist) (d' := (g.to t).dist) g.n with ⟨h1, h2⟩ | ⟨v, hv, h1, a1, a2, h2⟩
  · refine .inr ⟨fun h => h2 t ht ⟨(r1 ht).2 h, (r2 ht).2 (by rw [TT.ls.zero]; decide)⟩, h1, fun u hu ⟨a, b⟩ => h2 u hu ⟨(r1 hu).2 a, (r2 hu).2 b⟩⟩
  · have b1 := (r1 hv).1 a1
    have b2 := (r2 hv).1 a2
    obtain ⟨_, _, _, _, _, _, le, lt⟩ := meet_node hR hs ht hv b1 b2
    have ge := h2 t ht ((r1 ht).2 lt) ((r2 ht).2 (by rw [TT.ls.zero]; decide))
    have z : (g.to t).dist.getD t far = 0 := TT.ls.zero
    rw [z] at ge
    have e : dAt (g.from s).dist v + dAt (g.to t).dist v = dAt (g.from s).dist t := by
      have : (g.from s).dist.getD v far + (g.to t).dist.getD v far ≤ (g.from s).dist.getD t far := by omega
      show (g.from s).dist.getD v far + (g.to t).dist.getD v far = (g.from s).dist.getD t far
      exact Int.le_antisymm this le
    exact .inl ⟨lt, v, hv, by rw [h1]; exact congrArg (Prod.mk (v : Int)) e, b1, b2, e⟩

end
end Go.Mh

/-! Bounds by marks. -/
namespace Go.Mh
open Go

/-- One mark more. -/
def bnd1 (g : G) (r v : Nat) (b : Int) (m : Nat) : Int := max (max b (lessI (dAt (g.to m).dist r) (dAt (g.to m).dist v))) (lessI (dAt (g.from m).dist v) (dAt (g.from m).dist r))
/-- A bound, by marks. -/
def bnd (g : G) (ms : List Nat) (r v : Nat) : Int := ms.foldl (bnd1 g r v) 0

theorem lessI_nn {a c : Int} : 0 ≤ lessI a c := by
  unfold lessI
  split
  · omega
  · split
    · decide
    · split <;> omega

section
variable {g : G} {r v m : Nat} {ms : List Nat}

theorem bnd_snoc : bnd g (ms ++ [m]) r v = bnd1 g r v (bnd g ms r v) m := by simp [bnd]
theorem bnd1_le {b : Int} : b ≤ bnd1 g r v b m := by unfold bnd1; omega
theorem bnd_up : ∀ {ms : List Nat} {b : Int}, b ≤ ms.foldl (bnd1 g r v) b
  | [], _ => Int.le_refl _
  | _ :: _, _ => Int.le_trans bnd1_le bnd_up
theorem bnd_nonneg : 0 ≤ bnd g ms r v := bnd_up

theorem tree_fin {l : List A} {tl hd : A → Nat} {n s : Nat} {t : Tr} (T : TreeOf l tl hd n s t) (hw : ∀ a ∈ l, (a.w : Int) ≤ W) {v : Nat} (hv : v < n) (hf : dAt t.dist v < far) : dAt t.dist v + W ≤ n * W ∧ Way l tl hd s v (dAt t.dist v) := by
  have hm := (T.reached v hv).2 hf
  have h1 := T.top hw v hm
  have h2 : t.order.idxOf v < n := Nat.lt_of_lt_of_le (List.idxOf_lt_length_of_mem hm) (nodup_le T.nodup T.range)
  refine ⟨?_, ((T.ls.way v hv).resolve_left (by omega)).2⟩
  have h3 : ((t.order.idxOf v : Int) + 1) * W ≤ n * W := Int.mul_le_mul_of_nonneg_right (by omega) (by decide)
  rw [Int.add_mul, Int.one_mul] at h3
  omega

/-- A mark's two bounds are at most the distance. -/
theorem low_le (hR : g.Right) (hr : r < g.n) (hv : v < g.n) (hm : m < g.n) : lessI (dAt (g.to m).dist r) (dAt (g.to m).dist v) ≤ dAt (g.from r).dist v ∧ lessI (dAt (g.from m).dist v) (dAt (g.from m).dist r) ≤ dAt (g.from r).dist v := by
  have hw : ∀ a ∈ g.arcs, (a.w : Int) ≤ W := fun a ha => by have := (hR.ends a ha).2.2; show (a.w : Int) ≤ 2147483647; omega
  have Tr := from_tree hR hr
  have Tm := from_tree hR hm
  have Um := to_tree hR hm
  have hfar : far = 72057594037927936 := rfl
  have hW : W = 2147483647 := rfl
  have hmost := hR.most
  have n0 := Tr.ls.nonneg hv
  have n1 := Tr.ls.far_le hv
  have a0 := Um.ls.nonneg hv
  have c0 := Tm.ls.nonneg hr
  have a1 := Um.ls.far_le hr
  have c1 := Tm.ls.far_le hv
  by_cases hd : dAt (g.from r).dist v < far
  · obtain ⟨b1, w1⟩ := tree_fin Tr hw hv hd
    constructor
    · by_cases ha : dAt (g.to m).dist v < far
      · obtain ⟨b2, w2⟩ := tree_fin Um hw hv ha
        have := Um.ls.le_way (w2.cat w1.rev) (by rw [hW] at b1 b2; omega)
        unfold lessI
        split
        · omega
        · split
          · rw [hW] at b1 b2; omega
          · split <;> omega
      · unfold lessI; rw [if_pos (by omega)]; exact n0
    · by_cases hc : dAt (g.from m).dist r < far
      · obtain ⟨b2, w2⟩ := tree_fin Tm hw hr hc
        have := Tm.ls.le_way (w2.cat w1) (by rw [hW] at b1 b2; omega)
        unfold lessI
        split
        · omega
        · split
          · rw [hW] at b1 b2; omega
          · split <;> omega
      · unfold lessI; rw [if_pos (by omega)]; exact n0
  · have e : dAt (g.from r).dist v = far := by omega
    rw [e]
    have : ∀ a c : Int, 0 ≤ c → a ≤ far → lessI a c ≤ far := fun a c hc ha => by
      unfold lessI
      split
      · decide
      · split
        · exact Int.le_refl _
        · split
          · omega
          · decide
    exact ⟨this _ _ a0 a1, this _ _ c0 c1⟩

theorem bnd_le (hR : g.Right) (hr : r < g.n) (hv : v < g.n) (hm : ∀ m ∈ ms, m < g.n) : bnd g ms r v ≤ dAt (g.from r).dist v := by
  unfold bnd
  have h0 := (from_tree hR hr).ls.nonneg hv
  generalize (0 : Int) = b at h0
  induction ms generalizing b with
  | nil => exact h0
  | cons m ms ih =>
    refine ih (fun x hx => hm x (List.mem_cons_of_mem _ hx)) _ ?_
    have := low_le hR hr hv (hm m List.mem_cons_self)
    unfold bnd1
    omega

theorem both_least (hR : g.Right) (hr : r < g.n) (hv : v < g.n) : dAt (g.to v).dist r = dAt (g.from r).dist v := by
  have Tr := from_tree hR hr
  have U := to_tree hR hv
  have n1 := Tr.ls.far_le hv
  have n2 := U.ls.far_le hr
  have l1 : dAt (g.from r).dist v < far → dAt (g.to v).dist r ≤ dAt (g.from r).dist v := fun h => U.ls.le_way ((Tr.ls.way v hv).resolve_left (by omega)).2.rev h
  have l2 : dAt (g.to v).dist r < far → dAt (g.from r).dist v ≤ dAt (g.to v).dist r := fun h => Tr.ls.le_way ((U.ls.way r hr).resolve_left (by omega)).2.rev h
  omega

/-- By the node itself a bound is the distance; by the root too. -/
theorem bnd_self (hR : g.Right) (hr : r < g.n) (hv : v < g.n) : bnd g [v] r v = dAt (g.from r).dist v ∧ bnd g [r] r v = dAt (g.from r).dist v := by
  have Tr := from_tree hR hr
  have n0 := Tr.ls.nonneg hv
  have n1 := Tr.ls.far_le hv
  have h1 := low_le hR hr hv hv
  have h2 := low_le hR hr hv hr
  have hz : ∀ a : Int, 0 ≤ a → a ≤ far → lessI a 0 = a := fun a h0 h1 => by
    unfold lessI
    rw [if_neg (by decide)]
    split
    · omega
    · split <;> omega
  have e1 : lessI (dAt (g.to v).dist r) (dAt (g.to v).dist v) = dAt (g.from r).dist v := by
    rw [show dAt (g.to v).dist v = 0 from (to_tree hR hv).ls.zero, both_least hR hr hv, hz _ n0 n1]
  have e2 : lessI (dAt (g.from r).dist v) (dAt (g.from r).dist r) = dAt (g.from r).dist v := by
    rw [show dAt (g.from r).dist r = 0 from Tr.ls.zero, hz _ n0 n1]
  constructor
  · show bnd1 g r v 0 v = _
    unfold bnd1; omega
  · show bnd1 g r v 0 r = _
    unfold bnd1; omega

end
end Go.Mh

/-! Trees with sizes. -/
namespace Go.Mh
open Go

def parT (l : List A) (t : Tr) (v : Nat) : Option Nat := if 0 ≤ t.arc.getD v (-1) ∧ t.arc.getD v (-1) < l.length then some (arcAt l (t.arc.getD v (-1)).toNat).f else none

section
variable {l : List A} {n s : Nat} {t : Tr}

theorem par_some (T : TreeOf l A.f A.t n s t) {v p : Nat} (h : parT l t v = some p) : v ∈ t.order ∧ v ≠ s ∧ p ∈ t.order ∧ t.order.idxOf p < t.order.idxOf v := by
  unfold parT at h
  split at h
  · rename_i hz
    obtain rfl := Option.some.inj h
    by_cases hv : v ∈ t.order
    · by_cases hs : v = s
      · subst hs; rw [T.root] at hz; omega
      · obtain ⟨i, hi, e, _, e2, _, e3⟩ := T.arc v hv hs
        rw [e] at hz ⊢
        rw [Int.toNat_natCast]
        exact ⟨hv, hs, e2, e3⟩
    · by_cases hn : v < n
      · rw [(T.none v hn hv).2] at hz; omega
      · have : t.arc.getD v (-1) = -1 := by rw [List.getD_eq_getElem?_getD, List.getElem?_eq_none (by rw [T.al]; omega)]; rfl
        rw [this] at hz; omega
  · cases h

inductive Desc (par : Nat → Option Nat) (v : Nat) : Nat → Prop
  | refl : Desc par v v
  | step {u p : Nat} : par u = some p → Desc par v p → Desc par v u

theorem Desc.up {par : Nat → Option Nat} {v k u : Nat} (hk : par k = some v) (h : Desc par k u) : Desc par v u := by
  induction h with
  | refl => exact .step hk .refl
  | step hp _ ih => exact .step hp ih

theorem desc_kid {par : Nat → Option Nat} {v u : Nat} : Desc par v u ↔ u = v ∨ ∃ k, par k = some v ∧ Desc par k u := by
  constructor
  · intro h
    induction h with
    | refl => exact .inl rfl
    | step hp _ ih =>
      rcases ih with rfl | ⟨k, h1, h2⟩
      · exact .inr ⟨_, hp, .refl⟩
      · exact .inr ⟨k, h1, .step hp h2⟩
  · rintro (rfl | ⟨k, h1, h2⟩)
    · exact .refl
    · exact h2.up h1

theorem desc_idx (T : TreeOf l A.f A.t n s t) {v u : Nat} (h : Desc (parT l t) v u) : t.order.idxOf v ≤ t.order.idxOf u := by
  induction h with
  | refl => exact Nat.le_refl _
  | step hp _ ih => have := (par_some T hp).2.2.2; omega

theorem desc_in (T : TreeOf l A.f A.t n s t) {v u : Nat} (h : Desc (parT l t) v u) (hv : v ∈ t.order) : u ∈ t.order := by
  cases h with
  | refl => exact hv
  | step hp _ => exact (par_some T hp).1

theorem desc_uniq (T : TreeOf l A.f A.t n s t) {v k1 k2 u : Nat} (p1 : parT l t k1 = some v) (p2 : parT l t k2 = some v) (h1 : Desc (parT l t) k1 u) (h2 : Desc (parT l t) k2 u) : k1 = k2 := by
  have i1 := (par_some T p1).2.2.2
  have i2 := (par_some T p2).2.2.2
  induction h1 with
  | refl =>
    cases h2 with
    | refl => rfl
    | step hp h =>
      obtain rfl := Option.some.inj (hp.symm.trans p1)
      have := desc_idx T h
      omega
  | step hp h ih =>
    cases h2 with
    | refl =>
      obtain rfl := Option.some.inj (hp.symm.trans p2)
      have := desc_idx T h
      omega
    | step hp' h' =>
      obtain rfl := Option.some.inj (hp.symm.trans hp')
      exact ih h'
end

/-! ### Growing -/

def mostS : Int := 2305843009213693952
def keepS (x : Int) : Int := min (max x 0) mostS
def satI (a b : Int) : Int := keepS (keepS (0 + keepS a) + keepS b)
theorem satI_eq {a b : Int} (ha : 0 ≤ a) (hb : 0 ≤ b) (h : a + b ≤ mostS) : satI a b = a + b := by unfold satI keepS; omega

structure GS where
  sz : List Int
  mc : List Int
  kd : Nat → List Nat

def GS.own (wt : Nat → Int) (S : GS) (v : Nat) : Int := (S.kd v).foldl (fun a k => satI a (S.sz.getD k 0)) (wt v)
def GS.mcs (S : GS) (v : Nat) : Int := (S.kd v).foldl (fun a k => a + S.mc.getD k 0) (S.mc.getD v 0)
def updK (kd : Nat → List Nat) (v : Nat) : Option Nat → Nat → List Nat
  | some p => fun x => if x = p then kd x ++ [v] else kd x
  | none => kd
def GS.step (par : Nat → Option Nat) (wt : Nat → Int) (S : GS) (v : Nat) : GS := ⟨if S.mcs v = 0 then S.sz.set v (S.own wt v) else S.sz, S.mc.set v (S.mcs v), updK S.kd v (par v)⟩

theorem foldl_sat {f : Nat → Int} : ∀ {l : List Nat} {a : Int}, 0 ≤ a → (∀ k ∈ l, 0 ≤ f k) → a + (l.map f).sum ≤ mostS → l.foldl (fun a k => satI a (f k)) a = a + (l.map f).sum
  | [], a, _, _, _ => by simp
  | k :: l, a, ha, hf, hm => by
    have hk := hf k List.mem_cons_self
    have hnn : 0 ≤ (l.map f).sum := by
      have : ∀ l : List Nat, (∀ k ∈ l, 0 ≤ f k) → 0 ≤ (l.map f).sum := fun l => by
        induction l with
        | nil => intro _; exact Int.le_refl _
        | cons k l ih => intro h; rw [List.map_cons, List.sum_cons]; have := ih fun x hx => h x (List.mem_cons_of_mem _ hx); have := h k List.mem_cons_self; omega
      exact this l fun x hx => hf x (List.mem_cons_of_mem _ hx)
    rw [List.map_cons, List.sum_cons] at hm ⊢
    rw [List.foldl_cons, satI_eq ha hk (by omega), foldl_sat (by omega) (fun x hx => hf x (List.mem_cons_of_mem _ hx)) (by omega)]
    omega

theorem foldl_add {f : Nat → Int} : ∀ {l : List Nat} {a : Int}, l.foldl (fun a k => a + f k) a = a + (l.map f).sum
  | [], a => by simp
  | k :: l, a => by rw [List.foldl_cons, foldl_add, List.map_cons, List.sum_cons]; omega

theorem sum_nn {f : Nat → Int} : ∀ {l : List Nat}, (∀ k ∈ l, 0 ≤ f k) → 0 ≤ (l.map f).sum
  | [], _ => Int.le_refl _
  | k :: l, h => by
    rw [List.map_cons, List.sum_cons]
    have := sum_nn fun x hx => h x (List.mem_cons_of_mem _ hx)
    have := h k List.mem_cons_self
    omega
theorem sum_le {f : Nat → Int} {B : Int} : ∀ {l : List Nat}, (∀ k ∈ l, f k ≤ B) → (l.map f).sum ≤ l.length * B
  | [], _ => by simp
  | k :: l, h => by
    rw [List.map_cons, List.sum_cons, List.length_cons]
    have := sum_le fun x hx => h x (List.mem_cons_of_mem _ hx)
    have := h k List.mem_cons_self
    have e : ((l.length + 1 : Nat) : Int) * B = l.length * B + B := by rw [Int.natCast_add, Int.add_mul]; simp
    omega
theorem sum_zero {f : Nat → Int} : ∀ {l : List Nat}, (∀ k ∈ l, 0 ≤ f k) → (l.map f).sum = 0 → ∀ k ∈ l, f k = 0
  | [], _, _ => fun _ h => by cases h
  | k :: l, h, he => by
    rw [List.map_cons, List.sum_cons] at he
    have h1 := sum_nn fun x hx => h x (List.mem_cons_of_mem _ hx)
    have h2 := h k List.mem_cons_self
    intro x hx
    rcases List.mem_cons.1 hx with rfl | hx
    · omega
    · exact sum_zero (fun x hx => h x (List.mem_cons_of_mem _ hx)) (by omega) x hx
theorem sum_flat {f : Nat → Int} {p : Nat → List Nat} : ∀ {l : List Nat}, ((l.flatMap p).map f).sum = (l.map fun k => ((p k).map f).sum).sum
  | [] => rfl
  | k :: l => by rw [List.flatMap_cons, List.map_append, List.sum_append, sum_flat, List.map_cons, List.sum_cons]

section
variable {l : List A} {n s : Nat} {t : Tr} {wt cnt : Nat → Int}

/-- Some nodes are grown, the last ones of the order. -/
structure GI (par : Nat → Option Nat) (n : Nat) (wt cnt : Nat → Int) (D : List Nat) (S : GS) : Prop where
  kd : ∀ x, S.kd x = D.filter fun v => decide (par v = some x)
  sl : S.sz.length = n
  ml : S.mc.length = n
  out : ∀ v, v < n → v ∉ D → S.sz.getD v 0 = 0 ∧ S.mc.getD v 0 = cnt v
  done : ∃ pt : Nat → List Nat, ∀ v ∈ D, (pt v).Nodup ∧ (∀ u, u ∈ pt v ↔ Desc par v u) ∧ S.mc.getD v 0 = ((pt v).map cnt).sum ∧ S.sz.getD v 0 = if S.mc.getD v 0 = 0 then ((pt v).map wt).sum else 0

theorem GI.step (T : TreeOf l A.f A.t n s t) (hn : n ≤ 16) (hw : ∀ v ∈ t.order, 0 ≤ wt v ∧ wt v ≤ far) (hc : ∀ v, 0 ≤ cnt v) {pre post : List Nat} {v : Nat} {S : GS} (he : t.order = pre ++ v :: post)
    (H : GI (parT l t) n wt cnt post.reverse S) : GI (parT l t) n wt cnt (post.reverse ++ [v]) (S.step (parT l t) wt v) := by
  have hvo : v ∈ t.order := by rw [he]; simp
  have hvn := T.range v hvo
  have hnd := T.nodup
  have hvp : v ∉ post := by
    rw [he] at hnd
    exact (List.nodup_cons.1 (List.nodup_append.1 hnd).2.1).1
  have hvp' : v ∉ pre := by
    rw [he] at hnd
    exact fun h => (List.nodup_append.1 hnd).2.2 v h v List.mem_cons_self rfl
  have hiv : t.order.idxOf v = pre.length := by
    rw [he, List.idxOf_append, if_neg hvp']; simp
  obtain ⟨o1, o2⟩ := H.out v hvn (by simpa using hvp)
  obtain ⟨pt, hpt⟩ := H.done
  have hkm : ∀ k, k ∈ S.kd v ↔ parT l t k = some v := fun k => by
    rw [H.kd, List.mem_filter, List.mem_reverse, decide_eq_true_eq]
    refine ⟨fun h => h.2, fun h => ⟨?_, h⟩⟩
    obtain ⟨q1, _, _, q4⟩ := par_some T h
    rw [he] at q1
    rcases List.mem_append.1 q1 with q | q
    · have : t.order.idxOf k < pre.length := by
        rw [he, List.idxOf_append, if_pos q]; exact List.idxOf_lt_length_of_mem q
      omega
    · rcases List.mem_cons.1 q with rfl | q
      · omega
      · exact q
  have hkD : ∀ k ∈ S.kd v, k ∈ post.reverse := fun k hk => by rw [H.kd] at hk; exact (List.mem_filter.1 hk).1
  have hkn : (S.kd v).Nodup := by
    rw [H.kd]
    rw [he] at hnd
    have hpn := List.nodup_iff_pairwise_ne.1 (List.nodup_cons.1 (List.nodup_append.1 hnd).2.1).2
    exact List.nodup_iff_pairwise_ne.2 (List.Pairwise.filter _ (List.pairwise_reverse.2 (hpn.imp fun h e => h e.symm)))
  have hsn : ∀ k ∈ S.kd v, (pt k).Nodup ∧ (∀ u, u ∈ pt k ↔ Desc (parT l t) k u) ∧ S.mc.getD k 0 = ((pt k).map cnt).sum ∧ S.sz.getD k 0 = if S.mc.getD k 0 = 0 then ((pt k).map wt).sum else 0 := fun k hk => hpt k (hkD k hk)
  generalize hK : S.kd v = K at *
  -- the part of v
  have pm : ∀ u, u ∈ v :: K.flatMap pt ↔ Desc (parT l t) v u := fun u => by
    rw [desc_kid, List.mem_cons, List.mem_flatMap]
    refine or_congr Iff.rfl ⟨fun ⟨k, h1, h2⟩ => ⟨k, (hkm k).1 h1, ((hsn k h1).2.1 u).1 h2⟩, fun ⟨k, h1, h2⟩ => ⟨k, (hkm k).2 h1, ((hsn k ((hkm k).2 h1)).2.1 u).2 h2⟩⟩
  have pn : (v :: K.flatMap pt).Nodup := by
    refine List.nodup_cons.2 ⟨fun h => ?_, ?_⟩
    · obtain ⟨k, h1, h2⟩ := List.mem_flatMap.1 h
      have := desc_idx T (((hsn k h1).2.1 v).1 h2)
      have := (par_some T ((hkm k).1 h1)).2.2.2
      omega
    · rw [List.nodup_iff_pairwise_ne, List.pairwise_flatMap]
      refine ⟨fun k hk => List.nodup_iff_pairwise_ne.1 (hsn k hk).1, (List.nodup_iff_pairwise_ne.1 hkn).imp_of_mem fun {a b} ha hb hne x hx y hy e => hne ?_⟩
      subst e
      exact desc_uniq T ((hkm a).1 ha) ((hkm b).1 hb) (((hsn a ha).2.1 x).1 hx) (((hsn b hb).2.1 x).1 hy)
  have pin : ∀ u ∈ v :: K.flatMap pt, u ∈ t.order := fun u hu => desc_in T ((pm u).1 hu) hvo
  have plen : (v :: K.flatMap pt).length ≤ n := nodup_le pn fun u hu => T.range u (pin u hu)
  have hmks : S.mcs v = ((v :: K.flatMap pt).map cnt).sum := by
    unfold GS.mcs
    rw [hK, foldl_add, o2, List.map_cons, List.sum_cons, sum_flat]
    congr 2
    exact List.map_congr_left fun k hk => (hsn k hk).2.2.1
  have hown : S.mcs v = 0 → S.own wt v = ((v :: K.flatMap pt).map wt).sum := fun h0 => by
    have hz := sum_zero (fun k _ => hc k) (hmks.symm.trans h0)
    have hsz : ∀ k ∈ K, S.sz.getD k 0 = ((pt k).map wt).sum := fun k hk => by
      obtain ⟨_, _, e1, e2⟩ := hsn k hk
      have : S.mc.getD k 0 = 0 := by
        rw [e1]
        have : ∀ u ∈ pt k, cnt u = 0 := fun u hu => hz u (List.mem_cons_of_mem _ (List.mem_flatMap.2 ⟨k, hk, hu⟩))
        rw [List.map_congr_left this]
        generalize pt k = q
        induction q with
        | nil => rfl
        | cons a q ih => rw [List.map_cons, List.sum_cons]; omega
      rw [e2, if_pos this]
    have htot : ((v :: K.flatMap pt).map wt).sum = wt v + (K.map fun k => S.sz.getD k 0).sum := by
      rw [List.map_cons, List.sum_cons, sum_flat]
      congr 2
      exact List.map_congr_left fun k hk => (hsz k hk).symm
    have hle : ((v :: K.flatMap pt).map wt).sum ≤ mostS := by
      have h1 := sum_le (f := wt) (B := far) fun k hk => (hw k (pin k hk)).2
      have h2 : ((v :: K.flatMap pt).length : Int) * far ≤ 16 * far := Int.mul_le_mul_of_nonneg_right (by omega) (by decide)
      have h3 : 16 * far ≤ mostS := by decide
      omega
    unfold GS.own
    rw [hK, htot]
    rw [htot] at hle
    refine foldl_sat (f := fun k => S.sz.getD k 0) (hw v hvo).1 (fun k hk => ?_) hle
    rw [hsz k hk]
    exact sum_nn fun u hu => (hw u (pin u (List.mem_cons_of_mem _ (List.mem_flatMap.2 ⟨k, hk, hu⟩)))).1
  have gset : ∀ {L : List Int} {x : Int} {u : Nat}, L.length = n → (L.set v x).getD u 0 = if u = v then x else L.getD u 0 := fun {L x u} hL => by
    by_cases h : u = v
    · subst h; rw [if_pos rfl, List.getD_eq_getElem?_getD, List.getElem?_set_self (by omega)]; rfl
    · rw [if_neg h, List.getD_eq_getElem?_getD, List.getElem?_set_ne (fun e => h e.symm), ← List.getD_eq_getElem?_getD]
  have smk : ∀ u, (S.step (parT l t) wt v).mc.getD u 0 = if u = v then S.mcs v else S.mc.getD u 0 := fun u => gset H.ml
  have ssz : ∀ u, (S.step (parT l t) wt v).sz.getD u 0 = if u = v then (if S.mcs v = 0 then S.own wt v else 0) else S.sz.getD u 0 := fun u => by
    show (if S.mcs v = 0 then S.sz.set v (S.own wt v) else S.sz).getD u 0 = _
    by_cases h0 : S.mcs v = 0
    · rw [if_pos h0, if_pos h0]; exact gset H.sl
    · rw [if_neg h0, if_neg h0]
      by_cases h : u = v
      · rw [if_pos h, h]; exact o1
      · rw [if_neg h]
  refine ⟨fun x => ?_, ?_, ?_, fun u hu hd => ?_, ⟨fun u => if u = v then v :: K.flatMap pt else pt u, fun u hu => ?_⟩⟩
  · rw [List.filter_append, ← H.kd]
    show updK S.kd v (parT l t v) x = _
    cases hp : parT l t v with
    | none => simp [updK, hp]
    | some p =>
      by_cases hx : x = p
      · subst hx; simp [updK, hp]
      · have : ¬ p = x := fun e => hx e.symm
        simp [updK, hp, hx, this]
  · show (if S.mcs v = 0 then S.sz.set v (S.own wt v) else S.sz).length = n
    split
    · rw [List.length_set]; exact H.sl
    · exact H.sl
  · show (S.mc.set v _).length = n
    rw [List.length_set]; exact H.ml
  · have hne : u ≠ v := fun e => hd (by rw [e]; simp)
    have := H.out u hu fun h => hd (List.mem_append_left _ h)
    rw [ssz, smk, if_neg hne, if_neg hne]
    exact this
  · rw [ssz, smk]
    by_cases h : u = v
    · subst h
      simp only [if_pos]
      refine ⟨pn, pm, hmks, ?_⟩
      by_cases h0 : S.mcs u = 0
      · rw [if_pos h0, if_pos h0]; exact hown h0
      · rw [if_neg h0, if_neg h0]
    · have hu' : u ∈ post.reverse := by
        rcases List.mem_append.1 hu with h' | h'
        · exact h'
        · exact absurd (List.mem_singleton.1 h') h
      simp only [if_neg h]
      exact hpt u hu'

/-- All that is told of sizes. -/
theorem GI.all (T : TreeOf l A.f A.t n s t) (hn : n ≤ 16) (hw : ∀ v ∈ t.order, 0 ≤ wt v ∧ wt v ≤ far) (hc : ∀ v, 0 ≤ cnt v) {S : GS} (H : GI (parT l t) n wt cnt [] S) : ∀ {post pre : List Nat}, t.order = pre ++ post → GI (parT l t) n wt cnt post.reverse (post.reverse.foldl (GS.step (parT l t) wt) S)
  | [], pre, _ => H
  | v :: post, pre, he => by
    have ih := GI.all T hn hw hc H (post := post) (pre := pre ++ [v]) (by rw [he]; simp)
    rw [List.reverse_cons, List.foldl_append]
    exact ih.step T hn hw hc he

end
end Go.Mh

/-! The next mark. -/
namespace Go.Mh
open Go

def ovr (f : Nat → Int) (v : Nat) : Option Nat → Bool
  | none => true
  | some w => decide (f w < f v ∨ (f v = f w ∧ v < w))
def bst1 (f : Nat → Int) (b : Option Nat) (v : Nat) : Option Nat := if 0 < f v ∧ ovr f v b = true then some v else b
/-- The one that has the most, the least number of several. -/
def bestS (f : Nat → Int) (l : List Nat) : Option Nat := l.foldl (bst1 f) none

def IsBest (f : Nat → Int) (l : List Nat) (b : Option Nat) : Prop :=
  (b = none ∧ ∀ v ∈ l, f v ≤ 0) ∨ ∃ w, b = some w ∧ w ∈ l ∧ 0 < f w ∧ ∀ v ∈ l, f v < f w ∨ (f v = f w ∧ w ≤ v)

theorem isBest_step {f : Nat → Int} {l : List Nat} {b : Option Nat} {v : Nat} (h : IsBest f l b) : IsBest f (l ++ [v]) (bst1 f b v) := by
  unfold bst1
  rcases h with ⟨rfl, h⟩ | ⟨w, rfl, h1, h2, h3⟩
  · by_cases hv : 0 < f v
    · rw [if_pos ⟨hv, rfl⟩]
      refine .inr ⟨v, rfl, by simp, hv, fun u hu => ?_⟩
      rcases List.mem_append.1 hu with hu | hu
      · exact .inl (by have := h u hu; omega)
      · rw [List.mem_singleton.1 hu]; exact .inr ⟨rfl, Nat.le_refl _⟩
    · rw [if_neg fun h => hv h.1]
      refine .inl ⟨rfl, fun u hu => ?_⟩
      rcases List.mem_append.1 hu with hu | hu
      · exact h u hu
      · rw [List.mem_singleton.1 hu]; omega
  · by_cases hc : 0 < f v ∧ (f w < f v ∨ (f v = f w ∧ v < w))
    · rw [if_pos ⟨hc.1, decide_eq_true hc.2⟩]
      refine .inr ⟨v, rfl, by simp, hc.1, fun u hu => ?_⟩
      rcases List.mem_append.1 hu with hu | hu
      · have := h3 u hu; omega
      · rw [List.mem_singleton.1 hu]; exact .inr ⟨rfl, Nat.le_refl _⟩
    · rw [if_neg fun h => hc ⟨h.1, of_decide_eq_true h.2⟩]
      refine .inr ⟨w, rfl, List.mem_append_left _ h1, h2, fun u hu => ?_⟩
      rcases List.mem_append.1 hu with hu | hu
      · exact h3 u hu
      · rw [List.mem_singleton.1 hu]; omega

theorem bestS_is {f : Nat → Int} : ∀ {l : List Nat}, IsBest f l (bestS f l) := by
  have : ∀ {l l0 : List Nat} {b : Option Nat}, IsBest f l0 b → IsBest f (l0 ++ l) (l.foldl (bst1 f) b) := by
    intro l
    induction l with
    | nil => intro l0 b h; rw [List.append_nil]; exact h
    | cons v l ih =>
      intro l0 b h
      have := ih (isBest_step (v := v) h)
      rw [List.append_assoc] at this
      exact this
  intro l
  have := this (l := l) (l0 := []) (b := none) (.inl ⟨rfl, fun v h => by cases h⟩)
  exact this

theorem IsBest.uniq {f : Nat → Int} {l l' : List Nat} {b b' : Option Nat} (h : IsBest f l b) (h' : IsBest f l' b') (hl : ∀ v, 0 < f v → (v ∈ l ↔ v ∈ l')) : b = b' := by
  rcases h with ⟨rfl, h⟩ | ⟨w, rfl, h1, h2, h3⟩ <;> rcases h' with ⟨rfl, h'⟩ | ⟨w', rfl, h1', h2', h3'⟩
  · rfl
  · have := h w' ((hl _ h2').2 h1'); omega
  · have := h' w ((hl _ h2).1 h1); omega
  · have a := h3 w' ((hl _ h2').2 h1')
    have b := h3' w ((hl _ h2).1 h1)
    exact congrArg some (by omega)

theorem bestS_snoc {f : Nat → Int} {l : List Nat} {v : Nat} : bestS f (l ++ [v]) = bst1 f (bestS f l) v := by simp [bestS]

/-- Down to where no kid has any. -/
def down (f : Nat → Int) (kd : Nat → List Nat) : Nat → Nat → Nat
  | 0, v => v
  | k + 1, v => match bestS f (kd v) with
    | none => v
    | some w => down f kd k w

/-- The least number that is no mark. -/
def freeM (ms : List Nat) : Nat → Nat → Nat
  | 0, v => v
  | k + 1, v => if v ∈ ms then freeM ms k (v + 1) else v

theorem down_pos {f : Nat → Int} {kd : Nat → List Nat} : ∀ {k v : Nat}, 0 < f v → 0 < f (down f kd k v)
  | 0, _, h => h
  | k + 1, v, h => by
    unfold down
    rcases bestS_is (f := f) (l := kd v) with ⟨e, _⟩ | ⟨w, e, _, h2, _⟩
    · rw [e]; exact h
    · rw [e]; exact down_pos h2

/-- With an order that the kids follow, the way down ends. -/
theorem down_end {f : Nat → Int} {kd : Nat → List Nat} {ix : Nat → Nat} {n : Nat} (hk : ∀ v, ∀ w ∈ kd v, ix v < ix w ∧ ix w < n) : ∀ {k v : Nat}, n ≤ k + ix v → bestS f (kd (down f kd k v)) = none
  | 0, v, h => by
    rcases bestS_is (f := f) (l := kd v) with ⟨e, _⟩ | ⟨w, _, h1, _, _⟩
    · exact e
    · have := hk v w h1; omega
  | k + 1, v, h => by
    unfold down
    cases e : bestS f (kd v) with
    | none => exact e
    | some w =>
      refine down_end hk ?_
      rcases bestS_is (f := f) (l := kd v) with ⟨e', _⟩ | ⟨w', e', h1, _, _⟩
      · rw [e] at e'; cases e'
      · rw [e] at e'; cases e'
        have := hk v w h1; omega

theorem down_last {f : Nat → Int} {kd : Nat → List Nat} : ∀ {k v : Nat}, bestS f (kd v) = none → down f kd k v = v
  | 0, _, _ => rfl
  | k + 1, v, h => by unfold down; rw [h]

theorem range_len : ∀ {v : Nat} {ms : List Nat}, (∀ u, u < v → u ∈ ms) → (List.range v).length ≤ ms.length
  | 0, _, _ => Nat.zero_le _
  | v + 1, ms, h => by
    have h1 := range_len (v := v) (ms := ms.erase v) fun u hu => (List.mem_erase_of_ne (by omega)).2 (h u (by omega))
    have h2 := List.length_erase_of_mem (h v (by omega))
    have h3 : 0 < ms.length := List.length_pos_of_mem (h v (by omega))
    rw [List.length_range] at h1 ⊢
    omega

theorem freeM_spec {ms : List Nat} : ∀ {k v : Nat}, (∀ u, u < v → u ∈ ms) → ms.length < k + v → (ms.Nodup) → freeM ms k v ∉ ms ∧ (∀ u, u < freeM ms k v → u ∈ ms) ∧ freeM ms k v ≤ ms.length
  | 0, v, h, hl, hn => by
    have : (List.range v).length ≤ ms.length := by
      exact range_len h
    rw [List.length_range] at this
    omega
  | k + 1, v, h, hl, hn => by
    unfold freeM
    by_cases hv : v ∈ ms
    · rw [if_pos hv]
      exact freeM_spec (fun u hu => by
        by_cases e : u = v
        · rw [e]; exact hv
        · exact h u (by omega)) (by omega) hn
    · rw [if_neg hv]
      refine ⟨hv, h, ?_⟩
      have : (List.range v).length ≤ ms.length := by
        exact range_len h
      rwa [List.length_range] at this

end Go.Mh

/-! Sizes and marks, whole. -/
namespace Go.Mh
open Go

section
variable {l : List A} {n s : Nat} {t : Tr}

def kidsR (par : Nat → Option Nat) (n u : Nat) : List Nat := (List.range n).filter fun w => decide (par w = some u)

/-- A part, by breadth. -/
structure BfsI (par : Nat → Option Nat) (n v i : Nat) (out : List Nat) : Prop where
  nd : out.Nodup
  ds : ∀ u ∈ out, Desc par v u
  me : v ∈ out
  cl : ∀ u ∈ out.take i, ∀ w ∈ kidsR par n u, w ∈ out
  pr : ∀ w ∈ out, w ≠ v → ∃ u ∈ out.take i, par w = some u

theorem BfsI.start {par : Nat → Option Nat} {v : Nat} : BfsI par n v 0 [v] :=
  ⟨by simp, fun u hu => by rw [List.mem_singleton.1 hu]; exact .refl, by simp, fun u hu => by simp at hu, fun w hw hne => absurd (List.mem_singleton.1 hw) hne⟩

theorem BfsI.step (T : TreeOf l A.f A.t n s t) {v i : Nat} {out : List Nat} (H : BfsI (parT l t) n v i out) (hi : i < out.length) : BfsI (parT l t) n v (i + 1) (out ++ kidsR (parT l t) n out[i]) := by
  have hm : ∀ w, w ∈ kidsR (parT l t) n out[i] ↔ w < n ∧ parT l t w = some out[i] := fun w => by
    unfold kidsR; rw [List.mem_filter, List.mem_range, decide_eq_true_eq]
  have htk : (out ++ kidsR (parT l t) n out[i]).take (i + 1) = out.take i ++ [out[i]] := by
    rw [List.take_append_of_le_length (by omega), List.take_succ_eq_append_getElem hi]
  have hio : out[i] ∈ out := List.getElem_mem hi
  refine ⟨?_, fun u hu => ?_, List.mem_append_left _ H.me, fun u hu w hw => ?_, fun w hw hne => ?_⟩
  · refine List.nodup_append.2 ⟨H.nd, List.Pairwise.filter _ List.nodup_range, fun a ha b hb e => ?_⟩
    subst e
    obtain ⟨_, hp⟩ := (hm a).1 hb
    have ip := (par_some T hp).2.2.2
    by_cases hv : a = v
    · subst hv
      have := desc_idx T (H.ds _ hio)
      omega
    · obtain ⟨u, hu, hpu⟩ := H.pr a ha hv
      obtain rfl := Option.some.inj (hp.symm.trans hpu)
      obtain ⟨j, hj, e⟩ := List.mem_take_iff_getElem.1 hu
      have := (List.getElem_inj H.nd).1 e
      omega
  · rcases List.mem_append.1 hu with hu | hu
    · exact H.ds u hu
    · exact .step ((hm u).1 hu).2 (H.ds _ hio)
  · rw [htk] at hu
    rcases List.mem_append.1 hu with hu | hu
    · exact List.mem_append_left _ (H.cl u hu w hw)
    · rw [List.mem_singleton.1 hu] at hw
      exact List.mem_append_right _ hw
  · rw [htk]
    rcases List.mem_append.1 hw with hw | hw
    · obtain ⟨u, hu, hp⟩ := H.pr w hw hne
      exact ⟨u, List.mem_append_left _ hu, hp⟩
    · exact ⟨out[i], List.mem_append_right _ List.mem_cons_self, ((hm w).1 hw).2⟩

theorem BfsI.len (T : TreeOf l A.f A.t n s t) {v i : Nat} {out : List Nat} (H : BfsI (parT l t) n v i out) (hv : v ∈ t.order) : out.length ≤ n :=
  nodup_le H.nd fun u hu => T.range u (desc_in T (H.ds u hu) hv)

theorem BfsI.fin (T : TreeOf l A.f A.t n s t) {v i : Nat} {out : List Nat} (H : BfsI (parT l t) n v i out) (hi : out.length ≤ i) : ∀ u, u ∈ out ↔ Desc (parT l t) v u := by
  intro u
  refine ⟨H.ds u, fun h => ?_⟩
  induction h with
  | refl => exact H.me
  | step hp _ ih =>
    refine H.cl _ (by rw [List.take_of_length_le hi]; exact ih) _ ?_
    unfold kidsR
    rw [List.mem_filter, List.mem_range, decide_eq_true_eq]
    exact ⟨T.range _ (par_some T hp).1, hp⟩

theorem sum_perm {f : Nat → Int} {p q : List Nat} (hp : p.Nodup) (hq : q.Nodup) (h : ∀ u, u ∈ p ↔ u ∈ q) : (p.map f).sum = (q.map f).sum := by
  have : p.Perm q := (List.perm_ext_iff_of_nodup hp hq).2 h
  clear hp hq h
  induction this with
  | nil => rfl
  | cons x _ ih => rw [List.map_cons, List.map_cons, List.sum_cons, List.sum_cons, ih]
  | swap x y l => simp only [List.map_cons, List.sum_cons]; omega
  | trans _ _ ih1 ih2 => exact ih1.trans ih2
end

/-! ### Of a graph -/

def wtA (g : G) (ms : List Nat) (r v : Nat) : Int := if v ≠ r then dAt (g.from r).dist v - bnd g ms r v else 0
def cntA (ms : List Nat) (v : Nat) : Int := (ms.count v : Int)
abbrev parA (g : G) (r : Nat) : Nat → Option Nat := parT g.arcs (g.from r)
def growZ (n : Nat) (ms : List Nat) : GS := ⟨List.replicate n 0, (List.range n).map (cntA ms), fun _ => []⟩
def growA (g : G) (ms : List Nat) (r : Nat) : GS := (g.from r).order.reverse.foldl (GS.step (parA g r) (wtA g ms r)) (growZ g.n ms)
def szA (g : G) (ms : List Nat) (r v : Nat) : Int := (growA g ms r).sz.getD v 0

section
variable {g : G} {r v m : Nat} {ms : List Nat}

theorem wtA_rng (hR : g.Right) (hr : r < g.n) (hm : ∀ m ∈ ms, m < g.n) : ∀ v ∈ (g.from r).order, 0 ≤ wtA g ms r v ∧ wtA g ms r v ≤ far := fun v hv => by
  have T := from_tree hR hr
  have hvn := T.range v hv
  have h1 := bnd_le hR hr hvn hm
  have h2 := bnd_nonneg (g := g) (r := r) (v := v) (ms := ms)
  have h3 := T.ls.far_le hvn
  have hfar : far = 72057594037927936 := rfl
  unfold wtA
  split <;> omega

theorem growA_gi (hR : g.Right) (hn : g.n ≤ 16) (hr : r < g.n) (hm : ∀ m ∈ ms, m < g.n) : GI (parA g r) g.n (wtA g ms r) (cntA ms) (g.from r).order.reverse (growA g ms r) := by
  have T := from_tree hR hr
  refine GI.all T hn (wtA_rng hR hr hm) (fun v => by unfold cntA; omega) (S := growZ g.n ms) ?_ (pre := []) rfl
  refine ⟨fun x => rfl, by simp [growZ], by simp [growZ], fun v hv _ => ⟨?_, ?_⟩, fun _ => [], fun v hv => by simp at hv⟩
  · simp [growZ, List.getD_eq_getElem?_getD, hv]
  · simp [growZ, List.getD_eq_getElem?_getD, hv]

/-- What a size is. -/
theorem szA_in (hR : g.Right) (hn : g.n ≤ 16) (hr : r < g.n) (hm : ∀ m ∈ ms, m < g.n) (hv : v ∈ (g.from r).order) : ∃ p : List Nat, p.Nodup ∧ (∀ u, u ∈ p ↔ Desc (parA g r) v u) ∧
    ((∃ u ∈ p, u ∈ ms) → szA g ms r v = 0) ∧ ((∀ u ∈ p, u ∉ ms) → szA g ms r v = (p.map (wtA g ms r)).sum) := by
  obtain ⟨pt, hpt⟩ := (growA_gi hR hn hr hm).done
  obtain ⟨h1, h2, h3, h4⟩ := hpt v (List.mem_reverse.2 hv)
  refine ⟨pt v, h1, h2, fun ⟨u, hu, hum⟩ => ?_, fun hno => ?_⟩
  · have : (growA g ms r).mc.getD v 0 ≠ 0 := fun e => by
      have := sum_zero (f := cntA ms) (fun k _ => by unfold cntA; omega) (h3.symm.trans e) u hu
      unfold cntA at this
      have := List.count_pos_iff.2 hum
      omega
    unfold szA; rw [h4, if_neg this]
  · have : (growA g ms r).mc.getD v 0 = 0 := by
      rw [h3]
      have : ∀ u ∈ pt v, cntA ms u = 0 := fun u hu => by unfold cntA; rw [List.count_eq_zero.2 (hno u hu)]; rfl
      rw [List.map_congr_left this]
      generalize pt v = q
      induction q with
      | nil => rfl
      | cons a q ih => rw [List.map_cons, List.sum_cons]; omega
    unfold szA; rw [h4, if_pos this]

theorem szA_out (hR : g.Right) (hn : g.n ≤ 16) (hr : r < g.n) (hm : ∀ m ∈ ms, m < g.n) (hv : v < g.n) (ho : v ∉ (g.from r).order) : szA g ms r v = 0 :=
  ((growA_gi hR hn hr hm).out v hv (by simpa using ho)).1

theorem kdA (hR : g.Right) (hn : g.n ≤ 16) (hr : r < g.n) (hm : ∀ m ∈ ms, m < g.n) {w : Nat} : w ∈ (growA g ms r).kd v ↔ parA g r w = some v := by
  rw [(growA_gi hR hn hr hm).kd, List.mem_filter, List.mem_reverse, decide_eq_true_eq]
  exact ⟨fun h => h.2, fun h => ⟨(par_some (from_tree hR hr) h).1, h⟩⟩

theorem szA_pos (hR : g.Right) (hn : g.n ≤ 16) (hr : r < g.n) (hm : ∀ m ∈ ms, m < g.n) (hv : v ∈ (g.from r).order) (h : 0 < szA g ms r v) : v ∉ ms := fun hvm => by
  obtain ⟨p, _, h2, h3, _⟩ := szA_in hR hn hr hm hv
  have := h3 ⟨v, (h2 v).2 .refl, hvm⟩
  omega

/-- At the end of the way down a node has a bound below its distance. -/
theorem szA_gain (hR : g.Right) (hn : g.n ≤ 16) (hr : r < g.n) (hm : ∀ m ∈ ms, m < g.n) (hv : v ∈ (g.from r).order) (h : 0 < szA g ms r v) (hk : ∀ w, parA g r w = some v → szA g ms r w ≤ 0) : bnd g ms r v < dAt (g.from r).dist v := by
  have T := from_tree hR hr
  obtain ⟨p, h1, h2, h3, h4⟩ := szA_in hR hn hr hm hv
  have hno : ∀ u ∈ p, u ∉ ms := fun u hu hum => by have := h3 ⟨u, hu, hum⟩; omega
  rw [h4 hno] at h
  have hz : ∀ u ∈ p, u ≠ v → wtA g ms r u = 0 := fun u hu hne => by
    rcases desc_kid.1 ((h2 u).1 hu) with e | ⟨k, hk1, hk2⟩
    · exact absurd e hne
    · have hko := (par_some T hk1).1
      obtain ⟨q, q1, q2, _, q4⟩ := szA_in hR hn hr hm hko
      have e := q4 fun x hx => hno x ((h2 x).2 (((q2 x).1 hx).up hk1))
      have hle := hk k hk1
      rw [e] at hle
      have hnn : ∀ x ∈ q, 0 ≤ wtA g ms r x := fun x hx => (wtA_rng hR hr hm x (desc_in T ((q2 x).1 hx) hko)).1
      have := sum_nn hnn
      exact sum_zero hnn (by omega) u ((q2 u).2 hk2)
  have hs : (p.map (wtA g ms r)).sum = wtA g ms r v := by
    have hvp := (h2 v).2 .refl
    have := sum_perm (f := wtA g ms r) h1 (q := v :: p.erase v) (List.nodup_cons.2 ⟨fun h => by rw [h1.mem_erase_iff] at h; exact h.1 rfl, h1.erase v⟩) fun u => by
      rw [List.mem_cons, h1.mem_erase_iff]
      by_cases e : u = v
      · rw [e]; exact ⟨fun _ => .inl rfl, fun _ => hvp⟩
      · exact ⟨fun h => .inr ⟨e, h⟩, fun h => (h.resolve_left e).2⟩
    rw [this, List.map_cons, List.sum_cons]
    have hz' : ((p.erase v).map (wtA g ms r)).sum = 0 := by
      have hz2 : ∀ u ∈ p.erase v, wtA g ms r u = 0 := fun u hu => by
        rw [h1.mem_erase_iff] at hu
        exact hz u hu.2 hu.1
      rw [List.map_congr_left hz2]
      generalize p.erase v = q
      induction q with
      | nil => rfl
      | cons a q ih => rw [List.map_cons, List.sum_cons]; omega
    omega
  rw [hs] at h
  unfold wtA at h
  split at h <;> omega

/-- The next mark. -/
def nextA (g : G) (ms : List Nat) (r : Nat) : Nat := match bestS (szA g ms r) (g.from r).order with
  | none => freeM ms (g.n + 1) 0
  | some v => down (szA g ms r) (growA g ms r).kd g.n v

theorem nextA_spec (hR : g.Right) (hn : g.n ≤ 16) (hr : r < g.n) (hm : ∀ m ∈ ms, m < g.n) (hnd : ms.Nodup) (hl : ms.length < g.n) :
    nextA g ms r < g.n ∧ nextA g ms r ∉ ms ∧ ((∃ v, v < g.n ∧ 0 < szA g ms r v) → 0 < szA g ms r (nextA g ms r) ∧ bnd g ms r (nextA g ms r) < dAt (g.from r).dist (nextA g ms r) ∧ dAt (g.from r).dist (nextA g ms r) < far) := by
  have T := from_tree hR hr
  have hino : ∀ v, v < g.n → 0 < szA g ms r v → v ∈ (g.from r).order := fun v hv h => by
    by_cases ho : v ∈ (g.from r).order
    · exact ho
    · have := szA_out hR hn hr hm hv ho; omega
  unfold nextA
  rcases bestS_is (f := szA g ms r) (l := (g.from r).order) with ⟨e, h⟩ | ⟨w, e, h1, h2, h3⟩
  · rw [e]
    dsimp only
    obtain ⟨f1, _, f3⟩ := freeM_spec (ms := ms) (k := g.n + 1) (v := 0) (fun u hu => by omega) (by omega) hnd
    refine ⟨by omega, f1, fun ⟨v, hv, hp⟩ => ?_⟩
    have := h v (hino v hv hp); omega
  · rw [e]
    dsimp only
    have hkd : ∀ v, ∀ w ∈ (growA g ms r).kd v, (g.from r).order.idxOf v < (g.from r).order.idxOf w ∧ (g.from r).order.idxOf w < g.n := fun v w hw => by
      obtain ⟨q1, _, _, q4⟩ := par_some T ((kdA hR hn hr hm).1 hw)
      exact ⟨q4, Nat.lt_of_lt_of_le (List.idxOf_lt_length_of_mem q1) (nodup_le T.nodup T.range)⟩
    have hpos := down_pos (kd := (growA g ms r).kd) (k := g.n) h2
    have hend := down_end (f := szA g ms r) hkd (k := g.n) (v := w) (by omega)
    have hord : ∀ k v, v ∈ (g.from r).order → down (szA g ms r) (growA g ms r).kd k v ∈ (g.from r).order := fun k => by
      induction k with
      | zero => exact fun v h => h
      | succ k ih =>
        intro v hv
        unfold down
        rcases bestS_is (f := szA g ms r) (l := (growA g ms r).kd v) with ⟨e, _⟩ | ⟨w, e, h1, _, _⟩
        · rw [e]; exact hv
        · rw [e]; exact ih w (par_some T ((kdA hR hn hr hm).1 h1)).1
    have ho := hord g.n w h1
    generalize down (szA g ms r) (growA g ms r).kd g.n w = x at hpos hend ho
    refine ⟨T.range x ho, szA_pos hR hn hr hm ho hpos, fun _ => ⟨hpos, szA_gain hR hn hr hm ho hpos fun w hw => ?_, (T.reached x (T.range x ho)).1 ho⟩⟩
    rcases bestS_is (f := szA g ms r) (l := (growA g ms r).kd x) with ⟨_, h⟩ | ⟨_, e, _⟩
    · exact h w ((kdA hR hn hr hm).2 hw)
    · rw [hend] at e; cases e

end
end Go.Mh

/-! Marks, by draws. -/
namespace Go.Mh
open Go

/-- The root of a draw. -/
def rootA (xs : List Int) (n i : Nat) : Nat := ((xs[i]?.map fun (x : Int) => x.tmod n).getD 0).toNat
def mksA (g : G) (xs : List Int) : Nat → List Nat
  | 0 => []
  | k + 1 => mksA g xs k ++ [if k = 0 then rootA xs g.n 0 else nextA g (mksA g xs k) (rootA xs g.n k)]

section
variable {g : G} {xs : List Int} {n k i : Nat}

theorem rootA_lt (hn : 0 < n) (hx : ∀ x ∈ xs, 0 ≤ x) : rootA xs n i < n := by
  unfold rootA
  cases h : xs[i]? with
  | none => simpa using hn
  | some x =>
    have h0 := hx x (List.mem_of_getElem? h)
    have h1 := Int.tmod_lt_of_pos x (show (0 : Int) < n by omega)
    have h2 := Int.tmod_nonneg (n : Int) h0
    show (x.tmod n).toNat < n
    omega

theorem mksA_len : ∀ {k : Nat}, (mksA g xs k).length = k
  | 0 => rfl
  | k + 1 => by unfold mksA; rw [List.length_append, mksA_len]; rfl

theorem mksA_take : ∀ {k : Nat}, i ≤ k → (mksA g xs k).take i = mksA g xs i
  | 0, h => by have : i = 0 := by omega
               subst this; rfl
  | k + 1, h => by
    by_cases e : i = k + 1
    · subst e; rw [List.take_of_length_le (by rw [mksA_len]; exact Nat.le_refl _)]
    · conv => lhs; unfold mksA
      rw [List.take_append_of_le_length (by rw [mksA_len]; omega)]
      exact mksA_take (by omega)

theorem mksA_get (h : i < k) : (mksA g xs k)[i]? = some (if i = 0 then rootA xs g.n 0 else nextA g (mksA g xs i) (rootA xs g.n i)) := by
  have e : (mksA g xs (i + 1))[i]? = some (if i = 0 then rootA xs g.n 0 else nextA g (mksA g xs i) (rootA xs g.n i)) := by
    conv => lhs; unfold mksA
    rw [List.getElem?_append_right (by rw [mksA_len]; exact Nat.le_refl _), mksA_len, Nat.sub_self]; rfl
  rw [← e, ← mksA_take (i := i + 1) (k := k) (by omega), List.getElem?_take_of_lt (by omega)]

theorem mksA_ok (hR : g.Right) (hn : g.n ≤ 16) (hx : ∀ x ∈ xs, 0 ≤ x) : ∀ {k : Nat}, k ≤ g.n → (mksA g xs k).Nodup ∧ ∀ m ∈ mksA g xs k, m < g.n
  | 0, _ => ⟨by simp [mksA], fun m h => by simp [mksA] at h⟩
  | k + 1, h => by
    obtain ⟨h1, h2⟩ := mksA_ok hR hn hx (k := k) (by omega)
    have hr : rootA xs g.n k < g.n := rootA_lt (by omega) hx
    unfold mksA
    by_cases hk : k = 0
    · subst hk
      rw [if_pos rfl]
      refine ⟨by simp [mksA], fun m hm => ?_⟩
      have : m = rootA xs g.n 0 := by simpa [mksA] using hm
      rw [this]; exact hr
    · rw [if_neg hk]
      obtain ⟨n1, n2, _⟩ := nextA_spec hR hn hr h2 h1 (by rw [mksA_len]; omega)
      refine ⟨List.nodup_append.2 ⟨h1, by simp, fun a ha b hb e => ?_⟩, fun m hm => ?_⟩
      · rw [List.mem_singleton.1 hb] at e
        exact n2 (e ▸ ha)
      · rcases List.mem_append.1 hm with hm | hm
        · exact h2 m hm
        · rw [List.mem_singleton.1 hm]; exact n1

end
end Go.Mh

namespace Go.Mh
open Go

/-- Those of some numbers that are nodes. -/
def mksZ (n : Nat) (l : List Int) : List Nat := (l.filter fun (z : Int) => decide (0 ≤ z ∧ z < n)).map Int.toNat
theorem mksZ_lt {n : Nat} {l : List Int} : ∀ m ∈ mksZ n l, m < n := fun m hm => by
  obtain ⟨z, hz, rfl⟩ := List.mem_map.1 hm
  have := of_decide_eq_true (List.mem_filter.1 hz).2
  omega
theorem mksZ_snoc {n : Nat} {l : List Int} {z : Int} : mksZ n (l ++ [z]) = mksZ n l ++ (if 0 ≤ z ∧ z < n then [z.toNat] else []) := by
  unfold mksZ
  rw [List.filter_append, List.map_append]
  congr 1
  by_cases h : 0 ≤ z ∧ z < n
  · simp only [if_pos h, List.filter_cons, List.filter_nil, decide_eq_true_eq, List.map_cons, List.map_nil]
  · simp only [if_neg h, List.filter_cons, List.filter_nil, decide_eq_true_eq, List.map_nil]
theorem mksZ_nI {n : Nat} {l : List Nat} (h : ∀ m ∈ l, m < n) : mksZ n (nI l) = l := by
  unfold mksZ nI
  rw [List.filter_eq_self.2 (fun z hz => by obtain ⟨m, hm, rfl⟩ := List.mem_map.1 hz; have := h m hm; exact decide_eq_true ⟨by omega, by omega⟩), List.map_map]
  simp [Function.comp_def]

/-- The chapter's example. -/
def gW : G := ⟨4, [0, 0, 0, 0], [0, 0, 0, 0], [⟨0, 1, 5⟩, ⟨1, 2, 4⟩, ⟨0, 3, 1⟩, ⟨3, 0, 2⟩]⟩
theorem gW_right : gW.Right := ⟨by decide, by decide, rfl, rfl, by decide, by decide, by decide, by decide +kernel⟩
theorem gW_marks1 : mksA gW [6] 1 = [2] := by decide +kernel
theorem gW_bound : bnd gW [2] 0 2 = 9 ∧ bnd gW [2] 0 1 = 5 ∧ bnd gW [2] 0 3 = 0 := by decide +kernel
theorem gW_sizes : (List.range 4).map (szA gW [2] 0) = [0, 0, 0, 1] := by decide +kernel
theorem gW_marks2 : mksA gW [6, 0] 2 = [2, 3] := by decide +kernel

end Go.Mh
