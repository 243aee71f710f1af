/- Texts of the proofs of seat YtmdldoolnhpaeaaGreatDoor, joined: Own, OwnS, Graph, Rows, Flood, Dijk, Dijk2, Turn, Bell, Tight, Moves, Trail, TightW, Cells, Far, Far2, KMap, OwnM, Ev, Both, Steps, Both2, Both3, Both4, Follow, Meet, Avoid, Avoid2, Avoid3, Avoid4, NumV, Avoid5, Avoid6, Split, Split2, Grid, Plan, Build, OwnP. They have no conditions of their own. -/
import Derived.Test.YtmdldoolnhpaeaaGreatDoorMb
set_option linter.unusedVariables false
set_option linter.unusedSimpArgs false
set_option linter.unusedSectionVars false

namespace Go.Mh
open Go

structure Res where
 F : Nat -> Prop
 Q : Heap -> Prop
 st : ∀ {h h' : Heap}, (∀ b, F b -> h'[b]? = h[b]?) -> Q h -> Q h'

def nilR : Res := ⟨fun _ => False, fun _ => True, fun _ _ => trivial⟩

structure Own (h0 h : Heap) (L : List Res) : Prop where
 ext : Ext h0 h
 q : ∀ {i : Nat} {r : Res}, L[i]? = some r -> r.Q h /\ ∀ b, r.F b -> h0.size <= b /\ b < h.size
 ap : ∀ {i j : Nat} {r s : Res}, L[i]? = some r -> L[j]? = some s -> i ≠ j -> ∀ b, r.F b -> ¬ s.F b

section
variable {h0 h h' : Heap} {L L' : List Res} {r r' : Res} {i j : Nat}

theorem Own.start (h : Heap) : Own h h [] := ⟨.refl _ _, fun h => by simp at h, fun h => by simp at h⟩

theorem Own.get (o : Own h0 h L) (i : Nat) (hi : L[i]? = some r) : r.Q h := (o.q hi).1

theorem Own.more (o : Own h0 h L) (x : Ext h h') : Own h0 h' L :=
 ⟨o.ext.trans x fun _ hf _ => hf, fun hi => ⟨Res.st _ (fun b hb => x.same b ((o.q hi).2 b hb).2 id) (o.q hi).1, fun b hb => ⟨((o.q hi).2 b hb).1, Nat.lt_of_lt_of_le ((o.q hi).2 b hb).2 x.size⟩⟩, o.ap⟩

theorem Own.frame (o : Own h0 h L) (o' : Own h h' L') : Own h0 h' (L' ++ L) := by
 have o1 := o.more o'.ext
 refine ⟨o1.ext, fun {i r} hi => ?_, fun {i j r s} hi hj hne b hb hs => ?_⟩
 ·by_cases hlt : i < L'.length
  ·rw [List.getElem?_append_left hlt] at hi
   exact ⟨(o'.q hi).1, fun b hb => ⟨Nat.le_trans o.ext.size ((o'.q hi).2 b hb).1, ((o'.q hi).2 b hb).2⟩⟩
  ·rw [List.getElem?_append_right (by omega)] at hi
   exact o1.q hi
 ·by_cases h1 : i < L'.length <;> by_cases h2 : j < L'.length
  ·rw [List.getElem?_append_left h1] at hi
   rw [List.getElem?_append_left h2] at hj
   exact o'.ap hi hj hne b hb hs
  ·rw [List.getElem?_append_left h1] at hi
   rw [List.getElem?_append_right (by omega)] at hj
   have a := ((o'.q hi).2 b hb).1
   have c := ((o.q hj).2 b hs).2
   omega
  ·rw [List.getElem?_append_right (by omega)] at hi
   rw [List.getElem?_append_left h2] at hj
   have a := ((o'.q hj).2 b hs).1
   have c := ((o.q hi).2 b hb).2
   omega
  ·rw [List.getElem?_append_right (by omega)] at hi
   rw [List.getElem?_append_right (by omega)] at hj
   exact o.ap hi hj (by omega) b hb hs

theorem Own.set (o : Own h0 h L) (i : Nat) (hi : L[i]? = some r) (u : Upd r.F h h') (q : r'.Q h') (g : ∀ b, r'.F b -> (r.F b \/ h.size <= b) /\ b < h'.size) : Own h0 h' (L.set i r') := by
 have hlt : i < L.length := (List.getElem?_eq_some_iff.1 hi).1
 have key : ∀ {j s}, (L.set i r')[j]? = some s -> (j = i /\ s = r') \/ (j ≠ i /\ L[j]? = some s) := by
  intro j s hs
  by_cases e : j = i
  ·subst e
   rw [List.getElem?_set_self hlt] at hs
   exact .inl ⟨rfl, (Option.some.inj hs).symm⟩
  ·rw [List.getElem?_set_ne (fun e' => e e'.symm)] at hs
   exact .inr ⟨e, hs⟩
 refine ⟨o.ext.trans u fun b hb hlt => ?_, fun {j s} hs => ?_, fun {j k s t} hs ht hne b hb hb' => ?_⟩
 ·have := ((o.q hi).2 b hb).1; omega
 ·rcases key hs with ⟨rfl, rfl⟩ | ⟨hne, hs⟩
  ·refine ⟨q, fun b hb => ⟨?_, (g b hb).2⟩⟩
   rcases (g b hb).1 with h1 | h1
   ·exact ((o.q hi).2 b h1).1
   ·exact Nat.le_trans o.ext.size h1
  ·refine ⟨Res.st _ (fun b hb => u.same b ((o.q hs).2 b hb).2 (o.ap hs hi hne b hb)) (o.q hs).1, fun b hb => ⟨((o.q hs).2 b hb).1, Nat.lt_of_lt_of_le ((o.q hs).2 b hb).2 u.size⟩⟩
 ·rcases key hs with ⟨rfl, rfl⟩ | ⟨n1, hs1⟩ <;> rcases key ht with ⟨rfl, rfl⟩ | ⟨n2, ht1⟩
  ·exact hne rfl
  ·rcases (g b hb).1 with h1 | h1
   ·exact o.ap hi ht1 hne b h1 hb'
   ·have := ((o.q ht1).2 b hb').2; omega
  ·rcases (g b hb').1 with h1 | h1
   ·exact o.ap hs1 hi hne b hb h1
   ·have := ((o.q hs1).2 b hb).2; omega
  ·exact o.ap hs1 ht1 hne b hb hb'

theorem Own.cons (o : Own h0 h L) (x : Ext h h') (q : r.Q h') (g : ∀ b, r.F b -> h.size <= b /\ b < h'.size) : Own h0 h' (r :: L) :=
 o.frame (L' := [r]) ⟨x, fun {i s} hi => by
  cases i with
  | zero => simp at hi; subst hi; exact ⟨q, g⟩
  | succ i => simp at hi, fun {i j s t} hi hj hne => by
  cases i <;> cases j <;> simp at hi hj
  exact absurd rfl hne⟩

theorem Own.sel (o : Own h0 h L) (is : List Nat) (hn : is.Nodup) : Own h0 h (is.map fun i => L.getD i nilR) := by
 have key : ∀ {j : Nat} {s : Res}, (is.map fun i => L.getD i nilR)[j]? = some s -> s = nilR \/ ∃ i, is[j]? = some i /\ L[i]? = some s := by
  intro j s hs
  rw [List.getElem?_map, Option.map_eq_some_iff] at hs
  obtain ⟨i, hi, rfl⟩ := hs
  rw [List.getD_eq_getElem?_getD]
  cases hL : L[i]? with
  | none => exact .inl rfl
  | some s => exact .inr ⟨i, hi, hL⟩
 refine ⟨o.ext, fun {j s} hs => ?_, fun {j k s t} hs ht hne b hb hb' => ?_⟩
 ·rcases key hs with rfl | ⟨i, _, hi⟩
  ·exact ⟨trivial, fun b hb => hb.elim⟩
  ·exact o.q hi
 ·rcases key hs with rfl | ⟨a, ha, hs⟩
  ·exact hb.elim
  ·rcases key ht with rfl | ⟨c, hc, ht⟩
   ·exact hb'.elim
   ·refine o.ap hs ht (fun e => hne ?_) b hb hb'
    subst e
    have h1 := (List.getElem?_eq_some_iff.1 ha)
    have h2 := (List.getElem?_eq_some_iff.1 hc)
    exact (List.getElem_inj hn).1 (h1.2.trans h2.2.symm)

theorem Own.tail (o : Own h0 h (r :: L)) : Own h0 h L :=
 ⟨o.ext, fun {i _} hi => o.q (i := i + 1) hi, fun {i j _ _} hi hj hne => o.ap (i := i + 1) (j := j + 1) hi hj (by omega)⟩

theorem Own.left (o : Own h0 h (L ++ L')) : Own h0 h L := by
 have key : ∀ {j : Nat} {s : Res}, L[j]? = some s -> (L ++ L')[j]? = some s := fun {j s} hj => by
  rw [List.getElem?_append_left (List.getElem?_eq_some_iff.1 hj).1]; exact hj
 exact ⟨o.ext, fun hi => o.q (key hi), fun hi hj hne => o.ap (key hi) (key hj) hne⟩

theorem Own.erase (o : Own h0 h L) (k : Nat) : Own h0 h (L.eraseIdx k) := by
 have key : ∀ {j : Nat} {s : Res}, (L.eraseIdx k)[j]? = some s -> L[if j < k then j else j + 1]? = some s := fun {j s} hj => by
  rw [List.getElem?_eraseIdx] at hj
  split at hj <;> rename_i h1
  ·rw [if_pos h1]; exact hj
  ·rw [if_neg h1]; exact hj
 refine ⟨o.ext, fun hi => o.q (key hi), fun hi hj hne => o.ap (key hi) (key hj) fun e => hne ?_⟩
 split at e <;> split at e <;> omega

theorem Own.swap {s : Res} (o : Own h0 h (r :: s :: L)) : Own h0 h (s :: r :: L) := by
 let g : Nat -> Nat := fun | 0 => 1 | 1 => 0 | n => n
 have key : ∀ {j : Nat} {t : Res}, (s :: r :: L)[j]? = some t -> (r :: s :: L)[g j]? = some t := fun {j t} hj => by
  match j, hj with
  | 0, hj => exact hj
  | 1, hj => exact hj
  | n + 2, hj => exact hj
 refine ⟨o.ext, fun hi => o.q (key hi), fun {i j _ _} hi hj hne => o.ap (key hi) (key hj) fun e => hne ?_⟩
 match i, j, e with
 | 0, 0, _ => rfl
 | 1, 1, _ => rfl
 | 0, n + 2, e => exact absurd e (by simp [g])
 | n + 2, 0, e => exact absurd e (by simp [g])
 | 1, n + 2, e => exact absurd e (by simp [g])
 | n + 2, 1, e => exact absurd e (by simp [g])
 | n + 2, m + 2, e => exact e
 | 0, 1, e => exact absurd e (by simp [g])
 | 1, 0, e => exact absurd e (by simp [g])

end

def cellR (b : Nat) (cs : List Value) (T : TypeId) : Res := ⟨fun c => c = b, fun h => h[b]? = some (.cells cs.toArray T (0, 0)), fun hs hq => (hs b rfl).trans hq⟩
def objR (b : Nat) (o : Obj) : Res := ⟨fun c => c = b, fun h => h[b]? = some o, fun hs hq => (hs b rfl).trans hq⟩

section
variable {P : Program} {h0 h h' : Heap} {L : List Res} {i b off n : Nat} {cs : List Value} {T : TypeId} {v : Value} {K : Value -> Prop} {KH : KT} {KP : Heap -> Prop}

theorem Own.new {x : Obj} {r : Res} (o : Own h0 h L) (q : r.Q (h.push x)) (g : ∀ b, r.F b -> b = h.size) : Own h0 (h.push x) (r :: L) :=
 o.cons (Upd.push _ _ _) q fun b hb => by rw [g b hb, push_size]; omega

theorem Own.box (o : Own h0 h L) (hk : ∀ b h', Own h0 h' (cellR b v.cells.toList T :: L) -> KH (.pointer (some ⟨b, 0, none⟩)) h') : pBox T v h KH := by
 refine hk h.size _ (o.new ?_ fun b hb => hb)
 show (h.push _)[h.size]? = _
 rw [push_new]

theorem Own.load (o : Own h0 h L) (i : Nat) (hi : L[i]? = some (cellR b cs T)) (hv : cs[off]? = some v) (hk : K v) : pLoad h (.pointer (some ⟨b, off, none⟩)) K := by
 have : hcell h ⟨b, off, none⟩ = some v := hcell_of (o.get i hi) (by simpa using hv)
 simp only [pLoad_ptr, this]; exact hk

theorem Own.loadN (o : Own h0 h L) (i : Nat) (hi : L[i]? = some (cellR b cs T)) (hn : off + n <= cs.length) (hk : K (.agg ((cs.drop off).take n).toArray)) : pLoadN n h (.pointer (some ⟨b, off, none⟩)) K := by
 have : cellsAt h b off n = some ((cs.drop off).take n) := cellsAt_of (i := 0) (o.get i hi) n off hn
 simp only [pLoadN_ptr, this]; exact hk

theorem Own.store (o : Own h0 h L) (i : Nat) (hi : L[i]? = some (cellR b cs T)) (hn : v.cells.size = n) (hle : off + v.cells.size <= cs.length) (hp : ∀ u ∈ v.cells.toList, plainCell u = true)
  (hk : ∀ h', Own h0 h' (L.set i (cellR b (over cs off v.cells.toList) T)) -> KH undef h') : pStore n (.pointer (some ⟨b, off, none⟩)) v h KH := by
 have hb : h[b]? = some (.cells cs.toArray T (0, 0)) := o.get i hi
 have hlt := ((o.q hi).2 b rfl).2
 refine pStore_of rfl hb hn hle hp (hk _ (o.set i hi (Upd.upd _ _ rfl) ?_ fun c hc => ⟨.inl hc, ?_⟩))
 ·exact upd_self hlt
 ·rw [upd_size]; exact (show c = b from hc) ▸ hlt

theorem Own.put (o : Own h0 h L) (i : Nat) (hi : L[i]? = some (cellR b cs T)) (hv : v.cells = #[v]) (hle : off < cs.length) (hp : plainCell v = true)
  (hk : ∀ h', Own h0 h' (L.set i (cellR b (over cs off [v]) T)) -> KH undef h') : pStore 1 (.pointer (some ⟨b, off, none⟩)) v h KH :=
 o.store i hi (by rw [hv]; rfl) (by rw [hv]; exact hle) (by rw [hv]; simpa using hp) (by rw [hv]; exact hk)

def markR (D : Nat) : Res := objR D (.deferred (some []))
def marksR (m : List Nat) : Res := ⟨fun c => c ∈ m, fun h => m.Nodup /\ ∀ D ∈ m, h[D]? = some (.deferred (some [])), fun hs hq => ⟨hq.1, fun D hD => (hs D hD).trans (hq.2 D hD)⟩⟩

theorem Own.noMarks (o : Own h0 h L) : Own h0 h (marksR [] :: L) :=
 o.cons (.refl _ _) ⟨.nil, fun _ h => by cases h⟩ fun _ h => by cases h

theorem Own.addMark {D : Nat} {m : List Nat} (o : Own h0 h (markR D :: L)) (j : Nat) (hj : L[j]? = some (marksR m)) : Own h0 h (L.set j (marksR (D :: m))) := by
 have hm : D ∉ m := o.ap (i := 0) (j := j + 1) rfl hj (by omega) D rfl
 have q0 := o.get 0 rfl
 have q1 := o.tail.get j hj
 have hlt : j < L.length := (List.getElem?_eq_some_iff.1 hj).1
 have key : ∀ {k s}, (L.set j (marksR (D :: m)))[k]? = some s -> (k = j /\ s = marksR (D :: m)) \/ (k ≠ j /\ L[k]? = some s) := by
  intro k s hs
  by_cases e : k = j
  ·subst e
   rw [List.getElem?_set_self hlt] at hs
   exact .inl ⟨rfl, (Option.some.inj hs).symm⟩
  ·rw [List.getElem?_set_ne (fun e' => e e'.symm)] at hs
   exact .inr ⟨e, hs⟩
 refine ⟨o.ext, fun {k s} hs => ?_, fun {k l s t} hs ht hne b hb hb' => ?_⟩
 ·rcases key hs with ⟨rfl, rfl⟩ | ⟨_, hs⟩
  ·refine ⟨⟨List.nodup_cons.2 ⟨hm, q1.1⟩, fun E hE => ?_⟩, fun b hb => ?_⟩
   ·rcases List.mem_cons.1 hE with rfl | hE
    ·exact q0
    ·exact q1.2 E hE
   ·rcases List.mem_cons.1 (show b ∈ D :: m from hb) with rfl | hb
    ·exact (o.q (i := 0) rfl).2 _ rfl
    ·exact (o.tail.q hj).2 b hb
  ·exact o.tail.q hs
 ·rcases key hs with ⟨rfl, rfl⟩ | ⟨n1, hs1⟩ <;> rcases key ht with ⟨rfl, rfl⟩ | ⟨n2, ht1⟩
  ·exact hne rfl
  ·rcases List.mem_cons.1 (show b ∈ D :: m from hb) with rfl | hb
   ·exact o.ap (i := 0) (j := l + 1) rfl ht1 (by omega) _ rfl hb'
   ·exact o.tail.ap hj ht1 hne b hb hb'
  ·rcases List.mem_cons.1 (show b ∈ D :: m from hb') with rfl | hb'
   ·exact o.ap (i := 0) (j := k + 1) rfl hs1 (by omega) _ rfl hb
   ·exact o.tail.ap hs1 hj hne b hb hb'
  ·exact o.tail.ap hs1 ht1 hne b hb hb'

theorem Own.take {m : List Nat} (o : Own h0 h L) (j : Nat) (hj : L[j]? = some (marksR m)) (hk : ∀ h', Own h0 h' (L.set j nilR) -> KP h') : takeM m h KP := by
 obtain ⟨hn, hq⟩ := o.get j hj
 refine takeM_of m h hq hn fun h' u => hk h' (o.set j hj u trivial fun b hb => hb.elim)

theorem Own.take1 {D : Nat} (o : Own h0 h L) (j : Nat) (hj : L[j]? = some (markR D)) (hk : ∀ h', Own h0 h' (L.set j nilR) -> KP h') : takeM [D] h KP := by
 have hq := o.get j hj
 refine takeM_of [D] h (fun E hE => by simp at hE; subst hE; exact hq) (by simp) fun h' u => hk h' (o.set j hj (u.mono fun b hb _ => List.mem_singleton.1 hb) trivial fun b hb => hb.elim)

theorem Own.takeC {D : Nat} {m : List Nat} (o : Own h0 h (markR D :: L)) (j : Nat) (hj : L[j]? = some (marksR m)) (hk : ∀ h', Own h0 h' (L.set j nilR) -> KP h') : takeM (D :: m) h KP := by
 have o1 := o.addMark j hj
 have hlt : j < L.length := (List.getElem?_eq_some_iff.1 hj).1
 refine o1.take j (List.getElem?_set_self hlt) fun h' o' => hk h' ?_
 rwa [List.set_set] at o'

def loopR (l : Nat) (x : Obj) : Res := objR l x

theorem Own.begin {l : Nat} {M : Loop} {p : Option Code} (o : Own h0 h L) (i : Nat) (hi : L[i]? = some (loopR l (lo M .ready p))) (hk : ∀ h', Own h0 h' (L.set i (loopR l (lo M .busy p))) -> KP h') : beginR l M h KP := by
 have hb : h[l]? = some (lo M .ready p) := o.get i hi
 have hlt := ((o.q hi).2 l rfl).2
 refine beginR_of hb (hk _ (o.set i hi (Upd.upd _ _ rfl) (upd_self hlt) fun c hc => ⟨.inl hc, ?_⟩))
 rw [upd_size]; exact (show c = l from hc) ▸ hlt

def valsOf : (l : List Nat) -> List Value -> Vals l
 | [], _ => ()
 | _ :: r, [] => (undef, valsOf r [])
 | _ :: r, v :: vs => (v, valsOf r vs)

theorem listV_valsOf : ∀ {l : List Nat} {vs : List Value}, vs.length = l.length -> listV l (valsOf l vs) = vs
 | [], [], _ => rfl
 | _ :: _, _ :: _, h => by simp only [valsOf, listV]; rw [listV_valsOf (by simpa using h)]

def IterG (P : Program) (fv : Value) (Q : Heap -> Prop) {σ : Type} (s0 : σ) (next : σ -> List Value -> σ -> Prop) (stop : σ -> Prop) : Prop :=
 ∀ (yv : Value) (h0 h : Heap) (Rs : List Res) (K : KT) (J : σ -> List Res -> Prop) (E : List Res -> Prop), (∃ l, yv = yieldV l) ->
  Own h0 h Rs -> J s0 Rs -> (∀ s Rs' h', J s Rs' -> Own h0 h' Rs' -> Q h') ->
  (∀ s x s' Rs' Pr h' R, next s x s' -> J s Rs' -> Own h0 h' (Rs' ++ Pr) -> (∀ Rs'' h'', J s' Rs'' -> Own h0 h'' (Rs'' ++ Pr) -> R (.bool true) h'') ->
   (∀ Rs'' h'', E Rs'' -> Own h0 h'' (Rs'' ++ Pr) -> R (.bool false) h'') -> callV P yv x.toArray h' R) ->
  (∀ Rs' h', ((∃ s, stop s /\ J s Rs') \/ E Rs') -> Own h0 h' Rs' -> K (.tuple #[]) h') -> callF P fv #[yv] h K

abbrev Iter (P : Program) (fv : Value) (Q : Heap -> Prop) (n : Nat) (f : (i : Nat) -> i < n -> List Value) : Prop :=
 IterG P fv Q (σ := Nat) 0 (fun i x i' => (∃ hi : i < n, x = f i hi) /\ i' = i + 1) (fun i => i = n)
abbrev IterS (P : Program) (fv : Value) (Q : Heap -> Prop) (S : List Value -> Prop) : Prop :=
 IterG P fv Q (σ := Unit) () (fun _ x _ => S x) (fun _ => True)

theorem Own.rot {r : Res} : ∀ {L : List Res}, Own h0 h (r :: L) -> Own h0 h (L ++ [r]) := by
 intro L o
 have key : ∀ {j : Nat} {s : Res}, (L ++ [r])[j]? = some s -> (r :: L)[if j < L.length then j + 1 else 0]? = some s /\ j <= L.length := fun {j s} hj => by
  by_cases h1 : j < L.length
  ·rw [List.getElem?_append_left h1] at hj
   rw [if_pos h1]; exact ⟨hj, by omega⟩
  ·rw [List.getElem?_append_right (by omega)] at hj
   rw [if_neg h1]
   obtain ⟨h2, h3⟩ := List.getElem?_eq_some_iff.1 hj
   simp at h2 h3
   exact ⟨by simp [h3], by omega⟩
 refine ⟨o.ext, fun hi => o.q (key hi).1, fun hi hj hne => o.ap (key hi).1 (key hj).1 fun e => hne ?_⟩
 have a := (key hi).2
 have b := (key hj).2
 split at e <;> split at e <;> omega

theorem Own.range {fv : Value} {Q : Heap -> Prop} {σ : Type} {s0 : σ} {next : σ -> List Value -> σ -> Prop} {stop : σ -> Prop} {ps : List Nat} {B : Loop -> Vals ps -> Heap -> (Exit -> Heap -> Prop) -> Prop} {Kn Kr : Heap -> Prop} {Ks : List (Nat × (Heap -> Prop))}
  (o : Own h0 h L) (hI : IterG P fv Q s0 next stop) (hf : ∀ s x s', next s x s' -> x.length = ps.length) (J : σ -> List Res -> Prop) (Er : List Res -> Prop) (Ex : Nat -> List Res -> Prop)
  (j0 : J s0 L) (hQ : ∀ s Rs' h', J s Rs' -> Own h0 h' Rs' -> Q h')
  (step : ∀ M s x s' Rs' Pr h' (R : Exit -> Heap -> Prop), next s x s' -> J s Rs' -> Own h0 h' (loopR (h.size + 1) (lo M .ready none) :: markR h.size :: (Rs' ++ Pr)) ->
   (∀ Rs'' h'', J s' Rs'' -> Own h0 h'' (loopR (h.size + 1) (lo M .busy none) :: markR h.size :: (Rs'' ++ Pr)) -> R .normal h'') ->
   (∀ Rs'' h'', Er Rs'' -> Own h0 h'' (loopR (h.size + 1) (lo M .busy none) :: markR h.size :: (Rs'' ++ Pr)) -> R .ret h'') ->
   (∀ id Rs'' h'', Ex id Rs'' -> Own h0 h'' (loopR (h.size + 1) (lo M .busy none) :: markR h.size :: (Rs'' ++ Pr)) -> R (.exit id) h'') -> B M (valsOf ps x) h' R)
  (fin : ∀ s h' Rs', stop s -> J s Rs' -> Own h0 h' (markR h.size :: Rs') -> Kn h') (finr : ∀ h' Rs', Er Rs' -> Own h0 h' (markR h.size :: Rs') -> Kr h')
  (finx : ∀ id h' Rs', Ex id Rs' -> Own h0 h' (markR h.size :: Rs') -> lookK Ks id h') :
  rangeH P fv ps (h.size + 1) (h.push (.deferred (some []))) B Kn Kr Ks := by
 intro M hy
 have e1 : (h.push (.deferred (some []))).size = h.size + 1 := push_size
 have o1 : Own h0 (h.push (.deferred (some []))) (markR h.size :: L) := o.new (r := markR h.size) push_new fun b hb => hb
 have o2 : Own h0 ((h.push (.deferred (some []))).push (lo M .ready none)) (loopR (h.size + 1) (lo M .ready none) :: markR h.size :: L) :=
  o1.new (r := loopR (h.size + 1) (lo M .ready none)) (by show (Array.push _ _)[h.size + 1]? = _; rw [<- e1, push_new]) fun b hb => hb.trans e1.symm
 refine hI (yieldV (h.size + 1)) h0 _ _ _ (fun s Rs => ∃ Rs1, Rs = loopR (h.size + 1) (lo M .ready none) :: markR h.size :: Rs1 /\ J s Rs1)
  (fun Rs => ∃ p Rs1, Rs = loopR (h.size + 1) (lo M .done (some p)) :: markR h.size :: Rs1 /\ ((p = .ret /\ Er Rs1) \/ ∃ id, p = .exit id /\ Ex id Rs1)) ⟨_, rfl⟩ o2 ⟨L, rfl, j0⟩
  (fun s Rs' h' ⟨Rs1, e, hj⟩ o' => hQ s Rs1 h' hj (by subst e; exact o'.tail.tail)) ?_ ?_
 ·rintro s x s' _ Pr h' R hn ⟨Rs1, rfl, hj⟩ o' hT hF
  have hb : h'[h.size + 1]? = some (lo M .ready none) := o'.get 0 rfl
  have := hy (valsOf ps x) h' R .ready none hb
  rw [listV_valsOf (hf _ _ _ hn)] at this
  refine this (step M s x s' Rs1 Pr h' _ hn hj o' ?_ ?_ ?_)
  ·intro Rs'' h'' hj' o''
   have hb' : h''[h.size + 1]? = some (lo M .busy none) := o''.get 0 rfl
   have hlt := get_lt hb'
   refine ⟨none, hb', hT (loopR (h.size + 1) (lo M .ready none) :: markR h.size :: Rs'') _ ⟨Rs'', rfl, hj'⟩ ?_⟩
   refine o''.set 0 (r' := loopR (h.size + 1) (lo M .ready none)) rfl (Upd.upd (S := (loopR (h.size + 1) (lo M .busy none)).F) h'' _ rfl) (upd_self hlt) fun c hc => ⟨.inl hc, ?_⟩
   rw [setIf_upd, upd_size]; exact (show c = h.size + 1 from hc) ▸ hlt
  ·intro Rs'' h'' hj' o''
   have hb' : h''[h.size + 1]? = some (lo M .busy none) := o''.get 0 rfl
   have hlt := get_lt hb'
   refine ⟨none, hb', hF (loopR (h.size + 1) (lo M .done (some .ret)) :: markR h.size :: Rs'') _ ⟨.ret, Rs'', rfl, .inl ⟨rfl, hj'⟩⟩ ?_⟩
   refine o''.set 0 (r' := loopR (h.size + 1) (lo M .done (some .ret))) rfl (Upd.upd (S := (loopR (h.size + 1) (lo M .busy none)).F) h'' _ rfl) (upd_self hlt) fun c hc => ⟨.inl hc, ?_⟩
   rw [setIf_upd, upd_size]; exact (show c = h.size + 1 from hc) ▸ hlt
  ·intro id Rs'' h'' hj' o''
   have hb' : h''[h.size + 1]? = some (lo M .busy none) := o''.get 0 rfl
   have hlt := get_lt hb'
   refine ⟨none, hb', hF (loopR (h.size + 1) (lo M .done (some (.exit id))) :: markR h.size :: Rs'') _ ⟨.exit id, Rs'', rfl, .inr ⟨id, rfl, hj'⟩⟩ ?_⟩
   refine o''.set 0 (r' := loopR (h.size + 1) (lo M .done (some (.exit id)))) rfl (Upd.upd (S := (loopR (h.size + 1) (lo M .busy none)).F) h'' _ rfl) (upd_self hlt) fun c hc => ⟨.inl hc, ?_⟩
   rw [setIf_upd, upd_size]; exact (show c = h.size + 1 from hc) ▸ hlt
 ·have close : ∀ {Rs1 : List Res} {h' : Heap} {st : LoopState} {p : Option Code}, Own h0 h' (loopR (h.size + 1) (lo M st p) :: markR h.size :: Rs1) -> Own h0 (upd h' (h.size + 1) (lo M .exhausted p)) (markR h.size :: Rs1) := by
   intro Rs1 h' st p o'
   have hb' : h'[h.size + 1]? = some (lo M st p) := o'.get 0 rfl
   have hlt := get_lt hb'
   exact (o'.set 0 (r' := nilR) rfl (Upd.upd (S := (loopR (h.size + 1) (lo M st p)).F) h' (lo M .exhausted p) rfl) trivial fun c hc => hc.elim).tail
  rintro Rs' h' (⟨s, hs, Rs1, rfl, hj⟩ | ⟨p, Rs1, rfl, hp⟩) o'
  ·exact ⟨.ready, none, by decide, o'.get 0 rfl, fin _ _ _ hs hj (close o')⟩
  ·refine ⟨.done, some p, by decide, o'.get 0 rfl, ?_⟩
   rcases hp with ⟨rfl, he⟩ | ⟨id, rfl, he⟩
   ·exact finr _ _ he (close o')
   ·exact finx _ _ _ he (close o')

end
open Go

abbrev ptr (b : Nat) : Value := .pointer (some ⟨b, 0, none⟩)
def encJ (x : Int) : List Value := [I x]
theorem encI_len (x : Int) : (encJ x).length = 1 := rfl
theorem encI_plain (x : Int) : ∀ u ∈ encJ x, plainCell u = true := by intro u hu; simp [encJ] at hu; subst hu; rfl

section
variable {α : Type} {enc : α -> List Value} {n : Nat} {h0 h h' : Heap} {v w : Value} {ys xs : List α} {K : Value -> Prop} {KH : KT} {k : IntKind} {i : Nat}

def Vw (enc : α -> List Value) (n : Nat) (h : Heap) (v : Value) (ys : List α) : Prop := ∃ bl, VwR enc n h v bl ys

theorem Vw.more (H : Vw enc n h v ys) (x : Ext h h') : Vw enc n h' v ys := by
 obtain ⟨bl, H⟩ := H
 exact ⟨bl, H.upd x id⟩

theorem Vw.nil : Vw enc n h (.slice none 0 0) [] := ⟨0, none, 0, rfl, Nat.le_refl _, .inl ⟨rfl, .inl rfl⟩⟩

theorem Vw.len (H : Vw enc n h v ys) (hk : K (I ys.length)) : pLen v K := by
 obtain ⟨bl, H⟩ := H
 exact H.lenK hk

theorem Vw.isSl (H : Vw enc n h v ys) : ∃ b c, v = .slice b ys.length c := by
 obtain ⟨bl, b, c, e, _⟩ := H
 exact ⟨b, c, e⟩

theorem cellsAt_of_hcell {b : Nat} : ∀ (l : List Value) (o : Nat), (∀ j, j < l.length -> hcell h ⟨b, o + j, none⟩ = l[j]?) -> cellsAt h b o l.length = some l
 | [], o, _ => rfl
 | v :: l, o, H => by
  have h0 : hcell h ⟨b, o, none⟩ = some v := by simpa using H 0 (by simp)
  simp only [List.length_cons, cellsAt, h0]
  rw [cellsAt_of_hcell l (o + 1) fun j hj => by
   have := H (j + 1) (by simp; omega)
   rw [show o + 1 + j = o + (j + 1) by omega]; simpa using this]

theorem Vw.idx (he : ∀ a, (enc a).length = n) (H : Vw enc n h v ys) (hi : i < ys.length)
  (hK : ∀ b o, (∀ j, j < n -> hcell h ⟨b, o + j, none⟩ = (enc ys[i])[j]?) -> K (.pointer (some ⟨b, o, none⟩))) : pIdx n v (.int k i) K := by
 obtain ⟨bl, H⟩ := H
 exact H.idx he hi fun o ho => hK bl o ho

theorem Vw.at1 {e : α -> Value} (H : Vw enc 1 h v ys) (he : ∀ a, enc a = [e a]) (hi : i < ys.length) (hk : K (e ys[i])) : pIdx 1 v (.int k i) (fun t => pLoad h t K) := by
 refine H.idx (fun a => by rw [he]; rfl) hi fun b o hc => ?_
 have := hc 0 (by omega)
 rw [he] at this
 simp only [Nat.add_zero, List.getElem?_cons_zero] at this
 simp only [pLoad_ptr, this]; exact hk

theorem Vw.atI {ys : List Int} (H : Vw encJ 1 h v ys) (hi : i < ys.length) (hk : K (I ys[i])) : pIdx 1 v (.int k i) (fun t => pLoad h t K) :=
 H.at1 (e := fun x => I x) (fun _ => rfl) hi hk

theorem Vw.atN (he : ∀ a, (enc a).length = n) (H : Vw enc n h v ys) (hi : i < ys.length) (hk : K (.agg (enc ys[i]).toArray)) : pIdx n v (.int k i) (fun t => pLoadN n h t K) := by
 refine H.idx he hi fun b o hc => ?_
 have := cellsAt_of_hcell (enc ys[i]) o (fun j hj => hc j (by rw [he] at hj; exact hj))
 rw [he] at this
 simp only [pLoadN_ptr, this]; exact hk

theorem Vw.sub {lo hi : Option Value} {a j : Nat} (he : ∀ a, (enc a).length = n) (H : Vw enc n h v ys) (hlo : bndOf 0 lo = some (a : Int)) (hhi : bndOf ys.length hi = some (j : Int)) (hij : a <= j) (hj : j <= ys.length)
  (hK : ∀ v', Vw enc n h v' ((ys.drop a).take (j - a)) -> K v') : pSlice n v lo hi none K := by
 obtain ⟨bl, H⟩ := H
 exact H.sub he hlo hhi hij hj fun v' H' => hK v' ⟨bl, H'⟩

theorem Vw.cells (he : ∀ a, (enc a).length = n) (H : Vw enc n h v ys) : ∃ base cap, v = .slice base ys.length cap /\ cellsOfSl h n ys.length base = some (row enc ys) := by
 obtain ⟨bl, H⟩ := H
 exact H.cells he

end

def blkOf : Value -> Nat -> Prop
 | .slice (some a) _ _, c => c = a.block
 | _, _ => False

section
variable {α : Type} {enc : α -> List Value} {n : Nat} {T : TypeId} {h0 h h' : Heap} {v w : Value} {ys xs : List α} {K : Value -> Prop} {KH : KT} {k : IntKind} {i : Nat} {L : List Res}

def slR (enc : α -> List Value) (n : Nat) (T : TypeId) (v : Value) (xs : List α) : Res := ⟨blkOf v, fun h => ∃ bl, SlR enc n T h v bl xs, fun {h h'} hs hq => by
 obtain ⟨bl, H⟩ := hq
 refine ⟨bl, ?_⟩
 rcases H with H | ⟨cap, rest, rfl, hb, a, c⟩
 ·exact .inl H
 ·exact .inr ⟨cap, rest, rfl, (hs bl rfl).trans hb, a, c⟩⟩

theorem Own.vw (o : Own h0 h L) (i : Nat) (hi : L[i]? = some (slR enc n T v xs)) : Vw enc n h v xs := by
 obtain ⟨bl, H⟩ := o.get i hi
 exact ⟨bl, H.view⟩

theorem slR_of {bl : Nat} (H : SlR enc n T h v bl xs) : (slR enc n T v xs).Q h := ⟨bl, H⟩

theorem Own.nilS (o : Own h0 h L) : Own h0 h (slR enc n T (.slice none 0 0) ([] : List α) :: L) :=
 o.cons (.refl _ _) ⟨0, .inl ⟨rfl, rfl⟩⟩ fun b hb => hb.elim

theorem SlR.blk {bl : Nat} (H : SlR enc n T h v bl xs) {b : Nat} (hb : blkOf v b) : b = bl := by
 rcases H with ⟨rfl, _⟩ | ⟨cap, rest, rfl, _⟩
 ·exact hb.elim
 ·exact hb

theorem SlR.blkLt {bl : Nat} (H : SlR enc n T h v bl xs) {b : Nat} (hb : blkOf v b) : b < h.size := by
 have e := H.blk hb
 rcases H with ⟨rfl, _⟩ | ⟨cap, rest, rfl, hx, _⟩
 ·exact hb.elim
 ·subst e; exact get_lt hx

theorem Own.fresh {c : Nat} {rest : List Value} (o : Own h0 h L) (hr : rest.length = (c - xs.length) * n) (hc : xs.length <= c) :
  Own h0 (h.push (.cells (row enc xs ++ rest).toArray T (0, 0))) (slR enc n T (.slice (some ⟨h.size, 0, none⟩) xs.length c) xs :: L) :=
 o.new (slR_of (bl := h.size) (.inr ⟨c, rest, rfl, push_new, hr, hc⟩)) fun b hb => hb

theorem Own.make {bytes : Nat} {zero : List Value} {k' : IntKind} {m : Nat} {a : α} (o : Own h0 h L) (hz : zero = enc a) (hb : (bytes : Int) * m <= 2 ^ 48) (hm : m < 2 ^ 63)
  (hK : ∀ w h', Own h0 h' (slR enc n T w (List.replicate m a) :: L) -> KH w h') : pMakeSlice T bytes zero (.int k m) (.int k' m) h KH := by
 subst hz
 refine makeSlice_of hb hm fun w h' H x hs => hK w h' (o.cons x (slR_of H) fun b hb => ?_)
 have := H.blk hb
 subst this
 omega

theorem Own.build {zs : List Value} {parts : List (Nat × Nat × Value)} {len : Nat} (o : Own h0 h L) (xs : List α) (hrow : spliceAll zs parts = row enc xs) (hsz : sizesOk zs.length parts) (hl : len = xs.length)
  (hK : ∀ w h', Own h0 h' (slR enc n T w xs :: L) -> KH w h') : pBuildSlice T zs parts len h KH := by
 subst hl
 refine ⟨hsz, hK _ _ ?_⟩
 have := o.fresh (enc := enc) (n := n) (T := T) (xs := xs) (c := xs.length) (rest := []) (by simp) (Nat.le_refl _)
 rw [hrow]; simpa using this

theorem Own.app {bytes : Nat} {zero : List Value} {x : Value} (o : Own h0 h L) (i : Nat) (hi : L[i]? = some (slR enc n T v xs)) (he : ∀ a, (enc a).length = n) (hp : ∀ a, ∀ u ∈ enc a, plainCell u = true) (hz : zero.length = n)
  (hx : Vw enc n h x ys) (hby : 0 < bytes) (hb : (xs.length + ys.length) * bytes <= 2 ^ 47) (hK : ∀ v' h', Own h0 h' (L.set i (slR enc n T v' (xs ++ ys))) -> KH v' h') : pAppend T n bytes zero v x h KH := by
 obtain ⟨bl, H⟩ := o.get i hi
 obtain ⟨xb, xc, rfl, hcx⟩ := hx.cells he
 have hF : (∃ cs, h[bl]? = some (.cells cs T (0, 0))) -> v = .slice none 0 0 \/ blkOf v bl := fun _ => by
  rcases H with ⟨rfl, _⟩ | ⟨cap, rest, rfl, _⟩
  ·exact .inl rfl
  ·exact .inr rfl
 rcases H with ⟨rfl, rfl⟩ | ⟨cap, rest, rfl, H⟩
 ·-- a nil slice: nothing of it can be turned
  have H0 : SlR enc n T h (.slice none 0 0) h.size ([] : List α) := .inl ⟨rfl, rfl⟩
  refine append_of he hp hz H0 rfl hcx hby hb fun v' bl' h' H' hbl u hlt => hK v' h' (o.set i hi (u.mono fun b ⟨e, cs, hcs⟩ hlt => ?_) (slR_of H') fun b hb => ?_)
  ·subst e; exact absurd hlt (Nat.lt_irrefl _)
  ·have := H'.blk hb
   exact ⟨.inr (by rcases hbl with e | e <;> omega), H'.blkLt hb⟩
 ·refine append_of he hp hz (.inr ⟨cap, rest, rfl, H⟩) rfl hcx hby hb fun v' bl' h' H' hbl u hlt => hK v' h' (o.set i hi (u.mono fun b ⟨e, cs, hcs⟩ _ => e) (slR_of H') fun b hb => ?_)
  have hb' := H'.blk hb
  refine ⟨?_, H'.blkLt hb⟩
  rcases hbl with e | e
  ·exact .inl (hb'.trans e)
  ·exact .inr (by omega)

theorem Own.app1 {bytes : Nat} {zero zs : List Value} {parts : List (Nat × Nat × Value)} (o : Own h0 h L) (i : Nat) (a : α) (hi : L[i]? = some (slR enc n T v xs)) (hrow : spliceAll zs parts = enc a) (hsz : sizesOk zs.length parts)
  (he : ∀ a, (enc a).length = n) (hp : ∀ a, ∀ u ∈ enc a, plainCell u = true) (hz : zero.length = n) (hby : 0 < bytes) (hb : (xs.length + 1) * bytes <= 2 ^ 47)
  (hK : ∀ v' h', Own h0 h' (L.set i (slR enc n T v' (xs ++ [a]))) -> KH v' h') : pBuildSlice T zs parts 1 h fun t h1 => pAppend T n bytes zero v t h1 KH := by
 refine o.build (enc := enc) (n := n) [a] (by rw [hrow]; simp [row]) hsz rfl fun w h1 o1 => ?_
 exact o1.app (i + 1) hi he hp hz (o1.vw 0 rfl) hby hb fun v' h' o' => hK v' h' o'.tail

theorem Own.setAt {a : α} {j : Nat} (o : Own h0 h L) (i : Nat) (hi : L[i]? = some (slR enc n T v xs)) (he : ∀ a, (enc a).length = n) (hp : ∀ u ∈ enc a, plainCell u = true) (hj : j < xs.length) (hw : w.cells.toList = enc a)
  (hK : ∀ h', Own h0 h' (L.set i (slR enc n T v (xs.set j a))) -> KH undef h') : pIdx n v (.int k j) fun t => pStore n t w h KH := by
 obtain ⟨bl, H⟩ := o.get i hi
 refine H.idx hj (SlR.set he hp H hj rfl hw rfl fun h' H' u hs => hK h' (o.set i hi (u.mono fun b hb _ => ?_) (slR_of H') fun b hb => ⟨.inl hb, H'.blkLt hb⟩))
 subst hb
 obtain ⟨cap, rest, rfl, _⟩ := H.full (by omega)
 rfl

theorem Own.setI {xs : List Int} {z : Int} {j : Nat} (o : Own h0 h L) (i : Nat) (hi : L[i]? = some (slR encJ 1 T v xs)) (hj : j < xs.length)
  (hK : ∀ h', Own h0 h' (L.set i (slR encJ 1 T v (xs.set j z))) -> KH undef h') : pIdx 1 v (.int k j) fun t => pStore 1 t (I z) h KH :=
 o.setAt i hi encI_len (encI_plain z) hj rfl hK

theorem Own.idxAt {j : Nat} (o : Own h0 h L) (i : Nat) (hi : L[i]? = some (slR enc n T v xs)) (hj : j < xs.length) (hK : ∀ bl, SlR enc n T h v bl xs -> blkOf v bl -> K (.pointer (some ⟨bl, j * n, none⟩))) : pIdx n v (.int k j) K := by
 obtain ⟨bl, H⟩ := o.get i hi
 refine H.idx hj (hK bl H ?_)
 obtain ⟨cap, rest, rfl, _⟩ := H.full (by omega)
 rfl

end

def mapR (m : Nat) (f : Int -> Option Value) : Res := ⟨fun b => b = m, fun h => ∃ es c, h[m]? = some (.map es c) /\ IMap es c f, fun hs ⟨es, c, a, b⟩ => ⟨es, c, (hs m rfl).trans a, b⟩⟩

section
variable {h0 h : Heap} {L : List Res} {m : Nat} {f : Int -> Option Value} {K : Value -> Prop} {KH : KT} {k : Int} {z v : Value} {ok : Bool}

theorem Own.mkMap (o : Own h0 h L) (hK : ∀ m h', Own h0 h' (mapR m (fun _ => none) :: L) -> KH (.map (some m)) h') : pMakeMap h KH :=
 hK h.size _ (o.new (r := mapR h.size _) ⟨#[], 0, push_new, .empty⟩ fun b hb => hb)

theorem Own.look (o : Own h0 h L) (i : Nat) (hi : L[i]? = some (mapR m f)) (hk : K (if ok then .tuple #[(f k).getD z, .bool (f k).isSome] else (f k).getD z)) : pLook (.int .i64) z ok h (.map (some m)) (I k) K := by
 obtain ⟨es, c, hm, him⟩ := o.get i hi
 exact look_of hm him hk

theorem Own.mapPut {f' : Int -> Option Value} (o : Own h0 h L) (i : Nat) (hi : L[i]? = some (mapR m f)) (hf : ∀ x, f' x = fset f k v x) (hK : ∀ h', Own h0 h' (L.set i (mapR m f')) -> KH undef h') : pMapSet (.int .i64) (.map (some m)) (I k) v h KH := by
 obtain ⟨es, c, hm, him⟩ := o.get i hi
 have hlt := get_lt hm
 refine mapSet_of hm him fun es' c' him' => hK _ (o.set i hi (Upd.upd _ _ rfl) ⟨es', c', upd_self hlt, him'.congr fun x => (hf x).symm ▸ rfl⟩ fun b hb => ⟨.inl hb, ?_⟩)
 rw [upd_size]; exact (show b = m from hb) ▸ hlt

end

section
variable {h0 h h' : Heap} {L L' : List Res} {r r' : Res} {i : Nat}

theorem set_get {α : Type} {L : List α} {i : Nat} {r x : α} (hi : L[i]? = some r) : (L.set i x)[i]? = some x :=
 List.getElem?_set_self (List.getElem?_eq_some_iff.1 hi).1

theorem Own.conv (o : Own h0 h L) (i : Nat) (hi : L[i]? = some r) (q : r'.Q h) (g : ∀ b, r'.F b -> r.F b) : Own h0 h (L.set i r') :=
 o.set i hi (.refl _ _) q fun b hb => ⟨.inl (g b hb), ((o.q hi).2 b (g b hb)).2⟩

def allR (l : List Res) : Res := ⟨fun b => ∃ r ∈ l, r.F b, fun h => ∀ r ∈ l, r.Q h, fun hs hq r hr => r.st (fun b hb => hs b ⟨r, hr, hb⟩) (hq r hr)⟩

theorem Own.pack : ∀ {l L : List Res}, Own h0 h (l ++ L) -> Own h0 h (allR l :: L) := by
 intro l L o
 have key : ∀ {j : Nat} {s : Res}, L[j]? = some s -> (l ++ L)[l.length + j]? = some s := fun {j s} hj => by
  rw [List.getElem?_append_right (by omega), Nat.add_sub_cancel_left]; exact hj
 have keyl : ∀ {s : Res}, s ∈ l -> ∃ j, j < l.length /\ (l ++ L)[j]? = some s := fun {s} hs => by
  obtain ⟨j, hj, rfl⟩ := List.mem_iff_getElem.1 hs
  exact ⟨j, hj, by rw [List.getElem?_append_left hj]; simp⟩
 refine ⟨o.ext, fun {i s} hi => ?_, fun {i j s t} hi hj hne b hb hb' => ?_⟩
 ·cases i with
  | zero =>
   simp at hi; subst hi
   refine ⟨fun r hr => ?_, fun b ⟨r, hr, hb⟩ => ?_⟩
   ·obtain ⟨j, _, hj⟩ := keyl hr; exact (o.q hj).1
   ·obtain ⟨j, _, hj⟩ := keyl hr; exact (o.q hj).2 b hb
  | succ i => exact o.q (key (j := i) (by simpa using hi))
 ·cases i with
  | zero =>
   simp at hi; subst hi
   obtain ⟨r, hr, hb⟩ := hb
   obtain ⟨k, hk, hkr⟩ := keyl hr
   cases j with
   | zero => exact hne rfl
   | succ j => exact o.ap hkr (key (j := j) (by simpa using hj)) (by omega) b hb hb'
  | succ i =>
   cases j with
   | zero =>
    simp at hj; subst hj
    obtain ⟨r, hr, hb'⟩ := hb'
    obtain ⟨k, hk, hkr⟩ := keyl hr
    exact o.ap (key (j := i) (by simpa using hi)) hkr (by omega) b hb hb'
   | succ j => exact o.ap (key (j := i) (by simpa using hi)) (key (j := j) (by simpa using hj)) (by omega) b hb hb'

theorem Own.weak (o : Own h0 h (r :: L)) (q : r.Q h -> r'.Q h) (g : ∀ b, r'.F b -> r.F b) : Own h0 h (r' :: L) :=
 o.conv 0 rfl (q (o.get 0 rfl)) g

theorem Own.front (o : Own h0 h L) (k : Nat) (is : List Nat) (hn : is.Nodup) (hk : ∀ i ∈ is, i < k) : Own h0 h ((is.map fun i => L.getD i nilR) ++ L.drop k) := by
 have key : ∀ {j : Nat} {s : Res}, ((is.map fun i => L.getD i nilR) ++ L.drop k)[j]? = some s -> s = nilR \/ ∃ i, L[i]? = some s /\ ((j < is.length /\ is[j]? = some i) \/ (is.length <= j /\ i = k + (j - is.length))) := by
  intro j s hs
  by_cases hj : j < is.length
  ·rw [List.getElem?_append_left (by simpa using hj), List.getElem?_map, Option.map_eq_some_iff] at hs
   obtain ⟨i, hi, rfl⟩ := hs
   rw [List.getD_eq_getElem?_getD]
   cases hL : L[i]? with
   | none => exact .inl rfl
   | some s => exact .inr ⟨i, hL, .inl ⟨hj, hi⟩⟩
  ·rw [List.getElem?_append_right (by simp; omega), List.length_map, List.getElem?_drop] at hs
   exact .inr ⟨_, hs, .inr ⟨by omega, rfl⟩⟩
 refine ⟨o.ext, fun {j s} hs => ?_, fun {j l s t} hs ht hne b hb hb' => ?_⟩
 ·rcases key hs with rfl | ⟨i, hi, _⟩
  ·exact ⟨trivial, fun b hb => hb.elim⟩
  ·exact o.q hi
 ·rcases key hs with rfl | ⟨a, ha, h1⟩
  ·exact hb.elim
  ·rcases key ht with rfl | ⟨c, hc, h2⟩
   ·exact hb'.elim
   ·refine o.ap ha hc (fun e => hne ?_) b hb hb'
    subst e
    rcases h1 with ⟨h1, h1'⟩ | ⟨h1, h1'⟩ <;> rcases h2 with ⟨h2, h2'⟩ | ⟨h2, h2'⟩
    ·have e1 := (List.getElem?_eq_some_iff.1 h1')
     have e2 := (List.getElem?_eq_some_iff.1 h2')
     exact (List.getElem_inj hn).1 (e1.2.trans e2.2.symm)
    ·have := hk a (List.mem_of_getElem? h1'); omega
    ·have := hk a (List.mem_of_getElem? h2'); omega
    ·omega

theorem Vw.plain {α : Type} {enc : α -> List Value} {n : Nat} {v : Value} {xs : List α} (H : Vw enc n h v xs) : plainCell v = true := by
 obtain ⟨b, c, rfl⟩ := H.isSl; rfl
theorem Vw.one {α : Type} {enc : α -> List Value} {n : Nat} {v : Value} {xs : List α} (H : Vw enc n h v xs) : v.cells = #[v] := by
 obtain ⟨b, c, rfl⟩ := H.isSl; rfl

theorem Own.st {b off n : Nat} {cs cs' l : List Value} {T : TypeId} {v : Value} {KH : KT} (o : Own h0 h L) (i : Nat) (hi : L[i]? = some (cellR b cs T)) (hv : v.cells = l.toArray) (hn : l.length = n) (hle : Nat.ble (off + n) cs.length = true) (hcs : over cs off l = cs')
  (hp : ∀ u ∈ l, plainCell u = true) (hk : ∀ h', Own h0 h' (L.set i (cellR b cs' T)) -> KH undef h') : pStore n (.pointer (some ⟨b, off, none⟩)) v h KH := by
 have hs : v.cells.size = n := by rw [hv]; simpa using hn
 refine o.store i hi hs (by rw [hs]; exact Nat.le_of_ble_eq_true hle) (by rw [hv]; simpa using hp) fun h' o' => hk h' ?_
 rw [hv] at o'
 simp only [hcs] at o'
 exact o'

theorem Own.st1 {b off : Nat} {cs cs' : List Value} {T : TypeId} {v : Value} {KH : KT} (o : Own h0 h L) (i : Nat) (hi : L[i]? = some (cellR b cs T)) (hle : Nat.blt off cs.length = true) (hcs : over cs off [v] = cs') (hv : v.cells = #[v]) (hp : plainCell v = true)
  (hk : ∀ h', Own h0 h' (L.set i (cellR b cs' T)) -> KH undef h') : pStore 1 (.pointer (some ⟨b, off, none⟩)) v h KH :=
 o.st i hi (l := [v]) hv rfl hle hcs (by simpa using hp) hk

theorem Own.ldN {b off n : Nat} {cs cs' : List Value} {T : TypeId} {K : Value -> Prop} (o : Own h0 h L) (i : Nat) (hi : L[i]? = some (cellR b cs T)) (hle : Nat.ble (off + n) cs.length = true) (hcs : (cs.drop off).take n = cs') (hk : K (.agg cs'.toArray)) : pLoadN n h (.pointer (some ⟨b, off, none⟩)) K :=
 o.loadN i hi (Nat.le_of_ble_eq_true hle) (by rw [hcs]; exact hk)

theorem Own.nilTail (o : Own h0 h L) : Own h0 h (L ++ []) := by rwa [List.append_nil]
theorem Own.toNil (o : Own h0 h (L ++ [])) : Own h0 h L := by rwa [List.append_nil] at o

theorem Own.ext2 (o : Own h0 h L) (x : Ext h h') : Ext h0 h' := (o.more x).ext

end

theorem LoopH_count {σ : Type} {B : σ -> Heap -> (σ -> Heap -> Prop) -> Prop} {x : σ} {h : Heap} (N : Nat) (I : Nat -> σ -> Heap -> Prop) (h0 : I 0 x h)
  (step : ∀ (i : Nat) (x : σ) (h : Heap) (Z : σ -> Heap -> Prop), i <= N -> I i x h -> (∀ x' h', i < N -> I (i + 1) x' h' -> Z x' h') -> B x h Z) : LoopH B x h := by
 intro Z hZ
 have key : ∀ k i x h, N - i = k -> i <= N -> I i x h -> Z x h := by
  intro k
  induction k with
  | zero => intro i x h hk hi hI; exact hZ x h (step i x h Z hi hI fun x' h' hlt => by omega)
  | succ k ih => intro i x h hk hi hI; exact hZ x h (step i x h Z hi hI fun x' h' hlt hI' => ih (i + 1) x' h' (by omega) (by omega) hI')
 exact key _ 0 x h rfl (Nat.zero_le _) h0

theorem LoopH_down {σ : Type} {B : σ -> Heap -> (σ -> Heap -> Prop) -> Prop} {x : σ} {h : Heap} (I : Nat -> σ -> Heap -> Prop) {k0 : Nat} (h0 : I k0 x h)
  (step : ∀ (k : Nat) (x : σ) (h : Heap) (Z : σ -> Heap -> Prop), I k x h -> (∀ x' h' k', k' < k -> I k' x' h' -> Z x' h') -> B x h Z) : LoopH B x h := by
 intro Z hZ
 have key : ∀ k x h, I k x h -> Z x h := by
  intro k
  induction k using Nat.strongRecOn with
  | _ k ih => intro x h hI; exact hZ x h (step k x h Z hI fun x' h' k' hlt hI' => ih k' hlt x' h' hI')
 exact key _ x h h0

theorem wI (n : Nat) (hn : n < 9223372036854775807) : IntKind.i64.wrap ((n : Int) + 1) = ((n + 1 : Nat) : Int) := by rw [w64 (by omega) (by omega)]; rfl

section
variable {α : Type} {enc : α -> List Value} {n : Nat} {T : TypeId} {h0 h : Heap} {v : Value} {ys xs : List α} {KP : Heap -> Prop} {KH : KT} {L : List Res}

theorem over_rows {rest : List Value} {j : Nat} (he : ∀ a, (enc a).length = n) (hj : j + ys.length <= xs.length) :
  over (row enc xs ++ rest) (j * n) (row enc ys) = row enc (xs.take j ++ ys ++ xs.drop (j + ys.length)) ++ rest := by
 have hl := row_length he xs
 have hm : (j + ys.length) * n <= xs.length * n := Nat.mul_le_mul_right n hj
 rw [Nat.add_mul] at hm
 unfold over
 rw [row_length he ys, List.take_append_of_le_length (by omega), row_take he, <- Nat.add_mul, List.drop_append_of_le_length (by rw [Nat.add_mul]; omega), row_drop he, row_append, row_append]
 simp [List.append_assoc]

theorem Own.storeRow {j : Nat} (o : Own h0 h L) (i : Nat) (hi : L[i]? = some (slR enc n T v xs)) (he : ∀ a, (enc a).length = n) (hp : ∀ a, ∀ u ∈ enc a, plainCell u = true) {bl : Nat} (H : SlR enc n T h v bl xs) (hb : blkOf v bl) (hj : j + ys.length <= xs.length)
  (hk : ∀ h', Own h0 h' (L.set i (slR enc n T v (xs.take j ++ ys ++ xs.drop (j + ys.length)))) -> KP h') : storeL h bl (j * n) (row enc ys) KP := by
 rcases H with ⟨rfl, _⟩ | ⟨cap, rest, rfl, hbk, hr, hle⟩
 ·exact hb.elim
 have hl := row_length he xs
 have hly := row_length he ys
 have hm : (j + ys.length) * n <= xs.length * n := Nat.mul_le_mul_right n hj
 rw [Nat.add_mul] at hm
 have hlen : (xs.take j ++ ys ++ xs.drop (j + ys.length)).length = xs.length := by simp; omega
 refine storeL_of _ _ _ _ hbk (by rw [List.length_append]; omega) (fun u hu => ?_) (hk _ ?_)
 ·simp only [row, List.mem_flatMap] at hu
  obtain ⟨a, _, ha⟩ := hu
  exact hp a u ha
 ·rw [over_rows he hj]
  refine o.set i hi (Upd.upd _ _ rfl) (slR_of (bl := bl) (.inr ⟨cap, rest, by rw [hlen], upd_self' hbk, by rw [hlen]; exact hr, by rw [hlen]; exact hle⟩)) fun b hb' => ⟨.inl hb', ?_⟩
  have : b = bl := hb'
  subst this
  rw [upd_size]; exact get_lt hbk

end

section
variable {P : Program} {fv : Value} {Q Q' : Heap -> Prop}

theorem IterG.map {σ τ : Type} {s0 : σ} {t0 : τ} {next : σ -> List Value -> σ -> Prop} {stop : σ -> Prop} {next' : τ -> List Value -> τ -> Prop} {stop' : τ -> Prop} (g : σ -> τ) (h : IterG P fv Q s0 next stop)
  (h0 : g s0 = t0) (hn : ∀ s x s', next s x s' -> next' (g s) x (g s')) (hs : ∀ s, stop s -> stop' (g s)) : IterG P fv Q t0 next' stop' := by
 intro yv b0 h1 Rs K J E hl o j0 hQ hY hK
 refine h yv b0 h1 Rs K (fun s => J (g s)) E hl o (h0 ▸ j0) (fun s Rs' h' hj => hQ _ Rs' h' hj) (fun s x s' Rs' Pr h' R hx => hY _ _ _ Rs' Pr h' R (hn _ _ _ hx)) fun Rs' h' hje => hK Rs' h' ?_
 rcases hje with ⟨s, h1, h2⟩ | h
 ·exact .inl ⟨_, hs _ h1, h2⟩
 ·exact .inr h

theorem Iter.toS {n : Nat} {f : (i : Nat) -> i < n -> List Value} {S : List Value -> Prop} (h : Iter P fv Q n f) (hS : ∀ i hi, S (f i hi)) : IterS P fv Q S :=
 h.map (fun _ => ()) rfl (fun s x s' ⟨⟨hi, e⟩, _⟩ => e ▸ hS _ hi) fun _ _ => trivial

theorem IterG.need {σ : Type} {s0 : σ} {next : σ -> List Value -> σ -> Prop} {stop : σ -> Prop} (h : IterG P fv Q s0 next stop) (hq : ∀ h, Q' h -> Q h) : IterG P fv Q' s0 next stop :=
 fun yv b0 h1 Rs K J E hl o j0 hQ hY hK => h yv b0 h1 Rs K J E hl o j0 (fun s Rs' h' hj o' => hq _ (hQ s Rs' h' hj o')) hY hK

end

theorem callV_of {P : Program} {f : Nat} {first captured : Array Value} {args l : List Value} {h : Heap} {K : KT} (e : first.toList ++ args ++ captured.toList = l) (hc : CallsH P f l.toArray h K) :
  callV P (.func (.func f) first captured) args.toArray h K := by
 have : first ++ args.toArray ++ captured = l.toArray := by
  apply Array.ext'; simp [<- e]
 refine callV_func ?_
 rw [this]; exact hc

theorem callF_of {P : Program} {f : Nat} {first captured : Array Value} {args : Array Value} {l : List Value} {h : Heap} {K : KT} (e : first.toList ++ args.toList ++ captured.toList = l) (hc : CallsH P f l.toArray h K) :
  callF P (.func (.func f) first captured) args h K := by
 have : first ++ args ++ captured = l.toArray := by
  apply Array.ext'; simp [<- e]
 show CallsH P f (first ++ args ++ captured) h K
 rw [this]; exact hc

def sizesB (n : Nat) : List (Nat × Nat × Value) -> Bool
 | [] => true
 | (off, size, v) :: r => Nat.beq v.cells.size size && (Nat.ble (off + size) n && sizesB n r)
theorem sizesOk_of : ∀ {n : Nat} {l : List (Nat × Nat × Value)}, sizesB n l = true -> sizesOk n l
 | _, [], _ => trivial
 | _, _ :: _, h => by
  simp only [sizesB, Bool.and_eq_true] at h
  exact ⟨Nat.eq_of_beq_eq_true h.1, Nat.le_of_ble_eq_true h.2.1, sizesOk_of h.2.2⟩

section
variable {α : Type} {enc : α -> List Value} {n : Nat} {T : TypeId} {h0 h : Heap} {x : Value} {KH : KT} {L : List Res} {k k' : IntKind}

theorem Own.makeB {bytes m : Nat} {zero : List Value} (o : Own h0 h L) (hb : (bytes : Int) * m <= 2 ^ 48) (hm : m < 2 ^ 63)
  (hK : ∀ bl h', Own h0 h' (cellR bl (List.replicate m zero).flatten T :: L) -> KH (.slice (some ⟨bl, 0, none⟩) m m) h') : pMakeSlice T bytes zero (.int k m) (.int k' m) h KH := by
 refine ⟨by omega, Int.le_refl _, hb, by omega, ?_⟩
 simp only [Int.toNat_natCast]
 exact hK h.size _ (o.new (r := cellR h.size _ T) push_new fun b hb => hb)

theorem Own.appIn {bytes bl off len cap : Nat} {zero cs : List Value} {e : α -> Value} {a : α} (o : Own h0 h L) (i : Nat) (hi : L[i]? = some (cellR bl cs T)) (he : ∀ a, enc a = [e a]) (hp : plainCell (e a) = true) (hx : Vw enc 1 h x [a]) (hlen : len + 1 <= cap) (hpos : off + len < cs.length)
  (hK : ∀ h', Own h0 h' (L.set i (cellR bl (cs.set (off + len) (e a)) T)) -> KH (.slice (some ⟨bl, off, none⟩) (len + 1) cap) h') : pAppend T 1 bytes zero (.slice (some ⟨bl, off, none⟩) len cap) x h KH := by
 obtain ⟨xb, xc, rfl, hc⟩ := hx.cells fun a => by rw [he]; rfl
 have hc' : cellsOfSl h 1 1 xb = some [e a] := by
  have e1 : Mh.row enc [a] = [e a] := by simp [row, he]
  rw [<- e1]; exact hc
 simp only [pAppend, List.length_singleton, hc']
 rw [if_pos hlen, Nat.mul_one]
 have hb : h[bl]? = some (.cells cs.toArray T (0, 0)) := o.get i hi
 have hlt := ((o.q hi).2 bl rfl).2
 refine storeL_of _ _ _ _ hb (by show off + len + 1 <= _; omega) (by simpa using hp) (hK _ ?_)
 have eo : over cs (off + len) [e a] = cs.set (off + len) (e a) := by rw [List.set_eq_take_append_cons_drop, if_pos hpos]; simp [over]
 rw [eo]
 refine o.set i hi (Upd.upd _ _ rfl) (upd_self hlt) fun b hb' => ⟨.inl hb', ?_⟩
 rw [upd_size]; exact (show b = bl from hb') ▸ hlt

end

theorem Vw.atQ {h : Heap} {v : Value} {ys : List Int} {i : Nat} {z : Int} {k : IntKind} {K : Value -> Prop} (H : Vw encJ 1 h v ys) (hq : ys[i]? = some z) (hk : K (I z)) : pIdx 1 v (.int k i) (fun t => pLoad h t K) := by
 obtain ⟨hi, rfl⟩ := List.getElem?_eq_some_iff.1 hq
 exact H.atI hi hk

theorem hcell_more {h h' : Heap} {a : Addr} {v : Value} (x : Ext h h') (hc : hcell h a = some v) : hcell h' a = some v := by
 unfold hcell at *
 split at hc
 ·rename_i c T fz hb
  rw [x.get hb]
  exact hc
 ·cases hc

theorem Vw.idxI {h : Heap} {v : Value} {ys : List Int} {i : Nat} {k : IntKind} {K : Value -> Prop} (H : Vw encJ 1 h v ys) (hi : i < ys.length) (hK : ∀ b o, hcell h ⟨b, o, none⟩ = some (I ys[i]) -> K (.pointer (some ⟨b, o, none⟩))) : pIdx 1 v (.int k i) K :=
 H.idx (fun _ => rfl) hi fun b o hc => hK b o (by simpa [encJ] using hc 0 (by omega))

open Go

structure A where
 f : Nat
 t : Nat
 w : Nat
 deriving DecidableEq
structure G where
 n : Nat
 X : List Int
 Y : List Int
 arcs : List A

def encA (a : A) : List Value := [I a.f, I a.t, I a.w]
theorem encA_len (a : A) : (encA a).length = 3 := rfl
theorem encA_plain (a : A) : ∀ u ∈ encA a, plainCell u = true := by
 intro u hu; simp [encA] at hu; rcases hu with rfl | rfl | rfl <;> rfl
abbrev vA (a : A) : Value := .agg #[I a.f, I a.t, I a.w]

structure G.Right (g : G) : Prop where
 pos : 1 <= g.n
 most : g.n <= 16777216
 x : g.X.length = g.n
 y : g.Y.length = g.n
 xr : ∀ c ∈ g.X, -2147483648 <= c /\ c <= 2147483647
 yr : ∀ c ∈ g.Y, -2147483648 <= c /\ c <= 2147483647
 many : g.arcs.length <= 67108864
 ends : ∀ a ∈ g.arcs, a.f < g.n /\ a.t < g.n /\ a.w <= 2147483647

def RawL (h : Heap) (vx vy va : Value) (g : G) : Prop := Vw encJ 1 h vx g.X /\ Vw encJ 1 h vy g.Y /\ Vw encA 3 h va g.arcs
def RawV (h : Heap) (v : Value) (g : G) : Prop := ∃ vx vy va, v = .agg #[I g.n, vx, vy, va] /\ RawL h vx vy va g

theorem RawL.more {h h' : Heap} {vx vy va : Value} {g : G} (H : RawL h vx vy va g) (x : Ext h h') : RawL h' vx vy va g := ⟨H.1.more x, H.2.1.more x, H.2.2.more x⟩
theorem RawV.more {h h' : Heap} {v : Value} {g : G} (H : RawV h v g) (x : Ext h h') : RawV h' v g := by
 obtain ⟨vx, vy, va, e, H⟩ := H
 exact ⟨vx, vy, va, e, H.more x⟩

def encU8 (x : Int) : List Value := [.int .u8 x]
theorem encU8_len (x : Int) : (encU8 x).length = 1 := rfl
def encV (v : Value) : List Value := [v]
theorem encV_len (v : Value) : (encV v).length = 1 := rfl

def outsP (p : A -> Bool) : List A -> Nat -> List Nat
 | [], _ => []
 | a :: l, i => if p a then i :: outsP p l (i + 1) else outsP p l (i + 1)
def G.out (g : G) (v : Nat) : List Nat := outsP (fun a => a.f == v) g.arcs 0
def G.in (g : G) (v : Nat) : List Nat := outsP (fun a => a.t == v) g.arcs 0
def encN (x : Nat) : List Value := [I x]
theorem encN_len (x : Nat) : (encN x).length = 1 := rfl
theorem encN_plain (x : Nat) : ∀ u ∈ encN x, plainCell u = true := by intro u hu; simp [encN] at hu; subst hu; rfl

theorem u8_wrap (x : Int) : 0 <= IntKind.u8.wrap x /\ IntKind.u8.wrap x < 256 := by
 simp only [IntKind.wrap, IntKind.bits, IntKind.signed, Bool.false_and, Bool.false_eq_true, if_false]
 omega

open Go

def Arcs.off (p : A -> Nat) (l : List A) (v : Nat) : Nat := l.countP fun a => decide (p a < v)
def Arcs.cnt (p : A -> Nat) (l : List A) (v : Nat) : Nat := l.countP fun a => p a == v

section
variable {p : A -> Nat} {l : List A} {v n : Nat}
open Arcs

theorem off_succ : off p l (v + 1) = off p l v + cnt p l v := by
 unfold off cnt
 induction l with
 | nil => rfl
 | cons a l ih =>
  simp only [List.countP_cons, ih]
  by_cases h1 : p a < v
  ·simp [h1, show p a < v + 1 by omega, show ¬ p a = v by omega]; omega
  ·by_cases h2 : p a = v
   ·simp [h2]; omega
   ·simp [h1, h2, show ¬ p a < v + 1 by omega]

theorem off_zero : off p l 0 = 0 := by simp [off]
theorem off_le : off p l v <= l.length := List.countP_le_length
theorem off_mono {u : Nat} (h : u <= v) : off p l u <= off p l v := by
 induction h with
 | refl => exact Nat.le_refl _
 | step h ih => rw [Nat.succ_eq_add_one, off_succ]; omega
theorem cnt_le : cnt p l v <= l.length := List.countP_le_length
theorem off_cnt_le : off p l v + cnt p l v <= l.length := by rw [<- off_succ]; exact off_le

theorem outsP_length (q : A -> Bool) : ∀ (l : List A) (i : Nat), (outsP q l i).length = l.countP q
 | [], _ => rfl
 | a :: l, i => by
  simp only [outsP, List.countP_cons]
  split <;> simp [outsP_length q l, *]

theorem outsP_append (q : A -> Bool) : ∀ (l m : List A) (i : Nat), outsP q (l ++ m) i = outsP q l i ++ outsP q m (i + l.length)
 | [], m, i => by simp [outsP]
 | a :: l, m, i => by
  simp only [outsP, List.cons_append, outsP_append q l m, List.length_cons]
  have e : i + 1 + l.length = i + (l.length + 1) := by omega
  rw [e]
  split <;> simp

theorem outsP_mem {q : A -> Bool} : ∀ {l : List A} {i x : Nat}, x ∈ outsP q l i ↔ i <= x /\ ∃ h : x - i < l.length, q (l[x - i]) = true
 | [], i, x => by simp [outsP]
 | a :: l, i, x => by
  have ih := @outsP_mem q l (i + 1) x
  have key : x ∈ outsP q (a :: l) i ↔ (x = i /\ q a = true) \/ x ∈ outsP q l (i + 1) := by
   simp only [outsP]
   split
   ·simp [*]
   ·simp [*]
  rw [key, ih]
  constructor
  ·rintro (⟨rfl, hq⟩ | ⟨h1, h2, h3⟩)
   ·exact ⟨Nat.le_refl _, by simp, by simpa using hq⟩
   ·refine ⟨by omega, by simp; omega, ?_⟩
    have e : x - i = (x - (i + 1)) + 1 := by omega
    simp only [e, List.getElem_cons_succ]; exact h3
  ·rintro ⟨h1, h2, h3⟩
   by_cases e : x = i
   ·subst e; left; exact ⟨rfl, by simpa using h3⟩
   ·right
    have e : x - i = (x - (i + 1)) + 1 := by omega
    simp only [e, List.getElem_cons_succ] at h3
    exact ⟨by omega, by simp at h2; omega, h3⟩

def fill (p : A -> Nat) (l : List A) (i v : Nat) : List Nat := outsP (fun a => p a == v) (l.take i) 0

theorem fill_length {i : Nat} : (fill p l i v).length = cnt p (l.take i) v := outsP_length _ _ _
theorem cnt_take_le {i : Nat} : cnt p (l.take i) v <= cnt p l v := (List.take_sublist i l).countP_le
theorem fill_le {i : Nat} : (fill p l i v).length <= cnt p l v := by rw [fill_length]; exact cnt_take_le

theorem fill_succ {i : Nat} (hi : i < l.length) : fill p l (i + 1) v = fill p l i v ++ (if p l[i] = v then [i] else []) := by
 unfold fill
 rw [List.take_succ_eq_append_getElem hi, outsP_append]
 congr 1
 have : (l.take i).length = i := by simp; omega
 rw [this, Nat.zero_add]
 simp only [outsP]
 by_cases h : p l[i] = v
 ·simp [h]
 ·simp [h]

theorem cnt_succ {i : Nat} (hi : i < l.length) : cnt p (l.take (i + 1)) v = cnt p (l.take i) v + (if p l[i] = v then 1 else 0) := by
 rw [<- fill_length, fill_succ hi, List.length_append, fill_length]
 split <;> simp

theorem cnt_lt {i : Nat} (hi : i < l.length) : cnt p (l.take i) (p l[i]) < cnt p l (p l[i]) := by
 have h1 := cnt_succ (p := p) (v := p l[i]) hi
 have h2 : cnt p (l.take (i + 1)) (p l[i]) <= cnt p l (p l[i]) := cnt_take_le
 simp at h1
 omega

theorem range_set {α : Type} {f : Nat -> α} {k : Nat} {x : α} : ((List.range n).map f).set k x = (List.range n).map fun v => if v = k then x else f v := by
 apply List.ext_getElem
 ·simp
 ·intro j h1 h2
  simp only [List.getElem_set, List.getElem_map, List.getElem_range]
  split <;> rename_i h
  ·subst h; simp
  ·simp [show ¬ j = k from fun e => h e.symm]

end
open Go

abbrev HP := Int × Int
def hl (p q : HP) : Bool := decide (p.2 < q.2) || (decide (p.2 = q.2) && decide (p.1 < q.1))
theorem hl_iff {p q : HP} : hl p q = true ↔ p.2 < q.2 \/ p.2 = q.2 /\ p.1 < q.1 := by simp [hl]

def least : List HP -> Option HP
 | [] => none
 | p :: l => match least l with
  | none => some p
  | some q => if hl q p then some q else some p

theorem least_none {l : List HP} : least l = none ↔ l = [] := by
 cases l with
 | nil => simp [least]
 | cons p l =>
  simp only [least]
  split
  ·simp
  ·split <;> simp

theorem least_spec : ∀ {l : List HP} {p : HP}, least l = some p -> p ∈ l /\ ∀ q ∈ l, ¬ hl q p = true
 | a :: l, p, h => by
  simp only [least] at h
  split at h
  ·rename_i hn
   rw [least_none] at hn
   subst hn
   simp at h; subst h
   refine ⟨List.mem_cons_self, fun q hq => ?_⟩
   simp at hq; subst hq
   rw [hl_iff]; omega
  ·rename_i q hq
   obtain ⟨h1, h2⟩ := least_spec hq
   split at h
   ·rename_i hlt
    simp at h; subst h
    refine ⟨List.mem_cons_of_mem _ h1, fun x hx => ?_⟩
    rcases List.mem_cons.1 hx with rfl | hx
    ·rw [hl_iff] at *; omega
    ·exact h2 x hx
   ·rename_i hlt
    simp at h; subst h
    refine ⟨List.mem_cons_self, fun x hx => ?_⟩
    rcases List.mem_cons.1 hx with rfl | hx
    ·rw [hl_iff]; omega
    ·have := h2 x hx
     rw [hl_iff] at *; omega

def lookH (l : List HP) (v : Nat) : Option Int := (l.find? fun p => p.1 == (v : Int)).map (·.2)

theorem lookH_none {l : List HP} {v : Nat} : lookH l v = none ↔ ∀ p ∈ l, p.1 ≠ v := by simp [lookH]
theorem lookH_some {l : List HP} {v : Nat} {k : Int} (h : lookH l v = some k) : ((v : Int), k) ∈ l := by
 simp only [lookH, Option.map_eq_some_iff] at h
 obtain ⟨p, hp, rfl⟩ := h
 have h1 := List.find?_some hp
 have h2 := List.mem_of_find?_eq_some hp
 have : p.1 = v := by simpa using h1
 rw [<- this]; exact h2

structure FS where
 hp : List HP
 dist : List Int
 arc : List Int
 order : List Nat

def FS.reach (s : FS) (v a : Nat) (far : Int) : FS :=
 if v ∈ s.order then s else match lookH s.hp v with
 | some was => if was <= far then s else { s with hp := ((v : Int), far) :: s.hp.erase ((v : Int), was), arc := s.arc.set v a }
 | none => { s with hp := ((v : Int), far) :: s.hp, arc := s.arc.set v a }

def arcAt (l : List A) (i : Nat) : A := l.getD i ⟨0, 0, 0⟩

def FS.scan (l : List A) (head : A -> Nat) (key : Int) (s : FS) (ids : List Nat) : FS :=
 ids.foldl (fun s i => s.reach (head (arcAt l i)) i (key + (arcAt l i).w)) s

def FS.pop (s : FS) (v : Nat) (key : Int) : FS := { hp := s.hp.erase ((v : Int), key), dist := s.dist.set v key, arc := s.arc, order := s.order ++ [v] }

def FS.run (l : List A) (outs : Nat -> List Nat) (head : A -> Nat) : Nat -> FS -> FS
 | 0, s => s
 | k + 1, s => match least s.hp with
  | none => s
  | some p => FS.run l outs head k ((s.pop p.1.toNat p.2).scan l head p.2 (outs p.1.toNat))

def far : Int := 72057594037927936

def FS.start (n s : Nat) : FS := ⟨[((s : Int), 0)], List.replicate n far, List.replicate n (-1), []⟩

structure Tr where
 dist : List Int
 arc : List Int
 order : List Nat
def FS.tree (s : FS) : Tr := ⟨s.dist, s.arc, s.order⟩
def Tr.none : Tr := ⟨[], [], []⟩

def floodP (l : List A) (n : Nat) (outs : Nat -> List Nat) (head : A -> Nat) (s : Nat) : Tr := (FS.run l outs head (n + 1) (FS.start n s)).tree

def G.from (g : G) (s : Nat) : Tr := floodP g.arcs g.n g.out A.t s
def G.to (g : G) (s : Nat) : Tr := floodP g.arcs g.n g.in A.f s
def G.fromI (g : G) (s : Int) : Tr := if 0 <= s /\ s < g.n then g.from s.toNat else .none
def G.toI (g : G) (s : Int) : Tr := if 0 <= s /\ s < g.n then g.to s.toNat else .none

theorem nodup_le : ∀ {n : Nat} {l : List Nat}, l.Nodup -> (∀ x ∈ l, x < n) -> l.length <= n
 | 0, l, _, h => by
  cases l with
  | nil => simp
  | cons a l => exact absurd (h a List.mem_cons_self) (by omega)
 | n + 1, l, hn, h => by
  by_cases hm : n ∈ l
  ·have h1 : (l.erase n).Nodup := List.Nodup.erase n hn
   have h2 : ∀ x ∈ l.erase n, x < n := fun x hx => by
    have h3 := h x (List.mem_of_mem_erase hx)
    have h4 : x ≠ n := fun e => by subst e; exact (List.Nodup.mem_erase_iff hn).1 hx |>.1 rfl
    omega
   have := nodup_le h1 h2
   rw [List.length_erase_of_mem hm] at this
   omega
  ·have := nodup_le (n := n) hn fun x hx => by
    have h3 := h x hx
    have : x ≠ n := fun e => hm (e ▸ hx)
    omega
   omega

abbrev W : Int := 2147483647

structure FInv (n : Nat) (B : Int) (s : FS) : Prop where
 ids : (s.hp.map (·.1)).Nodup
 ent : ∀ p ∈ s.hp, ∃ u : Nat, p.1 = u /\ u < n /\ u ∉ s.order /\ 0 <= p.2 /\ p.2 <= B
 ord : s.order.Nodup
 ordr : ∀ v ∈ s.order, v < n
 dl : s.dist.length = n
 al : s.arc.length = n

theorem FInv.start {n s : Nat} (h : s < n) : FInv n 0 (FS.start n s) := by
 refine ⟨by simp [FS.start], fun p hp => ?_, by simp [FS.start], by simp [FS.start], by simp [FS.start], by simp [FS.start]⟩
 simp [FS.start] at hp; subst hp
 exact ⟨s, rfl, h, by simp [FS.start], by simp, by simp⟩

theorem FInv.room {n : Nat} {B : Int} {s : FS} (H : FInv n B s) (h : s.hp ≠ []) : s.order.length < n := by
 obtain ⟨p, hp⟩ := List.exists_mem_of_ne_nil _ h
 obtain ⟨u, _, hu, hno, _⟩ := H.ent p hp
 have := nodup_le (n := n) (l := u :: s.order) (List.nodup_cons.2 ⟨hno, H.ord⟩) (by
  intro x hx
  rcases List.mem_cons.1 hx with rfl | hx
  ·exact hu
  ·exact H.ordr x hx)
 simp at this; omega

theorem FInv.len {n : Nat} {B : Int} {s : FS} (H : FInv n B s) : s.order.length <= n := nodup_le H.ord H.ordr

theorem map_erase_sub {l : List HP} {p : HP} : ((l.erase p).map (·.1)).Sublist (l.map (·.1)) := List.Sublist.map _ List.erase_sublist

theorem not_mem_erase {l : List HP} (h : (l.map (·.1)).Nodup) {p q : HP} (hp : p ∈ l) (hq : q ∈ l.erase p) : q.1 ≠ p.1 := by
 induction l with
 | nil => simp at hp
 | cons a l ih =>
  simp only [List.map_cons, List.nodup_cons] at h
  by_cases e : a = p
  ·subst e
   rw [List.erase_cons_head] at hq
   intro e
   exact h.1 (e ▸ List.mem_map.2 ⟨q, hq, rfl⟩)
  ·have hp' : p ∈ l := by
    rcases List.mem_cons.1 hp with rfl | hp
    ·exact absurd rfl e
    ·exact hp
   rw [List.erase_cons_tail (by simpa using e)] at hq
   rcases List.mem_cons.1 hq with rfl | hq
   ·intro e'
    exact h.1 (e' ▸ List.mem_map.2 ⟨p, hp', rfl⟩)
   ·exact ih h.2 hp' hq

theorem FInv.popped {n : Nat} {B : Int} {s : FS} (H : FInv n B s) {v : Nat} {key : Int} (h : ((v : Int), key) ∈ s.hp) : FInv n B (s.pop v key) := by
 obtain ⟨u, hu, hun, hno, _, _⟩ := H.ent _ h
 have hu : v = u := by simp at hu; omega
 subst hu
 refine ⟨map_erase_sub.nodup H.ids, fun p hp => ?_, ?_, fun x hx => ?_, by simp [FS.pop, H.dl], H.al⟩
 ·obtain ⟨w, h1, h2, h3, h4⟩ := H.ent p (List.mem_of_mem_erase hp)
  refine ⟨w, h1, h2, ?_, h4⟩
  simp only [FS.pop, List.mem_append, List.mem_singleton]
  rintro (hx | rfl)
  ·exact h3 hx
  ·exact not_mem_erase H.ids h hp h1
 ·simp only [FS.pop]
  rw [List.nodup_append]
  refine ⟨H.ord, by simp, fun a ha b hb => ?_⟩
  simp at hb; subst hb
  exact fun e => hno (e ▸ ha)
 ·simp only [FS.pop, List.mem_append, List.mem_singleton] at hx
  rcases hx with hx | rfl
  ·exact H.ordr x hx
  ·exact hun

theorem FInv.mono {n : Nat} {B B' : Int} {s : FS} (H : FInv n B s) (h : B <= B') : FInv n B' s :=
 ⟨H.ids, fun p hp => by obtain ⟨u, a, b, c, d, e⟩ := H.ent p hp; exact ⟨u, a, b, c, d, by omega⟩, H.ord, H.ordr, H.dl, H.al⟩

theorem FInv.reach {n : Nat} {B : Int} {s : FS} (H : FInv n B s) {v a : Nat} {d : Int} (hv : v < n) (h0 : 0 <= d) (hB : d <= B) : FInv n B (s.reach v a d) := by
 unfold FS.reach
 split
 ·exact H
 ·rename_i hno
  split
  ·rename_i was hw
   split
   ·exact H
   ·have hm := lookH_some hw
    refine ⟨?_, fun p hp => ?_, H.ord, H.ordr, H.dl, by simp [H.al]⟩
    ·simp only [List.map_cons, List.nodup_cons]
     refine ⟨fun hx => ?_, map_erase_sub.nodup H.ids⟩
     obtain ⟨q, hq, he⟩ := List.mem_map.1 hx
     exact not_mem_erase H.ids hm hq he
    ·rcases List.mem_cons.1 hp with rfl | hp
     ·exact ⟨v, rfl, hv, hno, h0, hB⟩
     ·exact H.ent p (List.mem_of_mem_erase hp)
  ·rename_i hw
   rw [lookH_none] at hw
   refine ⟨?_, fun p hp => ?_, H.ord, H.ordr, H.dl, by simp [H.al]⟩
   ·simp only [List.map_cons, List.nodup_cons]
    refine ⟨fun hx => ?_, H.ids⟩
    obtain ⟨q, hq, he⟩ := List.mem_map.1 hx
    exact hw q hq he
   ·rcases List.mem_cons.1 hp with rfl | hp
    ·exact ⟨v, rfl, hv, hno, h0, hB⟩
    ·exact H.ent p hp

theorem reach_order {s : FS} {v a : Nat} {d : Int} : (s.reach v a d).order = s.order /\ (s.reach v a d).dist = s.dist := by
 unfold FS.reach
 split
 ·exact ⟨rfl, rfl⟩
 ·split
  ·split <;> exact ⟨rfl, rfl⟩
  ·exact ⟨rfl, rfl⟩

theorem FInv.scan {n : Nat} {B : Int} {l : List A} {head : A -> Nat} {key : Int} (hh : ∀ a ∈ l, head a < n /\ (a.w : Int) <= W) (h0 : 0 <= key) (hB : key + W <= B) : ∀ {ids : List Nat} {s : FS}, (∀ i ∈ ids, i < l.length) -> FInv n B s -> FInv n B (s.scan l head key ids)
 | [], s, _, H => H
 | i :: ids, s, hi, H => by
  have hlt := hi i List.mem_cons_self
  have ha : arcAt l i ∈ l := by simp [arcAt, hlt]
  obtain ⟨h1, h2⟩ := hh _ ha
  exact FInv.scan (ids := ids) hh h0 hB (fun j hj => hi j (List.mem_cons_of_mem _ hj)) (H.reach h1 (by omega) (by omega))

theorem scan_order {l : List A} {head : A -> Nat} {key : Int} : ∀ {ids : List Nat} {s : FS}, (s.scan l head key ids).order = s.order /\ (s.scan l head key ids).dist = s.dist
 | [], s => ⟨rfl, rfl⟩
 | i :: ids, s => by
  have := @scan_order l head key ids (s.reach (head (arcAt l i)) i (key + (arcAt l i).w))
  exact ⟨this.1.trans reach_order.1, this.2.trans reach_order.2⟩

open Go

inductive Way (l : List A) (tl hd : A -> Nat) (s : Nat) : Nat -> Int -> Prop
 | nil : Way l tl hd s s 0
 | step {v : Nat} {d : Int} (a : A) : Way l tl hd s v d -> a ∈ l -> tl a = v -> Way l tl hd s (hd a) (d + a.w)

theorem Way.nonneg {l : List A} {tl hd : A -> Nat} {s v : Nat} {d : Int} (h : Way l tl hd s v d) : 0 <= d := by
 induction h with
 | nil => exact Int.le_refl 0
 | step a _ _ _ ih => omega

abbrev dAt (dist : List Int) (v : Nat) : Int := dist.getD v far

structure LS (l : List A) (tl hd : A -> Nat) (n s : Nat) (d : List Int) : Prop where
 len : d.length = n
 zero : dAt d s = 0
 arcs : ∀ a ∈ l, dAt d (tl a) < far -> dAt d (hd a) <= dAt d (tl a) + a.w
 way : ∀ v, v < n -> dAt d v = far \/ (dAt d v < far /\ Way l tl hd s v (dAt d v))

theorem LS.le_way {l : List A} {tl hd : A -> Nat} {n s : Nat} {d : List Int} (H : LS l tl hd n s d) {v : Nat} {w : Int} (h : Way l tl hd s v w) : w < far -> dAt d v <= w := by
 induction h with
 | nil => intro _; rw [H.zero]; exact Int.le_refl 0
 | step a hw hm ht ih =>
  intro hlt
  have h1 := ih (by omega)
  have := H.arcs a hm (by rw [ht]; omega)
  rw [ht] at this
  omega

structure DInv (l : List A) (tl hd : A -> Nat) (n s : Nat) (done : List Nat) (st : FS) : Prop where
 d1 : ∀ v ∈ st.order, dAt st.dist v < far /\ Way l tl hd s v (dAt st.dist v)
 d2 : ∀ p ∈ st.hp, Way l tl hd s p.1.toNat p.2
 d3 : ∀ v ∈ st.order, ∀ p ∈ st.hp, dAt st.dist v <= p.2
 d4 : ∀ i ∈ done, tl (arcAt l i) ∈ st.order /\ ((hd (arcAt l i) ∈ st.order /\ dAt st.dist (hd (arcAt l i)) <= dAt st.dist (tl (arcAt l i)) + (arcAt l i).w) \/
  ∃ k, ((hd (arcAt l i) : Int), k) ∈ st.hp /\ k <= dAt st.dist (tl (arcAt l i)) + (arcAt l i).w)
 d5 : ∀ v, v ∉ st.order -> dAt st.dist v = far
 d6 : ∀ v, v < n -> v ≠ s -> v ∉ st.order -> (∀ p ∈ st.hp, p.1 ≠ v) -> st.arc.getD v (-1) = -1
 d7 : ∀ v, v ≠ s -> (v ∈ st.order \/ ∃ k, ((v : Int), k) ∈ st.hp) -> ∃ i, i < l.length /\ st.arc.getD v (-1) = (i : Int) /\ hd (arcAt l i) = v /\ tl (arcAt l i) ∈ st.order /\ tl (arcAt l i) ≠ v /\
  (v ∈ st.order -> dAt st.dist v = dAt st.dist (tl (arcAt l i)) + (arcAt l i).w /\ st.order.idxOf (tl (arcAt l i)) < st.order.idxOf v) /\ (∀ k, ((v : Int), k) ∈ st.hp -> k = dAt st.dist (tl (arcAt l i)) + (arcAt l i).w)
 d8 : s ∈ st.order \/ (st.order = [] /\ st.hp = [((s : Int), 0)])
 d9 : st.arc.getD s (-1) = -1
 d10 : st.order.Pairwise fun u v => dAt st.dist u <= dAt st.dist v
 d11 : ∀ v, st.order.head? = some v -> v = s /\ dAt st.dist s = 0

theorem dAt_set {d : List Int} {v u : Nat} {k : Int} (hv : v < d.length) : dAt (d.set v k) u = if u = v then k else dAt d u := by
 by_cases h : u = v
 ·subst h; simp [dAt, List.getD_eq_getElem?_getD, hv]
 ·simp [dAt, List.getD_eq_getElem?_getD, h, List.getElem?_set_ne (fun e : v = u => h e.symm)]

theorem arc_set {d : List Int} {v u : Nat} {k : Int} (hv : v < d.length) : (d.set v k).getD u (-1) = if u = v then k else d.getD u (-1) := by
 by_cases h : u = v
 ·subst h; simp [List.getD_eq_getElem?_getD, hv]
 ·simp [List.getD_eq_getElem?_getD, h, List.getElem?_set_ne (fun e : v = u => h e.symm)]

theorem DInv.start {l : List A} {tl hd : A -> Nat} {n s : Nat} (hs : s < n) : DInv l tl hd n s [] (FS.start n s) := by
 have hd : ∀ v, dAt (List.replicate n far) v = far := fun v => by
  by_cases h : v < n <;> simp [dAt, List.getD_eq_getElem?_getD, h]
 have ha : ∀ v, (List.replicate n (-1 : Int)).getD v (-1) = -1 := fun v => by
  by_cases h : v < n <;> simp [List.getD_eq_getElem?_getD, h]
 refine ⟨by simp [FS.start], ?_, by simp [FS.start], by simp, fun v _ => hd v, fun v _ _ _ _ => ha v, ?_, .inr ⟨rfl, rfl⟩, ha s, by simp [FS.start], by simp [FS.start]⟩
 ·intro p hp
  simp [FS.start] at hp; subst hp
  simpa using Way.nil
 ·rintro v hv (h | ⟨k, h⟩)
  ·simp [FS.start] at h
  ·simp [FS.start] at h; omega

section
variable {l : List A} {tl hd : A -> Nat} {n s : Nat} {done : List Nat} {st : FS} {B : Int}

theorem DInv.popped (D : DInv l tl hd n s done st) (H : FInv n B st) {v : Nat} {key : Int} (hm : ((v : Int), key) ∈ st.hp) (hmin : ∀ q ∈ st.hp, ¬ hl q ((v : Int), key) = true) (hB : B < far) : DInv l tl hd n s done (st.pop v key) := by
 obtain ⟨u, hu, hvn, hno, hk0, hkB⟩ := H.ent _ hm
 have hu : u = v := by simp at hu; omega
 subst hu
 have hkB : key <= B := hkB
 have hdl : u < st.dist.length := by rw [H.dl]; exact hvn
 have hset : ∀ x, dAt (st.dist.set u key) x = if x = u then key else dAt st.dist x := fun x => dAt_set hdl
 have hold : ∀ x ∈ st.order, dAt (st.dist.set u key) x = dAt st.dist x := fun x hx => by
  have hne : ¬ x = u := fun e => hno (by rw [<- e]; exact hx)
  rw [hset, if_neg hne]
 have hnew : dAt (st.dist.set u key) u = key := by rw [hset, if_pos rfl]
 have huniq : ∀ k, ((u : Int), k) ∈ st.hp -> k = key := fun k hk => by
  by_cases e : ((u : Int), k) = ((u : Int), key)
  ·simpa using e
  ·have h2 : ((u : Int), k) ∈ st.hp.erase ((u : Int), key) := (List.mem_erase_of_ne e).2 hk
   exact absurd rfl (not_mem_erase (p := ((u : Int), key)) (q := ((u : Int), k)) H.ids hm h2)
 have hge : ∀ p ∈ st.hp, key <= p.2 := fun p hp => by
  have := hmin p hp
  rw [hl_iff] at this
  simp only at this
  omega
 simp only [FS.pop]
 refine ⟨?_, fun p hp => D.d2 p (List.mem_of_mem_erase hp), ?_, ?_, ?_, ?_, ?_, ?_, D.d9, ?_, ?_⟩
 ·intro x hx
  rcases List.mem_append.1 hx with hx | hx
  ·rw [hold x hx]; exact D.d1 x hx
  ·simp at hx; subst hx
   rw [hnew]
   have := D.d2 _ hm
   exact ⟨by omega, by simpa using this⟩
 ·intro x hx p hp
  have hp' := List.mem_of_mem_erase hp
  rcases List.mem_append.1 hx with hx | hx
  ·rw [hold x hx]; exact D.d3 x hx p hp'
  ·simp at hx; subst hx
   rw [hnew]; exact hge p hp'
 ·intro i hi
  obtain ⟨h1, h2⟩ := D.d4 i hi
  refine ⟨List.mem_append_left _ h1, ?_⟩
  rw [hold _ h1]
  rcases h2 with ⟨h2, h3⟩ | ⟨k, h2, h3⟩
  ·exact .inl ⟨List.mem_append_left _ h2, by rw [hold _ h2]; exact h3⟩
  ·by_cases e : hd (arcAt l i) = u
   ·left
    rw [e] at h2 ⊢
    exact ⟨by simp, by rw [hnew, <- huniq k h2]; exact h3⟩
   ·right
    refine ⟨k, (List.mem_erase_of_ne (by simp; intro e'; omega)).2 h2, h3⟩
 ·intro x hx
  simp only [List.mem_append, List.mem_singleton, not_or] at hx
  rw [hset, if_neg hx.2]
  exact D.d5 x hx.1
 ·intro x hxn hxs hxo hxh
  simp only [List.mem_append, List.mem_singleton, not_or] at hxo
  refine D.d6 x hxn hxs hxo.1 fun p hp e => ?_
  refine hxh p ((List.mem_erase_of_ne fun e' => ?_).2 hp) e
  subst e'
  simp at e; omega
 ·intro x hxs hx
  have hcase : x ∈ st.order \/ ∃ k, ((x : Int), k) ∈ st.hp := by
   rcases hx with hx | ⟨k, hk⟩
   ·rcases List.mem_append.1 hx with hx | hx
    ·exact .inl hx
    ·simp at hx; subst hx; exact .inr ⟨key, hm⟩
   ·exact .inr ⟨k, List.mem_of_mem_erase hk⟩
  obtain ⟨i, h1, h2, h3, h4, h5, h6, h7⟩ := D.d7 x hxs hcase
  refine ⟨i, h1, h2, h3, List.mem_append_left _ h4, h5, fun hx' => ?_, fun k hk => ?_⟩
  ·rw [hold _ h4, List.idxOf_append, List.idxOf_append, if_pos h4]
   rcases List.mem_append.1 hx' with hx' | hx'
   ·rw [hold _ hx', if_pos hx']
    exact h6 hx'
   ·simp at hx'; subst hx'
    rw [hnew, if_neg hno]
    refine ⟨h7 key hm, ?_⟩
    have := List.idxOf_lt_length_of_mem h4
    omega
  ·rw [hold _ h4]; exact h7 k (List.mem_of_mem_erase hk)
 ·rcases D.d8 with h | ⟨h1, h2⟩
  ·exact .inl (List.mem_append_left _ h)
  ·left
   rw [h2] at hm
   simp at hm
   have : u = s := by omega
   subst this
   exact List.mem_append_right _ List.mem_cons_self
 ·rw [List.pairwise_append]
  refine ⟨?_, by simp, ?_⟩
  ·refine D.d10.imp_of_mem fun {a b} ha hb hab => ?_
   rw [hold a ha, hold b hb]; exact hab
  ·intro a ha b hb
   simp at hb; subst hb
   rw [hold a ha, hnew]
   exact D.d3 a ha _ hm
 ·intro x hx
  cases ho : st.order with
  | nil =>
   rw [ho] at hx
   simp at hx
   rcases D.d8 with h | ⟨h1, h2⟩
   ·rw [ho] at h; cases h
   ·rw [h2] at hm
    simp at hm
    have : x = s := by omega
    subst this
    refine ⟨rfl, ?_⟩
    have e : x = u := by omega
    rw [e, hnew]; exact hm.2
  | cons a r =>
   have := D.d11 a (by rw [ho]; rfl)
   rw [ho] at hx
   simp at hx; subst hx
   refine ⟨this.1, ?_⟩
   have hs : s ∈ st.order := by rw [ho, <- this.1]; simp
   rw [hold _ hs]; exact this.2

theorem DInv.reached (D : DInv l tl hd n s done st) (H : FInv n B st) {i : Nat} (hi : i < l.length) (ht : tl (arcAt l i) ∈ st.order) (hh : hd (arcAt l i) < n)
  (hlast : ∀ x ∈ st.order, dAt st.dist x <= dAt st.dist (tl (arcAt l i))) :
  DInv l tl hd n s (done ++ [i]) (st.reach (hd (arcAt l i)) i (dAt st.dist (tl (arcAt l i)) + (arcAt l i).w)) := by
 have ha : arcAt l i ∈ l := by simp [arcAt, hi]
 generalize hv : hd (arcAt l i) = v at hh
 generalize hd' : dAt st.dist (tl (arcAt l i)) + ((arcAt l i).w : Int) = d
 have hway : Way l tl hd s v d := by
  rw [<- hv, <- hd']
  exact .step _ (D.d1 _ ht).2 ha rfl
 have hs : s ∈ st.order := by
  rcases D.d8 with h | ⟨h1, h2⟩
  ·exact h
  ·rw [h1] at ht; cases ht
 unfold FS.reach
 split
 ·rename_i hvo
  refine ⟨D.d1, D.d2, D.d3, ?_, D.d5, D.d6, D.d7, D.d8, D.d9, D.d10, D.d11⟩
  intro j hj
  rcases List.mem_append.1 hj with hj | hj
  ·exact D.d4 j hj
  ·simp at hj; subst hj
   refine ⟨ht, .inl ⟨by rw [hv]; exact hvo, ?_⟩⟩
   have := hlast v hvo
   rw [hv]; omega
 ·rename_i hvo
  have hvs : v ≠ s := fun e => hvo (e ▸ hs)
  have hty : tl (arcAt l i) ≠ v := fun e => hvo (e ▸ ht)
  have al : v < st.arc.length := by rw [H.al]; exact hh
  split
  ·rename_i was hw
   have hm := lookH_some hw
   have huniq : ∀ k, ((v : Int), k) ∈ st.hp -> k = was := fun k hk => by
    by_cases e : ((v : Int), k) = ((v : Int), was)
    ·simpa using e
    ·have h2 : ((v : Int), k) ∈ st.hp.erase ((v : Int), was) := (List.mem_erase_of_ne e).2 hk
     exact absurd rfl (not_mem_erase (p := ((v : Int), was)) (q := ((v : Int), k)) H.ids hm h2)
   split
   ·rename_i hle
    refine ⟨D.d1, D.d2, D.d3, ?_, D.d5, D.d6, D.d7, D.d8, D.d9, D.d10, D.d11⟩
    intro j hj
    rcases List.mem_append.1 hj with hj | hj
    ·exact D.d4 j hj
    ·simp at hj; subst hj
     exact ⟨ht, .inr ⟨was, by rw [hv]; exact hm, by omega⟩⟩
   ·rename_i hgt
    have hmem : ∀ p, p ∈ ((v : Int), d) :: st.hp.erase ((v : Int), was) -> p = ((v : Int), d) \/ (p ∈ st.hp /\ p.1 ≠ v) := fun p hp => by
     rcases List.mem_cons.1 hp with rfl | hp
     ·exact .inl rfl
     ·exact .inr ⟨List.mem_of_mem_erase hp, not_mem_erase H.ids hm hp⟩
    have hkeep : ∀ p ∈ st.hp, p.1 ≠ v -> p ∈ ((v : Int), d) :: st.hp.erase ((v : Int), was) := fun p hp hne =>
     List.mem_cons_of_mem _ ((List.mem_erase_of_ne fun e => hne (by rw [e])).2 hp)
    refine ⟨D.d1, ?_, ?_, ?_, D.d5, ?_, ?_, .inl hs, ?_, D.d10, D.d11⟩
    ·intro p hp
     rcases hmem p hp with rfl | ⟨hp, _⟩
     ·simpa using hway
     ·exact D.d2 p hp
    ·intro x hx p hp
     rcases hmem p hp with rfl | ⟨hp, _⟩
     ·have := hlast x hx
      show dAt st.dist x <= d
      omega
     ·exact D.d3 x hx p hp
    ·intro j hj
     rcases List.mem_append.1 hj with hj | hj
     ·obtain ⟨h1, h2⟩ := D.d4 j hj
      refine ⟨h1, ?_⟩
      rcases h2 with h2 | ⟨k, h2, h3⟩
      ·exact .inl h2
      ·by_cases e : hd (arcAt l j) = v
       ·rw [e] at h2 ⊢
        have := huniq k h2
        refine .inr ⟨d, List.mem_cons_self, ?_⟩
        show d <= dAt st.dist (tl (arcAt l j)) + _
        omega
       ·exact .inr ⟨k, hkeep _ h2 (by simpa using fun e' => e (by omega)), h3⟩
     ·simp at hj; subst hj
      exact ⟨ht, .inr ⟨d, by rw [hv]; exact List.mem_cons_self, Int.le_of_eq hd'.symm⟩⟩
    ·intro x hxn hxs hxo hxh
     have hne : x ≠ v := fun e => hxh _ List.mem_cons_self (by simp [e])
     rw [arc_set al, if_neg hne]
     refine D.d6 x hxn hxs hxo fun p hp e => ?_
     exact hxh p (hkeep p hp (by rw [e]; omega)) e
    ·intro x hxs hx
     by_cases e : x = v
     ·subst e
      refine ⟨i, hi, by rw [arc_set al, if_pos rfl], hv, ht, hty, fun hx' => absurd hx' hvo, fun k hk => ?_⟩
      rcases hmem _ hk with h | ⟨_, h⟩
      ·simp at h; exact h.trans hd'.symm
      ·exact absurd rfl h
     ·have hcase : x ∈ st.order \/ ∃ k, ((x : Int), k) ∈ st.hp := by
       rcases hx with hx | ⟨k, hk⟩
       ·exact .inl hx
       ·rcases hmem _ hk with h | ⟨h, _⟩
        ·simp at h; omega
        ·exact .inr ⟨k, h⟩
      obtain ⟨j, h1, h2, h3, h4, h5, h6, h7⟩ := D.d7 x hxs hcase
      refine ⟨j, h1, by rw [arc_set al, if_neg e]; exact h2, h3, h4, h5, h6, fun k hk => ?_⟩
      rcases hmem _ hk with h | ⟨h, _⟩
      ·simp at h; omega
      ·exact h7 k h
    ·rw [arc_set al, if_neg (fun e => hvs e.symm)]; exact D.d9
  ·rename_i hw
   rw [lookH_none] at hw
   have hmem : ∀ p, p ∈ ((v : Int), d) :: st.hp -> p = ((v : Int), d) \/ (p ∈ st.hp /\ p.1 ≠ v) := fun p hp => by
    rcases List.mem_cons.1 hp with rfl | hp
    ·exact .inl rfl
    ·exact .inr ⟨hp, hw p hp⟩
   refine ⟨D.d1, ?_, ?_, ?_, D.d5, ?_, ?_, .inl hs, ?_, D.d10, D.d11⟩
   ·intro p hp
    rcases hmem p hp with rfl | ⟨hp, _⟩
    ·simpa using hway
    ·exact D.d2 p hp
   ·intro x hx p hp
    rcases hmem p hp with rfl | ⟨hp, _⟩
    ·have := hlast x hx
     show dAt st.dist x <= d
     omega
    ·exact D.d3 x hx p hp
   ·intro j hj
    rcases List.mem_append.1 hj with hj | hj
    ·obtain ⟨h1, h2⟩ := D.d4 j hj
     refine ⟨h1, ?_⟩
     rcases h2 with h2 | ⟨k, h2, h3⟩
     ·exact .inl h2
     ·exact .inr ⟨k, List.mem_cons_of_mem _ h2, h3⟩
    ·simp at hj; subst hj
     exact ⟨ht, .inr ⟨d, by rw [hv]; exact List.mem_cons_self, Int.le_of_eq hd'.symm⟩⟩
   ·intro x hxn hxs hxo hxh
    have hne : x ≠ v := fun e => hxh _ List.mem_cons_self (by simp [e])
    rw [arc_set al, if_neg hne]
    exact D.d6 x hxn hxs hxo fun p hp e => hxh p (List.mem_cons_of_mem _ hp) e
   ·intro x hxs hx
    by_cases e : x = v
    ·subst e
     refine ⟨i, hi, by rw [arc_set al, if_pos rfl], hv, ht, hty, fun hx' => absurd hx' hvo, fun k hk => ?_⟩
     rcases hmem _ hk with h | ⟨_, h⟩
     ·simp at h; exact h.trans hd'.symm
     ·exact absurd rfl h
    ·have hcase : x ∈ st.order \/ ∃ k, ((x : Int), k) ∈ st.hp := by
      rcases hx with hx | ⟨k, hk⟩
      ·exact .inl hx
      ·rcases hmem _ hk with h | ⟨h, _⟩
       ·simp at h; omega
       ·exact .inr ⟨k, h⟩
     obtain ⟨j, h1, h2, h3, h4, h5, h6, h7⟩ := D.d7 x hxs hcase
     refine ⟨j, h1, by rw [arc_set al, if_neg e]; exact h2, h3, h4, h5, h6, fun k hk => ?_⟩
     rcases hmem _ hk with h | ⟨h, _⟩
     ·simp at h; omega
     ·exact h7 k h
   ·rw [arc_set al, if_neg (fun e => hvs e.symm)]; exact D.d9

end
open Go

section
variable {l : List A} {tl hd : A -> Nat} {n s : Nat} {B : Int} {outs : Nat -> List Nat}

theorem DInv.scanned {v : Nat} {key : Int} (hB : key + W <= B) (h0 : 0 <= key) (hh : ∀ a ∈ l, hd a < n /\ (a.w : Int) <= W) :
  ∀ (ids : List Nat) {done : List Nat} {st : FS}, DInv l tl hd n s done st -> FInv n B st -> v ∈ st.order -> dAt st.dist v = key -> (∀ x ∈ st.order, dAt st.dist x <= key) -> (∀ i ∈ ids, i < l.length /\ tl (arcAt l i) = v) ->
   DInv l tl hd n s (done ++ ids) (st.scan l hd key ids)
 | [], done, st, D, _, _, _, _, _ => by rw [List.append_nil]; exact D
 | i :: ids, done, st, D, H, hv, hk, hlast, hi => by
  obtain ⟨h1, h2⟩ := hi i List.mem_cons_self
  have ha : arcAt l i ∈ l := by simp [arcAt, h1]
  have h3 := hh _ ha
  have D1 := D.reached H h1 (by rw [h2]; exact hv) h3.1 (by rw [h2, hk]; exact hlast)
  rw [h2, hk] at D1
  have H1 : FInv n B (st.reach (hd (arcAt l i)) i (key + (arcAt l i).w)) := H.reach h3.1 (by omega) (by omega)
  have ho := @reach_order st (hd (arcAt l i)) i (key + (arcAt l i).w)
  have := DInv.scanned hB h0 hh ids D1 H1 (by rw [ho.1]; exact hv) (by rw [ho.2]; exact hk) (by rw [ho.1, ho.2]; exact hlast) fun j hj => hi j (List.mem_cons_of_mem _ hj)
  rw [List.append_assoc] at this
  exact this

theorem DInv.ran (hn : n <= 16777216) (hh : ∀ a ∈ l, hd a < n /\ (a.w : Int) <= W) (hout : ∀ v, v < n -> ∀ i ∈ outs v, i < l.length /\ tl (arcAt l i) = v) :
  ∀ (k : Nat) {done : List Nat} {st : FS}, DInv l tl hd n s done st -> FInv n (st.order.length * W) st -> n + 1 <= k + st.order.length -> (∀ u ∈ st.order, ∀ i ∈ outs u, i ∈ done) ->
   ∃ done', DInv l tl hd n s done' (FS.run l outs hd k st) /\ FInv n (n * W) (FS.run l outs hd k st) /\ (FS.run l outs hd k st).hp = [] /\ (∀ u ∈ (FS.run l outs hd k st).order, ∀ i ∈ outs u, i ∈ done') := by
 intro k
 induction k with
 | zero => intro done st D H hk hd'; have := H.len; omega
 | succ k ih =>
  intro done st D H hk hd'
  have hW : (0 : Int) <= W := by decide
  have hmul : (st.order.length : Int) * W <= n * W := Int.mul_le_mul_of_nonneg_right (by have := H.len; omega) hW
  simp only [FS.run]
  cases hl : least st.hp with
  | none =>
   exact ⟨done, D, H.mono hmul, least_none.1 hl, hd'⟩
  | some p =>
   have hm := (least_spec hl).1
   obtain ⟨u, hu, hun, hno, hk0, hkB⟩ := H.ent p hm
   obtain ⟨pv, key⟩ := p
   dsimp only at hu hk0 hkB ⊢
   subst hu
   have hroom := H.room (by intro e; rw [e] at hm; cases hm)
   have hfar : (16777216 : Int) * W < far := by decide
   have hBn0 : (st.order.length : Int) <= 16777216 := by omega
   have hBn : (st.order.length : Int) * W <= 16777216 * W := Int.mul_le_mul_of_nonneg_right hBn0 hW
   have D1 := D.popped H hm (least_spec hl).2 (by omega)
   have H1 : FInv n (st.order.length * W + W) (st.pop u key) := (H.popped hm).mono (by omega)
   have hdu : dAt (st.pop u key).dist u = key := by
    simp only [FS.pop]; rw [dAt_set (by rw [H.dl]; exact hun), if_pos rfl]
   have hmem : u ∈ (st.pop u key).order := by simp [FS.pop]
   have hlast : ∀ x ∈ (st.pop u key).order, dAt (st.pop u key).dist x <= key := by
    intro x hx
    have := D1.d10
    simp only [FS.pop] at this hx
    rcases List.mem_append.1 hx with hx | hx
    ·have := (List.pairwise_append.1 this).2.2 x hx u (by simp)
     exact Int.le_trans this (Int.le_of_eq hdu)
    ·simp at hx; subst hx; rw [hdu]; exact Int.le_refl _
   simp only [Int.toNat_natCast]
   have D2 := D1.scanned (B := st.order.length * W + W) (v := u) (key := key) (by omega) hk0 hh (outs u) H1 hmem hdu hlast (hout u hun)
   have H2 : FInv n (st.order.length * W + W) ((st.pop u key).scan l hd key (outs u)) := FInv.scan hh hk0 (by omega) (fun i hi => (hout u hun i hi).1) H1
   have hso := @scan_order l hd key (outs u) (st.pop u key)
   have hol : ((st.pop u key).scan l hd key (outs u)).order.length = st.order.length + 1 := by rw [hso.1]; simp [FS.pop]
   have hol' : ((((st.pop u key).scan l hd key (outs u)).order.length : Nat) : Int) * W = st.order.length * W + W := by
    rw [hol, Int.natCast_add, Int.add_mul]; rfl
   refine ih D2 (by rw [hol']; exact H2) (by omega) ?_
   intro x hx i hi
   rw [hso.1] at hx
   simp only [FS.pop] at hx
   rcases List.mem_append.1 hx with hx | hx
   ·exact List.mem_append_left _ (hd' x hx i hi)
   ·simp at hx; subst hx; exact List.mem_append_right _ hi

structure TreeOf (l : List A) (tl hd : A -> Nat) (n s : Nat) (t : Tr) : Prop where
 ls : LS l tl hd n s t.dist
 al : t.arc.length = n
 nodup : t.order.Nodup
 range : ∀ v ∈ t.order, v < n
 reached : ∀ v, v < n -> (v ∈ t.order ↔ dAt t.dist v < far)
 first : t.order.head? = some s
 root : t.arc.getD s (-1) = -1
 none : ∀ v, v < n -> v ∉ t.order -> dAt t.dist v = far /\ t.arc.getD v (-1) = -1
 arc : ∀ v ∈ t.order, v ≠ s -> ∃ i, i < l.length /\ t.arc.getD v (-1) = (i : Int) /\ hd (arcAt l i) = v /\ tl (arcAt l i) ∈ t.order /\ dAt t.dist v = dAt t.dist (tl (arcAt l i)) + (arcAt l i).w /\ t.order.idxOf (tl (arcAt l i)) < t.order.idxOf v
 rising : t.order.Pairwise fun u v => dAt t.dist u <= dAt t.dist v
 bound : ∀ v ∈ t.order, 0 <= dAt t.dist v

theorem treeOf (hs : s < n) (hn : n <= 16777216) (hh : ∀ a ∈ l, hd a < n /\ (a.w : Int) <= W) (hout : ∀ v, v < n -> ∀ i ∈ outs v, i < l.length /\ tl (arcAt l i) = v) (htl : ∀ i, i < l.length -> i ∈ outs (tl (arcAt l i))) :
  TreeOf l tl hd n s (floodP l n outs hd s) := by
 obtain ⟨done, D, H, hhp, hdone⟩ := DInv.ran (s := s) (tl := tl) (outs := outs) hn hh hout (n + 1) (DInv.start hs) ((FInv.start hs).mono (by simp [FS.start])) (by omega) (by simp [FS.start])
 have hord : ∀ v, v ∈ (FS.run l outs hd (n + 1) (FS.start n s)).order ↔ dAt (FS.run l outs hd (n + 1) (FS.start n s)).dist v < far := fun v =>
  ⟨fun h => (D.d1 v h).1, fun h => by
   by_cases hx : v ∈ (FS.run l outs hd (n + 1) (FS.start n s)).order
   ·exact hx
   ·have := D.d5 v hx; omega⟩
 have hso : s ∈ (FS.run l outs hd (n + 1) (FS.start n s)).order := by
  rcases D.d8 with h | ⟨_, h⟩
  ·exact h
  ·rw [hhp] at h; cases h
 have hhead : (FS.run l outs hd (n + 1) (FS.start n s)).order.head? = some s := by
  cases ho : (FS.run l outs hd (n + 1) (FS.start n s)).order with
  | nil => rw [ho] at hso; cases hso
  | cons a r => rw [List.head?_cons, (D.d11 a (by rw [ho]; rfl)).1]
 refine ⟨⟨H.dl, (D.d11 s hhead).2, ?_, ?_⟩, H.al, H.ord, H.ordr, fun v _ => hord v, hhead, D.d9, ?_, ?_, D.d10, fun v hv => (D.d1 v hv).2.nonneg⟩
 ·intro a ha hlt
  obtain ⟨i, hi, rfl⟩ := List.mem_iff_getElem.1 ha
  have e : arcAt l i = l[i] := by simp [arcAt, hi]
  have h1 := (hord (tl l[i])).2 hlt
  have h2 := hdone _ h1 i (by rw [<- e]; exact htl i hi)
  have h3 := (D.d4 i h2).2
  rw [e] at h3
  rcases h3 with ⟨_, h⟩ | ⟨k, h, _⟩
  ·exact h
  ·rw [hhp] at h; cases h
 ·intro v hv
  by_cases hx : v ∈ (FS.run l outs hd (n + 1) (FS.start n s)).order
  ·exact .inr (D.d1 v hx)
  ·exact .inl (D.d5 v hx)
 ·intro v hv hx
  refine ⟨D.d5 v hx, D.d6 v hv (fun e => hx (e ▸ hso)) hx fun p hp => ?_⟩
  rw [hhp] at hp; cases hp
 ·intro v hv hvs
  obtain ⟨i, h1, h2, h3, h4, _, h6, _⟩ := D.d7 v hvs (.inl hv)
  exact ⟨i, h1, h2, h3, h4, (h6 hv).1, (h6 hv).2⟩

end

theorem out_spec {g : G} (hR : g.Right) : (∀ v, v < g.n -> ∀ i ∈ g.out v, i < g.arcs.length /\ (arcAt g.arcs i).f = v) /\ ∀ i, i < g.arcs.length -> i ∈ g.out (arcAt g.arcs i).f := by
 constructor
 ·intro v _ i hi
  obtain ⟨_, h1, h2⟩ := outsP_mem.1 hi
  simp only [Nat.sub_zero] at h1 h2
  refine ⟨h1, ?_⟩
  simp [arcAt, h1]; simpa using h2
 ·intro i hi
  refine outsP_mem.2 ⟨Nat.zero_le _, by simpa using hi, ?_⟩
  simp [arcAt, hi]
theorem in_spec {g : G} (hR : g.Right) : (∀ v, v < g.n -> ∀ i ∈ g.in v, i < g.arcs.length /\ (arcAt g.arcs i).t = v) /\ ∀ i, i < g.arcs.length -> i ∈ g.in (arcAt g.arcs i).t := by
 constructor
 ·intro v _ i hi
  obtain ⟨_, h1, h2⟩ := outsP_mem.1 hi
  simp only [Nat.sub_zero] at h1 h2
  refine ⟨h1, ?_⟩
  simp [arcAt, h1]; simpa using h2
 ·intro i hi
  refine outsP_mem.2 ⟨Nat.zero_le _, by simpa using hi, ?_⟩
  simp [arcAt, hi]

theorem from_tree {g : G} (hR : g.Right) {s : Nat} (hs : s < g.n) : TreeOf g.arcs A.f A.t g.n s (g.from s) :=
 treeOf hs hR.most (fun a ha => ⟨(hR.ends a ha).2.1, by have := (hR.ends a ha).2.2; show (a.w : Int) <= 2147483647; omega⟩) (out_spec hR).1 (out_spec hR).2
theorem to_tree {g : G} (hR : g.Right) {s : Nat} (hs : s < g.n) : TreeOf g.arcs A.t A.f g.n s (g.to s) :=
 treeOf hs hR.most (fun a ha => ⟨(hR.ends a ha).1, by have := (hR.ends a ha).2.2; show (a.w : Int) <= 2147483647; omega⟩) (in_spec hR).1 (in_spec hR).2

theorem TreeOf.top {l : List A} {tl hd : A -> Nat} {n s : Nat} {t : Tr} (T : TreeOf l tl hd n s t) (hw : ∀ a ∈ l, (a.w : Int) <= W) : ∀ v ∈ t.order, dAt t.dist v <= t.order.idxOf v * W := by
 intro v hv
 generalize hk : t.order.idxOf v = k
 induction k using Nat.strongRecOn generalizing v with
 | _ k ih =>
  by_cases e : v = s
  ·subst e
   rw [T.ls.zero]
   have : (0 : Int) <= W := by decide
   exact Int.mul_nonneg (by omega) this
  ·obtain ⟨i, hi, _, _, hu, hd', hlt⟩ := T.arc v hv e
   have h1 := ih _ (by omega) _ hu rfl
   have h2 := hw (arcAt l i) (by simp [arcAt, hi])
   have h3 : ((t.order.idxOf (tl (arcAt l i)) : Int) + 1) * W <= k * W := Int.mul_le_mul_of_nonneg_right (by omega) (by decide)
   rw [Int.add_mul, Int.one_mul] at h3
   omega

theorem dAt_get {d : List Int} {v : Nat} (hv : v < d.length) : d[v] = dAt d v := by simp [dAt, List.getD_eq_getElem?_getD, hv]
theorem arc_get {d : List Int} {v : Nat} (hv : v < d.length) : d[v] = d.getD v (-1) := by simp [List.getD_eq_getElem?_getD, hv]

open Go

theorem tr_len {g : G} (hR : g.Right) {s : Int} : (g.fromI s).arc.length = (g.fromI s).dist.length /\ (g.fromI s).dist.length <= g.n /\ (g.fromI s).order.length <= g.n := by
 unfold G.fromI
 split
 ·rename_i h
  have T := from_tree hR (s := s.toNat) (by omega)
  exact ⟨T.al.trans T.ls.len.symm, Nat.le_of_eq T.ls.len, nodup_le T.nodup T.range⟩
 ·simp [Tr.none]
open Go

def tgt (d : List Int) (a : A) : Bool := decide (min (dAt d a.t + a.w) far < far) && (min (dAt d a.t + a.w) far == dAt d a.f)

def tgtI (g : G) (b : Int) (a : A) : Bool := decide (0 <= b) && (decide (b < g.n) && tgt (g.toI b).dist a)

def tgtAny (g : G) (bs : List Int) (a : A) : Bool := bs.any fun b => tgtI g b a

theorem tgtAny_append {g : G} {bs cs : List Int} {a : A} : tgtAny g (bs ++ cs) a = (tgtAny g bs a || tgtAny g cs a) := by simp [tgtAny]
theorem tgtAny_one {g : G} {b : Int} {a : A} : tgtAny g [b] a = tgtI g b a := by simp [tgtAny]

def mkNext (n : Nat) (f : Nat -> Bool) (i : Nat) (x : List Value) (i' : Nat) : Prop := ∃ j, i <= j /\ j < n /\ f j = true /\ (∀ k, i <= k -> k < j -> f k = false) /\ x = [I j] /\ i' = j + 1
def mkStop (n : Nat) (f : Nat -> Bool) (i : Nat) : Prop := ∀ k, i <= k -> k < n -> f k = false

def setT (l : List Bool) (f : Nat -> Bool) (i : Nat) : List Bool := l.mapIdx fun k b => b || (decide (k < i) && f k)
theorem setT_len {l : List Bool} {f : Nat -> Bool} {i : Nat} : (setT l f i).length = l.length := by simp [setT]
theorem setT_zero {l : List Bool} {f : Nat -> Bool} : setT l f 0 = l := by
 apply List.ext_getElem (by simp [setT])
 intro k h1 h2; simp [setT]
theorem setT_next {l : List Bool} {f : Nat -> Bool} {i j : Nat} (hij : i <= j) (hj : j < l.length) (hf : f j = true) (hno : ∀ k, i <= k -> k < j -> f k = false) : (setT l f i).set j true = setT l f (j + 1) := by
 apply List.ext_getElem (by simp [setT])
 intro k h1 h2
 rw [List.getElem_set]
 split
 ·rename_i e; subst e; simp [setT, hf]
 ·rename_i e
  simp only [setT, List.getElem_mapIdx]
  by_cases h3 : k < i
  ·rw [decide_eq_true h3, decide_eq_true (show k < j + 1 by omega)]
  ·by_cases h4 : k < j
   ·rw [hno k (by omega) h4, Bool.and_false, Bool.and_false]
   ·rw [decide_eq_false h3, decide_eq_false (show ¬ k < j + 1 by omega)]
theorem setT_stop {l : List Bool} {f : Nat -> Bool} {i : Nat} (h : mkStop l.length f i) (hi : i <= l.length) : setT l f i = setT l f l.length := by
 apply List.ext_getElem (by simp [setT])
 intro k h1 h2
 have hk : k < l.length := by rw [setT_len] at h1; exact h1
 simp only [setT, List.getElem_mapIdx]
 by_cases h3 : k < i
 ·rw [decide_eq_true h3, decide_eq_true hk]
 ·rw [h k (by omega) hk, Bool.and_false, Bool.and_false]
theorem setT_map {l : List A} {p q : A -> Bool} {f : Nat -> Bool} (hf : ∀ i (h : i < l.length), f i = q l[i]) : setT (l.map p) f l.length = l.map fun a => p a || q a := by
 apply List.ext_getElem (by simp [setT])
 intro k h1 h2
 have hk : k < l.length := by simpa using h2
 simp [setT, hk, hf k hk]

open Go

theorem LS.far_le {l : List A} {tl hd : A -> Nat} {n s : Nat} {d : List Int} (H : LS l tl hd n s d) {v : Nat} (hv : v < n) : dAt d v <= far := by
 rcases H.way v hv with h | ⟨h, _⟩ <;> omega
theorem LS.nonneg {l : List A} {tl hd : A -> Nat} {n s : Nat} {d : List Int} (H : LS l tl hd n s d) {v : Nat} (hv : v < n) : 0 <= dAt d v := by
 rcases H.way v hv with h | ⟨_, h⟩
 ·rw [h]; decide
 ·exact h.nonneg

def x7 (d : Int) : Int := if d = far then far else 7 * d

def mv (by' : Int) (n v : Nat) : Nat := (((v : Int) + by') % n).toNat
open Go

def nI (l : List Nat) : List Int := l.map fun (i : Nat) => (i : Int)
theorem nI_len {l : List Nat} : (nI l).length = l.length := by simp [nI]

def wArc (l : List A) (z : Int) : A × Bool := if 0 <= z /\ z < l.length then (arcAt l z.toNat, true) else (⟨0, 0, 0⟩, false)
open Go

def addN (ns : List Int) (z : Int) : List Int := if z ∈ ns then ns else ns ++ [z]
def normGo : List Int -> List Int -> List Int
 | _, [] => []
 | ns, z :: r => (ns.idxOf z : Int) :: normGo (addN ns z) r
def norm (l : List Int) : List Int := normGo [] l
def nms (ns l : List Int) : List Int := l.foldl addN ns

theorem normGo_len : ∀ {l ns : List Int}, (normGo ns l).length = l.length
 | [], _ => rfl
 | _ :: l, _ => by rw [normGo, List.length_cons, normGo_len, List.length_cons]

theorem addN_nodup {ns : List Int} {z : Int} (h : ns.Nodup) : (addN ns z).Nodup := by
 unfold addN
 split
 ·exact h
 ·rename_i hz
  rw [List.nodup_append]
  exact ⟨h, by simp, fun a ha b hb e => hz (by simp at hb; rw [<- hb, <- e]; exact ha)⟩
theorem addN_le {ns : List Int} {z : Int} : ns.length <= (addN ns z).length := by
 unfold addN; split
 ·exact Nat.le_refl _
 ·simp
theorem nms_le : ∀ {l ns : List Int}, ns.length <= (nms ns l).length
 | [], _ => Nat.le_refl _
 | z :: l, ns => Nat.le_trans addN_le (nms_le (l := l))
theorem nms_nodup : ∀ {l ns : List Int}, ns.Nodup -> (nms ns l).Nodup
 | [], _, h => h
 | z :: l, ns, h => nms_nodup (l := l) (addN_nodup h)
theorem nms_mem : ∀ {l ns : List Int} {x : Int}, x ∈ nms ns l -> x ∈ ns \/ x ∈ l
 | [], _, _, h => .inl h
 | z :: l, ns, x, h => by
  rcases nms_mem (l := l) h with h | h
  ·unfold addN at h
   split at h
   ·exact .inl h
   ·rcases List.mem_append.1 h with h | h
    ·exact .inl h
    ·exact .inr (by simp at h; rw [h]; exact List.mem_cons_self)
  ·exact .inr (List.mem_cons_of_mem _ h)

theorem idx_add {ns : List Int} {z : Int} : ns.idxOf z < (addN ns z).length := by
 unfold addN
 split
 ·rename_i h; exact List.idxOf_lt_length_of_mem h
 ·rename_i h; rw [List.idxOf_eq_length h]; simp

theorem normGo_rng : ∀ {l ns : List Int} {z : Int}, z ∈ normGo ns l -> 0 <= z /\ z < (nms ns l).length
 | [], _, _, h => by cases h
 | y :: l, ns, z, h => by
  rcases List.mem_cons.1 h with rfl | h
  ·have h1 := idx_add (ns := ns) (z := y)
   have h2 := nms_le (l := l) (ns := addN ns y)
   refine ⟨by omega, ?_⟩
   show ((ns.idxOf y : Nat) : Int) < ((nms (addN ns y) l).length : Nat)
   omega
  ·exact normGo_rng (l := l) h

theorem nodup_int : ∀ {m : Nat} {l : List Int}, l.Nodup -> (∀ z ∈ l, 0 <= z /\ z < m) -> l.length <= m := by
 intro m l hn h
 have : (l.map Int.toNat).length <= m := by
  refine nodup_le ?_ fun x hx => ?_
  ·rw [List.Nodup, List.pairwise_map]
   exact hn.imp_of_mem fun {a b} ha hb hne e => hne (by have := h a ha; have := h b hb; omega)
  ·obtain ⟨z, hz, rfl⟩ := List.mem_map.1 hx
   have := h z hz; omega
 simpa using this

theorem norm_rng {l : List Int} {m : Nat} (h : ∀ z ∈ l, 0 <= z /\ z < m) {z : Int} (hz : z ∈ norm l) : 0 <= z /\ z < m := by
 have h1 := normGo_rng hz
 have h2 := nodup_int (nms_nodup (l := l) (ns := []) .nil) fun x hx => h x ((nms_mem hx).resolve_left (by simp))
 omega

theorem idx_range {k : Nat} {z : Nat} (h : z < k) : (List.map (fun (i : Nat) => (i : Int)) (List.range k)).idxOf (z : Int) = z := by
 have hn : (List.map (fun (i : Nat) => (i : Int)) (List.range k)).Nodup := by
  rw [List.Nodup, List.pairwise_map]
  exact List.nodup_range.imp fun h e => h (by omega)
 have hg : (List.map (fun (i : Nat) => (i : Int)) (List.range k))[z]'(by simpa using h) = (z : Int) := by simp
 rw [<- hg, List.Nodup.idxOf_getElem hn]

theorem norm_again : ∀ {l ns : List Int} {k : Nat}, ns.length = k -> normGo (List.map (fun (i : Nat) => (i : Int)) (List.range k)) (normGo ns l) = normGo ns l
 | [], _, _, _ => rfl
 | z :: l, ns, k, hk => by
  have h1 := idx_add (ns := ns) (z := z)
  rw [normGo, normGo]
  by_cases hz : z ∈ ns
  ·have hi : ns.idxOf z < k := by rw [<- hk]; exact List.idxOf_lt_length_of_mem hz
   have hm : ((ns.idxOf z : Nat) : Int) ∈ List.map (fun (i : Nat) => (i : Int)) (List.range k) := List.mem_map.2 ⟨_, List.mem_range.2 hi, rfl⟩
   have e1 : addN (List.map (fun (i : Nat) => (i : Int)) (List.range k)) ((ns.idxOf z : Nat) : Int) = List.map (fun (i : Nat) => (i : Int)) (List.range k) := by unfold addN; rw [if_pos hm]
   have e2 : addN ns z = ns := by unfold addN; rw [if_pos hz]
   rw [e1, e2, norm_again hk, idx_range hi]
  ·have hi : ns.idxOf z = k := by rw [<- hk]; exact List.idxOf_eq_length hz
   rw [hi]
   have hm : ¬ ((k : Nat) : Int) ∈ List.map (fun (i : Nat) => (i : Int)) (List.range k) := by
    intro h
    obtain ⟨i, h2, h3⟩ := List.mem_map.1 h
    have := List.mem_range.1 h2
    omega
   have e1 : addN (List.map (fun (i : Nat) => (i : Int)) (List.range k)) ((k : Nat) : Int) = List.map (fun (i : Nat) => (i : Int)) (List.range (k + 1)) := by
    unfold addN; rw [if_neg hm, List.range_succ, List.map_append]; rfl
   have e2 : (addN ns z).length = k + 1 := by unfold addN; rw [if_neg hz]; simp [hk]
   rw [e1, norm_again e2, List.idxOf_eq_length hm]
   simp

theorem norm_norm {l : List Int} : norm (norm l) = norm l := norm_again (k := 0) rfl

def maxL : List Int -> Int
 | [] => 0
 | z :: r => r.foldl max z
theorem foldl_max : ∀ {r : List Int} {z : Int}, z <= r.foldl max z /\ (∀ x ∈ r, x <= r.foldl max z) /\ (r.foldl max z = z \/ r.foldl max z ∈ r)
 | [], z => ⟨Int.le_refl _, (fun _ h => by cases h), .inl rfl⟩
 | y :: r, z => by
  obtain ⟨h1, h2, h3⟩ := foldl_max (r := r) (z := max z y)
  rw [List.foldl_cons]
  refine ⟨by omega, fun x hx => ?_, ?_⟩
  ·rcases List.mem_cons.1 hx with rfl | hx
   ·omega
   ·exact h2 x hx
  ·rcases h3 with h3 | h3
   ·rcases (show max z y = z \/ max z y = y by omega) with e | e
    ·exact .inl (h3.trans e)
    ·exact .inr (by rw [h3, e]; exact List.mem_cons_self)
   ·exact .inr (List.mem_cons_of_mem _ h3)
theorem maxL_mem {l : List Int} (h : l ≠ []) : maxL l ∈ l := by
 cases l with
 | nil => exact absurd rfl h
 | cons z r =>
  rcases (foldl_max (r := r) (z := z)).2.2 with e | e
  ·show r.foldl max z ∈ _; rw [e]; exact List.mem_cons_self
  ·exact List.mem_cons_of_mem _ e

section
variable {g : G} {c : Nat -> Int} {k : Int} {s t : Nat}

def bord (g : G) (c : Nat -> Int) (k : Int) (v : Nat) : Bool := decide (c v = k) && (g.in v).any fun i => !decide (c (arcAt g.arcs i).f = k)
def insd (g : G) (c : Nat -> Int) (k : Int) (i : Nat) : Bool := decide (c (arcAt g.arcs i).f = k) && decide (c (arcAt g.arcs i).t = k)
end

open Go

def clp (c d : List Int) (i : Nat) : List Int := c.mapIdx fun v x => if v < i then min x (dAt d v) else x
def cl (c d : List Int) : List Int := clp c d d.length
theorem clp_len {c d : List Int} {i : Nat} : (clp c d i).length = c.length := by simp [clp]
theorem cl_len {c d : List Int} : (cl c d).length = c.length := clp_len
theorem clp_zero {c d : List Int} : clp c d 0 = c := by
 apply List.ext_getElem clp_len
 intro i h1 h2
 simp [clp]
theorem clp_at {c d : List Int} {i : Nat} (h : i < c.length) : (clp c d i)[i]'(by rw [clp_len]; exact h) = c[i] := by simp [clp]
theorem clp_step {c d : List Int} {i : Nat} (h : i < c.length) : (clp c d i).set i (min c[i] (dAt d i)) = clp c d (i + 1) := by
 apply List.ext_getElem (by simp [clp])
 intro j h1 h2
 have hj : j < c.length := by rw [clp_len] at h2; exact h2
 rw [List.getElem_set]
 by_cases e : i = j
 ·subst e; simp [clp]
 ·rw [if_neg e]
  simp only [clp, List.getElem_mapIdx]
  by_cases h3 : j < i
  ·rw [if_pos h3, if_pos (by omega)]
  ·rw [if_neg h3, if_neg (by omega)]

def cov (g : G) (ms : List Int) : List Int := ms.foldl (fun c m => cl c (g.fromI m).dist) (List.replicate g.n far)
theorem cov_snoc {g : G} {ms : List Int} {m : Int} : cov g (ms ++ [m]) = cl (cov g ms) (g.fromI m).dist := by simp [cov]
theorem foldl_len {g : G} : ∀ {ms : List Int} {c : List Int}, (ms.foldl (fun c m => cl c (g.fromI m).dist) c).length = c.length
 | [], _ => rfl
 | m :: ms, c => by rw [List.foldl_cons, foldl_len, cl_len]
theorem cov_len {g : G} {ms : List Int} : (cov g ms).length = g.n := by unfold cov; rw [foldl_len]; simp

def bstGo (c : List Int) : Nat -> List Nat -> Nat
 | x, [] => x
 | x, y :: r => bstGo c (if c.getD x 0 < c.getD y 0 then y else x) r
def bst (c : List Int) : List Nat -> Nat
 | [] => 0
 | x :: r => bstGo c x r

theorem bstGo_mem {c : List Int} : ∀ {r : List Nat} {x : Nat}, bstGo c x r ∈ x :: r
 | [], x => by simp [bstGo]
 | y :: r, x => by
  unfold bstGo
  have := bstGo_mem (c := c) (r := r) (x := if c.getD x 0 < c.getD y 0 then y else x)
  split at this <;> rename_i h
  ·rw [if_pos h]; exact List.mem_cons_of_mem _ this
  ·rw [if_neg h]
   rcases List.mem_cons.1 this with e | e
   ·rw [e]; exact List.mem_cons_self ..
   ·exact List.mem_cons_of_mem _ (List.mem_cons_of_mem _ e)
theorem bst_mem {c : List Int} {l : List Nat} (h : l ≠ []) : bst c l ∈ l := by
 cases l with
 | nil => exact absurd rfl h
 | cons x r => exact bstGo_mem

theorem bstGo_snoc {c : List Int} {y : Nat} : ∀ {r : List Nat} {x : Nat}, bstGo c x (r ++ [y]) = if c.getD (bstGo c x r) 0 < c.getD y 0 then y else bstGo c x r
 | [], x => rfl
 | z :: r, x => by rw [List.cons_append]; unfold bstGo; exact bstGo_snoc
theorem bst_snoc {c : List Int} {l : List Nat} {y : Nat} (h : l ≠ []) : bst c (l ++ [y]) = if c.getD (bst c l) 0 < c.getD y 0 then y else bst c l := by
 cases l with
 | nil => exact absurd rfl h
 | cons x r => exact bstGo_snoc

def mgo (g : G) : Nat -> Nat -> List Nat -> List Int -> List Nat
 | 0, _, _, _ => []
 | k + 1, i, left, c => match left with
  | [] => []
  | x :: r => bst c (x :: r) :: mgo g k (i + 1) ((x :: r).filter (· != bst c (x :: r))) (cl (if i = 0 then List.replicate g.n far else c) (g.fromI (bst c (x :: r))).dist)
def mNext (g : G) (p : Nat × List Nat × List Int) (x : List Value) (p' : Nat × List Nat × List Int) : Prop :=
 p.2.1 ≠ [] /\ x = [I (bst p.2.2 p.2.1)] /\ p' = (p.1 + 1, p.2.1.filter (· != bst p.2.2 p.2.1), cl (if p.1 = 0 then List.replicate g.n far else p.2.2) (g.fromI (bst p.2.2 p.2.1)).dist)

theorem mgo_next {g : G} {k i : Nat} {left : List Nat} {c : List Int} (h : left ≠ []) : mgo g (k + 1) i left c = bst c left :: mgo g k (i + 1) (left.filter (· != bst c left)) (cl (if i = 0 then List.replicate g.n far else c) (g.fromI (bst c left)).dist) := by
 cases left with
 | nil => exact absurd rfl h
 | cons x r => rfl

open Go

section
variable {g : G}

theorem filter_len {left : List Nat} {m : Nat} (hn : left.Nodup) (hm : m ∈ left) : (left.filter (· != m)).length + 1 = left.length := by
 have e : left.filter (· != m) = left.erase m := by
  rw [hn.erase_eq_filter]
 rw [e, List.length_erase_of_mem hm]
 have : 0 < left.length := List.length_pos_of_mem hm
 omega

theorem mgo_len : ∀ {k i : Nat} {left : List Nat} {c : List Int}, left.Nodup -> (mgo g k i left c).length = min k left.length
 | 0, _, _, _, _ => by simp [mgo]
 | k + 1, i, left, c, hn => by
  by_cases h : left = []
  ·subst h; simp [mgo]
  ·rw [mgo_next h, List.length_cons, mgo_len (hn.filter _)]
   have := filter_len hn (bst_mem (c := c) h)
   omega

theorem mgo_sub : ∀ {k i : Nat} {left : List Nat} {c : List Int}, ∀ v ∈ mgo g k i left c, v ∈ left
 | 0, _, _, _, v, h => by simp [mgo] at h
 | k + 1, i, left, c, v, h => by
  by_cases e : left = []
  ·subst e; simp [mgo] at h
  ·rw [mgo_next e] at h
   rcases List.mem_cons.1 h with rfl | h
   ·exact bst_mem e
   ·exact (List.mem_filter.1 (mgo_sub v h)).1

end
open Go

structure Ev where
 kind : Int
 side : Int
 id : Int
 label : Int
 deriving DecidableEq

open Go

structure BS where
 hp : List HP
 lab : Int -> Option Int
 arc : Int -> Option Int
 ord : List Nat

open Go

structure Qs where
 g : G
 s : Nat
 t : Nat
 allow : List Bool
 pi : List Int

namespace Qs
end Qs

structure BW where
 sd : Bool -> BS
 ev : List Ev
 dist : Int
 meet : Int

open Go

theorem Way.cat {l : List A} {tl hd : A -> Nat} {s u v : Nat} {d e : Int} (h : Way l tl hd s u d) (h' : Way l tl hd u v e) : Way l tl hd s v (d + e) := by
 induction h' with
 | nil => rw [Int.add_zero]; exact h
 | step a _ hm ht ih => rw [<- Int.add_assoc]; exact .step a ih hm ht
theorem Way.rev {l : List A} {tl hd : A -> Nat} {s v : Nat} {d : Int} (h : Way l tl hd s v d) : Way l hd tl v s d := by
 induction h with
 | nil => exact .nil
 | step a _ hm ht ih =>
  rename_i v d _
  have h1 : Way l hd tl (hd a) (tl a) (0 + a.w) := .step a .nil hm rfl
  rw [ht] at h1
  have := h1.cat ih
  rw [show 0 + (a.w : Int) + d = d + a.w by omega] at this
  exact this

open Go

section
variable {Q : Qs} {S : BW}

def lessI (v t : Int) : Int := if far <= t then 0 else if far <= v then far else if 0 < v - t then v - t else 0
end
open Go

open Go

def rchd (d : List Int) (v : Int) : Bool := decide (0 <= v) && (decide (v < d.length) && (decide (0 <= d.getD v.toNat far) && decide (d.getD v.toNat far < far)))

def meetGo (a b : List Int) : Nat -> Int × Int
 | 0 => (-1, far)
 | i + 1 => let p := meetGo a b i
  if rchd a i = true /\ rchd b i = true /\ (p.1 < 0 \/ a.getD i far + b.getD i far < p.2) then ((i : Int), a.getD i far + b.getD i far) else p
def meet (a b : List Int) : Int × Int := meetGo a b (min a.length b.length)

open Go

def bnd1 (g : G) (r v : Nat) (b : Int) (m : Nat) : Int := max (max b (lessI (dAt (g.to m).dist r) (dAt (g.to m).dist v))) (lessI (dAt (g.from m).dist v) (dAt (g.from m).dist r))
def bnd (g : G) (ms : List Nat) (r v : Nat) : Int := ms.foldl (bnd1 g r v) 0

section
variable {g : G} {r v m : Nat} {ms : List Nat}

theorem bnd_snoc : bnd g (ms ++ [m]) r v = bnd1 g r v (bnd g ms r v) m := by simp [bnd]
theorem bnd1_le {b : Int} : b <= bnd1 g r v b m := by unfold bnd1; omega
theorem bnd_up : ∀ {ms : List Nat} {b : Int}, b <= ms.foldl (bnd1 g r v) b
 | [], _ => Int.le_refl _
 | _ :: _, _ => Int.le_trans bnd1_le bnd_up
theorem bnd_nonneg : 0 <= bnd g ms r v := bnd_up

theorem tree_fin {l : List A} {tl hd : A -> Nat} {n s : Nat} {t : Tr} (T : TreeOf l tl hd n s t) (hw : ∀ a ∈ l, (a.w : Int) <= W) {v : Nat} (hv : v < n) (hf : dAt t.dist v < far) : dAt t.dist v + W <= n * W /\ Way l tl hd s v (dAt t.dist v) := by
 have hm := (T.reached v hv).2 hf
 have h1 := T.top hw v hm
 have h2 : t.order.idxOf v < n := Nat.lt_of_lt_of_le (List.idxOf_lt_length_of_mem hm) (nodup_le T.nodup T.range)
 refine ⟨?_, ((T.ls.way v hv).resolve_left (by omega)).2⟩
 have h3 : ((t.order.idxOf v : Int) + 1) * W <= n * W := Int.mul_le_mul_of_nonneg_right (by omega) (by decide)
 rw [Int.add_mul, Int.one_mul] at h3
 omega

theorem low_le (hR : g.Right) (hr : r < g.n) (hv : v < g.n) (hm : m < g.n) : lessI (dAt (g.to m).dist r) (dAt (g.to m).dist v) <= dAt (g.from r).dist v /\ lessI (dAt (g.from m).dist v) (dAt (g.from m).dist r) <= dAt (g.from r).dist v := by
 have hw : ∀ a ∈ g.arcs, (a.w : Int) <= W := fun a ha => by have := (hR.ends a ha).2.2; show (a.w : Int) <= 2147483647; omega
 have Tr := from_tree hR hr
 have Tm := from_tree hR hm
 have Um := to_tree hR hm
 have hfar : far = 72057594037927936 := rfl
 have hW : W = 2147483647 := rfl
 have hmost := hR.most
 have n0 := Tr.ls.nonneg hv
 have n1 := Tr.ls.far_le hv
 have a0 := Um.ls.nonneg hv
 have c0 := Tm.ls.nonneg hr
 have a1 := Um.ls.far_le hr
 have c1 := Tm.ls.far_le hv
 by_cases hd : dAt (g.from r).dist v < far
 ·obtain ⟨b1, w1⟩ := tree_fin Tr hw hv hd
  constructor
  ·by_cases ha : dAt (g.to m).dist v < far
   ·obtain ⟨b2, w2⟩ := tree_fin Um hw hv ha
    have := Um.ls.le_way (w2.cat w1.rev) (by rw [hW] at b1 b2; omega)
    unfold lessI
    split
    ·omega
    ·split
     ·rw [hW] at b1 b2; omega
     ·split <;> omega
   ·unfold lessI; rw [if_pos (by omega)]; exact n0
  ·by_cases hc : dAt (g.from m).dist r < far
   ·obtain ⟨b2, w2⟩ := tree_fin Tm hw hr hc
    have := Tm.ls.le_way (w2.cat w1) (by rw [hW] at b1 b2; omega)
    unfold lessI
    split
    ·omega
    ·split
     ·rw [hW] at b1 b2; omega
     ·split <;> omega
   ·unfold lessI; rw [if_pos (by omega)]; exact n0
 ·have e : dAt (g.from r).dist v = far := by omega
  rw [e]
  have : ∀ a c : Int, 0 <= c -> a <= far -> lessI a c <= far := fun a c hc ha => by
   unfold lessI
   split
   ·decide
   ·split
    ·exact Int.le_refl _
    ·split
     ·omega
     ·decide
  exact ⟨this _ _ a0 a1, this _ _ c0 c1⟩

theorem bnd_le (hR : g.Right) (hr : r < g.n) (hv : v < g.n) (hm : ∀ m ∈ ms, m < g.n) : bnd g ms r v <= dAt (g.from r).dist v := by
 unfold bnd
 have h0 := (from_tree hR hr).ls.nonneg hv
 generalize (0 : Int) = b at h0
 induction ms generalizing b with
 | nil => exact h0
 | cons m ms ih =>
  refine ih (fun x hx => hm x (List.mem_cons_of_mem _ hx)) _ ?_
  have := low_le hR hr hv (hm m List.mem_cons_self)
  unfold bnd1
  omega

end
open Go

def parT (l : List A) (t : Tr) (v : Nat) : Option Nat := if 0 <= t.arc.getD v (-1) /\ t.arc.getD v (-1) < l.length then some (arcAt l (t.arc.getD v (-1)).toNat).f else none

section
variable {l : List A} {n s : Nat} {t : Tr}

theorem par_some (T : TreeOf l A.f A.t n s t) {v p : Nat} (h : parT l t v = some p) : v ∈ t.order /\ v ≠ s /\ p ∈ t.order /\ t.order.idxOf p < t.order.idxOf v := by
 unfold parT at h
 split at h
 ·rename_i hz
  obtain rfl := Option.some.inj h
  by_cases hv : v ∈ t.order
  ·by_cases hs : v = s
   ·subst hs; rw [T.root] at hz; omega
   ·obtain ⟨i, hi, e, _, e2, _, e3⟩ := T.arc v hv hs
    rw [e] at hz ⊢
    rw [Int.toNat_natCast]
    exact ⟨hv, hs, e2, e3⟩
  ·by_cases hn : v < n
   ·rw [(T.none v hn hv).2] at hz; omega
   ·have : t.arc.getD v (-1) = -1 := by rw [List.getD_eq_getElem?_getD, List.getElem?_eq_none (by rw [T.al]; omega)]; rfl
    rw [this] at hz; omega
 ·cases h

inductive Desc (par : Nat -> Option Nat) (v : Nat) : Nat -> Prop
 | refl : Desc par v v
 | step {u p : Nat} : par u = some p -> Desc par v p -> Desc par v u

theorem Desc.up {par : Nat -> Option Nat} {v k u : Nat} (hk : par k = some v) (h : Desc par k u) : Desc par v u := by
 induction h with
 | refl => exact .step hk .refl
 | step hp _ ih => exact .step hp ih

theorem desc_kid {par : Nat -> Option Nat} {v u : Nat} : Desc par v u ↔ u = v \/ ∃ k, par k = some v /\ Desc par k u := by
 constructor
 ·intro h
  induction h with
  | refl => exact .inl rfl
  | step hp _ ih =>
   rcases ih with rfl | ⟨k, h1, h2⟩
   ·exact .inr ⟨_, hp, .refl⟩
   ·exact .inr ⟨k, h1, .step hp h2⟩
 ·rintro (rfl | ⟨k, h1, h2⟩)
  ·exact .refl
  ·exact h2.up h1

theorem desc_idx (T : TreeOf l A.f A.t n s t) {v u : Nat} (h : Desc (parT l t) v u) : t.order.idxOf v <= t.order.idxOf u := by
 induction h with
 | refl => exact Nat.le_refl _
 | step hp _ ih => have := (par_some T hp).2.2.2; omega

theorem desc_in (T : TreeOf l A.f A.t n s t) {v u : Nat} (h : Desc (parT l t) v u) (hv : v ∈ t.order) : u ∈ t.order := by
 cases h with
 | refl => exact hv
 | step hp _ => exact (par_some T hp).1

theorem desc_uniq (T : TreeOf l A.f A.t n s t) {v k1 k2 u : Nat} (p1 : parT l t k1 = some v) (p2 : parT l t k2 = some v) (h1 : Desc (parT l t) k1 u) (h2 : Desc (parT l t) k2 u) : k1 = k2 := by
 have i1 := (par_some T p1).2.2.2
 have i2 := (par_some T p2).2.2.2
 induction h1 with
 | refl =>
  cases h2 with
  | refl => rfl
  | step hp h =>
   obtain rfl := Option.some.inj (hp.symm.trans p1)
   have := desc_idx T h
   omega
 | step hp h ih =>
  cases h2 with
  | refl =>
   obtain rfl := Option.some.inj (hp.symm.trans p2)
   have := desc_idx T h
   omega
  | step hp' h' =>
   obtain rfl := Option.some.inj (hp.symm.trans hp')
   exact ih h'
end

def mostS : Int := 2305843009213693952
def keepS (x : Int) : Int := min (max x 0) mostS
def satI (a b : Int) : Int := keepS (keepS (0 + keepS a) + keepS b)
theorem satI_eq {a b : Int} (ha : 0 <= a) (hb : 0 <= b) (h : a + b <= mostS) : satI a b = a + b := by unfold satI keepS; omega

structure GS where
 sz : List Int
 mc : List Int
 kd : Nat -> List Nat

def GS.own (wt : Nat -> Int) (S : GS) (v : Nat) : Int := (S.kd v).foldl (fun a k => satI a (S.sz.getD k 0)) (wt v)
def GS.mcs (S : GS) (v : Nat) : Int := (S.kd v).foldl (fun a k => a + S.mc.getD k 0) (S.mc.getD v 0)
def updK (kd : Nat -> List Nat) (v : Nat) : Option Nat -> Nat -> List Nat
 | some p => fun x => if x = p then kd x ++ [v] else kd x
 | none => kd
def GS.step (par : Nat -> Option Nat) (wt : Nat -> Int) (S : GS) (v : Nat) : GS := ⟨if S.mcs v = 0 then S.sz.set v (S.own wt v) else S.sz, S.mc.set v (S.mcs v), updK S.kd v (par v)⟩

theorem foldl_sat {f : Nat -> Int} : ∀ {l : List Nat} {a : Int}, 0 <= a -> (∀ k ∈ l, 0 <= f k) -> a + (l.map f).sum <= mostS -> l.foldl (fun a k => satI a (f k)) a = a + (l.map f).sum
 | [], a, _, _, _ => by simp
 | k :: l, a, ha, hf, hm => by
  have hk := hf k List.mem_cons_self
  have hnn : 0 <= (l.map f).sum := by
   have : ∀ l : List Nat, (∀ k ∈ l, 0 <= f k) -> 0 <= (l.map f).sum := fun l => by
    induction l with
    | nil => intro _; exact Int.le_refl _
    | cons k l ih => intro h; rw [List.map_cons, List.sum_cons]; have := ih fun x hx => h x (List.mem_cons_of_mem _ hx); have := h k List.mem_cons_self; omega
   exact this l fun x hx => hf x (List.mem_cons_of_mem _ hx)
  rw [List.map_cons, List.sum_cons] at hm ⊢
  rw [List.foldl_cons, satI_eq ha hk (by omega), foldl_sat (by omega) (fun x hx => hf x (List.mem_cons_of_mem _ hx)) (by omega)]
  omega

theorem foldl_add {f : Nat -> Int} : ∀ {l : List Nat} {a : Int}, l.foldl (fun a k => a + f k) a = a + (l.map f).sum
 | [], a => by simp
 | k :: l, a => by rw [List.foldl_cons, foldl_add, List.map_cons, List.sum_cons]; omega

theorem sum_nn {f : Nat -> Int} : ∀ {l : List Nat}, (∀ k ∈ l, 0 <= f k) -> 0 <= (l.map f).sum
 | [], _ => Int.le_refl _
 | k :: l, h => by
  rw [List.map_cons, List.sum_cons]
  have := sum_nn fun x hx => h x (List.mem_cons_of_mem _ hx)
  have := h k List.mem_cons_self
  omega
theorem sum_le {f : Nat -> Int} {B : Int} : ∀ {l : List Nat}, (∀ k ∈ l, f k <= B) -> (l.map f).sum <= l.length * B
 | [], _ => by simp
 | k :: l, h => by
  rw [List.map_cons, List.sum_cons, List.length_cons]
  have := sum_le fun x hx => h x (List.mem_cons_of_mem _ hx)
  have := h k List.mem_cons_self
  have e : ((l.length + 1 : Nat) : Int) * B = l.length * B + B := by rw [Int.natCast_add, Int.add_mul]; simp
  omega
theorem sum_zero {f : Nat -> Int} : ∀ {l : List Nat}, (∀ k ∈ l, 0 <= f k) -> (l.map f).sum = 0 -> ∀ k ∈ l, f k = 0
 | [], _, _ => fun _ h => by cases h
 | k :: l, h, he => by
  rw [List.map_cons, List.sum_cons] at he
  have h1 := sum_nn fun x hx => h x (List.mem_cons_of_mem _ hx)
  have h2 := h k List.mem_cons_self
  intro x hx
  rcases List.mem_cons.1 hx with rfl | hx
  ·omega
  ·exact sum_zero (fun x hx => h x (List.mem_cons_of_mem _ hx)) (by omega) x hx
theorem sum_flat {f : Nat -> Int} {p : Nat -> List Nat} : ∀ {l : List Nat}, ((l.flatMap p).map f).sum = (l.map fun k => ((p k).map f).sum).sum
 | [] => rfl
 | k :: l => by rw [List.flatMap_cons, List.map_append, List.sum_append, sum_flat, List.map_cons, List.sum_cons]

section
variable {l : List A} {n s : Nat} {t : Tr} {wt cnt : Nat -> Int}

structure GI (par : Nat -> Option Nat) (n : Nat) (wt cnt : Nat -> Int) (D : List Nat) (S : GS) : Prop where
 kd : ∀ x, S.kd x = D.filter fun v => decide (par v = some x)
 sl : S.sz.length = n
 ml : S.mc.length = n
 out : ∀ v, v < n -> v ∉ D -> S.sz.getD v 0 = 0 /\ S.mc.getD v 0 = cnt v
 done : ∃ pt : Nat -> List Nat, ∀ v ∈ D, (pt v).Nodup /\ (∀ u, u ∈ pt v ↔ Desc par v u) /\ S.mc.getD v 0 = ((pt v).map cnt).sum /\ S.sz.getD v 0 = if S.mc.getD v 0 = 0 then ((pt v).map wt).sum else 0

theorem nodup_sub : ∀ {l q : List Nat}, l.Nodup -> (∀ x ∈ l, x ∈ q) -> l.length <= q.length
 | [], _, _, _ => Nat.zero_le _
 | a :: l, q, hn, h => by
  have ha := h a List.mem_cons_self
  have hn' := List.nodup_cons.1 hn
  have := nodup_sub (l := l) (q := q.erase a) hn'.2 fun x hx => (List.mem_erase_of_ne (fun e : x = a => hn'.1 (by rw [<- e]; exact hx))).2 (h x (List.mem_cons_of_mem _ hx))
  rw [List.length_erase_of_mem ha] at this
  have hp := List.length_pos_of_mem ha
  rw [List.length_cons]; omega

theorem GI.step (T : TreeOf l A.f A.t n s t) (hn : t.order.length <= 32) (hw : ∀ v ∈ t.order, 0 <= wt v /\ wt v <= far) (hc : ∀ v, 0 <= cnt v) {pre post : List Nat} {v : Nat} {S : GS} (he : t.order = pre ++ v :: post)
  (H : GI (parT l t) n wt cnt post.reverse S) : GI (parT l t) n wt cnt (post.reverse ++ [v]) (S.step (parT l t) wt v) := by
 have hvo : v ∈ t.order := by rw [he]; simp
 have hvn := T.range v hvo
 have hnd := T.nodup
 have hvp : v ∉ post := by
  rw [he] at hnd
  exact (List.nodup_cons.1 (List.nodup_append.1 hnd).2.1).1
 have hvp' : v ∉ pre := by
  rw [he] at hnd
  exact fun h => (List.nodup_append.1 hnd).2.2 v h v List.mem_cons_self rfl
 have hiv : t.order.idxOf v = pre.length := by
  rw [he, List.idxOf_append, if_neg hvp']; simp
 obtain ⟨o1, o2⟩ := H.out v hvn (by simpa using hvp)
 obtain ⟨pt, hpt⟩ := H.done
 have hkm : ∀ k, k ∈ S.kd v ↔ parT l t k = some v := fun k => by
  rw [H.kd, List.mem_filter, List.mem_reverse, decide_eq_true_eq]
  refine ⟨fun h => h.2, fun h => ⟨?_, h⟩⟩
  obtain ⟨q1, _, _, q4⟩ := par_some T h
  rw [he] at q1
  rcases List.mem_append.1 q1 with q | q
  ·have : t.order.idxOf k < pre.length := by
    rw [he, List.idxOf_append, if_pos q]; exact List.idxOf_lt_length_of_mem q
   omega
  ·rcases List.mem_cons.1 q with rfl | q
   ·omega
   ·exact q
 have hkD : ∀ k ∈ S.kd v, k ∈ post.reverse := fun k hk => by rw [H.kd] at hk; exact (List.mem_filter.1 hk).1
 have hkn : (S.kd v).Nodup := by
  rw [H.kd]
  rw [he] at hnd
  have hpn := List.nodup_iff_pairwise_ne.1 (List.nodup_cons.1 (List.nodup_append.1 hnd).2.1).2
  exact List.nodup_iff_pairwise_ne.2 (List.Pairwise.filter _ (List.pairwise_reverse.2 (hpn.imp fun h e => h e.symm)))
 have hsn : ∀ k ∈ S.kd v, (pt k).Nodup /\ (∀ u, u ∈ pt k ↔ Desc (parT l t) k u) /\ S.mc.getD k 0 = ((pt k).map cnt).sum /\ S.sz.getD k 0 = if S.mc.getD k 0 = 0 then ((pt k).map wt).sum else 0 := fun k hk => hpt k (hkD k hk)
 generalize hK : S.kd v = K at *
 -- the part of v
 have pm : ∀ u, u ∈ v :: K.flatMap pt ↔ Desc (parT l t) v u := fun u => by
  rw [desc_kid, List.mem_cons, List.mem_flatMap]
  refine or_congr Iff.rfl ⟨fun ⟨k, h1, h2⟩ => ⟨k, (hkm k).1 h1, ((hsn k h1).2.1 u).1 h2⟩, fun ⟨k, h1, h2⟩ => ⟨k, (hkm k).2 h1, ((hsn k ((hkm k).2 h1)).2.1 u).2 h2⟩⟩
 have pn : (v :: K.flatMap pt).Nodup := by
  refine List.nodup_cons.2 ⟨fun h => ?_, ?_⟩
  ·obtain ⟨k, h1, h2⟩ := List.mem_flatMap.1 h
   have := desc_idx T (((hsn k h1).2.1 v).1 h2)
   have := (par_some T ((hkm k).1 h1)).2.2.2
   omega
  ·rw [List.nodup_iff_pairwise_ne, List.pairwise_flatMap]
   refine ⟨fun k hk => List.nodup_iff_pairwise_ne.1 (hsn k hk).1, (List.nodup_iff_pairwise_ne.1 hkn).imp_of_mem fun {a b} ha hb hne x hx y hy e => hne ?_⟩
   subst e
   exact desc_uniq T ((hkm a).1 ha) ((hkm b).1 hb) (((hsn a ha).2.1 x).1 hx) (((hsn b hb).2.1 x).1 hy)
 have pin : ∀ u ∈ v :: K.flatMap pt, u ∈ t.order := fun u hu => desc_in T ((pm u).1 hu) hvo
 have plen : (v :: K.flatMap pt).length <= t.order.length := nodup_sub pn pin
 have hmks : S.mcs v = ((v :: K.flatMap pt).map cnt).sum := by
  unfold GS.mcs
  rw [hK, foldl_add, o2, List.map_cons, List.sum_cons, sum_flat]
  congr 2
  exact List.map_congr_left fun k hk => (hsn k hk).2.2.1
 have hown : S.mcs v = 0 -> S.own wt v = ((v :: K.flatMap pt).map wt).sum := fun h0 => by
  have hz := sum_zero (fun k _ => hc k) (hmks.symm.trans h0)
  have hsz : ∀ k ∈ K, S.sz.getD k 0 = ((pt k).map wt).sum := fun k hk => by
   obtain ⟨_, _, e1, e2⟩ := hsn k hk
   have : S.mc.getD k 0 = 0 := by
    rw [e1]
    have : ∀ u ∈ pt k, cnt u = 0 := fun u hu => hz u (List.mem_cons_of_mem _ (List.mem_flatMap.2 ⟨k, hk, hu⟩))
    rw [List.map_congr_left this]
    generalize pt k = q
    induction q with
    | nil => rfl
    | cons a q ih => rw [List.map_cons, List.sum_cons]; omega
   rw [e2, if_pos this]
  have htot : ((v :: K.flatMap pt).map wt).sum = wt v + (K.map fun k => S.sz.getD k 0).sum := by
   rw [List.map_cons, List.sum_cons, sum_flat]
   congr 2
   exact List.map_congr_left fun k hk => (hsz k hk).symm
  have hle : ((v :: K.flatMap pt).map wt).sum <= mostS := by
   have h1 := sum_le (f := wt) (B := far) fun k hk => (hw k (pin k hk)).2
   have h2 : ((v :: K.flatMap pt).length : Int) * far <= 32 * far := Int.mul_le_mul_of_nonneg_right (by omega) (by decide)
   have h3 : 32 * far <= mostS := by decide
   omega
  unfold GS.own
  rw [hK, htot]
  rw [htot] at hle
  refine foldl_sat (f := fun k => S.sz.getD k 0) (hw v hvo).1 (fun k hk => ?_) hle
  rw [hsz k hk]
  exact sum_nn fun u hu => (hw u (pin u (List.mem_cons_of_mem _ (List.mem_flatMap.2 ⟨k, hk, hu⟩)))).1
 have gset : ∀ {L : List Int} {x : Int} {u : Nat}, L.length = n -> (L.set v x).getD u 0 = if u = v then x else L.getD u 0 := fun {L x u} hL => by
  by_cases h : u = v
  ·subst h; rw [if_pos rfl, List.getD_eq_getElem?_getD, List.getElem?_set_self (by omega)]; rfl
  ·rw [if_neg h, List.getD_eq_getElem?_getD, List.getElem?_set_ne (fun e => h e.symm), <- List.getD_eq_getElem?_getD]
 have smk : ∀ u, (S.step (parT l t) wt v).mc.getD u 0 = if u = v then S.mcs v else S.mc.getD u 0 := fun u => gset H.ml
 have ssz : ∀ u, (S.step (parT l t) wt v).sz.getD u 0 = if u = v then (if S.mcs v = 0 then S.own wt v else 0) else S.sz.getD u 0 := fun u => by
  show (if S.mcs v = 0 then S.sz.set v (S.own wt v) else S.sz).getD u 0 = _
  by_cases h0 : S.mcs v = 0
  ·rw [if_pos h0, if_pos h0]; exact gset H.sl
  ·rw [if_neg h0, if_neg h0]
   by_cases h : u = v
   ·rw [if_pos h, h]; exact o1
   ·rw [if_neg h]
 refine ⟨fun x => ?_, ?_, ?_, fun u hu hd => ?_, ⟨fun u => if u = v then v :: K.flatMap pt else pt u, fun u hu => ?_⟩⟩
 ·rw [List.filter_append, <- H.kd]
  show updK S.kd v (parT l t v) x = _
  cases hp : parT l t v with
  | none => simp [updK, hp]
  | some p =>
   by_cases hx : x = p
   ·subst hx; simp [updK, hp]
   ·have : ¬ p = x := fun e => hx e.symm
    simp [updK, hp, hx, this]
 ·show (if S.mcs v = 0 then S.sz.set v (S.own wt v) else S.sz).length = n
  split
  ·rw [List.length_set]; exact H.sl
  ·exact H.sl
 ·show (S.mc.set v _).length = n
  rw [List.length_set]; exact H.ml
 ·have hne : u ≠ v := fun e => hd (by rw [e]; simp)
  have := H.out u hu fun h => hd (List.mem_append_left _ h)
  rw [ssz, smk, if_neg hne, if_neg hne]
  exact this
 ·rw [ssz, smk]
  by_cases h : u = v
  ·subst h
   simp only [if_pos]
   refine ⟨pn, pm, hmks, ?_⟩
   by_cases h0 : S.mcs u = 0
   ·rw [if_pos h0, if_pos h0]; exact hown h0
   ·rw [if_neg h0, if_neg h0]
  ·have hu' : u ∈ post.reverse := by
    rcases List.mem_append.1 hu with h' | h'
    ·exact h'
    ·exact absurd (List.mem_singleton.1 h') h
   simp only [if_neg h]
   exact hpt u hu'

theorem GI.all (T : TreeOf l A.f A.t n s t) (hn : t.order.length <= 32) (hw : ∀ v ∈ t.order, 0 <= wt v /\ wt v <= far) (hc : ∀ v, 0 <= cnt v) {S : GS} (H : GI (parT l t) n wt cnt [] S) : ∀ {post pre : List Nat}, t.order = pre ++ post -> GI (parT l t) n wt cnt post.reverse (post.reverse.foldl (GS.step (parT l t) wt) S)
 | [], pre, _ => H
 | v :: post, pre, he => by
  have ih := GI.all T hn hw hc H (post := post) (pre := pre ++ [v]) (by rw [he]; simp)
  rw [List.reverse_cons, List.foldl_append]
  exact ih.step T hn hw hc he

end
open Go

def ovr (f : Nat -> Int) (v : Nat) : Option Nat -> Bool
 | none => true
 | some w => decide (f w < f v \/ (f v = f w /\ v < w))
def bst1 (f : Nat -> Int) (b : Option Nat) (v : Nat) : Option Nat := if 0 < f v /\ ovr f v b = true then some v else b
def bestS (f : Nat -> Int) (l : List Nat) : Option Nat := l.foldl (bst1 f) none

def IsBest (f : Nat -> Int) (l : List Nat) (b : Option Nat) : Prop :=
 (b = none /\ ∀ v ∈ l, f v <= 0) \/ ∃ w, b = some w /\ w ∈ l /\ 0 < f w /\ ∀ v ∈ l, f v < f w \/ (f v = f w /\ w <= v)

theorem isBest_step {f : Nat -> Int} {l : List Nat} {b : Option Nat} {v : Nat} (h : IsBest f l b) : IsBest f (l ++ [v]) (bst1 f b v) := by
 unfold bst1
 rcases h with ⟨rfl, h⟩ | ⟨w, rfl, h1, h2, h3⟩
 ·by_cases hv : 0 < f v
  ·rw [if_pos ⟨hv, rfl⟩]
   refine .inr ⟨v, rfl, by simp, hv, fun u hu => ?_⟩
   rcases List.mem_append.1 hu with hu | hu
   ·exact .inl (by have := h u hu; omega)
   ·rw [List.mem_singleton.1 hu]; exact .inr ⟨rfl, Nat.le_refl _⟩
  ·rw [if_neg fun h => hv h.1]
   refine .inl ⟨rfl, fun u hu => ?_⟩
   rcases List.mem_append.1 hu with hu | hu
   ·exact h u hu
   ·rw [List.mem_singleton.1 hu]; omega
 ·by_cases hc : 0 < f v /\ (f w < f v \/ (f v = f w /\ v < w))
  ·rw [if_pos ⟨hc.1, decide_eq_true hc.2⟩]
   refine .inr ⟨v, rfl, by simp, hc.1, fun u hu => ?_⟩
   rcases List.mem_append.1 hu with hu | hu
   ·have := h3 u hu; omega
   ·rw [List.mem_singleton.1 hu]; exact .inr ⟨rfl, Nat.le_refl _⟩
  ·rw [if_neg fun h => hc ⟨h.1, of_decide_eq_true h.2⟩]
   refine .inr ⟨w, rfl, List.mem_append_left _ h1, h2, fun u hu => ?_⟩
   rcases List.mem_append.1 hu with hu | hu
   ·exact h3 u hu
   ·rw [List.mem_singleton.1 hu]; omega

theorem bestS_is {f : Nat -> Int} : ∀ {l : List Nat}, IsBest f l (bestS f l) := by
 have : ∀ {l l0 : List Nat} {b : Option Nat}, IsBest f l0 b -> IsBest f (l0 ++ l) (l.foldl (bst1 f) b) := by
  intro l
  induction l with
  | nil => intro l0 b h; rw [List.append_nil]; exact h
  | cons v l ih =>
   intro l0 b h
   have := ih (isBest_step (v := v) h)
   rw [List.append_assoc] at this
   exact this
 intro l
 have := this (l := l) (l0 := []) (b := none) (.inl ⟨rfl, fun v h => by cases h⟩)
 exact this

theorem bestS_snoc {f : Nat -> Int} {l : List Nat} {v : Nat} : bestS f (l ++ [v]) = bst1 f (bestS f l) v := by simp [bestS]

def down (f : Nat -> Int) (kd : Nat -> List Nat) : Nat -> Nat -> Nat
 | 0, v => v
 | k + 1, v => match bestS f (kd v) with
  | none => v
  | some w => down f kd k w

def freeM (ms : List Nat) : Nat -> Nat -> Nat
 | 0, v => v
 | k + 1, v => if v ∈ ms then freeM ms k (v + 1) else v

theorem down_pos {f : Nat -> Int} {kd : Nat -> List Nat} : ∀ {k v : Nat}, 0 < f v -> 0 < f (down f kd k v)
 | 0, _, h => h
 | k + 1, v, h => by
  unfold down
  rcases bestS_is (f := f) (l := kd v) with ⟨e, _⟩ | ⟨w, e, _, h2, _⟩
  ·rw [e]; exact h
  ·rw [e]; exact down_pos h2

theorem down_end {f : Nat -> Int} {kd : Nat -> List Nat} {ix : Nat -> Nat} {n : Nat} (hk : ∀ v, ∀ w ∈ kd v, ix v < ix w /\ ix w < n) : ∀ {k v : Nat}, n <= k + ix v -> bestS f (kd (down f kd k v)) = none
 | 0, v, h => by
  rcases bestS_is (f := f) (l := kd v) with ⟨e, _⟩ | ⟨w, _, h1, _, _⟩
  ·exact e
  ·have := hk v w h1; omega
 | k + 1, v, h => by
  unfold down
  cases e : bestS f (kd v) with
  | none => exact e
  | some w =>
   refine down_end hk ?_
   rcases bestS_is (f := f) (l := kd v) with ⟨e', _⟩ | ⟨w', e', h1, _, _⟩
   ·rw [e] at e'; cases e'
   ·rw [e] at e'; cases e'
    have := hk v w h1; omega

theorem range_len : ∀ {v : Nat} {ms : List Nat}, (∀ u, u < v -> u ∈ ms) -> (List.range v).length <= ms.length
 | 0, _, _ => Nat.zero_le _
 | v + 1, ms, h => by
  have h1 := range_len (v := v) (ms := ms.erase v) fun u hu => (List.mem_erase_of_ne (by omega)).2 (h u (by omega))
  have h2 := List.length_erase_of_mem (h v (by omega))
  have h3 : 0 < ms.length := List.length_pos_of_mem (h v (by omega))
  rw [List.length_range] at h1 ⊢
  omega

theorem freeM_spec {ms : List Nat} : ∀ {k v : Nat}, (∀ u, u < v -> u ∈ ms) -> ms.length < k + v -> (ms.Nodup) -> freeM ms k v ∉ ms /\ (∀ u, u < freeM ms k v -> u ∈ ms) /\ freeM ms k v <= ms.length
 | 0, v, h, hl, hn => by
  have : (List.range v).length <= ms.length := by
   exact range_len h
  rw [List.length_range] at this
  omega
 | k + 1, v, h, hl, hn => by
  unfold freeM
  by_cases hv : v ∈ ms
  ·rw [if_pos hv]
   exact freeM_spec (fun u hu => by
    by_cases e : u = v
    ·rw [e]; exact hv
    ·exact h u (by omega)) (by omega) hn
  ·rw [if_neg hv]
   refine ⟨hv, h, ?_⟩
   have : (List.range v).length <= ms.length := by
    exact range_len h
   rwa [List.length_range] at this

open Go

section
variable {l : List A} {n s : Nat} {t : Tr}

theorem sum_perm {f : Nat -> Int} {p q : List Nat} (hp : p.Nodup) (hq : q.Nodup) (h : ∀ u, u ∈ p ↔ u ∈ q) : (p.map f).sum = (q.map f).sum := by
 have : p.Perm q := (List.perm_ext_iff_of_nodup hp hq).2 h
 clear hp hq h
 induction this with
 | nil => rfl
 | cons x _ ih => rw [List.map_cons, List.map_cons, List.sum_cons, List.sum_cons, ih]
 | swap x y l => simp only [List.map_cons, List.sum_cons]; omega
 | trans _ _ ih1 ih2 => exact ih1.trans ih2
end

def wtA (g : G) (ms : List Nat) (r v : Nat) : Int := if v ≠ r then dAt (g.from r).dist v - bnd g ms r v else 0
def cntA (ms : List Nat) (v : Nat) : Int := (ms.count v : Int)
abbrev parA (g : G) (r : Nat) : Nat -> Option Nat := parT g.arcs (g.from r)
def growZ (n : Nat) (ms : List Nat) : GS := ⟨List.replicate n 0, (List.range n).map (cntA ms), fun _ => []⟩
def growA (g : G) (ms : List Nat) (r : Nat) : GS := (g.from r).order.reverse.foldl (GS.step (parA g r) (wtA g ms r)) (growZ g.n ms)
def szA (g : G) (ms : List Nat) (r v : Nat) : Int := (growA g ms r).sz.getD v 0

section
variable {g : G} {r v m : Nat} {ms : List Nat}

theorem wtA_rng (hR : g.Right) (hr : r < g.n) (hm : ∀ m ∈ ms, m < g.n) : ∀ v ∈ (g.from r).order, 0 <= wtA g ms r v /\ wtA g ms r v <= far := fun v hv => by
 have T := from_tree hR hr
 have hvn := T.range v hv
 have h1 := bnd_le hR hr hvn hm
 have h2 := bnd_nonneg (g := g) (r := r) (v := v) (ms := ms)
 have h3 := T.ls.far_le hvn
 have hfar : far = 72057594037927936 := rfl
 unfold wtA
 split <;> omega

def Sm (g : G) : Prop := ∀ r, r < g.n -> (g.from r).order.length <= 32
theorem Sm.of_n (hR : g.Right) (h : g.n <= 16) : Sm g := fun r hr => by
 have T := from_tree hR hr
 have := nodup_le T.nodup T.range
 omega

theorem growA_gi (hR : g.Right) (hn : Sm g) (hr : r < g.n) (hm : ∀ m ∈ ms, m < g.n) : GI (parA g r) g.n (wtA g ms r) (cntA ms) (g.from r).order.reverse (growA g ms r) := by
 have T := from_tree hR hr
 refine GI.all T (hn r hr) (wtA_rng hR hr hm) (fun v => by unfold cntA; omega) (S := growZ g.n ms) ?_ (pre := []) rfl
 refine ⟨fun x => rfl, by simp [growZ], by simp [growZ], fun v hv _ => ⟨?_, ?_⟩, fun _ => [], fun v hv => by simp at hv⟩
 ·simp [growZ, List.getD_eq_getElem?_getD, hv]
 ·simp [growZ, List.getD_eq_getElem?_getD, hv]

theorem szA_in (hR : g.Right) (hn : Sm g) (hr : r < g.n) (hm : ∀ m ∈ ms, m < g.n) (hv : v ∈ (g.from r).order) : ∃ p : List Nat, p.Nodup /\ (∀ u, u ∈ p ↔ Desc (parA g r) v u) /\
  ((∃ u ∈ p, u ∈ ms) -> szA g ms r v = 0) /\ ((∀ u ∈ p, u ∉ ms) -> szA g ms r v = (p.map (wtA g ms r)).sum) := by
 obtain ⟨pt, hpt⟩ := (growA_gi hR hn hr hm).done
 obtain ⟨h1, h2, h3, h4⟩ := hpt v (List.mem_reverse.2 hv)
 refine ⟨pt v, h1, h2, fun ⟨u, hu, hum⟩ => ?_, fun hno => ?_⟩
 ·have : (growA g ms r).mc.getD v 0 ≠ 0 := fun e => by
   have := sum_zero (f := cntA ms) (fun k _ => by unfold cntA; omega) (h3.symm.trans e) u hu
   unfold cntA at this
   have := List.count_pos_iff.2 hum
   omega
  unfold szA; rw [h4, if_neg this]
 ·have : (growA g ms r).mc.getD v 0 = 0 := by
   rw [h3]
   have : ∀ u ∈ pt v, cntA ms u = 0 := fun u hu => by unfold cntA; rw [List.count_eq_zero.2 (hno u hu)]; rfl
   rw [List.map_congr_left this]
   generalize pt v = q
   induction q with
   | nil => rfl
   | cons a q ih => rw [List.map_cons, List.sum_cons]; omega
  unfold szA; rw [h4, if_pos this]

theorem szA_out (hR : g.Right) (hn : Sm g) (hr : r < g.n) (hm : ∀ m ∈ ms, m < g.n) (hv : v < g.n) (ho : v ∉ (g.from r).order) : szA g ms r v = 0 :=
 ((growA_gi hR hn hr hm).out v hv (by simpa using ho)).1

theorem kdA (hR : g.Right) (hn : Sm g) (hr : r < g.n) (hm : ∀ m ∈ ms, m < g.n) {w : Nat} : w ∈ (growA g ms r).kd v ↔ parA g r w = some v := by
 rw [(growA_gi hR hn hr hm).kd, List.mem_filter, List.mem_reverse, decide_eq_true_eq]
 exact ⟨fun h => h.2, fun h => ⟨(par_some (from_tree hR hr) h).1, h⟩⟩

theorem szA_pos (hR : g.Right) (hn : Sm g) (hr : r < g.n) (hm : ∀ m ∈ ms, m < g.n) (hv : v ∈ (g.from r).order) (h : 0 < szA g ms r v) : v ∉ ms := fun hvm => by
 obtain ⟨p, _, h2, h3, _⟩ := szA_in hR hn hr hm hv
 have := h3 ⟨v, (h2 v).2 .refl, hvm⟩
 omega

theorem szA_gain (hR : g.Right) (hn : Sm g) (hr : r < g.n) (hm : ∀ m ∈ ms, m < g.n) (hv : v ∈ (g.from r).order) (h : 0 < szA g ms r v) (hk : ∀ w, parA g r w = some v -> szA g ms r w <= 0) : bnd g ms r v < dAt (g.from r).dist v := by
 have T := from_tree hR hr
 obtain ⟨p, h1, h2, h3, h4⟩ := szA_in hR hn hr hm hv
 have hno : ∀ u ∈ p, u ∉ ms := fun u hu hum => by have := h3 ⟨u, hu, hum⟩; omega
 rw [h4 hno] at h
 have hz : ∀ u ∈ p, u ≠ v -> wtA g ms r u = 0 := fun u hu hne => by
  rcases desc_kid.1 ((h2 u).1 hu) with e | ⟨k, hk1, hk2⟩
  ·exact absurd e hne
  ·have hko := (par_some T hk1).1
   obtain ⟨q, q1, q2, _, q4⟩ := szA_in hR hn hr hm hko
   have e := q4 fun x hx => hno x ((h2 x).2 (((q2 x).1 hx).up hk1))
   have hle := hk k hk1
   rw [e] at hle
   have hnn : ∀ x ∈ q, 0 <= wtA g ms r x := fun x hx => (wtA_rng hR hr hm x (desc_in T ((q2 x).1 hx) hko)).1
   have := sum_nn hnn
   exact sum_zero hnn (by omega) u ((q2 u).2 hk2)
 have hs : (p.map (wtA g ms r)).sum = wtA g ms r v := by
  have hvp := (h2 v).2 .refl
  have := sum_perm (f := wtA g ms r) h1 (q := v :: p.erase v) (List.nodup_cons.2 ⟨fun h => by rw [h1.mem_erase_iff] at h; exact h.1 rfl, h1.erase v⟩) fun u => by
   rw [List.mem_cons, h1.mem_erase_iff]
   by_cases e : u = v
   ·rw [e]; exact ⟨fun _ => .inl rfl, fun _ => hvp⟩
   ·exact ⟨fun h => .inr ⟨e, h⟩, fun h => (h.resolve_left e).2⟩
  rw [this, List.map_cons, List.sum_cons]
  have hz' : ((p.erase v).map (wtA g ms r)).sum = 0 := by
   have hz2 : ∀ u ∈ p.erase v, wtA g ms r u = 0 := fun u hu => by
    rw [h1.mem_erase_iff] at hu
    exact hz u hu.2 hu.1
   rw [List.map_congr_left hz2]
   generalize p.erase v = q
   induction q with
   | nil => rfl
   | cons a q ih => rw [List.map_cons, List.sum_cons]; omega
  omega
 rw [hs] at h
 unfold wtA at h
 split at h <;> omega

def nextA (g : G) (ms : List Nat) (r : Nat) : Nat := match bestS (szA g ms r) (g.from r).order with
 | none => freeM ms (g.n + 1) 0
 | some v => down (szA g ms r) (growA g ms r).kd g.n v

theorem nextA_spec (hR : g.Right) (hn : Sm g) (hr : r < g.n) (hm : ∀ m ∈ ms, m < g.n) (hnd : ms.Nodup) (hl : ms.length < g.n) :
  nextA g ms r < g.n /\ nextA g ms r ∉ ms /\ ((∃ v, v < g.n /\ 0 < szA g ms r v) -> 0 < szA g ms r (nextA g ms r) /\ bnd g ms r (nextA g ms r) < dAt (g.from r).dist (nextA g ms r) /\ dAt (g.from r).dist (nextA g ms r) < far) := by
 have T := from_tree hR hr
 have hino : ∀ v, v < g.n -> 0 < szA g ms r v -> v ∈ (g.from r).order := fun v hv h => by
  by_cases ho : v ∈ (g.from r).order
  ·exact ho
  ·have := szA_out hR hn hr hm hv ho; omega
 unfold nextA
 rcases bestS_is (f := szA g ms r) (l := (g.from r).order) with ⟨e, h⟩ | ⟨w, e, h1, h2, h3⟩
 ·rw [e]
  dsimp only
  obtain ⟨f1, _, f3⟩ := freeM_spec (ms := ms) (k := g.n + 1) (v := 0) (fun u hu => by omega) (by omega) hnd
  refine ⟨by omega, f1, fun ⟨v, hv, hp⟩ => ?_⟩
  have := h v (hino v hv hp); omega
 ·rw [e]
  dsimp only
  have hkd : ∀ v, ∀ w ∈ (growA g ms r).kd v, (g.from r).order.idxOf v < (g.from r).order.idxOf w /\ (g.from r).order.idxOf w < g.n := fun v w hw => by
   obtain ⟨q1, _, _, q4⟩ := par_some T ((kdA hR hn hr hm).1 hw)
   exact ⟨q4, Nat.lt_of_lt_of_le (List.idxOf_lt_length_of_mem q1) (nodup_le T.nodup T.range)⟩
  have hpos := down_pos (kd := (growA g ms r).kd) (k := g.n) h2
  have hend := down_end (f := szA g ms r) hkd (k := g.n) (v := w) (by omega)
  have hord : ∀ k v, v ∈ (g.from r).order -> down (szA g ms r) (growA g ms r).kd k v ∈ (g.from r).order := fun k => by
   induction k with
   | zero => exact fun v h => h
   | succ k ih =>
    intro v hv
    unfold down
    rcases bestS_is (f := szA g ms r) (l := (growA g ms r).kd v) with ⟨e, _⟩ | ⟨w, e, h1, _, _⟩
    ·rw [e]; exact hv
    ·rw [e]; exact ih w (par_some T ((kdA hR hn hr hm).1 h1)).1
  have ho := hord g.n w h1
  generalize down (szA g ms r) (growA g ms r).kd g.n w = x at hpos hend ho
  refine ⟨T.range x ho, szA_pos hR hn hr hm ho hpos, fun _ => ⟨hpos, szA_gain hR hn hr hm ho hpos fun w hw => ?_, (T.reached x (T.range x ho)).1 ho⟩⟩
  rcases bestS_is (f := szA g ms r) (l := (growA g ms r).kd x) with ⟨_, h⟩ | ⟨_, e, _⟩
  ·exact h w ((kdA hR hn hr hm).2 hw)
  ·rw [hend] at e; cases e

end
open Go

def mksZ (n : Nat) (l : List Int) : List Nat := (l.filter fun (z : Int) => decide (0 <= z /\ z < n)).map Int.toNat
theorem mksZ_snoc {n : Nat} {l : List Int} {z : Int} : mksZ n (l ++ [z]) = mksZ n l ++ (if 0 <= z /\ z < n then [z.toNat] else []) := by
 unfold mksZ
 rw [List.filter_append, List.map_append]
 congr 1
 by_cases h : 0 <= z /\ z < n
 ·simp only [if_pos h, List.filter_cons, List.filter_nil, decide_eq_true_eq, List.map_cons, List.map_nil]
 ·simp only [if_neg h, List.filter_cons, List.filter_nil, decide_eq_true_eq, List.map_nil]
theorem mksZ_nI {n : Nat} {l : List Nat} (h : ∀ m ∈ l, m < n) : mksZ n (nI l) = l := by
 unfold mksZ nI
 rw [List.filter_eq_self.2 (fun z hz => by obtain ⟨m, hm, rfl⟩ := List.mem_map.1 hz; have := h m hm; exact decide_eq_true ⟨by omega, by omega⟩), List.map_map]
 simp [Function.comp_def]

open Go

def rootA (xs : List Int) (n i : Nat) : Nat := ((xs[i]?.map fun (x : Int) => x.tmod n).getD 0).toNat
def mksA (g : G) (xs : List Int) : Nat -> List Nat
 | 0 => []
 | k + 1 => mksA g xs k ++ [if k = 0 then rootA xs g.n 0 else nextA g (mksA g xs k) (rootA xs g.n k)]

section
variable {g : G} {xs : List Int} {n k i : Nat}

theorem rootA_lt (hn : 0 < n) (hx : ∀ x ∈ xs, 0 <= x) : rootA xs n i < n := by
 unfold rootA
 cases h : xs[i]? with
 | none => simpa using hn
 | some x =>
  have h0 := hx x (List.mem_of_getElem? h)
  have h1 := Int.tmod_lt_of_pos x (show (0 : Int) < n by omega)
  have h2 := Int.tmod_nonneg (n : Int) h0
  show (x.tmod n).toNat < n
  omega

theorem mksA_len : ∀ {k : Nat}, (mksA g xs k).length = k
 | 0 => rfl
 | k + 1 => by unfold mksA; rw [List.length_append, mksA_len]; rfl

theorem mksA_ok (hR : g.Right) (hn : Sm g) (hx : ∀ x ∈ xs, 0 <= x) : ∀ {k : Nat}, k <= g.n -> (mksA g xs k).Nodup /\ ∀ m ∈ mksA g xs k, m < g.n
 | 0, _ => ⟨by simp [mksA], fun m h => by simp [mksA] at h⟩
 | k + 1, h => by
  obtain ⟨h1, h2⟩ := mksA_ok hR hn hx (k := k) (by omega)
  have hr : rootA xs g.n k < g.n := rootA_lt (by omega) hx
  unfold mksA
  by_cases hk : k = 0
  ·subst hk
   rw [if_pos rfl]
   refine ⟨by simp [mksA], fun m hm => ?_⟩
   have : m = rootA xs g.n 0 := by simpa [mksA] using hm
   rw [this]; exact hr
  ·rw [if_neg hk]
   obtain ⟨n1, n2, _⟩ := nextA_spec hR hn hr h2 h1 (by rw [mksA_len]; omega)
   refine ⟨List.nodup_append.2 ⟨h1, by simp, fun a ha b hb e => ?_⟩, fun m hm => ?_⟩
   ·rw [List.mem_singleton.1 hb] at e
    exact n2 (e ▸ ha)
   ·rcases List.mem_append.1 hm with hm | hm
    ·exact h2 m hm
    ·rw [List.mem_singleton.1 hm]; exact n1

end
open Go

open Go

section
variable {g : G} {r : Nat} {ms : List Nat}

def growQ (g : G) (ms : List Nat) (r i : Nat) : GS := ((g.from r).order.reverse.take i).foldl (GS.step (parA g r) (wtA g ms r)) (growZ g.n ms)

theorem growQ_gi (hR : g.Right) (hn : Sm g) (hr : r < g.n) (hm : ∀ m ∈ ms, m < g.n) (i : Nat) : GI (parA g r) g.n (wtA g ms r) (cntA ms) ((g.from r).order.reverse.take i) (growQ g ms r i) := by
 have T := from_tree hR hr
 unfold growQ
 rw [List.take_reverse]
 refine GI.all T (hn r hr) (wtA_rng hR hr hm) (fun v => by unfold cntA; omega) (S := growZ g.n ms) ?_ (pre := (g.from r).order.take ((g.from r).order.length - i)) (List.take_append_drop _ _).symm
 refine ⟨fun x => rfl, by simp [growZ], by simp [growZ], fun v hv _ => ⟨?_, ?_⟩, fun _ => [], fun v hv => by simp at hv⟩
 ·simp [growZ, List.getD_eq_getElem?_getD, hv]
 ·simp [growZ, List.getD_eq_getElem?_getD, hv]

theorem growQ_end : growQ g ms r (g.from r).order.length = growA g ms r := by
 unfold growQ growA
 rw [List.take_of_length_le (by simp)]

theorem growQ_step {i : Nat} (hi : i < (g.from r).order.length) : growQ g ms r (i + 1) = (growQ g ms r i).step (parA g r) (wtA g ms r) ((g.from r).order.reverse.getD i 0) := by
 unfold growQ
 have h : i < (g.from r).order.reverse.length := by rw [List.length_reverse]; exact hi
 rw [List.take_succ_eq_append_getElem h, List.foldl_append, List.getD_eq_getElem?_getD, List.getElem?_eq_getElem h]
 rfl

theorem growQ_facts (hR : g.Right) (hn : Sm g) (hr : r < g.n) (hm : ∀ m ∈ ms, m < g.n) (hml : ms.length <= 2 ^ 20) (i : Nat) : (∀ x, ((growQ g ms r i).kd x).length <= 32) /\ (growQ g ms r i).sz.length = g.n /\ (growQ g ms r i).mc.length = g.n /\
  (∀ v, ∀ k ∈ (growQ g ms r i).kd v, k < g.n /\ k ≠ v) /\ ∀ u, 0 <= (growQ g ms r i).mc.getD u 0 /\ (growQ g ms r i).mc.getD u 0 <= 2 ^ 32 := by
 have T := from_tree hR hr
 have H := growQ_gi hR hn hr hm i
 have hcn : ∀ u, 0 <= cntA ms u /\ cntA ms u <= 2 ^ 20 := fun u => by
  unfold cntA
  have := List.count_le_length (a := u) (l := ms)
  omega
 refine ⟨fun x => ?_, H.sl, H.ml, fun v k hk => ?_, fun u => ?_⟩
 ·rw [H.kd]
  have h1 := List.length_filter_le (fun v => decide (parA g r v = some x)) ((g.from r).order.reverse.take i)
  have h2 := hn r hr
  rw [List.length_take, List.length_reverse] at h1
  omega
 ·rw [H.kd, List.mem_filter, decide_eq_true_eq] at hk
  obtain ⟨p1, _, _, p4⟩ := par_some T hk.2
  exact ⟨T.range k p1, fun e => by rw [e] at p4; omega⟩
 ·by_cases hu : u ∈ (g.from r).order.reverse.take i
  ·obtain ⟨pt, hpt⟩ := H.done
   obtain ⟨h1, h2, h3, _⟩ := hpt u hu
   have huo : u ∈ (g.from r).order := List.mem_reverse.1 (List.mem_of_mem_take hu)
   have h4 := nodup_sub h1 fun x hx => desc_in T ((h2 x).1 hx) huo
   have h6 := hn r hr
   have h5 := sum_le (f := cntA ms) (l := pt u) (B := 2 ^ 20) fun k _ => (hcn k).2
   rw [h3]
   refine ⟨sum_nn fun k _ => (hcn k).1, ?_⟩
   omega
  ·by_cases hun : u < g.n
   ·rw [(H.out u hun hu).2]
    have := hcn u
    omega
   ·rw [List.getD_eq_getElem?_getD, List.getElem?_eq_none (by rw [H.ml]; omega)]
    exact ⟨Int.le_refl _, by decide⟩

theorem cnt_set {n x : Nat} {l : List Nat} (hx : x < n) : ((List.range n).map (cntA l)).set x (cntA l x + 1) = (List.range n).map (cntA (l ++ [x])) := by
 apply List.ext_getElem?
 intro i
 by_cases hi : i < n
 ·by_cases e : i = x
  ·subst e
   rw [List.getElem?_set_self (by simpa using hi)]
   simp [hi, cntA, List.count_append]
  ·rw [List.getElem?_set_ne (fun h => e h.symm)]
   have : List.count i [x] = 0 := List.count_eq_zero.2 (by simpa using e)
   simp [hi, cntA, List.count_append, this]
 ·rw [List.getElem?_eq_none (by simp; omega), List.getElem?_eq_none (by simp; omega)]
end
open Go

def valG (g : G) (d v : Nat) : Int := if d = 0 then g.X.getD v 0 else if d = 1 then g.Y.getD v 0 else if d = 2 then g.X.getD v 0 + g.Y.getD v 0 else g.X.getD v 0 - g.Y.getD v 0
def leaF (f : Nat -> Int) (l : List Nat) (z : Int) : Int := l.foldl (fun a x => min a (f x)) z
def mosF (f : Nat -> Int) (l : List Nat) (z : Int) : Int := l.foldl (fun a x => max a (f x)) z
def sprd (f : Nat -> Int) : List Nat -> Int
 | [] => 0
 | x :: l => mosF f (x :: l) (f x) - leaF f (x :: l) (f x)
def wayB (f : Nat -> Int) : Nat -> Nat × Int
 | 0 => (0, 0)
 | i + 1 => if (wayB f i).2 < f i then (i, f i) else wayB f i
def wayG (g : G) (l : List Nat) : Nat × Int := wayB (fun d => sprd (valG g d) l) 4

theorem leaF_snoc {f : Nat -> Int} {l : List Nat} {x : Nat} {z : Int} : leaF f (l ++ [x]) z = min (leaF f l z) (f x) := by simp [leaF]
theorem mosF_snoc {f : Nat -> Int} {l : List Nat} {x : Nat} {z : Int} : mosF f (l ++ [x]) z = max (mosF f l z) (f x) := by simp [mosF]

theorem leaF_le {f : Nat -> Int} : ∀ {l : List Nat} {z : Int}, leaF f l z <= z /\ ∀ x ∈ l, leaF f l z <= f x
 | [], z => ⟨Int.le_refl _, fun x h => by cases h⟩
 | a :: l, z => by
  obtain ⟨h1, h2⟩ := @leaF_le f l (min z (f a))
  have e : leaF f (a :: l) z = leaF f l (min z (f a)) := rfl
  rw [e]
  refine ⟨by omega, fun x hx => ?_⟩
  rcases List.mem_cons.1 hx with rfl | hx
  ·omega
  ·exact h2 x hx
theorem mosF_ge {f : Nat -> Int} : ∀ {l : List Nat} {z : Int}, z <= mosF f l z /\ ∀ x ∈ l, f x <= mosF f l z
 | [], z => ⟨Int.le_refl _, fun x h => by cases h⟩
 | a :: l, z => by
  obtain ⟨h1, h2⟩ := @mosF_ge f l (max z (f a))
  have e : mosF f (a :: l) z = mosF f l (max z (f a)) := rfl
  rw [e]
  refine ⟨by omega, fun x hx => ?_⟩
  rcases List.mem_cons.1 hx with rfl | hx
  ·omega
  ·exact h2 x hx
theorem leaF_ge {f : Nat -> Int} {B : Int} : ∀ {l : List Nat} {z : Int}, B <= z -> (∀ x ∈ l, B <= f x) -> B <= leaF f l z
 | [], z, h, _ => h
 | a :: l, z, h, hl => leaF_ge (l := l) (z := min z (f a)) (by have := hl a List.mem_cons_self; omega) fun x hx => hl x (List.mem_cons_of_mem _ hx)
theorem mosF_le {f : Nat -> Int} {B : Int} : ∀ {l : List Nat} {z : Int}, z <= B -> (∀ x ∈ l, f x <= B) -> mosF f l z <= B
 | [], z, h, _ => h
 | a :: l, z, h, hl => mosF_le (l := l) (z := max z (f a)) (by have := hl a List.mem_cons_self; omega) fun x hx => hl x (List.mem_cons_of_mem _ hx)

theorem sprd_nonneg {f : Nat -> Int} {l : List Nat} : 0 <= sprd f l := by
 cases l with
 | nil => exact Int.le_refl _
 | cons x l =>
  have h1 := (@leaF_le f (x :: l) (f x)).1
  have h2 := (@mosF_ge f (x :: l) (f x)).1
  show 0 <= mosF f (x :: l) (f x) - leaF f (x :: l) (f x)
  omega
theorem sprd_two {f : Nat -> Int} {l : List Nat} {v w : Nat} (hv : v ∈ l) (hw : w ∈ l) : f v - f w <= sprd f l := by
 cases l with
 | nil => cases hv
 | cons x l =>
  have h1 := (@leaF_le f (x :: l) (f x)).2 w hw
  have h2 := (@mosF_ge f (x :: l) (f x)).2 v hv
  show f v - f w <= mosF f (x :: l) (f x) - leaF f (x :: l) (f x)
  omega

theorem wayB_spec {f : Nat -> Int} (hf : ∀ d, 0 <= f d) : ∀ {i : Nat}, 1 <= i -> (wayB f i).1 < i /\ (wayB f i).2 = f (wayB f i).1 /\ (∀ k, k < i -> f k <= (wayB f i).2) /\ ∀ k, k < (wayB f i).1 -> f k < (wayB f i).2
 | 1, _ => by
  have h0 := hf 0
  have e : wayB f 1 = (0, f 0) := by
   show (if (0 : Int) < f 0 then ((0 : Nat), f 0) else (0, 0)) = _
   split
   ·rfl
   ·rw [show f 0 = 0 by omega]
  rw [e]
  exact ⟨Nat.zero_lt_one, rfl, fun k hk => by rw [show k = 0 by omega]; exact Int.le_refl _, fun k hk => by omega⟩
 | i + 2, _ => by
  obtain ⟨h1, h2, h3, h4⟩ := wayB_spec hf (i := i + 1) (by omega)
  rw [show wayB f (i + 2) = if (wayB f (i + 1)).2 < f (i + 1) then (i + 1, f (i + 1)) else wayB f (i + 1) from rfl]
  by_cases hc : (wayB f (i + 1)).2 < f (i + 1)
  ·rw [if_pos hc]
   refine ⟨by dsimp only; omega, rfl, fun k hk => ?_, fun k hk => ?_⟩
   ·by_cases e : k = i + 1
    ·rw [e]; exact Int.le_refl _
    ·have := h3 k (by omega); dsimp only; omega
   ·have := h3 k hk; dsimp only; omega
  ·rw [if_neg hc]
   refine ⟨by omega, h2, fun k hk => ?_, h4⟩
   by_cases e : k = i + 1
   ·rw [e]; omega
   ·exact h3 k (by omega)

def gtV (f : Nat -> Int) (a b : Nat) : Bool := decide (f b < f a \/ (f a = f b /\ b < a))
def insAt (v : Nat) (l : List Nat) (k : Nat) : List Nat := l.take k ++ v :: l.drop k
def posB (f : Nat -> Int) (v : Nat) (l : List Nat) : Nat -> Nat
 | 0 => 0
 | k + 1 => if gtV f (l.getD k 0) v then posB f v l k else k + 1
def insV (f : Nat -> Int) (l : List Nat) (v : Nat) : List Nat := insAt v l (posB f v l l.length)
def ordV (f : Nat -> Int) (l : List Nat) : List Nat := l.foldl (insV f) []

theorem posB_le {f : Nat -> Int} {v : Nat} {l : List Nat} : ∀ {k : Nat}, posB f v l k <= k
 | 0 => Nat.le_refl _
 | k + 1 => by
  unfold posB
  split
  ·exact Nat.le_succ_of_le posB_le
  ·exact Nat.le_refl _
theorem posB_gt {f : Nat -> Int} {v : Nat} {l : List Nat} : ∀ {k i : Nat}, posB f v l k <= i -> i < k -> gtV f (l.getD i 0) v = true
 | 0, i, _, h => by omega
 | k + 1, i, h, hi => by
  unfold posB at h
  by_cases c : gtV f (l.getD k 0) v = true
  ·rw [if_pos c] at h
   by_cases e : i = k
   ·rw [e]; exact c
   ·exact posB_gt h (by omega)
  ·rw [if_neg c] at h; omega
theorem posB_not {f : Nat -> Int} {v : Nat} {l : List Nat} : ∀ {k i : Nat}, posB f v l k = i + 1 -> gtV f (l.getD i 0) v = false
 | 0, i, h => by cases h
 | k + 1, i, h => by
  unfold posB at h
  by_cases c : gtV f (l.getD k 0) v = true
  ·rw [if_pos c] at h
   exact posB_not h
  ·rw [if_neg c] at h
   have : k = i := by omega
   subst this
   simpa using c

theorem insAt_perm {v k : Nat} {l : List Nat} : (insAt v l k).Perm (v :: l) := by
 unfold insAt
 have := List.perm_middle (a := v) (l₁ := l.take k) (l₂ := l.drop k)
 rwa [List.take_append_drop] at this
theorem insAt_len {v k : Nat} {l : List Nat} : (insAt v l k).length = l.length + 1 := insAt_perm.length_eq
theorem ordV_snoc {f : Nat -> Int} {l : List Nat} {v : Nat} : ordV f (l ++ [v]) = insV f (ordV f l) v := by simp [ordV]

theorem fold_perm {f : Nat -> Int} : ∀ {l m : List Nat}, (l.foldl (insV f) m).Perm (m ++ l)
 | [], m => by rw [List.append_nil]; exact List.Perm.refl _
 | v :: l, m => by
  have h := @fold_perm f l (insV f m v)
  refine h.trans ?_
  have h2 : (insV f m v ++ l).Perm ((v :: m) ++ l) := List.Perm.append_right l (insAt_perm (v := v) (l := m))
  exact h2.trans (List.perm_middle (a := v) (l₁ := m) (l₂ := l)).symm
theorem ordV_perm {f : Nat -> Int} {l : List Nat} : (ordV f l).Perm l := fold_perm (m := [])
theorem ordV_len {f : Nat -> Int} {l : List Nat} : (ordV f l).length = l.length := ordV_perm.length_eq

theorem gtV_irr {f : Nat -> Int} {a b : Nat} (h : gtV f a b = true) : gtV f b a = false := by
 unfold gtV at h ⊢
 rw [decide_eq_true_eq] at h
 rw [decide_eq_false_iff_not]
 omega
theorem gtV_tr {f : Nat -> Int} {a b c : Nat} (h : gtV f a b = false) (h2 : gtV f b c = false) : gtV f a c = false := by
 unfold gtV at h h2 ⊢
 rw [decide_eq_false_iff_not] at h h2 ⊢
 omega

theorem insV_sorted {f : Nat -> Int} {l : List Nat} {v : Nat} (h : l.Pairwise fun a b => gtV f a b = false) : (insV f l v).Pairwise fun a b => gtV f a b = false := by
 unfold insV insAt
 have hle := @posB_le f v l l.length
 have hgt := fun i => @posB_gt f v l l.length i
 have hno := fun i => @posB_not f v l l.length i
 generalize posB f v l l.length = p at hle hgt hno
 rw [List.pairwise_append]
 refine ⟨h.sublist (List.take_sublist _ _), List.pairwise_cons.2 ⟨fun b hb => ?_, h.sublist (List.drop_sublist _ _)⟩, fun a ha b hb => ?_⟩
 ·obtain ⟨i, hi, rfl⟩ := List.getElem_of_mem hb
  rw [List.getElem_drop]
  rw [List.length_drop] at hi
  have := hgt (p + i) (by omega) (by omega)
  rw [List.getD_eq_getElem?_getD, List.getElem?_eq_getElem (by omega)] at this
  exact gtV_irr this
 ·have hav : gtV f a v = false := by
   obtain ⟨i, hi, rfl⟩ := List.getElem_of_mem ha
   rw [List.length_take] at hi
   rw [List.getElem_take]
   obtain ⟨q, rfl⟩ : ∃ q, p = q + 1 := ⟨p - 1, by omega⟩
   have h1 := hno q rfl
   rw [List.getD_eq_getElem?_getD, List.getElem?_eq_getElem (show q < l.length by omega)] at h1
   by_cases e : i = q
   ·subst e; exact h1
   ·exact gtV_tr (List.pairwise_iff_getElem.1 h i q (by omega) (by omega) (by omega)) h1
  rcases List.mem_cons.1 hb with rfl | hb
  ·exact hav
  ·have h3 := List.pairwise_append.1 (by rw [List.take_append_drop]; exact h : (l.take p ++ l.drop p).Pairwise fun a b => gtV f a b = false)
   exact h3.2.2 a ha b hb
theorem ordV_sorted {f : Nat -> Int} {l : List Nat} : (ordV f l).Pairwise fun a b => gtV f a b = false := by
 have : ∀ {l m : List Nat}, m.Pairwise (fun a b => gtV f a b = false) -> (l.foldl (insV f) m).Pairwise fun a b => gtV f a b = false := by
  intro l
  induction l with
  | nil => exact fun h => h
  | cons v l ih => exact fun h => ih (insV_sorted h)
 exact this (l := l) (m := []) .nil

def partF (g : G) : Nat -> Nat -> List Nat -> List (List Nat)
 | 0, _, l => [l]
 | k + 1, c, l => if c = 1 then [l] else
  partF g k (c / 2) ((ordV (valG g (wayG g l).1) l).take (l.length * (c / 2) / c)) ++ partF g k (c - c / 2) ((ordV (valG g (wayG g l).1) l).drop (l.length * (c / 2) / c))
def setL (c : Int) (l : List Nat) (out : List Int) : List Int := l.foldl (fun o v => o.set v c) out
def asgF : List (List Nat) -> Nat -> List Int -> List Int
 | [], _, out => out
 | p :: r, i, out => asgF r (i + 1) (setL i p out)
def mapG (g : G) (c : Nat) : List Int := asgF (partF g c c (List.range g.n)) 0 (List.replicate g.n 0)

theorem asgF_append : ∀ {a b : List (List Nat)} {i : Nat} {out : List Int}, asgF (a ++ b) i out = asgF b (i + a.length) (asgF a i out)
 | [], b, i, out => by simp [asgF]
 | p :: a, b, i, out => by
  show asgF (a ++ b) (i + 1) (setL i p out) = _
  rw [asgF_append]
  show _ = asgF b (i + (a.length + 1)) (asgF a (i + 1) (setL i p out))
  rw [show i + 1 + a.length = i + (a.length + 1) by omega]
theorem setL_len {c : Int} : ∀ {l : List Nat} {out : List Int}, (setL c l out).length = out.length
 | [], out => rfl
 | v :: l, out => by
  show (setL c l (out.set v c)).length = _
  rw [setL_len, List.length_set]
theorem asgF_len : ∀ {a : List (List Nat)} {i : Nat} {out : List Int}, (asgF a i out).length = out.length
 | [], i, out => rfl
 | p :: a, i, out => by
  show (asgF a (i + 1) (setL i p out)).length = _
  rw [asgF_len, setL_len]
theorem mapG_len {g : G} {c : Nat} : (mapG g c).length = g.n := by unfold mapG; rw [asgF_len, List.length_replicate]

theorem setL_get {c : Int} {w : Nat} : ∀ {l : List Nat} {out : List Int}, w < out.length -> (setL c l out)[w]? = if w ∈ l then some c else out[w]?
 | [], out, _ => by simp [setL]
 | v :: l, out, h => by
  show (setL c l (out.set v c))[w]? = _
  rw [setL_get (by rw [List.length_set]; exact h)]
  by_cases e : w = v
  ·subst e
   rw [List.getElem?_set_self h]
   simp
  ·rw [List.getElem?_set_ne (fun h => e h.symm)]
   simp [e]
theorem asgF_out {w : Nat} : ∀ {a : List (List Nat)} {i : Nat} {out : List Int}, w < out.length -> (∀ p ∈ a, w ∉ p) -> (asgF a i out)[w]? = out[w]?
 | [], i, out, _, _ => rfl
 | p :: a, i, out, h, hw => by
  show (asgF a (i + 1) (setL i p out))[w]? = _
  rw [asgF_out (by rw [setL_len]; exact h) fun p hp => hw p (List.mem_cons_of_mem _ hp), setL_get h, if_neg (hw p List.mem_cons_self)]
theorem asgF_get {w : Nat} : ∀ {a : List (List Nat)} {i j : Nat} {out : List Int}, w < out.length -> a.flatten.Nodup -> (hj : j < a.length) -> w ∈ a[j] -> (asgF a i out)[w]? = some ((i + j : Nat) : Int)
 | [], i, j, out, _, _, hj, _ => by simp at hj
 | p :: a, i, 0, out, h, hn, _, hw => by
  replace hw : w ∈ p := hw
  show (asgF a (i + 1) (setL i p out))[w]? = _
  rw [List.flatten_cons, List.nodup_append] at hn
  rw [asgF_out (by rw [setL_len]; exact h) fun q hq hwq => hn.2.2 w hw w (List.mem_flatten.2 ⟨q, hq, hwq⟩) rfl, setL_get h, if_pos hw]
  rfl
 | p :: a, i, j + 1, out, h, hn, hj, hw => by
  show (asgF a (i + 1) (setL i p out))[w]? = _
  rw [List.flatten_cons, List.nodup_append] at hn
  rw [asgF_get (by rw [setL_len]; exact h) hn.2.1 (by simpa using hj) (by simpa using hw)]
  congr 2; omega

theorem partF_len {g : G} : ∀ {k c : Nat} {l : List Nat}, 1 <= c -> c <= k -> (partF g k c l).length = c
 | 0, c, l, h1, h2 => by omega
 | k + 1, c, l, h1, h2 => by
  unfold partF
  by_cases e : c = 1
  ·rw [if_pos e, e]; rfl
  ·rw [if_neg e, List.length_append, partF_len (by omega) (by omega), partF_len (by omega) (by omega)]
   omega
theorem partF_perm {g : G} : ∀ {k c : Nat} {l : List Nat}, (partF g k c l).flatten.Perm l
 | 0, c, l => by unfold partF; simp
 | k + 1, c, l => by
  unfold partF
  by_cases e : c = 1
  ·rw [if_pos e]; simp
  ·rw [if_neg e, List.flatten_append]
   refine (List.Perm.append partF_perm partF_perm).trans ?_
   rw [List.take_append_drop]
   exact ordV_perm

theorem half_le {m c : Nat} (hc : 2 <= c) : m * (c / 2) / c <= m := by
 apply Nat.div_le_of_le_mul
 rw [Nat.mul_comm c m]
 exact Nat.mul_le_mul_left m (by omega)

open Go

section
variable {g : G} {c : Nat}

theorem mapG_nodup : (partF g c c (List.range g.n)).flatten.Nodup := (partF_perm (g := g)).nodup_iff.2 List.nodup_range

theorem mapG_get {v j : Nat} (hj : j < (partF g c c (List.range g.n)).length) (hv : v ∈ (partF g c c (List.range g.n))[j]) : (mapG g c)[v]? = some (j : Int) := by
 have hvn : v < g.n := by
  have : v ∈ (partF g c c (List.range g.n)).flatten := List.mem_flatten.2 ⟨_, List.getElem_mem hj, hv⟩
  exact List.mem_range.1 ((partF_perm (g := g)).mem_iff.1 this)
 unfold mapG
 rw [asgF_get (by rw [List.length_replicate]; exact hvn) mapG_nodup hj hv]
 simp

theorem mapG_in {v : Nat} (hv : v < g.n) : ∃ j, ∃ hj : j < (partF g c c (List.range g.n)).length, v ∈ (partF g c c (List.range g.n))[j] := by
 have : v ∈ (partF g c c (List.range g.n)).flatten := (partF_perm (g := g)).mem_iff.2 (List.mem_range.2 hv)
 obtain ⟨p, hp, hvp⟩ := List.mem_flatten.1 this
 obtain ⟨j, hj, e⟩ := List.getElem_of_mem hp
 exact ⟨j, hj, by rw [e]; exact hvp⟩

theorem mapG_rng (hc : 1 <= c) {v : Nat} (hv : v < g.n) : ∃ j : Nat, (mapG g c)[v]? = some (j : Int) /\ j < c := by
 obtain ⟨j, hj, hm⟩ := mapG_in (c := c) hv
 exact ⟨j, mapG_get hj hm, by rw [partF_len hc (Nat.le_refl _)] at hj; exact hj⟩

theorem wayG_spec {l : List Nat} : (wayG g l).1 < 4 /\ 0 <= (wayG g l).2 /\ ∀ k, k < 4 -> ∀ v ∈ l, ∀ w ∈ l, valG g k v - valG g k w <= (wayG g l).2 /\ (k < (wayG g l).1 -> valG g k v - valG g k w < (wayG g l).2) := by
 obtain ⟨h1, h2, h3, h4⟩ := wayB_spec (f := fun d => sprd (valG g d) l) (fun d => sprd_nonneg) (i := 4) (by decide)
 refine ⟨h1, ?_, fun k hk v hv w hw => ?_⟩
 ·show 0 <= (wayB _ 4).2
  rw [h2]; exact sprd_nonneg
 ·have h5 := sprd_two (f := valG g k) hv hw
  have h6 := h3 k hk
  refine ⟨Int.le_trans h5 h6, fun hkd => ?_⟩
  have h7 := h4 k hkd
  exact Int.lt_of_le_of_lt h5 h7
end

open Go

structure EndsE where
 lo : Int
 hi : Int
 any : Bool
def withE (e : EndsE) (x : Int) : EndsE := if e.any then ⟨min e.lo x, max e.hi x, true⟩ else ⟨x, x, true⟩
def endsOf (l : List Int) : EndsE := l.foldl withE ⟨0, 0, false⟩

theorem ends_go : ∀ {l : List Int} {e : EndsE} {a b : Int}, (∀ x ∈ l, a <= x /\ x <= b) -> (e.any = true -> a <= e.lo /\ e.lo <= e.hi /\ e.hi <= b) ->
  ((l.foldl withE e).any = true -> a <= (l.foldl withE e).lo /\ (l.foldl withE e).lo <= (l.foldl withE e).hi /\ (l.foldl withE e).hi <= b) /\
  (∀ x ∈ l, (l.foldl withE e).lo <= x /\ x <= (l.foldl withE e).hi) /\ (e.any = true -> (l.foldl withE e).lo <= e.lo /\ e.hi <= (l.foldl withE e).hi /\ (l.foldl withE e).any = true) /\ (l ≠ [] -> (l.foldl withE e).any = true)
 | [], e, a, b, _, he => ⟨he, (fun _ h => by cases h), fun h => ⟨Int.le_refl _, Int.le_refl _, h⟩, fun h => absurd rfl h⟩
 | y :: l, e, a, b, hl, he => by
  have hy := hl y List.mem_cons_self
  have hw : (withE e y).any = true /\ (withE e y).lo <= y /\ y <= (withE e y).hi /\ a <= (withE e y).lo /\ (withE e y).hi <= b /\ (e.any = true -> (withE e y).lo <= e.lo /\ e.hi <= (withE e y).hi) := by
   unfold withE
   cases h : e.any with
   | true =>
    have := he h
    simp only [if_true]
    refine ⟨trivial, ?_, ?_, ?_, ?_, fun _ => ⟨?_, ?_⟩⟩ <;> omega
   | false =>
    simp only [Bool.false_eq_true, if_false]
    refine ⟨trivial, Int.le_refl _, Int.le_refl _, hy.1, hy.2, fun h => by cases h⟩
  obtain ⟨w1, w2, w3, w4, w5, w6⟩ := hw
  obtain ⟨h1, h2, h3, _⟩ := ends_go (l := l) (e := withE e y) (a := a) (b := b) (fun x hx => hl x (List.mem_cons_of_mem _ hx)) fun _ => ⟨w4, by omega, w5⟩
  have h3' := h3 w1
  rw [List.foldl_cons]
  refine ⟨h1, fun x hx => ?_, fun h => ?_, fun _ => h3'.2.2⟩
  ·rcases List.mem_cons.1 hx with rfl | hx
   ·omega
   ·exact h2 x hx
  ·have := w6 h
   exact ⟨by omega, by omega, h3'.2.2⟩

theorem ends_of {l : List Int} {a b : Int} (hl : ∀ x ∈ l, a <= x /\ x <= b) (hne : l ≠ []) : a <= (endsOf l).lo /\ (endsOf l).hi <= b /\ (endsOf l).lo <= (endsOf l).hi /\ ∀ x ∈ l, (endsOf l).lo <= x /\ x <= (endsOf l).hi := by
 obtain ⟨h1, h2, _, h4⟩ := ends_go (l := l) (e := ⟨0, 0, false⟩) hl (fun h => by cases h)
 have := h1 (h4 hne)
 exact ⟨this.1, this.2.2, this.2.1, h2⟩

def partOf (e : EndsE) (many : Nat) (x : Int) : Int := (x - e.lo) * many / (e.hi - e.lo + 1)
theorem part_rng {e : EndsE} {many : Nat} {x : Int} (h1 : e.lo <= x) (h2 : x <= e.hi) (hm : 1 <= many) : 0 <= partOf e many x /\ partOf e many x < many := by
 unfold partOf
 have hd : 0 < e.hi - e.lo + 1 := by omega
 refine ⟨Int.ediv_nonneg (Int.mul_nonneg (by omega) (by omega)) (by omega), Int.ediv_lt_of_lt_mul hd ?_⟩
 rw [Int.mul_comm (many : Int)]
 exact Int.mul_lt_mul_of_pos_right (by omega) (by omega)

def gridL (g : G) (rows cols : Nat) : List Int := (List.range g.n).map fun v => partOf (endsOf g.Y) rows (g.Y.getD v 0) * cols + partOf (endsOf g.X) cols (g.X.getD v 0)

theorem gridL_rng {g : G} {rows cols : Nat} (hR : g.Right) (hr : 1 <= rows) (hc : 1 <= cols) {z : Int} (hz : z ∈ gridL g rows cols) : 0 <= z /\ z < (rows * cols : Nat) := by
 obtain ⟨v, hv, rfl⟩ := List.mem_map.1 hz
 have hv := List.mem_range.1 hv
 have hx : g.X.getD v 0 ∈ g.X := by
  rw [List.getD_eq_getElem?_getD, List.getElem?_eq_getElem (by rw [hR.x]; exact hv), Option.getD_some]; exact List.getElem_mem _
 have hy : g.Y.getD v 0 ∈ g.Y := by
  rw [List.getD_eq_getElem?_getD, List.getElem?_eq_getElem (by rw [hR.y]; exact hv), Option.getD_some]; exact List.getElem_mem _
 obtain ⟨_, _, _, hxx⟩ := ends_of hR.xr (List.ne_nil_of_mem hx)
 obtain ⟨_, _, _, hyy⟩ := ends_of hR.yr (List.ne_nil_of_mem hy)
 have p1 := part_rng (hxx _ hx).1 (hxx _ hx).2 hc
 have p2 := part_rng (hyy _ hy).1 (hyy _ hy).2 hr
 generalize partOf (endsOf g.Y) rows (g.Y.getD v 0) = a at p2
 generalize partOf (endsOf g.X) cols (g.X.getD v 0) = b at p1
 obtain ⟨a, rfl⟩ := Int.eq_ofNat_of_zero_le p2.1
 obtain ⟨b, rfl⟩ := Int.eq_ofNat_of_zero_le p1.1
 have := Nat.mul_le_mul_right cols (show a + 1 <= rows by omega)
 rw [Nat.add_mul] at this
 have e : (a : Int) * cols + b = ((a * cols + b : Nat) : Int) := by rw [Int.natCast_add, Int.natCast_mul]
 rw [e]
 omega

def Shp (cells rows : Nat) : Prop := 1 <= rows /\ rows * rows <= cells /\ cells < (rows + 1) * (rows + 1)
theorem Shp.cols {cells rows : Nat} (h : Shp cells rows) : 1 <= cells / rows /\ rows * (cells / rows) <= cells := by
 obtain ⟨h1, h2, h3⟩ := h
 refine ⟨(Nat.le_div_iff_mul_le (by omega)).2 ?_, Nat.mul_div_le _ _⟩
 have := Nat.mul_le_mul_right rows h1
 omega
theorem Shp.two {rows : Nat} (h : Shp 2 rows) : rows = 1 := by
 obtain ⟨h1, h2, _⟩ := h
 by_cases e : 2 <= rows
 ·have := Nat.mul_le_mul e e; omega
 ·omega
theorem gridL_len {g : G} {rows cols : Nat} : (gridL g rows cols).length = g.n := by simp [gridL]

open Go

structure Pl31 where
 marks : Int
 rule : Int
 draws : List Int
 kind : Int
 cells : Int

def Pl31.wrong (p : Pl31) : Int :=
 if ¬ (0 <= p.marks /\ p.marks <= 16) then 11 else if ¬ (p.rule = 0 \/ p.rule = 1) then 12 else if ¬ (p.kind = 0 \/ p.kind = 1 \/ p.kind = 2) then 13 else if ¬ (p.kind = 0 \/ (1 <= p.cells /\ p.cells <= 256)) then 14 else 0

def draw1 (xs : List Int) (n : Nat) : Int := match xs with
 | [] => 0
 | x :: _ => x.tmod n
def marksFar (g : G) (k : Nat) (xs : List Int) : List Nat := mgo g k 0 (List.range g.n) (cov g [draw1 xs g.n])
def marksOf (g : G) (p : Pl31) : List Nat := if p.rule = 0 then marksFar g p.marks.toNat p.draws else mksA g p.draws (min p.marks g.n).toNat

theorem mgo_nodup {g : G} : ∀ {k i : Nat} {left : List Nat} {c : List Int}, (mgo g k i left c).Nodup
 | 0, _, _, _ => List.nodup_nil
 | k + 1, i, left, c => by
  by_cases e : left = []
  ·subst e; exact List.nodup_nil
  ·rw [mgo_next e, List.nodup_cons]
   refine ⟨fun h => ?_, mgo_nodup⟩
   have := mgo_sub _ h
   have := (List.mem_filter.1 this).2
   simp at this

structure Mid (g : G) : Prop extends G.Right g where
 sm : Sm g
 short : g.arcs.length <= 84

theorem marksOf_facts {g : G} {p : Pl31} (hR : g.Right) (hn : Sm g) (h1 : 0 <= p.marks) (hx : ∀ x ∈ p.draws, 0 <= x) : (marksOf g p).Nodup /\ (∀ m ∈ marksOf g p, m < g.n) /\ ((marksOf g p).length : Int) = min p.marks g.n := by
 unfold marksOf
 split
 ·unfold marksFar
  refine ⟨mgo_nodup, fun m hm => List.mem_range.1 (mgo_sub _ hm), ?_⟩
  rw [mgo_len List.nodup_range, List.length_range]
  omega
 ·obtain ⟨a, b⟩ := mksA_ok hR hn hx (k := (min p.marks g.n).toNat) (by omega)
  exact ⟨a, b, by rw [mksA_len]; omega⟩

def CellsOf (g : G) (p : Pl31) (xs : List Int) : Prop := ∃ ys, xs = norm ys /\ ((p.kind = 1 /\ ∃ rows, Shp p.cells.toNat rows /\ ys = gridL g rows (p.cells.toNat / rows)) \/ (p.kind = 2 /\ ys = mapG g p.cells.toNat))

theorem norm_len {l : List Int} : (norm l).length = l.length := normGo_len

theorem CellsOf.facts {g : G} {p : Pl31} {xs : List Int} (hR : g.Right) (h1 : 1 <= p.cells) (H : CellsOf g p xs) : xs.length = g.n /\ norm xs = xs /\ 0 <= maxL xs /\ maxL xs < p.cells := by
 obtain ⟨ys, rfl, H⟩ := H
 have hpos := hR.pos
 have hlen : ys.length = g.n /\ ∀ z ∈ ys, 0 <= z /\ z < (p.cells.toNat : Int) := by
  rcases H with ⟨_, rows, hS, rfl⟩ | ⟨_, rfl⟩
  ·have hc := hS.cols
   refine ⟨gridL_len, fun z hz => ?_⟩
   have := gridL_rng hR hS.1 hc.1 hz
   omega
  ·refine ⟨mapG_len, fun z hz => ?_⟩
   obtain ⟨v, hv, e⟩ := List.mem_iff_getElem.1 hz
   rw [mapG_len] at hv
   obtain ⟨j, hj, hjc⟩ := mapG_rng (g := g) (c := p.cells.toNat) (by omega) hv
   rw [List.getElem?_eq_getElem (by rw [mapG_len]; exact hv), e] at hj
   have := Option.some.inj hj
   omega
 have hl : (norm ys).length = g.n := by rw [norm_len]; exact hlen.1
 have hne : norm ys ≠ [] := fun e => by rw [e] at hl; simp at hl; omega
 have hm := norm_rng hlen.2 (maxL_mem hne)
 exact ⟨hl, norm_norm, hm.1, by omega⟩

open Go

def setAll (cs : List Value) : List (Nat × Nat × Value) -> List Value
 | [] => cs
 | (off, _, v) :: r => setAll (cs.set off v) r

def onesB (n : Nat) : List (Nat × Nat × Value) -> Bool
 | [] => true
 | (off, size, _) :: r => Nat.beq size 1 && (Nat.blt off n && onesB n r)

theorem splice_set {cs : List Value} {off : Nat} {v : Value} (h : off < cs.length) (hv : v.cells = #[v]) : cs.take off ++ v.cells.toList ++ cs.drop (off + v.cells.size) = cs.set off v := by
 rw [hv, List.set_eq_take_append_cons_drop, if_pos h]; simp

theorem ones_of : ∀ {parts : List (Nat × Nat × Value)} {cs : List Value}, (∀ p ∈ parts, p.2.2.cells = #[p.2.2]) -> onesB cs.length parts = true -> sizesOk cs.length parts /\ spliceAll cs parts = setAll cs parts
 | [], _, _, _ => ⟨trivial, rfl⟩
 | (off, size, v) :: r, cs, h1, h2 => by
  simp only [onesB, Bool.and_eq_true] at h2
  have hs : size = 1 := Nat.eq_of_beq_eq_true h2.1
  have ho : off < cs.length := Nat.le_of_ble_eq_true h2.2.1
  have hv := h1 (off, size, v) (List.mem_cons_self ..)
  have ih := @ones_of r (cs.set off v) (fun p hp => h1 p (List.mem_cons_of_mem _ hp)) (by rw [List.length_set]; exact h2.2.2)
  rw [List.length_set] at ih
  refine ⟨⟨by rw [show v.cells = #[v] from hv, hs]; rfl, by omega, ih.1⟩, ?_⟩
  simp only [spliceAll, setAll]
  rw [splice_set ho hv]
  exact ih.2

theorem pBuild_ones {zero cs' : List Value} {parts : List (Nat × Nat × Value)} {K : Value -> Prop} (h1 : ∀ p ∈ parts, p.2.2.cells = #[p.2.2]) (h2 : onesB zero.length parts = true) (hcs : setAll zero parts = cs') (hk : K (.agg cs'.toArray)) : pBuild zero parts K := by
 have := ones_of h1 h2
 refine ⟨this.1, ?_⟩
 rw [this.2, hcs]; exact hk

open Go

section
variable {P : Program} {h0 h h' : Heap} {L : List Res} {i b off n : Nat}

theorem Own.comm : ∀ {L L' : List Res}, Own h0 h (L ++ L') -> Own h0 h (L' ++ L)
 | [], L', o => by rw [List.append_nil]; exact o
 | r :: L, L', o => by
  have o1 : Own h0 h ((L ++ L') ++ [r]) := Own.rot o
  rw [List.append_assoc] at o1
  have o2 := Own.comm o1
  rw [List.append_assoc] at o2
  exact o2

end
end Go.Mh
