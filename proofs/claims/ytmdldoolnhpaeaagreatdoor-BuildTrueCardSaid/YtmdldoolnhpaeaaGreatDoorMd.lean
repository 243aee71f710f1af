/- Texts of the proofs of seat YtmdldoolnhpaeaaGreatDoor, joined: Grid, Plan, Build, OwnP, OwnD, OwnX, Defer2, OwnO, OwnF, CellM, Rev, Que, Bits, Disk, ViewA, ViewB, Seek, Seek2, ViewC, ViewD, ViewX. They have no conditions of their own. -/
import Derived.Test.YtmdldoolnhpaeaaGreatDoorMc
import Derived.Test.YtmdldoolnhpaeaaGreatDoorMb
import Derived.OpenShut
set_option linter.unusedVariables false
set_option linter.unusedSimpArgs false
set_option linter.unusedSectionVars false

namespace Go.Mh
open Go

structure EndsE where
 lo : Int
 hi : Int
 any : Bool
def withE (e : EndsE) (x : Int) : EndsE := if e.any then ⟨min e.lo x, max e.hi x, true⟩ else ⟨x, x, true⟩
def endsOf (l : List Int) : EndsE := l.foldl withE ⟨0, 0, false⟩

theorem ends_go : ∀ {l : List Int} {e : EndsE} {a b : Int}, (∀ x ∈ l, a <= x /\ x <= b) -> (e.any = true -> a <= e.lo /\ e.lo <= e.hi /\ e.hi <= b) ->
  ((l.foldl withE e).any = true -> a <= (l.foldl withE e).lo /\ (l.foldl withE e).lo <= (l.foldl withE e).hi /\ (l.foldl withE e).hi <= b) /\
  (∀ x ∈ l, (l.foldl withE e).lo <= x /\ x <= (l.foldl withE e).hi) /\ (e.any = true -> (l.foldl withE e).lo <= e.lo /\ e.hi <= (l.foldl withE e).hi /\ (l.foldl withE e).any = true) /\ (l ≠ [] -> (l.foldl withE e).any = true)
 | [], e, a, b, _, he => ⟨he, (fun _ h => by cases h), fun h => ⟨Int.le_refl _, Int.le_refl _, h⟩, fun h => absurd rfl h⟩
 | y :: l, e, a, b, hl, he => by
  have hy := hl y List.mem_cons_self
  have hw : (withE e y).any = true /\ (withE e y).lo <= y /\ y <= (withE e y).hi /\ a <= (withE e y).lo /\ (withE e y).hi <= b /\ (e.any = true -> (withE e y).lo <= e.lo /\ e.hi <= (withE e y).hi) := by
   unfold withE
   cases h : e.any with
   | true =>
    have := he h
    simp only [if_true]
    refine ⟨trivial, ?_, ?_, ?_, ?_, fun _ => ⟨?_, ?_⟩⟩ <;> omega
   | false =>
    simp only [Bool.false_eq_true, if_false]
    refine ⟨trivial, Int.le_refl _, Int.le_refl _, hy.1, hy.2, fun h => by cases h⟩
  obtain ⟨w1, w2, w3, w4, w5, w6⟩ := hw
  obtain ⟨h1, h2, h3, _⟩ := ends_go (l := l) (e := withE e y) (a := a) (b := b) (fun x hx => hl x (List.mem_cons_of_mem _ hx)) fun _ => ⟨w4, by omega, w5⟩
  have h3' := h3 w1
  rw [List.foldl_cons]
  refine ⟨h1, fun x hx => ?_, fun h => ?_, fun _ => h3'.2.2⟩
  ·rcases List.mem_cons.1 hx with rfl | hx
   ·omega
   ·exact h2 x hx
  ·have := w6 h
   exact ⟨by omega, by omega, h3'.2.2⟩

theorem ends_of {l : List Int} {a b : Int} (hl : ∀ x ∈ l, a <= x /\ x <= b) (hne : l ≠ []) : a <= (endsOf l).lo /\ (endsOf l).hi <= b /\ (endsOf l).lo <= (endsOf l).hi /\ ∀ x ∈ l, (endsOf l).lo <= x /\ x <= (endsOf l).hi := by
 obtain ⟨h1, h2, _, h4⟩ := ends_go (l := l) (e := ⟨0, 0, false⟩) hl (fun h => by cases h)
 have := h1 (h4 hne)
 exact ⟨this.1, this.2.2, this.2.1, h2⟩

def partOf (e : EndsE) (many : Nat) (x : Int) : Int := (x - e.lo) * many / (e.hi - e.lo + 1)
theorem part_rng {e : EndsE} {many : Nat} {x : Int} (h1 : e.lo <= x) (h2 : x <= e.hi) (hm : 1 <= many) : 0 <= partOf e many x /\ partOf e many x < many := by
 unfold partOf
 have hd : 0 < e.hi - e.lo + 1 := by omega
 refine ⟨Int.ediv_nonneg (Int.mul_nonneg (by omega) (by omega)) (by omega), Int.ediv_lt_of_lt_mul hd ?_⟩
 rw [Int.mul_comm (many : Int)]
 exact Int.mul_lt_mul_of_pos_right (by omega) (by omega)

def gridL (g : G) (rows cols : Nat) : List Int := (List.range g.n).map fun v => partOf (endsOf g.Y) rows (g.Y.getD v 0) * cols + partOf (endsOf g.X) cols (g.X.getD v 0)

theorem gridL_rng {g : G} {rows cols : Nat} (hR : g.Right) (hr : 1 <= rows) (hc : 1 <= cols) {z : Int} (hz : z ∈ gridL g rows cols) : 0 <= z /\ z < (rows * cols : Nat) := by
 obtain ⟨v, hv, rfl⟩ := List.mem_map.1 hz
 have hv := List.mem_range.1 hv
 have hx : g.X.getD v 0 ∈ g.X := by
  rw [List.getD_eq_getElem?_getD, List.getElem?_eq_getElem (by rw [hR.x]; exact hv), Option.getD_some]; exact List.getElem_mem _
 have hy : g.Y.getD v 0 ∈ g.Y := by
  rw [List.getD_eq_getElem?_getD, List.getElem?_eq_getElem (by rw [hR.y]; exact hv), Option.getD_some]; exact List.getElem_mem _
 obtain ⟨_, _, _, hxx⟩ := ends_of hR.xr (List.ne_nil_of_mem hx)
 obtain ⟨_, _, _, hyy⟩ := ends_of hR.yr (List.ne_nil_of_mem hy)
 have p1 := part_rng (hxx _ hx).1 (hxx _ hx).2 hc
 have p2 := part_rng (hyy _ hy).1 (hyy _ hy).2 hr
 generalize partOf (endsOf g.Y) rows (g.Y.getD v 0) = a at p2
 generalize partOf (endsOf g.X) cols (g.X.getD v 0) = b at p1
 obtain ⟨a, rfl⟩ := Int.eq_ofNat_of_zero_le p2.1
 obtain ⟨b, rfl⟩ := Int.eq_ofNat_of_zero_le p1.1
 have := Nat.mul_le_mul_right cols (show a + 1 <= rows by omega)
 rw [Nat.add_mul] at this
 have e : (a : Int) * cols + b = ((a * cols + b : Nat) : Int) := by rw [Int.natCast_add, Int.natCast_mul]
 rw [e]
 omega

def Shp (cells rows : Nat) : Prop := 1 <= rows /\ rows * rows <= cells /\ cells < (rows + 1) * (rows + 1)
theorem Shp.cols {cells rows : Nat} (h : Shp cells rows) : 1 <= cells / rows /\ rows * (cells / rows) <= cells := by
 obtain ⟨h1, h2, h3⟩ := h
 refine ⟨(Nat.le_div_iff_mul_le (by omega)).2 ?_, Nat.mul_div_le _ _⟩
 have := Nat.mul_le_mul_right rows h1
 omega
theorem Shp.two {rows : Nat} (h : Shp 2 rows) : rows = 1 := by
 obtain ⟨h1, h2, _⟩ := h
 by_cases e : 2 <= rows
 ·have := Nat.mul_le_mul e e; omega
 ·omega
theorem gridL_len {g : G} {rows cols : Nat} : (gridL g rows cols).length = g.n := by simp [gridL]

open Go

structure Pl31 where
 marks : Int
 rule : Int
 draws : List Int
 kind : Int
 cells : Int

def Pl31.wrong (p : Pl31) : Int :=
 if ¬ (0 <= p.marks /\ p.marks <= 16) then 11 else if ¬ (p.rule = 0 \/ p.rule = 1) then 12 else if ¬ (p.kind = 0 \/ p.kind = 1 \/ p.kind = 2) then 13 else if ¬ (p.kind = 0 \/ (1 <= p.cells /\ p.cells <= 256)) then 14 else 0

def draw1 (xs : List Int) (n : Nat) : Int := match xs with
 | [] => 0
 | x :: _ => x.tmod n
def marksFar (g : G) (k : Nat) (xs : List Int) : List Nat := mgo g k 0 (List.range g.n) (cov g [draw1 xs g.n])
def marksOf (g : G) (p : Pl31) : List Nat := if p.rule = 0 then marksFar g p.marks.toNat p.draws else mksA g p.draws (min p.marks g.n).toNat

theorem mgo_nodup {g : G} : ∀ {k i : Nat} {left : List Nat} {c : List Int}, (mgo g k i left c).Nodup
 | 0, _, _, _ => List.nodup_nil
 | k + 1, i, left, c => by
  by_cases e : left = []
  ·subst e; exact List.nodup_nil
  ·rw [mgo_next e, List.nodup_cons]
   refine ⟨fun h => ?_, mgo_nodup⟩
   have := mgo_sub _ h
   have := (List.mem_filter.1 this).2
   simp at this

theorem marksOf_facts {g : G} {p : Pl31} (hR : g.Right) (hn : g.n <= 16) (h1 : 0 <= p.marks) (hx : ∀ x ∈ p.draws, 0 <= x) : (marksOf g p).Nodup /\ (∀ m ∈ marksOf g p, m < g.n) /\ ((marksOf g p).length : Int) = min p.marks g.n := by
 unfold marksOf
 split
 ·unfold marksFar
  refine ⟨mgo_nodup, fun m hm => List.mem_range.1 (mgo_sub _ hm), ?_⟩
  rw [mgo_len List.nodup_range, List.length_range]
  omega
 ·obtain ⟨a, b⟩ := mksA_ok hR hn hx (k := (min p.marks g.n).toNat) (by omega)
  exact ⟨a, b, by rw [mksA_len]; omega⟩

def CellsOf (g : G) (p : Pl31) (xs : List Int) : Prop := ∃ ys, xs = norm ys /\ ((p.kind = 1 /\ ∃ rows, Shp p.cells.toNat rows /\ ys = gridL g rows (p.cells.toNat / rows)) \/ (p.kind = 2 /\ ys = mapG g p.cells.toNat))

theorem norm_len {l : List Int} : (norm l).length = l.length := normGo_len

theorem CellsOf.facts {g : G} {p : Pl31} {xs : List Int} (hR : g.Right) (h1 : 1 <= p.cells) (H : CellsOf g p xs) : xs.length = g.n /\ norm xs = xs /\ 0 <= maxL xs /\ maxL xs < p.cells := by
 obtain ⟨ys, rfl, H⟩ := H
 have hpos := hR.pos
 have hlen : ys.length = g.n /\ ∀ z ∈ ys, 0 <= z /\ z < (p.cells.toNat : Int) := by
  rcases H with ⟨_, rows, hS, rfl⟩ | ⟨_, rfl⟩
  ·have hc := hS.cols
   refine ⟨gridL_len, fun z hz => ?_⟩
   have := gridL_rng hR hS.1 hc.1 hz
   omega
  ·refine ⟨mapG_len, fun z hz => ?_⟩
   obtain ⟨v, hv, e⟩ := List.mem_iff_getElem.1 hz
   rw [mapG_len] at hv
   obtain ⟨j, hj, hjc⟩ := mapG_rng (g := g) (c := p.cells.toNat) (by omega) hv
   rw [List.getElem?_eq_getElem (by rw [mapG_len]; exact hv), e] at hj
   have := Option.some.inj hj
   omega
 have hl : (norm ys).length = g.n := by rw [norm_len]; exact hlen.1
 have hne : norm ys ≠ [] := fun e => by rw [e] at hl; simp at hl; omega
 have hm := norm_rng hlen.2 (maxL_mem hne)
 exact ⟨hl, norm_norm, hm.1, by omega⟩

open Go

def setAll (cs : List Value) : List (Nat × Nat × Value) -> List Value
 | [] => cs
 | (off, _, v) :: r => setAll (cs.set off v) r

def onesB (n : Nat) : List (Nat × Nat × Value) -> Bool
 | [] => true
 | (off, size, _) :: r => Nat.beq size 1 && (Nat.blt off n && onesB n r)

theorem splice_set {cs : List Value} {off : Nat} {v : Value} (h : off < cs.length) (hv : v.cells = #[v]) : cs.take off ++ v.cells.toList ++ cs.drop (off + v.cells.size) = cs.set off v := by
 rw [hv, List.set_eq_take_append_cons_drop, if_pos h]; simp

theorem ones_of : ∀ {parts : List (Nat × Nat × Value)} {cs : List Value}, (∀ p ∈ parts, p.2.2.cells = #[p.2.2]) -> onesB cs.length parts = true -> sizesOk cs.length parts /\ spliceAll cs parts = setAll cs parts
 | [], _, _, _ => ⟨trivial, rfl⟩
 | (off, size, v) :: r, cs, h1, h2 => by
  simp only [onesB, Bool.and_eq_true] at h2
  have hs : size = 1 := Nat.eq_of_beq_eq_true h2.1
  have ho : off < cs.length := Nat.le_of_ble_eq_true h2.2.1
  have hv := h1 (off, size, v) (List.mem_cons_self ..)
  have ih := @ones_of r (cs.set off v) (fun p hp => h1 p (List.mem_cons_of_mem _ hp)) (by rw [List.length_set]; exact h2.2.2)
  rw [List.length_set] at ih
  refine ⟨⟨by rw [show v.cells = #[v] from hv, hs]; rfl, by omega, ih.1⟩, ?_⟩
  simp only [spliceAll, setAll]
  rw [splice_set ho hv]
  exact ih.2

theorem pBuild_ones {zero cs' : List Value} {parts : List (Nat × Nat × Value)} {K : Value -> Prop} (h1 : ∀ p ∈ parts, p.2.2.cells = #[p.2.2]) (h2 : onesB zero.length parts = true) (hcs : setAll zero parts = cs') (hk : K (.agg cs'.toArray)) : pBuild zero parts K := by
 have := ones_of h1 h2
 refine ⟨this.1, ?_⟩
 rw [this.2, hcs]; exact hk

open Go

section
variable {P : Program} {h0 h h' : Heap} {L : List Res} {i b off n : Nat}

theorem Own.comm : ∀ {L L' : List Res}, Own h0 h (L ++ L') -> Own h0 h (L' ++ L)
 | [], L', o => by rw [List.append_nil]; exact o
 | r :: L, L', o => by
  have o1 : Own h0 h ((L ++ L') ++ [r]) := Own.rot o
  rw [List.append_assoc] at o1
  have o2 := Own.comm o1
  rw [List.append_assoc] at o2
  exact o2

def IterP (P : Program) (fv : Value) {σ : Type} (Q : σ -> Heap -> Prop) (Pr0 : List Res) (s0 : σ) (next : σ -> List Value -> σ -> Prop) (stop : σ -> Prop) : Prop :=
 ∀ (yv : Value) (h0 h : Heap) (Rs : List Res) (K : Value -> Heap -> Prop) (J : σ -> List Res -> Prop) (E : List Res -> Prop), (∃ l, yv = yieldV l) ->
  Own h0 h (Rs ++ Pr0) -> J s0 Rs -> (∀ s Rs' h', J s Rs' -> Own h0 h' Rs' -> Q s h') ->
  (∀ s x s' Rs' Pr h' R, next s x s' -> J s Rs' -> Own h0 h' (Rs' ++ Pr) -> (∀ Rs'' h'', J s' Rs'' -> Own h0 h'' (Rs'' ++ Pr) -> R (.bool true) h'') ->
   (∀ Rs'' h'', E Rs'' -> Own h0 h'' (Rs'' ++ Pr) -> R (.bool false) h'') -> callV P yv x.toArray h' R) ->
  (∀ Rs' h', ((∃ s, stop s /\ J s Rs') \/ E Rs') -> Own h0 h' Rs' -> K (.tuple #[]) h') -> callF P fv #[yv] h K

theorem Own.rangeP {fv : Value} {Pr0 : List Res} {σ : Type} {Q : σ -> Heap -> Prop} {s0 : σ} {next : σ -> List Value -> σ -> Prop} {stop : σ -> Prop} {ps : List Nat} {B : Loop -> Vals ps -> Heap -> (Exit -> Heap -> Prop) -> Prop} {Kn Kr : Heap -> Prop} {Ks : List (Nat × (Heap -> Prop))}
  (o : Own h0 h (L ++ Pr0)) (hI : IterP P fv Q Pr0 s0 next stop) (hf : ∀ s x s', next s x s' -> x.length = ps.length) (J : σ -> List Res -> Prop) (Er : List Res -> Prop) (Ex : Nat -> List Res -> Prop)
  (j0 : J s0 L) (hQ : ∀ s Rs' h', J s Rs' -> Own h0 h' Rs' -> Q s h')
  (step : ∀ M s x s' Rs' Pr h' (R : Exit -> Heap -> Prop), next s x s' -> J s Rs' -> Own h0 h' (loopR (h.size + 1) (lo M .ready none) :: markR h.size :: (Rs' ++ Pr)) ->
   (∀ Rs'' h'', J s' Rs'' -> Own h0 h'' (loopR (h.size + 1) (lo M .busy none) :: markR h.size :: (Rs'' ++ Pr)) -> R .normal h'') ->
   (∀ Rs'' h'', Er Rs'' -> Own h0 h'' (loopR (h.size + 1) (lo M .busy none) :: markR h.size :: (Rs'' ++ Pr)) -> R .ret h'') ->
   (∀ id Rs'' h'', Ex id Rs'' -> Own h0 h'' (loopR (h.size + 1) (lo M .busy none) :: markR h.size :: (Rs'' ++ Pr)) -> R (.exit id) h'') -> B M (valsOf ps x) h' R)
  (fin : ∀ s h' Rs', stop s -> J s Rs' -> Own h0 h' (markR h.size :: Rs') -> Kn h') (finr : ∀ h' Rs', Er Rs' -> Own h0 h' (markR h.size :: Rs') -> Kr h')
  (finx : ∀ id h' Rs', Ex id Rs' -> Own h0 h' (markR h.size :: Rs') -> lookK Ks id h') :
  rangeH P fv ps (h.size + 1) (h.push (.deferred (some []))) B Kn Kr Ks := by
 intro M hy
 have e1 : (h.push (.deferred (some []))).size = h.size + 1 := push_size
 have o1 : Own h0 (h.push (.deferred (some []))) (markR h.size :: (L ++ Pr0)) := o.new (r := markR h.size) push_new fun b hb => hb
 have o2 : Own h0 ((h.push (.deferred (some []))).push (lo M .ready none)) (loopR (h.size + 1) (lo M .ready none) :: markR h.size :: (L ++ Pr0)) :=
  o1.new (r := loopR (h.size + 1) (lo M .ready none)) (by show (Array.push _ _)[h.size + 1]? = _; rw [<- e1, push_new]) fun b hb => hb.trans e1.symm
 refine hI (yieldV (h.size + 1)) h0 _ _ _ (fun s Rs => ∃ Rs1, Rs = loopR (h.size + 1) (lo M .ready none) :: markR h.size :: Rs1 /\ J s Rs1)
  (fun Rs => ∃ p Rs1, Rs = loopR (h.size + 1) (lo M .done (some p)) :: markR h.size :: Rs1 /\ ((p = .ret /\ Er Rs1) \/ ∃ id, p = .exit id /\ Ex id Rs1)) ⟨_, rfl⟩ o2 ⟨L, rfl, j0⟩
  (fun s Rs' h' ⟨Rs1, e, hj⟩ o' => hQ s Rs1 h' hj (by subst e; exact o'.tail.tail)) ?_ ?_
 ·rintro s x s' _ Pr h' R hn ⟨Rs1, rfl, hj⟩ o' hT hF
  have hb : h'[h.size + 1]? = some (lo M .ready none) := o'.get 0 rfl
  have := hy (valsOf ps x) h' R .ready none hb
  rw [listV_valsOf (hf _ _ _ hn)] at this
  refine this (step M s x s' Rs1 Pr h' _ hn hj o' ?_ ?_ ?_)
  ·intro Rs'' h'' hj' o''
   have hb' : h''[h.size + 1]? = some (lo M .busy none) := o''.get 0 rfl
   have hlt := get_lt hb'
   refine ⟨none, hb', hT (loopR (h.size + 1) (lo M .ready none) :: markR h.size :: Rs'') _ ⟨Rs'', rfl, hj'⟩ ?_⟩
   refine o''.set 0 (r' := loopR (h.size + 1) (lo M .ready none)) rfl (Upd.upd (S := (loopR (h.size + 1) (lo M .busy none)).F) h'' _ rfl) (upd_self hlt) fun c hc => ⟨.inl hc, ?_⟩
   rw [setIf_upd, upd_size]; exact (show c = h.size + 1 from hc) ▸ hlt
  ·intro Rs'' h'' hj' o''
   have hb' : h''[h.size + 1]? = some (lo M .busy none) := o''.get 0 rfl
   have hlt := get_lt hb'
   refine ⟨none, hb', hF (loopR (h.size + 1) (lo M .done (some .ret)) :: markR h.size :: Rs'') _ ⟨.ret, Rs'', rfl, .inl ⟨rfl, hj'⟩⟩ ?_⟩
   refine o''.set 0 (r' := loopR (h.size + 1) (lo M .done (some .ret))) rfl (Upd.upd (S := (loopR (h.size + 1) (lo M .busy none)).F) h'' _ rfl) (upd_self hlt) fun c hc => ⟨.inl hc, ?_⟩
   rw [setIf_upd, upd_size]; exact (show c = h.size + 1 from hc) ▸ hlt
  ·intro id Rs'' h'' hj' o''
   have hb' : h''[h.size + 1]? = some (lo M .busy none) := o''.get 0 rfl
   have hlt := get_lt hb'
   refine ⟨none, hb', hF (loopR (h.size + 1) (lo M .done (some (.exit id))) :: markR h.size :: Rs'') _ ⟨.exit id, Rs'', rfl, .inr ⟨id, rfl, hj'⟩⟩ ?_⟩
   refine o''.set 0 (r' := loopR (h.size + 1) (lo M .done (some (.exit id)))) rfl (Upd.upd (S := (loopR (h.size + 1) (lo M .busy none)).F) h'' _ rfl) (upd_self hlt) fun c hc => ⟨.inl hc, ?_⟩
   rw [setIf_upd, upd_size]; exact (show c = h.size + 1 from hc) ▸ hlt
 ·have close : ∀ {Rs1 : List Res} {h' : Heap} {st : LoopState} {p : Option Code}, Own h0 h' (loopR (h.size + 1) (lo M st p) :: markR h.size :: Rs1) -> Own h0 (upd h' (h.size + 1) (lo M .exhausted p)) (markR h.size :: Rs1) := by
   intro Rs1 h' st p o'
   have hb' : h'[h.size + 1]? = some (lo M st p) := o'.get 0 rfl
   have hlt := get_lt hb'
   exact (o'.set 0 (r' := nilR) rfl (Upd.upd (S := (loopR (h.size + 1) (lo M st p)).F) h' (lo M .exhausted p) rfl) trivial fun c hc => hc.elim).tail
  rintro Rs' h' (⟨s, hs, Rs1, rfl, hj⟩ | ⟨p, Rs1, rfl, hp⟩) o'
  ·exact ⟨.ready, none, by decide, o'.get 0 rfl, fin _ _ _ hs hj (close o')⟩
  ·refine ⟨.done, some p, by decide, o'.get 0 rfl, ?_⟩
   rcases hp with ⟨rfl, he⟩ | ⟨id, rfl, he⟩
   ·exact finr _ _ he (close o')
   ·exact finx _ _ _ he (close o')

end
open Go

theorem toList_eq (a : ByteArray) : a.toList = a.data.toList := by
 unfold ByteArray.toList
 have hsz : a.data.toList.length = a.size := Array.length_toList
 have key : ∀ (n i : Nat) (r : List UInt8), a.size - i = n -> ByteArray.toList.loop a i r = r.reverse ++ a.data.toList.drop i := by
  intro n
  induction n with
  | zero =>
   intro i r h
   unfold ByteArray.toList.loop
   rw [if_neg (by omega), List.drop_eq_nil_of_le (by omega), List.append_nil]
  | succ n ih =>
   intro i r h
   unfold ByteArray.toList.loop
   have hi : i < a.size := by omega
   rw [if_pos hi, ih (i + 1) _ (by omega)]
   have hi' : i < a.data.toList.length := by omega
   rw [List.drop_eq_getElem_cons hi', List.reverse_cons, List.append_assoc]
   congr 1
   have hd : i < a.data.size := by rw [<- Array.length_toList]; exact hi'
   simp [ByteArray.get!, getElem!_pos a.data i hd]
 simpa using key a.size 0 [] (by simp)

theorem toList_inj {a b : ByteArray} : a.toList = b.toList ↔ a = b := by
 rw [toList_eq, toList_eq]
 constructor
 ·intro h; cases a; cases b; simp at h; simpa using h
 ·rintro rfl; rfl

section
variable {K : Value -> Prop} {a b : ByteArray}
theorem pBin_eqlS : pBin .eql (.string a) (.string b) K ↔ K (.bool (decide (a = b))) := by
 have : (a.toList == b.toList) = decide (a = b) := by
  by_cases h : a = b
  ·subst h; simp
  ·rw [decide_eq_false h]; simpa [toList_inj] using h
 simp only [pBin, this]
theorem pBin_neqS : pBin .neq (.string a) (.string b) K ↔ K (.bool (!decide (a = b))) := by
 have : (a.toList == b.toList) = decide (a = b) := by
  by_cases h : a = b
  ·subst h; simp
  ·rw [decide_eq_false h]; simpa [toList_inj] using h
 simp only [pBin, this]
end

def sepR (l : List Res) : Res := ⟨fun b => ∃ r ∈ l, r.F b, fun h => (∀ r ∈ l, r.Q h) /\ ∀ {i j : Nat} {r s : Res}, l[i]? = some r -> l[j]? = some s -> i ≠ j -> ∀ b, r.F b -> ¬ s.F b,
 fun hs hq => ⟨fun r hr => r.st (fun b hb => hs b ⟨r, hr, hb⟩) (hq.1 r hr), hq.2⟩⟩

section
variable {h0 h h' : Heap} {L l : List Res} {i j : Nat} {r : Res}

theorem Own.out (o : Own h0 h L) (i : Nat) (hi : L[i]? = some (sepR l)) : Own h0 h (l ++ L.set i nilR) := by
 have hlt : i < L.length := (List.getElem?_eq_some_iff.1 hi).1
 have key : ∀ {j s}, (l ++ L.set i nilR)[j]? = some s -> (j < l.length /\ l[j]? = some s) \/ (l.length <= j /\ ((j - l.length = i /\ s = nilR) \/ (j - l.length ≠ i /\ L[j - l.length]? = some s))) := by
  intro j s hs
  by_cases h1 : j < l.length
  ·rw [List.getElem?_append_left h1] at hs; exact .inl ⟨h1, hs⟩
  ·rw [List.getElem?_append_right (by omega)] at hs
   refine .inr ⟨by omega, ?_⟩
   by_cases e : j - l.length = i
   ·rw [e, List.getElem?_set_self hlt] at hs
    exact .inl ⟨e, (Option.some.inj hs).symm⟩
   ·rw [List.getElem?_set_ne (fun e' => e e'.symm)] at hs
    exact .inr ⟨e, hs⟩
 have q := o.q hi
 refine ⟨o.ext, fun {k s} hs => ?_, fun {a c s t} hs ht hne b hb hb' => ?_⟩
 ·rcases key hs with ⟨_, hs⟩ | ⟨_, ⟨_, rfl⟩ | ⟨_, hs⟩⟩
  ·have hm := List.mem_of_getElem? hs
   exact ⟨q.1.1 s hm, fun b hb => q.2 b ⟨s, hm, hb⟩⟩
  ·exact ⟨trivial, fun b hb => hb.elim⟩
  ·exact o.q hs
 ·rcases key hs with ⟨h1, hs⟩ | ⟨h1, ⟨_, rfl⟩ | ⟨e1, hs⟩⟩ <;> rcases key ht with ⟨h2, ht⟩ | ⟨h2, ⟨_, rfl⟩ | ⟨e2, ht⟩⟩
  ·exact q.1.2 hs ht hne b hb hb'
  ·exact hb'
  ·exact o.ap hi ht (fun e => e2 e.symm) b ⟨s, List.mem_of_getElem? hs, hb⟩ hb'
  ·exact hb
  ·exact hb
  ·exact hb
  ·exact o.ap hi hs (fun e => e1 e.symm) b ⟨t, List.mem_of_getElem? ht, hb'⟩ hb
  ·exact hb'
  ·exact o.ap hs ht (by omega) b hb hb'

theorem Own.back (o : Own h0 h (l ++ L)) (i : Nat) (hi : L[i]? = some nilR) : Own h0 h (L.set i (sepR l)) := by
 have hlt : i < L.length := (List.getElem?_eq_some_iff.1 hi).1
 have kl : ∀ {j s}, l[j]? = some s -> (l ++ L)[j]? = some s := fun {j s} hj => by
  rw [List.getElem?_append_left (List.getElem?_eq_some_iff.1 hj).1]; exact hj
 have kr : ∀ {j s}, L[j]? = some s -> (l ++ L)[l.length + j]? = some s := fun {j s} hj => by
  rw [List.getElem?_append_right (by omega), show l.length + j - l.length = j by omega]; exact hj
 have key : ∀ {j s}, (L.set i (sepR l))[j]? = some s -> (j = i /\ s = sepR l) \/ (j ≠ i /\ L[j]? = some s) := by
  intro j s hs
  by_cases e : j = i
  ·subst e
   rw [List.getElem?_set_self hlt] at hs
   exact .inl ⟨rfl, (Option.some.inj hs).symm⟩
  ·rw [List.getElem?_set_ne (fun e' => e e'.symm)] at hs
   exact .inr ⟨e, hs⟩
 refine ⟨o.ext, fun {k s} hs => ?_, fun {a c s t} hs ht hne b hb hb' => ?_⟩
 ·rcases key hs with ⟨_, rfl⟩ | ⟨_, hs⟩
  ·refine ⟨⟨fun r hr => ?_, fun hi hj hne => o.ap (kl hi) (kl hj) hne⟩, fun b ⟨r, hr, hb⟩ => ?_⟩
   ·obtain ⟨k, hk⟩ := List.getElem?_of_mem hr
    exact (o.q (kl hk)).1
   ·obtain ⟨k, hk⟩ := List.getElem?_of_mem hr
    exact (o.q (kl hk)).2 b hb
  ·exact o.q (kr hs)
 ·rcases key hs with ⟨e1, rfl⟩ | ⟨e1, hs⟩ <;> rcases key ht with ⟨e2, rfl⟩ | ⟨e2, ht⟩
  ·exact hne (e1.trans e2.symm)
  ·obtain ⟨r, hr, hb⟩ := hb
   obtain ⟨k, hk⟩ := List.getElem?_of_mem hr
   have := (List.getElem?_eq_some_iff.1 hk).1
   exact o.ap (kl hk) (kr ht) (by omega) b hb hb'
  ·obtain ⟨r, hr, hb'⟩ := hb'
   obtain ⟨k, hk⟩ := List.getElem?_of_mem hr
   have := (List.getElem?_eq_some_iff.1 hk).1
   exact o.ap (kl hk) (kr hs) (by omega) b hb' hb
  ·exact o.ap (kr hs) (kr ht) (by omega) b hb hb'

theorem Own.sep (o : Own h0 h (l ++ L)) : Own h0 h (sepR l :: L) := by
 have o1 : Own h0 h ((l ++ L) ++ [nilR]) := Own.rot (o.cons (r := nilR) (.refl _ _) trivial fun b hb => hb.elim)
 have o2 : Own h0 h (l ++ (L ++ [nilR])) := by rwa [<- List.append_assoc]
 have o3 := o2.back L.length (by rw [List.getElem?_append_right (Nat.le_refl _), Nat.sub_self]; rfl)
 rw [List.set_append_right _ _ (Nat.le_refl _), Nat.sub_self] at o3
 exact Own.comm o3

end

def encB8 (b : UInt8) : List Value := [.int .u8 b.toNat]
theorem encB8_plain (x : UInt8) : ∀ u ∈ encB8 x, plainCell u = true := by intro u hu; simp [encB8] at hu; subst hu; rfl
theorem row_B8 : ∀ l : List UInt8, row encB8 l = l.map fun b => Value.int .u8 b.toNat
 | [] => rfl
 | b :: l => by
  have := row_B8 l
  simp only [row, List.flatMap_cons, List.map_cons, encB8] at this ⊢
  rw [this]; rfl

theorem pushB_B8 : ∀ (l : List UInt8) (s : ByteArray), pushB (row encB8 l) s = some ⟨s.data ++ l.toArray⟩
 | [], s => by simp [row, pushB]
 | b :: l, s => by
  have := pushB_B8 l (s.push b)
  rw [row_B8] at this ⊢
  simp only [List.map_cons, pushB]
  rw [show UInt8.ofNat ((b.toNat : Int)).toNat = b by simp]
  rw [this]
  simp [ByteArray.push]

def bstr (l : List UInt8) : ByteArray := ⟨l.toArray⟩

theorem Vw.str {h : Heap} {v : Value} {l : List UInt8} {K : Value -> Prop} (H : Vw encB8 1 h v l) (hK : K (.string (bstr l))) : pConvBS h v K := by
 obtain ⟨base, cap, rfl, hc⟩ := H.cells (enc := encB8) (n := 1) (fun _ => rfl)
 cases base with
 | none =>
  simp only [cellsOfSl] at hc
  have : l = [] := by
   cases l with
   | nil => rfl
   | cons a l => simp [row_B8] at hc
  subst this; exact hK
 | some a =>
  obtain ⟨b, o, sp⟩ := a
  cases sp with
  | some _ => simp [cellsOfSl] at hc
  | none =>
   simp only [cellsOfSl] at hc
   have e : pushB (row encB8 l) .empty = some (bstr l) := by
    rw [pushB_B8]
    show some (⟨#[] ++ l.toArray⟩ : ByteArray) = some ⟨l.toArray⟩
    rw [Array.empty_append]
   rw [Nat.mul_one] at hc
   simp only [pConvBS, hc, e]
   exact hK

open Go

section
variable {h0 h : Heap} {L X Y Z l : List Res} {r : Res} {j p : Nat}

theorem Own.sepAdd (o : Own h0 h (r :: L)) (hj : L[j]? = some (sepR l)) : Own h0 h (L.set j (sepR (l ++ [r]))) := by
 have hlt : j < L.length := (List.getElem?_eq_some_iff.1 hj).1
 have o1 : Own h0 h (l ++ (r :: L.set j nilR)) := o.out (j + 1) hj
 have e : l ++ (r :: L.set j nilR) = (l ++ [r]) ++ L.set j nilR := by simp
 rw [e] at o1
 have o2 := o1.back j (List.getElem?_set_self hlt)
 rwa [List.set_set] at o2

end
open Go

def deferPostR (P : Program) (rs : List ResultVar) (f : FuncId) (args : Array Value) (K : Value -> Heap -> Prop) : Exit -> VEnv -> List Nat -> Heap -> Prop
 | .ret, e, m, h => takeM m h fun h' => DeferS P f args h' fun h'' => resQ P e h'' rs fun l => K (oneOr l) h''
 | _, _, _, _ => False

def thenDeferIf (P : Program) (n : Nat) (c : Operand) (B : Code) (annB : Ann) (C : Code) (annC : Ann) (rs : List ResultVar) (s : Tmp) (f : FuncId) (caps : List Operand) (K : Value -> Heap -> Prop) : Exit -> VEnv -> List Nat -> Heap -> Prop
 | .normal, e, [], h => (match knownO e c with
  | true => ifV (ev e c) (match knownL e caps, Nat.blt s n with
   | true, true => compile P n false B annB ((s, .func (.func f) #[] (caps.map (ev e)).toArray) :: e) [] h (deferPostR P rs f (caps.map (ev e)).toArray K)
   | _, _ => False) (compile P n false C annC e [] h (fnPost P rs K))
  | false => False)
 | _, _, _, _ => False

def thenOn (P : Program) (n : Nat) (A : Code) (ann : Ann) (K : Exit -> VEnv -> List Nat -> Heap -> Prop) : Exit -> VEnv -> List Nat -> Heap -> Prop
 | .normal, e, [], h => compile P n false A ann e [] h K
 | _, _, _, _ => False

def cT : Code -> Code
 | .cond _ a _ => a
 | c => c

section
variable {P : Program}

theorem callsH_deferIf {f g : FuncId} {fn : Func} {A A' B C : Code} {annA annA' annB annC : Ann} {id : Nat} {o1 o2 : Oper} {s : Tmp} {co : Operand} {caps : Array Operand} {c : Call} {args : List Value} {h : Heap} {K : Value -> Heap -> Prop}
  (hf : P.funcs[f]? = some fn) (hb : fn.body = some (.seq A (.seq (.seq A' (.cond co (.seq (.region id #[o1, o2] false) B) .skip)) C))) (hcal : Callable P f = true) (hm : P.follows .mixedOrders = true) (hlen : args.length <= fn.ntmps)
  (h1 : o1.op = .makeFunc (.func g) #[] caps) (hd1 : o1.dst = some s) (hg1 : o1.guard = none) (h2 : o2.op = .defer c) (hc : c.callee = .value (.tmp s)) (hca : c.args = #[]) (hd2 : o2.dst = none) (hg2 : o2.guard = none)
  (hq : compile P fn.ntmps false A annA (argE args 0) [] h (thenOn P fn.ntmps A' annA' (thenDeferIf P fn.ntmps co B annB C annC fn.results.toList s g caps.toList K))) : CallsH P f args.toArray h K := by
 refine ⟨hcal, fun w hw => ?_⟩
 refine callsIn_of_wp_marks hf hb trivial ?_
 have hrel : Rel (argE args 0) (args.toArray ++ Array.replicate (fn.ntmps - args.toArray.size) undef) := by
  intro s v hs
  obtain ⟨_, h2⟩ := look_argE hs
  rw [Nat.sub_zero] at h2
  have hlt : s < args.length := (List.getElem?_eq_some_iff.1 h2).1
  rw [Array.getElem?_append_left (by simpa using hlt)]
  simpa using h2
 have hsz : (args.toArray ++ Array.replicate (fn.ntmps - args.toArray.size) undef).size = fn.ntmps := by simp; omega
 refine wpIn_seq ?_
 refine compile_sound A annA none _ [] h _ hq hm [] _ w _ hrel hsz rfl hw ?_
 intro ex e' m' a' w' hr' hn' hd' hs' _ _ hk
 cases ex <;> try exact hk.elim
 cases m' with
 | cons D m => exact hk.elim
 | nil =>
 show (Code.seq _ C).wpIn Fence.wide 0 P _ a' w'
 refine wpIn_seq (wpIn_seq ?_)
 refine compile_sound A' annA' none _ [] w'.heap _ hk hm [] _ w' _ hr' hn' hd' rfl ?_
 intro ex1 e1 m1 a1 w1 hr1 hn1 hd1' hs1 _ _ hk1
 cases ex1 <;> try exact hk1.elim
 cases m1 with
 | cons D m => exact hk1.elim
 | nil =>
 simp only [thenDeferIf] at hk1
 split at hk1
 ·rename_i hkc
  have he : a1.eval co = ev e1 co := by rw [eval_evA, hr1.ev hkc]
  unfold ifV at hk1
  split at hk1
  ·rename_i hv
   refine wpIn_cond_true (he.trans hv) ?_
   split at hk1
   ·rename_i hkn hsn
    have hsn : s < fn.ntmps := Nat.le_of_ble_eq_true hsn
    refine wpIn_seq ?_
    refine wpIn_defer (ro := none) rfl h1 hd1 hg1 h2 hc hca hd2 hg2 (by rw [hn1]; exact hsn) ?_
    have hev : caps.map (evA a1.tmps) = (caps.toList.map (ev e1)).toArray := by
     apply Array.ext'
     rw [Array.toList_map]
     apply List.map_congr_left
     intro x hx
     exact (hr1.ev (knownL_mem hkn x hx)).symm
    have hd0 : a1.defers = [] := hd1'
    rw [hev, hd0]
    have hr2 : Rel ((s, .func (.func g) #[] (caps.toList.map (ev e1)).toArray) :: e1) (putA a1.tmps (some s) (.func (.func g) #[] (caps.toList.map (ev e1)).toArray)) :=
     hr1.put (dst := some s) (by rw [hn1]; simpa [dstOk] using hsn)
    refine compile_sound B annB none _ [] w1.heap _ hk1 hm [{ target := .fn (.func g) (caps.toList.map (ev e1)).toArray, args := #[] }] _ w1 _ hr2 (by rw [putA_size]; exact hn1) rfl rfl ?_
    intro ex2 e2 m2 a2 w2 hr3 hn3 hd3 hs3 _ _ hk2
    have fin : takeM m2 w2.heap (fun h' => DeferS P g (caps.toList.map (ev e1)).toArray h' fun h'' => resQ P e2 h'' fn.results.toList fun l => K (oneOr l) h'') ->
      LeavesInM Fence.wide 0 P fn a2.tmps (fun e w' => ∃ v, e = .returned v /\ Same w w' /\ K v w'.heap) a2.defers .returning w2 := by
     intro hk
     rw [hd3]
     refine leaves_defer (dargs := #[]) (w0 := w2) hr3 (fun v w'' hs'' hk'' => ⟨v, rfl, ((hs'.trans hs1).trans hs3).trans hs'', hk''⟩) m2 w2 (.refl _) ?_
     simpa using hk
    cases ex2 <;> try exact hk2.elim
    exact fin hk2
   ·exact hk1.elim
  ·rename_i hv
   refine wpIn_cond_false (he.trans hv) (wpIn_skip ?_)
   show C.wpIn Fence.wide 0 P _ a1 w1
   refine compile_sound C annC none _ [] w1.heap _ hk1 hm [] _ w1 _ hr1 hn1 hd1' rfl ?_
   intro ex2 e2 m2 a2 w2 hr3 hn3 hd3 hs3 _ _ hk2
   have fin : takeM m2 w2.heap (fun h' => resQ P e2 h' fn.results.toList fun l => K (oneOr l) h') ->
     LeavesInM Fence.wide 0 P fn a2.tmps (fun e w' => ∃ v, e = .returned v /\ Same w w' /\ K v w'.heap) a2.defers .returning w2 := by
    intro hk
    rw [hd3, List.append_nil]
    exact leaves_of hr3 (fun v w'' hs'' hk'' => ⟨v, rfl, ((hs'.trans hs1).trans hs3).trans hs'', hk''⟩) m2 w2 (.refl _) hk
   cases ex2 <;> try exact hk2.elim
   ·exact fin hk2
   ·exact fin hk2
  ·exact hk1.elim
 ·exact hk1.elim

def plainPost (P : Program) (rs : List ResultVar) (K : Value -> Heap -> Prop) : Exit -> VEnv -> List Nat -> Heap -> Prop
 | .normal, e, [], h | .ret, e, [], h => resQ P e h rs fun l => K (oneOr l) h
 | _, _, _, _ => False

theorem deferS_of {f : FuncId} {fn : Func} {c : Code} {ann : Ann} {args : List Value} {h : Heap} {K : Heap -> Prop} (hf : P.funcs[f]? = some fn) (hb : fn.body = some c)
  (hcal : Callable P f = true) (hm : P.follows .mixedOrders = true) (hlen : args.length <= fn.ntmps)
  (hc : compile P fn.ntmps false c ann (argE args 0) [] h (plainPost P fn.results.toList fun _ h' => K h')) : DeferS P f args.toArray h K := by
 refine ⟨hcal, fun w hw => ?_⟩
 have hrel : Rel (argE args 0) (args.toArray ++ Array.replicate (fn.ntmps - args.toArray.size) undef) := by
  intro s v hs
  obtain ⟨_, h2⟩ := look_argE hs
  rw [Nat.sub_zero] at h2
  have hlt : s < args.length := (List.getElem?_eq_some_iff.1 h2).1
  rw [Array.getElem?_append_left (by simpa using hlt)]
  simpa using h2
 have hsz : (args.toArray ++ Array.replicate (fn.ntmps - args.toArray.size) undef).size = fn.ntmps := by simp; omega
 refine (callsDIn_of_wp (R := fun e w' => ∃ v, e = .returned v /\ Same w w' /\ K w'.heap) hf hb trivial ?_).mono fun e u w' ⟨hu, v, he, hs, hk⟩ => ⟨v, he, hu, hs, hk⟩
 refine compile_sound c ann none _ [] h _ hc hm [] _ w _ hrel hsz rfl hw ?_
 intro ex e' m' a' w' hr' hn' hd' hs' _ _ hk
 have fin : m' = [] -> resQ P e' w'.heap fn.results.toList (fun l => K w'.heap) -> a'.defers = [] /\ ∃ v, (results fn a'.tmps).run P w' = .ok v w' /\ ∃ v', Ending.returned v = .returned v' /\ Same w w' /\ K w'.heap := by
  intro hm' hk3
  subst hm'
  obtain ⟨l, hl, hk4⟩ := results_sound hr' hk3
  exact ⟨hd', _, rdS_run hl w' rfl, _, rfl, hs', hk4⟩
 cases ex <;> try exact hk.elim
 ·cases m' with
  | nil => exact fin rfl hk
  | cons _ _ => exact hk.elim
 ·cases m' with
  | nil => exact fin rfl hk
  | cons _ _ => exact hk.elim

end
open Go

section
variable {P : Program} {h0 h h' : Heap} {L : List Res} {i b off n : Nat}

def IterO (P : Program) (fv : Value) {σ : Type} (Q : Heap -> Prop) (s0 : σ) (next : σ -> List Value -> Res -> σ -> Prop) (stop : σ -> Prop) : Prop :=
 ∀ (yv : Value) (h0 h : Heap) (Rs : List Res) (K : Value -> Heap -> Prop) (J : σ -> List Res -> Prop) (E : List Res -> Prop), (∃ l, yv = yieldV l) ->
  Own h0 h Rs -> J s0 Rs -> (∀ s Rs' h', J s Rs' -> Own h0 h' Rs' -> Q h') ->
  (∀ s x X s' Rs' Pr h' R, next s x X s' -> J s Rs' -> Own h0 h' (X :: (Rs' ++ Pr)) -> (∀ Rs'' h'', J s' Rs'' -> Own h0 h'' (Rs'' ++ Pr) -> R (.bool true) h'') ->
   (∀ Rs'' h'', E Rs'' -> Own h0 h'' (Rs'' ++ Pr) -> R (.bool false) h'') -> callV P yv x.toArray h' R) ->
  (∀ Rs' h', ((∃ s, stop s /\ J s Rs') \/ E Rs') -> Own h0 h' Rs' -> K (.tuple #[]) h') -> callF P fv #[yv] h K

theorem Own.rangeO {fv : Value} {σ : Type} {Q : Heap -> Prop} {s0 : σ} {next : σ -> List Value -> Res -> σ -> Prop} {stop : σ -> Prop} {ps : List Nat} {B : Loop -> Vals ps -> Heap -> (Exit -> Heap -> Prop) -> Prop} {Kn Kr : Heap -> Prop} {Ks : List (Nat × (Heap -> Prop))}
  (o : Own h0 h L) (hI : IterO P fv Q s0 next stop) (hf : ∀ s x X s', next s x X s' -> x.length = ps.length) (J : σ -> List Res -> Prop) (Er : List Res -> Prop) (Ex : Nat -> List Res -> Prop)
  (j0 : J s0 L) (hQ : ∀ s Rs' h', J s Rs' -> Own h0 h' Rs' -> Q h')
  (step : ∀ M s x X s' Rs' Pr h' (R : Exit -> Heap -> Prop), next s x X s' -> J s Rs' -> Own h0 h' (loopR (h.size + 1) (lo M .ready none) :: X :: markR h.size :: (Rs' ++ Pr)) ->
   (∀ Rs'' h'', J s' Rs'' -> Own h0 h'' (loopR (h.size + 1) (lo M .busy none) :: markR h.size :: (Rs'' ++ Pr)) -> R .normal h'') ->
   (∀ Rs'' h'', Er Rs'' -> Own h0 h'' (loopR (h.size + 1) (lo M .busy none) :: markR h.size :: (Rs'' ++ Pr)) -> R .ret h'') ->
   (∀ id Rs'' h'', Ex id Rs'' -> Own h0 h'' (loopR (h.size + 1) (lo M .busy none) :: markR h.size :: (Rs'' ++ Pr)) -> R (.exit id) h'') -> B M (valsOf ps x) h' R)
  (fin : ∀ s h' Rs', stop s -> J s Rs' -> Own h0 h' (markR h.size :: Rs') -> Kn h') (finr : ∀ h' Rs', Er Rs' -> Own h0 h' (markR h.size :: Rs') -> Kr h')
  (finx : ∀ id h' Rs', Ex id Rs' -> Own h0 h' (markR h.size :: Rs') -> lookK Ks id h') :
  rangeH P fv ps (h.size + 1) (h.push (.deferred (some []))) B Kn Kr Ks := by
 intro M hy
 have e1 : (h.push (.deferred (some []))).size = h.size + 1 := push_size
 have o1 : Own h0 (h.push (.deferred (some []))) (markR h.size :: L) := o.new (r := markR h.size) push_new fun b hb => hb
 have o2 : Own h0 ((h.push (.deferred (some []))).push (lo M .ready none)) (loopR (h.size + 1) (lo M .ready none) :: markR h.size :: L) :=
  o1.new (r := loopR (h.size + 1) (lo M .ready none)) (by show (Array.push _ _)[h.size + 1]? = _; rw [<- e1, push_new]) fun b hb => hb.trans e1.symm
 refine hI (yieldV (h.size + 1)) h0 _ _ _ (fun s Rs => ∃ Rs1, Rs = loopR (h.size + 1) (lo M .ready none) :: markR h.size :: Rs1 /\ J s Rs1)
  (fun Rs => ∃ p Rs1, Rs = loopR (h.size + 1) (lo M .done (some p)) :: markR h.size :: Rs1 /\ ((p = .ret /\ Er Rs1) \/ ∃ id, p = .exit id /\ Ex id Rs1)) ⟨_, rfl⟩ o2 ⟨L, rfl, j0⟩
  (fun s Rs' h' ⟨Rs1, e, hj⟩ o' => hQ s Rs1 h' hj (by subst e; exact o'.tail.tail)) ?_ ?_
 ·rintro s x X s' _ Pr h' R hn ⟨Rs1, rfl, hj⟩ o' hT hF
  have o' : Own h0 h' (loopR (h.size + 1) (lo M .ready none) :: X :: markR h.size :: (Rs1 ++ Pr)) := Own.swap o'
  have hb : h'[h.size + 1]? = some (lo M .ready none) := o'.get 0 rfl
  have := hy (valsOf ps x) h' R .ready none hb
  rw [listV_valsOf (hf _ _ _ _ hn)] at this
  refine this (step M s x X s' Rs1 Pr h' _ hn hj o' ?_ ?_ ?_)
  ·intro Rs'' h'' hj' o''
   have hb' : h''[h.size + 1]? = some (lo M .busy none) := o''.get 0 rfl
   have hlt := get_lt hb'
   refine ⟨none, hb', hT (loopR (h.size + 1) (lo M .ready none) :: markR h.size :: Rs'') _ ⟨Rs'', rfl, hj'⟩ ?_⟩
   refine o''.set 0 (r' := loopR (h.size + 1) (lo M .ready none)) rfl (Upd.upd (S := (loopR (h.size + 1) (lo M .busy none)).F) h'' _ rfl) (upd_self hlt) fun c hc => ⟨.inl hc, ?_⟩
   rw [setIf_upd, upd_size]; exact (show c = h.size + 1 from hc) ▸ hlt
  ·intro Rs'' h'' hj' o''
   have hb' : h''[h.size + 1]? = some (lo M .busy none) := o''.get 0 rfl
   have hlt := get_lt hb'
   refine ⟨none, hb', hF (loopR (h.size + 1) (lo M .done (some .ret)) :: markR h.size :: Rs'') _ ⟨.ret, Rs'', rfl, .inl ⟨rfl, hj'⟩⟩ ?_⟩
   refine o''.set 0 (r' := loopR (h.size + 1) (lo M .done (some .ret))) rfl (Upd.upd (S := (loopR (h.size + 1) (lo M .busy none)).F) h'' _ rfl) (upd_self hlt) fun c hc => ⟨.inl hc, ?_⟩
   rw [setIf_upd, upd_size]; exact (show c = h.size + 1 from hc) ▸ hlt
  ·intro id Rs'' h'' hj' o''
   have hb' : h''[h.size + 1]? = some (lo M .busy none) := o''.get 0 rfl
   have hlt := get_lt hb'
   refine ⟨none, hb', hF (loopR (h.size + 1) (lo M .done (some (.exit id))) :: markR h.size :: Rs'') _ ⟨.exit id, Rs'', rfl, .inr ⟨id, rfl, hj'⟩⟩ ?_⟩
   refine o''.set 0 (r' := loopR (h.size + 1) (lo M .done (some (.exit id)))) rfl (Upd.upd (S := (loopR (h.size + 1) (lo M .busy none)).F) h'' _ rfl) (upd_self hlt) fun c hc => ⟨.inl hc, ?_⟩
   rw [setIf_upd, upd_size]; exact (show c = h.size + 1 from hc) ▸ hlt
 ·have close : ∀ {Rs1 : List Res} {h' : Heap} {st : LoopState} {p : Option Code}, Own h0 h' (loopR (h.size + 1) (lo M st p) :: markR h.size :: Rs1) -> Own h0 (upd h' (h.size + 1) (lo M .exhausted p)) (markR h.size :: Rs1) := by
   intro Rs1 h' st p o'
   have hb' : h'[h.size + 1]? = some (lo M st p) := o'.get 0 rfl
   have hlt := get_lt hb'
   exact (o'.set 0 (r' := nilR) rfl (Upd.upd (S := (loopR (h.size + 1) (lo M st p)).F) h' (lo M .exhausted p) rfl) trivial fun c hc => hc.elim).tail
  rintro Rs' h' (⟨s, hs, Rs1, rfl, hj⟩ | ⟨p, Rs1, rfl, hp⟩) o'
  ·exact ⟨.ready, none, by decide, o'.get 0 rfl, fin _ _ _ hs hj (close o')⟩
  ·refine ⟨.done, some p, by decide, o'.get 0 rfl, ?_⟩
   rcases hp with ⟨rfl, he⟩ | ⟨id, rfl, he⟩
   ·exact finr _ _ he (close o')
   ·exact finx _ _ _ he (close o')

end
open Go

variable {α : Type} {enc : α -> List Value} {n m p v : Nat} {T : TypeId} {h0 h : Heap} {L : List Res}

def upF {β : Type} (f : Nat -> β) (p : Nat) (x : β) : Nat -> β := fun v => if v = p then x else f v
theorem upF_same {β : Type} {f : Nat -> β} {x : β} : upF f p x p = x := if_pos rfl
theorem upF_ne {β : Type} {f : Nat -> β} {x : β} (h : v ≠ p) : upF f p x v = f v := if_neg h

def famR (enc : α -> List Value) (n : Nat) (T : TypeId) (kv : Nat -> Value) (ks : Nat -> List α) (m : Nat) : List Res := (List.range m).map fun v => slR enc n T (kv v) (ks v)
theorem famR_get {kv : Nat -> Value} {ks : Nat -> List α} (hv : v < m) : (famR enc n T kv ks m)[v]? = some (slR enc n T (kv v) (ks v)) := by simp [famR, hv]
theorem famR_set {kv : Nat -> Value} {ks : Nat -> List α} {w : Value} {ys : List α} : (famR enc n T kv ks m).set p (slR enc n T w ys) = famR enc n T (upF kv p w) (upF ks p ys) m := by
 apply List.ext_getElem?
 intro i
 by_cases hi : i < m
 ·by_cases e : i = p
  ·subst e
   rw [List.getElem?_set_self (by simp [famR, hi]), famR_get hi, upF_same, upF_same]
  ·rw [List.getElem?_set_ne (fun h => e h.symm), famR_get hi, famR_get hi, upF_ne e, upF_ne e]
 ·rw [List.getElem?_eq_none (by simp [famR]; omega), List.getElem?_eq_none (by simp [famR]; omega)]

theorem Own.fam0 (o : Own h0 h L) : Own h0 h (famR enc n T (fun _ => .slice none 0 0) (fun _ => ([] : List α)) m ++ L) := by
 unfold famR
 generalize List.range m = r
 induction r with
 | nil => exact o
 | cons a r ih => exact ih.nilS

theorem Own.vwm {w : Value} {xs : List α} (o : Own h0 h L) (hm : slR enc n T w xs ∈ L) : Vw enc n h w xs := by
 obtain ⟨i, hi⟩ := List.getElem?_of_mem hm
 exact o.vw i hi

open Go

def nameF (ns : List Int) : Int -> Option Value := fun z => if z ∈ ns then some (.int .i64 (ns.idxOf z : Nat)) else none

theorem lk_mem {k : Int} : ∀ {t : List Ent}, (lk k t).isSome ↔ k ∈ t.map (·.1)
 | [] => by simp [lk]
 | x :: t => by
  unfold lk
  split
  ·rename_i h; simp [h]
  ·rename_i h
   rw [lk_mem (t := t), List.map_cons, List.mem_cons]
   exact ⟨.inr, fun h' => h'.resolve_left fun e => h e.symm⟩

theorem len_sub {α : Type} [DecidableEq α] : ∀ {l m : List α}, l.Nodup -> (∀ x ∈ l, x ∈ m) -> l.length <= m.length
 | [], _, _, _ => Nat.zero_le _
 | x :: l, m, hn, h => by
  have hx := h x List.mem_cons_self
  have h1 := List.nodup_cons.1 hn
  have := len_sub (l := l) (m := m.erase x) h1.2 fun y hy => (List.mem_erase_of_ne (fun e => h1.1 (by rw [<- e]; exact hy))).2 (h y (List.mem_cons_of_mem _ hy))
  rw [List.length_erase_of_mem hx] at this
  have : 0 < m.length := List.length_pos_of_mem hx
  rw [List.length_cons]; omega

theorem nameF_len {es : Array MapEntry} {c : Nat} {ns : List Int} (H : IMap es c (nameF ns)) (hn : ns.Nodup) : es.size = ns.length := by
 obtain ⟨t, ht, hf⟩ := H
 have hk : ∀ z, z ∈ t.map (·.1) ↔ z ∈ ns := fun z => by
  rw [<- lk_mem, <- hf z]
  unfold nameF
  split <;> simp [*]
 have h1 := len_sub ht.keys fun z hz => (hk z).1 hz
 have h2 := len_sub hn fun z hz => (hk z).2 hz
 have : es.toList.length = t.length := by rw [ht.ents, List.length_map]
 rw [List.length_map] at h1 h2
 rw [Array.length_toList] at this
 omega

theorem nameF_add {ns : List Int} {z : Int} (hz : z ∉ ns) (x : Int) : nameF (ns ++ [z]) x = fset (nameF ns) z (.int .i64 (ns.length : Nat)) x := by
 show (if x ∈ ns ++ [z] then some (Value.int .i64 ((ns ++ [z]).idxOf x : Nat)) else none) = if x = z then some (Value.int .i64 (ns.length : Nat)) else if x ∈ ns then some (Value.int .i64 (ns.idxOf x : Nat)) else none
 by_cases e : x = z
 ·subst e
  rw [if_pos (by simp), if_pos rfl, List.idxOf_append, if_neg hz]
  simp
 ·rw [if_neg e]
  by_cases hx : x ∈ ns
  ·rw [if_pos (by simp [hx]), if_pos hx, List.idxOf_append, if_pos hx]
  ·rw [if_neg (by simp [hx, e]), if_neg hx]

open Go
theorem normGo_append : ∀ {l ns r : List Int}, normGo ns (l ++ r) = normGo ns l ++ normGo (nms ns l) r
 | [], _, _ => rfl
 | z :: l, ns, r => by
  rw [List.cons_append, normGo, normGo, normGo_append, List.cons_append]; rfl
theorem nms_append {ns l r : List Int} : nms ns (l ++ r) = nms (nms ns l) r := by unfold nms; rw [List.foldl_append]
theorem nms_len : ∀ {l ns : List Int}, (nms ns l).length <= ns.length + l.length
 | [], _ => Nat.le_refl _
 | z :: l, ns => by
  have := nms_len (l := l) (ns := addN ns z)
  have h2 : (addN ns z).length <= ns.length + 1 := by
   unfold addN; split <;> simp
  show (nms (addN ns z) l).length <= _
  rw [List.length_cons]; omega
open Go
theorem set_same {α : Type} {L : List α} {i : Nat} {r : α} (hi : L[i]? = some r) : L.set i r = L := by
 apply List.ext_getElem?
 intro j
 rw [List.getElem?_set]
 split
 ·rename_i e; subst e; rw [hi]; simp [(List.getElem?_eq_some_iff.1 hi).1]
 ·rfl

def rv (xs : List Int) (k : Nat) : List Int := (List.range xs.length).map fun m => if m < k \/ xs.length - k <= m then xs.getD (xs.length - 1 - m) 0 else xs.getD m 0
theorem rv_len {xs : List Int} {k : Nat} : (rv xs k).length = xs.length := by simp [rv]
theorem rv_get {xs : List Int} {k m : Nat} (h : m < (rv xs k).length) : (rv xs k)[m] = if m < k \/ xs.length - k <= m then xs.getD (xs.length - 1 - m) 0 else xs.getD m 0 := by simp [rv]
theorem rv_zero {xs : List Int} : rv xs 0 = xs := by
 apply List.ext_getElem rv_len
 intro m h1 h2
 rw [rv_get, if_neg (by omega), List.getD_eq_getElem?_getD, List.getElem?_eq_getElem h2]; rfl
theorem rv_done {xs : List Int} {k : Nat} (h : xs.length <= 2 * k + 1) : rv xs k = xs.reverse := by
 apply List.ext_getElem (by rw [rv_len, List.length_reverse])
 intro m h1 h2
 have h3 : m < xs.length := by rw [rv_len] at h1; exact h1
 rw [rv_get, List.getElem_reverse]
 split
 ·rw [List.getD_eq_getElem?_getD, List.getElem?_eq_getElem (by omega)]; rfl
 ·have e : xs.length - 1 - m = m := by omega
  rw [List.getD_eq_getElem?_getD, List.getElem?_eq_getElem h3]
  simp only [e, Option.getD_some]
theorem rv_step {xs : List Int} {k : Nat} (h : 2 * k + 1 < xs.length) :
  ((rv xs k).set k ((rv xs k)[xs.length - 1 - k]'(by rw [rv_len]; omega))).set (xs.length - 1 - k) ((rv xs k)[k]'(by rw [rv_len]; omega)) = rv xs (k + 1) := by
 apply List.ext_getElem (by simp [rv_len])
 intro m h1 h2
 have h3 : m < xs.length := by rw [rv_len] at h2; exact h2
 rw [List.getElem_set, rv_get h2]
 split
 ·rename_i e
  subst e
  rw [rv_get, if_neg (by omega), if_pos (by omega), show xs.length - 1 - (xs.length - 1 - k) = k by omega]
 ·rw [List.getElem_set]
  split
  ·rename_i e
   subst e
   rw [rv_get, if_neg (by omega), if_pos (by omega)]
  ·rw [rv_get]
   by_cases c : m < k \/ xs.length - k <= m
   ·rw [if_pos c, if_pos (by omega)]
   ·rw [if_neg c, if_neg (by omega)]
open Go

section
variable {α : Type} {enc : α -> List Value} {n : Nat} {T : TypeId} {h0 h h' : Heap} {v w : Value} {ys xs : List α} {K : Value -> Prop} {KH : Value -> Heap -> Prop} {k : IntKind} {i : Nat} {L : List Res}

theorem pSlice_mono {x : Value} {lo hi mx : Option Value} {K1 K2 : Value -> Prop} (h1 : pSlice n x lo hi mx K1) (h2 : ∀ v, K1 v -> K2 v) : pSlice n x lo hi mx K2 := by
 unfold pSlice at *
 split at h1
 ·split at h1
  ·rename_i e1 e2 e3
   exact ⟨h1.1, h1.2.1, h1.2.2.1, h1.2.2.2.1, h1.2.2.2.2.1, h2 _ h1.2.2.2.2.2⟩
  ·exact h1.elim
 ·exact h1.elim

theorem pSlice_all {β : Type} {x : Value} {lo hi mx : Option Value} {Q : β -> Prop} {K : β -> Value -> Prop} (b0 : β) (hb : Q b0) (h : ∀ b, Q b -> pSlice n x lo hi mx (K b)) : pSlice n x lo hi mx fun v => ∀ b, Q b -> K b v := by
 have h1 := h b0 hb
 unfold pSlice at h h1 ⊢
 split at h1
 ·split at h1
  ·rename_i e1 e2 e3
   simp only [e1, e2, e3] at h ⊢
   exact ⟨h1.1, h1.2.1, h1.2.2.1, h1.2.2.2.1, h1.2.2.2.2.1, fun b hb => (h b hb).2.2.2.2.2⟩
  ·exact h1.elim
 ·exact h1.elim

theorem Vw.subA {lo hi : Option Value} {a j : Nat} (he : ∀ a, (enc a).length = n) (H : Vw enc n h v ys) (hlo : bndOf 0 lo = some (a : Int)) (hhi : bndOf ys.length hi = some (j : Int)) (hij : a <= j) (hj : j <= ys.length)
  (hK : ∀ v', (∀ h', Vw enc n h' v ys -> Vw enc n h' v' ((ys.drop a).take (j - a))) -> K v') : pSlice n v lo hi none K :=
 pSlice_mono (pSlice_all (Q := fun h' => Vw enc n h' v ys) (K := fun h' v' => Vw enc n h' v' ((ys.drop a).take (j - a))) h H fun h' H' => H'.sub he hlo hhi hij hj fun v' h => h) fun v' h => hK v' h

def QuR (enc : α -> List Value) (n : Nat) (T : TypeId) (h : Heap) (v : Value) (ys : List α) : Prop :=
 (v = .slice none 0 0 /\ ys = []) \/ ∃ bl cap pre rest, v = .slice (some ⟨bl, pre.length, none⟩) ys.length cap /\ h[bl]? = some (.cells (pre ++ row enc ys ++ rest).toArray T (0, 0)) /\
  (cap - ys.length) * n <= rest.length /\ ys.length <= cap

def quR (enc : α -> List Value) (n : Nat) (T : TypeId) (v : Value) (ys : List α) : Res := ⟨blkOf v, fun h => QuR enc n T h v ys, fun {h h'} hs hq => by
 rcases hq with H | ⟨bl, cap, pre, rest, rfl, hb, a, c⟩
 ·exact .inl H
 ·exact .inr ⟨bl, cap, pre, rest, rfl, (hs bl rfl).trans hb, a, c⟩⟩

theorem Own.que (o : Own h0 h L) (i : Nat) (hi : L[i]? = some (slR enc n T v xs)) : Own h0 h (L.set i (quR enc n T v xs)) := by
 refine o.conv i hi ?_ fun b hb => hb
 obtain ⟨bl, H⟩ := o.get i hi
 rcases H with H | ⟨cap, rest, rfl, hb, a, c⟩
 ·exact .inl H
 ·exact .inr ⟨bl, cap, [], rest, rfl, hb, by omega, c⟩

theorem Own.qvw (o : Own h0 h L) (i : Nat) (hi : L[i]? = some (quR enc n T v ys)) : Vw enc n h v ys := by
 rcases o.get i hi with ⟨rfl, rfl⟩ | ⟨bl, cap, pre, rest, rfl, hb, a, c⟩
 ·exact .nil
 ·exact ⟨bl, _, cap, rfl, c, .inr ⟨_, pre, rest, T, _, rfl, hb, rfl⟩⟩

theorem Own.qtail {y : α} {hi' : Option Value} (o : Own h0 h L) (he : ∀ a, (enc a).length = n) (i : Nat) (hi : L[i]? = some (quR enc n T v (y :: ys))) (hh : hi' = none)
  (hK : ∀ v', Own h0 h (L.set i (quR enc n T v' ys)) -> K v') : pSlice n v (some (.int k 1)) hi' none K := by
 subst hh
 rcases o.get i hi with ⟨rfl, h⟩ | ⟨bl, cap, pre, rest, rfl, hb, a, c⟩
 ·cases h
 ·simp only [List.length_cons] at c a
  refine ⟨by simp, by simp, by simp; omega, by simp; omega, by simp, ?_⟩
  refine hK _ (o.conv i hi ?_ ?_)
  ·refine .inr ?_
   simp only [List.length_cons, Int.toNat_natCast]
   unfold slBase
   by_cases hc : cap = 1
   ·subst hc
    have : ys = [] := List.eq_nil_of_length_eq_zero (by omega)
    subst this
    refine ⟨bl, 0, pre, enc y ++ rest, by simp, by rw [hb]; simp [row], by simp, by simp⟩
   ·refine ⟨bl, cap - 1, pre ++ enc y, rest, ?_, by rw [hb]; simp [row], ?_, by omega⟩
    ·rw [if_neg (by simp; omega)]; simp [he]
    ·rw [show cap - 1 - ys.length = cap - (ys.length + 1) by omega]; exact a
  ·intro b hb'
   unfold slBase at hb'
   split at hb'
   ·exact hb'
   ·exact hb'

theorem Own.clearTail {xs : List Int} {j : Nat} {a : Int} (o : Own h0 h L) (i : Nat) (hi : L[i]? = some (slR encI 1 T v xs)) (hj : j <= xs.length)
  (hK : ∀ h', Own h0 h' (L.set i (slR encI 1 T v (xs.take j ++ List.replicate (xs.length - j) a))) -> KH (.tuple #[]) h') : pSlice 1 v (some (.int k j)) none none fun t => pClear [I a] t h KH := by
 have hrow : ∀ l : List Int, row encI l = l.map I := fun l => by
  induction l with
  | nil => rfl
  | cons a l ih => simp only [row, List.flatMap_cons, List.map_cons] at ih ⊢; rw [ih]; rfl
 have same : j = xs.length -> L.set i (slR encI 1 T v (xs.take j ++ List.replicate (xs.length - j) a)) = L := fun e => by
  subst e
  rw [List.take_length, Nat.sub_self, List.replicate_zero, List.append_nil]
  apply List.ext_getElem?
  intro q
  rw [List.getElem?_set]
  split
  ·rename_i e; subst e; rw [hi]; simp [(List.getElem?_eq_some_iff.1 hi).1]
  ·rfl
 obtain ⟨bl, H⟩ := o.get i hi
 rcases H with ⟨rfl, rfl⟩ | ⟨cap, rest, rfl, hb, hr, hle⟩
 ·have e0 : j = 0 := by simpa using hj
  subst e0
  refine ⟨by simp, by simp, by simp, by simp, by simp, ?_⟩
  have e : slBase 1 (Int.toNat ((0 : Nat) : Int)) (Int.toNat ((0 : Nat) : Int)) none = none := by simp [slBase]
  rw [e]
  show KH (.tuple #[]) h
  exact hK h (by rw [same rfl]; exact o)
 ·have hblt := get_lt hb
  refine ⟨by simp, by simp, by simp; omega, by simp; omega, by simp, ?_⟩
  simp only [Int.toNat_natCast]
  by_cases e : xs.length = j
  ·have hlen : xs.length - j = 0 := by omega
   have ho := hK h (by rw [same e.symm]; exact o)
   rw [hlen]
   unfold slBase
   split
   ·exact ho
   ·exact ho
  ·have hb2 : slBase 1 j cap (some ⟨bl, 0, none⟩) = some ⟨bl, j, none⟩ := by
    unfold slBase; rw [if_neg (by omega)]; simp
   rw [hb2]
   obtain ⟨q, hq⟩ : ∃ q, xs.length - j = q + 1 := ⟨xs.length - j - 1, by omega⟩
   rw [hq]
   show storeL h bl j (zerosL [I a] (q + 1)) (KH (.tuple #[]))
   rw [<- hq]
   have hz : zerosL [I a] (xs.length - j) = List.replicate (xs.length - j) (I a) := by simp [zerosL]
   rw [hz]
   refine storeL_of _ _ _ _ hb (by rw [List.length_append, hrow]; simp; omega) (fun u hu => by rw [List.eq_of_mem_replicate hu]; rfl) ?_
   have ov : over (row encI xs ++ rest) j (List.replicate (xs.length - j) (I a)) = row encI (xs.take j ++ List.replicate (xs.length - j) a) ++ rest := by
    rw [hrow, hrow]
    unfold over
    have hl : (List.map (fun x => I x) xs).length = xs.length := by simp
    rw [List.length_replicate, List.take_append_of_le_length (by rw [hl]; omega), show j + (xs.length - j) = (List.map (fun x => I x) xs).length by rw [hl]; omega, List.drop_left']
    ·simp [List.map_take]
    ·rfl
   rw [ov]
   refine hK _ (o.set i hi (Upd.upd _ _ rfl) ⟨bl, .inr ⟨cap, rest, by simp; omega, upd_self hblt, by simp; rw [hr]; congr 1; simp; omega, by simp; omega⟩⟩ fun b hb' => ⟨.inl hb', by rw [upd_size]; exact (show b = bl from hb') ▸ hblt⟩)

theorem Own.pre {j : Nat} (o : Own h0 h L) (he : ∀ a, (enc a).length = n) (i : Nat) (hi : L[i]? = some (slR enc n T v xs)) (hj : j <= xs.length)
  (hK : ∀ v', Own h0 h (L.set i (slR enc n T v' (xs.take j))) -> K v') : pSlice n v none (some (.int k j)) none K := by
 obtain ⟨bl, H⟩ := o.get i hi
 have H0 := H
 rcases H with ⟨rfl, rfl⟩ | ⟨cap, rest, rfl, hb, hr, hle⟩
 ·have : j = 0 := by simpa using hj
  subst this
  refine ⟨by simp, by simp, by simp, by simp, by simp, hK _ (o.conv i hi ⟨bl, ?_⟩ ?_)⟩
  ·exact .inl ⟨by simp [slBase], by simp⟩
  ·intro b hb; simp [slBase, slR, blkOf] at hb
 ·exact H0.pre he hj fun v' H' => hK v' (o.conv i hi ⟨bl, H'⟩ fun b hb => H'.blk hb)

theorem Own.qtail3 {y : α} {m : Int} {k' k'' : IntKind} (o : Own h0 h L) (he : ∀ a, (enc a).length = n) (i : Nat) (hi : L[i]? = some (quR enc n T v (y :: ys))) (hm : m = ys.length + 1)
  (hK : ∀ v', Own h0 h (L.set i (quR enc n T v' ys)) -> K v') : pSlice n v (some (.int k 1)) (some (.int k' m)) (some (.int k'' m)) K := by
 subst hm
 rcases o.get i hi with ⟨rfl, h⟩ | ⟨bl, cap, pre, rest, rfl, hb, a, c⟩
 ·cases h
 ·simp only [List.length_cons] at c a
  refine ⟨fun _ => rfl, by decide, by omega, Int.le_refl _, by omega, ?_⟩
  have e1 : (Int.toNat (1 : Int)) = 1 := rfl
  have e2 : ((ys.length : Int) + 1).toNat = ys.length + 1 := by omega
  rw [e1, e2, Nat.add_sub_cancel]
  refine hK _ (o.conv i hi ?_ ?_)
  ·refine .inr ?_
   unfold slBase
   by_cases hc : ys.length = 0
   ·have : ys = [] := List.eq_nil_of_length_eq_zero hc
    subst this
    refine ⟨bl, 0, pre, enc y ++ rest, by simp, by rw [hb]; simp [row], by simp, by simp⟩
   ·refine ⟨bl, ys.length, pre ++ enc y, rest, ?_, by rw [hb]; simp [row], by simp, Nat.le_refl _⟩
    rw [if_neg (by omega)]; simp [he]
  ·intro b hb'
   unfold slBase at hb'
   split at hb'
   ·exact hb'
   ·exact hb'

theorem Own.copyAll {x : Value} {xs ys : List α} (o : Own h0 h L) (i : Nat) (hi : L[i]? = some (slR enc n T v xs)) (he : ∀ a, (enc a).length = n) (hp : ∀ a, ∀ u ∈ enc a, plainCell u = true) (hx : Vw enc n h x ys) (hl : xs.length = ys.length)
  (hK : ∀ h', Own h0 h' (L.set i (slR enc n T v ys)) -> KH (.int .i64 ys.length) h') : pCopy n v x h KH := by
 obtain ⟨xb, xc, rfl, hcx⟩ := hx.cells he
 obtain ⟨bl, H⟩ := o.get i hi
 have H0 := H
 rcases H with ⟨rfl, rfl⟩ | ⟨cap, rest, rfl, hb, hr, hle⟩
 ·have : ys = [] := List.eq_nil_of_length_eq_zero hl.symm
  subst this
  unfold pCopy
  have : cellsOfSl h n (Nat.min ([] : List α).length 0) xb = some [] := by
   have e : (Nat.min ([] : List α).length 0) = ([] : List α).length := rfl
   rw [e, hcx]; rfl
  simp only [this]
  refine hK h ?_
  have : L.set i (slR enc n T (.slice none 0 0) []) = L := by
   apply List.ext_getElem?
   intro q
   rw [List.getElem?_set]
   split
   ·rename_i e; subst e; rw [hi]; simp [(List.getElem?_eq_some_iff.1 hi).1]
   ·rfl
  rw [this]; exact o
 ·unfold pCopy
  have hmin : Nat.min ys.length xs.length = ys.length := by rw [hl]; exact Nat.min_self _
  simp only [hmin, hcx]
  have hz : (0 : Nat) = 0 * n := by simp
  rw [hz]
  refine o.storeRow i hi he hp H0 rfl (by omega) fun h' o' => hK h' ?_
  have e : xs.take 0 ++ ys ++ xs.drop (0 + ys.length) = ys := by
   rw [List.take_zero, List.nil_append, Nat.zero_add, List.drop_of_length_le (by omega), List.append_nil]
  rw [e] at o'
  exact o'

end
open Go

def mkB (k : Nat) : UInt8 := UInt8.ofNat (2 ^ k)
def getx (x : UInt8) (k : Nat) : Bool := (x &&& mkB k) != 0
def setx (x : UInt8) (k : Nat) : UInt8 := (x &&& ~~~mkB k) ||| mkB k

theorem u8_ind {P : UInt8 -> Prop} (h : ∀ x : Fin 256, P (UInt8.ofNat x.val)) (x : UInt8) : P x := by
 have := h ⟨x.toNat, x.toNat_lt⟩
 simpa using this

theorem mask_val : ∀ k : Fin 8, IntKind.u8.wrap (1 * 2 ^ (min (k.val : Int).toNat IntKind.u8.bits)) = ((mkB k.val).toNat : Int) := by decide +kernel
theorem andNot_val (x : UInt8) (k : Fin 8) : IntKind.u8.wrap (BitVec.ofInt IntKind.u8.bits (x.toNat : Int) &&& ~~~BitVec.ofInt IntKind.u8.bits ((mkB k.val).toNat : Int)).toNat = ((x &&& ~~~mkB k.val).toNat : Int) := by
 revert k; revert x; exact u8_ind (by decide +kernel)
theorem or_val (x : UInt8) (k : Fin 8) : IntKind.u8.wrap (BitVec.ofInt IntKind.u8.bits (x.toNat : Int) ||| BitVec.ofInt IntKind.u8.bits ((mkB k.val).toNat : Int)).toNat = ((x ||| mkB k.val).toNat : Int) := by
 revert k; revert x; exact u8_ind (by decide +kernel)
theorem and_val (x : UInt8) (k : Fin 8) : (IntKind.u8.wrap (BitVec.ofInt IntKind.u8.bits (x.toNat : Int) &&& BitVec.ofInt IntKind.u8.bits ((mkB k.val).toNat : Int)).toNat != 0) = getx x k.val := by
 revert k; revert x; exact u8_ind (by decide +kernel)
theorem getx_setx (x : UInt8) (k k' : Fin 8) : getx (setx x k.val) k'.val = (decide (k = k') || getx x k'.val) := by
 revert k k'; revert x; exact u8_ind (by decide +kernel)
theorem getx_zero (k : Fin 8) : getx 0 k.val = false := by revert k; decide

def getB (bs : List UInt8) (long row i : Nat) : Bool := getx (bs.getD (row * long + i / 8) 0) (i % 8)
def setB (bs : List UInt8) (long row i : Nat) : List UInt8 := bs.set (row * long + i / 8) (setx (bs.getD (row * long + i / 8) 0) (i % 8))

theorem setB_len {bs : List UInt8} {long row i : Nat} : (setB bs long row i).length = bs.length := by simp [setB]

theorem row_inj {long r r' q q' : Nat} (hq : q < long) (hq' : q' < long) (h : r * long + q = r' * long + q') : r = r' /\ q = q' := by
 rcases Nat.lt_trichotomy r r' with e | e | e
 ·have := Nat.mul_le_mul_right long (show r + 1 <= r' by omega)
  rw [Nat.add_mul] at this; omega
 ·subst e; omega
 ·have := Nat.mul_le_mul_right long (show r' + 1 <= r by omega)
  rw [Nat.add_mul] at this; omega

theorem row_lt {rows long r q : Nat} (hr : r < rows) (hq : q < long) : r * long + q < rows * long := by
 have := Nat.mul_le_mul_right long (show r + 1 <= rows by omega)
 rw [Nat.add_mul] at this; omega

theorem getB_setB {bs : List UInt8} {long r i r' i' : Nat} (hb : r * long + i / 8 < bs.length) (hi : i / 8 < long) (hi' : i' / 8 < long) :
  getB (setB bs long r i) long r' i' = (decide (r = r' /\ i = i') || getB bs long r' i') := by
 unfold getB setB
 by_cases e : r * long + i / 8 = r' * long + i' / 8
 ·obtain ⟨h1, h2⟩ := row_inj hi hi' e
  rw [List.getD_eq_getElem?_getD, <- e, List.getElem?_set_self hb, Option.getD_some]
  have := getx_setx (bs.getD (r * long + i / 8) 0) ⟨i % 8, by omega⟩ ⟨i' % 8, by omega⟩
  dsimp only at this
  rw [this]
  congr 1
  apply decide_eq_decide.2
  rw [Fin.mk.injEq]
  omega
 ·rw [List.getD_eq_getElem?_getD, List.getElem?_set_ne e, <- List.getD_eq_getElem?_getD]
  have : ¬ (r = r' /\ i = i') := fun ⟨h1, h2⟩ => e (by rw [h1, h2])
  rw [decide_eq_false this, Bool.false_or]

theorem getB_zero {m long r i : Nat} : getB (List.replicate m 0) long r i = false := by
 unfold getB
 have : (List.replicate m (0 : UInt8)).getD (r * long + i / 8) 0 = 0 := by
  rw [List.getD_eq_getElem?_getD, List.getElem?_replicate]
  split <;> rfl
 rw [this]
 exact getx_zero ⟨i % 8, by omega⟩

def setRow (bs : List UInt8) (long r : Nat) (l : List Nat) : List UInt8 := l.foldl (fun b i => setB b long r i) bs
theorem setRow_len : ∀ {l : List Nat} {bs : List UInt8} {long r : Nat}, (setRow bs long r l).length = bs.length
 | [], _, _, _ => rfl
 | i :: l, bs, long, r => by
  have := setRow_len (l := l) (bs := setB bs long r i) (long := long) (r := r)
  rw [setB_len] at this; exact this
theorem getB_setRow : ∀ {l : List Nat} {bs : List UInt8} {rows long r r' i' : Nat}, bs.length = rows * long -> r < rows -> (∀ i ∈ l, i / 8 < long) -> i' / 8 < long -> getB (setRow bs long r l) long r' i' = (decide (r = r' /\ i' ∈ l) || getB bs long r' i')
 | [], bs, rows, long, r, r', i', _, _, _, _ => by simp [setRow]
 | i :: l, bs, rows, long, r, r', i', hb, hr, hl, hi' => by
  have hi := hl i List.mem_cons_self
  have h1 := getB_setRow (l := l) (bs := setB bs long r i) (r' := r') (by rw [setB_len]; exact hb) hr (fun j hj => hl j (List.mem_cons_of_mem _ hj)) hi'
  have h2 := getB_setB (r' := r') (by rw [hb]; exact row_lt hr hi) hi hi'
  show getB (setRow (setB bs long r i) long r l) long r' i' = _
  rw [h1, h2]
  rw [<- Bool.or_assoc]
  congr 1
  rw [<- Bool.decide_or]
  apply decide_eq_decide.2
  rw [List.mem_cons]
  constructor
  ·rintro (⟨a, b⟩ | ⟨a, b⟩)
   ·exact ⟨a, .inr b⟩
   ·exact ⟨a, .inl b.symm⟩
  ·rintro ⟨a, b | b⟩
   ·exact .inr ⟨a, b.symm⟩
   ·exact .inl ⟨a, b⟩

def longB (w : Nat) : Nat := (w + 7) / 8
theorem longB_lt {w i : Nat} (h : i < w) : i / 8 < longB w := by unfold longB; omega

open Go

abbrev Nm := ByteArray

inductive Ch where
 | mk (a : Nm) (n : Nat)
 | ren (a b : Nm)
 | rem (a : Nm)
deriving DecidableEq

abbrev Dir := List (Nm × Nat)

def dlook : Dir -> Nm -> Option Nat
 | [], _ => none
 | x :: r, a => if x.1 = a then some x.2 else dlook r a
def ddel (D : Dir) (a : Nm) : Dir := D.filter fun x => !decide (x.1 = a)
def dset (D : Dir) (a : Nm) (n : Nat) : Dir := (a, n) :: ddel D a

def app (D : Dir) : Ch -> Dir
 | .mk a n => dset D a n
 | .ren a b => dset (ddel D a) b ((dlook D a).getD 0)
 | .rem a => ddel D a

open Go Go.ChangeShapes Go.WideShapes Go.ChangeAt Go.RowKit

section
variable {H : Type} {encD : TypeId × Value -> H} {P : Program} {w : World} {α : Type} {enc : α -> List Value} {ok : α -> Prop} {n : Nat} {e t : TypeId} {v : Value} {r : Reach} {base : Nat} {d : DataW H} {p : List MemPlace} {cs : List Value}

theorem view_at {fuel : Nat} {x0 : DataW H × List MemPlace} (he : ∀ a, (enc a).length = n) (ht : P.underlying t = some (.slice e)) (hn : P.cellsOf e = n) (hpos : 0 < n)
  (hdec : ∀ fuel cs x, DataW.trod encD P w 0 (fun _ => true) true fuel e cs = some x -> ∃ a, cs = enc a /\ ok a)
  (hf : DataW.trod encD P w 0 (fun _ => true) true fuel t [v] = some x0) (hsp0 : ∀ a l c, v = .slice (some a) l c -> a.spot = none) :
  ∃ bl xs, VwR enc n w.heap v bl xs /\ (∀ a ∈ xs, ok a) /\ xs.length <= maxLen := by
 rcases Go.Deep.open_slice ht hf with ⟨hc, _⟩ | ⟨a, len, cap, m, fuel', D, Pl, hc, _, hle, hmx, hm, _, hx⟩
 ·simp only [List.cons.injEq, and_true] at hc
  subst hc
  exact ⟨0, [], ⟨none, 0, rfl, Nat.le_refl _, .inl ⟨rfl, .inl rfl⟩⟩, by simp, by simp⟩
 ·simp only [List.cons.injEq, and_true] at hc
  subst hc
  have hsp := hsp0 a len cap rfl
  simp only [if_true] at hm
  subst hm
  have hall : ∀ i, i < len -> ∃ x : α, w.cells? 0 (a.add (i * n)) n = some (enc x) /\ ok x := by
   intro i hi
   obtain ⟨cs', h1, h2⟩ := hx i (by omega)
   obtain ⟨x, rfl, hok⟩ := hdec _ _ _ h2
   rw [hn] at h1
   exact ⟨x, h1, hok⟩
  obtain ⟨xs, hl, hxs⟩ := choose_list (Q := fun i x => w.cells? 0 (a.add (i * n)) n = some (enc x) /\ ok x) len hall
  refine ⟨a.block, xs, ?_, fun x hx' => ?_, by omega⟩
  ·refine ⟨some a, m, by rw [hl], by omega, ?_⟩
   have ha : a = ⟨a.block, a.off, none⟩ := by
    obtain ⟨b, o, s⟩ := a; simp only at hsp; subst hsp; rfl
   by_cases h0 : xs = []
   ·exact .inl ⟨h0, .inr ⟨_, _, by rw [<- ha]⟩⟩
   ·right
    have hlp : 0 < xs.length := List.length_pos_iff.2 h0
    have hcell : ∀ i (hi : i < xs.length) j, j < n -> w.cell? ⟨a.block, a.off + i * n + j, none⟩ = (enc xs[i])[j]? := by
     intro i hi j hj
     have h1 := (hxs i hi).1
     unfold World.cells? at h1
     rw [if_pos (Nat.zero_le _), add_plain hsp] at h1
     have := mapM_get h1 j j (by simp [hj])
     rw [add_plain rfl] at this
     exact this
    have h00 := hcell 0 hlp 0 hpos
    simp only [World.cell?] at h00
    have hblk : ∃ c T fz, w.heap[a.block]? = some (.cells c T fz) := by
     split at h00
     ·rename_i c T fz hb; exact ⟨c, T, fz, hb⟩
     ·rw [List.getElem?_eq_getElem (by rw [he]; exact hpos)] at h00; cases h00
    obtain ⟨c, T, fz, hb⟩ := hblk
    have hcc : ∀ i (hi : i < xs.length) j, j < n -> c[a.off + i * n + j]? = (enc xs[i])[j]? := by
     intro i hi j hj
     have := hcell i hi j hj
     simpa [World.cell?, hb] using this
    have hrl := row_length he xs
    have hmid : (c.toList.drop a.off).take (xs.length * n) = row enc xs := by
     apply List.ext_getElem?
     intro k
     by_cases hk : k < xs.length * n
     ·have hi : k / n < xs.length := (Nat.div_lt_iff_lt_mul hpos).2 hk
      have hj : k % n < n := Nat.mod_lt _ hpos
      have hkk : k / n * n + k % n = k := by rw [Nat.mul_comm]; exact Nat.div_add_mod k n
      have g := row_get he hi hj []
      rw [List.append_nil, hkk] at g
      rw [g, <- hcc _ hi _ hj, List.getElem?_take_of_lt hk, List.getElem?_drop, Nat.add_assoc, hkk]
      simp
     ·rw [List.getElem?_eq_none (by simp; omega), List.getElem?_eq_none (by omega)]
    have hsize : a.off + xs.length * n <= c.size := by
     have hi : xs.length - 1 < xs.length := by omega
     have h1 := hcc (xs.length - 1) hi (n - 1) (by omega)
     rw [List.getElem?_eq_getElem (by rw [he]; omega)] at h1
     have h2 := (Array.getElem?_eq_some_iff.1 h1).1
     have h3 : (xs.length - 1) * n + n = xs.length * n := by rw [<- Nat.succ_mul]; congr 1; omega
     omega
    refine ⟨a.off, c.toList.take a.off, c.toList.drop (a.off + xs.length * n), T, fz, by rw [<- ha], ?_, by simp; omega⟩
    rw [hb, <- hmid]
    have : c.toList.take a.off ++ (c.toList.drop a.off).take (xs.length * n) ++ c.toList.drop (a.off + xs.length * n) = c.toList := by
     rw [<- List.drop_drop, List.append_assoc, List.take_append_drop, List.take_append_drop]
    rw [this]
  ·obtain ⟨i, hi, rfl⟩ := List.mem_iff_getElem.1 hx'
   exact (hxs i hi).2

def Opn (encD : TypeId × Value -> H) (P : Program) (w : World) (t : TypeId) (cs : List Value) : Prop :=
 (∃ fuel x, DataW.trod encD P w 0 (fun _ => true) true fuel t cs = some x) /\ ∀ v ∈ cs, ∀ a l c, v = .slice (some a) l c -> a.spot = none

theorem cell_spot {a : Addr} {l c : Nat} (h : Cell.okWide P w r base t (.slice (some a) l c)) : a.spot = none := by
 unfold Cell.okWide at h
 cases hu : P.underlying t with
 | none => simp [hu, Cell.ok] at h
 | some u =>
  cases u <;> simp [hu, Cell.ok] at h
  exact h.2.2.2.1

def isAgg (P : Program) (t : TypeId) : Bool := match P.underlying t with
 | some (.struct _) | some (.array _ _) => true
 | _ => false

theorem agg_of (ha : isAgg P t = true) (hn : P.cellsOf t = n) (hv : Value.okWide P w r base t v) (hd : DataW.Trod encD P w 0 (fun _ => true) true t v d p) :
  ∃ cs : List Value, v = .agg cs.toArray /\ cs.length = n /\ Opn encD P w t cs := by
 have : ∃ cs, v = .agg cs /\ cs.size = P.cellsOf t /\ Row.okWide P w r base t cs := by
  unfold Value.okWide at hv
  unfold isAgg at ha
  split at hv
  ·exact hv
  ·exact hv
  ·rename_i h1 h2
   split at ha
   ·rename_i h3; exact absurd h3 (h1 _)
   ·rename_i h3; exact absurd h3 (h2 _ _)
   ·cases ha
 obtain ⟨cs, rfl, hs, ts, _, _, hc⟩ := this
 obtain ⟨fuel, hf⟩ := hd
 refine ⟨cs.toList, by simp, by simpa [hn] using hs, ⟨fuel, _, hf⟩, fun v hv a l c e => ?_⟩
 obtain ⟨i, hi⟩ := List.getElem?_of_mem hv
 obtain ⟨u, _, hu⟩ := hc i v (by simpa using hi)
 rw [e] at hu
 exact cell_spot hu

def fieldOf (P : Program) (t : TypeId) (i : Nat) : Option (TypeId × Nat) := match P.underlying t with
 | some (.struct fs) => fs.toList[i]?.map fun f => (f.type, f.offset)
 | _ => none

theorem Opn.field (O : Opn encD P w t cs) (i : Nat) {ft : TypeId} {off : Nat} {cs' : List Value} (hf : fieldOf P t i = some (ft, off)) (hn : P.cellsOf ft = n) (hcs : (cs.drop off).take n = cs') : Opn encD P w ft cs' := by
 obtain ⟨⟨fuel, x, h⟩, hs⟩ := O
 unfold fieldOf at hf
 split at hf
 ·rename_i fs ht
  obtain ⟨xs, m, rfl, _, _, _, hfs⟩ := DataW.trod_struct ht h
  simp only [Option.map_eq_some_iff] at hf
  obtain ⟨f, hi, e⟩ := hf
  injection e with e1 e2
  subst e1 e2 hn hcs
  refine ⟨⟨m, ?_⟩, fun v hv => hs v (List.mem_of_mem_drop (List.mem_of_mem_take hv))⟩
  have hh := hfs i f (by simpa using hi)
  obtain ⟨y, hy⟩ : ∃ y, xs[i]? = some y := by
   have : i < xs.length := by
    have := (List.getElem?_eq_some_iff.1 hi).1
    simp_all
   exact ⟨_, List.getElem?_eq_getElem this⟩
  exact ⟨y, by rw [hh, hy]⟩
 ·cases hf

theorem Opn.int {k : IntKind} (O : Opn encD P w t [v]) (ht : P.underlying t = some (.int k)) : ∃ a : Int, v = .int k a /\ k.min <= a /\ a <= k.max := by
 obtain ⟨⟨fuel, x, h⟩, _⟩ := O
 obtain ⟨a, e, r⟩ := dec_int ht _ _ _ h
 simp only [List.cons.injEq, and_true] at e
 exact ⟨a, e, r⟩

theorem Opn.view (he : ∀ a, (enc a).length = n) (O : Opn encD P w t [v]) (ht : P.underlying t = some (.slice e)) (hn : P.cellsOf e = n) (hpos : 0 < n)
  (hdec : ∀ fuel cs x, DataW.trod encD P w 0 (fun _ => true) true fuel e cs = some x -> ∃ a, cs = enc a /\ ok a) : ∃ bl xs, VwR enc n w.heap v bl xs /\ (∀ a ∈ xs, ok a) /\ xs.length <= maxLen := by
 obtain ⟨⟨fuel, x, h⟩, hs⟩ := O
 exact view_at he ht hn hpos hdec h (hs v (by simp))

theorem dec_bool (he : P.underlying e = some .bool) {sp : Nat -> Bool} : ∀ fuel cs x, DataW.trod encD P w 0 sp true fuel e cs = some x -> ∃ a : Bool, cs = [.bool a] /\ True := by
 intro fuel cs x h
 cases fuel with
 | zero => simp [DataW.trod] at h
 | succ m =>
  unfold DataW.trod at h
  rw [he] at h
  split at h <;> simp_all

theorem len6 {l : List Value} (h : l.length = 6) : ∃ a b c d e f, l = [a, b, c, d, e, f] := by match l, h with | [a, b, c, d, e, f], _ => exact ⟨a, b, c, d, e, f, rfl⟩
def encK (k : IntKind) (x : Int) : List Value := [.int k x]
end
open Go

structure SS where
 hp : List HP
 lab : List Int
 by_ : List Int
 ord : List Nat
 evs : List Ev

def SS.reach (p : Nat -> Int) (s : SS) (v : Nat) (a d : Int) : SS :=
 if v ∈ s.ord \/ far <= p v then s else match lookH s.hp v with
 | some was => if dAt s.lab v <= d then s else { s with hp := ((v : Int), d + p v) :: s.hp.erase ((v : Int), was), lab := s.lab.set v d, by_ := s.by_.set v a }
 | none => { s with hp := ((v : Int), d + p v) :: s.hp, lab := s.lab.set v d, by_ := s.by_.set v a }

def SS.ev (s : SS) (e : Ev) : SS := { s with evs := s.evs ++ [e] }
def SS.look (l : List A) (p : Nat -> Int) (mk : Nat -> Bool) (v : Nat) (s : SS) (i : Nat) : SS :=
 if mk i then (s.ev ⟨1, 0, i, 0⟩).reach p (arcAt l i).t i (dAt s.lab v + (arcAt l i).w) else s
def SS.scan (l : List A) (p : Nat -> Int) (mk : Nat -> Bool) (v : Nat) (s : SS) (ids : List Nat) : SS := ids.foldl (SS.look l p mk v) s
def SS.pop (s : SS) (v : Nat) (key : Int) : SS := { s with hp := s.hp.erase ((v : Int), key), ord := s.ord ++ [v], evs := s.evs ++ [⟨0, 0, v, dAt s.lab v⟩] }

def SS.run (l : List A) (p : Nat -> Int) (mk : Nat -> Bool) (outs : Nat -> List Nat) (to : Nat) : Nat -> SS -> SS × Bool
 | 0, s => (s, false)
 | k + 1, s => match least s.hp with
  | none => (s, false)
  | some q => if q.1.toNat = to then (s.pop q.1.toNat q.2, true) else SS.run l p mk outs to k ((s.pop q.1.toNat q.2).scan l p mk q.1.toNat (outs q.1.toNat))

def SS.zero (n : Nat) : SS := ⟨[], List.replicate n 0, List.replicate n (-1), [], []⟩
def SS.start (p : Nat -> Int) (n s : Nat) : SS := (SS.zero n).reach p s (-1) 0

theorem SS.reach_ord {p : Nat -> Int} {s : SS} {v : Nat} {a d : Int} : (s.reach p v a d).ord = s.ord /\ (s.reach p v a d).evs = s.evs := by
 unfold SS.reach
 split
 ·exact ⟨rfl, rfl⟩
 ·split
  ·split <;> exact ⟨rfl, rfl⟩
  ·exact ⟨rfl, rfl⟩

theorem dAt_setI {l : List Int} {v u : Nat} {d : Int} (hv : v < l.length) : dAt (l.set v d) u = if u = v then d else dAt l u := by
 unfold dAt
 rw [List.getD_eq_getElem?_getD, List.getD_eq_getElem?_getD]
 by_cases e : u = v
 ·subst e; rw [if_pos rfl, List.getElem?_set_self hv]; rfl
 ·rw [if_neg e, List.getElem?_set_ne (fun h => e h.symm)]

theorem SS.reach_lab {p : Nat -> Int} {s : SS} {v u : Nat} {a d : Int} (hv : v < s.lab.length) (hu : u ∈ s.ord) : dAt (s.reach p v a d).lab u = dAt s.lab u := by
 unfold SS.reach
 split
 ·rfl
 ·rename_i h
  have hne : u ≠ v := fun e => h (.inl (e ▸ hu))
  split
  ·split
   ·rfl
   ·rw [dAt_setI hv, if_neg hne]
  ·rw [dAt_setI hv, if_neg hne]

def ByOk (l : List A) (b : List Int) (pre : List Nat) (v : Nat) : Prop := b[v]? = some (-1) \/ ∃ a : Nat, b[v]? = some (a : Int) /\ a < l.length /\ (arcAt l a).t = v /\ (arcAt l a).f ∈ pre

structure SInv (l : List A) (n : Nat) (p : Nat -> Int) (B : Int) (s : SS) : Prop where
 ids : (s.hp.map (·.1)).Nodup
 ent : ∀ q ∈ s.hp, ∃ u : Nat, q.1 = u /\ u < n /\ u ∉ s.ord /\ q.2 = dAt s.lab u + p u /\ p u < far /\ ByOk l s.by_ s.ord u
 lo : ∀ v, v < n -> 0 <= dAt s.lab v /\ dAt s.lab v <= B
 ord : s.ord.Nodup
 ordr : ∀ v ∈ s.ord, v < n
 ll : s.lab.length = n
 bl : s.by_.length = n
 ch : ∀ pre v post, s.ord = pre ++ v :: post -> ByOk l s.by_ pre v

variable {l : List A} {n : Nat} {p : Nat -> Int} {B : Int} {s : SS}

theorem SInv.zero : SInv l n p 0 (SS.zero n) := by
 refine ⟨by simp [SS.zero], fun q hq => by simp [SS.zero] at hq, fun v hv => ?_, by simp [SS.zero], fun v hv => by simp [SS.zero] at hv, by simp [SS.zero], by simp [SS.zero], fun pre v post h => by simp [SS.zero] at h⟩
 have : dAt (SS.zero n).lab v = 0 := by simp [dAt, SS.zero, List.getD_eq_getElem?_getD, hv]
 omega

theorem SInv.mono {B' : Int} (H : SInv l n p B s) (h : B <= B') : SInv l n p B' s := { H with lo := fun v hv => ⟨(H.lo v hv).1, by have := (H.lo v hv).2; omega⟩ }
theorem SInv.ev (H : SInv l n p B s) (e : Ev) : SInv l n p B (s.ev e) := { H with }

theorem SInv.len (H : SInv l n p B s) : s.ord.length <= n := nodup_le H.ord H.ordr
theorem SInv.room (H : SInv l n p B s) (h : s.hp ≠ []) : s.ord.length < n := by
 obtain ⟨q, hq⟩ := List.exists_mem_of_ne_nil _ h
 obtain ⟨u, _, hu, hno, _⟩ := H.ent q hq
 have := nodup_le (n := n) (l := u :: s.ord) (List.nodup_cons.2 ⟨hno, H.ord⟩) (by
  intro x hx
  rcases List.mem_cons.1 hx with rfl | hx
  ·exact hu
  ·exact H.ordr x hx)
 simp at this; omega

theorem ByOk.set {b : List Int} {pre : List Nat} {u v : Nat} {a : Int} (h : ByOk l b pre u) (hne : u ≠ v) : ByOk l (b.set v a) pre u := by
 unfold ByOk at *
 rw [List.getElem?_set_ne (fun e => hne e.symm)]
 exact h
theorem ByOk.sub {b : List Int} {pre pre' : List Nat} {u : Nat} (h : ByOk l b pre u) (hs : ∀ x ∈ pre, x ∈ pre') : ByOk l b pre' u := by
 rcases h with h | ⟨a, h1, h2, h3, h4⟩
 ·exact .inl h
 ·exact .inr ⟨a, h1, h2, h3, hs _ h4⟩

theorem SInv.reach (H : SInv l n p B s) {v : Nat} {a d : Int} (hv : v < n) (h0 : 0 <= d) (hB : d <= B) (ha : a = -1 \/ ∃ i : Nat, a = i /\ i < l.length /\ (arcAt l i).t = v /\ (arcAt l i).f ∈ s.ord) : SInv l n p B (s.reach p v a d) := by
 unfold SS.reach
 split
 ·exact H
 ·rename_i hno
  have hnv : v ∉ s.ord := fun h => hno (.inl h)
  have hpv : p v < far := by have : ¬ far <= p v := fun h => hno (.inr h); omega
  have hby : ByOk l (s.by_.set v a) s.ord v := by
   unfold ByOk
   rw [List.getElem?_set_self (by rw [H.bl]; exact hv)]
   rcases ha with rfl | ⟨i, rfl, h1, h2, h3⟩
   ·exact .inl rfl
   ·exact .inr ⟨i, rfl, h1, h2, h3⟩
  have hlo : ∀ u, u < n -> 0 <= dAt (s.lab.set v d) u /\ dAt (s.lab.set v d) u <= B := fun u hu => by
   rw [dAt_setI (by rw [H.ll]; exact hv)]
   split
   ·exact ⟨h0, hB⟩
   ·exact H.lo u hu
  have hch : ∀ pre u post, s.ord = pre ++ u :: post -> ByOk l (s.by_.set v a) pre u := fun pre u post e =>
   (H.ch pre u post e).set fun e' => hnv (by rw [e, <- e']; simp)
  have keep : ∀ q ∈ s.hp, q.1 ≠ v -> ∃ u : Nat, q.1 = u /\ u < n /\ u ∉ s.ord /\ q.2 = dAt (s.lab.set v d) u + p u /\ p u < far /\ ByOk l (s.by_.set v a) s.ord u := fun q hq hne => by
   obtain ⟨u, e1, e2, e3, e4, e5, e6⟩ := H.ent q hq
   have : u ≠ v := fun e => hne (by rw [e1, e])
   exact ⟨u, e1, e2, e3, by rw [dAt_setI (by rw [H.ll]; exact hv), if_neg this]; exact e4, e5, e6.set this⟩
  have new : ∃ u : Nat, (((v : Int), d + p v) : HP).1 = u /\ u < n /\ u ∉ s.ord /\ (((v : Int), d + p v) : HP).2 = dAt (s.lab.set v d) u + p u /\ p u < far /\ ByOk l (s.by_.set v a) s.ord u :=
   ⟨v, rfl, hv, hnv, by rw [dAt_setI (by rw [H.ll]; exact hv), if_pos rfl], hpv, hby⟩
  split
  ·rename_i was hw
   split
   ·exact H
   ·have hm := lookH_some hw
    refine ⟨?_, fun q hq => ?_, hlo, H.ord, H.ordr, by simp [H.ll], by simp [H.bl], hch⟩
    ·simp only [List.map_cons, List.nodup_cons]
     refine ⟨fun hx => ?_, map_erase_sub.nodup H.ids⟩
     obtain ⟨q, hq, he⟩ := List.mem_map.1 hx
     exact not_mem_erase H.ids hm hq he
    ·rcases List.mem_cons.1 hq with rfl | hq
     ·exact new
     ·exact keep q (List.mem_of_mem_erase hq) fun e => not_mem_erase H.ids hm hq e
  ·rename_i hw
   rw [lookH_none] at hw
   refine ⟨?_, fun q hq => ?_, hlo, H.ord, H.ordr, by simp [H.ll], by simp [H.bl], hch⟩
   ·simp only [List.map_cons, List.nodup_cons]
    refine ⟨fun hx => ?_, H.ids⟩
    obtain ⟨q, hq, he⟩ := List.mem_map.1 hx
    exact hw q hq he
   ·rcases List.mem_cons.1 hq with rfl | hq
    ·exact new
    ·exact keep q hq (hw q hq)

theorem SInv.popped (H : SInv l n p B s) {v : Nat} {key : Int} (h : ((v : Int), key) ∈ s.hp) : SInv l n p B (s.pop v key) := by
 obtain ⟨u, hu, hun, hno, _, _, hby⟩ := H.ent _ h
 have hu : v = u := by simp at hu; omega
 subst hu
 refine ⟨map_erase_sub.nodup H.ids, fun q hq => ?_, H.lo, ?_, fun x hx => ?_, H.ll, H.bl, fun pre x post e => ?_⟩
 ·obtain ⟨w, h1, h2, h3, h4, h5, h6⟩ := H.ent q (List.mem_of_mem_erase hq)
  refine ⟨w, h1, h2, ?_, h4, h5, h6.sub fun x hx => List.mem_append_left _ hx⟩
  simp only [SS.pop, List.mem_append, List.mem_singleton]
  rintro (hx | rfl)
  ·exact h3 hx
  ·exact not_mem_erase H.ids h hq h1
 ·simp only [SS.pop]
  rw [List.nodup_append]
  refine ⟨H.ord, by simp, fun a ha b hb => ?_⟩
  simp at hb; subst hb
  exact fun e => hno (e ▸ ha)
 ·simp only [SS.pop, List.mem_append, List.mem_singleton] at hx
  rcases hx with hx | rfl
  ·exact H.ordr x hx
  ·exact hun
 ·have e : s.ord ++ [v] = pre ++ x :: post := e
  rcases List.eq_nil_or_concat post with rfl | ⟨post', y, rfl⟩
  ·have := List.append_inj' e rfl
   obtain ⟨rfl, e2⟩ := this
   injection e2 with e2 _
   subst e2
   exact hby
  ·rw [List.concat_eq_append, <- List.cons_append, <- List.append_assoc] at e
   exact H.ch pre x post' (List.append_inj' e rfl).1

theorem SInv.look (H : SInv l n p B s) (hh : ∀ a ∈ l, a.t < n /\ (a.w : Int) <= W) {mk : Nat -> Bool} {v i : Nat} (hi : i < l.length) (hv : (arcAt l i).f = v) (hvo : v ∈ s.ord) (hB : dAt s.lab v + W <= B) : SInv l n p B (SS.look l p mk v s i) := by
 unfold SS.look
 split
 ·have ha : arcAt l i ∈ l := by simp [arcAt, hi]
  have h1 := hh _ ha
  have h2 := H.lo v (H.ordr v hvo)
  exact (H.ev _).reach h1.1 (by omega) (by omega) (.inr ⟨i, rfl, hi, rfl, by rw [hv]; exact hvo⟩)
 ·exact H

theorem SS.look_ord {mk : Nat -> Bool} {v i : Nat} : (SS.look l p mk v s i).ord = s.ord := by
 unfold SS.look
 split
 ·exact SS.reach_ord.1
 ·rfl
theorem SS.look_lab (H : SInv l n p B s) (hh : ∀ a ∈ l, a.t < n /\ (a.w : Int) <= W) {mk : Nat -> Bool} {v i u : Nat} (hi : i < l.length) (hu : u ∈ s.ord) : dAt (SS.look l p mk v s i).lab u = dAt s.lab u := by
 unfold SS.look
 split
 ·have ha : arcAt l i ∈ l := by simp [arcAt, hi]
  exact SS.reach_lab (s := s.ev _) (by rw [show (s.ev ⟨1, 0, i, 0⟩).lab = s.lab from rfl, H.ll]; exact (hh _ ha).1) hu
 ·rfl

theorem SS.scan_facts (hh : ∀ a ∈ l, a.t < n /\ (a.w : Int) <= W) {mk : Nat -> Bool} {v : Nat} : ∀ {ids : List Nat} {s : SS}, SInv l n p B s -> (∀ i ∈ ids, i < l.length /\ (arcAt l i).f = v) -> v ∈ s.ord -> dAt s.lab v + W <= B ->
  SInv l n p B (s.scan l p mk v ids) /\ (s.scan l p mk v ids).ord = s.ord /\ ∀ u ∈ s.ord, dAt (s.scan l p mk v ids).lab u = dAt s.lab u
 | [], s, H, _, _, _ => ⟨H, rfl, fun _ _ => rfl⟩
 | i :: ids, s, H, hi, hvo, hB => by
  have h1 := hi i List.mem_cons_self
  have hl := SS.look_lab (p := p) (mk := mk) (v := v) H hh h1.1 hvo
  have ho : (SS.look l p mk v s i).ord = s.ord := SS.look_ord
  obtain ⟨a, b, c⟩ := SS.scan_facts hh (mk := mk) (ids := ids) (H.look hh (mk := mk) h1.1 h1.2 hvo hB) (fun j hj => hi j (List.mem_cons_of_mem _ hj)) (by rw [ho]; exact hvo) (by rw [hl]; exact hB)
  refine ⟨a, b.trans ho, fun u hu => (c u (by rw [ho]; exact hu)).trans (SS.look_lab H hh h1.1 hu)⟩

def Chain (l : List A) (b : List Int) : Nat -> List Nat -> Prop
 | v, [] => b[v]? = some (-1)
 | v, a :: r => b[v]? = some (a : Int) /\ a < l.length /\ Chain l b (arcAt l a).f r

theorem SInv.chain (H : SInv l n p B s) : ∀ (k : Nat) (pre post : List Nat) (v : Nat), pre.length <= k -> s.ord = pre ++ v :: post -> ∃ cs, Chain l s.by_ v cs /\ cs.length <= pre.length
 | k, pre, post, v, hk, e => by
  rcases H.ch pre v post e with h | ⟨a, h1, h2, h3, h4⟩
  ·exact ⟨[], h, Nat.zero_le _⟩
  ·obtain ⟨pre', post', e'⟩ := List.append_of_mem h4
   cases k with
   | zero =>
    have : pre = [] := List.length_eq_zero_iff.1 (by omega)
    rw [this] at h4; cases h4
   | succ k =>
    obtain ⟨cs, c1, c2⟩ := H.chain k pre' (post' ++ v :: post) (arcAt l a).f (by rw [e'] at hk; simp at hk; omega) (by rw [e, e']; simp)
    refine ⟨a :: cs, ⟨h1, h2, c1⟩, ?_⟩
    rw [e']; simp; omega

open Go

theorem SInv.hplen {l : List A} {n : Nat} {p : Nat -> Int} {B : Int} {s : SS} (H : SInv l n p B s) : s.hp.length <= n := by
 have : (s.hp.map (·.1.toNat)).length <= n := nodup_le (by
  have : s.hp.map (·.1.toNat) = (s.hp.map (·.1)).map Int.toNat := by simp
  rw [this, List.nodup_iff_pairwise_ne, List.pairwise_map]
  refine (List.nodup_iff_pairwise_ne.1 H.ids).imp_of_mem fun {x y} hx hy hne e => hne ?_
  obtain ⟨q, hq, rfl⟩ := List.mem_map.1 hx
  obtain ⟨t, ht, rfl⟩ := List.mem_map.1 hy
  obtain ⟨u, e1, _⟩ := H.ent q hq
  obtain ⟨w, e2, _⟩ := H.ent t ht
  rw [e1, e2] at e ⊢
  have e' : u = w := by simpa using e
  rw [e']) (fun x hx => by
  obtain ⟨q, hq, rfl⟩ := List.mem_map.1 hx
  obtain ⟨u, e1, e2, _⟩ := H.ent q hq
  rw [e1]; simpa using e2)
 simpa using this

def closL (n : Nat) (ord : List Nat) : List Bool := (List.range n).map fun v => decide (v ∈ ord)
theorem closL_get {n v : Nat} {ord : List Nat} (hv : v < n) : (closL n ord)[v]'(by simpa [closL] using hv) = decide (v ∈ ord) := by simp [closL]
theorem closL_len {n : Nat} {ord : List Nat} : (closL n ord).length = n := by simp [closL]
theorem closL_set {n v : Nat} {ord : List Nat} : (closL n ord).set v true = closL n (ord ++ [v]) := by
 apply List.ext_getElem (by simp [closL])
 intro i h1 h2
 have hi : i < n := by simpa [closL] using h2
 rw [closL_get hi, List.getElem_set]
 split
 ·rename_i e; rw [e]; simp
 ·rename_i e
  rw [closL_get hi]
  apply decide_eq_decide.2
  rw [List.mem_append, List.mem_singleton]
  exact ⟨.inl, fun h => h.resolve_right fun e' => e e'.symm⟩
theorem closL_nil {n : Nat} : List.replicate n false = closL n [] := by
 apply List.ext_getElem (by simp [closL])
 intro i h1 h2
 have hi : i < n := by simpa [closL] using h2
 rw [closL_get hi]; simp

def mkOf (al : List Bool) (i : Nat) : Bool := al.isEmpty || al.getD i false
def piOf (pl : List Int) (v : Nat) : Int := if pl.isEmpty then 0 else max (-far) (pl.getD v 0)
theorem piOf_lo {pl : List Int} {v : Nat} : -far <= piOf pl v := by
 unfold piOf
 split
 ·decide
 ·exact Int.le_max_left _ _
open Go

def RelZ (s : SS) (t : FS) : Prop := s.hp = t.hp /\ s.by_ = t.arc /\ s.ord = t.order /\ ∀ u ∈ s.ord, dAt s.lab u = dAt t.dist u

section
variable {l : List A} {n : Nat} {B : Int} {s : SS} {t : FS}

theorem piOf_nil {v : Nat} : piOf [] v = 0 := rfl

theorem RelZ.reach (R : RelZ s t) (H : SInv l n (piOf []) B s) {v i : Nat} {d : Int} (hv : v < n) : RelZ (s.reach (piOf []) v i d) (t.reach v i d) := by
 obtain ⟨h1, h2, h3, h4⟩ := R
 unfold SS.reach FS.reach
 by_cases hc : v ∈ s.ord
 ·rw [if_pos (.inl hc), if_pos (h3 ▸ hc)]
  exact ⟨h1, h2, h3, h4⟩
 ·rw [if_neg (by rintro (h | h); exact hc h; rw [piOf_nil] at h; exact absurd h (by decide)), if_neg (h3 ▸ hc), <- h1]
  have hset : ∀ u ∈ s.ord, dAt (s.lab.set v d) u = dAt t.dist u := fun u hu => by
   rw [dAt_set (by rw [H.ll]; exact hv), if_neg (show ¬ u = v from fun e => hc (e ▸ hu))]; exact h4 u hu
  cases hk : lookH s.hp v with
  | some was =>
   obtain ⟨u, e1, _, _, e4, _⟩ := H.ent _ (lookH_some hk)
   have e1 : v = u := by simp at e1; omega
   subst e1
   dsimp only at e4 ⊢
   rw [piOf_nil, Int.add_zero] at e4 ⊢
   rw [e4]
   split
   ·exact ⟨h1, h2, h3, h4⟩
   ·exact ⟨rfl, by show s.by_.set v i = t.arc.set v i; rw [h2], h3, hset⟩
  | none => exact ⟨by show _ :: _ = _ :: _; rw [piOf_nil, Int.add_zero], by show _ = t.arc.set v i; rw [<- h2], h3, hset⟩

theorem RelZ.scan (hh : ∀ a ∈ l, a.t < n /\ (a.w : Int) <= W) {mk : Nat -> Bool} {v : Nat} : ∀ {ids : List Nat} {s : SS} {t : FS}, RelZ s t -> SInv l n (piOf []) B s -> (∀ i ∈ ids, i < l.length /\ (arcAt l i).f = v) -> v ∈ s.ord -> dAt s.lab v + W <= B ->
  RelZ (s.scan l (piOf []) mk v ids) (t.scan l A.t (dAt s.lab v) (ids.filter mk))
 | [], s, t, R, _, _, _, _ => R
 | i :: ids, s, t, R, H, hi, hvo, hB => by
  have h1 := hi i List.mem_cons_self
  have ha : arcAt l i ∈ l := by simp [arcAt, h1.1]
  have hl := SS.look_lab (p := piOf []) (mk := mk) (v := v) H hh h1.1 hvo
  have ho : (SS.look l (piOf []) mk v s i).ord = s.ord := SS.look_ord
  have step : RelZ (SS.look l (piOf []) mk v s i) (if mk i then t.reach (arcAt l i).t i (dAt s.lab v + (arcAt l i).w) else t) := by
   unfold SS.look
   split
   ·exact RelZ.reach (s := s.ev _) R (H.ev _) (hh _ ha).1
   ·exact R
  have := RelZ.scan hh (mk := mk) (ids := ids) step (H.look hh (mk := mk) h1.1 h1.2 hvo hB) (fun j hj => hi j (List.mem_cons_of_mem _ hj)) (by rw [ho]; exact hvo) (by rw [hl]; exact hB)
  rw [hl] at this
  show RelZ ((SS.look l (piOf []) mk v s i).scan l (piOf []) mk v ids) _
  rw [List.filter_cons]
  cases hm : mk i with
  | true =>
   rw [hm] at this
   simp only [if_true] at this ⊢
   exact this
  | false =>
   rw [hm] at this
   simp only [Bool.false_eq_true, if_false] at this ⊢
   exact this

theorem run_keeps (hh : ∀ a ∈ l, a.t < n /\ (a.w : Int) <= W) {outs : Nat -> List Nat} (hout : ∀ v, v < n -> ∀ i ∈ outs v, i < l.length) : ∀ {k : Nat} {t : FS} {B : Int} {u : Nat}, FInv n B t -> u ∈ t.order ->
  u ∈ (FS.run l outs A.t k t).order /\ dAt (FS.run l outs A.t k t).dist u = dAt t.dist u
 | 0, t, B, u, _, hu => ⟨hu, rfl⟩
 | k + 1, t, B, u, H, hu => by
  unfold FS.run
  cases hl : least t.hp with
  | none => exact ⟨hu, rfl⟩
  | some p =>
   have hm := (least_spec hl).1
   obtain ⟨w, e, hwn, hno, h0, hB⟩ := H.ent p hm
   obtain ⟨pv, key⟩ := p
   dsimp only at e h0 hB ⊢
   subst e
   rw [Int.toNat_natCast]
   have hW : (0 : Int) <= W := by decide
   have H1 := (H.popped hm).mono (B' := B + W) (by omega)
   have H2 := FInv.scan (head := A.t) (key := key) hh h0 (by omega) (hout w hwn) H1
   have hso := @scan_order l A.t key (outs w) (t.pop w key)
   have hu1 : u ∈ (t.pop w key).order := List.mem_append_left _ hu
   obtain ⟨a, b⟩ := run_keeps hh hout (k := k) H2 (u := u) (by rw [hso.1]; exact hu1)
   refine ⟨a, b.trans ?_⟩
   rw [hso.2]
   show dAt (t.dist.set w key) u = _
   rw [dAt_set (by rw [H.dl]; exact hwn), if_neg (show ¬ u = w from fun e => hno (e ▸ hu))]

theorem RelZ.run {g : G} (hR : g.Right) {mk : Nat -> Bool} {to : Nat} (k : Nat) : ∀ {s : SS} {t : FS}, RelZ s t -> SInv g.arcs g.n (piOf []) (s.ord.length * W) s -> FInv g.n (t.order.length * W) t -> to ∉ s.ord ->
  ((SS.run g.arcs (piOf []) mk g.out to k s).2 = true -> to ∈ (FS.run g.arcs (outM g mk) A.t k t).order /\ dAt (FS.run g.arcs (outM g mk) A.t k t).dist to = dAt (SS.run g.arcs (piOf []) mk g.out to k s).1.lab to) /\
  ((SS.run g.arcs (piOf []) mk g.out to k s).2 = false -> to ∉ (FS.run g.arcs (outM g mk) A.t k t).order) := by
 induction k with
 | zero =>
  intro s t R _ _ hno
  have e : SS.run g.arcs (piOf []) mk g.out to 0 s = (s, false) := rfl
  have e2 : FS.run g.arcs (outM g mk) A.t 0 t = t := rfl
  rw [e, e2]
  refine ⟨fun h => Bool.noConfusion h, fun _ h => hno ?_⟩
  rw [R.2.2.1]; exact h
 | succ k ih =>
  intro s t R H HF hno
  have hh : ∀ a ∈ g.arcs, a.t < g.n /\ (a.w : Int) <= W := arcs_ends hR
  obtain ⟨r1, r2, r3, r4⟩ := id R
  rw [SS.run, FS.run, <- r1]
  cases hl : least s.hp with
  | none =>
   refine ⟨fun h => Bool.noConfusion h, fun _ h => hno ?_⟩
   rw [r3]; exact h
  | some p =>
   have hm := (least_spec hl).1
   obtain ⟨w, e, hwn, hwo, hkey, _, _⟩ := H.ent p hm
   obtain ⟨pv, key⟩ := p
   dsimp only at e hkey ⊢
   subst e
   rw [Int.toNat_natCast]
   rw [piOf_nil, Int.add_zero] at hkey
   have hlab := H.lo w hwn
   have hmF : ((w : Int), key) ∈ t.hp := r1 ▸ hm
   have hW : (0 : Int) <= W := by decide
   have HF1 := (HF.popped hmF).mono (B' := t.order.length * W + W) (by omega)
   have HS1 := (H.popped hm).mono (B' := s.ord.length * W + W) (by omega)
   have hids : ∀ i ∈ g.out w, i < g.arcs.length /\ (arcAt g.arcs i).f = w := (out_spec hR).1 w hwn
   have hidM : ∀ i ∈ outM g mk w, i < g.arcs.length := fun i hi => (outM_spec hR w hwn i hi).1
   have R1 : RelZ (s.pop w key) (t.pop w key) := by
    refine ⟨by show s.hp.erase _ = t.hp.erase _; rw [r1], r2, by show s.ord ++ [w] = t.order ++ [w]; rw [r3], fun u hu => ?_⟩
    show dAt s.lab u = dAt (t.dist.set w key) u
    rw [dAt_set (by rw [HF.dl]; exact hwn)]
    by_cases e : u = w
    ·subst e; rw [if_pos rfl]; exact hkey.symm
    ·rw [if_neg e]
     have hu : u ∈ s.ord ++ [w] := hu
     rcases List.mem_append.1 hu with hu | hu
     ·exact r4 u hu
     ·simp at hu; exact absurd hu e
   have hlen : (t.order.length : Int) = s.ord.length := by rw [r3]
   have HF2 : FInv g.n ((t.order.length + 1 : Nat) * W) ((t.pop w key).scan g.arcs A.t key (outM g mk w)) := by
    have e : ((t.order.length + 1 : Nat) : Int) * W = t.order.length * W + W := by rw [Int.natCast_add, Int.add_mul]; rfl
    rw [e]
    exact FInv.scan (head := A.t) (key := key) hh (by omega) (by have := (HF.ent _ hmF); obtain ⟨_, _, _, _, _, hB⟩ := this; dsimp only at hB; omega) hidM HF1
   have hso := @scan_order g.arcs A.t key (outM g mk w) (t.pop w key)
   have hwo1 : w ∈ (s.pop w key).ord := by show w ∈ s.ord ++ [w]; simp
   have hvB : dAt (s.pop w key).lab w + W <= s.ord.length * W + W := by show dAt s.lab w + W <= _; omega
   by_cases hut : w = to
   ·subst hut
    rw [if_pos rfl]
    refine ⟨fun _ => ?_, (fun h => by cases h)⟩
    have hin : w ∈ ((t.pop w key).scan g.arcs A.t key (outM g mk w)).order := by rw [hso.1]; show w ∈ t.order ++ [w]; simp
    obtain ⟨a, b⟩ := run_keeps hh (outs := outM g mk) (fun v hv i hi => (outM_spec hR v hv i hi).1) (k := k) HF2 hin
    refine ⟨a, b.trans ?_⟩
    rw [hso.2]
    show dAt (t.dist.set w key) w = dAt s.lab w
    rw [dAt_set (by rw [HF.dl]; exact hwn), if_pos rfl]; exact hkey
   ·rw [if_neg hut]
    obtain ⟨f1, f2, f3⟩ := SS.scan_facts (p := piOf []) (mk := mk) hh HS1 hids hwo1 hvB
    have R2 := RelZ.scan (mk := mk) hh R1 HS1 hids hwo1 hvB
    have e : dAt (s.pop w key).lab w = key := hkey.symm
    rw [e] at R2
    have ho2 : ((s.pop w key).scan g.arcs (piOf []) mk w (g.out w)).ord = s.ord ++ [w] := f2
    refine ih R2 ?_ ?_ ?_
    ·refine f1.mono ?_
     rw [ho2, List.length_append, List.length_singleton, Int.natCast_add, Int.add_mul]; show _ <= _ + 1 * W; omega
    ·have e2 : ((t.pop w key).scan g.arcs A.t key (outM g mk w)).order.length = t.order.length + 1 := by
      have : ((t.pop w key).scan g.arcs A.t key (outM g mk w)).order = t.order ++ [w] := hso.1
      rw [this]; simp
     rw [e2]
     exact HF2
    ·rw [ho2, List.mem_append, List.mem_singleton]
     rintro (h | h)
     ·exact hno h
     ·exact hut h.symm

theorem seek_plain {g : G} (hR : g.Right) {mk : Nat -> Bool} {fr to : Nat} (hfr : fr < g.n) (hto : to < g.n) :
  (let f := SS.run g.arcs (piOf []) mk g.out to (g.n + 1) (SS.start (piOf []) g.n fr); if f.2 then dAt f.1.lab to else far) = seekD g mk fr to := by
 have hz : (SS.zero g.n).ord = [] := rfl
 have e : SS.start (piOf []) g.n fr = ⟨[((fr : Int), 0)], (List.replicate g.n 0).set fr 0, (List.replicate g.n (-1)).set fr (-1), [], []⟩ := by
  unfold SS.start SS.reach
  rw [if_neg (by rintro (h | h); cases h; rw [piOf_nil] at h; exact absurd h (by decide))]
  rfl
 have hrep : (List.replicate g.n (-1 : Int)).set fr (-1) = List.replicate g.n (-1) := by
  apply List.ext_getElem (by simp)
  intro i h1 h2
  rw [List.getElem_set]
  split <;> simp
 have R : RelZ (SS.start (piOf []) g.n fr) (FS.start g.n fr) := by
  rw [e]
  exact ⟨rfl, hrep, rfl, fun u hu => by cases hu⟩
 have ho : (SS.start (piOf []) g.n fr).ord = [] := by rw [e]
 have H : SInv g.arcs g.n (piOf []) ((SS.start (piOf []) g.n fr).ord.length * W) (SS.start (piOf []) g.n fr) := by
  rw [ho]
  have := (SInv.zero (l := g.arcs) (n := g.n) (p := piOf [])).reach (v := fr) (a := -1) (d := 0) hfr (by omega) (by omega) (.inl rfl)
  have z : (([] : List Nat).length : Int) * W = 0 := by simp
  rw [z]; exact this
 have HF : FInv g.n ((FS.start g.n fr).order.length * W) (FS.start g.n fr) := (FInv.start hfr).mono (by simp [FS.start])
 obtain ⟨h1, h2⟩ := RelZ.run hR (mk := mk) (to := to) (g.n + 1) R H HF (by rw [ho]; simp)
 obtain ⟨done, D, _, _⟩ := seek_facts (mk := mk) hR hfr
 dsimp only
 cases hb : (SS.run g.arcs (piOf []) mk g.out to (g.n + 1) (SS.start (piOf []) g.n fr)).2 with
 | true => rw [if_pos rfl]; exact (h1 hb).2.symm
 | false =>
  simp only [Bool.false_eq_true, if_false]
  exact (D.d5 to (h2 hb)).symm

end
open Go Go.ChangeShapes Go.WideShapes Go.ChangeAt Go.RowKit

section
variable {H : Type} {encD : TypeId × Value -> H} {P : Program} {w : World} {n : Nat} {e t : TypeId} {v : Value} {r : Reach} {base : Nat} {d : DataW H} {p : List MemPlace}

theorem Opn.bool (O : Opn encD P w t [v]) (ht : P.underlying t = some .bool) : ∃ a : Bool, v = .bool a := by
 obtain ⟨⟨fuel, x, h⟩, _⟩ := O
 obtain ⟨a, e, r⟩ := dec_bool ht _ _ _ h
 simp only [List.cons.injEq, and_true] at e
 exact ⟨a, e⟩

end
open Go Go.ChangeShapes Go.WideShapes Go.ChangeAt Go.RowKit

section
variable {H : Type} {enc encD : TypeId × Value -> H} {P : Program} {w W W' : World} {n : Nat} {e t : TypeId} {v : Value} {r : Reach} {base : Nat} {d : DataW H} {p : List MemPlace} {cs : List Value} {B : Nat}

theorem law_laidX {C : Checked} {os : Os} {f : FuncId} {fn : Func} {s : ChangeSpec} {conds : List PathCond} {tb : TypeId} {X : World -> Array Value -> Prop}
  (hX : ∀ (w w' : World) (args : Array Value), w.heap = w'.heap -> X w args -> X w' args)
  (own : ownKnob C.prog.godebug = none) (started : os.Started) (noInit : C.prog.inits.idxOf? f = none) (hfn : C.prog.funcs[f]? = some fn)
  (witness : ∃ (w : World) (tape : Tape) (i : Input), w.os = os /\ (w.forCall tape i).Shaped C.prog /\ i.vars = [] /\ Input.okWide C.prog (w.forCall tape i) .any w.heap.size f i /\
   ((s.pre enc C.prog fn conds false (w.forCall tape i).memory i.args /\ X (w.forCall tape i).memory i.args) /\ sizedMet enc C.prog fn (OpenSpec.ofChange s) false (w.forCall tape i).memory i.args) /\ ({} : Assume).holds C.prog (lone (Frame.enter C.prog f i.args .normal) [] (w.forCall tape i)))
  (hvars : s.vars = []) (hres : fn.resultTypes = #[tb]) (htb : C.prog.underlying tb = some .bool)
  (hspec : ∀ ds : List (DataW H), ds.length = fn.params.toList.length -> s.fn H ds = { results := [.lit (.bool true)], args := ds })
  (kids : Kids C.prog (· < C.prog.types.size)) (full : ∀ t e, t < C.prog.types.size -> C.prog.underlying t = some (.slice e) -> 0 < C.prog.cellsOf e) (hpar : ∀ t ∈ fn.params.toList, t < C.prog.types.size)
  (hcall : ∀ (W : World) (base : Nat) (args : Array Value) (ds : List (DataW H)) (ps : List MemPlace), (∀ (j : Nat) t v, fn.params[j]? = some t -> args[j]? = some v -> Value.okWide C.prog W .any base t v) ->
   DataW.TrodAll enc C.prog W 0 (fun _ => true) true fn.params.toList args.toList ds ps -> X W args ->
   CallsH C.prog f args W.heap fun v h' => v = .bool true /\ Ext W.heap h') :
  ReturnsInHanded {} C os f .any (fun w args => (s.pre enc C.prog fn conds false w args /\ X w args) /\ sizedMet enc C.prog fn (OpenSpec.ofChange s) false w args) (s.post enc C.prog fn false true false false) := by
 refine returnsInHanded_of_change_and hX own started noInit hfn witness ?_
 intro W base args ds gs before hval hW hcnd hwt hL _
 have hW' := hW
 obtain ⟨p, q, hA, hV, rfl, hfz, hnd⟩ := hW
 rw [hvars] at hV
 obtain ⟨rfl, rfl⟩ := trodVars_none hV
 refine calls_of_H (hcall W base args ds p hval hA hL) fun v w' hs hv => ⟨v, rfl, ?_⟩
 obtain ⟨rfl, hx⟩ := hv
 have hlt : ∀ x ∈ p, x.block < W.heap.size := fun x hx => hW'.lt x (by simpa using hx)
 have hsp := hspec ds (trodAll_length hA)
 unfold ChangeSpec.post
 refine ⟨ds, [], p ++ [], [], p, [], hW', ?_, ?_, ?_, kept_of_ext hs hx _, fun h => by cases h⟩
 ·rw [List.append_nil, hsp, hres]
  exact trodAll_mk1 ⟨1, by simp [DataW.trod, htb, Value.cells]⟩
 ·rw [List.append_nil, hsp]
  exact trodAll_carry (DataW.TrodAll.respare kids full hpar hA fun x hx => by simpa using hlt x hx) fun x hx' => sameAt_of_ext hx (hlt x hx')
 ·rw [List.append_nil, hsp, hvars]; rfl

end
end Go.Mh
