/- Texts of the proofs of seat YtmdldoolnhpaeaaGreatDoor, joined: Base, Prims, Ops, QSound, QSound2, QSound3, QSound4, LSound, LSound2, LSound3, Region. They have no conditions of their own. -/
import Derived.RangeFuncIn
import Derived.OrdersIn
import Derived.MapKept
set_option linter.unusedVariables false
set_option linter.unusedSimpArgs false
set_option linter.unusedSectionVars false

namespace Go.Mh
open Go

abbrev Heap := Array Obj
abbrev KT := Value -> Heap -> Prop
abbrev I (n : Int) : Value := .int .i64 n

def hcell (h : Heap) (a : Addr) : Option Value :=
 match h[a.block]? with
 | some (.cells c _ _) => if a.spot.isSome then none else c[a.off]?
 | _ => none

def hfrozen (h : Heap) (a : Addr) : Bool :=
 match h[a.block]? with
 | some (.cells _ _ (lo, hi)) => lo <= a.off && a.off < hi
 | _ => false

def hshape (h : Heap) (r : Nat) : Option (TypeId × Nat) :=
 match h[r]? with
 | some (.cells c elem _) => some (elem, c.size)
 | _ => none

def hset (h : Heap) (a : Addr) (v : Value) : Heap :=
 h.modify a.block fun
   | .cells c elem frozen => .cells (if a.spot.isSome then c else c.setIfInBounds a.off v) elem frozen
   | o => o

theorem cell?_eq (w : World) (a : Addr) : w.cell? a = hcell w.heap a := rfl
theorem frozen?_eq (w : World) (a : Addr) : w.frozen? a = hfrozen w.heap a := rfl
theorem setCell_heap (w : World) (a : Addr) (v : Value) : (w.setCell a v).heap = hset w.heap a v := rfl

structure Same (w w' : World) : Prop where
 os : w'.os = w.os
 output : w'.output = w.output
 tape : w'.tape = w.tape
 drawn : w.drawn <= w'.drawn

theorem Same.refl (w : World) : Same w w := ⟨rfl, rfl, rfl, Nat.le_refl _⟩
theorem Same.trans {a b c : World} (h : Same a b) (h' : Same b c) : Same a c :=
 ⟨h'.os.trans h.os, h'.output.trans h.output, h'.tape.trans h.tape, Nat.le_trans h.drawn h'.drawn⟩

def plainCell : Value -> Bool
 | .agg _ | .tuple _ => false
 | _ => true

def wpS (P : Program) {α : Type} : Sem α -> Heap -> (α -> Heap -> Prop) -> Prop
 | .pure a, h, K => K a h
 | .load _ a k, h, K => match hcell h a with
  | some v => wpS P (k v) h K
  | none => False
 | .store _ a v k, h, K => plainCell v = true /\ (hcell h a).isSome = true /\ hfrozen h a = false /\ wpS P k (hset h a v) K
 | .new o k, h, K => wpS P (k h.size) (h.push o) K
 | .shape r k, h, K => wpS P (k (hshape h r)) h K
 | .freeze _ _ _, _, _ => False
 | .frozen a k, h, K => wpS P (k (hfrozen h a)) h K
 | .getObj r k, h, K => match h[r]? with
  | some (.cells ..) => False
  | some o => wpS P (k o) h K
  | none => False
 | .setObj r o k, h, K => match h[r]? with
  | some (.cells ..) => False
  | some _ => wpS P k (h.setIfInBounds r o) K
  | none => False
 | .choose q k, h, K => if q.forced then wpS P (k 0) h K else ∀ t, wpS P (k (q.cut t)) h K
 | .sys _ _, _, _ => False
 | .program k, h, K => wpS P (k P) h K
 | .mark _ k, h, K => wpS P k h K
 | .halt _, _, _ => False

theorem wpS_run {P : Program} {α : Type} {s : Sem α} : ∀ {h : Heap} {K : α -> Heap -> Prop}, wpS P s h K -> ∀ w : World, w.heap = h ->
  ∃ a w', s.run P w = .ok a w' /\ Same w w' /\ K a w'.heap := by
 induction s with
 | pure a => intro h K hk w hw; subst hw; exact ⟨a, w, rfl, .refl w, hk⟩
 | load m a k ih =>
  intro h K hk w hw; subst hw
  simp only [wpS] at hk
  split at hk
  ·rename_i v hv
   obtain ⟨x, w', hr, hs, hK⟩ := ih v hk w rfl
   refine ⟨x, w', ?_, hs, hK⟩
   simp only [Sem.run, cell?_eq, hv]; exact hr
  ·exact hk.elim
 | store m a v k ih =>
  intro h K hk w hw; subst hw
  obtain ⟨hp, hc, hf, hk⟩ := hk
  obtain ⟨x, w', hr, hs, hK⟩ := ih hk (w.setCell a v) rfl
  refine ⟨x, w', ?_, ⟨hs.os, hs.output, hs.tape, hs.drawn⟩, hK⟩
  obtain ⟨u, hu⟩ := Option.isSome_iff_exists.1 hc
  rw [<- cell?_eq] at hu
  rw [<- frozen?_eq] at hf
  cases v <;> simp_all [Sem.run, plainCell]
 | new o k ih =>
  intro h K hk w hw; subst hw
  obtain ⟨x, w', hr, hs, hK⟩ := ih _ hk { w with heap := w.heap.push o } rfl
  exact ⟨x, w', hr, ⟨hs.os, hs.output, hs.tape, hs.drawn⟩, hK⟩
 | shape r k ih => intro h K hk w hw; subst hw; exact ih _ hk w rfl
 | freeze a n k ih => intro h K hk; exact hk.elim
 | frozen a k ih => intro h K hk w hw; subst hw; exact ih _ hk w rfl
 | getObj r k ih =>
  intro h K hk w hw; subst hw
  simp only [wpS] at hk
  split at hk
  ·exact hk.elim
  ·rename_i o hno ho
   obtain ⟨x, w', hr, hs, hK⟩ := ih o hk w rfl
   refine ⟨x, w', ?_, hs, hK⟩
   simp only [Sem.run, ho]; cases o <;> first | exact hr | exact (hno _ _ _ rfl).elim
  ·exact hk.elim
 | setObj r o k ih =>
  intro h K hk w hw; subst hw
  simp only [wpS] at hk
  split at hk
  ·exact hk.elim
  ·rename_i o' hno ho
   obtain ⟨x, w', hr, hs, hK⟩ := ih hk { w with heap := w.heap.setIfInBounds r o } rfl
   refine ⟨x, w', ?_, ⟨hs.os, hs.output, hs.tape, hs.drawn⟩, hK⟩
   simp only [Sem.run, ho]; cases o' <;> first | exact hr | exact (hno _ _ _ rfl).elim
  ·exact hk.elim
 | choose q k ih =>
  intro h K hk w hw; subst hw
  simp only [wpS] at hk
  split at hk
  ·rename_i hq
   obtain ⟨x, w', hr, hs, hK⟩ := ih _ hk w rfl
   exact ⟨x, w', by simp only [Sem.run, hq, if_true]; exact hr, hs, hK⟩
  ·rename_i hq
   obtain ⟨x, w', hr, hs, hK⟩ := ih _ (hk (w.tape w.drawn q)) { w with drawn := w.drawn + 1 } rfl
   refine ⟨x, w', ?_, ⟨hs.os, hs.output, hs.tape, Nat.le_trans (Nat.le_succ _) hs.drawn⟩, hK⟩
   simp only [Sem.run]; rw [if_neg hq]; exact hr
 | sys c k ih => intro h K hk; exact hk.elim
 | program k ih => intro h K hk w hw; subst hw; exact ih _ hk w rfl
 | mark m k ih => intro h K hk w hw; subst hw; exact ih hk w rfl
 | halt x => intro h K hk; exact hk.elim

def rdS (P : Program) {α : Type} : Sem α -> Heap -> Option α
 | .pure a, _ => some a
 | .load _ a k, h => match hcell h a with
  | some v => rdS P (k v) h
  | none => none
 | .shape r k, h => rdS P (k (hshape h r)) h
 | .frozen a k, h => rdS P (k (hfrozen h a)) h
 | .getObj r k, h => match h[r]? with
  | some (.cells ..) => none
  | some o => rdS P (k o) h
  | none => none
 | .choose q k, h => if q.forced then rdS P (k 0) h else none
 | .program k, h => rdS P (k P) h
 | .mark _ k, h => rdS P k h
 | _, _ => none

theorem rdS_run {P : Program} {α : Type} {s : Sem α} : ∀ {h : Heap} {a : α}, rdS P s h = some a -> ∀ w : World, w.heap = h -> s.run P w = .ok a w := by
 induction s with
 | pure a => intro h b hk w hw; simp only [rdS, Option.some.injEq] at hk; subst hk; rfl
 | load m a k ih =>
  intro h b hk w hw; subst hw
  simp only [rdS] at hk
  split at hk
  ·rename_i v hv
   simp only [Sem.run, cell?_eq, hv]; exact ih v hk w rfl
  ·cases hk
 | store m a v k ih => intro h b hk; cases hk
 | new o k ih => intro h b hk; cases hk
 | shape r k ih => intro h b hk w hw; subst hw; exact ih _ hk w rfl
 | freeze a n k ih => intro h b hk; cases hk
 | frozen a k ih => intro h b hk w hw; subst hw; exact ih _ hk w rfl
 | getObj r k ih =>
  intro h b hk w hw; subst hw
  simp only [rdS] at hk
  split at hk
  ·cases hk
  ·rename_i o hno ho
   have hr := ih o hk w rfl
   simp only [Sem.run, ho]; cases o <;> first | exact hr | exact (hno _ _ _ rfl).elim
  ·cases hk
 | setObj r o k ih => intro h b hk; cases hk
 | choose q k ih =>
  intro h b hk w hw; subst hw
  simp only [rdS] at hk
  split at hk
  ·rename_i hq
   simp only [Sem.run, hq, if_true]; exact ih _ hk w rfl
  ·cases hk
 | sys c k ih => intro h b hk; cases hk
 | program k ih => intro h b hk w hw; subst hw; exact ih _ hk w rfl
 | mark m k ih => intro h b hk w hw; subst hw; exact ih hk w rfl
 | halt x => intro h b hk; cases hk

theorem wpS_bind {P : Program} {α β : Type} {s : Sem α} {f : α -> Sem β} : ∀ {h : Heap} {K : β -> Heap -> Prop},
  wpS P s h (fun a h' => wpS P (f a) h' K) -> wpS P (s >>= f) h K := by
 show ∀ {h : Heap} {K : β -> Heap -> Prop}, wpS P s h (fun a h' => wpS P (f a) h' K) -> wpS P (Sem.bind s f) h K
 induction s with
 | pure a => intro h K hk; exact hk
 | load m a k ih =>
  intro h K hk
  simp only [wpS, Sem.bind] at hk ⊢
  split at hk
  ·rename_i v hv; exact ih v hk
  ·exact hk.elim
 | store m a v k ih => intro h K hk; exact ⟨hk.1, hk.2.1, hk.2.2.1, ih hk.2.2.2⟩
 | new o k ih => intro h K hk; exact ih _ hk
 | shape r k ih => intro h K hk; exact ih _ hk
 | freeze a n k ih => intro h K hk; exact hk.elim
 | frozen a k ih => intro h K hk; exact ih _ hk
 | getObj r k ih =>
  intro h K hk
  simp only [wpS, Sem.bind] at hk ⊢
  split at hk
  ·exact hk.elim
  ·exact ih _ hk
  ·exact hk.elim
 | setObj r o k ih =>
  intro h K hk
  simp only [wpS, Sem.bind] at hk ⊢
  split at hk
  ·exact hk.elim
  ·exact ih hk
  ·exact hk.elim
 | choose q k ih =>
  intro h K hk
  simp only [wpS, Sem.bind] at hk ⊢
  split at hk
  ·rename_i hq; simp only [hq, if_true]; exact ih _ hk
  ·rename_i hq; rw [if_neg hq]; exact fun t => ih _ (hk t)
 | sys c k ih => intro h K hk; exact hk.elim
 | program k ih => intro h K hk; exact ih _ hk
 | mark m k ih => intro h K hk; exact ih hk
 | halt x => intro h K hk; exact hk.elim

theorem rdS_bind {P : Program} {α β : Type} {s : Sem α} {f : α -> Sem β} : ∀ {h : Heap} {a : α},
  rdS P s h = some a -> rdS P (s >>= f) h = rdS P (f a) h := by
 show ∀ {h : Heap} {a : α}, rdS P s h = some a -> rdS P (Sem.bind s f) h = rdS P (f a) h
 induction s with
 | pure a => intro h b hk; simp only [rdS, Option.some.injEq] at hk; subst hk; rfl
 | load m a k ih =>
  intro h b hk
  simp only [rdS, Sem.bind] at hk ⊢
  split at hk
  ·exact ih _ hk
  ·cases hk
 | store m a v k ih => intro h b hk; cases hk
 | new o k ih => intro h b hk; cases hk
 | shape r k ih => intro h b hk; exact ih _ hk
 | freeze a n k ih => intro h b hk; cases hk
 | frozen a k ih => intro h b hk; exact ih _ hk
 | getObj r k ih =>
  intro h b hk
  simp only [rdS, Sem.bind] at hk ⊢
  split at hk
  ·cases hk
  ·exact ih _ hk
  ·cases hk
 | setObj r o k ih => intro h b hk; cases hk
 | choose q k ih =>
  intro h b hk
  simp only [rdS, Sem.bind] at hk ⊢
  split at hk
  ·rename_i hq; simp only [hq, if_true]; exact ih _ hk
  ·cases hk
 | sys c k ih => intro h b hk; cases hk
 | program k ih => intro h b hk; exact ih _ hk
 | mark m k ih => intro h b hk; exact ih hk
 | halt x => intro h b hk; cases hk

theorem wpS_of_rdS {P : Program} {α : Type} {s : Sem α} : ∀ {h : Heap} {a : α} {K : α -> Heap -> Prop}, rdS P s h = some a -> K a h -> wpS P s h K := by
 induction s with
 | pure a => intro h b K hk hK; simp only [rdS, Option.some.injEq] at hk; subst hk; exact hK
 | load m a k ih =>
  intro h b K hk hK
  simp only [rdS, wpS] at hk ⊢
  split at hk
  ·exact ih _ hk hK
  ·cases hk
 | store m a v k ih => intro h b K hk; cases hk
 | new o k ih => intro h b K hk; cases hk
 | shape r k ih => intro h b K hk hK; exact ih _ hk hK
 | freeze a n k ih => intro h b K hk; cases hk
 | frozen a k ih => intro h b K hk hK; exact ih _ hk hK
 | getObj r k ih =>
  intro h b K hk hK
  simp only [rdS, wpS] at hk ⊢
  split at hk
  ·cases hk
  ·exact ih _ hk hK
  ·cases hk
 | setObj r o k ih => intro h b K hk; cases hk
 | choose q k ih =>
  intro h b K hk hK
  simp only [rdS, wpS] at hk ⊢
  split at hk
  ·rename_i hq; simp only [hq, if_true]; exact ih _ hk hK
  ·cases hk
 | sys c k ih => intro h b K hk; cases hk
 | program k ih => intro h b K hk hK; exact ih _ hk hK
 | mark m k ih => intro h b K hk hK; exact ih hk hK
 | halt x => intro h b K hk; cases hk

theorem wpS_mono {P : Program} {α : Type} {s : Sem α} : ∀ {h : Heap} {K K' : α -> Heap -> Prop}, (∀ a h, K a h -> K' a h) -> wpS P s h K -> wpS P s h K' := by
 induction s with
 | pure a => intro h K K' hm hk; exact hm _ _ hk
 | load m a k ih =>
  intro h K K' hm hk
  simp only [wpS] at hk ⊢
  split at hk
  ·exact ih _ hm hk
  ·exact hk
 | store m a v k ih => intro h K K' hm hk; exact ⟨hk.1, hk.2.1, hk.2.2.1, ih hm hk.2.2.2⟩
 | new o k ih => intro h K K' hm hk; exact ih _ hm hk
 | shape r k ih => intro h K K' hm hk; exact ih _ hm hk
 | freeze a n k ih => intro h K K' hm hk; exact hk.elim
 | frozen a k ih => intro h K K' hm hk; exact ih _ hm hk
 | getObj r k ih =>
  intro h K K' hm hk
  simp only [wpS] at hk ⊢
  split at hk
  ·exact hk
  ·exact ih _ hm hk
  ·exact hk
 | setObj r o k ih =>
  intro h K K' hm hk
  simp only [wpS] at hk ⊢
  split at hk
  ·exact hk
  ·exact ih hm hk
  ·exact hk
 | choose q k ih =>
  intro h K K' hm hk
  simp only [wpS] at hk ⊢
  split at hk
  ·rename_i hq; simp only [hq, if_true]; exact ih _ hm hk
  ·rename_i hq; rw [if_neg hq]; exact fun t => ih _ hm (hk t)
 | sys c k ih => intro h K K' hm hk; exact hk.elim
 | program k ih => intro h K K' hm hk; exact ih _ hm hk
 | mark m k ih => intro h K K' hm hk; exact ih hm hk
 | halt x => intro h K K' hm hk; exact hk.elim

open Go

def Callable (P : Program) (f : FuncId) : Bool :=
 match P.funcs[f]? with
 | some fn => fn.body.isSome && !(fn.name == "runtime.NumGoroutine")
 | none => false

def CallsW (P : Program) (f : FuncId) (args : Array Value) (h : Heap) (K : KT) : Prop :=
 ∀ w : World, w.heap = h -> CallsIn Fence.wide 0 P f args w (fun e w' => ∃ v, e = .returned v /\ Same w w' /\ K v w'.heap)

def CallsH (P : Program) (f : FuncId) (args : Array Value) (h : Heap) (K : KT) : Prop :=
 Callable P f = true /\ CallsW P f args h K

def RoundH (P : Program) (l : Nat) (f : FuncId) (tmps : Array Value) (assign body : Code) (h : Heap) (K : KT) : Prop :=
 ∀ w : World, w.heap = h -> RoundIn Fence.wide 0 P l f tmps assign body w (fun e w' => ∃ v, e = .returned v /\ Same w w' /\ K v w'.heap)

def YieldH (P : Program) (l : Nat) (args : Array Value) (h : Heap) (K : KT) : Prop :=
 match h[l]? with
 | some (.loop L) => args.size = L.params.size /\ RoundH P l L.fn ((L.params.zip args).foldl (fun tmps (t, a) => tmps.setIfInBounds t a) L.tmps) L.assign L.body h K
 | _ => False

def callV (P : Program) (v : Value) (args : Array Value) (h : Heap) (K : KT) : Prop :=
 match v with
 | .func (.func f) first captured => CallsH P f (first ++ args ++ captured) h K
 | .func (.yield l) first _ => YieldH P l (first ++ args) h K
 | _ => False

theorem CallsH.mono {P : Program} {f : FuncId} {args : Array Value} {h : Heap} {K K' : KT}
  (hc : CallsH P f args h K) (hm : ∀ v h, K v h -> K' v h) : CallsH P f args h K' :=
 ⟨hc.1, fun w hw => (hc.2 w hw).mono fun _ _ ⟨v, he, hs, hk⟩ => ⟨v, he, hs, hm _ _ hk⟩⟩

theorem RoundH.mono {P : Program} {l : Nat} {f : FuncId} {tmps : Array Value} {assign body : Code} {h : Heap} {K K' : KT}
  (hc : RoundH P l f tmps assign body h K) (hm : ∀ v h, K v h -> K' v h) : RoundH P l f tmps assign body h K' :=
 fun w hw => (hc w hw).mono fun _ _ ⟨v, he, hs, hk⟩ => ⟨v, he, hs, hm _ _ hk⟩

theorem YieldH.mono {P : Program} {l : Nat} {args : Array Value} {h : Heap} {K K' : KT}
  (hc : YieldH P l args h K) (hm : ∀ v h, K v h -> K' v h) : YieldH P l args h K' := by
 unfold YieldH at *
 split
 ·rename_i L hL; simp only [hL] at hc; exact ⟨hc.1, hc.2.mono hm⟩
 ·rename_i hno
  split at hc
  ·rename_i L hL; exact (hno _ hL).elim
  ·exact hc

theorem callV.mono {P : Program} {v : Value} {args : Array Value} {h : Heap} {K K' : KT}
  (hc : callV P v args h K) (hm : ∀ v h, K v h -> K' v h) : callV P v args h K' := by
 unfold callV at *
 split
 ·exact CallsH.mono hc hm
 ·exact YieldH.mono hc hm
 ·rename_i h1 h2
  split at hc
  ·exact (h1 _ _ _ rfl).elim
  ·exact (h2 _ _ _ rfl).elim
  ·exact hc

def callS (P : Program) (f : Nat) (args : List Value) (h : Heap) (K : KT) : Prop := callV P (.func (.func f) #[] #[]) args.toArray h K

theorem callS_of {P : Program} {f : Nat} {args : List Value} {h : Heap} {K : KT} (hc : CallsH P f args.toArray h K) : callS P f args h K := by
 show CallsH P f (#[] ++ args.toArray ++ #[]) h K
 simpa using hc

def ifV (v : Value) (T E : Prop) : Prop :=
 match v with
 | .bool true => T
 | .bool false => E
 | _ => False

def pPick (c a b : Value) (K : Value -> Prop) : Prop :=
 match c with
 | .bool true => K a
 | .bool false => K b
 | _ => False

def pLoad (h : Heap) (a : Value) (K : Value -> Prop) : Prop :=
 match a with
 | .pointer (some ⟨b, o, none⟩) => (match hcell h ⟨b, o, none⟩ with
  | some v => K v
  | none => False)
 | _ => False

def cellsAt (h : Heap) (b o : Nat) : Nat -> Option (List Value)
 | 0 => some []
 | n + 1 => match hcell h ⟨b, o, none⟩ with
  | some v => (match cellsAt h b (o + 1) n with
   | some l => some (v :: l)
   | none => none)
  | none => none

def pLoadN (n : Nat) (h : Heap) (a : Value) (K : Value -> Prop) : Prop :=
 match a with
 | .pointer (some ⟨b, o, none⟩) => (match cellsAt h b o n with
  | some l => K (.agg l.toArray)
  | none => False)
 | _ => False

def pNil (v : Value) (K : Value -> Prop) : Prop :=
 match v with
 | .pointer (some a) => K (.pointer (some a))
 | .func (.func f) first captured => K (.func (.func f) first captured)
 | .func (.yield l) first captured => K (.func (.yield l) first captured)
 | _ => False

def pBin (op : BinOp) (x y : Value) (K : Value -> Prop) : Prop :=
 match op, x, y with
 | .add, .int k a, .int k' b => k = k' /\ K (.int k (k.wrap (a + b)))
 | .sub, .int k a, .int k' b => k = k' /\ K (.int k (k.wrap (a - b)))
 | .mul, .int k a, .int k' b => k = k' /\ K (.int k (k.wrap (a * b)))
 | .quo, .int k a, .int k' b => k = k' /\ b ≠ 0 /\ K (.int k (k.wrap (a.tdiv b)))
 | .rem, .int k a, .int k' b => k = k' /\ b ≠ 0 /\ K (.int k (a.tmod b))
 | .and, .int k a, .int k' b => k = k' /\ K (.int k (k.wrap (BitVec.ofInt k.bits a &&& BitVec.ofInt k.bits b).toNat))
 | .or, .int k a, .int k' b => k = k' /\ K (.int k (k.wrap (BitVec.ofInt k.bits a ||| BitVec.ofInt k.bits b).toNat))
 | .xor, .int k a, .int k' b => k = k' /\ K (.int k (k.wrap (BitVec.ofInt k.bits a ^^^ BitVec.ofInt k.bits b).toNat))
 | .andNot, .int k a, .int k' b => k = k' /\ K (.int k (k.wrap (BitVec.ofInt k.bits a &&& ~~~BitVec.ofInt k.bits b).toNat))
 | .shl, .int k a, .int _ b => 0 <= b /\ K (.int k (k.wrap (a * 2 ^ (min b.toNat k.bits))))
 | .shr, .int k a, .int _ b => 0 <= b /\ K (.int k (a.fdiv (2 ^ (min b.toNat k.bits))))
 | .eql, .int k a, .int k' b => k = k' /\ K (.bool (a == b))
 | .neq, .int k a, .int k' b => k = k' /\ K (.bool (a != b))
 | .lss, .int k a, .int k' b => k = k' /\ K (.bool (a < b))
 | .leq, .int k a, .int k' b => k = k' /\ K (.bool (a <= b))
 | .gtr, .int k a, .int k' b => k = k' /\ K (.bool (a > b))
 | .geq, .int k a, .int k' b => k = k' /\ K (.bool (a >= b))
 | .eql, .string a, .string b => K (.bool (a.toList == b.toList))
 | .neq, .string a, .string b => K (.bool !(a.toList == b.toList))
 | .add, .string a, .string b => a.size + b.size <= 9223372036854775807 /\ K (.string (a ++ b))
 | .lss, .string a, .string b => K (.bool (Op.bytesLess a.toList b.toList))
 | _, _, _ => False

inductive EqK where
 | bool | ptr | slice | map | func | iface

def pEq (neg : Bool) (d : EqK) (x y : Value) (K : Value -> Prop) : Prop :=
 match d, x, y with
 | .bool, .bool a, .bool b => K (.bool (xor neg (a == b)))
 | .ptr, .pointer none, .pointer b => K (.bool (xor neg b.isNone))
 | .ptr, .pointer (some _), .pointer none => K (.bool (xor neg false))
 | .slice, .slice none _ _, .slice b _ _ => K (.bool (xor neg b.isNone))
 | .slice, .slice (some _) _ _, .slice none _ _ => K (.bool (xor neg false))
 | .map, .map none, .map b => K (.bool (xor neg b.isNone))
 | .map, .map (some _), .map none => K (.bool (xor neg false))
 | .func, .nilFunc, .nilFunc => K (.bool (xor neg true))
 | .func, .func (.func _) _ _, .nilFunc => K (.bool (xor neg false))
 | .iface, .nilIface, .nilIface => K (.bool (xor neg true))
 | .iface, .iface _ _, .nilIface => K (.bool (xor neg false))
 | _, _, _ => False

def intsL : List Value -> Option (List Int)
 | [] => some []
 | .int .i64 a :: r => (match intsL r with
  | some l => some (a :: l)
  | none => none)
 | _ => none

def pEqS (op : BinOp) (n : Nat) (x y : Value) (K : Value -> Prop) : Prop :=
 match op, x, y with
 | .eql, .agg xs, .agg ys => (match intsL xs.toList, intsL ys.toList with
  | some a, some b => a.length = n /\ b.length = n /\ K (.bool (decide (a = b)))
  | _, _ => False)
 | .neq, .agg xs, .agg ys => (match intsL xs.toList, intsL ys.toList with
  | some a, some b => a.length = n /\ b.length = n /\ K (.bool (!decide (a = b)))
  | _, _ => False)
 | _, _, _ => False

def pUn (op : UnOp) (x : Value) (K : Value -> Prop) : Prop :=
 match op, x with
 | .neg, .int k n => K (.int k (k.wrap (0 - n)))
 | .not, .bool b => K (.bool !b)
 | _, _ => False

def pConv (k : IntKind) (x : Value) (K : Value -> Prop) : Prop :=
 match x with
 | .int _ n => K (.int k (k.wrap n))
 | _ => False

def pField (off : Nat) (x : Value) (K : Value -> Prop) : Prop :=
 match x with
 | .pointer (some ⟨b, o, none⟩) => K (.pointer (some ⟨b, o + off, none⟩))
 | _ => False

def pIdx (size : Nat) (x i : Value) (K : Value -> Prop) : Prop :=
 match x, i with
 | .slice (some ⟨b, o, none⟩) len _, .int _ i => 0 <= i /\ i < len /\ K (.pointer (some ⟨b, o + i.toNat * size, none⟩))
 | _, _ => False

def pIdxA (size len : Nat) (x i : Value) (K : Value -> Prop) : Prop :=
 match x, i with
 | .pointer (some ⟨b, o, none⟩), .int _ i => 0 <= i /\ i < len /\ K (.pointer (some ⟨b, o + i.toNat * size, none⟩))
 | _, _ => False

def bndOf (d : Nat) : Option Value -> Option Int
 | none => some d
 | some (.int _ i) => some i
 | some _ => none

def slBase (size l m : Nat) (a : Option Addr) : Option Addr :=
 if m = l then a else match a with
  | some ⟨b, o, none⟩ => some ⟨b, o + l * size, none⟩
  | x => x.map (·.add (l * size))

def pSlice (size : Nat) (x : Value) (lo hi mx : Option Value) (K : Value -> Prop) : Prop :=
 match x with
 | .slice a len cap =>
  (match bndOf 0 lo, bndOf len hi, bndOf cap mx with
  | some l, some h, some m => (mx.isSome = true -> hi.isSome = true) /\ 0 <= l /\ l <= h /\ h <= m /\ m <= cap /\ K (.slice (slBase size l.toNat m.toNat a) (h.toNat - l.toNat) (m.toNat - l.toNat))
  | _, _, _ => False)
 | _ => False

def pSliceS (x : Value) (lo hi : Option Value) (K : Value -> Prop) : Prop :=
 match x with
 | .string s =>
  (match bndOf 0 lo, bndOf s.size hi with
  | some l, some h => 0 <= l /\ l <= h /\ h <= s.size /\ K (.string (s.extract l.toNat h.toNat))
  | _, _ => False)
 | _ => False

def pExt (x : Value) (i : Nat) (K : Value -> Prop) : Prop :=
 match x with
 | .tuple vs => (match vs[i]? with
  | some v => K v
  | none => False)
 | _ => False

def pPart1 (off : Nat) (x : Value) (K : Value -> Prop) : Prop :=
 match x with
 | .agg cs => (match cs[off]? with
  | some v => K v
  | none => False)
 | _ => False

def pPartN (off n : Nat) (x : Value) (K : Value -> Prop) : Prop :=
 match x with
 | .agg cs => K (.agg (cs.extract off (off + n)))
 | _ => False

def pIdxV1 (len : Nat) (x i : Value) (K : Value -> Prop) : Prop :=
 match x, i with
 | .agg cs, .int _ i => 0 <= i /\ i < len /\ (match cs[i.toNat]? with
  | some v => K v
  | none => False)
 | _, _ => False

def pIdxVN (size len : Nat) (x i : Value) (K : Value -> Prop) : Prop :=
 match x, i with
 | .agg cs, .int _ i => 0 <= i /\ i < len /\ K (.agg (cs.extract (i.toNat * size) (i.toNat * size + size)))
 | _, _ => False

def pIdxS (x i : Value) (K : Value -> Prop) : Prop :=
 match x, i with
 | .string s, .int _ i => 0 <= i /\ (match s[i.toNat]? with
  | some b => K (.int .u8 b.toNat)
  | none => False)
 | _, _ => False

def pLen (x : Value) (K : Value -> Prop) : Prop :=
 match x with
 | .slice _ n _ => K (.int .i64 n)
 | _ => False

def pLenS (x : Value) (K : Value -> Prop) : Prop :=
 match x with
 | .string s => K (.int .i64 s.size)
 | _ => False

def pCap (x : Value) (K : Value -> Prop) : Prop :=
 match x with
 | .slice _ _ c => K (.int .i64 c)
 | _ => False

def pLenM (h : Heap) (x : Value) (K : Value -> Prop) : Prop :=
 match x with
 | .map none => K (.int .i64 0)
 | .map (some r) => (match h[r]? with
  | some (.map es _) => K (.int .i64 es.size)
  | _ => False)
 | _ => False

def pMin (x y : Value) (K : Value -> Prop) : Prop :=
 match x, y with
 | .int k a, .int _ b => K (.int k (if b < a then b else a))
 | _, _ => False

def pMax (x y : Value) (K : Value -> Prop) : Prop :=
 match x, y with
 | .int k a, .int _ b => K (.int k (if b > a then b else a))
 | _, _ => False

def key3 : Value -> Option (Int × Int × Int)
 | .agg cs => (match cs.toList with
  | [.int .i64 a, .int .i64 b, .int .i64 c] => some (a, b, c)
  | _ => none)
 | _ => none

def findA (k : Int × Int × Int) : List MapEntry -> Nat -> Option (Option (Nat × Value))
 | [], _ => some none
 | e :: es, i => (match key3 e.key with
  | some k' => if k = k' then some (some (i, e.val)) else findA k es (i + 1)
  | none => none)

def findK (kd : TypeDesc) (k : Value) (es : List MapEntry) : Option (Option (Nat × Value)) :=
 match kd with
 | .array _ _ => (match key3 k with
  | some k => findA k es 0
  | none => none)
 | kd => Instr.findNow kd k es 0

theorem findK_int {q : IntKind} {k : Value} {es : List MapEntry} : findK (.int q) k es = Instr.findNow (.int q) k es 0 := rfl

def pLook (kd : TypeDesc) (zero : Value) (ok : Bool) (h : Heap) (m k : Value) (K : Value -> Prop) : Prop :=
 match m with
 | .map none => (match findK kd k [] with
  | some _ => K (if ok then .tuple #[zero, .bool false] else zero)
  | none => False)
 | .map (some r) => (match h[r]? with
  | some (.map es _) => (match findK kd k es.toList with
   | some (some (_, v)) => K (if ok then .tuple #[v, .bool true] else v)
   | some none => K (if ok then .tuple #[zero, .bool false] else zero)
   | none => False)
  | _ => False)
 | _ => False

def spliceAll (cs : List Value) : List (Nat × Nat × Value) -> List Value
 | [] => cs
 | (off, _, v) :: r => spliceAll (cs.take off ++ v.cells.toList ++ cs.drop (off + v.cells.size)) r

def sizesOk (n : Nat) : List (Nat × Nat × Value) -> Prop
 | [] => True
 | (off, size, v) :: r => v.cells.size = size /\ off + size <= n /\ sizesOk n r

def pBuild (zero : List Value) (parts : List (Nat × Nat × Value)) (K : Value -> Prop) : Prop :=
 sizesOk zero.length parts /\ K (.agg (spliceAll zero parts).toArray)

def pBox (t : TypeId) (v : Value) (h : Heap) (K : KT) : Prop :=
 K (.pointer (some ⟨h.size, 0, none⟩)) (h.push (.cells v.cells t (0, 0)))

def pBuildSlice (t : TypeId) (zero : List Value) (parts : List (Nat × Nat × Value)) (len : Nat) (h : Heap) (K : KT) : Prop :=
 sizesOk zero.length parts /\ K (.slice (some ⟨h.size, 0, none⟩) len len) (h.push (.cells (spliceAll zero parts).toArray t (0, 0)))

def pMakeSlice (t : TypeId) (bytes : Nat) (zero : List Value) (len cap : Value) (h : Heap) (K : KT) : Prop :=
 match len, cap with
 | .int _ l, .int _ c => 0 <= l /\ l <= c /\ bytes * c <= 2 ^ 48 /\ c < 2 ^ 63 /\
   K (.slice (some ⟨h.size, 0, none⟩) l.toNat c.toNat) (h.push (.cells (List.replicate c.toNat zero).flatten.toArray t (0, 0)))
 | _, _ => False

def pMakeMap (h : Heap) (K : KT) : Prop := K (.map (some h.size)) (h.push (.map #[] 0))

def storeL (h : Heap) (b o : Nat) : List Value -> (Heap -> Prop) -> Prop
 | [], K => K h
 | v :: r, K => plainCell v = true /\ (hcell h ⟨b, o, none⟩).isSome = true /\ hfrozen h ⟨b, o, none⟩ = false /\ storeL (hset h ⟨b, o, none⟩ v) b (o + 1) r K

def pStore (n : Nat) (a v : Value) (h : Heap) (K : KT) : Prop :=
 match a with
 | .pointer (some ⟨b, o, none⟩) => v.cells.size = n /\ storeL h b o v.cells.toList (K undef)
 | _ => False

def cellsOfSl (h : Heap) (size n : Nat) : Option Addr -> Option (List Value)
 | none => some []
 | some ⟨b, o, none⟩ => cellsAt h b o (n * size)
 | _ => none

def zerosL (zero : List Value) (n : Nat) : List Value := (List.replicate n zero).flatten

def pAppend (t : TypeId) (size bytes : Nat) (zero : List Value) (s x : Value) (h : Heap) (K : KT) : Prop :=
 match s, x with
 | .slice base sLen sCap, .slice xb n _ =>
  (match cellsOfSl h size n xb with
  | some new =>
   if sLen + n <= sCap then
    (match base with
    | some ⟨b, o, none⟩ => storeL h b (o + sLen * size) new (K (.slice base (sLen + n) sCap))
    | none => K (.slice none (sLen + n) sCap) h
    | _ => False)
   else
    (match cellsOfSl h size sLen base with
    | some old => Builtin.nextslicecap (sLen + n) sCap * bytes <= 2 ^ 48 /\ sLen + n < 2 ^ 63 /\
      ∀ c, sLen + n <= c -> c < 2 ^ 63 -> K (.slice (some ⟨h.size, 0, none⟩) (sLen + n) c) (h.push (.cells (old ++ new ++ zerosL zero (c - (sLen + n))).toArray t (0, 0)))
    | none => False)
  | none => False)
 | _, _ => False

def pClear (zero : List Value) (x : Value) (h : Heap) (K : KT) : Prop :=
 match x with
 | .slice none _ _ => K (.tuple #[]) h
 | .slice (some ⟨b, o, none⟩) n _ => (match n with
  | 0 => K (.tuple #[]) h
  | m + 1 => storeL h b o (zerosL zero (m + 1)) (K (.tuple #[])))
 | _ => False

def pAppendZ (t : TypeId) (size bytes : Nat) (zero : List Value) (s x : Value) (h : Heap) (K : KT) : Prop :=
 match s, x with
 | .slice base sLen sCap, .int .i64 l => 0 <= l /\ l < 2 ^ 63 /\ l * bytes <= 2 ^ 48 /\
   if sLen + l.toNat <= sCap then
    (match base with
    | some ⟨b, o, none⟩ => storeL h b (o + sLen * size) (zerosL zero l.toNat) (K (.slice base (sLen + l.toNat) sCap))
    | none => K (.slice none (sLen + l.toNat) sCap) h
    | _ => False)
   else
    (match cellsOfSl h size sLen base with
    | some old => Builtin.nextslicecap (sLen + l.toNat) sCap * bytes <= 2 ^ 48 /\ sLen + l.toNat < 2 ^ 63 /\
      ∀ c, sLen + l.toNat <= c -> c < 2 ^ 63 -> K (.slice (some ⟨h.size, 0, none⟩) (sLen + l.toNat) c) (h.push (.cells (old ++ zerosL zero l.toNat ++ zerosL zero (c - (sLen + l.toNat))).toArray t (0, 0)))
    | none => False)
 | _, _ => False

def pCopy (size : Nat) (d x : Value) (h : Heap) (K : KT) : Prop :=
 match d, x with
 | .slice base dLen _, .slice xb n _ =>
  (match cellsOfSl h size (Nat.min n dLen) xb with
  | some new => (match base with
   | some ⟨b, o, none⟩ => storeL h b o new (K (.int .i64 (Nat.min n dLen)))
   | none => K (.int .i64 (Nat.min n dLen)) h
   | _ => False)
  | none => False)
 | _, _ => False

def pMapSet (kd : TypeDesc) (m k v : Value) (h : Heap) (K : KT) : Prop :=
 match m with
 | .map (some r) => (match h[r]? with
  | some (.map es clock) => (match findK kd k es.toList with
   | some (some (i, _)) => K undef (h.setIfInBounds r (.map (es.modify i fun e => { e with key := k, val := v }) clock))
   | some none => K undef (h.setIfInBounds r (.map (es.push { key := k, val := v, born := clock }) (clock + 1)))
   | none => False)
  | _ => False)
 | _ => False

def pMapEntry (kd : TypeDesc) (zero : Value) (m k : Value) (h : Heap) (K : KT) : Prop :=
 match m with
 | .map (some r) => (match h[r]? with
  | some (.map es clock) => (match findK kd k es.toList with
   | some (some (i, v)) => K (.tuple #[v, .int .i64 (((es[i]?).map (·.born)).getD 0)]) (h.setIfInBounds r (.map (es.modify i fun e => { e with key := k }) clock))
   | some none => K (.tuple #[zero, .int .i64 clock]) (h.setIfInBounds r (.map (es.push { key := k, val := zero, born := clock }) (clock + 1)))
   | none => False)
  | _ => False)
 | _ => False

def pEntryStore (m s v : Value) (h : Heap) (K : KT) : Prop :=
 match m, s with
 | .map (some r), .int _ n => (match h[r]? with
  | some (.map es clock) => (match es.findIdx? (fun e => (e.born : Int) == n) with
   | some i => K undef (h.setIfInBounds r (.map (es.modify i fun e => { e with val := v }) clock))
   | none => False)
  | _ => False)
 | _, _ => False

def pDelete (kd : TypeDesc) (m k : Value) (h : Heap) (K : KT) : Prop :=
 match m with
 | .map none => (match findK kd k [] with
  | some _ => K (.tuple #[]) h
  | none => False)
 | .map (some r) => (match h[r]? with
  | some (.map es clock) => (match findK kd k es.toList with
   | some (some (i, _)) => K (.tuple #[]) (h.setIfInBounds r (.map (es.eraseIdxIfInBounds i) clock))
   | some none => K (.tuple #[]) (h.setIfInBounds r (.map es clock))
   | none => False)
  | _ => False)
 | _ => False

def pRangeM (m : Value) (h : Heap) (K : KT) : Prop :=
 match m with
 | .map none => K (.pointer (some ⟨h.size, 0, none⟩)) (h.push (.mapIter none 0 #[] 0))
 | .map (some b) => (match h[b]? with
  | some (.map _ clock) => K (.pointer (some ⟨h.size, 0, none⟩)) (h.push (.mapIter (some b) clock #[] clock))
  | _ => False)
 | _ => False

def unmet (es : Array MapEntry) (seen : Array Nat) : Array MapEntry := es.filter fun e => !seen.contains e.born

def pNextM (it : Value) (h : Heap) (K : KT) : Prop :=
 match it with
 | .pointer (some ⟨r, 0, none⟩) => (match h[r]? with
  | some (.mapIter none _ _ _) => K (.tuple #[.bool false]) h
  | some (.mapIter (some m) since seen last) => (match h[m]? with
   | some (.map es clock) => (!seen.isEmpty && !es.isEmpty && es.all (fun e => e.born >= last)) = false /\
    (∀ e ∈ unmet es seen, K (.tuple #[.bool true, e.key, e.val]) (h.setIfInBounds r (.mapIter (some m) since (seen.push e.born) clock))) /\
    (((unmet es seen).filter fun e => e.born < since).isEmpty = true -> K (.tuple #[.bool false]) h)
   | _ => False)
  | _ => False)
 | _ => False

def pEntryM (it : Value) (h : Heap) (K : Value -> Prop) : Prop :=
 match it with
 | .pointer (some ⟨r, 0, none⟩) => (match h[r]? with
  | some (.mapIter (some m) _ seen stepped) => (match seen.back?, h[m]? with
   | some stamp, some (.map es clock) => clock = stepped /\ (match es.find? fun e => e.born == stamp with
    | some e => K (.tuple #[e.key, e.val])
    | none => False)
   | _, _ => False)
  | _ => False)
 | _ => False

def pushB : List Value -> ByteArray -> Option ByteArray
 | [], s => some s
 | .int .u8 n :: r, s => pushB r (s.push (UInt8.ofNat n.toNat))
 | _ :: _, _ => none

def pConvBS (h : Heap) (x : Value) (K : Value -> Prop) : Prop :=
 match x with
 | .slice none _ _ => K (.string .empty)
 | .slice (some ⟨b, o, none⟩) len _ => (match cellsAt h b o len with
  | some l => (match pushB l .empty with
   | some s => K (.string s)
   | none => False)
  | none => False)
 | _ => False

def pCopyS (d x : Value) (h : Heap) (K : KT) : Prop :=
 match d, x with
 | .slice base dLen _, .string s =>
  (match base with
   | some ⟨b, o, none⟩ => storeL h b o ((s.extract 0 (Nat.min s.size dLen)).data.map fun b => Value.int .u8 b.toNat).toList (K (.int .i64 (Nat.min s.size dLen)))
   | none => K (.int .i64 (Nat.min s.size dLen)) h
   | _ => False)
 | _, _ => False

open Go

section
variable {P : Program} {h : Heap}

theorem rdS_underlying {t : TypeId} {d : TypeDesc} (hd : P.underlying t = some d) : rdS P (underlying t) h = some d := by
 simp [underlying, program, bind, Sem.bind, rdS, hd, pure]

theorem rdS_typeInfo {t : TypeId} {i : TypeInfo} (hi : P.info? t = some i) : rdS P (typeInfo t) h = some i := by
 simp [typeInfo, program, bind, Sem.bind, rdS, hi, pure]

theorem rdS_sizeOf {t : TypeId} {i : TypeInfo} (hi : P.info? t = some i) : rdS P (sizeOf t) h = some i.size := by
 unfold sizeOf; rw [rdS_bind (rdS_typeInfo hi)]; rfl

theorem rdS_zeroValue {t : TypeId} {i : TypeInfo} {z : Value} (hi : P.info? t = some i) (hz : i.zero = some z) : rdS P (zeroValue t) h = some z := by
 unfold zeroValue; rw [rdS_bind (rdS_typeInfo hi)]; simp [hz, rdS, pure]

theorem rdS_load {a : Addr} {v : Value} (hv : hcell h a = some v) : rdS P (load a) h = some v := by
 simp [load, rdS, hv]

theorem addr_add (b o n : Nat) : (⟨b, o, none⟩ : Addr).add n = ⟨b, o + n, none⟩ := by
 unfold Addr.add; split
 ·subst_vars; rfl
 ·rfl

theorem rdS_loadCellsFrom {b o : Nat} : ∀ (n i : Nat) (acc : Array Value) {l : List Value}, cellsAt h b (o + i) n = some l ->
  rdS P (loadCellsFrom ⟨b, o, none⟩ i n acc) h = some (acc ++ l.toArray)
 | 0, i, acc, l, hl => by
  simp only [cellsAt, Option.some.injEq] at hl; subst hl
  simp [loadCellsFrom, rdS, pure]
 | n + 1, i, acc, l, hl => by
  simp only [cellsAt] at hl
  split at hl
  ·rename_i v hv
   split at hl
   ·rename_i l' hl'
    simp only [Option.some.injEq] at hl; subst hl
    unfold loadCellsFrom
    rw [rdS_bind (rdS_load (by rw [addr_add]; exact hv))]
    rw [rdS_loadCellsFrom n (i + 1) (acc.push v) (l := l') (by rw [<- Nat.add_assoc]; exact hl')]
    simp
   ·cases hl
  ·cases hl

theorem rdS_loadCells {b o n : Nat} {l : List Value} (hl : cellsAt h b o n = some l) : rdS P (loadCells ⟨b, o, none⟩ n) h = some l.toArray := by
 unfold loadCells; rw [rdS_loadCellsFrom n 0 #[] (by simpa using hl)]; simp

theorem rdS_pure {α : Type} (a : α) : rdS P (pure a : Sem α) h = some a := rfl

end

def isAggD : TypeDesc -> Bool
 | .struct _ | .array _ _ => true
 | _ => false

def simpleKey : TypeDesc -> Bool
 | .int _ | .string | .bool => true
 | _ => false

def okKey (P : Program) : TypeDesc -> Bool
 | .array n e => Nat.beq n 3 && (match P.underlying e, P.info? e with
  | some (.int .i64), some i => Nat.beq i.size 1
  | _, _ => false)
 | d => simpleKey d

def eqKind : TypeDesc -> Option EqK
 | .bool => some .bool
 | .pointer _ => some .ptr
 | .slice _ => some .slice
 | .map _ _ => some .map
 | .func _ _ _ => some .func
 | .interface _ => some .iface
 | _ => none

def isStrT (P : Program) : Option TypeId -> Bool
 | some t => (match P.underlying t with
  | some .string => true
  | _ => false)
 | none => false

def litOf : Operand -> Bool
 | .const _ => true
 | _ => false

def isIfaceK : EqK -> Bool
 | .iface => true
 | _ => false

def pBinT (d : TypeDesc) (op : BinOp) (lit : Bool) (x y : Value) (K : Value -> Prop) : Prop :=
 match eqKind d with
 | some k => (match isIfaceK k && !lit with
  | true => False
  | false => (match op with
   | .eql => pEq false k x y K
   | .neq => pEq true k x y K
   | _ => False))
 | none => pBin op x y K

def intFields (P : Program) : List Field -> Nat -> Bool
 | [], _ => true
 | f :: r, i => Nat.beq f.offset i && (!(f.name == "_") && ((match P.underlying f.type with
  | some (.int .i64) => true
  | _ => false) && intFields P r (i + 1)))

def eqInts (P : Program) (t : TypeId) (fs : Array Field) : Bool := !P.stoodInHeld t && (!P.eqGuardType P.depth t && intFields P fs.toList 0)

def placed (place : Nat -> Option (Nat × Nat)) : List (Nat × Value) -> Option (List (Nat × Nat × Value))
 | [] => some []
 | (i, v) :: r => match place i with
  | some (off, size) => (match placed place r with
   | some l => some ((off, size, v) :: l)
   | none => none)
  | none => none

def qop (P : Program) (ρ : Operand -> Value) (op : Op) (h : Heap) (K : Value -> Prop) : Prop :=
 match op with
 | .move x | .assign x => K (ρ x)
 | .pick c a b => pPick (ρ c) (ρ a) (ρ b) K
 | .load t a => (match P.underlying t, P.info? t with
  | some d, some i => (match isAggD d with
   | true => pLoadN i.size h (ρ a) K
   | false => pLoad h (ρ a) K)
  | _, _ => False)
 | .nilCheck x => pNil (ρ x) K
 | .binOp op t x y _ => (match P.underlying t with
  | some (.struct fs) => (match eqInts P t fs with
   | true => pEqS op fs.size (ρ x) (ρ y) K
   | false => False)
  | some d => pBinT d op (litOf y) (ρ x) (ρ y) K
  | none => False)
 | .unOp op _ x => pUn op (ρ x) K
 | .convert s d x => (match P.underlying s, P.underlying d with
  | some _, some (.int k) => pConv k (ρ x) K
  | some (.slice e), some .string => (match P.underlying e with
   | some (.int .u8) => pConvBS h (ρ x) K
   | _ => False)
  | _, _ => False)
 | .entry it => pEntryM (ρ it) h K
 | .makeInterface t x => (match P.underlying t with
  | some (.interface _) => False
  | some _ => K (.iface t (ρ x))
  | none => False)
 | .makeFunc fn first captured => K (.func fn (first.toList.map ρ).toArray (captured.toList.map ρ).toArray)
 | .slice t x lo hi mx => (match P.underlying t with
  | some (.slice e) => (match P.info? e with
   | some i => pSlice i.size (ρ x) (lo.map ρ) (hi.map ρ) (mx.map ρ) K
   | none => False)
  | some .string => (match mx with
   | none => pSliceS (ρ x) (lo.map ρ) (hi.map ρ) K
   | some _ => False)
  | _ => False)
 | .fieldAddr s x f => (match P.underlying s with
  | some (.struct fs) => (match fs[f]? with
   | some fd => (match P.info? fd.type with
    | some i => (match i.size with
     | 0 => False
     | _ + 1 => pField fd.offset (ρ x) K)
    | none => False)
   | none => False)
  | _ => False)
 | .field t x f => (match P.underlying t with
  | some (.struct fs) => (match fs[f]? with
   | some fd => (match P.underlying fd.type, P.info? fd.type with
    | some d, some i => (match isAggD d with
     | true => pPartN fd.offset i.size (ρ x) K
     | false => pPart1 fd.offset (ρ x) K)
    | _, _ => False)
   | none => False)
  | _ => False)
 | .indexAddr t x i => (match P.underlying t with
  | some (.slice e) => (match P.info? e with
   | some info => pIdx info.size (ρ x) (ρ i) K
   | none => False)
  | some (.array n e) => (match P.info? e with
   | some info => pIdxA info.size n (ρ x) (ρ i) K
   | none => False)
  | _ => False)
 | .index t x i => (match P.underlying t with
  | some (.array n e) => (match P.underlying e, P.info? e with
   | some d, some info => (match isAggD d with
    | true => pIdxVN info.size n (ρ x) (ρ i) K
    | false => (match Nat.beq info.size 1 with
     | true => pIdxV1 n (ρ x) (ρ i) K
     | false => False))
   | _, _ => False)
  | some .string => pIdxS (ρ x) (ρ i) K
  | _ => False)
 | .lookup t m k ok => (match P.underlying t with
  | some (.map kt et) => (match P.underlying kt, P.info? et with
   | some kd, some ei => (match okKey P kd, ei.zero with
    | true, some z => pLook kd z ok h (ρ m) (ρ k) K
    | _, _ => False)
   | _, _ => False)
  | _ => False)
 | .extract x i => pExt (ρ x) i K
 | .build t parts => (match P.underlying t, P.info? t with
  | some (.struct fs), some i => (match i.zero with
   | some z => (match placed ((fs.toList.map fun f => (f.offset, P.cellsOf f.type))[·]?) (parts.toList.map fun (j, x) => (j, ρ x)), fs.toList.all (fun f => (P.info? f.type).isSome) with
    | some ps, true => pBuild z.cells.toList ps K
    | _, _ => False)
   | none => False)
  | some (.array _ e), some i => (match i.zero, P.info? e with
   | some z, some ei => pBuild z.cells.toList (parts.toList.map fun (j, x) => (j * ei.size, ei.size, ρ x)) K
   | _, _ => False)
  | _, _ => False)
 | .call c => (match c.callee with
  | .builtin .len => (match c.argTypes[0]?, c.args[0]? with
   | some t, some x => (match P.underlying t with
    | some (.slice _) => pLen (ρ x) K
    | some .string => pLenS (ρ x) K
    | some (.map _ _) => pLenM h (ρ x) K
    | some (.array n _) => K (.int .i64 n)
    | _ => False)
   | _, _ => False)
  | .builtin .cap => (match c.argTypes[0]?, c.args[0]? with
   | some t, some x => (match P.underlying t with
    | some (.slice _) => pCap (ρ x) K
    | _ => False)
   | _, _ => False)
  | .builtin .min => (match c.args.toList with
   | [x, y] => pMin (ρ x) (ρ y) K
   | [x, y, z] => pMin (ρ x) (ρ y) fun u => pMin u (ρ z) K
   | _ => False)
  | .builtin .max => (match c.args.toList with
   | [x, y] => pMax (ρ x) (ρ y) K
   | [x, y, z] => pMax (ρ x) (ρ y) fun u => pMax u (ρ z) K
   | _ => False)
  | _ => False)
 | _ => False

open Go

section
variable {P : Program} {h : Heap}

theorem rdv {s : Sem Value} {v : Value} (hv : rdS P s h = some v) : rdS P (do pure (Next.value (<- s)) : Sem Next) h = some (.value v) := by
 rw [rdS_bind hv]; rfl

theorem rdS_isAgg {t : TypeId} {d : TypeDesc} (hd : P.underlying t = some d) : rdS P (isAgg t) h = some (isAggD d) := by
 unfold isAgg
 rw [rdS_bind (rdS_underlying hd)]
 cases d <;> rfl

theorem load_sound {t : TypeId} {d : TypeDesc} {i : TypeInfo} {a : Value} {K : Value -> Prop} (hd : P.underlying t = some d) (hi : P.info? t = some i)
  (hq : match isAggD d with
   | true => pLoadN i.size h a K
   | false => pLoad h a K) : ∃ v, rdS P (Instr.loadAt t a) h = some v /\ K v := by
 cases had : isAggD d with
 | false =>
  simp only [had] at hq
  unfold pLoad at hq
  split at hq
  ·rename_i b o
   split at hq
   ·rename_i v hv
    refine ⟨v, ?_, hq⟩
    unfold Instr.loadAt
    rw [rdS_bind (a := ⟨b, o, none⟩) (by simp [Instr.sureAddr, rdS, pure])]
    unfold loadVar
    rw [rdS_bind (rdS_isAgg hd), had]
    exact rdS_load hv
   ·exact hq.elim
  ·exact hq.elim
 | true =>
  simp only [had] at hq
  unfold pLoadN at hq
  split at hq
  ·rename_i b o
   split at hq
   ·rename_i l hl
    refine ⟨_, ?_, hq⟩
    unfold Instr.loadAt
    rw [rdS_bind (a := ⟨b, o, none⟩) (by simp [Instr.sureAddr, rdS, pure])]
    unfold loadVar
    rw [rdS_bind (rdS_isAgg hd), had]
    simp only [if_true]
    rw [rdS_bind (rdS_sizeOf hi), rdS_bind (rdS_loadCells hl)]; rfl
   ·exact hq.elim
  ·exact hq.elim

theorem bin_sound {op : BinOp} {t : TypeId} {x y : Value} {K : Value -> Prop} (hq : pBin op x y K) : ∃ v, rdS P (binOp op t x y) h = some v /\ K v := by
 cases x <;> cases y <;> cases op <;> simp only [pBin] at hq <;>
  first
   | exact hq.elim
   | (obtain ⟨rfl, hb, hk⟩ := hq; exact ⟨_, by simp [binOp, Op.intDiv, rdS, pure, hb], hk⟩)
   | (obtain ⟨rfl, hk⟩ := hq; exact ⟨_, by simp [binOp, Op.intArith, Op.intCmp, Op.intBits, rdS, pure], hk⟩)
   | (obtain ⟨hb, hk⟩ := hq; exact ⟨_, by simp only [binOp, Op.shift]; rw [if_neg (by omega)]; rfl, hk⟩)
   | exact ⟨_, by simp [binOp, Op.stringOp, rdS, pure], hq⟩
   | (obtain ⟨hb, hk⟩ := hq; exact ⟨_, by simp only [binOp, Op.stringOp]; rw [if_neg (by rw [show IntKind.i64.max = 9223372036854775807 by decide]; omega)]; rfl, hk⟩)

theorem guard_plain {op : BinOp} {t : TypeId} {x y : Operand} {a b : Value} (ha : ∀ cs, a ≠ .agg cs) (hn : ¬ (a = .nilIface /\ b = .nilIface)) :
  rdS P (eqGuard op t x y a b) h = some () := by
 unfold eqGuard
 cases op <;> simp [rdS, pure] <;>
 ·cases a <;> cases b <;> first | rfl | (exact (ha _ rfl).elim) | (exact (hn ⟨rfl, rfl⟩).elim)

theorem guard_lit {op : BinOp} {t : TypeId} {x y : Operand} {a b : Value} (ha : ∀ cs, a ≠ .agg cs) (hl : litOf y = true) :
  rdS P (eqGuard op t x y a b) h = some () := by
 unfold eqGuard
 cases y <;> simp [litOf] at hl
 cases op <;> simp [rdS, pure] <;>
 ·cases a <;> cases b <;> first | rfl | (exact (ha _ rfl).elim)

theorem bin_noAgg {op : BinOp} {x y : Value} {K : Value -> Prop} (hq : pBin op x y K) : (∀ cs, x ≠ .agg cs) /\ x ≠ .nilIface := by
 constructor
 ·rintro cs rfl; cases op <;> exact hq.elim
 ·rintro rfl; cases op <;> exact hq.elim

theorem eq_sound {neg : Bool} {t : TypeId} {d : TypeDesc} {k : EqK} {x y : Value} {K : Value -> Prop} (hd : P.underlying t = some d) (hk : eqKind d = some k) (hq : pEq neg k x y K) :
  ∃ b, rdS P (Op.equal t x y) h = some b /\ K (.bool (xor neg b)) := by
 unfold pEq at hq
 split at hq <;> (try exact hq.elim) <;> cases d <;> simp only [eqKind, Option.some.injEq, reduceCtorEq] at hk <;>
  (refine ⟨_, ?_, hq⟩; unfold Op.equal Op.maxDepth Op.equalIn; rw [rdS_bind (rdS_underlying hd)]; rfl)

theorem eq_noAgg {neg : Bool} {d : EqK} {x y : Value} {K : Value -> Prop} (hq : pEq neg d x y K) : (∀ cs, x ≠ .agg cs) /\ (x = .nilIface -> d = .iface /\ y = .nilIface) := by
 constructor
 ·rintro cs rfl; cases d <;> exact hq.elim
 ·rintro rfl; unfold pEq at hq; split at hq <;> simp_all

theorem eq_not {d : EqK} {x y : Value} {neg : Bool} {K : Value -> Prop} (hq : pEq neg d x y K) (op : BinOp) (t : TypeId) (ho : op = .eql \/ op = .neq) :
  binOp op t x y = (match op with
   | .eql => do pure (.bool (<- Op.equal t x y))
   | _ => do pure (.bool (!(<- Op.equal t x y)))) := by
 unfold pEq at hq
 split at hq <;> first
  | exact hq.elim
  | (rcases ho with rfl | rfl <;> rfl)

theorem slBase_eq {size l m : Nat} {a : Option Addr} : (if m = l then a else a.map (·.add (l * size))) = slBase size l m a := by
 unfold slBase
 split
 ·rfl
 ·split
  ·simp [addr_add]
  ·rfl

theorem bound_sound {v : Option Value} {d y : Nat} {code : BoundsCode} {i : Int} (hb : bndOf d v = some i) (h0 : 0 <= i) (h1 : i <= y) :
  v = none /\ i = d \/ ∃ u, v = some u /\ rdS P (Instr.sliceBound u y code) h = some i.toNat := by
 unfold bndOf at hb
 split at hb
 ·simp only [Option.some.injEq] at hb; exact .inl ⟨rfl, hb.symm⟩
 ·rename_i k j
  simp only [Option.some.injEq] at hb; subst hb
  refine .inr ⟨_, rfl, ?_⟩
  unfold Instr.sliceBound
  rw [rdS_bind (a := (k, j)) (by simp [asIntOf, rdS, pure])]
  simp [h0, h1, rdS, pure]
 ·cases hb

theorem bounds_sound {b : Bool} {len cap : Nat} {lo hi mx : Option Value} {l hh m : Int} (hl : bndOf 0 lo = some l) (hh' : bndOf len hi = some hh) (hm : bndOf cap mx = some m)
  (hmx : mx.isSome = true -> hi.isSome = true) (h0 : 0 <= l) (h1 : l <= hh) (h2 : hh <= m) (h3 : m <= cap) :
  rdS P (Instr.sliceBounds b len cap lo hi mx) h = some (l.toNat, hh.toNat, m.toNat) := by
 have hle : hh <= (m.toNat : Int) := by omega
 have hle2 : l <= (hh.toNat : Int) := by omega
 have B := fun (code : BoundsCode) => bound_sound (P := P) (h := h) (code := code) hm (by omega) h3
 have C := fun (code : BoundsCode) => bound_sound (P := P) (h := h) (code := code) hh' (by omega) hle
 have D := fun (code : BoundsCode) => bound_sound (P := P) (h := h) (code := code) hl h0 hle2
 unfold Instr.sliceBounds
 cases mx with
 | none =>
  have em : (m.toNat : Nat) = cap := by rcases B .index with ⟨_, e⟩ | ⟨_, e, _⟩ <;> simp_all
  cases hi with
  | none =>
   have eh : (hh.toNat : Nat) = len := by rcases C .index with ⟨_, e⟩ | ⟨_, e, _⟩ <;> simp_all
   cases lo with
   | none =>
    have el : (l.toNat : Nat) = 0 := by rcases D .index with ⟨_, e⟩ | ⟨_, e, _⟩ <;> simp_all
    dsimp only
    rw [rdS_bind (rdS_pure _), rdS_bind (rdS_pure _), rdS_bind (rdS_pure _), em, eh, el]; rfl
   | some u =>
    have hu : ∀ c, rdS P (Instr.sliceBound u hh.toNat c) h = some l.toNat := fun c => by rcases D c with ⟨e, _⟩ | ⟨_, e, q⟩ <;> simp_all
    dsimp only
    rw [rdS_bind (rdS_pure _), rdS_bind (rdS_pure _)]
    rw [eh] at hu ⊢
    rw [rdS_bind (hu _), em]; rfl
  | some v =>
   have hv : ∀ c, rdS P (Instr.sliceBound v m.toNat c) h = some hh.toNat := fun c => by rcases C c with ⟨e, _⟩ | ⟨_, e, q⟩ <;> simp_all
   rw [em] at hv ⊢
   cases lo with
   | none =>
    have el : (l.toNat : Nat) = 0 := by rcases D .index with ⟨_, e⟩ | ⟨_, e, _⟩ <;> simp_all
    dsimp only
    rw [rdS_bind (rdS_pure _), rdS_bind (hv _), rdS_bind (rdS_pure _), el]; rfl
   | some u =>
    have hu : ∀ c, rdS P (Instr.sliceBound u hh.toNat c) h = some l.toNat := fun c => by rcases D c with ⟨e, _⟩ | ⟨_, e, q⟩ <;> simp_all
    dsimp only
    rw [rdS_bind (rdS_pure _), rdS_bind (hv _), rdS_bind (hu _)]; rfl
 | some x =>
  have hx : ∀ c, rdS P (Instr.sliceBound x cap c) h = some m.toNat := fun c => by rcases B c with ⟨e, _⟩ | ⟨_, e, q⟩ <;> simp_all
  cases hi with
  | none => simp at hmx
  | some v =>
   have hv : ∀ c, rdS P (Instr.sliceBound v m.toNat c) h = some hh.toNat := fun c => by rcases C c with ⟨e, _⟩ | ⟨_, e, q⟩ <;> simp_all
   cases lo with
   | none =>
    have el : (l.toNat : Nat) = 0 := by rcases D .index with ⟨_, e⟩ | ⟨_, e, _⟩ <;> simp_all
    dsimp only
    rw [rdS_bind (hx _), rdS_bind (hv _), rdS_bind (rdS_pure _), el]; rfl
   | some u =>
    have hu : ∀ c, rdS P (Instr.sliceBound u hh.toNat c) h = some l.toNat := fun c => by rcases D c with ⟨e, _⟩ | ⟨_, e, q⟩ <;> simp_all
    dsimp only
    rw [rdS_bind (hx _), rdS_bind (hv _), rdS_bind (hu _)]; rfl

theorem findNow_some {kd : TypeDesc} {k : Value} : ∀ {es : List MapEntry} {j i : Nat} {v : Value}, Instr.findNow kd k es j = some (some (i, v)) ->
  j <= i /\ ∃ e, es[i - j]? = some e /\ e.val = v /\ Instr.sameNow kd k e.key = some true
 | [], j, i, v, hf => by simp [Instr.findNow] at hf
 | e :: es, j, i, v, hf => by
  simp only [Instr.findNow] at hf
  split at hf
  ·rename_i hs
   simp only [Option.some.injEq, Prod.mk.injEq] at hf
   obtain ⟨rfl, rfl⟩ := hf
   exact ⟨Nat.le_refl _, e, by simp, rfl, hs⟩
  ·obtain ⟨hle, e', he', hv, hs⟩ := findNow_some hf
   refine ⟨by omega, e', ?_, hv, hs⟩
   have : i - j = (i - (j + 1)) + 1 := by omega
   rw [this]; simpa using he'
  ·cases hf

theorem key3_of {k : Value} {a : Int × Int × Int} (hk : key3 k = some a) : k = .agg #[.int .i64 a.1, .int .i64 a.2.1, .int .i64 a.2.2] := by
 unfold key3 at hk
 split at hk
 ·rename_i cs
  split at hk
  ·rename_i x y z e
   cases hk
   have : cs = #[.int .i64 x, .int .i64 y, .int .i64 z] := by apply Array.ext'; simpa using e
   rw [this]
  ·cases hk
 ·cases hk

theorem okKey_array {n : Nat} {e : TypeId} (hs : okKey P (.array n e) = true) : n = 3 /\ P.underlying e = some (.int .i64) /\ ∃ i, P.info? e = some i /\ i.size = 1 := by
 simp only [okKey, Bool.and_eq_true] at hs
 obtain ⟨h1, h2⟩ := hs
 split at h2
 ·rename_i i hu hi
  exact ⟨Nat.eq_of_beq_eq_true h1, hu, i, hi, Nat.eq_of_beq_eq_true h2⟩
 ·cases h2

theorem rdS_part3 {e : TypeId} {i : Nat} {cs : Array Value} {v : Value} (hu : P.underlying e = some (.int .i64)) (hv : cs[i]? = some v) : rdS P (part e cs i) h = some v := by
 unfold part
 rw [rdS_bind (rdS_isAgg hu)]
 simp only [isAggD, Bool.false_eq_true, if_false, hv]
 rfl

theorem checkKey_int {e : TypeId} {em : Bool} {n : Nat} {x : Int} (hu : P.underlying e = some (.int .i64)) : rdS P (Instr.checkKey em (n + 1) e (.int .i64 x)) h = some () := by
 unfold Instr.checkKey
 rw [rdS_bind (rdS_underlying hu)]
 rfl

theorem checkKey_ok {kt : TypeId} {kd : TypeDesc} {em : Bool} {n : Nat} {k : Value} {es : List MapEntry} {r : Option (Nat × Value)} (hd : P.underlying kt = some kd) (hs : okKey P kd = true) (hf : findK kd k es = some r) :
  rdS P (Instr.checkKey em (n + 2) kt k) h = some () := by
 by_cases ha : ∃ m e, kd = .array m e
 ·obtain ⟨m, e, rfl⟩ := ha
  obtain ⟨rfl, hu, i, hi, h1⟩ := okKey_array hs
  simp only [findK] at hf
  split at hf
  ·rename_i a hk
   rw [key3_of hk]
   unfold Instr.checkKey
   rw [rdS_bind (rdS_underlying hd)]
   simp only [Std.Legacy.Range.forIn_eq_forIn_range', Std.Legacy.Range.size, Nat.sub_zero, Nat.add_sub_cancel, Nat.div_one, List.range'_succ, List.range'_zero, List.forIn_cons, List.forIn_nil]
   have hsz := rdS_sizeOf (h := h) hi
   rw [h1] at hsz
   have c0 := checkKey_int (h := h) (em := em) (n := n) (x := a.1) hu
   have c1 := checkKey_int (h := h) (em := em) (n := n) (x := a.2.1) hu
   have c2 := checkKey_int (h := h) (em := em) (n := n) (x := a.2.2) hu
   have p0 : rdS P (part e #[.int .i64 a.1, .int .i64 a.2.1, .int .i64 a.2.2] (0 * 1)) h = some (.int .i64 a.1) := rdS_part3 hu rfl
   have p1 : rdS P (part e #[.int .i64 a.1, .int .i64 a.2.1, .int .i64 a.2.2] ((0 + 1) * 1)) h = some (.int .i64 a.2.1) := rdS_part3 hu rfl
   have p2 : rdS P (part e #[.int .i64 a.1, .int .i64 a.2.1, .int .i64 a.2.2] ((0 + 1 + 1) * 1)) h = some (.int .i64 a.2.2) := rdS_part3 hu rfl
   simp only [bind_assoc, pure_bind]
   rw [rdS_bind hsz, rdS_bind p0, rdS_bind c0, rdS_bind hsz, rdS_bind p1, rdS_bind c1, rdS_bind hsz, rdS_bind p2, rdS_bind c2]
   rfl
  ·cases hf
 ·have : simpleKey kd = true := by
   cases kd <;> first | exact hs | exact (ha ⟨_, _, rfl⟩).elim
  unfold Instr.checkKey
  rw [rdS_bind (rdS_underlying hd)]
  cases kd <;> simp_all [simpleKey, rdS, pure]

theorem equal_int {d : Nat} {e : TypeId} {x y : Int} (hu : P.underlying e = some (.int .i64)) : rdS P (Op.equalIn (d + 1) e (.int .i64 x) (.int .i64 y)) h = some (x == y) := by
 unfold Op.equalIn
 rw [rdS_bind (rdS_underlying hu)]
 rfl

theorem equal3_ok {kt e : TypeId} {i : TypeInfo} {a b : Int × Int × Int} (hd : P.underlying kt = some (.array 3 e)) (hu : P.underlying e = some (.int .i64)) (hi : P.info? e = some i) (h1 : i.size = 1) :
  rdS P (Op.equal kt (.agg #[.int .i64 a.1, .int .i64 a.2.1, .int .i64 a.2.2]) (.agg #[.int .i64 b.1, .int .i64 b.2.1, .int .i64 b.2.2])) h = some (decide (a = b)) := by
 unfold Op.equal Op.maxDepth Op.equalIn
 rw [rdS_bind (rdS_underlying hd)]
 simp only [Std.Legacy.Range.forIn_eq_forIn_range', Std.Legacy.Range.size, Nat.sub_zero, Nat.add_sub_cancel, Nat.div_one, List.range'_succ, List.range'_zero, List.forIn_cons, List.forIn_nil]
 have hsz := rdS_sizeOf (h := h) hi
 rw [h1] at hsz
 have q : ∀ x y : Int, rdS P (Op.equalIn 9999 e (.int .i64 x) (.int .i64 y)) h = some (x == y) := fun x y => equal_int hu
 have pt0 : ∀ x y z : Int, rdS P (part e #[.int .i64 x, .int .i64 y, .int .i64 z] (0 * 1)) h = some (.int .i64 x) := fun x y z => rdS_part3 hu rfl
 have pt1 : ∀ x y z : Int, rdS P (part e #[.int .i64 x, .int .i64 y, .int .i64 z] ((0 + 1) * 1)) h = some (.int .i64 y) := fun x y z => rdS_part3 hu rfl
 have pt2 : ∀ x y z : Int, rdS P (part e #[.int .i64 x, .int .i64 y, .int .i64 z] ((0 + 1 + 1) * 1)) h = some (.int .i64 z) := fun x y z => rdS_part3 hu rfl
 simp only [bind_assoc, pure_bind]
 rw [rdS_bind hsz]
 rw [rdS_bind (pt0 _ _ _), rdS_bind (pt0 _ _ _), rdS_bind (q _ _)]
 obtain ⟨a1, a2, a3⟩ := a
 obtain ⟨b1, b2, b3⟩ := b
 dsimp only
 cases e1 : (a1 == b1) with
 | false =>
  have : ¬ a1 = b1 := by simpa using e1
  rw [decide_eq_false (by rintro ⟨⟩; exact this rfl)]
  rfl
 | true =>
  have e1 : a1 = b1 := by simpa using e1
  subst e1
  simp only [Bool.not_true, Bool.false_eq_true, if_false, bind_assoc, pure_bind]
  rw [rdS_bind (pt1 _ _ _), rdS_bind (pt1 _ _ _), rdS_bind (q _ _)]
  cases e2 : (a2 == b2) with
  | false =>
   have : ¬ a2 = b2 := by simpa using e2
   rw [decide_eq_false (by rintro ⟨⟩; exact this rfl)]
   rfl
  | true =>
   have e2 : a2 = b2 := by simpa using e2
   subst e2
   simp only [Bool.not_true, Bool.false_eq_true, if_false, bind_assoc, pure_bind]
   rw [rdS_bind (pt2 _ _ _), rdS_bind (pt2 _ _ _), rdS_bind (q _ _)]
   cases e3 : (a3 == b3) with
   | false =>
    have : ¬ a3 = b3 := by simpa using e3
    rw [decide_eq_false (by rintro ⟨⟩; exact this rfl)]
    rfl
   | true =>
    have e3 : a3 = b3 := by simpa using e3
    subst e3
    rw [decide_eq_true rfl]
    rfl

theorem findAsking_ok {kt e : TypeId} {i : TypeInfo} {k : Value} {a : Int × Int × Int} (hd : P.underlying kt = some (.array 3 e)) (hu : P.underlying e = some (.int .i64)) (hi : P.info? e = some i) (h1 : i.size = 1) (hk : key3 k = some a) :
  ∀ {es : List MapEntry} {j : Nat} {r : Option (Nat × Value)}, findA a es j = some r -> rdS P (Instr.findAsking kt k es j) h = some r
 | [], j, r, hf => by simpa [Instr.findAsking, findA, rdS, pure] using hf
 | x :: es, j, r, hf => by
  simp only [findA] at hf
  split at hf
  ·rename_i k' hk'
   unfold Instr.findAsking
   rw [key3_of hk, key3_of hk', rdS_bind (equal3_ok hd hu hi h1)]
   by_cases e : a = k'
   ·rw [if_pos e] at hf
    rw [decide_eq_true e, if_pos rfl]
    simpa [rdS, pure] using hf
   ·rw [if_neg e] at hf
    rw [decide_eq_false e, if_neg (by simp), <- key3_of hk]
    exact findAsking_ok hd hu hi h1 hk hf
  ·cases hf

theorem findK_nil {kd : TypeDesc} {k : Value} {r : Option (Nat × Value)} (hf : findK kd k [] = some r) : r = none := by
 unfold findK at hf
 split at hf
 ·split at hf
  ·simp [findA] at hf; exact hf.symm
  ·cases hf
 ·simp [Instr.findNow] at hf; exact hf.symm

theorem findKey_ok {kt : TypeId} {kd : TypeDesc} {k : Value} {es : List MapEntry} {r : Option (Nat × Value)} (hd : P.underlying kt = some kd) (hs : okKey P kd = true)
  (hf : findK kd k es = some r) : rdS P (Instr.findKey kt k es) h = some r := by
 by_cases ha : ∃ m e, kd = .array m e
 ·obtain ⟨m, e, rfl⟩ := ha
  obtain ⟨rfl, hu, i, hi, h1⟩ := okKey_array hs
  simp only [findK] at hf
  split at hf
  ·rename_i a hk
   unfold Instr.findKey
   rw [rdS_bind (rdS_underlying hd)]
   cases es with
   | nil => simpa [Instr.findNow, findA, rdS, pure] using hf
   | cons x es =>
    simp only [Instr.findNow, Instr.sameNow]
    exact findAsking_ok hd hu hi h1 hk hf
  ·cases hf
 ·have hf' : Instr.findNow kd k es 0 = some r := by
   cases kd <;> first | exact hf | exact (ha ⟨_, _, rfl⟩).elim
  unfold Instr.findKey
  rw [rdS_bind (rdS_underlying hd)]
  simp [hf', rdS, pure]

theorem look_sound {t kt et : TypeId} {kd : TypeDesc} {ei : TypeInfo} {z : Value} {ok : Bool} {m k : Value} {K : Value -> Prop}
  (ht : P.underlying t = some (.map kt et)) (hk : P.underlying kt = some kd) (he : P.info? et = some ei) (hs : okKey P kd = true) (hz : ei.zero = some z)
  (hq : pLook kd z ok h m k K) : ∃ v, rdS P (Instr.lookup t m k ok) h = some v /\ K v := by
 have hz' := rdS_zeroValue (h := h) he hz
 unfold pLook at hq
 split at hq
 ·split at hq
  ·rename_i r hf
   obtain rfl := findK_nil hf
   refine ⟨_, ?_, hq⟩
   unfold Instr.lookup
   rw [rdS_bind (rdS_underlying ht)]
   dsimp only
   rw [rdS_bind (rdS_pure _), rdS_bind (checkKey_ok (n := 9998) hk hs hf), rdS_bind (findKey_ok hk hs hf)]
   dsimp only
   rw [rdS_bind hz']
   rfl
  ·exact hq.elim
 ·rename_i r
  split at hq
  ·rename_i es clock hm
   have hget : rdS P (getObj r) h = some (.map es clock) := by simp [getObj, rdS, hm]
   unfold Instr.lookup
   rw [rdS_bind (rdS_underlying ht)]
   dsimp only
   rw [rdS_bind hget]
   dsimp only
   rw [rdS_bind (rdS_pure _)]
   split at hq
   ·rename_i i v hf
    refine ⟨_, ?_, hq⟩
    rw [rdS_bind (checkKey_ok (n := 9998) hk hs hf), rdS_bind (findKey_ok hk hs hf)]
    rfl
   ·rename_i hf
    refine ⟨_, ?_, hq⟩
    rw [rdS_bind (checkKey_ok (n := 9998) hk hs hf), rdS_bind (findKey_ok hk hs hf)]
    dsimp only
    rw [rdS_bind hz']; rfl
   ·exact hq.elim
  ·exact hq.elim
 ·exact hq.elim

end
open Go

section
variable {P : Program} {h : Heap}

theorem idx_sound {t e : TypeId} {info : TypeInfo} {x i : Value} {K : Value -> Prop} (ht : P.underlying t = some (.slice e)) (he : P.info? e = some info)
  (hq : pIdx info.size x i K) : ∃ v, rdS P (Instr.indexAt t x i) h = some v /\ K v := by
 unfold pIdx at hq
 split at hq
 ·rename_i b o len cap k i
  obtain ⟨h0, h1, hk⟩ := hq
  refine ⟨_, ?_, hk⟩
  unfold Instr.indexAt
  rw [rdS_bind (a := (k, i)) (by rfl), rdS_bind (rdS_underlying ht)]
  dsimp only
  rw [rdS_bind (rdS_pure _)]
  dsimp only
  rw [rdS_bind (rdS_underlying ht)]
  dsimp only
  rw [if_pos ⟨h0, h1⟩, rdS_bind (rdS_sizeOf he), addr_add]; rfl
 ·exact hq.elim

theorem idxA_sound {t e : TypeId} {n : Nat} {info : TypeInfo} {x i : Value} {K : Value -> Prop} (ht : P.underlying t = some (.array n e)) (he : P.info? e = some info)
  (hq : pIdxA info.size n x i K) : ∃ v, rdS P (Instr.indexAt t x i) h = some v /\ K v := by
 unfold pIdxA at hq
 split at hq
 ·rename_i b o k i
  obtain ⟨h0, h1, hk⟩ := hq
  refine ⟨_, ?_, hk⟩
  unfold Instr.indexAt
  rw [rdS_bind (a := (k, i)) (by rfl), rdS_bind (rdS_underlying ht)]
  dsimp only
  rw [rdS_bind (a := ⟨b, o, none⟩) (by rfl), rdS_bind (rdS_pure _)]
  dsimp only
  rw [rdS_bind (rdS_underlying ht)]
  dsimp only
  rw [if_pos ⟨h0, h1⟩, rdS_bind (rdS_sizeOf he), addr_add]; rfl
 ·exact hq.elim

theorem slice_sound {t e : TypeId} {info : TypeInfo} {x : Value} {lo hi mx : Option Value} {K : Value -> Prop} (ht : P.underlying t = some (.slice e)) (he : P.info? e = some info)
  (hq : pSlice info.size x lo hi mx K) : ∃ v, rdS P (Instr.sliceAt t x lo hi mx) h = some v /\ K v := by
 unfold pSlice at hq
 split at hq
 ·rename_i a len cap
  split at hq
  ·rename_i l hh m hl hh' hm
   obtain ⟨hmx, h0, h1, h2, h3, hk⟩ := hq
   refine ⟨_, ?_, hk⟩
   unfold Instr.sliceAt
   rw [rdS_bind (rdS_underlying ht)]
   dsimp only
   unfold Instr.slice
   rw [rdS_bind (rdS_underlying ht)]
   dsimp only
   rw [rdS_bind (bounds_sound hl hh' hm hmx h0 h1 h2 h3)]
   dsimp only
   rw [rdS_bind (rdS_sizeOf he), slBase_eq]; rfl
  ·exact hq.elim
 ·exact hq.elim

theorem sliceS_sound {t : TypeId} {x : Value} {lo hi : Option Value} {K : Value -> Prop} (ht : P.underlying t = some .string)
  (hq : pSliceS x lo hi K) : ∃ v, rdS P (Instr.sliceAt t x lo hi none) h = some v /\ K v := by
 unfold pSliceS at hq
 split at hq
 ·rename_i s
  split at hq
  ·rename_i l hh hl hh'
   obtain ⟨h0, h1, h2, hk⟩ := hq
   refine ⟨_, ?_, hk⟩
   unfold Instr.sliceAt
   rw [rdS_bind (rdS_underlying ht)]
   dsimp only
   unfold Instr.slice
   rw [rdS_bind (rdS_underlying ht)]
   dsimp only
   have hb := bounds_sound (P := P) (h := h) (b := false) (len := s.size) (cap := s.size) (mx := none) (m := s.size) hl hh' rfl (by simp) h0 h1 h2 (by omega)
   simp only [Option.isSome_none, Bool.false_eq_true, if_false]
   rw [rdS_bind hb]; rfl
  ·exact hq.elim
 ·exact hq.elim

theorem field_sound {s : TypeId} {fs : Array Field} {f : Nat} {fd : Field} {i : TypeInfo} {x : Value} {n : Nat} {K : Value -> Prop} (hs : P.underlying s = some (.struct fs))
  (hf : fs[f]? = some fd) (hi : P.info? fd.type = some i) (hn : i.size = n + 1) (hq : pField fd.offset x K) : ∃ v, rdS P (Instr.fieldAt s x f) h = some v /\ K v := by
 unfold pField at hq
 split at hq
 ·rename_i b o
  refine ⟨_, ?_, hq⟩
  unfold Instr.fieldAt
  rw [rdS_bind (rdS_underlying hs)]
  dsimp only
  rw [hf]
  dsimp only
  rw [rdS_bind (a := ⟨b, o, none⟩) (by rfl)]
  unfold fieldPlace
  have : rdS P (do
    if (<- sizeOf fd.type) = 0 then partAt ⟨b, o, none⟩ fd.offset fd.byteOffset else pure ((⟨b, o, none⟩ : Addr).add fd.offset)) h = some ⟨b, o + fd.offset, none⟩ := by
   rw [rdS_bind (rdS_sizeOf hi), if_neg (by omega), addr_add]; rfl
  rw [rdS_bind this]; rfl
 ·exact hq.elim

theorem part_sound {s : TypeId} {fs : Array Field} {f : Nat} {fd : Field} {d : TypeDesc} {i : TypeInfo} {x : Value} {K : Value -> Prop} (hs : P.underlying s = some (.struct fs))
  (hf : fs[f]? = some fd) (hd : P.underlying fd.type = some d) (hi : P.info? fd.type = some i)
  (hq : match isAggD d with
   | true => pPartN fd.offset i.size x K
   | false => pPart1 fd.offset x K) : ∃ v, rdS P (Instr.field s x f) h = some v /\ K v := by
 cases hag : isAggD d with
 | true =>
  simp only [hag] at hq
  unfold pPartN at hq
  split at hq
  ·rename_i cs
   refine ⟨_, ?_, hq⟩
   unfold Instr.field
   rw [rdS_bind (rdS_underlying hs)]
   dsimp only
   rw [hf]
   dsimp only
   rw [rdS_bind (a := cs) (by rfl)]
   unfold part
   rw [rdS_bind (rdS_isAgg hd), hag]
   simp only [if_true]
   rw [rdS_bind (rdS_sizeOf hi)]; rfl
  ·exact hq.elim
 | false =>
  simp only [hag] at hq
  unfold pPart1 at hq
  split at hq
  ·rename_i cs
   split at hq
   ·rename_i v hv
    refine ⟨_, ?_, hq⟩
    unfold Instr.field
    rw [rdS_bind (rdS_underlying hs)]
    dsimp only
    rw [hf]
    dsimp only
    rw [rdS_bind (a := cs) (by rfl)]
    unfold part
    rw [rdS_bind (rdS_isAgg hd), hag]
    simp [hv, rdS, pure]
   ·exact hq.elim
  ·exact hq.elim

theorem idxVN_sound {t e : TypeId} {n : Nat} {d : TypeDesc} {info : TypeInfo} {x i : Value} {K : Value -> Prop} (ht : P.underlying t = some (.array n e)) (hd : P.underlying e = some d) (he : P.info? e = some info) (hag : isAggD d = true)
  (hq : pIdxVN info.size n x i K) : ∃ v, rdS P (Instr.index t x i) h = some v /\ K v := by
 unfold pIdxVN at hq
 split at hq
 ·rename_i cs k i
  obtain ⟨h0, h1, hk⟩ := hq
  refine ⟨_, ?_, hk⟩
  unfold Instr.index
  rw [rdS_bind (a := (k, i)) (by rfl), rdS_bind (rdS_underlying ht)]
  dsimp only
  rw [if_pos ⟨h0, h1⟩, rdS_bind (rdS_sizeOf he)]
  unfold part
  rw [rdS_bind (rdS_isAgg hd), hag]
  simp only [if_true]
  rw [rdS_bind (rdS_sizeOf he)]; rfl
 ·exact hq.elim

theorem idxV1_sound {t e : TypeId} {n : Nat} {d : TypeDesc} {info : TypeInfo} {x i : Value} {K : Value -> Prop} (ht : P.underlying t = some (.array n e)) (hd : P.underlying e = some d) (he : P.info? e = some info) (hag : isAggD d = false) (h1s : info.size = 1)
  (hq : pIdxV1 n x i K) : ∃ v, rdS P (Instr.index t x i) h = some v /\ K v := by
 unfold pIdxV1 at hq
 split at hq
 ·rename_i cs k i
  obtain ⟨h0, h1, hk⟩ := hq
  split at hk
  ·rename_i v hv
   refine ⟨v, ?_, hk⟩
   unfold Instr.index
   rw [rdS_bind (a := (k, i)) (by rfl), rdS_bind (rdS_underlying ht)]
   dsimp only
   rw [if_pos ⟨h0, h1⟩, rdS_bind (rdS_sizeOf he), h1s, Nat.mul_one]
   unfold part
   rw [rdS_bind (rdS_isAgg hd), hag]
   simp [hv, rdS, pure]
  ·exact hk.elim
 ·exact hq.elim

theorem idxS_sound {t : TypeId} {x i : Value} {K : Value -> Prop} (ht : P.underlying t = some .string) (hq : pIdxS x i K) : ∃ v, rdS P (Instr.index t x i) h = some v /\ K v := by
 unfold pIdxS at hq
 split at hq
 ·rename_i s k i
  obtain ⟨h0, hk⟩ := hq
  split at hk
  ·rename_i b hb
   refine ⟨_, ?_, hk⟩
   unfold Instr.index
   rw [rdS_bind (a := (k, i)) (by rfl), rdS_bind (rdS_underlying ht)]
   dsimp only
   rw [if_pos h0, hb]; rfl
  ·exact hk.elim
 ·exact hq.elim

theorem ext_sound {x : Value} {i : Nat} {K : Value -> Prop} (hq : pExt x i K) : ∃ v, rdS P (Instr.extract x i) h = some v /\ K v := by
 unfold pExt at hq
 split at hq
 ·split at hq
  ·rename_i v hv
   exact ⟨v, by simp [Instr.extract, hv, rdS, pure], hq⟩
  ·exact hq.elim
 ·exact hq.elim

theorem un_sound {op : UnOp} {x : Value} {K : Value -> Prop} (hq : pUn op x K) : ∃ v, rdS P (Op.unary op x) h = some v /\ K v := by
 unfold pUn at hq
 split at hq
 ·exact ⟨_, by simp [Op.unary, Op.intArith, rdS, pure], hq⟩
 ·exact ⟨_, by simp [Op.unary, rdS, pure], hq⟩
 ·exact hq.elim

theorem conv_sound {s d : TypeId} {ds : TypeDesc} {k : IntKind} {x : Value} {K : Value -> Prop} (hs : P.underlying s = some ds) (hd : P.underlying d = some (.int k))
  (hq : pConv k x K) : ∃ v, rdS P (convert s d x) h = some v /\ K v := by
 unfold pConv at hq
 split at hq
 ·rename_i k' n
  refine ⟨_, ?_, hq⟩
  unfold convert
  rw [rdS_bind (rdS_underlying hs), rdS_bind (rdS_underlying hd)]
  cases ds <;> rfl
 ·exact hq.elim

theorem pushB_sound {F : Value -> ByteArray -> Sem (ForInStep ByteArray)} (hF : ∀ n s, F (.int .u8 n) s = pure (.yield (s.push (UInt8.ofNat n.toNat)))) : ∀ {l : List Value} {s0 s : ByteArray}, pushB l s0 = some s -> rdS P (forIn l s0 F) h = some s
 | [], s0, s, hq => by
  simp only [pushB, Option.some.injEq] at hq; subst hq
  rfl
 | v :: l, s0, s, hq => by
  have key : ∃ n, v = .int .u8 n := by
   cases v with
   | int k n => cases k <;> first | exact ⟨n, rfl⟩ | simp [pushB] at hq
   | _ => simp [pushB] at hq
  obtain ⟨n, rfl⟩ := key
  rw [List.forIn_cons, hF]
  refine (rdS_bind (a := .yield (s0.push (UInt8.ofNat n.toNat))) rfl).trans ?_
  exact pushB_sound hF hq

theorem convBS_sound {s d e : TypeId} {x : Value} {K : Value -> Prop} (hs : P.underlying s = some (.slice e)) (hd : P.underlying d = some .string) (he : P.underlying e = some (.int .u8)) (hq : pConvBS h x K) : ∃ v, rdS P (convert s d x) h = some v /\ K v := by
 have hc : ∀ {v : Value}, rdS P (Conv.bytesToString x) h = some v -> rdS P (convert s d x) h = some v := fun hv => by
  unfold convert
  rw [rdS_bind (rdS_underlying hs), rdS_bind (rdS_underlying hd)]
  unfold pConvBS at hq
  split at hq
  ·refine (rdS_bind (rdS_underlying he)).trans ?_
   exact hv
  ·refine (rdS_bind (rdS_underlying he)).trans ?_
   exact hv
  ·exact hq.elim
 unfold pConvBS at hq
 split at hq
 ·exact ⟨_, hc rfl, hq⟩
 ·split at hq
  ·rename_i l hl
   split at hq
   ·rename_i s hs
    refine ⟨_, hc ?_, hq⟩
    unfold Conv.bytesToString
    refine (rdS_bind (rdS_loadCells hl)).trans ?_
    rw [List.forIn_toArray]
    refine (rdS_bind (pushB_sound (fun n s => rfl) hs)).trans ?_
    rfl
   ·exact hq.elim
  ·exact hq.elim
 ·exact hq.elim

theorem entry_sound {it : Value} {K : Value -> Prop} (hq : pEntryM it h K) : ∃ v, rdS P (Instr.entry it) h = some v /\ K v := by
 unfold pEntryM at hq
 split at hq
 ·rename_i r
  split at hq
  ·rename_i m x seen stepped hr
   split at hq
   ·rename_i stamp es clock hb hm
    obtain ⟨rfl, hq⟩ := hq
    split at hq
    ·rename_i e he
     refine ⟨_, ?_, hq⟩
     unfold Instr.entry
     dsimp only
     refine (rdS_bind (a := Obj.mapIter (some m) x seen clock) (by simp [getObj, rdS, hr])).trans ?_
     dsimp only
     rw [hb]
     dsimp only
     refine (rdS_bind (a := Obj.map es clock) (by simp [getObj, rdS, hm])).trans ?_
     dsimp only
     rw [if_neg (by simp), he]
     rfl
    ·exact hq.elim
   ·exact hq.elim
  ·exact hq.elim
 ·exact hq.elim

theorem min_sound {x y : Value} {K : Value -> Prop} (hq : pMin x y K) : ∃ v, rdS P (Builtin.min2 x y) h = some v /\ K v := by
 unfold pMin at hq
 split at hq
 ·exact ⟨_, by simp [Builtin.min2, rdS, pure], hq⟩
 ·exact hq.elim

theorem max_sound {x y : Value} {K : Value -> Prop} (hq : pMax x y K) : ∃ v, rdS P (Builtin.max2 x y) h = some v /\ K v := by
 unfold pMax at hq
 split at hq
 ·exact ⟨_, by simp [Builtin.max2, rdS, pure], hq⟩
 ·exact hq.elim

theorem foldl_cells (off : Nat) : ∀ (l : List Value) (j : Nat) (cs : Array Value), off + j + l.length <= cs.size ->
  ((l.zipIdx j).foldl (fun cs (x : Value × Nat) => cs.setIfInBounds (off + x.2) x.1) cs).toList = cs.toList.take (off + j) ++ l ++ cs.toList.drop (off + j + l.length)
 | [], j, cs, _ => by simp
 | c :: l, j, cs, hle => by
  simp only [List.length_cons] at hle
  simp only [List.zipIdx_cons, List.foldl_cons]
  rw [foldl_cells off l (j + 1) _ (by simp; omega)]
  simp only [Array.toList_setIfInBounds]
  have hlen : off + j < cs.toList.length := by simp; omega
  have e1 : (cs.toList.set (off + j) c).take (off + (j + 1)) = cs.toList.take (off + j) ++ [c] := by
   rw [show off + (j + 1) = (off + j) + 1 by omega, List.take_succ_eq_append_getElem (by simpa using hlen)]
   simp [List.take_set_of_le]
  have e2 : (cs.toList.set (off + j) c).drop (off + (j + 1) + l.length) = cs.toList.drop (off + j + (l.length + 1)) := by
   rw [List.drop_set_of_lt (by omega), show off + (j + 1) + l.length = off + j + (l.length + 1) by omega]
  rw [e1, e2]; simp

end
open Go

section
variable {P : Program} {h : Heap}

theorem fill_eq {place : Nat -> Option (Nat × Nat)} : ∀ (parts : List (Nat × Value)) (ps : List (Nat × Nat × Value)) (cs : Array Value), placed place parts = some ps ->
  sizesOk cs.size ps -> Instr.fill place cs parts = some (spliceAll cs.toList ps).toArray
 | [], ps, cs, hp, hs => by
  simp only [placed, Option.some.injEq] at hp; subst hp; simp [Instr.fill, spliceAll]
 | (i, v) :: r, ps, cs, hp, hs => by
  simp only [placed] at hp
  split at hp
  ·rename_i off size hpl
   split at hp
   ·rename_i l hl
    simp only [Option.some.injEq] at hp; subst hp
    obtain ⟨h1, h2, h3⟩ := hs
    unfold Instr.fill
    rw [hpl]
    dsimp only
    have hb : ¬ ((decide (v.cells.size ≠ size) || decide (off + v.cells.size > cs.size)) = true) := by simp [h1]; omega
    rw [if_neg hb]
    have hz : v.cells.zipIdx = (v.cells.toList.zipIdx).toArray := by cases v.cells; simp
    have hf := foldl_cells off v.cells.toList 0 cs (by simp; omega)
    have he : (v.cells.zipIdx.foldl (fun cs (x : Value × Nat) => cs.setIfInBounds (off + x.2) x.1) cs) = (cs.toList.take off ++ v.cells.toList ++ cs.toList.drop (off + v.cells.size)).toArray := by
     apply Array.ext'
     rw [hz, List.foldl_toArray', hf]
     ·simp
     ·simp
    have hsz : (cs.toList.take off ++ v.cells.toList ++ cs.toList.drop (off + v.cells.size)).length = cs.size := by
     simp only [List.length_append, List.length_take, List.length_drop, Array.length_toList]; omega
    show Instr.fill place (v.cells.zipIdx.foldl (fun cs (x : Value × Nat) => cs.setIfInBounds (off + x.2) x.1) cs) r = _
    rw [he, fill_eq r l _ hl (by rw [List.size_toArray, hsz]; exact h3)]
    simp [spliceAll]
   ·cases hp
  ·cases hp

theorem mapM_sizes {fs : Array Field} (hfs : fs.toList.all (fun f => (P.info? f.type).isSome) = true) :
  rdS P (fs.mapM fun f => do pure (f.offset, <- sizeOf f.type) : Sem (Array (Nat × Nat))) h = some (fs.map fun f => (f.offset, P.cellsOf f.type)) := by
 have key : ∀ (l : List Field), l.all (fun f => (P.info? f.type).isSome) = true ->
   rdS P (l.mapM fun f => do pure (f.offset, <- sizeOf f.type) : Sem (List (Nat × Nat))) h = some (l.map fun f => (f.offset, P.cellsOf f.type)) := by
  intro l
  induction l with
  | nil => intro _; rfl
  | cons f l ih =>
   intro hl
   simp only [List.all_cons, Bool.and_eq_true] at hl
   obtain ⟨i, hi⟩ := Option.isSome_iff_exists.1 hl.1
   rw [List.mapM_cons]
   rw [rdS_bind (a := (f.offset, i.size)) (by rw [rdS_bind (rdS_sizeOf hi)]; rfl), rdS_bind (ih hl.2)]
   simp [rdS, pure, Program.cellsOf, hi]
 rw [Array.mapM_eq_mapM_toList]
 show rdS P (Functor.map List.toArray (fs.toList.mapM _)) h = _
 have e : ∀ {α β : Type} (f : α -> β) (s : Sem α), (Functor.map f s : Sem β) = (s >>= fun a => pure (f a)) := fun f s => rfl
 rw [e, rdS_bind (key fs.toList hfs)]
 simp only [rdS, pure]
 congr 1
 cases fs; simp

theorem build_struct_sound {t : TypeId} {fs : Array Field} {i : TypeInfo} {z : Value} {parts : Array (Nat × Value)} {ps : List (Nat × Nat × Value)} {K : Value -> Prop}
  (ht : P.underlying t = some (.struct fs)) (hi : P.info? t = some i) (hz : i.zero = some z) (hfs : fs.toList.all (fun f => (P.info? f.type).isSome) = true)
  (hp : placed ((fs.map fun f => (f.offset, P.cellsOf f.type))[·]?) parts.toList = some ps) (hq : pBuild z.cells.toList ps K) :
  ∃ v, rdS P (Instr.build t parts) h = some v /\ K v := by
 obtain ⟨hs, hk⟩ := hq
 refine ⟨_, ?_, hk⟩
 unfold Instr.build
 rw [rdS_bind (rdS_zeroValue hi hz), rdS_bind (rdS_underlying ht)]
 dsimp only
 rw [rdS_bind (mapM_sizes hfs), fill_eq parts.toList ps z.cells hp (by simpa using hs)]
 rfl

theorem placed_all {size : Nat} : ∀ (l : List (Nat × Value)), placed (fun i => some (i * size, size)) l = some (l.map fun (i, v) => (i * size, size, v))
 | [] => rfl
 | (i, v) :: r => by simp [placed, placed_all r]

theorem build_array_sound {t e : TypeId} {n : Nat} {i ei : TypeInfo} {z : Value} {parts : Array (Nat × Value)} {K : Value -> Prop}
  (ht : P.underlying t = some (.array n e)) (hi : P.info? t = some i) (hz : i.zero = some z) (he : P.info? e = some ei)
  (hq : pBuild z.cells.toList (parts.toList.map fun (j, x) => (j * ei.size, ei.size, x)) K) :
  ∃ v, rdS P (Instr.build t parts) h = some v /\ K v := by
 obtain ⟨hs, hk⟩ := hq
 refine ⟨_, ?_, hk⟩
 unfold Instr.build
 rw [rdS_bind (rdS_zeroValue hi hz), rdS_bind (rdS_underlying ht)]
 dsimp only
 rw [rdS_bind (rdS_sizeOf he), fill_eq parts.toList _ z.cells (placed_all _) (by simpa using hs)]
 rfl

end
open Go

section
variable {P : Program} {h : Heap}

theorem listMap_toArray {α β : Type} (f : α -> β) (a : Array α) : (a.toList.map f).toArray = a.map f := by cases a; simp

theorem nil_sound {v : Value} {K : Value -> Prop} (hq : pNil v K) : ∃ u, rdS P (match v with
  | .pointer none | .nilIface | .nilFunc => runtimePanic .nilDeref
  | .func (.method name) first captured =>
   match (first[0]? : Option Value) with
   | some .nilIface => runtimePanic .nilDeref
   | some (.iface t w) => do
    if (<- nilAhead ((<- program).types.size + Made.depth) t w name) != some false then
     unsupported (.noEntry "op/nilCheck.the method's receiver behind this interface value is a nil pointer, or cannot be seen to be none, and the arguments act or may panic (ledger 612)")
    pure (.value (.func (.method name) first captured))
   | _ => pure (.value (.func (.method name) first captured))
  | x => pure (.value x) : Sem Next) h = some (.value u) /\ K u := by
 unfold pNil at hq
 split at hq
 ·exact ⟨_, rfl, hq⟩
 ·exact ⟨_, rfl, hq⟩
 ·exact ⟨_, rfl, hq⟩
 ·exact hq.elim

theorem intsL_get : ∀ {cs : List Value} {l : List Int}, intsL cs = some l -> ∀ i : Nat, cs[i]? = (l[i]?).map fun a => Value.int .i64 a
 | [], l, h, i => by simp only [intsL, Option.some.injEq] at h; subst h; simp
 | v :: cs, l, h, i => by
  have key : ∃ a l', v = .int .i64 a /\ intsL cs = some l' /\ l = a :: l' := by
   cases v with
   | int k a =>
    cases k <;> simp only [intsL, reduceCtorEq] at h
    cases hl : intsL cs with
    | none => rw [hl] at h; cases h
    | some l' => rw [hl] at h; exact ⟨a, l', rfl, rfl, (Option.some.inj h).symm⟩
   | _ => simp [intsL] at h
  obtain ⟨a, l', rfl, hl', rfl⟩ := key
  cases i with
  | zero => rfl
  | succ i => simpa using intsL_get hl' i

theorem part_int {t : TypeId} (ht : P.underlying t = some (.int .i64)) {cs : Array Value} {l : List Int} (hl : intsL cs.toList = some l) {i : Nat} {a : Int} (hi : l[i]? = some a) : rdS P (part t cs i) h = some (.int .i64 a) := by
 unfold part
 rw [rdS_bind (rdS_isAgg ht)]
 have := intsL_get hl i
 rw [hi] at this
 simp only [isAggD, Bool.false_eq_true, if_false]
 rw [show cs[i]? = some (.int .i64 a) by simpa using this]
 rfl

theorem equalIn_int {t : TypeId} (ht : P.underlying t = some (.int .i64)) {d : Nat} {a b : Int} : rdS P (Op.equalIn (d + 1) t (.int .i64 a) (.int .i64 b)) h = some (a == b) := by
 unfold Op.equalIn
 rw [rdS_bind (rdS_underlying ht)]
 simp [rdS, pure]

theorem eqLoop {a b : List Int} {body : Field -> Option Bool × Unit -> Sem (ForInStep (Option Bool × Unit))} (hb : ∀ (f : Field) (i : Nat) (x y : Int), P.underlying f.type = some (.int .i64) -> f.offset = i -> f.name ≠ "_" -> a[i]? = some x -> b[i]? = some y ->
   rdS P (body f (none, ())) h = some (if x = y then .yield (none, ()) else .done (some false, ()))) :
  ∀ (l : List Field) (i : Nat), intFields P l i = true -> a.length = i + l.length -> b.length = i + l.length -> rdS P (forIn l (none, ()) body) h = some (if a.drop i = b.drop i then none else some false, ())
 | [], i, _, h1, h2 => by
  have e1 : a.drop i = [] := List.drop_eq_nil_of_le (by simpa using Nat.le_of_eq h1)
  have e2 : b.drop i = [] := List.drop_eq_nil_of_le (by simpa using Nat.le_of_eq h2)
  rw [List.forIn_nil, e1, e2, if_pos rfl]; rfl
 | f :: l, i, hf, h1, h2 => by
  simp only [intFields, Bool.and_eq_true, Bool.not_eq_true', beq_eq_false_iff_ne, ne_eq] at hf
  obtain ⟨f1, f2, f3, f4⟩ := hf
  have f3 : P.underlying f.type = some (.int .i64) := by
   split at f3
   ·assumption
   ·cases f3
  have f1 := Nat.eq_of_beq_eq_true f1
  simp only [List.length_cons] at h1 h2
  have ha : i < a.length := by omega
  have hb' : i < b.length := by omega
  rw [List.forIn_cons, rdS_bind (hb f i a[i] b[i] f3 f1 f2 (List.getElem?_eq_getElem ha) (List.getElem?_eq_getElem hb'))]
  rw [List.drop_eq_getElem_cons ha, List.drop_eq_getElem_cons hb']
  by_cases e : a[i] = b[i]
  ·rw [if_pos e]
   have := eqLoop hb l (i + 1) f4 (by omega) (by omega)
   simp only [e, List.cons.injEq, true_and]
   exact this
  ·rw [if_neg e, if_neg fun h => e (List.cons.inj h).1]; rfl

theorem equal_ints {t : TypeId} {fs : Array Field} {xs ys : Array Value} {a b : List Int} (hd : P.underlying t = some (.struct fs)) (he : eqInts P t fs = true) (ha : intsL xs.toList = some a) (hb : intsL ys.toList = some b)
  (la : a.length = fs.size) (lb : b.length = fs.size) : rdS P (Op.equal t (.agg xs) (.agg ys)) h = some (decide (a = b)) := by
 simp only [eqInts, Bool.and_eq_true, Bool.not_eq_true'] at he
 obtain ⟨e1, e2, e3⟩ := he
 unfold Op.equal Op.maxDepth Op.equalIn
 rw [rdS_bind (rdS_underlying hd)]
 dsimp only
 rw [rdS_bind (a := P) (by simp [program, rdS])]
 rw [e1]
 simp only [Bool.false_eq_true, if_false]
 rw [<- Array.forIn_toList]
 rw [rdS_bind (eqLoop (a := a) (b := b) (fun f i x y ht hf hn hx hy => by
  rw [if_pos hn, hf, rdS_bind (part_int ht ha hx), rdS_bind (part_int ht hb hy), rdS_bind (equalIn_int ht)]
  by_cases e : x = y
  ·simp [e, rdS, pure]
  ·rw [show (!(x == y)) = true by simpa using e]
   simp [e, rdS, pure]) fs.toList 0 e3 (by simpa using la) (by simpa using lb))]
 simp only [List.drop_zero]
 by_cases e : a = b
 ·rw [if_pos e, decide_eq_true e]; rfl
 ·rw [if_neg e, decide_eq_false e]; rfl

theorem eqS_sound {ρ : Operand -> Value} {op : BinOp} {t : TypeId} {fs : Array Field} {x y : Operand} {K : Value -> Prop} (hd : P.underlying t = some (.struct fs)) (he : eqInts P t fs = true)
  (hq : pEqS op fs.size (ρ x) (ρ y) K) : ∃ v, rdS P (do eqGuard op t x y (ρ x) (ρ y); binOp op t (ρ x) (ρ y)) h = some v /\ K v := by
 have e2 : P.eqGuardType P.depth t = false := by
  simp only [eqInts, Bool.and_eq_true, Bool.not_eq_true'] at he
  exact he.2.1
 unfold pEqS at hq
 split at hq
 ·rename_i xs ys hx hy
  split at hq
  ·rename_i a b ha hb
   obtain ⟨la, lb, hk⟩ := hq
   refine ⟨_, ?_, hk⟩
   rw [hx, hy]
   have hg : rdS P (eqGuard .eql t x y (.agg xs) (.agg ys)) h = some () := by
    unfold eqGuard
    simp [rdS, program, bind, Sem.bind, pure, e2]
   rw [rdS_bind hg]
   show rdS P (do pure (Value.bool (<- Op.equal t (.agg xs) (.agg ys)))) h = _
   rw [rdS_bind (equal_ints hd he ha hb la lb)]; rfl
  ·exact hq.elim
 ·rename_i xs ys hx hy
  split at hq
  ·rename_i a b ha hb
   obtain ⟨la, lb, hk⟩ := hq
   refine ⟨_, ?_, hk⟩
   rw [hx, hy]
   have hg : rdS P (eqGuard .neq t x y (.agg xs) (.agg ys)) h = some () := by
    unfold eqGuard
    simp [rdS, program, bind, Sem.bind, pure, e2]
   rw [rdS_bind hg]
   show rdS P (do pure (Value.bool (!(<- Op.equal t (.agg xs) (.agg ys))))) h = _
   rw [rdS_bind (equal_ints hd he ha hb la lb)]; rfl
  ·exact hq.elim
 ·exact hq.elim

theorem binop_sound {ρ : Operand -> Value} {op : BinOp} {t : TypeId} {d : TypeDesc} {x y : Operand} {K : Value -> Prop} (hd : P.underlying t = some d)
  (hq : pBinT d op (litOf y) (ρ x) (ρ y) K) :
  ∃ v, rdS P (do eqGuard op t x y (ρ x) (ρ y); binOp op t (ρ x) (ρ y)) h = some v /\ K v := by
 unfold pBinT at hq
 split at hq
 ·rename_i k hk
  split at hq
  ·exact hq.elim
  ·rename_i hlit
   have main : ∀ neg : Bool, (op = .eql /\ neg = false \/ op = .neq /\ neg = true) -> pEq neg k (ρ x) (ρ y) K ->
     ∃ v, rdS P (do eqGuard op t x y (ρ x) (ρ y); binOp op t (ρ x) (ρ y)) h = some v /\ K v := by
    intro neg hop hp
    have hn := eq_noAgg hp
    obtain ⟨b, hv, hk'⟩ := eq_sound (h := h) hd hk hp
    refine ⟨_, ?_, hk'⟩
    have hg : rdS P (eqGuard op t x y (ρ x) (ρ y)) h = some () := by
     by_cases hni : ρ x = .nilIface
     ·obtain ⟨rfl, _⟩ := hn.2 hni
      have : litOf y = true := by cases hl : litOf y <;> simp_all [isIfaceK]
      exact guard_lit hn.1 this
     ·exact guard_plain hn.1 (fun e => hni e.1)
    rw [rdS_bind hg, eq_not hp op t (by rcases hop with ⟨e, _⟩ | ⟨e, _⟩ <;> simp [e])]
    rcases hop with ⟨rfl, rfl⟩ | ⟨rfl, rfl⟩
    ·dsimp only; rw [rdS_bind hv]; simp [rdS, pure]
    ·dsimp only; rw [rdS_bind hv]; simp [rdS, pure]
   split at hq
   ·exact main false (.inl ⟨rfl, rfl⟩) hq
   ·exact main true (.inr ⟨rfl, rfl⟩) hq
   ·exact hq.elim
 ·have hn := bin_noAgg hq
  obtain ⟨v, hv, hk⟩ := bin_sound (P := P) (h := h) (t := t) hq
  refine ⟨v, ?_, hk⟩
  rw [rdS_bind (guard_plain hn.1 (fun e => hn.2 e.1))]; exact hv

theorem len_sound {t type : TypeId} {argTypes : Array TypeId} {args : Array Value} {d : TypeDesc} {x : Value} {K : Value -> Prop} (hT : argTypes[0]? = some t) (hx : args[0]? = some x)
  (hd : P.underlying t = some d)
  (hq : match some d with
    | some (.slice _) => pLen x K
    | some .string => pLenS x K
    | some (.map _ _) => pLenM h x K
    | some (.array n _) => K (.int .i64 n)
    | _ => False) : ∃ v, rdS P (Builtin.len_ argTypes type args) h = some v /\ K v := by
 split at hq
 ·rename_i e hde
  cases hde
  unfold pLen at hq
  split at hq
  ·refine ⟨_, ?_, hq⟩
   unfold Builtin.len_; simp only [hT, hx]; rw [rdS_bind (rdS_underlying hd)]; rfl
  ·exact hq.elim
 ·rename_i hde
  cases hde
  unfold pLenS at hq
  split at hq
  ·refine ⟨_, ?_, hq⟩
   unfold Builtin.len_; simp only [hT, hx]; rw [rdS_bind (rdS_underlying hd)]; rfl
  ·exact hq.elim
 ·rename_i hde
  cases hde
  unfold pLenM at hq
  split at hq
  ·refine ⟨_, ?_, hq⟩
   unfold Builtin.len_; simp only [hT, hx]; rw [rdS_bind (rdS_underlying hd)]; rfl
  ·rename_i r
   split at hq
   ·rename_i es clock hm
    refine ⟨_, ?_, hq⟩
    have hget : rdS P (getObj r) h = some (.map es clock) := by simp [getObj, rdS, hm]
    unfold Builtin.len_; simp only [hT, hx]; rw [rdS_bind (rdS_underlying hd)]
    dsimp only
    rw [rdS_bind hget]; rfl
   ·exact hq.elim
  ·exact hq.elim
 ·rename_i hde
  cases hde
  refine ⟨_, ?_, hq⟩
  unfold Builtin.len_; simp only [hT, hx]; rw [rdS_bind (rdS_underlying hd)]
  cases x <;> rfl
 ·exact hq.elim

theorem cap_sound {t type : TypeId} {argTypes : Array TypeId} {args : Array Value} {e : TypeId} {x : Value} {K : Value -> Prop} (hT : argTypes[0]? = some t) (hx : args[0]? = some x)
  (hd : P.underlying t = some (.slice e)) (hq : pCap x K) : ∃ v, rdS P (Builtin.cap_ argTypes type args) h = some v /\ K v := by
 unfold pCap at hq
 split at hq
 ·refine ⟨_, ?_, hq⟩
  unfold Builtin.cap_; simp only [hT, hx]; rw [rdS_bind (rdS_underlying hd)]; rfl
 ·exact hq.elim

theorem qop_sound {ρ : Operand -> Value} {o : Oper} {K : Value -> Prop} (hq : qop P ρ o.op h K) : ∃ v, rdS P (execOp ρ o) h = some (.value v) /\ K v := by
 have lift : ∀ {s : Sem Value}, (∃ v, rdS P s h = some v /\ K v) -> ∃ v, rdS P (do pure (Next.value (<- s)) : Sem Next) h = some (.value v) /\ K v :=
  fun ⟨v, hv, hk⟩ => ⟨v, rdv hv, hk⟩
 obtain ⟨dst, op, type, pos, after, guard⟩ := o
 dsimp only at hq
 unfold execOp
 cases op <;> simp only [qop] at hq
 case move x => exact ⟨_, rfl, hq⟩
 case assign x => exact ⟨_, rfl, hq⟩
 case pick c a b =>
  unfold pPick at hq
  dsimp only
  split at hq
  ·rename_i e; exact ⟨_, by rw [e]; rfl, hq⟩
  ·rename_i e; exact ⟨_, by rw [e]; rfl, hq⟩
  ·exact hq.elim
 case load t a =>
  split at hq
  ·rename_i d i hd hi; exact lift (load_sound hd hi hq)
  ·exact hq.elim
 case nilCheck x => exact nil_sound hq
 case binOp op t x y yt =>
  split at hq
  ·rename_i fs hd
   split at hq
   ·rename_i he; exact lift (eqS_sound hd he hq)
   ·exact hq.elim
  ·rename_i d _ hd; exact lift (binop_sound hd hq)
  ·exact hq.elim
 case unOp op t x => exact lift (un_sound hq)
 case convert s d x =>
  split at hq
  ·rename_i hs hd; exact lift (conv_sound hs hd hq)
  ·rename_i hs hd
   split at hq
   ·rename_i he; exact lift (convBS_sound hs hd he hq)
   ·exact hq.elim
  ·exact hq.elim
 case entry it => exact lift (entry_sound hq)
 case makeInterface t x =>
  split at hq
  ·exact hq.elim
  ·rename_i d hno hd
   refine lift ⟨_, ?_, hq⟩
   unfold Instr.makeInterface
   rw [rdS_bind (rdS_underlying hd)]
   cases d <;> first | rfl | exact (hno _ rfl).elim
  ·exact hq.elim
 case makeFunc fn first captured => exact lift ⟨_, rfl, by simpa only [listMap_toArray] using hq⟩
 case slice t x lo hi mx =>
  split at hq
  ·split at hq
   ·rename_i hd _ _ he; exact lift (slice_sound hd he hq)
   ·exact hq.elim
  ·rename_i hd
   split at hq
   ·exact lift (sliceS_sound hd hq)
   ·exact hq.elim
  ·exact hq.elim
 case fieldAddr s x f =>
  split at hq
  ·rename_i fs hs
   split at hq
   ·rename_i fd hf
    split at hq
    ·rename_i i hi
     split at hq
     ·exact hq.elim
     ·rename_i n hn; exact lift (field_sound hs hf hi hn hq)
    ·exact hq.elim
   ·exact hq.elim
  ·exact hq.elim
 case field t x f =>
  split at hq
  ·rename_i fs hs
   split at hq
   ·rename_i fd hf
    split at hq
    ·rename_i d i hd hi; exact lift (part_sound hs hf hd hi hq)
    ·exact hq.elim
   ·exact hq.elim
  ·exact hq.elim
 case indexAddr t x i =>
  split at hq
  ·rename_i e ht
   split at hq
   ·rename_i info he; exact lift (idx_sound ht he hq)
   ·exact hq.elim
  ·rename_i n e ht
   split at hq
   ·rename_i info he; exact lift (idxA_sound ht he hq)
   ·exact hq.elim
  ·exact hq.elim
 case index t x i =>
  split at hq
  ·rename_i n e ht
   split at hq
   ·rename_i d info hd he
    split at hq
    ·rename_i hag; exact lift (idxVN_sound ht hd he hag hq)
    ·rename_i hag
     split at hq
     ·rename_i h1; exact lift (idxV1_sound ht hd he hag (Nat.eq_of_beq_eq_true h1) hq)
     ·exact hq.elim
   ·exact hq.elim
  ·rename_i ht; exact lift (idxS_sound ht hq)
  ·exact hq.elim
 case lookup t m k ok =>
  split at hq
  ·rename_i kt et ht
   split at hq
   ·rename_i kd ei hk he
    split at hq
    ·rename_i z hs hz; exact lift (look_sound ht hk he hs hz hq)
    ·exact hq.elim
   ·exact hq.elim
  ·exact hq.elim
 case extract x i => exact lift (ext_sound hq)
 case build t parts =>
  split at hq
  ·rename_i fs i ht hi
   split at hq
   ·rename_i z hz
    split at hq
    ·rename_i ps hp hall
     exact lift (build_struct_sound ht hi hz hall (by simpa using hp) hq)
    ·exact hq.elim
   ·exact hq.elim
  ·rename_i n e i ht hi
   split at hq
   ·rename_i z ei hz he
    refine lift (build_array_sound ht hi hz he ?_)
    have : (parts.map fun (x : Nat × Operand) => (x.1, ρ x.2)).toList.map (fun (x : Nat × Value) => (x.1 * ei.size, ei.size, x.2)) = parts.toList.map fun (x : Nat × Operand) => (x.1 * ei.size, ei.size, ρ x.2) := by simp
    show pBuild z.cells.toList ((parts.map fun (x : Nat × Operand) => (x.1, ρ x.2)).toList.map (fun (x : Nat × Value) => (x.1 * ei.size, ei.size, x.2))) K
    rw [this]; exact hq
   ·exact hq.elim
  ·exact hq.elim
 case call c =>
  obtain ⟨callee, args, argTypes⟩ := c
  dsimp only at hq ⊢
  have core : ∀ {b : Builtin} {s : Sem Value}, (∀ cs, builtin b argTypes type cs (args.map ρ) = (do pure (.value (<- s)))) -> (∃ v, rdS P s h = some v /\ K v) ->
    ∃ v, rdS P (do let d <- resolve ρ { callee := .builtin b, args, argTypes } type; invoke d.target d.args) h = some (.value v) /\ K v := by
   rintro b s hs ⟨v, hv, hk⟩
   refine ⟨v, ?_, hk⟩
   show rdS P (builtin b argTypes type _ (args.map ρ)) h = _
   rw [hs]; exact rdv hv
  have ar : ∀ {i : Nat} {x : Operand}, args[i]? = some x -> (args.map ρ)[i]? = some (ρ x) := fun hx => by simp [hx]
  have two : ∀ {x y : Operand}, args.toList = [x, y] -> (args.map ρ).toList = [ρ x, ρ y] := fun e => by simp [e]
  have three : ∀ {x y z : Operand}, args.toList = [x, y, z] -> (args.map ρ).toList = [ρ x, ρ y, ρ z] := fun e => by simp [e]
  split at hq
  ·split at hq
   ·rename_i t x hT hx
    cases hd : P.underlying t with
    | none => rw [hd] at hq; exact hq.elim
    | some d => rw [hd] at hq; exact core (fun _ => rfl) (len_sound hT (ar hx) hd hq)
   ·exact hq.elim
  ·split at hq
   ·rename_i t x hT hx
    split at hq
    ·rename_i e hd; exact core (fun _ => rfl) (cap_sound hT (ar hx) hd hq)
    ·exact hq.elim
   ·exact hq.elim
  ·split at hq
   ·rename_i x y hxy
    obtain ⟨v, hv, hk⟩ := min_sound (P := P) (h := h) hq
    refine core (fun _ => rfl) ⟨v, ?_, hk⟩
    unfold Builtin.min_; rw [two hxy]; dsimp only; rw [List.foldlM_cons, rdS_bind hv]; rfl
   ·rename_i x y z hxy
    obtain ⟨u, hu, hk⟩ := min_sound (P := P) (h := h) hq
    obtain ⟨v, hv, hk⟩ := min_sound (P := P) (h := h) hk
    refine core (fun _ => rfl) ⟨v, ?_, hk⟩
    unfold Builtin.min_; rw [three hxy]; dsimp only; rw [List.foldlM_cons, rdS_bind hu, List.foldlM_cons, rdS_bind hv]; rfl
   ·exact hq.elim
  ·split at hq
   ·rename_i x y hxy
    obtain ⟨v, hv, hk⟩ := max_sound (P := P) (h := h) hq
    refine core (fun _ => rfl) ⟨v, ?_, hk⟩
    unfold Builtin.max_; rw [two hxy]; dsimp only; rw [List.foldlM_cons, rdS_bind hv]; rfl
   ·rename_i x y z hxy
    obtain ⟨u, hu, hk⟩ := max_sound (P := P) (h := h) hq
    obtain ⟨v, hv, hk⟩ := max_sound (P := P) (h := h) hk
    refine core (fun _ => rfl) ⟨v, ?_, hk⟩
    unfold Builtin.max_; rw [three hxy]; dsimp only; rw [List.foldlM_cons, rdS_bind hu, List.foldlM_cons, rdS_bind hv]; rfl
   ·exact hq.elim
  ·exact hq.elim
 all_goals exact hq.elim

end
open Go

def nextK (P : Program) (K : KT) : Next -> Heap -> Prop
 | .value v, h => K v h
 | .skip, h => K undef h
 | .enter f args, h => CallsW P f args h K
 | .round l f tmps assign body, h => RoundH P l f tmps assign body h K
 | _, _ => False

def lop (P : Program) (ρ : Operand -> Value) (op : Op) (h : Heap) (K : KT) : Prop :=
 match op with
 | .box t v => pBox t (ρ v) h K
 | .alloc t => (match P.info? t with
  | some i => (match i.zero with
   | some z => pBox t z h K
   | none => False)
  | none => False)
 | .buildSlice t len parts => (match P.underlying t with
  | some (.slice e) => (match P.info? e with
   | some i => (match i.zero with
    | some z => (match Nat.ble (len * i.size) 16777216, Nat.beq z.cells.size i.size with
     | true, true => pBuildSlice e (zerosL z.cells.toList len) (parts.toList.map fun (j, x) => (j * i.size, i.size, ρ x)) len h K
     | _, _ => False)
    | none => False)
   | none => False)
  | _ => False)
 | .makeSlice t l c => (match P.underlying t with
  | some (.slice e) => (match P.info? e with
   | some i => (match i.zero with
    | some z => (match Nat.beq z.cells.size i.size with
     | true => pMakeSlice e i.bytes z.cells.toList (ρ l) (ρ c) h K
     | false => False)
    | none => False)
   | none => False)
  | _ => False)
 | .makeMap _ none => pMakeMap h K
 | .range t m => (match P.underlying t with
  | some (.map _ _) => pRangeM (ρ m) h K
  | _ => False)
 | .next it s => (match s with
  | true => False
  | false => pNextM (ρ it) h K)
 | .store t a x => (match P.info? t with
  | some i => pStore i.size (ρ a) (ρ x) h K
  | none => False)
 | .mapUpdate t m k x | .insert t m k x => (match P.underlying t with
  | some (.map kt _) => (match P.underlying kt with
   | some kd => (match okKey P kd with
    | true => pMapSet kd (ρ m) (ρ k) (ρ x) h K
    | false => False)
   | none => False)
  | _ => False)
 | .mapEntry t m k => (match P.underlying t with
  | some (.map kt et) => (match P.underlying kt, P.info? et with
   | some kd, some ei => (match okKey P kd, ei.zero with
    | true, some z => pMapEntry kd z (ρ m) (ρ k) h K
    | _, _ => False)
   | _, _ => False)
  | _ => False)
 | .entryStore _ m s x => pEntryStore (ρ m) (ρ s) (ρ x) h K
 | .call c => (match c.callee with
  | .builtin .append => (match c.argTypes[0]?, c.argTypes[1]?, c.args.toList with
   | some t, some xt, [s, x] => (match P.underlying t, P.underlying xt with
    | some (.slice e), some (.slice _) => (match P.info? e with
     | some i => (match i.zero with
      | some z => (match Nat.beq z.cells.size i.size with
       | true => pAppend e i.size i.bytes z.cells.toList (ρ s) (ρ x) h K
       | false => False)
      | none => False)
     | none => False)
    | some (.slice e), some (.int _) => (match P.info? e with
     | some i => (match i.zero with
      | some z => (match Nat.beq z.cells.size i.size with
       | true => pAppendZ e i.size i.bytes z.cells.toList (ρ s) (ρ x) h K
       | false => False)
      | none => False)
     | none => False)
    | _, _ => False)
   | _, _, _ => False)
  | .builtin .copy => (match c.argTypes[0]?, c.args.toList with
   | some t, [d, x] => (match P.underlying t with
    | some (.slice e) => (match P.info? e with
     | some i => (match isStrT P c.argTypes[1]? with
      | true => pCopyS (ρ d) (ρ x) h K
      | false => pCopy i.size (ρ d) (ρ x) h K)
     | none => False)
    | _ => False)
   | _, _ => False)
  | .builtin .delete => (match c.argTypes[0]?, c.args.toList with
   | some t, [m, k] => (match P.underlying t with
    | some (.map kt _) => (match P.underlying kt with
     | some kd => (match okKey P kd with
      | true => pDelete kd (ρ m) (ρ k) h K
      | false => False)
     | none => False)
    | _ => False)
   | _, _ => False)
  | .builtin .clear => (match c.argTypes[0]?, c.args.toList with
   | some t, [x] => (match P.underlying t with
    | some (.slice e) => (match P.info? e with
     | some i => (match i.zero with
      | some z => pClear z.cells.toList (ρ x) h K
      | none => False)
     | none => False)
    | _ => False)
   | _, _ => False)
  | .value f => callV P (ρ f) (c.args.toList.map ρ).toArray h K
  | _ => False)
 | _ => False

section
variable {P : Program} {h : Heap}

theorem wpS_pure {α : Type} {a : α} {K : α -> Heap -> Prop} (hk : K a h) : wpS P (pure a : Sem α) h K := hk

theorem wpS_rd {α β : Type} {s : Sem α} {f : α -> Sem β} {a : α} {K : β -> Heap -> Prop} (hs : rdS P s h = some a) (hk : wpS P (f a) h K) : wpS P (s >>= f) h K :=
 wpS_bind (wpS_of_rdS hs hk)

theorem wpv {s : Sem Value} {K : KT} (hs : wpS P s h K) : wpS P (do pure (Next.value (<- s)) : Sem Next) h (nextK P K) :=
 wpS_bind (wpS_mono (fun _ _ hk => hk) hs)

theorem wpu {s : Sem Unit} {K : KT} (hs : wpS P s h fun _ h' => K undef h') : wpS P (do s; pure Next.skip : Sem Next) h (nextK P K) :=
 wpS_bind (wpS_mono (fun _ _ hk => hk) hs)

theorem box_sound {t : TypeId} {v : Value} {K : KT} (hq : pBox t v h K) : wpS P (Instr.box t v) h K := by
 unfold Instr.box newVar newRow
 exact hq

theorem alloc_sound {t : TypeId} {i : TypeInfo} {z : Value} {K : KT} (hi : P.info? t = some i) (hz : i.zero = some z) (hq : pBox t z h K) :
  wpS P (Instr.alloc t true (.tuple #[])) h K := by
 unfold Instr.alloc
 refine wpS_rd (rdS_zeroValue hi hz) ?_
 exact hq

theorem zeros_eq (z : Array Value) (n s : Nat) (hs : z.size = s) :
  (Array.range (n * s)).map (z[· % z.size]!) = (zerosL z.toList n).toArray := by
 subst hs
 apply Array.ext'
 simp only [Array.toList_map, Array.toList_range, zerosL]
 induction n with
 | zero => simp
 | succ n ih =>
  rw [Nat.succ_mul, List.range_add, List.map_append, ih, List.replicate_succ', List.flatten_append]
  congr 1
  simp only [List.map_map, List.flatten_cons, List.flatten_nil, List.append_nil]
  apply List.ext_getElem
  ·simp
  ·intro i h1 h2
   simp only [List.length_map, List.length_range] at h1
   simp [Function.comp, Nat.mod_eq_of_lt h1, h1]

theorem buildSlice_sound {t e : TypeId} {i : TypeInfo} {z : Value} {len : Nat} {parts : Array (Nat × Value)} {K : KT} (ht : P.underlying t = some (.slice e))
  (hi : P.info? e = some i) (hz : i.zero = some z) (hl : len * i.size <= 16777216) (hzs : z.cells.size = i.size)
  (hq : pBuildSlice e (zerosL z.cells.toList len) (parts.toList.map fun (j, x) => (j * i.size, i.size, x)) len h K) :
  wpS P (Instr.buildSlice t len parts) h K := by
 obtain ⟨hs, hk⟩ := hq
 have hze := zeros_eq z.cells len i.size hzs
 have hsz : (zerosL z.cells.toList len).length = ((Array.range (len * i.size)).map (z.cells[· % z.cells.size]!)).size := by
  rw [hze]; simp
 unfold Instr.buildSlice
 refine wpS_rd (rdS_underlying ht) ?_
 dsimp only
 refine wpS_rd (rdS_sizeOf hi) ?_
 rw [if_neg (by omega)]
 have fin : ∀ (zero : Array Value), (Array.range (len * i.size)).map (zero[· % zero.size]!) = (zerosL z.cells.toList len).toArray ->
   wpS P (match Instr.fill (fun j => some (j * i.size, i.size)) ((Array.range (len * i.size)).map (zero[· % zero.size]!)) parts.toList with
    | some cells => do pure (.slice (some (<- newRow e cells)) len len)
    | x => stuck "buildSlice: a part of the wrong size") h K := by
  intro zero hzero
  rw [hzero, fill_eq parts.toList _ _ (placed_all _) (by simpa using hs)]
  exact hk
 split
 ·rename_i h0
  refine fin #[] ?_
  rw [<- hze, h0]; simp
 ·refine wpS_rd (rdS_zeroValue hi hz) ?_
  exact fin z.cells hze

theorem wrap_i64 {n : Int} (h0 : 0 <= n) (h1 : n < 2 ^ 63) : IntKind.i64.wrap n = n := by
 have e : n % (2 ^ IntKind.i64.bits : Int) = n := Int.emod_eq_of_lt h0 (by show n < 2 ^ 64; omega)
 have f : decide (n >= (2 ^ (IntKind.i64.bits - 1) : Int)) = false := decide_eq_false (by show ¬ (n >= 2 ^ 63); omega)
 unfold IntKind.wrap
 dsimp only
 rw [e, f]; simp

theorem makeSlice_sound {t e : TypeId} {i : TypeInfo} {z : Value} {l c : Value} {K : KT} (ht : P.underlying t = some (.slice e))
  (hi : P.info? e = some i) (hz : i.zero = some z) (hzs : z.cells.size = i.size) (hq : pMakeSlice e i.bytes z.cells.toList l c h K) :
  wpS P (Instr.makeSlice t l c) h K := by
 unfold pMakeSlice at hq
 split at hq
 ·rename_i k l k' c
  obtain ⟨h0, h1, h2, h3, hk⟩ := hq
  have wl := wrap_i64 h0 (by omega : l < 2 ^ 63)
  have wc := wrap_i64 (by omega : 0 <= c) h3
  have hze := zeros_eq z.cells c.toNat i.size hzs
  unfold Instr.makeSlice
  refine wpS_rd (rdS_underlying ht) ?_
  dsimp only
  refine wpS_rd (a := l) (by rfl) ?_
  refine wpS_rd (a := c) (by rfl) ?_
  refine wpS_rd (rdS_typeInfo hi) ?_
  rw [wl, wc]
  have hcond : (((decide (c < 0) || decide ((i.bytes : Int) * c > 2 ^ 48)) || decide (l < 0)) || decide (l > c)) = false := by
   simp; omega
  have hcond' : ¬ ((decide (c < 0) || decide ((i.bytes : Int) * c > 2 ^ 48) || decide (l < 0) || decide (l > c)) = true) := by rw [hcond]; simp
  rw [if_neg hcond']
  unfold askRoom
  have hk' : K (.slice (some ⟨h.size, 0, none⟩) l.toNat c.toNat) (h.push (.cells (zerosL z.cells.toList c.toNat).toArray e (0, 0))) := hk
  have go : wpS P (do
    let n := c.toNat * (<- sizeOf e)
    let zero <- if n = 0 then pure #[] else do pure (<- zeroValue e).cells
    let a <- newRow e ((Array.range n).map (zero[· % zero.size]!))
    pure (.slice (some a) l.toNat c.toNat) : Sem Value) h K := by
   refine wpS_rd (rdS_sizeOf hi) ?_
   dsimp only
   split
   ·rename_i hn
    show K _ _
    have : (Array.range (c.toNat * i.size)).map ((#[] : Array Value)[· % (#[] : Array Value).size]!) = (zerosL z.cells.toList c.toNat).toArray := by
     rw [<- hze, hn]; simp
    rw [this]; exact hk'
   ·refine wpS_rd (rdS_zeroValue hi hz) ?_
    show K _ _
    rw [hze]; exact hk'
  split
  ·exact wpS_bind (show wpS P (mark .noRoom) h _ from go)
  ·exact wpS_bind (wpS_pure go)
 ·exact hq.elim

theorem storeCells_sound {b o : Nat} : ∀ (vs : List Value) (i : Nat) {h : Heap} {K : Heap -> Prop}, storeL h b (o + i) vs K ->
  wpS P (storeCells ⟨b, o, none⟩ vs i) h (fun _ h' => K h')
 | [], i, h, K, hq => hq
 | v :: r, i, h, K, hq => by
  obtain ⟨hp, hc, hf, hk⟩ := hq
  unfold storeCells
  refine wpS_bind ?_
  rw [addr_add]
  exact ⟨hp, hc, hf, storeCells_sound r (i + 1) (by rw [<- Nat.add_assoc]; exact hk)⟩

theorem store_sound {t : TypeId} {i : TypeInfo} {a v : Value} {K : KT} (hi : P.info? t = some i) (hq : pStore i.size a v h K) :
  wpS P (Instr.storeAt t a v) h (fun _ h' => K undef h') := by
 unfold pStore at hq
 split at hq
 ·rename_i b o
  obtain ⟨hs, hk⟩ := hq
  unfold Instr.storeAt
  refine wpS_rd (a := ⟨b, o, none⟩) (by rfl) ?_
  unfold storeVar
  refine wpS_rd (rdS_sizeOf hi) ?_
  rw [if_neg (by simpa using hs)]
  exact storeCells_sound v.cells.toList 0 (by simpa using hk)
 ·exact hq.elim

end
open Go

section
variable {P : Program} {h : Heap}

theorem stays_sound {kd : TypeDesc} {old k : Value} (hs : Instr.sameNow kd k old = some true) : rdS P (Instr.keyThatStays old k) h = some k := by
 have hb : Instr.sameBits (9999 + 1) old k = true := by
  unfold Instr.sameNow at hs
  split at hs
  ·rename_i kk a k' b
   split at hs
   ·rename_i he; subst he
    simp only [Option.some.injEq, beq_iff_eq] at hs; subst hs
    simp [Instr.sameBits]
   ·cases hs
  ·simp only [Option.some.injEq] at hs
   have := (MapKept.bytes_beq _ _).1 hs
   subst this; simp only [Instr.sameBits]; exact (MapKept.bytes_beq _ _).2 rfl
  ·simp only [Option.some.injEq, beq_iff_eq] at hs; subst hs; simp [Instr.sameBits]
  ·cases hs
 unfold Instr.keyThatStays
 rw [show (10000 : Nat) = 9999 + 1 from rfl, hb]; rfl

theorem findA_some {k : Int × Int × Int} : ∀ {es : List MapEntry} {j i : Nat} {v : Value}, findA k es j = some (some (i, v)) ->
  j <= i /\ ∃ e, es[i - j]? = some e /\ e.val = v /\ key3 e.key = some k
 | [], j, i, v, hf => by simp [findA] at hf
 | e :: es, j, i, v, hf => by
  simp only [findA] at hf
  split at hf
  ·rename_i k' hk'
   split at hf
   ·rename_i hs
    simp only [Option.some.injEq, Prod.mk.injEq] at hf
    obtain ⟨rfl, rfl⟩ := hf
    exact ⟨Nat.le_refl _, e, by simp, rfl, by rw [hk', hs]⟩
   ·obtain ⟨hle, e', he', hv, hs⟩ := findA_some hf
    refine ⟨by omega, e', ?_, hv, hs⟩
    have : i - j = (i - (j + 1)) + 1 := by omega
    rw [this]; simpa using he'
  ·cases hf

theorem findK_some {kd : TypeDesc} {k : Value} {es : List MapEntry} {i : Nat} {v : Value} (hf : findK kd k es = some (some (i, v))) :
  True /\ ∃ e, es[i]? = some e /\ e.val = v /\ rdS P (Instr.keyThatStays e.key k) h = some k := by
 refine ⟨trivial, ?_⟩
 by_cases ha : ∃ m e, kd = .array m e
 ·obtain ⟨m, e, rfl⟩ := ha
  simp only [findK] at hf
  split at hf
  ·rename_i a hk
   obtain ⟨_, e, he, hv, hs⟩ := findA_some hf
   refine ⟨e, by simpa using he, hv, ?_⟩
   rw [key3_of hk, key3_of hs]
   unfold Instr.keyThatStays
   rw [if_pos (by simp [Instr.sameBits])]
   rfl
  ·cases hf
 ·have hf' : Instr.findNow kd k es 0 = some (some (i, v)) := by
   cases kd <;> first | exact hf | exact (ha ⟨_, _, rfl⟩).elim
  obtain ⟨_, e, he, hv, hs⟩ := findNow_some hf'
  exact ⟨e, by simpa using he, hv, stays_sound hs⟩

theorem rdS_getMap {r : Nat} {es : Array MapEntry} {clock : Nat} (hm : h[r]? = some (.map es clock)) : rdS P (getObj r) h = some (.map es clock) := by
 simp [getObj, rdS, hm]

theorem wpS_setMap {r : Nat} {es : Array MapEntry} {clock : Nat} {o : Obj} {K : Unit -> Heap -> Prop} (hm : h[r]? = some (.map es clock)) (hk : K () (h.setIfInBounds r o)) :
  wpS P (setObj r o) h K := by
 simp [setObj, wpS, hm]; exact hk

theorem mapSet_sound {t kt et : TypeId} {kd : TypeDesc} {m k v : Value} {K : KT} (ht : P.underlying t = some (.map kt et)) (hk : P.underlying kt = some kd)
  (hs : okKey P kd = true) (hq : pMapSet kd m k v h K) : wpS P (Instr.mapUpdate t m k v) h (fun _ h' => K undef h') := by
 unfold pMapSet at hq
 split at hq
 ·rename_i r
  split at hq
  ·rename_i es clock hm
   unfold Instr.mapUpdate
   refine wpS_rd (rdS_underlying ht) ?_
   dsimp only
   refine wpS_rd (rdS_getMap hm) ?_
   dsimp only
   split at hq
   ·rename_i i old hf
    refine wpS_rd (checkKey_ok (n := 9998) hk hs hf) ?_
    refine wpS_rd (findKey_ok hk hs hf) ?_
    dsimp only
    obtain ⟨_, e, he, _, hsn⟩ := findK_some hf
    have he' : es[i]? = some e := by simpa using he
    refine wpS_rd (a := k) (by rw [he']; exact hsn) ?_
    exact wpS_setMap hm hq
   ·rename_i hf
    refine wpS_rd (checkKey_ok (n := 9998) hk hs hf) ?_
    refine wpS_rd (findKey_ok hk hs hf) ?_
    exact wpS_setMap hm hq
   ·exact hq.elim
  ·exact hq.elim
 ·exact hq.elim

theorem mapEntry_sound {t kt et : TypeId} {kd : TypeDesc} {ei : TypeInfo} {z m k : Value} {K : KT} (ht : P.underlying t = some (.map kt et)) (hk : P.underlying kt = some kd)
  (hs : okKey P kd = true) (he : P.info? et = some ei) (hz : ei.zero = some z) (hq : pMapEntry kd z m k h K) : wpS P (Instr.mapEntry t m k) h K := by
 unfold pMapEntry at hq
 split at hq
 ·rename_i r
  split at hq
  ·rename_i es clock hm
   unfold Instr.mapEntry
   refine wpS_rd (rdS_underlying ht) ?_
   dsimp only
   refine wpS_rd (rdS_getMap hm) ?_
   dsimp only
   split at hq
   ·rename_i i old hf
    refine wpS_rd (checkKey_ok (n := 9998) hk hs hf) ?_
    refine wpS_rd (findKey_ok hk hs hf) ?_
    dsimp only
    obtain ⟨_, e, he, _, hsn⟩ := findK_some hf
    have he' : es[i]? = some e := by simpa using he
    refine wpS_rd (a := k) (by rw [he']; exact hsn) ?_
    refine wpS_bind (wpS_setMap hm ?_)
    exact hq
   ·rename_i hf
    refine wpS_rd (checkKey_ok (n := 9998) hk hs hf) ?_
    refine wpS_rd (findKey_ok hk hs hf) ?_
    dsimp only
    refine wpS_rd (rdS_zeroValue he hz) ?_
    refine wpS_bind (wpS_setMap hm ?_)
    exact hq
   ·exact hq.elim
  ·exact hq.elim
 ·exact hq.elim

theorem entryStore_sound {t : TypeId} {m s v : Value} {K : KT} (hq : pEntryStore m s v h K) : wpS P (Instr.entryStore t m s v) h (fun _ h' => K undef h') := by
 unfold pEntryStore at hq
 split at hq
 ·rename_i r k n
  split at hq
  ·rename_i es clock hm
   split at hq
   ·rename_i i hi
    unfold Instr.entryStore
    dsimp only
    refine wpS_rd (rdS_getMap hm) ?_
    dsimp only
    refine wpS_rd (a := n) (by rfl) ?_
    rw [hi]
    exact wpS_setMap hm hq
   ·exact hq.elim
  ·exact hq.elim
 ·exact hq.elim

theorem delete_sound {t kt et : TypeId} {kd : TypeDesc} {argTypes : Array TypeId} {type : TypeId} {args : Array Value} {m k : Value} {K : KT} (hT : argTypes[0]? = some t)
  (hargs : args.toList = [m, k]) (ht : P.underlying t = some (.map kt et)) (hk : P.underlying kt = some kd)
  (hs : okKey P kd = true) (hq : pDelete kd m k h K) : wpS P (Builtin.delete_ argTypes type args) h K := by
 have ha : args = #[m, k] := by apply Array.ext'; simpa using hargs
 subst ha
 unfold pDelete at hq
 unfold Builtin.delete_
 simp only [hT, List.getElem?_toArray, List.getElem?_cons_zero, List.getElem?_cons_succ]
 refine wpS_rd (rdS_underlying ht) ?_
 dsimp only
 split at hq
 ·split at hq
  ·rename_i r hf
   refine wpS_rd (checkKey_ok (n := 9998) hk hs hf) ?_
   exact hq
  ·exact hq.elim
 ·rename_i r
  split at hq
  ·rename_i es clock hm
   refine wpS_rd (rdS_getMap hm) ?_
   dsimp only
   split at hq
   ·rename_i i old hf
    refine wpS_rd (checkKey_ok (n := 9998) hk hs hf) ?_
    refine wpS_rd (findKey_ok hk hs hf) ?_
    dsimp only
    exact wpS_bind (wpS_setMap hm hq)
   ·rename_i hf
    refine wpS_rd (checkKey_ok (n := 9998) hk hs hf) ?_
    refine wpS_rd (findKey_ok hk hs hf) ?_
    dsimp only
    exact wpS_bind (wpS_setMap hm hq)
   ·exact hq.elim
  ·exact hq.elim
 ·exact hq.elim

theorem firstCells_sound {size n c l : Nat} {a : Option Addr} {vs : List Value} (hc : cellsOfSl h size n a = some vs) : rdS P (Builtin.firstCells size n (.slice a l c)) h = some vs.toArray := by
 unfold cellsOfSl at hc
 split at hc
 ·simp only [Option.some.injEq] at hc; subst hc; rfl
 ·exact rdS_loadCells hc
 ·cases hc

theorem zeroCells_eq (z : Array Value) (n : Nat) : Builtin.zeroCells z n = (zerosL z.toList n).toArray := zeros_eq z n z.size rfl

theorem copy_sound {t e : TypeId} {i : TypeInfo} {argTypes : Array TypeId} {type : TypeId} {args : Array Value} {d x : Value} {K : KT}
  (hT : argTypes[0]? = some t) (hargs : args.toList = [d, x]) (ht : P.underlying t = some (.slice e)) (hi : P.info? e = some i)
  (hq : pCopy i.size d x h K) : wpS P (Builtin.copy_ argTypes type args) h K := by
 have ha : args = #[d, x] := by apply Array.ext'; simpa using hargs
 subst ha
 unfold pCopy at hq
 split at hq
 ·rename_i base dLen dc xb n xc
  split at hq
  ·rename_i new hnew
   have hnew' : rdS P (Builtin.firstCells i.size (Nat.min n dLen) (.slice xb n xc)) h = some new.toArray := firstCells_sound hnew
   unfold Builtin.copy_
   simp only [hT, List.getElem?_toArray, List.getElem?_cons_zero, List.getElem?_cons_succ]
   refine wpS_rd (rdS_underlying ht) ?_
   dsimp only
   refine wpS_rd (a := n) (by rfl) ?_
   refine wpS_rd (rdS_sizeOf hi) ?_
   refine wpS_rd hnew' ?_
   split at hq
   ·rename_i b o
    dsimp only
    refine wpS_bind ?_
    exact wpS_mono (fun _ _ hk => hk) (storeCells_sound (P := P) (b := b) (o := o) (K := K (.int .i64 (Nat.min n dLen))) new 0 (by simpa using hq))
   ·exact hq
   ·exact hq.elim
  ·exact hq.elim
 ·exact hq.elim

theorem range_sound {t kt et : TypeId} {m : Value} {K : KT} (ht : P.underlying t = some (.map kt et)) (hq : pRangeM m h K) : wpS P (Instr.range t m) h K := by
 unfold pRangeM at hq
 unfold Instr.range
 refine wpS_rd (rdS_underlying ht) ?_
 split at hq
 ·exact hq
 ·rename_i b
  split at hq
  ·rename_i es clock hb
   dsimp only
   refine wpS_rd (a := Obj.map es clock) (by simp [getObj, rdS, hb]) ?_
   exact hq
  ·exact hq.elim
 ·exact hq.elim

theorem choose_wp {α : Type} {n : Nat} {k : Nat -> Sem α} {K : α -> Heap -> Prop} (hn : 0 < n) (hk : ∀ i, i < n -> wpS P (k i) h K) : wpS P (choose (.mapNext n) >>= k) h K := by
 show wpS P (Sem.choose (.mapNext n) fun t => Sem.bind (.pure t) k) h K
 simp only [wpS]
 split
 ·exact hk 0 hn
 ·exact fun t => hk _ (Nat.mod_lt _ hn)

theorem next_sound {it : Value} {ty : TypeId} {K : KT} (hq : pNextM it h K) : wpS P (Instr.next it false ty) h K := by
 unfold pNextM at hq
 split at hq
 ·rename_i r
  split at hq
  ·rename_i a b c hr
   unfold Instr.next
   dsimp only
   refine wpS_rd (a := Obj.mapIter none a b c) (by simp [getObj, rdS, hr]) ?_
   exact hq
  ·rename_i m since seen last hr
   split at hq
   ·rename_i es clock hm
    obtain ⟨h1, h2, h3⟩ := hq
    unfold Instr.next
    dsimp only
    refine wpS_rd (a := Obj.mapIter (some m) since seen last) (by simp [getObj, rdS, hr]) ?_
    dsimp only
    refine wpS_rd (a := Obj.map es clock) (by simp [getObj, rdS, hm]) ?_
    dsimp only
    rw [if_neg (by simpa using h1)]
    generalize hl : Array.filter (fun e => !seen.contains e.born) es = left
    have hl' : unmet es seen = left := hl
    rw [hl'] at h2 h3
    have hsub : ∀ e, e ∈ Array.filter (fun x => decide (x.born < since)) left ++ Array.filter (fun x => decide (x.born >= since)) left -> e ∈ left := fun e he => by
     rcases Array.mem_append.1 he with he | he
     ·exact (Array.mem_filter.1 he).1
     ·exact (Array.mem_filter.1 he).1
    refine choose_wp ?_ fun i hi => ?_
    ·by_cases hem : (Array.filter (fun x => decide (x.born < since)) left).isEmpty = true
     ·rw [if_pos hem]; simp; omega
     ·rw [if_neg hem]
      simp only [Array.isEmpty_iff, <- Array.size_eq_zero_iff] at hem
      simp only [Array.size_append, Array.size_map, Array.size_empty]
      omega
    ·split
     ·rename_i e he
      refine wpS_bind ?_
      have hmem := Array.mem_of_getElem? he
      have he' : e ∈ left := by
       rcases Array.mem_append.1 hmem with hx | hx
       ·split at hx <;> simp at hx
       ·obtain ⟨e', he', e2⟩ := Array.mem_map.1 hx
        cases e2
        exact hsub _ he'
      simp [setObj, wpS, hr]
      exact h2 e he'
     ·rename_i he
      have hmem := Array.mem_of_getElem? he
      refine h3 ?_
      rcases Array.mem_append.1 hmem with hx | hx
      ·split at hx
       ·rename_i hem; exact hem
       ·simp at hx
      ·obtain ⟨e', _, e2⟩ := Array.mem_map.1 hx
       cases e2
     ·rename_i he
      rw [Array.getElem?_eq_none_iff] at he
      omega
   ·exact hq.elim
  ·exact hq.elim
 ·exact hq.elim

theorem copyS_sound {t e : TypeId} {i : TypeInfo} {argTypes : Array TypeId} {type : TypeId} {args : Array Value} {d x : Value} {K : KT}
  (hT : argTypes[0]? = some t) (hargs : args.toList = [d, x]) (ht : P.underlying t = some (.slice e)) (hi : P.info? e = some i)
  (hq : pCopyS d x h K) : wpS P (Builtin.copy_ argTypes type args) h K := by
 have ha : args = #[d, x] := by apply Array.ext'; simpa using hargs
 subst ha
 unfold pCopyS at hq
 split at hq
 ·rename_i base dLen dc s
  unfold Builtin.copy_
  simp only [hT, List.getElem?_toArray, List.getElem?_cons_zero, List.getElem?_cons_succ]
  refine wpS_rd (rdS_underlying ht) ?_
  dsimp only
  refine wpS_rd (a := s.size) (by rfl) ?_
  refine wpS_rd (rdS_sizeOf hi) ?_
  refine wpS_rd (a := (s.extract 0 (Nat.min s.size dLen)).data.map fun b => Value.int .u8 b.toNat) (by rfl) ?_
  split at hq
  ·rename_i b o
   dsimp only
   refine wpS_bind ?_
   exact wpS_mono (fun _ _ hk => hk) (storeCells_sound (P := P) (b := b) (o := o) (K := K (.int .i64 (Nat.min s.size dLen))) _ 0 (by simpa using hq))
  ·exact hq
  ·exact hq.elim
 ·exact hq.elim

theorem append_sound {t e xt xe : TypeId} {i : TypeInfo} {z : Value} {argTypes : Array TypeId} {type : TypeId} {args : Array Value} {s x : Value} {K : KT}
  (hT : argTypes[0]? = some t) (hX : argTypes[1]? = some xt) (hargs : args.toList = [s, x]) (ht : P.underlying t = some (.slice e)) (hx : P.underlying xt = some (.slice xe))
  (hi : P.info? e = some i) (hz : i.zero = some z)
  (hq : pAppend e i.size i.bytes z.cells.toList s x h K) : wpS P (Builtin.append_ argTypes type args) h K := by
 have ha : args = #[s, x] := by apply Array.ext'; simpa using hargs
 subst ha
 unfold pAppend at hq
 split at hq
 ·rename_i base sLen sCap xb n xc
  split at hq
  ·rename_i new hnew
   have hnew' : rdS P (Builtin.firstCells i.size n (.slice xb n xc)) h = some new.toArray := firstCells_sound hnew
   unfold Builtin.append_
   simp only [hT, hX, List.getElem?_toArray, List.getElem?_cons_zero, List.getElem?_cons_succ]
   refine wpS_rd (rdS_underlying ht) ?_
   dsimp only
   refine wpS_rd (rdS_sizeOf hi) ?_
   refine wpS_rd (rdS_underlying hx) ?_
   dsimp only
   refine wpS_rd (rdS_pure _) ?_
   simp only [Bool.false_eq_true, if_false, Bool.not_false, if_true]
   refine wpS_rd (a := n) (by rfl) ?_
   split at hq
   ·rename_i hle
    rw [if_pos hle]
    refine wpS_rd hnew' ?_
    split at hq
    ·rename_i b o
     dsimp only
     refine wpS_bind ?_
     rw [addr_add]
     exact wpS_mono (fun _ _ hk => hk) (storeCells_sound (P := P) (b := b) (o := o + sLen * i.size) (K := K (.slice (some ⟨b, o, none⟩) (sLen + n) sCap)) new 0 (by simpa using hq))
    ·exact hq
    ·exact hq.elim
   ·rename_i hle
    rw [if_neg hle]
    split at hq
    ·rename_i old hold
     obtain ⟨hcap, hb, hk⟩ := hq
     have hold' : rdS P (Builtin.firstCells i.size sLen (.slice base sLen sCap)) h = some old.toArray := firstCells_sound hold
     refine wpS_rd (rdS_typeInfo hi) ?_
     rw [if_neg (by
      rintro ⟨h1, _⟩
      have : IntKind.i64.max = 2 ^ 63 - 1 := rfl
      omega)]
     refine wpS_rd (rdS_typeInfo hi) ?_
     rw [if_neg (by omega)]
     refine wpS_bind ?_
     have hch : ∀ c, sLen + n <= c -> c < 2 ^ 63 -> wpS P (do
       askRoom (c * (<- typeInfo e).bytes)
       let old <- Builtin.firstCells i.size sLen (.slice base sLen sCap)
       let new <- Builtin.firstCells i.size n (.slice xb n xc)
       let rest := Builtin.zeroCells (<- zeroValue e).cells (c - (sLen + n))
       pure (.slice (some (<- newRow e (old ++ new ++ rest))) (sLen + n) c) : Sem Value) h K := by
      intro c hc hc2
      have fin : wpS P (do
       let old <- Builtin.firstCells i.size sLen (.slice base sLen sCap)
       let new <- Builtin.firstCells i.size n (.slice xb n xc)
       let rest := Builtin.zeroCells (<- zeroValue e).cells (c - (sLen + n))
       pure (.slice (some (<- newRow e (old ++ new ++ rest))) (sLen + n) c) : Sem Value) h K := by
       refine wpS_rd hold' (wpS_rd hnew' (wpS_rd (rdS_zeroValue hi hz) ?_))
       rw [zeroCells_eq]
       show K _ _
       have := hk c hc hc2
       simpa using this
      refine wpS_rd (rdS_typeInfo hi) ?_
      unfold askRoom
      split
      ·exact wpS_bind (show wpS P (mark .noRoom) h _ from fin)
      ·exact wpS_bind (wpS_pure fin)
     show wpS P (choose _) h _
     unfold choose
     simp only [wpS, Question.forced, Bool.false_eq_true, if_false]
     intro t
     refine hch _ (Nat.le_add_right _ _) ?_
     show sLen + n + t % (2 ^ 63 - (sLen + n)) < 2 ^ 63
     have := Nat.mod_lt t (show 0 < 2 ^ 63 - (sLen + n) by omega)
     omega
    ·exact hq.elim
  ·exact hq.elim
 ·exact hq.elim

theorem clear_sound {t e : TypeId} {i : TypeInfo} {z : Value} {argTypes : Array TypeId} {type : TypeId} {args : Array Value} {x : Value} {K : KT}
  (hT : argTypes[0]? = some t) (hargs : args.toList = [x]) (ht : P.underlying t = some (.slice e)) (hi : P.info? e = some i) (hz : i.zero = some z)
  (hq : pClear z.cells.toList x h K) : wpS P (Builtin.clear_ argTypes type args) h K := by
 have ha : args = #[x] := by apply Array.ext'; simpa using hargs
 subst ha
 unfold pClear at hq
 split at hq
 ·unfold Builtin.clear_
  simp only [hT, List.getElem?_toArray, List.getElem?_cons_zero]
  refine wpS_rd (rdS_underlying ht) ?_
  exact hq
 ·split at hq
  ·unfold Builtin.clear_
   simp only [hT, List.getElem?_toArray, List.getElem?_cons_zero]
   refine wpS_rd (rdS_underlying ht) ?_
   exact hq
  ·rename_i b o _ _ m
   unfold Builtin.clear_
   simp only [hT, List.getElem?_toArray, List.getElem?_cons_zero]
   refine wpS_rd (rdS_underlying ht) ?_
   refine wpS_rd (rdS_zeroValue hi hz) ?_
   rw [zeroCells_eq]
   refine wpS_bind ?_
   exact wpS_mono (fun _ _ hk => hk) (storeCells_sound (P := P) (b := b) (o := o) (K := K (.tuple #[])) (zerosL z.cells.toList (m + 1)) 0 (by simpa using hq))
 ·exact hq.elim

theorem appendZ_sound {t e xt : TypeId} {kk : IntKind} {i : TypeInfo} {z : Value} {argTypes : Array TypeId} {type : TypeId} {args : Array Value} {s x : Value} {K : KT}
  (hT : argTypes[0]? = some t) (hX : argTypes[1]? = some xt) (hargs : args.toList = [s, x]) (ht : P.underlying t = some (.slice e)) (hx : P.underlying xt = some (.int kk))
  (hi : P.info? e = some i) (hz : i.zero = some z) (hzs : z.cells.size = i.size)
  (hq : pAppendZ e i.size i.bytes z.cells.toList s x h K) : wpS P (Builtin.append_ argTypes type args) h K := by
 have ha : args = #[s, x] := by apply Array.ext'; simpa using hargs
 subst ha
 unfold pAppendZ at hq
 split at hq
 ·rename_i base sLen sCap l
  obtain ⟨h0, h63, hby, hq⟩ := hq
  obtain ⟨n, rfl⟩ := Int.eq_ofNat_of_zero_le h0
  simp only [Int.toNat_natCast] at hq
  have hap : ∀ h', rdS P (if n * i.size = 0 then pure #[] else do pure (Builtin.zeroCells (<- zeroValue e).cells n)) h' = some (zerosL z.cells.toList n).toArray := by
   intro h'
   split
   ·rename_i h00
    have : zerosL z.cells.toList n = [] := by
     apply List.eq_nil_of_length_eq_zero
     simp [zerosL, hzs, h00]
    rw [this]; rfl
   ·rw [rdS_bind (rdS_zeroValue hi hz), zeroCells_eq]; rfl
  unfold Builtin.append_
  simp only [hT, hX, List.getElem?_toArray, List.getElem?_cons_zero, List.getElem?_cons_succ]
  refine wpS_rd (rdS_underlying ht) ?_
  dsimp only
  refine wpS_rd (rdS_sizeOf hi) ?_
  refine wpS_rd (rdS_underlying hx) ?_
  dsimp only
  refine wpS_rd (rdS_pure _) ?_
  simp only [Bool.not_true, Bool.false_eq_true, if_false, if_true]
  have hw : IntKind.i64.wrap (n : Int) = n := by
   simp only [IntKind.wrap, IntKind.signed, IntKind.bits]
   simp
   omega
  refine wpS_rd (a := (n : Int)) (by rfl) ?_
  rw [hw, if_neg (by omega)]
  refine wpS_rd (rdS_typeInfo hi) ?_
  rw [if_neg (by omega)]
  refine wpS_rd (rdS_pure _) ?_
  simp only [Int.toNat_natCast]
  split at hq
  ·rename_i hle
   rw [if_pos hle]
   refine wpS_rd (hap _) ?_
   split at hq
   ·rename_i b o
    dsimp only
    refine wpS_bind ?_
    rw [addr_add]
    exact wpS_mono (fun _ _ hk => hk) (storeCells_sound (P := P) (b := b) (o := o + sLen * i.size) (K := K (.slice (some ⟨b, o, none⟩) (sLen + n) sCap)) (zerosL z.cells.toList n) 0 (by simpa using hq))
   ·exact hq
   ·exact hq.elim
  ·rename_i hle
   rw [if_neg hle]
   split at hq
   ·rename_i old hold
    obtain ⟨hcap, hb, hk⟩ := hq
    have hold' : rdS P (Builtin.firstCells i.size sLen (.slice base sLen sCap)) h = some old.toArray := firstCells_sound hold
    refine wpS_rd (rdS_typeInfo hi) ?_
    rw [if_neg (by
     rintro ⟨h1, _⟩
     have : IntKind.i64.max = 2 ^ 63 - 1 := rfl
     omega)]
    refine wpS_rd (rdS_typeInfo hi) ?_
    rw [if_neg (by omega)]
    refine wpS_bind ?_
    have hch : ∀ c, sLen + n <= c -> c < 2 ^ 63 -> wpS P (do
      askRoom (c * (<- typeInfo e).bytes)
      let old <- Builtin.firstCells i.size sLen (.slice base sLen sCap)
      let new <- (if n * i.size = 0 then pure #[] else do pure (Builtin.zeroCells (<- zeroValue e).cells n))
      let rest := Builtin.zeroCells (<- zeroValue e).cells (c - (sLen + n))
      pure (.slice (some (<- newRow e (old ++ new ++ rest))) (sLen + n) c) : Sem Value) h K := by
     intro c hc hc2
     have fin : wpS P (do
      let old <- Builtin.firstCells i.size sLen (.slice base sLen sCap)
      let new <- (if n * i.size = 0 then pure #[] else do pure (Builtin.zeroCells (<- zeroValue e).cells n))
      let rest := Builtin.zeroCells (<- zeroValue e).cells (c - (sLen + n))
      pure (.slice (some (<- newRow e (old ++ new ++ rest))) (sLen + n) c) : Sem Value) h K := by
      refine wpS_rd hold' (wpS_rd (hap _) (wpS_rd (rdS_zeroValue hi hz) ?_))
      rw [zeroCells_eq]
      show K _ _
      have := hk c hc hc2
      simpa using this
     refine wpS_rd (rdS_typeInfo hi) ?_
     unfold askRoom
     split
     ·exact wpS_bind (show wpS P (mark .noRoom) h _ from fin)
     ·exact wpS_bind (wpS_pure fin)
    show wpS P (choose _) h _
    unfold choose
    simp only [wpS, Question.forced, Bool.false_eq_true, if_false]
    intro t
    refine hch _ (Nat.le_add_right _ _) ?_
    show sLen + n + t % (2 ^ 63 - (sLen + n)) < 2 ^ 63
    have := Nat.mod_lt t (show 0 < 2 ^ 63 - (sLen + n) by omega)
    omega
   ·exact hq.elim
 ·exact hq.elim

theorem callFunc_wp {f : FuncId} {args : Array Value} {K : KT} (hq : CallsH P f args h K) : wpS P (callFunc f args) h (nextK P K) := by
 obtain ⟨hc, hk⟩ := hq
 unfold Callable at hc
 split at hc
 ·rename_i fn hfn
  simp only [Bool.and_eq_true, Bool.not_eq_true', beq_eq_false_iff_ne, ne_eq] at hc
  have hb : fn.body.isNone = false := by cases hx : fn.body <;> simp_all
  unfold callFunc
  refine wpS_rd (a := P) (by rfl) ?_
  simp only [hfn, hb]
  rw [if_neg (by simpa using hc.2)]
  exact hk
 ·cases hc

theorem callV_wp {v : Value} {args : Array Value} {K : KT} (hq : callV P v args h K) :
  wpS P (do let d <- Deferred.ofValue v args; invoke d.target d.args) h (nextK P K) := by
 unfold callV at hq
 split at hq
 ·refine wpS_rd (rdS_pure _) ?_
  exact callFunc_wp hq
 ·rename_i l first _
  refine wpS_rd (rdS_pure _) ?_
  unfold YieldH at hq
  split at hq
  ·rename_i L hL
   show wpS P (Instr.yield l (first ++ args)) h _
   unfold Instr.yield Instr.getLoop
   refine wpS_rd (a := L) (by rw [rdS_bind (a := .loop L) (by simp [getObj, rdS, hL])]; rfl) ?_
   rw [if_neg (by simpa using hq.1)]
   exact hq.2
  ·exact hq.elim
 ·exact hq.elim

end
open Go

section
variable {P : Program} {h : Heap}

theorem lop_sound {ρ : Operand -> Value} {o : Oper} {K : KT} (hq : lop P ρ o.op h K) : wpS P (execOp ρ o) h (nextK P K) := by
 obtain ⟨dst, op, type, pos, after, guard⟩ := o
 dsimp only at hq
 unfold execOp
 cases op <;> simp only [lop] at hq
 case box t v => exact wpv (box_sound hq)
 case alloc t =>
  split at hq
  ·rename_i i hi
   split at hq
   ·rename_i z hz; exact wpv (alloc_sound hi hz hq)
   ·exact hq.elim
  ·exact hq.elim
 case buildSlice t len parts =>
  split at hq
  ·rename_i e ht
   split at hq
   ·rename_i i hi
    split at hq
    ·rename_i z hz
     split at hq
     ·rename_i h1 h2
      refine wpv (buildSlice_sound ht hi hz (Nat.le_of_ble_eq_true h1) (Nat.eq_of_beq_eq_true h2) ?_)
      have : (parts.map fun (x : Nat × Operand) => (x.1, ρ x.2)).toList.map (fun (x : Nat × Value) => (x.1 * i.size, i.size, x.2)) = parts.toList.map fun (x : Nat × Operand) => (x.1 * i.size, i.size, ρ x.2) := by simp
      show pBuildSlice e _ ((parts.map fun (x : Nat × Operand) => (x.1, ρ x.2)).toList.map (fun (x : Nat × Value) => (x.1 * i.size, i.size, x.2))) len h K
      rw [this]; exact hq
     ·exact hq.elim
    ·exact hq.elim
   ·exact hq.elim
  ·exact hq.elim
 case makeSlice t l c =>
  split at hq
  ·rename_i e ht
   split at hq
   ·rename_i i hi
    split at hq
    ·rename_i z hz
     split at hq
     ·rename_i h2; exact wpv (makeSlice_sound ht hi hz (Nat.eq_of_beq_eq_true h2) hq)
     ·exact hq.elim
    ·exact hq.elim
   ·exact hq.elim
  ·exact hq.elim
 case makeMap t r =>
  cases r with
  | none => exact wpv hq
  | some _ => exact hq.elim
 case range t m =>
  split at hq
  ·rename_i kt et ht; exact wpv (range_sound ht hq)
  ·exact hq.elim
 case next it s =>
  split at hq
  ·exact hq.elim
  ·exact wpv (next_sound hq)
 case store t a x =>
  split at hq
  ·rename_i i hi; exact wpu (store_sound hi hq)
  ·exact hq.elim
 case mapUpdate t m k x =>
  split at hq
  ·rename_i kt et ht
   split at hq
   ·rename_i kd hk
    split at hq
    ·rename_i hs; exact wpu (mapSet_sound ht hk hs hq)
    ·exact hq.elim
   ·exact hq.elim
  ·exact hq.elim
 case insert t m k x =>
  split at hq
  ·rename_i kt et ht
   split at hq
   ·rename_i kd hk
    split at hq
    ·rename_i hs; exact wpu (mapSet_sound ht hk hs hq)
    ·exact hq.elim
   ·exact hq.elim
  ·exact hq.elim
 case mapEntry t m k =>
  split at hq
  ·rename_i kt et ht
   split at hq
   ·rename_i kd ei hk he
    split at hq
    ·rename_i z hs hz; exact wpv (mapEntry_sound ht hk hs he hz hq)
    ·exact hq.elim
   ·exact hq.elim
  ·exact hq.elim
 case entryStore t m s x => exact wpu (entryStore_sound hq)
 case call c =>
  obtain ⟨callee, args, argTypes⟩ := c
  dsimp only at hq ⊢
  have core : ∀ {b : Builtin} {s : Sem Value}, (∀ cs, builtin b argTypes type cs (args.map ρ) = (do pure (.value (<- s)))) -> wpS P s h K ->
    wpS P (do let d <- resolve ρ { callee := .builtin b, args, argTypes } type; invoke d.target d.args) h (nextK P K) := by
   intro b s hs hk
   show wpS P (builtin b argTypes type _ (args.map ρ)) h _
   rw [hs]; exact wpv hk
  have two : ∀ {x y : Operand}, args.toList = [x, y] -> (args.map ρ).toList = [ρ x, ρ y] := fun e => by simp [e]
  split at hq
  ·split at hq
   ·rename_i t xt s x hT hX hargs
    split at hq
    ·rename_i e xe ht hx
     split at hq
     ·rename_i i hi
      split at hq
      ·rename_i z hz
       split at hq
       ·exact core (fun _ => rfl) (append_sound hT hX (two hargs) ht hx hi hz hq)
       ·exact hq.elim
      ·exact hq.elim
     ·exact hq.elim
    ·rename_i e kk ht hx
     split at hq
     ·rename_i i hi
      split at hq
      ·rename_i z hz
       split at hq
       ·rename_i hb
        exact core (fun _ => rfl) (appendZ_sound hT hX (two hargs) ht hx hi hz (Nat.eq_of_beq_eq_true hb) hq)
       ·exact hq.elim
      ·exact hq.elim
     ·exact hq.elim
    ·exact hq.elim
   ·exact hq.elim
  ·split at hq
   ·rename_i t d x hT hargs
    split at hq
    ·rename_i e ht
     split at hq
     ·rename_i i hi
      split at hq
      ·exact core (fun _ => rfl) (copyS_sound hT (two hargs) ht hi hq)
      ·exact core (fun _ => rfl) (copy_sound hT (two hargs) ht hi hq)
     ·exact hq.elim
    ·exact hq.elim
   ·exact hq.elim
  ·split at hq
   ·rename_i t m k hT hargs
    split at hq
    ·rename_i kt et ht
     split at hq
     ·rename_i kd hk
      split at hq
      ·rename_i hs; exact core (fun _ => rfl) (delete_sound hT (two hargs) ht hk hs hq)
      ·exact hq.elim
     ·exact hq.elim
    ·exact hq.elim
   ·exact hq.elim
  ·split at hq
   ·rename_i t x hT hargs
    split at hq
    ·rename_i e ht
     split at hq
     ·rename_i i hi
      split at hq
      ·rename_i z hz; exact core (fun _ => rfl) (clear_sound hT (by simp [hargs]) ht hi hz hq)
      ·exact hq.elim
     ·exact hq.elim
    ·exact hq.elim
   ·exact hq.elim
  ·exact callV_wp (by simpa only [listMap_toArray] using hq)
  ·exact hq.elim
 all_goals exact hq.elim

def quietB : Op -> Bool
 | .move _ | .assign _ | .pick .. | .load .. | .nilCheck _ | .binOp .. | .unOp .. | .convert .. | .makeInterface .. | .makeFunc .. | .slice .. | .fieldAddr .. | .field ..
 | .indexAddr .. | .index .. | .lookup .. | .extract .. | .build .. | .entry _ => true
 | .call { callee := .builtin .len, .. } | .call { callee := .builtin .cap, .. } | .call { callee := .builtin .min, .. } | .call { callee := .builtin .max, .. } => true
 | _ => false

def pureB (P : Program) : Op -> Bool
 | .load .. | .lookup .. | .entry _ => false
 | .convert _ d _ => (match P.underlying d with
  | some .string => false
  | _ => true)
 | .call { callee := .builtin .len, argTypes, .. } => (match argTypes[0]? with
  | some t => (match P.underlying t with
   | some (.map _ _) => false
   | _ => true)
  | none => true)
 | _ => true

def addsB : Op -> Bool
 | .box .. | .alloc _ | .buildSlice .. | .makeSlice .. | .makeMap .. => true
 | _ => false

theorem pushed {h : Heap} {r : Nat} {x o : Obj} (hx : h[r]? = some x) : (h.push o)[r]? = some x := by
 have := (Array.getElem?_eq_some_iff.1 hx).1
 rw [Array.getElem?_push]; simp [Nat.ne_of_lt this, hx]

theorem hcell_push {h : Heap} {a : Addr} {v : Value} {o : Obj} (hv : hcell h a = some v) : hcell (h.push o) a = some v := by
 unfold hcell at *
 split at hv
 ·rename_i hb; rw [pushed hb]; exact hv
 ·cases hv

theorem cellsAt_push {h : Heap} {b : Nat} {o : Obj} : ∀ {n i : Nat} {l : List Value}, cellsAt h b i n = some l -> cellsAt (h.push o) b i n = some l
 | 0, _, _, hl => hl
 | n + 1, i, l, hl => by
  simp only [cellsAt] at *
  split at hl
  ·rename_i v hv
   rw [hcell_push hv]
   split at hl
   ·rename_i l' hl'; rw [cellsAt_push hl']; exact hl
   ·cases hl
  ·cases hl

theorem qop_push {ρ : Operand -> Value} {op : Op} {o : Obj} {K : Value -> Prop} (hq : qop P ρ op h K) : qop P ρ op (h.push o) K := by
 cases op <;> simp only [qop] at hq ⊢ <;> try exact hq
 case load t a =>
  split at hq
  ·rename_i d i hd hi
   split at hq
   ·rename_i ha
    unfold pLoadN at *
    split at hq
    ·split at hq
     ·rename_i l hl; rw [cellsAt_push hl]; exact hq
     ·exact hq.elim
    ·exact hq.elim
   ·rename_i ha
    unfold pLoad at *
    split at hq
    ·split at hq
     ·rename_i v hv; rw [hcell_push hv]; exact hq
     ·exact hq.elim
    ·exact hq.elim
  ·exact hq.elim
 case convert s d x =>
  split at hq
  ·exact hq
  ·split at hq
   ·unfold pConvBS at *
    split at hq
    ·exact hq
    ·split at hq
     ·rename_i l hl; rw [cellsAt_push hl]; exact hq
     ·exact hq.elim
    ·exact hq.elim
   ·exact hq.elim
  ·exact hq.elim
 case entry it =>
  unfold pEntryM at *
  split at hq
  ·rename_i r
   split at hq
   ·rename_i m x seen stepped hr
    rw [pushed hr]
    dsimp only
    split at hq
    ·rename_i stamp es clock hb hm
     rw [hb, pushed hm]
     exact hq
    ·exact hq.elim
   ·exact hq.elim
  ·exact hq.elim
 case lookup t m k ok =>
  split at hq
  ·split at hq
   ·split at hq
    ·unfold pLook at *
     split at hq
     ·exact hq
     ·rename_i r
      split at hq
      ·rename_i es clock hm; rw [pushed hm]; exact hq
      ·exact hq.elim
     ·exact hq.elim
    ·exact hq.elim
   ·exact hq.elim
  ·exact hq.elim
 case call c =>
  split at hq
  ·split at hq
   ·split at hq
    ·exact hq
    ·exact hq
    ·unfold pLenM at *
     split at hq
     ·exact hq
     ·rename_i r
      split at hq
      ·rename_i es clock hm; rw [pushed hm]; exact hq
      ·exact hq.elim
     ·exact hq.elim
    ·exact hq
    ·exact hq.elim
   ·exact hq.elim
  all_goals exact hq

theorem qop_pure {ρ : Operand -> Value} {op : Op} {h' : Heap} {K : Value -> Prop} (hp : pureB P op = true) (hq : qop P ρ op h K) : qop P ρ op h' K := by
 cases op <;> simp only [qop] at hq ⊢ <;> try exact hq
 case convert s d x =>
  split at hq
  ·exact hq
  ·rename_i hs hd
   simp [pureB, hd] at hp
  ·exact hq.elim
 case entry it => cases hp
 case load t a => cases hp
 case lookup t m k ok => cases hp
 case call c =>
  obtain ⟨callee, args, argTypes⟩ := c
  dsimp only at hq ⊢
  split at hq
  ·split at hq
   ·rename_i t x hT hx
    split at hq
    ·exact hq
    ·exact hq
    ·rename_i hd
     simp [pureB, hT, hd] at hp
    ·exact hq
    ·exact hq.elim
   ·exact hq.elim
  all_goals exact hq

theorem storeL_mono {b : Nat} {K K' : Heap -> Prop} (hm : ∀ h, K h -> K' h) : ∀ (l : List Value) (o : Nat) (h : Heap), storeL h b o l K -> storeL h b o l K'
 | [], _, _, hl => hm _ hl
 | _ :: r, o, _, hl => ⟨hl.1, hl.2.1, hl.2.2.1, storeL_mono hm r _ _ hl.2.2.2⟩

theorem lop_mono {ρ : Operand -> Value} {op : Op} {K K' : KT} (hm : ∀ v h, K v h -> K' v h) (hl : lop P ρ op h K) : lop P ρ op h K' := by
 cases op <;> simp only [lop] at hl ⊢ <;> try exact hl.elim
 case box t v => exact hm _ _ hl
 case alloc t =>
  split at hl
  ·split at hl
   ·exact hm _ _ hl
   ·exact hl.elim
  ·exact hl.elim
 case buildSlice t len parts =>
  split at hl
  ·split at hl
   ·split at hl
    ·split at hl
     ·exact ⟨hl.1, hm _ _ hl.2⟩
     ·exact hl.elim
    ·exact hl.elim
   ·exact hl.elim
  ·exact hl.elim
 case makeSlice t l c =>
  split at hl
  ·split at hl
   ·split at hl
    ·split at hl
     ·unfold pMakeSlice at *
      split at hl
      ·exact ⟨hl.1, hl.2.1, hl.2.2.1, hl.2.2.2.1, hm _ _ hl.2.2.2.2⟩
      ·exact hl.elim
     ·exact hl.elim
    ·exact hl.elim
   ·exact hl.elim
  ·exact hl.elim
 case range t m =>
  split at hl
  ·unfold pRangeM at *
   split at hl
   ·exact hm _ _ hl
   ·split at hl
    ·exact hm _ _ hl
    ·exact hl.elim
   ·exact hl.elim
  ·exact hl.elim
 case next it s =>
  split at hl
  ·exact hl.elim
  ·unfold pNextM at *
   split at hl
   ·split at hl
    ·exact hm _ _ hl
    ·split at hl
     ·exact ⟨hl.1, fun e he => hm _ _ (hl.2.1 e he), fun h => hm _ _ (hl.2.2 h)⟩
     ·exact hl.elim
    ·exact hl.elim
   ·exact hl.elim
 case makeMap t r =>
  cases r with
  | none => exact hm _ _ hl
  | some _ => exact hl.elim
 case store t a x =>
  split at hl
  ·unfold pStore at *
   split at hl
   ·exact ⟨hl.1, storeL_mono (hm _) _ _ _ hl.2⟩
   ·exact hl.elim
  ·exact hl.elim
 case mapUpdate t m k x =>
  split at hl
  ·split at hl
   ·split at hl
    ·unfold pMapSet at *
     split at hl
     ·split at hl
      ·split at hl
       ·exact hm _ _ hl
       ·exact hm _ _ hl
       ·exact hl.elim
      ·exact hl.elim
     ·exact hl.elim
    ·exact hl.elim
   ·exact hl.elim
  ·exact hl.elim
 case insert t m k x =>
  split at hl
  ·split at hl
   ·split at hl
    ·unfold pMapSet at *
     split at hl
     ·split at hl
      ·split at hl
       ·exact hm _ _ hl
       ·exact hm _ _ hl
       ·exact hl.elim
      ·exact hl.elim
     ·exact hl.elim
    ·exact hl.elim
   ·exact hl.elim
  ·exact hl.elim
 case mapEntry t m k =>
  split at hl
  ·split at hl
   ·split at hl
    ·unfold pMapEntry at *
     split at hl
     ·split at hl
      ·split at hl
       ·exact hm _ _ hl
       ·exact hm _ _ hl
       ·exact hl.elim
      ·exact hl.elim
     ·exact hl.elim
    ·exact hl.elim
   ·exact hl.elim
  ·exact hl.elim
 case entryStore t m s x =>
  unfold pEntryStore at *
  split at hl
  ·split at hl
   ·split at hl
    ·exact hm _ _ hl
    ·exact hl.elim
   ·exact hl.elim
  ·exact hl.elim
 case call c =>
  split at hl
  ·split at hl
   ·split at hl
    ·split at hl
     ·split at hl
      ·split at hl
       ·unfold pAppend at *
        split at hl
        ·split at hl
         ·split at hl
          ·rename_i hle
           rw [if_pos hle]
           split at hl
           ·exact storeL_mono (hm _) _ _ _ hl
           ·exact hm _ _ hl
           ·exact hl.elim
          ·rename_i hle
           rw [if_neg hle]
           split at hl
           ·exact ⟨hl.1, hl.2.1, fun c h1 h2 => hm _ _ (hl.2.2 c h1 h2)⟩
           ·exact hl.elim
         ·exact hl.elim
        ·exact hl.elim
       ·exact hl.elim
      ·exact hl.elim
     ·exact hl.elim
    ·split at hl
     ·split at hl
      ·split at hl
       ·unfold pAppendZ at *
        split at hl
        ·obtain ⟨h0, h1, h2, hl⟩ := hl
         refine ⟨h0, h1, h2, ?_⟩
         split at hl
         ·rename_i hle
          rw [if_pos hle]
          split at hl
          ·exact storeL_mono (hm _) _ _ _ hl
          ·exact hm _ _ hl
          ·exact hl.elim
         ·rename_i hle
          rw [if_neg hle]
          split at hl
          ·exact ⟨hl.1, hl.2.1, fun c h1 h2 => hm _ _ (hl.2.2 c h1 h2)⟩
          ·exact hl.elim
        ·exact hl.elim
       ·exact hl.elim
      ·exact hl.elim
     ·exact hl.elim
    ·exact hl.elim
   ·exact hl.elim
  ·split at hl
   ·split at hl
    ·split at hl
     ·split at hl
      ·unfold pCopyS at *
       split at hl
       ·split at hl
        ·exact storeL_mono (hm _) _ _ _ hl
        ·exact hm _ _ hl
        ·exact hl.elim
       ·exact hl.elim
      ·unfold pCopy at *
       split at hl
       ·split at hl
        ·split at hl
         ·exact storeL_mono (hm _) _ _ _ hl
         ·exact hm _ _ hl
         ·exact hl.elim
        ·exact hl.elim
       ·exact hl.elim
     ·exact hl.elim
    ·exact hl.elim
   ·exact hl.elim
  ·split at hl
   ·split at hl
    ·split at hl
     ·split at hl
      ·unfold pDelete at *
       split at hl
       ·split at hl
        ·exact hm _ _ hl
        ·exact hl.elim
       ·split at hl
        ·split at hl
         ·exact hm _ _ hl
         ·exact hm _ _ hl
         ·exact hl.elim
        ·exact hl.elim
       ·exact hl.elim
      ·exact hl.elim
     ·exact hl.elim
    ·exact hl.elim
   ·exact hl.elim
  ·split at hl
   ·split at hl
    ·split at hl
     ·split at hl
      ·unfold pClear at *
       split at hl
       ·exact hm _ _ hl
       ·split at hl
        ·exact hm _ _ hl
        ·exact storeL_mono (hm _) _ _ _ hl
       ·exact hl.elim
      ·exact hl.elim
     ·exact hl.elim
    ·exact hl.elim
   ·exact hl.elim
  ·exact callV.mono hl hm
  ·exact hl.elim

theorem adds_loud {op : Op} (ha : addsB op = true) : quietB op = false := by
 cases op <;> first | rfl | cases ha

theorem pBox_adds {t : TypeId} {v : Value} {K : KT} (hq : pBox t v h K) : pBox t v h (fun v h' => K v h' /\ ∃ o, h' = h.push o) := ⟨hq, _, rfl⟩

theorem lop_adds {ρ : Operand -> Value} {op : Op} {K : KT} (ha : addsB op = true) (hq : lop P ρ op h K) : lop P ρ op h (fun v h' => K v h' /\ ∃ o, h' = h.push o) := by
 cases op <;> simp only [lop] at hq ⊢ <;> try (cases ha)
 case box t v => exact pBox_adds hq
 case alloc t =>
  split at hq
  ·split at hq
   ·exact pBox_adds hq
   ·exact hq.elim
  ·exact hq.elim
 case buildSlice t len parts =>
  split at hq
  ·split at hq
   ·split at hq
    ·split at hq
     ·exact ⟨hq.1, hq.2, _, rfl⟩
     ·exact hq.elim
    ·exact hq.elim
   ·exact hq.elim
  ·exact hq.elim
 case makeSlice t l c =>
  split at hq
  ·split at hq
   ·split at hq
    ·split at hq
     ·unfold pMakeSlice at *
      split at hq
      ·exact ⟨hq.1, hq.2.1, hq.2.2.1, hq.2.2.2.1, hq.2.2.2.2, _, rfl⟩
      ·exact hq.elim
     ·exact hq.elim
    ·exact hq.elim
   ·exact hq.elim
  ·exact hq.elim
 case makeMap t r =>
  cases r with
  | none => exact ⟨hq, _, rfl⟩
  | some _ => exact hq.elim

def Det (T : (Value -> Prop) -> Prop) : Prop := ∀ K, T K -> ∃ v, K v /\ ∀ K' : Value -> Prop, K' v -> T K'

theorem det_pPick (c a b : Value) : Det (pPick c a b) := by
 intro K hK; unfold pPick at *; split at hK
 ·exact ⟨_, hK, fun _ h => h⟩
 ·exact ⟨_, hK, fun _ h => h⟩
 ·exact hK.elim

theorem det_pLoad (h : Heap) (a : Value) : Det (pLoad h a) := by
 intro K hK; unfold pLoad at *; split at hK
 ·split at hK
  ·rename_i v hv; exact ⟨_, hK, fun _ h => h⟩
  ·exact hK.elim
 ·exact hK.elim

theorem det_pLoadN (n : Nat) (h : Heap) (a : Value) : Det (pLoadN n h a) := by
 intro K hK; unfold pLoadN at *; split at hK
 ·split at hK
  ·rename_i v hv; exact ⟨_, hK, fun _ h => h⟩
  ·exact hK.elim
 ·exact hK.elim

theorem det_pNil (v : Value) : Det (pNil v) := by
 intro K hK; unfold pNil at *; split at hK
 ·exact ⟨_, hK, fun _ h => h⟩
 ·exact ⟨_, hK, fun _ h => h⟩
 ·exact ⟨_, hK, fun _ h => h⟩
 ·exact hK.elim

theorem det_pBin (op : BinOp) (x y : Value) : Det (pBin op x y) := by
 intro K hK; unfold pBin at *
 split at hK <;> first
  | exact hK.elim
  | (obtain ⟨h1, h2, hk⟩ := hK; exact ⟨_, hk, fun _ h => ⟨h1, h2, h⟩⟩)
  | (obtain ⟨h1, hk⟩ := hK; exact ⟨_, hk, fun _ h => ⟨h1, h⟩⟩)
  | exact ⟨_, hK, fun _ h => h⟩

theorem det_pEq (neg : Bool) (d : EqK) (x y : Value) : Det (pEq neg d x y) := by
 intro K hK; unfold pEq at *
 split at hK <;> first
  | exact hK.elim
  | exact ⟨_, hK, fun _ h => h⟩

theorem det_pBinT (d : TypeDesc) (op : BinOp) (lit : Bool) (x y : Value) : Det (pBinT d op lit x y) := by
 intro K hK; unfold pBinT at *
 split at hK
 ·split at hK
  ·exact hK.elim
  ·split at hK
   ·exact det_pEq _ _ _ _ K hK
   ·exact det_pEq _ _ _ _ K hK
   ·exact hK.elim
 ·exact det_pBin _ _ _ K hK

theorem det_pEqS (op : BinOp) (n : Nat) (x y : Value) : Det (pEqS op n x y) := by
 intro K hK; unfold pEqS at *
 split at hK
 ·split at hK
  ·obtain ⟨h1, h2, hk⟩ := hK
   exact ⟨_, hk, fun _ h => ⟨h1, h2, h⟩⟩
  ·exact hK.elim
 ·split at hK
  ·obtain ⟨h1, h2, hk⟩ := hK
   exact ⟨_, hk, fun _ h => ⟨h1, h2, h⟩⟩
  ·exact hK.elim
 ·exact hK.elim

theorem det_pUn (op : UnOp) (x : Value) : Det (pUn op x) := by
 intro K hK; unfold pUn at *
 split at hK <;> first
  | exact hK.elim
  | exact ⟨_, hK, fun _ h => h⟩

theorem det_pConv (k : IntKind) (x : Value) : Det (pConv k x) := by
 intro K hK; unfold pConv at *
 split at hK <;> first
  | exact hK.elim
  | exact ⟨_, hK, fun _ h => h⟩

theorem det_pField (off : Nat) (x : Value) : Det (pField off x) := by
 intro K hK; unfold pField at *
 split at hK <;> first
  | exact hK.elim
  | exact ⟨_, hK, fun _ h => h⟩

theorem det_pIdx (size : Nat) (x i : Value) : Det (pIdx size x i) := by
 intro K hK; unfold pIdx at *
 split at hK <;> first
  | exact hK.elim
  | exact ⟨_, hK.2.2, fun _ h => ⟨hK.1, hK.2.1, h⟩⟩

theorem det_pIdxA (size len : Nat) (x i : Value) : Det (pIdxA size len x i) := by
 intro K hK; unfold pIdxA at *
 split at hK <;> first
  | exact hK.elim
  | exact ⟨_, hK.2.2, fun _ h => ⟨hK.1, hK.2.1, h⟩⟩

theorem det_pSlice (size : Nat) (x : Value) (lo hi mx : Option Value) : Det (pSlice size x lo hi mx) := by
 intro K hK; unfold pSlice at *
 split at hK
 ·split at hK
  ·obtain ⟨h1, h2, h3, h4, h5, hk⟩ := hK
   exact ⟨_, hk, fun _ h => ⟨h1, h2, h3, h4, h5, h⟩⟩
  ·exact hK.elim
 ·exact hK.elim

theorem det_pSliceS (x : Value) (lo hi : Option Value) : Det (pSliceS x lo hi) := by
 intro K hK; unfold pSliceS at *
 split at hK
 ·split at hK
  ·obtain ⟨h1, h2, h3, hk⟩ := hK
   exact ⟨_, hk, fun _ h => ⟨h1, h2, h3, h⟩⟩
  ·exact hK.elim
 ·exact hK.elim

theorem det_pExt (x : Value) (i : Nat) : Det (pExt x i) := by
 intro K hK; unfold pExt at *
 split at hK
 ·split at hK
  ·exact ⟨_, hK, fun _ h => h⟩
  ·exact hK.elim
 ·exact hK.elim

theorem det_pIdxV1 (len : Nat) (x i : Value) : Det (pIdxV1 len x i) := by
 intro K hK; unfold pIdxV1 at *
 split at hK
 ·obtain ⟨h1, h2, h3⟩ := hK
  split at h3
  ·rename_i v hv; exact ⟨_, h3, fun _ h => ⟨h1, h2, h⟩⟩
  ·exact h3.elim
 ·exact hK.elim

theorem det_pIdxVN (size len : Nat) (x i : Value) : Det (pIdxVN size len x i) := by
 intro K hK; unfold pIdxVN at *
 split at hK <;> first
  | exact hK.elim
  | exact ⟨_, hK.2.2, fun _ h => ⟨hK.1, hK.2.1, h⟩⟩

theorem det_pIdxS (x i : Value) : Det (pIdxS x i) := by
 intro K hK; unfold pIdxS at *
 split at hK
 ·obtain ⟨h1, h3⟩ := hK
  split at h3
  ·rename_i v hv; exact ⟨_, h3, fun _ h => ⟨h1, h⟩⟩
  ·exact h3.elim
 ·exact hK.elim

theorem det_pPart1 (off : Nat) (x : Value) : Det (pPart1 off x) := by
 intro K hK; unfold pPart1 at *
 split at hK
 ·split at hK
  ·exact ⟨_, hK, fun _ h => h⟩
  ·exact hK.elim
 ·exact hK.elim

theorem det_pPartN (off n : Nat) (x : Value) : Det (pPartN off n x) := by
 intro K hK; unfold pPartN at *
 split at hK
 ·exact ⟨_, hK, fun _ h => h⟩
 ·exact hK.elim

theorem det_pLen (x : Value) : Det (pLen x) := by
 intro K hK; unfold pLen at *
 split at hK
 ·exact ⟨_, hK, fun _ h => h⟩
 ·exact hK.elim

theorem det_pLenS (x : Value) : Det (pLenS x) := by
 intro K hK; unfold pLenS at *
 split at hK
 ·exact ⟨_, hK, fun _ h => h⟩
 ·exact hK.elim

theorem det_pCap (x : Value) : Det (pCap x) := by
 intro K hK; unfold pCap at *
 split at hK
 ·exact ⟨_, hK, fun _ h => h⟩
 ·exact hK.elim

theorem det_pLenM (h : Heap) (x : Value) : Det (pLenM h x) := by
 intro K hK; unfold pLenM at *
 split at hK
 ·exact ⟨_, hK, fun _ h => h⟩
 ·split at hK
  ·exact ⟨_, hK, fun _ h => h⟩
  ·exact hK.elim
 ·exact hK.elim

theorem det_pMin (x y : Value) : Det (pMin x y) := by
 intro K hK; unfold pMin at *
 split at hK
 ·exact ⟨_, hK, fun _ h => h⟩
 ·exact hK.elim

theorem det_pMax (x y : Value) : Det (pMax x y) := by
 intro K hK; unfold pMax at *
 split at hK
 ·exact ⟨_, hK, fun _ h => h⟩
 ·exact hK.elim

theorem det_pLook (kd : TypeDesc) (zero : Value) (ok : Bool) (h : Heap) (m k : Value) : Det (pLook kd zero ok h m k) := by
 intro K hK; unfold pLook at *
 split at hK
 ·split at hK
  ·exact ⟨_, hK, fun _ h => h⟩
  ·exact hK.elim
 ·split at hK
  ·split at hK
   ·exact ⟨_, hK, fun _ h => h⟩
   ·exact ⟨_, hK, fun _ h => h⟩
   ·exact hK.elim
  ·exact hK.elim
 ·exact hK.elim

theorem det_pConvBS (h : Heap) (x : Value) : Det (pConvBS h x) := by
 intro K hK; unfold pConvBS at *
 split at hK
 ·exact ⟨_, hK, fun _ h => h⟩
 ·split at hK
  ·split at hK
   ·exact ⟨_, hK, fun _ h => h⟩
   ·exact hK.elim
  ·exact hK.elim
 ·exact hK.elim

theorem det_pEntryM (h : Heap) (x : Value) : Det (pEntryM x h) := by
 intro K hK; unfold pEntryM at *
 split at hK
 ·split at hK
  ·split at hK
   ·obtain ⟨h1, hK⟩ := hK
    split at hK
    ·exact ⟨_, hK, fun _ h => ⟨h1, h⟩⟩
    ·exact hK.elim
   ·exact hK.elim
  ·exact hK.elim
 ·exact hK.elim

theorem det_pBuild (zero : List Value) (parts : List (Nat × Nat × Value)) : Det (pBuild zero parts) := by
 intro K hK; exact ⟨_, hK.2, fun _ h => ⟨hK.1, h⟩⟩

theorem det_two {T U : (Value -> Prop) -> Prop} {T' : Value -> (Value -> Prop) -> Prop} (hT : Det T) (hT' : ∀ u, Det (T' u)) (hU : ∀ K, U K = T fun u => T' u K) : Det U := by
 intro K hK
 rw [hU] at hK
 obtain ⟨u, hu, h1⟩ := hT _ hK
 obtain ⟨v, hv, h2⟩ := hT' u K hu
 exact ⟨v, hv, fun K' hK' => by rw [hU]; exact h1 _ (h2 K' hK')⟩

theorem qop_det (ρ : Operand -> Value) (op : Op) : Det (qop P ρ op h) := by
 intro K hq
 cases op <;> simp only [qop] at hq ⊢ <;> try exact hq.elim
 case move x => exact ⟨_, hq, fun _ h => h⟩
 case assign x => exact ⟨_, hq, fun _ h => h⟩
 case pick c a b => exact det_pPick _ _ _ K hq
 case load t a =>
  split at hq
  ·split at hq
   ·exact det_pLoadN _ _ _ K hq
   ·exact det_pLoad _ _ K hq
  ·exact hq.elim
 case nilCheck x => exact det_pNil _ K hq
 case binOp op t x y yt =>
  split at hq
  ·split at hq
   ·exact det_pEqS _ _ _ _ K hq
   ·exact hq.elim
  ·exact det_pBinT _ _ _ _ _ K hq
  ·exact hq.elim
 case unOp op t x => exact det_pUn _ _ K hq
 case convert s d x =>
  split at hq
  ·exact det_pConv _ _ K hq
  ·split at hq
   ·exact det_pConvBS _ _ K hq
   ·exact hq.elim
  ·exact hq.elim
 case entry it => exact det_pEntryM _ _ K hq
 case makeInterface t x =>
  split at hq
  ·exact hq.elim
  ·exact ⟨_, hq, fun _ h => h⟩
  ·exact hq.elim
 case makeFunc fn first captured => exact ⟨_, hq, fun _ h => h⟩
 case slice t x lo hi mx =>
  split at hq
  ·split at hq
   ·exact det_pSlice _ _ _ _ _ K hq
   ·exact hq.elim
  ·split at hq
   ·exact det_pSliceS _ _ _ K hq
   ·exact hq.elim
  ·exact hq.elim
 case fieldAddr s x f =>
  split at hq
  ·split at hq
   ·split at hq
    ·split at hq
     ·exact hq.elim
     ·exact det_pField _ _ K hq
    ·exact hq.elim
   ·exact hq.elim
  ·exact hq.elim
 case field t x f =>
  split at hq
  ·split at hq
   ·split at hq
    ·split at hq
     ·exact det_pPartN _ _ _ K hq
     ·exact det_pPart1 _ _ K hq
    ·exact hq.elim
   ·exact hq.elim
  ·exact hq.elim
 case indexAddr t x i =>
  split at hq
  ·split at hq
   ·exact det_pIdx _ _ _ K hq
   ·exact hq.elim
  ·split at hq
   ·exact det_pIdxA _ _ _ _ K hq
   ·exact hq.elim
  ·exact hq.elim
 case index t x i =>
  split at hq
  ·split at hq
   ·split at hq
    ·exact det_pIdxVN _ _ _ _ K hq
    ·split at hq
     ·exact det_pIdxV1 _ _ _ K hq
     ·exact hq.elim
   ·exact hq.elim
  ·exact det_pIdxS _ _ K hq
  ·exact hq.elim
 case lookup t m k ok =>
  split at hq
  ·split at hq
   ·split at hq
    ·exact det_pLook _ _ _ _ _ _ K hq
    ·exact hq.elim
   ·exact hq.elim
  ·exact hq.elim
 case extract x i => exact det_pExt _ _ K hq
 case build t parts =>
  split at hq
  ·split at hq
   ·split at hq
    ·exact det_pBuild _ _ K hq
    ·exact hq.elim
   ·exact hq.elim
  ·split at hq
   ·exact det_pBuild _ _ K hq
   ·exact hq.elim
  ·exact hq.elim
 case call c =>
  split at hq
  ·split at hq
   ·split at hq
    ·exact det_pLen _ K hq
    ·exact det_pLenS _ K hq
    ·exact det_pLenM _ _ K hq
    ·exact ⟨_, hq, fun _ h => h⟩
    ·exact hq.elim
   ·exact hq.elim
  ·split at hq
   ·split at hq
    ·exact det_pCap _ K hq
    ·exact hq.elim
   ·exact hq.elim
  ·split at hq
   ·exact det_pMin _ _ K hq
   ·exact det_two (det_pMin _ _) (fun u => det_pMin u _) (fun _ => rfl) K hq
   ·exact hq.elim
  ·split at hq
   ·exact det_pMax _ _ K hq
   ·exact det_two (det_pMax _ _) (fun u => det_pMax u _) (fun _ => rfl) K hq
   ·exact hq.elim
  ·exact hq.elim

end
open Go

def WF (ro : Option Nat) : Fence := { Fence.wide with round := ro }

theorem WF_fn (ro : Option Nat) (f : FuncId) : (WF ro).fn f := trivial
theorem WF_depth (ro : Option Nat) : (WF ro).depth = none := rfl
theorem WF_calls {ro : Option Nat} {n : Nat} {P : Program} {f : FuncId} {args : Array Value} {w : World} {R : Ending -> World -> Prop}
  (h : CallsIn Fence.wide n P f args w R) : CallsIn (WF ro) n P f args w R := h
theorem WF_round {ro : Option Nat} {n l : Nat} {P : Program} {f : FuncId} {tmps : Array Value} {assign body : Code} {w : World} {R : Ending -> World -> Prop}
  (h : RoundIn Fence.wide n P l f tmps assign body w R) : RoundIn (WF ro) n P l f tmps assign body w R := h

def evA (t : Array Value) : Operand -> Value
 | .tmp s => t.getD s undef
 | .const v => v
 | .global g => .pointer (some ⟨g, 0, none⟩)
 | .func f => .func (.func f) #[] #[]

theorem eval_evA (a : Act) : a.eval = evA a.tmps := by funext x; cases x <;> rfl

def putA (t : Array Value) (dst : Option Tmp) (v : Value) : Array Value :=
 match dst with
 | some d => t.setIfInBounds d v
 | none => t

theorem put_tmps (a : Act) (dst : Option Tmp) (v : Value) : (a.put dst v).tmps = putA a.tmps dst v := by cases dst <;> rfl
theorem put_defers (a : Act) (dst : Option Tmp) (v : Value) : (a.put dst v).defers = a.defers := by cases dst <;> rfl
theorem putA_size (t : Array Value) (dst : Option Tmp) (v : Value) : (putA t dst v).size = t.size := by cases dst <;> simp [putA]

def plainOp : Op -> Bool
 | .defer _ | .select .. => false
 | _ => true

def AllPlain (ops : Array Oper) : Prop := ∀ (i : Nat) (o : Oper), ops[i]? = some o -> plainOp o.op = true

section
variable {P : Program} {ops : Array Oper}

def opA (P : Program) (ops : Array Oper) (i : Nat) (t : Array Value) (h : Heap) (K : Array Value -> Heap -> Prop) : Prop :=
 match ops[i]? with
 | none => K t h
 | some o => if Region.wanted o (yielded ops t) then wpS P (execOp (evA t) o) h (nextK P fun v h' => K (putA t o.dst v) h') else K (putA t o.dst undef) h

theorem nextK_mono {K K' : KT} (hm : ∀ v h, K v h -> K' v h) : ∀ n h, nextK P K n h -> nextK P K' n h := by
 intro n h hk
 cases n <;> simp only [nextK] at hk ⊢
 ·exact hm _ _ hk
 ·exact hm _ _ hk
 ·exact fun w hw => (hk w hw).mono fun _ _ ⟨v, he, hs, hk⟩ => ⟨v, he, hs, hm _ _ hk⟩
 ·exact RoundH.mono hk hm

theorem opA_mono {i : Nat} {t : Array Value} {h : Heap} {K K' : Array Value -> Heap -> Prop} (hm : ∀ t h, K t h -> K' t h) (hk : opA P ops i t h K) : opA P ops i t h K' := by
 unfold opA at *
 split
 ·rename_i e; rw [e] at hk; exact hm _ _ hk
 ·rename_i o e; rw [e] at hk
  dsimp only at hk
  split
  ·rename_i hw; rw [if_pos hw] at hk; exact wpS_mono (nextK_mono fun v h hk => hm _ _ hk) hk
  ·rename_i hw; rw [if_neg hw] at hk; exact hm _ _ hk

theorem semAt_plain {ro : Option Nat} {ρ : Operand -> Value} {o : Oper} (hp : plainOp o.op = true) : Oper.semAt ro ρ o = execOp ρ o :=
 Oper.semAt_eq ro ρ o fun c hc => by rw [hc] at hp; cases hp

theorem upon_sound {ro : Option Nat} {o : Oper} {a : Act} {w : World} {Q : Exit -> Act -> World -> Prop} {K : KT} {K' : Act -> World -> Prop}
  (hp : plainOp o.op = true) (hs : wpS P (execOp a.eval o) w.heap (nextK P K))
  (hk : ∀ v w', Same w w' -> K v w'.heap -> K' (a.put o.dst v) w') : o.wpIn (WF ro) 0 P a w K' Q := by
 refine ⟨fun f _ => WF_fn ro f, ?_⟩
 rw [semAt_plain hp]
 obtain ⟨x, w', hr, hsame, hx⟩ := wpS_run hs w rfl
 rw [hr]
 cases x <;> simp only [nextK] at hx <;> try exact hx.elim
 ·exact hk _ _ hsame hx
 ·exact hk _ _ hsame hx
 ·refine ⟨fun h => by simp [WF_depth] at h, ?_⟩
  refine (WF_calls (hx w' rfl)).mono ?_
  rintro e w'' ⟨v, rfl, hs', hv⟩
  exact hk _ _ (hsame.trans hs') hv
 ·refine ⟨fun h => by simp [WF_depth] at h, ?_⟩
  refine (WF_round (hx w' rfl)).mono ?_
  rintro e w'' ⟨v, rfl, hs', hv⟩
  exact hk _ _ (hsame.trans hs') hv

theorem opA_sound {ro : Option Nat} {i : Nat} {a : Act} {w : World} {Q : Exit -> Act -> World -> Prop} {K : Array Value -> Heap -> Prop} {K' : Act -> World -> Prop}
  (hp : ∀ o, ops[i]? = some o -> plainOp o.op = true) (hs : opA P ops i a.tmps w.heap K)
  (hk : ∀ a' w', a'.defers = a.defers -> Same w w' -> K a'.tmps w'.heap -> K' a' w') : wpOpIn (WF ro) 0 P ops Q i K' a w := by
 unfold opA at hs
 unfold wpOpIn
 split
 ·rename_i e; rw [e] at hs; exact hk _ _ rfl (.refl _) hs
 ·rename_i o e
  rw [e] at hs
  dsimp only at hs
  split
  ·rename_i hw; rw [if_pos hw] at hs
   rw [<- eval_evA] at hs
   exact upon_sound (hp o e) hs fun v w' hs' hv => hk _ _ (put_defers _ _ _) hs' (by rw [put_tmps]; exact hv)
  ·rename_i hw; rw [if_neg hw] at hs
   exact ⟨fun f _ => WF_fn ro f, hk _ _ (put_defers _ _ _) (.refl _) (by rw [put_tmps]; exact hs)⟩

def anyA (P : Program) (ops : Array Oper) (Q : Array Value -> Heap -> Prop) : Nat -> Array Bool -> Array Value -> Heap -> Prop
 | 0, listed, t, h => Region.ready .any ops listed = [] /\ Q t h
 | fuel + 1, listed, t, h =>
  (Region.ready .any ops listed = [] -> Q t h) /\
  ∀ i ∈ Region.ready .any ops listed, opA P ops i t h (anyA P ops Q fuel (listed.setIfInBounds i true))

theorem anyA_sound {ro : Option Nat} {Q : Exit -> Act -> World -> Prop} {K : Array Value -> Heap -> Prop} (hp : AllPlain ops) :
  ∀ (fuel : Nat) (listed : Array Bool) (a : Act) (w : World), anyA P ops K fuel listed a.tmps w.heap ->
   (∀ a' w', a'.defers = a.defers -> Same w w' -> K a'.tmps w'.heap -> Q .normal a' w') -> wpAnyIn (WF ro) 0 P .any ops Q fuel listed a w := by
 intro fuel
 induction fuel with
 | zero => intro listed a w hk hq; exact ⟨hk.1, hq _ _ rfl (.refl _) hk.2⟩
 | succ fuel ih =>
  intro listed a w hk hq
  refine ⟨fun hr => hq _ _ rfl (.refl _) (hk.1 hr), fun i hi => ?_⟩
  refine opA_sound (hp i) (hk.2 i hi) fun a' w' hd hs h' => ih _ a' w' h' fun a'' w'' hd' hs' h'' => hq _ _ (hd'.trans hd) (hs.trans hs') h''

theorem evA_put {t : Array Value} {dst : Option Tmp} {v : Value} {x : Operand} (hx : ∀ d, dst = some d -> x ≠ .tmp d) : evA (putA t dst v) x = evA t x := by
 cases dst with
 | none => rfl
 | some d =>
  cases x with
  | tmp s =>
   have : d ≠ s := fun e => hx d rfl (e ▸ rfl)
   simp [evA, putA, Array.getElem?_setIfInBounds_ne this]
  | _ => rfl

theorem execOp_evA_put {t : Array Value} {o : Oper} {dst : Option Tmp} {v : Value} (hp : plainOp o.op = true) (hd : ∀ d, dst = some d -> d ∉ o.looksAt ops) :
  execOp (evA (putA t dst v)) o = execOp (evA t) o := by
 refine execOp_congr o (fun cs b hc => by rw [hc] at hp; cases hp) fun x hx => evA_put fun d hd' hxd => hd d hd' ?_
 subst hxd
 exact List.mem_append_left _ (List.mem_filterMap.2 ⟨.tmp d, by simpa using hx, rfl⟩)

theorem wanted_evA_put {t : Array Value} {o : Oper} {dst : Option Tmp} {v : Value} (hd : ∀ d, dst = some d -> d ∉ o.looksAt ops) :
  Region.wanted o (yielded ops (putA t dst v)) = Region.wanted o (yielded ops t) := by
 have := wanted_put (ops := ops) o { tmps := t, defers := [] } dst v hd
 rw [put_tmps] at this
 exact this

theorem putA_comm {t : Array Value} {x y : Option Tmp} {v u : Value} (h : ∀ d, x = some d -> y ≠ some d) : putA (putA t x v) y u = putA (putA t y u) x v := by
 cases x with
 | none => rfl
 | some d =>
  cases y with
  | none => rfl
  | some e =>
   have : d ≠ e := fun he => h d rfl (he ▸ rfl)
   simp [putA, Array.setIfInBounds_comm _ _ this]

def Gives (P : Program) (ops : Array Oper) (c : Nat) (v : Value) (t : Array Value) (h : Heap) : Prop :=
 ∃ o, ops[c]? = some o /\ if Region.wanted o (yielded ops t) then rdS P (execOp (evA t) o) h = some (.value v) else v = undef

def dstOf (ops : Array Oper) (c : Nat) : Option Tmp := (ops[c]?).bind (·.dst)

theorem Gives.opA {c : Nat} {v : Value} {t : Array Value} {h : Heap} {K : Array Value -> Heap -> Prop} (hg : Gives P ops c v t h) (hk : K (putA t (dstOf ops c) v) h) : Mh.opA P ops c t h K := by
 obtain ⟨o, ho, hv⟩ := hg
 unfold Mh.opA
 simp only [ho, dstOf, Option.bind_some] at *
 split
 ·rename_i hw; rw [if_pos hw] at hv; exact wpS_of_rdS hv hk
 ·rename_i hw; rw [if_neg hw] at hv; subst hv; exact hk

def apartAt (ops : Array Oper) (c i : Nat) : Bool :=
 match ops[c]?, ops[i]? with
 | some x, some y => x.apart ops y
 | _, _ => false

theorem Gives.put {c i : Nat} {v u : Value} {t : Array Value} {h : Heap} (hp : AllPlain ops) (ha : apartAt ops c i = true) :
  Gives P ops c v (putA t (dstOf ops i) u) h ↔ Gives P ops c v t h := by
 unfold apartAt at ha
 split at ha
 ·rename_i x y hx hy
  obtain ⟨_, _, h3⟩ := Oper.apart_spec ha
  unfold Gives
  simp only [hx, dstOf, hy, Option.bind_some, Option.some.injEq, exists_eq_left']
  rw [wanted_evA_put h3, execOp_evA_put (hp c x hx) h3]
 ·cases ha

theorem opA_swap {c i : Nat} {v : Value} {t : Array Value} {h : Heap} {K : Array Value -> Heap -> Prop} (hp : AllPlain ops)
  (ha : apartAt ops c i = true) (hk : opA P ops i (putA t (dstOf ops c) v) h K) :
  opA P ops i t h (fun t' h' => (∃ u, t' = putA t (dstOf ops i) u) /\ K (putA t' (dstOf ops c) v) h') := by
 unfold apartAt at ha
 split at ha
 ·rename_i x y hx hy
  obtain ⟨h1, h2, h3⟩ := Oper.apart_spec ha
  have hpy := hp i y hy
  unfold opA at *
  simp only [hx, dstOf, hy, Option.bind_some] at hk ⊢
  rw [wanted_evA_put h1, execOp_evA_put hpy h1] at hk
  split
  ·rename_i hw; rw [if_pos hw] at hk
   refine wpS_mono (nextK_mono fun u h' hk' => ⟨⟨u, rfl⟩, ?_⟩) hk
   rw [<- putA_comm h2]; exact hk'
  ·rename_i hw; rw [if_neg hw] at hk
   refine ⟨⟨_, rfl⟩, ?_⟩
   rw [<- putA_comm h2]; exact hk
 ·cases ha

end
end Go.Mh
