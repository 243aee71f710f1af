/- Texts of the proofs of seat YtmdldoolnhpaeaaGreatDoor, joined: Drawn, CReg, CDrawn, Compile, CSound, Fn, Defer, Ann, Mem, Step, Slice, View, Wrap, IMap, All. They have no conditions of their own. -/
import Derived.Test.YtmdldoolnhpaeaaGreatDoorMa
import Derived.RangeFuncLeaves
import Derived.RecoverIn
import Derived.Laws.Append
import Derived.WalkKit
import Derived.ProofKit
import Derived.Deep.Slices
import Derived.ReadAgain
import Derived.Handed
set_option linter.unusedVariables false
set_option linter.unusedSimpArgs false
set_option linter.unusedSectionVars false

namespace Go.Mh
open Go

def predOr (acc : List Nat) (o : Oper) : Nat :=
 o.after.toList.foldl (fun s e => bif Region.binds .any e then s ||| (2 ^ e.on ||| acc.getD e.on 0) else s) 0

def ancList : List Oper -> List Nat -> List Nat
 | [], acc => acc
 | o :: r, acc => ancList r (acc ++ [predOr acc o])

section
variable {P : Program} {ops : Array Oper} {ancs : List Nat}

def ancBit (ancs : List Nat) (i c : Nat) : Bool := (ancs.getD i 0).testBit c

def ancOKB (ancs : List Nat) : List Oper -> Nat -> Bool
 | [], _ => true
 | o :: r, i => Nat.beq (ancs.getD i 0) (predOr ancs o) && ancOKB ancs r (i + 1)

theorem predOr_bit (ancs : List Nat) (o : Oper) (c : Nat) (h : (predOr ancs o).testBit c = true) :
  ∃ e ∈ o.after, Region.binds .any e = true /\ (c = e.on \/ ancBit ancs e.on c = true) := by
 have key : ∀ (l : List Edge) (s : Nat), (l.foldl (fun s e => bif Region.binds .any e then s ||| (2 ^ e.on ||| ancs.getD e.on 0) else s) s).testBit c = true ->
   s.testBit c = true \/ ∃ e ∈ l, Region.binds .any e = true /\ (c = e.on \/ ancBit ancs e.on c = true) := by
  intro l
  induction l with
  | nil => intro s h; exact .inl h
  | cons e l ih =>
   intro s h
   rw [List.foldl_cons] at h
   rcases ih _ h with h | ⟨e', he', hb⟩
   ·cases hb : Region.binds .any e with
    | false => rw [hb] at h; exact .inl h
    | true =>
     rw [hb, cond_true, Nat.testBit_or, Nat.testBit_or, Nat.testBit_two_pow] at h
     simp only [Bool.or_eq_true, decide_eq_true_eq] at h
     rcases h with h | h | h
     ·exact .inl h
     ·exact .inr ⟨e, List.mem_cons_self, hb, .inl h.symm⟩
     ·exact .inr ⟨e, List.mem_cons_self, hb, .inr h⟩
   ·exact .inr ⟨e', List.mem_cons_of_mem _ he', hb⟩
 rcases key o.after.toList 0 h with h | ⟨e, he, h⟩
 ·simp at h
 ·exact ⟨e, Array.mem_def.2 he, h⟩

theorem ancOKB_spec {ancs : List Nat} : ∀ (l : List Oper) (k : Nat), ancOKB ancs l k = true -> ∀ (i : Nat) (o : Oper), l[i]? = some o -> ancs.getD (k + i) 0 = predOr ancs o
 | [], _, _, i, o, ho => by simp at ho
 | x :: l, k, h, i, o, ho => by
  simp only [ancOKB, Bool.and_eq_true] at h
  cases i with
  | zero => simp only [List.getElem?_cons_zero, Option.some.injEq] at ho; subst ho; exact Nat.eq_of_beq_eq_true h.1
  | succ i =>
   rw [show k + (i + 1) = k + 1 + i by omega]
   exact ancOKB_spec l (k + 1) h.2 i o (by simpa using ho)

theorem anc_bit (hok : ancOKB ancs ops.toList 0 = true) {i c : Nat} {o : Oper} (ho : ops[i]? = some o) (hb : ancBit ancs i c = true) :
  ∃ e ∈ o.after, Region.binds .any e = true /\ (c = e.on \/ ancBit ancs e.on c = true) := by
 have h := ancOKB_spec ops.toList 0 hok i o (by simpa using ho)
 rw [Nat.zero_add] at h
 unfold ancBit at hb
 rw [h] at hb
 exact predOr_bit ancs o c hb

def quietAt (ops : Array Oper) (i : Nat) : Bool :=
 match ops[i]? with
 | some o => quietB o.op
 | none => false

def apartOK (ops : Array Oper) (ancs : List Nat) : Prop :=
 ∀ c i : Nat, c < ops.size -> i < ops.size -> c ≠ i -> quietAt ops c = true -> ancBit ancs i c = false -> ancBit ancs c i = false -> apartAt ops c i = true

theorem mem_ready {listed : Array Bool} {i : Nat} : i ∈ Region.ready .any ops listed ↔
  i < ops.size /\ listed.getD i true = false /\ ∃ o, ops[i]? = some o /\ ∀ e ∈ o.after, Region.binds .any e = true -> listed.getD e.on false = true := by
 unfold Region.ready
 simp only [List.mem_filter, List.mem_range, Bool.and_eq_true, Bool.not_eq_true']
 constructor
 ·rintro ⟨h1, h2, h3⟩
  refine ⟨h1, h2, ?_⟩
  cases ho : ops[i]? with
  | none => rw [ho] at h3; simp at h3
  | some o =>
   rw [ho] at h3
   simp only [Option.map_some, Option.getD_some, Array.all_eq_true_iff_forall_mem, Bool.or_eq_true, Bool.not_eq_true'] at h3
   refine ⟨o, rfl, fun e he hb => ?_⟩
   rcases h3 e he with h | h
   ·rw [hb] at h; cases h
   ·exact h
 ·rintro ⟨h1, h2, o, ho, h3⟩
  refine ⟨h1, h2, ?_⟩
  rw [ho]
  simp only [Option.map_some, Option.getD_some, Array.all_eq_true_iff_forall_mem, Bool.or_eq_true, Bool.not_eq_true']
  intro e he
  cases hb : Region.binds .any e with
  | false => exact .inl rfl
  | true => exact .inr (h3 e he hb)

def Closed (ops : Array Oper) (ancs : List Nat) (listed : Array Bool) : Prop :=
 listed.size = ops.size /\ ∀ i c, listed.getD i false = true -> ancBit ancs i c = true -> listed.getD c false = true

theorem getD_set {listed : Array Bool} {i j : Nat} {d : Bool} (hi : i < listed.size) : (listed.setIfInBounds i true).getD j d = if i = j then true else listed.getD j d := by
 simp only [Array.getD_eq_getD_getElem?, Array.getElem?_setIfInBounds]
 split
 ·rename_i e; subst e; simp [hi]
 ·rfl

theorem ready_anc (hok : ancOKB ancs ops.toList 0 = true) {listed : Array Bool} {i c : Nat} (hc : Closed ops ancs listed) (hi : i ∈ Region.ready .any ops listed)
  (hb : ancBit ancs i c = true) : listed.getD c false = true := by
 obtain ⟨_, _, o, ho, h⟩ := mem_ready.1 hi
 obtain ⟨e, he, hbind, rfl | hbit⟩ := anc_bit hok ho hb
 ·exact h e he hbind
 ·exact hc.2 _ _ (h e he hbind) hbit

theorem ready_lt {listed : Array Bool} {i : Nat} (hi : i ∈ Region.ready .any ops listed) : i < ops.size := (mem_ready.1 hi).1

theorem ready_not {listed : Array Bool} {i : Nat} (hs : listed.size = ops.size) (hi : i ∈ Region.ready .any ops listed) : listed.getD i false = false := by
 obtain ⟨h1, h2, _⟩ := mem_ready.1 hi
 have : i < listed.size := by omega
 simpa [Array.getD_eq_getD_getElem?, this] using h2

theorem closed_set (hok : ancOKB ancs ops.toList 0 = true) {listed : Array Bool} {i : Nat} (hc : Closed ops ancs listed) (hi : i ∈ Region.ready .any ops listed) :
  Closed ops ancs (listed.setIfInBounds i true) := by
 have hl : i < listed.size := by rw [hc.1]; exact ready_lt hi
 refine ⟨by simp [hc.1], fun j c hj hb => ?_⟩
 rw [getD_set hl] at hj ⊢
 split
 ·rfl
 ·split at hj
  ·rename_i e; subst e; exact ready_anc hok hc hi hb
  ·exact hc.2 _ _ hj hb

theorem ready_set {listed : Array Bool} {i c : Nat} (hs : listed.size = ops.size) (hne : i ≠ c) (hi : i ∈ Region.ready .any ops listed) (hc : c < ops.size) :
  i ∈ Region.ready .any ops (listed.setIfInBounds c true) := by
 obtain ⟨h1, h2, o, ho, h⟩ := mem_ready.1 hi
 have hl : c < listed.size := by omega
 refine mem_ready.2 ⟨h1, ?_, o, ho, fun e he hb => ?_⟩
 ·rw [getD_set hl, if_neg (fun e => hne e.symm)]; exact h2
 ·rw [getD_set hl]; split
  ·rfl
  ·exact h e he hb

abbrev Held := List (Nat × (Heap -> Prop))

def dropH (ancs : List Nat) (i : Nat) (H : Held) : Held := H.filter fun x => !ancBit ancs i x.1

theorem dropH_sub {i : Nat} {H : Held} : dropH ancs i H ⊆ H := fun _ h => (List.mem_filter.1 h).1

theorem dropH_mono {i : Nat} {H H' : Held} (h : H' ⊆ H) : dropH ancs i H' ⊆ dropH ancs i H := fun x hx => by
 obtain ⟨h1, h2⟩ := List.mem_filter.1 hx
 exact List.mem_filter.2 ⟨h h1, h2⟩

def RW (P : Program) (ops : Array Oper) (ancs : List Nat) (Q : Array Value -> Heap -> Prop) : Nat -> Held -> Array Bool -> Array Value -> Heap -> Prop
 | 0, _, listed, t, h => Region.ready .any ops listed = [] /\ Q t h
 | f + 1, H, listed, t, h =>
  (Region.ready .any ops listed = [] /\ Q t h) \/
  (∃ c v, c ∈ Region.ready .any ops listed /\ quietAt ops c = true /\ Gives P ops c v t h /\
   RW P ops ancs Q f (H ++ [(c, Gives P ops c v t)]) (listed.setIfInBounds c true) (putA t (dstOf ops c) v) h) \/
  (Region.ready .any ops listed ≠ [] /\ ∀ i ∈ Region.ready .any ops listed,
   opA P ops i t h fun t' h' => (∀ x ∈ dropH ancs i H, x.2 h') /\ RW P ops ancs Q f (dropH ancs i H) (listed.setIfInBounds i true) t' h')

theorem RW_sub {Q : Array Value -> Heap -> Prop} : ∀ (f : Nat) {H H' : Held} {listed : Array Bool} {t : Array Value} {h : Heap}, H' ⊆ H -> RW P ops ancs Q f H listed t h -> RW P ops ancs Q f H' listed t h
 | 0, _, _, _, _, _, _, hr => hr
 | f + 1, H, H', listed, t, h, hs, hr => by
  rcases hr with hr | ⟨c, v, hc, hq, hg, hr⟩ | ⟨hne, hr⟩
  ·exact .inl hr
  ·refine .inr (.inl ⟨c, v, hc, hq, hg, RW_sub f ?_ hr⟩)
   intro x hx
   rcases List.mem_append.1 hx with hx | hx
   ·exact List.mem_append.2 (.inl (hs hx))
   ·exact List.mem_append.2 (.inr hx)
  ·refine .inr (.inr ⟨hne, fun i hi => opA_mono ?_ (hr i hi)⟩)
   rintro t' h' ⟨h1, h2⟩
   exact ⟨fun x hx => h1 x (dropH_mono hs hx), RW_sub f (dropH_mono hs) h2⟩

theorem RW_take (hok : ancOKB ancs ops.toList 0 = true) (hap : apartOK ops ancs) (hp : AllPlain ops) {Q : Array Value -> Heap -> Prop} :
  ∀ (f : Nat) {H : Held} {listed : Array Bool} {t : Array Value} {h : Heap} {i : Nat}, Closed ops ancs listed -> RW P ops ancs Q (f + 1) H listed t h ->
   i ∈ Region.ready .any ops listed -> (∀ x ∈ H, x.2 h) ->
   opA P ops i t h fun t' h' => (∀ x ∈ dropH ancs i H, x.2 h') /\ RW P ops ancs Q f (dropH ancs i H) (listed.setIfInBounds i true) t' h' := by
 intro f
 induction f with
 | zero =>
  intro H listed t h i hcl hr hi hH
  rcases hr with ⟨hr, _⟩ | ⟨c, v, hc, hq, hg, hr⟩ | ⟨_, hr⟩
  ·rw [hr] at hi; cases hi
  ·by_cases hic : i = c
   ·subst hic
    exact hg.opA ⟨fun x hx => hH x (dropH_sub hx), hr⟩
   ·have := ready_set hcl.1 hic hi (ready_lt hc)
    rw [hr.1] at this; cases this
  ·exact hr i hi
 | succ f ih =>
  intro H listed t h i hcl hr hi hH
  rcases hr with ⟨hr, _⟩ | ⟨c, v, hc, hq, hg, hr⟩ | ⟨_, hr⟩
  ·rw [hr] at hi; cases hi
  ·by_cases hic : i = c
   ·subst hic
    exact hg.opA ⟨fun x hx => hH x (dropH_sub hx), RW_sub _ (fun x hx => List.mem_append.2 (.inl (dropH_sub hx))) hr⟩
   ·have hci : ancBit ancs i c = false := by
     cases hb : ancBit ancs i c with
     | false => rfl
     | true => have := ready_anc hok hcl hi hb; rw [ready_not hcl.1 hc] at this; cases this
    have hic' : ancBit ancs c i = false := by
     cases hb : ancBit ancs c i with
     | false => rfl
     | true => have := ready_anc hok hcl hc hb; rw [ready_not hcl.1 hi] at this; cases this
    have ha : apartAt ops c i = true := hap c i (ready_lt hc) (ready_lt hi) (fun e => hic e.symm) hq hci hic'
    have hH' : ∀ x ∈ H ++ [(c, Gives P ops c v t)], x.2 h := by
     intro x hx
     rcases List.mem_append.1 hx with hx | hx
     ·exact hH x hx
     ·rw [List.mem_singleton.1 hx]; exact hg
    have := ih (closed_set hok hcl hc) hr (ready_set hcl.1 hic hi (ready_lt hc)) hH'
    refine opA_mono ?_ (opA_swap hp ha this)
    rintro t' h' ⟨⟨u, rfl⟩, hfacts, hrw⟩
    have hd : dropH ancs i (H ++ [(c, Gives P ops c v t)]) = dropH ancs i H ++ [(c, Gives P ops c v t)] := by
     unfold dropH; rw [List.filter_append]; simp [hci]
    rw [hd] at hfacts hrw
    have hg' : Gives P ops c v (putA t (dstOf ops i) u) = Gives P ops c v t := funext fun h'' => propext (Gives.put hp ha)
    refine ⟨fun x hx => hfacts x (List.mem_append.2 (.inl hx)), .inr (.inl ⟨c, v, ready_set hcl.1 (fun e => hic e.symm) hc (ready_lt hi), hq, ?_, ?_⟩)⟩
    ·rw [hg']; exact hfacts _ (List.mem_append.2 (.inr (List.mem_singleton.2 rfl)))
    ·rw [hg', Array.setIfInBounds_comm _ _ (fun e => hic e)]; exact hrw
  ·exact hr i hi

theorem anyA_of_RW (hok : ancOKB ancs ops.toList 0 = true) (hap : apartOK ops ancs) (hp : AllPlain ops) {Q : Array Value -> Heap -> Prop} :
  ∀ (f : Nat) {listed : Array Bool} {t : Array Value} {h : Heap}, Closed ops ancs listed -> RW P ops ancs Q f [] listed t h -> anyA P ops Q f listed t h := by
 intro f
 induction f with
 | zero => intro listed t h _ hr; exact hr
 | succ f ih =>
  intro listed t h hcl hr
  refine ⟨fun he => ?_, fun i hi => opA_mono (fun t' h' hk => ih (closed_set hok hcl hi) hk.2) (RW_take hok hap hp f hcl hr hi (by simp))⟩
  rcases hr with ⟨_, hq⟩ | ⟨c, v, hc, _⟩ | ⟨hne, _⟩
  ·exact hq
  ·rw [he] at hc; cases hc
  ·exact (hne he).elim

end
open Go

abbrev VEnv := List (Nat × Value)

def look : VEnv -> Nat -> Option Value
 | [], _ => none
 | (s, v) :: r, t => match Nat.beq s t with
  | true => some v
  | false => look r t

def ev (e : VEnv) : Operand -> Value
 | .tmp t => (match look e t with
  | some v => v
  | none => undef)
 | .const v => v
 | .global g => .pointer (some ⟨g, 0, none⟩)
 | .func f => .func (.func f) #[] #[]

def knownO (e : VEnv) : Operand -> Bool
 | .tmp t => (match look e t with
  | some _ => true
  | none => false)
 | _ => true

def knownL (e : VEnv) : List Operand -> Bool
 | [] => true
 | x :: r => match knownO e x with
  | true => knownL e r
  | false => false

def putE (e : VEnv) (dst : Option Tmp) (v : Value) : VEnv :=
 match dst with
 | some d => (d, v) :: e
 | none => e

def dstOk (n : Nat) : Option Tmp -> Bool
 | some d => Nat.blt d n
 | none => true

def Rel (e : VEnv) (t : Array Value) : Prop := ∀ s v, look e s = some v -> t[s]? = some v

theorem Rel.ev {e : VEnv} {t : Array Value} (h : Rel e t) {x : Operand} (hk : knownO e x = true) : ev e x = evA t x := by
 cases x with
 | tmp s =>
  simp only [knownO] at hk
  split at hk
  ·rename_i v hv
   simp [Mh.ev, evA, hv, h s v hv]
  ·cases hk
 | _ => rfl

theorem knownL_mem {e : VEnv} : ∀ {l : List Operand}, knownL e l = true -> ∀ x ∈ l, knownO e x = true
 | x :: r, h, y, hy => by
  simp only [knownL] at h
  split at h
  ·rename_i hx
   rcases List.mem_cons.1 hy with rfl | hy
   ·exact hx
   ·exact knownL_mem h y hy
  ·cases h

theorem Rel.put {e : VEnv} {t : Array Value} (h : Rel e t) {dst : Option Tmp} {v : Value} (hd : dstOk t.size dst = true) : Rel (putE e dst v) (putA t dst v) := by
 cases dst with
 | none => exact h
 | some d =>
  intro s u hs
  have hlt : d < t.size := Nat.le_of_ble_eq_true hd
  simp only [putE, look] at hs
  split at hs
  ·rename_i he
   have := Nat.eq_of_beq_eq_true he; subst this
   simp only [Option.some.injEq] at hs; subst hs
   simp [putA, hlt]
  ·rename_i he
   have hne : d ≠ s := fun h => by subst h; simp at he
   simp only [putA, Array.getElem?_setIfInBounds_ne hne]
   exact h s u hs

theorem Rel.lit {e : VEnv} {t : Array Value} (h : Rel e t) {s : Nat} {v : Value} (hs : look e s = some v) : Rel ((s, v) :: e) t := by
 intro s' u hu
 simp only [look] at hu
 split at hu
 ·rename_i he
  have := Nat.eq_of_beq_eq_true he; subst this
  simp only [Option.some.injEq] at hu; subst hu
  exact h s v hs
 ·exact h s' u hu

def okOp (n : Nat) (o : Oper) (e : VEnv) : Bool :=
 match plainOp o.op with
 | true => (match knownL e o.op.operands.toList with
  | true => dstOk n o.dst
  | false => false)
 | false => false

def cOp (P : Program) (n : Nat) (o : Oper) (e : VEnv) (h : Heap) (K : VEnv -> Heap -> Prop) : Prop :=
 match okOp n o e with
 | true => (match quietB o.op with
  | true => qop P (ev e) o.op h fun v => K (putE e o.dst v) h
  | false => lop P (ev e) o.op h fun v h' => K (putE e o.dst v) h')
 | false => False

def skipB (ops : Array Oper) (e : VEnv) (j : Nat) : Bool :=
 match ops[j]? with
 | some o => (match o.guard with
  | none => false
  | some (j', want) => (match dstOf ops j' with
   | some s => (match look e s with
    | some (.bool true) => !want
    | some (.bool false) => want
    | some (.tuple _) => true
    | _ => false)
   | none => false))
 | none => false

def isU (v : Value) (X : Prop) : Prop :=
 match v with
 | .tuple _ => X
 | _ => False

def cGuard (ops : Array Oper) (o : Oper) (e : VEnv) (F : Bool -> VEnv -> Prop) : Prop :=
 match o.guard with
 | none => F true e
 | some (j, want) => (match dstOf ops j with
  | some s => (match look e s with
   | some v => (match skipB ops e j with
    | true => isU v (F false e)
    | false => ifV v (F want ((s, .bool true) :: e)) (F (!want) ((s, .bool false) :: e)))
   | none => False)
  | none => False)

def cStep (P : Program) (n : Nat) (ops : Array Oper) (o : Oper) (e : VEnv) (h : Heap) (K : VEnv -> Heap -> Prop) : Prop :=
 cGuard ops o e fun w e' => match w with
  | true => cOp P n o e' h K
  | false => (match dstOk n o.dst with
   | true => K (putE e' o.dst undef) h
   | false => False)

section
variable {P : Program} {ops : Array Oper} {n : Nat}

theorem cGuard_sound {o : Oper} {e : VEnv} {t : Array Value} {F : Bool -> VEnv -> Prop} (hr : Rel e t) (hg : cGuard ops o e F) :
  ∃ e', Rel e' t /\ F (Region.wanted o (yielded ops t)) e' := by
 unfold cGuard at hg
 unfold Region.wanted
 cases hgd : o.guard with
 | none => rw [hgd] at hg; exact ⟨e, hr, hg⟩
 | some p =>
  obtain ⟨j, want⟩ := p
  rw [hgd] at hg
  dsimp only at hg ⊢
  split at hg
  ·rename_i s hs
   split at hg
   ·rename_i v hv
    have ht := hr s v hv
    have hy : yielded ops t j = (match v with | .bool b => some b | _ => none) := by
     unfold yielded
     unfold dstOf at hs
     rw [hs]
     simp only [Option.bind_some, ht]
     cases v <;> rfl
    split at hg
    ·unfold isU at hg
     split at hg
     ·refine ⟨_, hr, ?_⟩
      rw [hy]; exact hg
     ·exact hg.elim
    ·unfold ifV at hg
     split at hg
     ·refine ⟨_, hr.lit hv, ?_⟩
      rw [hy]; cases want <;> exact hg
     ·refine ⟨_, hr.lit hv, ?_⟩
      rw [hy]; cases want <;> exact hg
     ·exact hg.elim
   ·exact hg.elim
  ·exact hg.elim

theorem okOp_parts {o : Oper} {e : VEnv} (h : okOp n o e = true) : plainOp o.op = true /\ knownL e o.op.operands.toList = true /\ dstOk n o.dst = true := by
 unfold okOp at h
 split at h
 ·rename_i h1
  split at h
  ·rename_i h2; exact ⟨h1, h2, h⟩
  ·cases h
 ·cases h

theorem execOp_env {o : Oper} {e : VEnv} {t : Array Value} (hr : Rel e t) (hp : plainOp o.op = true) (hk : knownL e o.op.operands.toList = true) : execOp (ev e) o = execOp (evA t) o :=
 execOp_congr o (fun cs b hc => by rw [hc] at hp; cases hp) fun x hx => hr.ev (knownL_mem hk x (by simpa using hx))

def Fr (ops : Array Oper) (t t' : Array Value) : Prop := t'.size = t.size /\ ∀ s, (∀ i, dstOf ops i ≠ some s) -> t'[s]? = t[s]?

theorem Fr.refl (t : Array Value) : Fr ops t t := ⟨rfl, fun _ _ => rfl⟩
theorem Fr.trans {a b c : Array Value} (h : Fr ops a b) (h' : Fr ops b c) : Fr ops a c := ⟨h'.1.trans h.1, fun s hs => (h'.2 s hs).trans (h.2 s hs)⟩
theorem Fr.put {t : Array Value} {i : Nat} {o : Oper} {v : Value} (ho : ops[i]? = some o) : Fr ops t (putA t o.dst v) := by
 refine ⟨putA_size _ _ _, fun s hs => ?_⟩
 cases hd : o.dst with
 | none => rfl
 | some d =>
  have hne : d ≠ s := fun e => hs i (by simp [dstOf, ho, hd, e])
  simp [putA, Array.getElem?_setIfInBounds_ne hne]

theorem cStep_sound {i : Nat} {o : Oper} {e : VEnv} {t : Array Value} {h : Heap} {K : VEnv -> Heap -> Prop} (ho : ops[i]? = some o) (hr : Rel e t) (hn : t.size = n)
  (hc : cStep P n ops o e h K) : opA P ops i t h fun t' h' => Fr ops t t' /\ ∃ e', Rel e' t' /\ K e' h' := by
 unfold cStep at hc
 obtain ⟨e', hr', hc⟩ := cGuard_sound hr hc
 unfold opA
 rw [ho]
 dsimp only
 cases hw : Region.wanted o (yielded ops t) with
 | true =>
  rw [hw] at hc
  simp only [if_true]
  unfold cOp at hc
  dsimp only at hc
  split at hc
  ·rename_i hok
   obtain ⟨hp, hk, hd⟩ := okOp_parts hok
   rw [<- hn] at hd
   rw [<- execOp_env hr' hp hk]
   split at hc
   ·obtain ⟨v, hv, hK⟩ := qop_sound hc
    exact wpS_of_rdS hv ⟨Fr.put ho, _, hr'.put hd, hK⟩
   ·exact wpS_mono (nextK_mono fun v h' hK => ⟨Fr.put ho, _, hr'.put hd, hK⟩) (lop_sound hc)
  ·exact hc.elim
 | false =>
  rw [hw] at hc
  simp only [Bool.false_eq_true, if_false]
  dsimp only at hc
  split at hc
  ·rename_i hd
   rw [<- hn] at hd
   exact ⟨Fr.put ho, _, hr'.put hd, hc⟩
  ·exact hc.elim

theorem cStep_adds {o : Oper} {e : VEnv} {h : Heap} {K : VEnv -> Heap -> Prop} (ha : addsB o.op = true) (hc : cStep P n ops o e h K) :
  cStep P n ops o e h fun e' h' => K e' h' /\ (h' = h \/ ∃ x, h' = h.push x) := by
 have hF : ∀ (w : Bool) (e' : VEnv), (match w with
   | true => cOp P n o e' h K
   | false => (match dstOk n o.dst with
    | true => K (putE e' o.dst undef) h
    | false => False)) -> (match w with
   | true => cOp P n o e' h fun e' h' => K e' h' /\ (h' = h \/ ∃ x, h' = h.push x)
   | false => (match dstOk n o.dst with
    | true => K (putE e' o.dst undef) h /\ (h = h \/ ∃ x, h = h.push x)
    | false => False)) := by
  intro w e' hx
  cases w with
  | true =>
   dsimp only at hx ⊢
   unfold cOp at *
   split at hx
   ·split at hx
    ·rename_i hq; rw [adds_loud ha] at hq; cases hq
    ·exact lop_mono (fun v h' hk => ⟨hk.1, .inr hk.2⟩) (lop_adds ha hx)
   ·exact hx.elim
  | false =>
   dsimp only at hx ⊢
   split at hx
   ·exact ⟨hx, .inl rfl⟩
   ·exact hx.elim
 unfold cStep at *
 unfold cGuard at *
 split at hc
 ·exact hF true e hc
 ·rename_i j want _
  split at hc
  ·rename_i s _
   split at hc
   ·split at hc
    ·unfold isU at *
     split at hc
     ·exact hF false e hc
     ·exact hc.elim
    ·unfold ifV at *
     split at hc
     ·exact hF want ((s, .bool true) :: e) hc
     ·exact hF (!want) ((s, .bool false) :: e) hc
     ·exact hc.elim
   ·exact hc.elim
  ·exact hc.elim

def cSeq (P : Program) (n : Nat) (ops : Array Oper) : List Oper -> VEnv -> Heap -> (VEnv -> Heap -> Prop) -> Prop
 | [], e, h, K => K e h
 | o :: r, e, h, K => cStep P n ops o e h fun e' h' => cSeq P n ops r e' h' K

def opsA (P : Program) (ops : Array Oper) (Q : Array Value -> Heap -> Prop) : List Nat -> Array Value -> Heap -> Prop
 | [], t, h => Q t h
 | i :: r, t, h => opA P ops i t h (opsA P ops Q r)

theorem opsA_sound {ro : Option Nat} {Q : Exit -> Act -> World -> Prop} {K : Array Value -> Heap -> Prop} (hp : AllPlain ops) : ∀ (l : List Nat) (a : Act) (w : World),
  opsA P ops K l a.tmps w.heap -> (∀ a' w', a'.defers = a.defers -> Same w w' -> K a'.tmps w'.heap -> Q .normal a' w') -> wpOpsIn (WF ro) 0 P ops Q l a w
 | [], a, w, hk, hq => hq _ _ rfl (.refl _) hk
 | i :: r, a, w, hk, hq => by
  rw [wpOpsIn_cons]
  exact opA_sound (hp i) hk fun a' w' hd hs hk' => opsA_sound hp r a' w' hk' fun a'' w'' hd' hs' hk'' => hq _ _ (hd'.trans hd) (hs.trans hs') hk''

theorem cSeq_sound : ∀ (l : List Oper) (k : Nat) {e : VEnv} {t : Array Value} {h : Heap} {K : VEnv -> Heap -> Prop}, ops.toList.drop k = l -> Rel e t -> t.size = n ->
  cSeq P n ops l e h K -> opsA P ops (fun t' h' => Fr ops t t' /\ ∃ e', Rel e' t' /\ K e' h') ((List.range ops.size).drop k) t h
 | [], k, e, t, h, K, hl, hr, hn, hc => by
  have : ops.size <= k := by
   have := congrArg List.length hl; simp at this; omega
  rw [List.drop_eq_nil_of_le (by simpa using this)]
  exact ⟨.refl _, e, hr, hc⟩
 | o :: r, k, e, t, h, K, hl, hr, hn, hc => by
  have hk : k < ops.size := by
   have := congrArg List.length hl; simp at this; omega
  have ho : ops[k]? = some o := by
   have : (ops.toList.drop k)[0]? = some o := by rw [hl]; rfl
   simpa using this
  have hl' : ops.toList.drop (k + 1) = r := by
   rw [<- List.drop_drop, hl]; rfl
  have hd : (List.range ops.size).drop k = k :: (List.range ops.size).drop (k + 1) := by
   rw [List.drop_eq_getElem_cons (by simpa using hk)]; simp
  rw [hd]
  refine opA_mono ?_ (cStep_sound ho hr hn hc)
  rintro t' h' ⟨hf, e', hr', hc'⟩
  have := cSeq_sound r (k + 1) hl' hr' (hf.1.trans hn) hc'
  have mono : ∀ (l : List Nat) (t : Array Value) (h : Heap) {K K' : Array Value -> Heap -> Prop}, (∀ t h, K t h -> K' t h) -> opsA P ops K l t h -> opsA P ops K' l t h := by
   intro l
   induction l with
   | nil => intro t h K K' hm hk; exact hm _ _ hk
   | cons i r ih => intro t h K K' hm hk; exact opA_mono (fun t h => ih t h hm) hk
  exact mono _ _ _ (fun t'' h'' ⟨hf', hx⟩ => ⟨hf.trans hf', hx⟩) this

end
open Go

def predMask (o : Oper) : Nat := o.after.toList.foldl (fun s e => bif Region.binds .any e then s ||| 2 ^ e.on else s) 0

def readyM (o : Oper) (i listed : Nat) : Bool :=
 match Nat.testBit listed i with
 | true => false
 | false => Nat.beq (predMask o &&& listed) (predMask o)

def firstQuiet (listed : Nat) : List Oper -> Nat -> Option (Nat × Oper)
 | [], _ => none
 | o :: r, i => match quietB o.op with
  | true => (match readyM o i listed with
   | true => some (i, o)
   | false => firstQuiet listed r (i + 1))
  | false => firstQuiet listed r (i + 1)

def allReady (listed : Nat) : List Oper -> Nat -> List (Nat × Oper)
 | [], _ => []
 | o :: r, i => match readyM o i listed with
  | true => (i, o) :: allReady listed r (i + 1)
  | false => allReady listed r (i + 1)

abbrev HeldE := List (Nat × Oper × VEnv × Value)

def dropE (anc : Nat) : HeldE -> HeldE
 | [] => []
 | x :: r => match Nat.testBit anc x.1 with
  | true => dropE anc r
  | false => x :: dropE anc r

def recheck (P : Program) (h : Heap) : HeldE -> Prop -> Prop
 | [], R => R
 | x :: r, R => qop P (ev x.2.2.1) x.2.1.op h (fun v => v = x.2.2.2) /\ recheck P h r R

def allOf {α : Type} (F : α -> Prop) : List α -> Prop
 | [] => True
 | [x] => F x
 | x :: y :: r => F x /\ allOf F (y :: r)

def cDrawn (P : Program) (n : Nat) (ops : Array Oper) (ancs : List Nat) : Nat -> Nat -> HeldE -> VEnv -> Heap -> (VEnv -> Heap -> Prop) -> Prop
 | 0, listed, _, e, h, K => (match allReady listed ops.toList 0 with
  | [] => K e h
  | _ => False)
 | f + 1, listed, H, e, h, K =>
  match firstQuiet listed ops.toList 0 with
  | some (c, o) => cGuard ops o e fun w e' => (match w with
   | true => (match okOp n o e' with
    | true => qop P (ev e') o.op h fun v => cDrawn P n ops ancs f (listed ||| 2 ^ c) (match pureB P o.op with
     | true => H
     | false => H ++ [(c, o, e', v)]) (putE e' o.dst v) h K
    | false => False)
   | false => (match dstOk n o.dst with
    | true => cDrawn P n ops ancs f (listed ||| 2 ^ c) H (putE e' o.dst undef) h K
    | false => False))
  | none => (match allReady listed ops.toList 0 with
   | [] => K e h
   | l => allOf (fun (x : Nat × Oper) => cStep P n ops x.2 e h fun e' h' => (match addsB x.2.op with
    | true => cDrawn P n ops ancs f (listed ||| 2 ^ x.1) (dropE (ancs.getD x.1 0) H) e' h' K
    | false => recheck P h' (dropE (ancs.getD x.1 0) H) (cDrawn P n ops ancs f (listed ||| 2 ^ x.1) (dropE (ancs.getD x.1 0) H) e' h' K))) l)

section
variable {P : Program} {ops : Array Oper} {n : Nat} {ancs : List Nat}

def LR (ops : Array Oper) (listed : Nat) (lA : Array Bool) : Prop := lA.size = ops.size /\ ∀ j, lA.getD j false = listed.testBit j

theorem LR.set {listed : Nat} {lA : Array Bool} {i : Nat} (h : LR ops listed lA) (hi : i < ops.size) : LR ops (listed ||| 2 ^ i) (lA.setIfInBounds i true) := by
 refine ⟨by simp [h.1], fun j => ?_⟩
 rw [getD_set (by rw [h.1]; exact hi), Nat.testBit_or, Nat.testBit_two_pow, <- h.2 j]
 by_cases e : i = j <;> simp [e]

theorem predMask_bit (o : Oper) (c : Nat) : (predMask o).testBit c = true ↔ ∃ e ∈ o.after, Region.binds .any e = true /\ e.on = c := by
 have key : ∀ (l : List Edge) (s : Nat), (l.foldl (fun s e => bif Region.binds .any e then s ||| 2 ^ e.on else s) s).testBit c = true ↔
   s.testBit c = true \/ ∃ e ∈ l, Region.binds .any e = true /\ e.on = c := by
  intro l
  induction l with
  | nil => intro s; simp
  | cons e l ih =>
   intro s
   rw [List.foldl_cons, ih]
   cases hb : Region.binds .any e with
   | false => simp [hb]
   | true =>
    simp only [cond_true, Nat.testBit_or, Nat.testBit_two_pow, Bool.or_eq_true, decide_eq_true_eq, List.mem_cons, exists_eq_or_imp, hb, true_and]
    constructor
    ·rintro ((h | h) | h)
     ·exact .inl h
     ·exact .inr (.inl h)
     ·exact .inr (.inr h)
    ·rintro (h | h | h)
     ·exact .inl (.inl h)
     ·exact .inl (.inr h)
     ·exact .inr h
 unfold predMask
 rw [key, Nat.zero_testBit]
 simp only [Bool.false_eq_true, false_or, <- Array.mem_def]

theorem readyM_iff {listed : Nat} {lA : Array Bool} {i : Nat} {o : Oper} (h : LR ops listed lA) (ho : ops[i]? = some o) : readyM o i listed = true ↔ i ∈ Region.ready .any ops lA := by
 have hi : i < ops.size := (Array.getElem?_eq_some_iff.1 ho).1
 rw [mem_ready]
 have hd : lA.getD i true = listed.testBit i := by
  rw [<- h.2 i]
  have : i < lA.size := by rw [h.1]; exact hi
  simp [Array.getD_eq_getD_getElem?, this]
 unfold readyM
 constructor
 ·intro hr
  split at hr
  ·cases hr
  ·rename_i hb
   refine ⟨hi, by rw [hd, hb], o, ho, fun e he hbind => ?_⟩
   have heq := Nat.eq_of_beq_eq_true hr
   have : (predMask o).testBit e.on = true := (predMask_bit o e.on).2 ⟨e, he, hbind, rfl⟩
   rw [<- heq, Nat.testBit_and, Bool.and_eq_true] at this
   rw [h.2]; exact this.2
 ·rintro ⟨_, h2, o', ho', h3⟩
  rw [ho] at ho'; cases ho'
  rw [hd] at h2
  rw [h2]
  dsimp only
  have : predMask o &&& listed = predMask o := by
   apply Nat.eq_of_testBit_eq
   intro j
   rw [Nat.testBit_and]
   cases hb : (predMask o).testBit j with
   | false => rfl
   | true =>
    obtain ⟨e, he, hbind, rfl⟩ := (predMask_bit o j).1 hb
    rw [<- h.2, h3 e he hbind]; rfl
  rw [this]; exact Nat.beq_refl _

theorem firstQuiet_spec {listed : Nat} : ∀ (l : List Oper) (k : Nat) {c : Nat} {o : Oper}, firstQuiet listed l k = some (c, o) ->
  k <= c /\ l[c - k]? = some o /\ quietB o.op = true /\ readyM o c listed = true
 | [], k, c, o, h => by cases h
 | x :: l, k, c, o, h => by
  have step : firstQuiet listed l (k + 1) = some (c, o) -> k <= c /\ (x :: l)[c - k]? = some o /\ quietB o.op = true /\ readyM o c listed = true := by
   intro h
   obtain ⟨h1, h2, h3, h4⟩ := firstQuiet_spec l (k + 1) h
   refine ⟨by omega, ?_, h3, h4⟩
   rw [show c - k = (c - (k + 1)) + 1 by omega]; simpa using h2
  simp only [firstQuiet] at h
  split at h
  ·rename_i hq
   split at h
   ·rename_i hr
    simp only [Option.some.injEq, Prod.mk.injEq] at h
    obtain ⟨rfl, rfl⟩ := h
    exact ⟨Nat.le_refl _, by simp, hq, hr⟩
   ·exact step h
  ·exact step h

theorem allReady_spec {listed : Nat} : ∀ (l : List Oper) (k : Nat) (c : Nat) (o : Oper), (c, o) ∈ allReady listed l k ↔
  k <= c /\ l[c - k]? = some o /\ readyM o c listed = true
 | [], k, c, o => by simp [allReady]
 | x :: l, k, c, o => by
  have ih := allReady_spec (listed := listed) l (k + 1) c o
  have tail : (c, o) ∈ allReady listed l (k + 1) ↔ k < c /\ (x :: l)[c - k]? = some o /\ readyM o c listed = true := by
   rw [ih]
   constructor
   ·rintro ⟨h1, h2, h3⟩
    refine ⟨by omega, ?_, h3⟩
    rw [show c - k = (c - (k + 1)) + 1 by omega]; simpa using h2
   ·rintro ⟨h1, h2, h3⟩
    refine ⟨by omega, ?_, h3⟩
    rw [show c - k = (c - (k + 1)) + 1 by omega] at h2; simpa using h2
  simp only [allReady]
  split
  ·rename_i hr
   rw [List.mem_cons, tail]
   constructor
   ·rintro (h | ⟨h1, h2, h3⟩)
    ·simp only [Prod.mk.injEq] at h
     obtain ⟨rfl, rfl⟩ := h
     exact ⟨Nat.le_refl _, by simp, hr⟩
    ·exact ⟨by omega, h2, h3⟩
   ·rintro ⟨h1, h2, h3⟩
    rcases Nat.lt_or_ge k c with hlt | hge
    ·exact .inr ⟨hlt, h2, h3⟩
    ·have : c = k := by omega
     subst this
     simp at h2; subst h2; exact .inl rfl
  ·rename_i hr
   rw [tail]
   constructor
   ·rintro ⟨h1, h2, h3⟩; exact ⟨by omega, h2, h3⟩
   ·rintro ⟨h1, h2, h3⟩
    rcases Nat.lt_or_ge k c with hlt | hge
    ·exact ⟨hlt, h2, h3⟩
    ·have : c = k := by omega
     subst this
     simp at h2; subst h2; rw [h3] at hr; cases hr

theorem allOf_mem {α : Type} {F : α -> Prop} : ∀ {l : List α}, allOf F l -> ∀ x ∈ l, F x
 | [x], h, y, hy => by rw [List.mem_singleton.1 hy]; exact h
 | x :: y :: r, h, z, hz => by
  rcases List.mem_cons.1 hz with rfl | hz
  ·exact h.1
  ·exact allOf_mem h.2 z hz

theorem recheck_spec {h : Heap} {R : Prop} : ∀ {H : HeldE}, recheck P h H R -> R /\ ∀ x ∈ H, qop P (ev x.2.2.1) x.2.1.op h (fun v => v = x.2.2.2)
 | [], hr => ⟨hr, by simp⟩
 | x :: H, hr => by
  obtain ⟨h1, h2⟩ := recheck_spec hr.2
  exact ⟨h1, fun y hy => by
   rcases List.mem_cons.1 hy with rfl | hy
   ·exact hr.1
   ·exact h2 y hy⟩

theorem mem_dropE {anc : Nat} : ∀ {H : HeldE} {x : Nat × Oper × VEnv × Value}, x ∈ dropE anc H ↔ x ∈ H /\ anc.testBit x.1 = false
 | [], x => by simp [dropE]
 | y :: H, x => by
  simp only [dropE]
  split
  ·rename_i hb
   rw [mem_dropE, List.mem_cons]
   constructor
   ·rintro ⟨h1, h2⟩; exact ⟨.inr h1, h2⟩
   ·rintro ⟨rfl | h1, h2⟩
    ·rw [hb] at h2; cases h2
    ·exact ⟨h1, h2⟩
  ·rename_i hb
   rw [List.mem_cons, mem_dropE, List.mem_cons]
   constructor
   ·rintro (rfl | ⟨h1, h2⟩)
    ·exact ⟨.inl rfl, hb⟩
    ·exact ⟨.inr h1, h2⟩
   ·rintro ⟨rfl | h1, h2⟩
    ·exact .inl rfl
    ·exact .inr ⟨h1, h2⟩

def HR (P : Program) (H : HeldE) (HA : Held) : Prop :=
 ∀ x ∈ HA, (∀ h, x.2 h) \/ ∃ y ∈ H, y.1 = x.1 /\ ∀ h, qop P (ev y.2.2.1) y.2.1.op h (fun v => v = y.2.2.2) -> x.2 h

theorem HR.drop {H : HeldE} {HA : Held} {i : Nat} (hh : HR P H HA) : HR P (dropE (ancs.getD i 0) H) (dropH ancs i HA) := by
 intro x hx
 obtain ⟨hx1, hx2⟩ := List.mem_filter.1 hx
 rcases hh x hx1 with h | ⟨y, hy, he, h⟩
 ·exact .inl h
 ·refine .inr ⟨y, mem_dropE.2 ⟨hy, ?_⟩, he, h⟩
  rw [he]
  simpa [ancBit] using hx2

def QK (ops : Array Oper) (K : VEnv -> Heap -> Prop) (t₀ : Array Value) : Array Value -> Heap -> Prop :=
 fun t h => Fr ops t₀ t /\ ∃ e, Rel e t /\ K e h

theorem quietAt_of {c : Nat} {o : Oper} (ho : ops[c]? = some o) (hq : quietB o.op = true) : quietAt ops c = true := by
 simp [quietAt, ho, hq]

theorem cDrawn_sound {K : VEnv -> Heap -> Prop} {t₀ : Array Value} : ∀ (f : Nat) {listed : Nat} {lA : Array Bool} {H : HeldE} {HA : Held} {e : VEnv} {t : Array Value} {h : Heap},
  LR ops listed lA -> HR P H HA -> (∀ x ∈ H, qop P (ev x.2.2.1) x.2.1.op h (fun v => v = x.2.2.2)) -> Rel e t -> t.size = n -> Fr ops t₀ t ->
  cDrawn P n ops ancs f listed H e h K -> RW P ops ancs (QK ops K t₀) f HA lA t h
 | 0, listed, lA, H, HA, e, t, h, hl, hh, hfacts, hr, hn, hfr, hc => by
  unfold cDrawn at hc
  split at hc
  ·rename_i hnone
   refine ⟨?_, hfr, e, hr, hc⟩
   apply List.eq_nil_iff_forall_not_mem.2
   intro i hi
   obtain ⟨_, _, o, ho, _⟩ := mem_ready.1 hi
   have : (i, o) ∈ allReady listed ops.toList 0 := (allReady_spec _ _ _ _).2 ⟨Nat.zero_le _, by simpa using ho, (readyM_iff hl ho).2 hi⟩
   rw [hnone] at this; cases this
  ·exact hc.elim
 | f + 1, listed, lA, H, HA, e, t, h, hl, hh, hfacts, hr, hn, hfr, hc => by
  unfold cDrawn at hc
  split at hc
  ·rename_i c o hfq
   obtain ⟨_, ho, hq, hrd⟩ := firstQuiet_spec _ _ hfq
   have ho : ops[c]? = some o := by simpa using ho
   have hready := (readyM_iff hl ho).1 hrd
   obtain ⟨e', hr', hc⟩ := cGuard_sound hr hc
   have hcs : c < ops.size := ready_lt hready
   have hdst : dstOf ops c = o.dst := by simp [dstOf, ho]
   cases hw : Region.wanted o (yielded ops t) with
   | true =>
    rw [hw] at hc
    dsimp only at hc
    split at hc
    ·rename_i hok
     obtain ⟨hp, hk, hd⟩ := okOp_parts hok
     rw [<- hn] at hd
     obtain ⟨v, hK, hall⟩ := qop_det _ _ _ hc
     have hg : ∀ h', qop P (ev e') o.op h' (fun u => u = v) -> Gives P ops c v t h' := by
      intro h' hq'
      obtain ⟨u, hu, rfl⟩ := qop_sound hq'
      refine ⟨o, ho, ?_⟩
      rw [if_pos hw, <- execOp_env hr' hp hk]; exact hu
     have hqv : qop P (ev e') o.op h (fun u => u = v) := hall _ rfl
     have hHA : HR P (match pureB P o.op with
      | true => H
      | false => H ++ [(c, o, e', v)]) (HA ++ [(c, Gives P ops c v t)]) := by
      intro x hx
      rcases List.mem_append.1 hx with hx | hx
      ·rcases hh x hx with hx | ⟨y, hy, he, hx⟩
       ·exact .inl hx
       ·refine .inr ⟨y, ?_, he, hx⟩
        split
        ·exact hy
        ·exact List.mem_append.2 (.inl hy)
      ·rw [List.mem_singleton.1 hx]
       split
       ·rename_i hpure; exact .inl fun h' => hg h' (qop_pure hpure hqv)
       ·exact .inr ⟨(c, o, e', v), List.mem_append.2 (.inr (List.mem_singleton.2 rfl)), rfl, fun h' => hg h'⟩
     have hF : ∀ x ∈ (match pureB P o.op with
      | true => H
      | false => H ++ [(c, o, e', v)]), qop P (ev x.2.2.1) x.2.1.op h (fun u => u = x.2.2.2) := by
      intro x hx
      split at hx
      ·exact hfacts x hx
      ·rcases List.mem_append.1 hx with hx | hx
       ·exact hfacts x hx
       ·rw [List.mem_singleton.1 hx]; exact hqv
     have hrw := cDrawn_sound f (hl.set hcs) hHA hF (hr'.put hd) (by rw [putA_size]; exact hn) (hfr.trans (Fr.put ho)) hK
     exact .inr (.inl ⟨c, v, hready, quietAt_of ho hq, hg h hqv, by rw [hdst]; exact hrw⟩)
    ·exact hc.elim
   | false =>
    rw [hw] at hc
    dsimp only at hc
    split at hc
    ·rename_i hd
     rw [<- hn] at hd
     have hg : ∀ h', Gives P ops c undef t h' := fun h' => ⟨o, ho, by rw [hw]; simp⟩
     have hHA : HR P H (HA ++ [(c, Gives P ops c undef t)]) := by
      intro x hx
      rcases List.mem_append.1 hx with hx | hx
      ·exact hh x hx
      ·rw [List.mem_singleton.1 hx]; exact .inl hg
     have hrw := cDrawn_sound f (hl.set hcs) hHA hfacts (hr'.put hd) (by rw [putA_size]; exact hn) (hfr.trans (Fr.put ho)) hc
     exact .inr (.inl ⟨c, undef, hready, quietAt_of ho hq, hg h, by rw [hdst]; exact hrw⟩)
    ·exact hc.elim
  ·split at hc
   ·rename_i hnone
    refine .inl ⟨?_, hfr, e, hr, hc⟩
    apply List.eq_nil_iff_forall_not_mem.2
    intro i hi
    obtain ⟨_, _, o, ho, _⟩ := mem_ready.1 hi
    have : (i, o) ∈ allReady listed ops.toList 0 := (allReady_spec _ _ _ _).2 ⟨Nat.zero_le _, by simpa using ho, (readyM_iff hl ho).2 hi⟩
    rw [hnone] at this; cases this
   ·rename_i l hne
    have key : ∀ i ∈ Region.ready .any ops lA, opA P ops i t h fun t' h' => (∀ x ∈ dropH ancs i HA, x.2 h') /\ RW P ops ancs (QK ops K t₀) f (dropH ancs i HA) (lA.setIfInBounds i true) t' h' := by
     intro i hi
     obtain ⟨_, _, o, ho, _⟩ := mem_ready.1 hi
     have hmem : (i, o) ∈ allReady listed ops.toList 0 := (allReady_spec _ _ _ _).2 ⟨Nat.zero_le _, by simpa using ho, (readyM_iff hl ho).2 hi⟩
     have hx := allOf_mem hc (i, o) hmem
     have his : i < ops.size := ready_lt hi
     have fin : ∀ (e' : VEnv) (t' : Array Value) (h' : Heap), Fr ops t t' -> Rel e' t' -> (∀ x ∈ dropE (ancs.getD i 0) H, qop P (ev x.2.2.1) x.2.1.op h' (fun v => v = x.2.2.2)) ->
       cDrawn P n ops ancs f (listed ||| 2 ^ i) (dropE (ancs.getD i 0) H) e' h' K ->
       (∀ x ∈ dropH ancs i HA, x.2 h') /\ RW P ops ancs (QK ops K t₀) f (dropH ancs i HA) (lA.setIfInBounds i true) t' h' := by
      intro e' t' h' hf hr' hF hcd
      have hrw := cDrawn_sound f (hl.set his) (HR.drop hh) hF hr' (hf.1.trans hn) (hfr.trans hf) hcd
      refine ⟨fun x hx => ?_, hrw⟩
      rcases HR.drop (ancs := ancs) (i := i) hh x hx with h1 | ⟨y, hy, _, h1⟩
      ·exact h1 h'
      ·exact h1 h' (hF y hy)
     cases hadd : addsB o.op with
     | true =>
      have hx : cStep P n ops o e h fun e' h' => cDrawn P n ops ancs f (listed ||| 2 ^ i) (dropE (ancs.getD i 0) H) e' h' K := by
       dsimp only at hx; rw [hadd] at hx; exact hx
      refine opA_mono ?_ (cStep_sound ho hr hn (cStep_adds hadd hx))
      rintro t' h' ⟨hf, e', hr', hcd, hpush⟩
      refine fin e' t' h' hf hr' ?_ hcd
      intro x hx
      have := hfacts x (mem_dropE.1 hx).1
      rcases hpush with rfl | ⟨y, rfl⟩
      ·exact this
      ·exact qop_push this
     | false =>
      have hx : cStep P n ops o e h fun e' h' => recheck P h' (dropE (ancs.getD i 0) H) (cDrawn P n ops ancs f (listed ||| 2 ^ i) (dropE (ancs.getD i 0) H) e' h' K) := by
       dsimp only at hx; rw [hadd] at hx; exact hx
      refine opA_mono ?_ (cStep_sound ho hr hn hx)
      rintro t' h' ⟨hf, e', hr', hcd⟩
      obtain ⟨h1, h2⟩ := recheck_spec hcd
      exact fin e' t' h' hf hr' h2 h1
    by_cases hre : Region.ready .any ops lA = []
    ·refine .inl ⟨hre, ?_⟩
     exfalso
     cases hl2 : allReady listed ops.toList 0 with
     | nil => exact hne hl2
     | cons x r =>
      obtain ⟨i, o⟩ := x
      have hm : (i, o) ∈ allReady listed ops.toList 0 := by rw [hl2]; exact List.mem_cons_self
      obtain ⟨_, ho, hrd⟩ := (allReady_spec _ _ _ _).1 hm
      have := (readyM_iff hl (by simpa using ho)).1 hrd
      rw [hre] at this; cases this
    ·exact .inr (.inr ⟨hre, key⟩)

end
open Go

def chk1 (ops : Array Oper) (ancs : List Nat) (x : Oper) (i ai : Nat) : List Oper -> Nat -> Bool
 | [], _ => true
 | y :: r, j => (Nat.beq i j || (Nat.testBit ai j || (Nat.testBit (ancs.getD j 0) i || x.apart ops y))) && chk1 ops ancs x i ai r (j + 1)

def chk (ops : Array Oper) (ancs : List Nat) : List Oper -> Nat -> Bool
 | [], _ => true
 | x :: r, i => (match quietB x.op with
  | true => chk1 ops ancs x i (ancs.getD i 0) ops.toList 0
  | false => true) && chk ops ancs r (i + 1)

def plainL : List Oper -> Bool
 | [] => true
 | o :: r => plainOp o.op && plainL r

def drawOK (ops : Array Oper) (ancs : List Nat) : Bool := ancOKB ancs ops.toList 0 && chk ops ancs ops.toList 0

section
variable {P : Program} {ops : Array Oper} {ancs : List Nat}

theorem chk1_spec {x : Oper} {i ai : Nat} : ∀ (l : List Oper) (k : Nat), chk1 ops ancs x i ai l k = true -> ∀ (j : Nat) (y : Oper), l[j]? = some y ->
  i = k + j \/ ai.testBit (k + j) = true \/ (ancs.getD (k + j) 0).testBit i = true \/ x.apart ops y = true
 | [], _, _, j, y, hy => by simp at hy
 | z :: l, k, h, j, y, hy => by
  simp only [chk1, Bool.and_eq_true, Bool.or_eq_true] at h
  cases j with
  | zero =>
   simp only [List.getElem?_cons_zero, Option.some.injEq] at hy; subst hy
   rcases h.1 with h | h | h | h
   ·exact .inl (Nat.eq_of_beq_eq_true h)
   ·exact .inr (.inl h)
   ·exact .inr (.inr (.inl h))
   ·exact .inr (.inr (.inr h))
  | succ j =>
   have := chk1_spec l (k + 1) h.2 j y (by simpa using hy)
   rw [show k + (j + 1) = k + 1 + j by omega]; exact this

theorem chk_spec : ∀ (l : List Oper) (k : Nat), chk ops ancs l k = true -> ∀ (i : Nat) (x : Oper), l[i]? = some x -> quietB x.op = true ->
  chk1 ops ancs x (k + i) (ancs.getD (k + i) 0) ops.toList 0 = true
 | [], _, _, i, x, hx => by simp at hx
 | z :: l, k, h, i, x, hx => by
  intro hq
  simp only [chk, Bool.and_eq_true] at h
  cases i with
  | zero =>
   simp only [List.getElem?_cons_zero, Option.some.injEq] at hx; subst hx
   have := h.1; rw [hq] at this; exact this
  | succ i =>
   have := chk_spec l (k + 1) h.2 i x (by simpa using hx) hq
   rw [show k + (i + 1) = k + 1 + i by omega]; exact this

theorem apartOK_of (h : chk ops ancs ops.toList 0 = true) : apartOK ops ancs := by
 intro c i hc hi hne hq h1 h2
 unfold quietAt at hq
 split at hq
 ·rename_i x hx
  obtain ⟨y, hy⟩ : ∃ y, ops[i]? = some y := ⟨_, Array.getElem?_eq_getElem hi⟩
  have := chk1_spec _ _ (chk_spec _ _ h c x (by simpa using hx) hq) i y (by simpa using hy)
  simp only [Nat.zero_add] at this
  unfold apartAt
  rw [hx, hy]
  dsimp only
  rcases this with h | h | h | h
  ·exact (hne h).elim
  ·unfold ancBit at h2; rw [h2] at h; cases h
  ·unfold ancBit at h1; rw [h1] at h; cases h
  ·exact h
 ·cases hq

theorem plainL_spec : ∀ {l : List Oper}, plainL l = true -> ∀ (i : Nat) (o : Oper), l[i]? = some o -> plainOp o.op = true
 | [], _, i, o, ho => by simp at ho
 | x :: l, h, i, o, ho => by
  simp only [plainL, Bool.and_eq_true] at h
  cases i with
  | zero => simp only [List.getElem?_cons_zero, Option.some.injEq] at ho; subst ho; exact h.1
  | succ i => exact plainL_spec h.2 i o (by simpa using ho)

theorem allPlain_of (h : plainL ops.toList = true) : AllPlain ops := fun i o ho => plainL_spec h i o (by simpa using ho)

end

def LoopH {σ : Type} (B : σ -> Heap -> (σ -> Heap -> Prop) -> Prop) (x : σ) (h : Heap) : Prop :=
 ∀ Z : σ -> Heap -> Prop, (∀ x h, B x h Z -> Z x h) -> Z x h

def Vals : List Nat -> Type
 | [] => Unit
 | _ :: r => Value × Vals r

def bindV : (l : List Nat) -> Vals l -> VEnv -> VEnv
 | [], _, e => e
 | s :: r, x, e => (s, x.1) :: bindV r x.2 e

def takeV (e : VEnv) : (l : List Nat) -> (Vals l -> Prop) -> Prop
 | [], K => K ()
 | s :: r, K => (match look e s with
  | some v => takeV e r fun x => K (v, x)
  | none => False)

def memN (s : Nat) : List Nat -> Bool
 | [] => false
 | x :: r => match Nat.beq x s with
  | true => true
  | false => memN s r

def keepE (drop : List Nat) : VEnv -> VEnv
 | [] => []
 | x :: r => match memN x.1 drop with
  | true => keepE drop r
  | false => x :: keepE drop r

def dstsL : List Oper -> List Nat
 | [] => []
 | o :: r => match o.dst with
  | some d => d :: dstsL r
  | none => dstsL r

def writes : Code -> List Nat
 | .region _ ops _ => dstsL ops.toList
 | .seq a b => writes a ++ writes b
 | .cond _ a b => writes a ++ writes b
 | .block _ a => writes a
 | .loop a => writes a
 | .scope a => writes a
 | _ => []

def noRange : Code -> Bool
 | .seq a b => noRange a && noRange b
 | .cond _ a b => noRange a && noRange b
 | .block _ a => noRange a
 | .loop a => noRange a
 | .scope a => noRange a
 | .rangeFunc .. => false
 | _ => true

inductive Ann where
 | leaf
 | one (a : Ann)
 | two (a b : Ann)
 | cut (slots : List Nat) (a b : Ann)
 | loop (slots : List Nat) (a : Ann)

def lo (L : Loop) (st : LoopState) (p : Option Code) : Obj := .loop { L with state := st, pending := p }

def yieldV (l : Nat) : Value := .func (.yield l) #[] #[]

def lookK : List (Nat × (Heap -> Prop)) -> Nat -> Heap -> Prop
 | [], _, _ => False
 | (i, K) :: r, id, h => match Nat.beq i id with
  | true => K h
  | false => lookK r id h

def jumpK (Kn Kr : Heap -> Prop) (Ks : List (Nat × (Heap -> Prop))) (h : Heap) : Option Code -> Prop
 | none => Kn h
 | some .ret => Kr h
 | some (.exit id) => lookK Ks id h
 | some _ => False

def listV : (l : List Nat) -> Vals l -> List Value
 | [], _ => []
 | _ :: r, x => x.1 :: listV r x.2

def roundK (l : Nat) (L : Loop) (K : KT) (ex : Exit) (h : Heap) : Prop :=
 ∃ p, h[l]? = some (lo L .busy p) /\ match ex with
  | .normal => K (.bool true) (h.setIfInBounds l (lo L .ready none))
  | .ret => K (.bool false) (h.setIfInBounds l (lo L .done (some .ret)))
  | .exit id => K (.bool false) (h.setIfInBounds l (lo L .done (some (.exit id))))
  | _ => False

def callF (P : Program) (v : Value) (args : Array Value) (h : Heap) (K : KT) : Prop :=
 match v with
 | .func (.func f) first captured => CallsH P f (first ++ args ++ captured) h K
 | _ => False

def beginR (l : Nat) (L : Loop) (h : Heap) (K : Heap -> Prop) : Prop :=
 ∃ p, h[l]? = some (lo L .ready p) /\ K (h.setIfInBounds l (lo L .busy p))

def rangeH (P : Program) (fv : Value) (ps : List Nat) (l : Nat) (h0 : Heap) (B : Loop -> Vals ps -> Heap -> (Exit -> Heap -> Prop) -> Prop) (Kn Kr : Heap -> Prop) (Ks : List (Nat × (Heap -> Prop))) : Prop :=
 ∀ L : Loop, (∀ (x : Vals ps) (h : Heap) (R : KT) (st : LoopState) (p : Option Code), h[l]? = some (lo L st p) ->
   B L x h (roundK l L R) -> callV P (yieldV l) (listV ps x).toArray h R) ->
  callF P fv #[yieldV l] (h0.push (lo L .ready none)) fun _ h' => ∃ st p, st ≠ .busy /\ h'[l]? = some (lo L st p) /\ jumpK Kn Kr Ks (h'.setIfInBounds l (lo L .exhausted p)) p

def dropN (id : Nat) : List Nat -> List Nat
 | [] => []
 | x :: r => match Nat.beq x id with
  | true => dropN id r
  | false => x :: dropN id r

def exits : Code -> List Nat
 | .exit id => [id]
 | .seq a b => exits a ++ exits b
 | .cond _ a b => exits a ++ exits b
 | .block id a => dropN id (exits a)
 | .loop a => exits a
 | _ => []

def ltAll (n : Nat) : List Nat -> Bool
 | [] => true
 | x :: r => Nat.blt x n && ltAll n r

def zipV : (l : List Nat) -> Vals l -> VEnv -> VEnv
 | [], _, e => e
 | s :: r, x, e => zipV r x.2 ((s, x.1) :: e)

def cutP {σ : Type} (A : (σ -> Heap -> Prop) -> Prop) (B : σ -> Heap -> Prop) : Prop := A B

def compile (P : Program) (n : Nat) (ro : Bool) : Code -> Ann -> VEnv -> List Nat -> Heap -> (Exit -> VEnv -> List Nat -> Heap -> Prop) -> Prop
 | .skip, _, e, m, h, K => K .normal e m h
 | .label _, _, e, m, h, K => K .normal e m h
 | .ret, _, e, m, h, K => K .ret e m h
 | .exit id, _, e, m, h, K => K (.exit id) e m h
 | .seq a b, .two x y, e, m, h, K => compile P n ro a x e m h fun ex e' m' h' => (match ex with
  | .normal => compile P n ro b y e' m' h' K
  | ex => K ex e' m' h')
 | .seq a b, .cut slots x y, e, m, h, K => (match noRange a with
  | true => cutP (fun J => compile P n ro a x e m h fun ex e' m' h' => (match ex with
   | .normal => takeV e' slots fun v => J v h'
   | ex => K ex e' m' h')) (fun v h' => compile P n ro b y (bindV slots v (keepE (slots ++ writes a) e)) m h' K)
  | false => False)
 | .cond c a b, .two x y, e, m, h, K => (match knownO e c with
  | true => ifV (ev e c) (compile P n ro a x e m h K) (compile P n ro b y e m h K)
  | false => False)
 | .block id a, .one x, e, m, h, K => compile P n ro a x e m h fun ex e' m' h' => (match ex with
  | .exit id' => (match Nat.beq id' id with
   | true => K .normal e' m' h'
   | false => K (.exit id') e' m' h')
  | ex => K ex e' m' h')
 | .scope a, .one x, e, m, h, K => compile P n ro a x e m h fun ex e' m' h' => (match ex with
  | .goto _ => False
  | ex => K ex e' m' h')
 | .loop a, .loop slots x, e, m, h, K => (match noRange a with
  | true => takeV e slots fun x0 => LoopH (fun v h Z => compile P n ro a x (bindV slots v (keepE (slots ++ writes a) e)) m h fun ex e' m' h' => (match ex with
   | .normal => takeV e' slots fun v' => Z v' h'
   | ex => K ex e' m' h')) x0 h
  | false => takeV e slots fun x0 => LoopH (fun (v : List Nat × Vals slots) h Z => compile P n ro a x (bindV slots v.2 (keepE (slots ++ writes a) e)) v.1 h fun ex e' m' h' => (match ex with
   | .normal => takeV e' slots fun v' => Z (m', v') h'
   | ex => K ex e' m' h')) (m, x0) h)
 | .region _ ops draw, _, e, m, h, K => (match plainL ops.toList with
  | true => (match draw with
   | false => cSeq P n ops ops.toList e h fun e' h' => K .normal e' m h'
   | true => (match drawOK ops (ancList ops.toList []) with
    | true => cDrawn P n ops (ancList ops.toList []) ops.size 0 [] e h fun e' h' => K .normal e' m h'
    | false => False))
  | false => False)
 | .rangeFunc f params assign body, .two x y, e, m, h, K => (match knownO e f with
  | true => (match ro with
   | false => (match ltAll n params.toList with
    | true => rangeH P (ev e f) params.toList (h.size + 1) (h.push (.deferred (some [])))
     (fun L v h' R => compile P n true assign x (zipV params.toList v e) [] h' fun ex e1 m1 h1 => (match ex with
      | .normal => beginR (h.size + 1) L h1 fun h2 => compile P n true body y e1 m1 h2 fun ex' _ _ h3 => R ex' h3
      | _ => False)) (fun h' => K .normal e (h.size :: m) h') (fun h' => K .ret e (h.size :: m) h') ((exits body).map fun id => (id, fun h' => K (.exit id) e (h.size :: m) h'))
    | false => False)
   | true => False)
  | false => False)
 | _, _, _, _, _, _ => False

open Go

def marks (m : List Nat) : List Deferred := m.map fun D => { target := .collected D, args := #[] }

section
variable {P : Program}

theorem memN_append {s : Nat} : ∀ {a b : List Nat}, memN s (a ++ b) = (memN s a || memN s b)
 | [], b => by simp [memN]
 | x :: a, b => by
  simp only [List.cons_append, memN]
  split
  ·rfl
  ·exact memN_append

theorem memN_dsts {s : Nat} : ∀ (l : List Oper), memN s (dstsL l) = false -> ∀ o ∈ l, o.dst ≠ some s
 | [], _, o, ho => by cases ho
 | x :: l, h, o, ho => by
  have hx : x.dst ≠ some s /\ memN s (dstsL l) = false := by
   simp only [dstsL] at h
   split at h
   ·rename_i d hd
    simp only [memN] at h
    split at h
    ·cases h
    ·rename_i hb
     refine ⟨fun e => ?_, h⟩
     rw [hd] at e; cases e
     rw [Nat.beq_refl] at hb; cases hb
   ·rename_i hd
    exact ⟨(fun e => by rw [hd] at e; cases e), h⟩
  rcases List.mem_cons.1 ho with rfl | ho
  ·exact hx.1
  ·exact memN_dsts l hx.2 o ho

section
variable {b : Frame} {a : Act} {k : List Item} {cs : List Frame} {w : World} {Q : Exit -> Act -> World -> Prop} {F : World -> Prop} {n : Nat}
theorem stepR_scope {c : Code} : step P (lone (b.atR a (.code (.scope c) :: k)) cs w) = .next (lone (b.atR a (.code c :: .inScope c :: k)) cs w) :=
 step_lone_go (by simp [stepG, stepG.exec, Frame.atR])
theorem stepR_inScope {c : Code} : step P (lone (b.atR a (.inScope c :: k)) cs w) = .next (lone (b.atR a k) cs w) :=
 step_lone_go (by simp [stepG, stepG.exec, Frame.atR])
end

def noJump (Q : Exit -> Act -> World -> Prop) : Exit -> Act -> World -> Prop
 | .goto _, _, _ => False
 | ex, a, w => Q ex a w

def FrW (c : Code) (t t' : Array Value) : Prop := ∀ s, memN s (writes c) = false -> t'[s]? = t[s]?

theorem look_keepE {drop : List Nat} : ∀ {e : VEnv} {s : Nat} {v : Value}, look (keepE drop e) s = some v -> memN s drop = false /\ look e s = some v
 | [], s, v, h => by cases h
 | (d, u) :: e, s, v, h => by
  simp only [keepE] at h
  split at h
  ·rename_i hd
   obtain ⟨h1, h2⟩ := look_keepE h
   refine ⟨h1, ?_⟩
   simp only [look]
   split
   ·rename_i hb
    have := Nat.eq_of_beq_eq_true hb; subst this
    rw [hd] at h1; cases h1
   ·exact h2
  ·rename_i hd
   simp only [look] at h ⊢
   split at h
   ·rename_i hb
    have := Nat.eq_of_beq_eq_true hb; subst this
    exact ⟨hd, h⟩
   ·exact look_keepE h

theorem takeV_bind {t : Array Value} {e' : VEnv} (hr : Rel e' t) : ∀ {slots : List Nat} {F : Vals slots -> Prop}, takeV e' slots F ->
  ∃ v, F v /\ ∀ e, Rel e t -> Rel (bindV slots v e) t := by
 intro slots
 induction slots with
 | nil => intro F h; exact ⟨(), h, fun e he => he⟩
 | cons s r ih =>
  intro F h
  simp only [takeV] at h
  split at h
  ·rename_i v hv
   obtain ⟨x, hx, hb⟩ := ih h
   refine ⟨(v, x), hx, fun e he => ?_⟩
   intro s' u hu
   simp only [bindV, look] at hu
   split at hu
   ·rename_i hbq
    have := Nat.eq_of_beq_eq_true hbq; subst this
    simp only [Option.some.injEq] at hu; subst hu
    exact hr s v hv
   ·exact hb e he s' u hu
  ·exact h.elim

theorem keepE_rel {drop : List Nat} {e : VEnv} {t t' : Array Value} (hr : Rel e t) (hf : ∀ s, memN s drop = false -> t'[s]? = t[s]?) : Rel (keepE drop e) t' := fun s v h => by
 obtain ⟨h1, h2⟩ := look_keepE h
 rw [hf s h1]; exact hr s v h2

def wpHead (ro : Option Nat) (P : Program) (c : Code) (Q : Exit -> Act -> World -> Prop) (a : Act) (w : World) : Prop :=
 ∀ (b : Frame) (k : List Item) (cs : List Frame), b.roundOf = (WF ro).round -> (WF ro).fn b.fn -> (WF ro).room (cs.length + 1 + 0) ->
  ∃ e a' w', Q e a' w' /\ ArrivesIn (Machine.fenced P (WF ro)) P (lone (b.atR a (.code c :: .inLoop c :: k)) cs w) b k cs e a' w'

theorem loop_of_head {ro : Option Nat} {c : Code} {Q : Exit -> Act -> World -> Prop} {a : Act} {w : World} (h : wpHead ro P c Q a w) : (Code.loop c).wpIn (WF ro) 0 P Q a w := by
 intro b k cs hro hb hr
 obtain ⟨e, a', w', hq, harr⟩ := h b k cs hro hb hr
 exact ⟨e, a', w', hq, .of_steps (.one (fenced_calm hb hr rfl) stepR_loop) harr⟩

theorem head_of_round {ro : Option Nat} {c : Code} {Q : Exit -> Act -> World -> Prop} {a : Act} {w : World}
  (h : c.wpIn (WF ro) 0 P (Exit.then (wpHead ro P c Q) Q) a w) : wpHead ro P c Q a w := by
 intro b k cs hro hb hr
 obtain ⟨e, a₁, w₁, hq, harr⟩ := h b (.inLoop c :: k) cs hro hb hr
 cases e with
 | normal =>
  obtain ⟨e₂, a₂, w₂, hq₂, harr₂⟩ := hq b k cs hro hb hr
  exact ⟨e₂, a₂, w₂, hq₂, .of_steps (StepsIn.trans harr (.one (fenced_calm hb hr rfl) stepR_inLoop)) harr₂⟩
 | exit id => exact ⟨_, a₁, w₁, hq, .pass (x := .inLoop c) rfl (fun _ _ => .inl (by simp)) harr⟩
 | goto l => exact ⟨_, a₁, w₁, hq, .pass (x := .inLoop c) rfl (fun _ _ => .inl (by simp)) harr⟩
 | ret => exact ⟨_, a₁, w₁, hq, .pass (x := .inLoop c) rfl (fun _ _ => .inl (by simp)) harr⟩
 | panic ch => exact ⟨_, a₁, w₁, hq, .pass (x := .inLoop c) rfl (fun _ _ => .inl (by simp)) harr⟩
 | outgrown => exact ⟨_, a₁, w₁, hq, .pass (x := .inLoop c) rfl (fun _ _ => .inl (by simp)) harr⟩

theorem rel_zip {n : Nat} : ∀ (ps : List Nat) (x : Vals ps) {e : VEnv} {t : Array Value}, Rel e t -> t.size = n -> ltAll n ps = true ->
  Rel (zipV ps x e) ((ps.zip (listV ps x)).foldl (fun t (x : Nat × Value) => t.setIfInBounds x.1 x.2) t) /\ ((ps.zip (listV ps x)).foldl (fun t (x : Nat × Value) => t.setIfInBounds x.1 x.2) t).size = n
 | [], x, e, t, hr, hn, _ => ⟨hr, hn⟩
 | s :: ps, x, e, t, hr, hn, hl => by
  simp only [ltAll, Bool.and_eq_true] at hl
  have := hr.put (dst := some s) (v := x.1) (by rw [hn]; exact hl.1)
  simp only [zipV, listV, List.zip_cons_cons, List.foldl_cons]
  exact rel_zip ps x.2 this (by simpa using hn) hl.2

theorem listV_length : ∀ (l : List Nat) (x : Vals l), (listV l x).length = l.length
 | [], _ => rfl
 | _ :: r, x => by simp [listV, listV_length r x.2]

theorem lookK_mem {F : Nat -> Heap -> Prop} : ∀ {l : List Nat} {id : Nat} {h : Heap}, lookK (l.map fun i => (i, F i)) id h -> F id h
 | i :: l, id, h, hk => by
  simp only [List.map_cons, lookK] at hk
  split at hk
  ·rename_i hb; have := Nat.eq_of_beq_eq_true hb; subst this; exact hk
  ·exact lookK_mem hk

theorem rdS_getLoop {h : Heap} {l : Nat} {L : Loop} (hl : h[l]? = some (.loop L)) : rdS P (Instr.getLoop l) h = some L := by
 unfold Instr.getLoop
 rw [rdS_bind (a := .loop L) (by simp [getObj, rdS, hl])]; rfl

theorem wpS_setLoop {h : Heap} {l : Nat} {L : Loop} {o : Obj} {K : Unit -> Heap -> Prop} (hl : h[l]? = some (.loop L)) (hk : K () (h.setIfInBounds l o)) : wpS P (setObj l o) h K := by
 simp [setObj, wpS, hl]; exact hk

theorem begin_wp {h : Heap} {l : Nat} {L : Loop} {p : Option Code} {K : Unit -> Heap -> Prop} (hl : h[l]? = some (lo L .ready p)) (hk : K () (h.setIfInBounds l (lo L .busy p))) :
  wpS P (Instr.beginRound l) h K := by
 unfold Instr.beginRound
 refine wpS_rd (rdS_getLoop hl) ?_
 refine wpS_bind (wpS_setLoop hl ?_)
 exact hk

theorem endRound_wp {h : Heap} {l : Nat} {L : Loop} {p : Option Code} {jump : Option Code} {K : KT} (hl : h[l]? = some (lo L .busy p))
  (hk : K (.bool jump.isNone) (h.setIfInBounds l (lo L (if jump.isNone then .ready else .done) jump))) : wpS P (Instr.endRound l jump) h K := by
 unfold Instr.endRound
 refine wpS_rd (rdS_getLoop hl) ?_
 refine wpS_bind (wpS_setLoop hl ?_)
 exact hk

theorem endLoop_wp {h : Heap} {l : Nat} {L : Loop} {st : LoopState} {p : Option Code} {K : Option Code -> Heap -> Prop} (hl : h[l]? = some (lo L st p)) (hs : st ≠ .busy)
  (hk : K p (h.setIfInBounds l (lo L .exhausted p))) : wpS P (Instr.endLoop l) h K := by
 unfold Instr.endLoop
 refine wpS_rd (rdS_getLoop hl) ?_
 have : ((({ L with state := st, pending := p } : Loop).state == .busy) = true) = False := by
  simp [hs]
 rw [if_neg (by rw [this]; exact id)]
 refine wpS_bind (wpS_setLoop hl ?_)
 exact hk

theorem wpIn_scope {F : Fence} {n : Nat} {c : Code} {a : Act} {w : World} {Q : Exit -> Act -> World -> Prop} (h : c.wpIn F n P (noJump Q) a w) : (Code.scope c).wpIn F n P Q a w := by
 intro b k cs hro hb hr
 have h0 : (lone (b.atR a (.code (.scope c) :: k)) cs w).fenced P F := fenced_calm hb hr rfl
 obtain ⟨e, a₁, w₁, hq, harr⟩ := h b (.inScope c :: k) cs hro hb hr
 cases e with
 | normal => exact ⟨.normal, a₁, w₁, hq, .head h0 stepR_scope (StepsIn.trans harr (.one (fenced_calm hb hr rfl) stepR_inScope))⟩
 | exit id' =>
  have hx : exitTo id' (.inScope c :: k) = exitTo id' k := by simp [exitTo]
  exact ⟨.exit id', a₁, w₁, hq, fun k' hk => .head h0 stepR_scope (harr.1 k' (by rw [hx]; exact hk)),
   fun hr' hk => let ⟨k₁, h1, h2⟩ := harr.2 hr' (by rw [hx]; exact hk); ⟨k₁, h1, .head h0 stepR_scope h2⟩⟩
 | goto l => exact hq.elim
 | ret => exact ⟨_, a₁, w₁, hq, .of_steps (.one h0 stepR_scope) harr⟩
 | panic ch => exact ⟨_, a₁, w₁, hq, .of_steps (.one h0 stepR_scope) harr⟩
 | outgrown => exact ⟨_, a₁, w₁, hq, .of_steps (.one h0 stepR_scope) harr⟩

theorem compile_sound {n : Nat} : ∀ (c : Code) (ann : Ann) (ro : Option Nat) (e : VEnv) (m : List Nat) (h : Heap) (K : Exit -> VEnv -> List Nat -> Heap -> Prop),
  compile P n ro.isSome c ann e m h K -> (P.follows .mixedOrders = true) -> ∀ (ds : List Deferred) (a : Act) (w : World) (Q : Exit -> Act -> World -> Prop), Rel e a.tmps -> a.tmps.size = n -> a.defers = marks m ++ ds -> w.heap = h ->
  (∀ ex e' m' a' w', Rel e' a'.tmps -> a'.tmps.size = n -> a'.defers = marks m' ++ ds -> Same w w' -> (noRange c = true -> m' = m) -> FrW c a.tmps a'.tmps -> K ex e' m' w'.heap -> Q ex a' w') ->
  c.wpIn (WF ro) 0 P Q a w := by
 intro c
 induction c with
 | skip => intro ann ro e m h K hc hf ds a w Q hr hn hd hw hq; subst hw; exact wpIn_skip (hq _ _ _ _ _ hr hn hd (.refl _) (fun _ => rfl) (fun _ _ => rfl) hc)
 | label l => intro ann ro e m h K hc hf ds a w Q hr hn hd hw hq; subst hw; exact wpIn_label (hq _ _ _ _ _ hr hn hd (.refl _) (fun _ => rfl) (fun _ _ => rfl) hc)
 | ret => intro ann ro e m h K hc hf ds a w Q hr hn hd hw hq; subst hw; exact wpIn_ret (hq _ _ _ _ _ hr hn hd (.refl _) (fun _ => rfl) (fun _ _ => rfl) hc)
 | exit id => intro ann ro e m h K hc hf ds a w Q hr hn hd hw hq; subst hw; exact wpIn_exit (hq _ _ _ _ _ hr hn hd (.refl _) (fun _ => rfl) (fun _ _ => rfl) hc)
 | goto l => intro ann ro e m h K hc; exact hc.elim
 | scope x ih =>
  intro ann ro e m h K hc hf ds a w Q hr hn hd hw hq
  cases ann <;> try exact hc.elim
  rename_i ax
  refine wpIn_scope (ih ax ro e m h _ hc hf ds a w _ hr hn hd hw ?_)
  intro ex e' m' a' w' hr' hn' hd' hs' hnr hfr hk
  have post : ∀ ex', K ex' e' m' w'.heap -> Q ex' a' w' := fun ex' hk' =>
   hq ex' e' m' a' w' hr' hn' hd' hs' (fun h => hnr h) (fun s hs => hfr s hs) hk'
  cases ex with
  | exit id' => exact post _ hk
  | normal => exact post _ hk
  | goto l => exact hk.elim
  | ret => exact post _ hk
  | panic ch => exact post _ hk
  | outgrown => exact post _ hk
 | refuse why => intro ann ro e m h K hc; exact hc.elim
 | seq x y ihx ihy =>
  intro ann ro e m h K hc hf ds a w Q hr hn hd hw hq
  cases ann <;> try exact hc.elim
  ·rename_i ax ay
   refine wpIn_seq (ihx ax ro e m h _ hc hf ds a w _ hr hn hd hw ?_)
   intro ex e' m' a' w' hr' hn' hd' hs' hnr hfr hk
   have post : ∀ ex', K ex' e' m' w'.heap -> (∀ (h : ex' = .normal), False) -> Q ex' a' w' := by
    intro ex' hk' _
    refine hq ex' e' m' a' w' hr' hn' hd' hs' ?_ ?_ hk'
    ·intro h; simp only [noRange, Bool.and_eq_true] at h; exact hnr h.1
    ·intro s hs; simp only [writes, memN_append, Bool.or_eq_false_iff] at hs; exact hfr s hs.1
   cases ex with
   | normal =>
    refine ihy ay ro e' m' w'.heap K hk hf ds a' w' Q hr' hn' hd' rfl ?_
    intro ex2 e2 m2 a2 w2 hr2 hn2 hd2 hs2 hnr2 hfr2 hk2
    refine hq ex2 e2 m2 a2 w2 hr2 hn2 hd2 (hs'.trans hs2) ?_ ?_ hk2
    ·intro h; simp only [noRange, Bool.and_eq_true] at h; rw [hnr2 h.2, hnr h.1]
    ·intro s hs; simp only [writes, memN_append, Bool.or_eq_false_iff] at hs; rw [hfr2 s hs.2, hfr s hs.1]
   | exit id => exact post _ hk (by simp)
   | goto l => exact post _ hk (by simp)
   | ret => exact post _ hk (by simp)
   | panic ch => exact post _ hk (by simp)
   | outgrown => exact post _ hk (by simp)
  ·rename_i slots ax ay
   simp only [compile] at hc
   split at hc
   ·rename_i hno
    refine wpIn_seq (ihx ax ro e m h _ hc hf ds a w _ hr hn hd hw ?_)
    intro ex e' m' a' w' hr' hn' hd' hs' hnr hfr hk
    have hm2 : m' = m := hnr hno
    subst hm2
    have post : ∀ ex', K ex' e' m' w'.heap -> Q ex' a' w' := by
     intro ex' hk'
     refine hq ex' e' m' a' w' hr' hn' hd' hs' (fun _ => rfl) ?_ hk'
     intro s hs; simp only [writes, memN_append, Bool.or_eq_false_iff] at hs; exact hfr s hs.1
    cases ex with
    | normal =>
     obtain ⟨v, hB, hbind⟩ := takeV_bind hr' hk
     refine ihy ay ro _ m' w'.heap K hB hf ds a' w' Q (hbind _ (keepE_rel hr fun s hs => ?_)) hn' hd' rfl ?_
     ·rw [memN_append, Bool.or_eq_false_iff] at hs
      exact hfr s hs.2
     ·intro ex2 e2 m2 a2 w2 hr2 hn2 hd2 hs2 hnr2 hfr2 hk2
      refine hq ex2 e2 m2 a2 w2 hr2 hn2 hd2 (hs'.trans hs2) ?_ ?_ hk2
      ·intro h; simp only [noRange, Bool.and_eq_true] at h; exact hnr2 h.2
      ·intro s hs; simp only [writes, memN_append, Bool.or_eq_false_iff] at hs; rw [hfr2 s hs.2, hfr s hs.1]
    | exit id => exact post _ hk
    | goto l => exact post _ hk
    | ret => exact post _ hk
    | panic ch => exact post _ hk
    | outgrown => exact post _ hk
   ·exact hc.elim
 | cond c x y ihx ihy =>
  intro ann ro e m h K hc hf ds a w Q hr hn hd hw hq
  cases ann <;> try exact hc.elim
  rename_i ax ay
  simp only [compile] at hc
  split at hc
  ·rename_i hk
   have he : a.eval c = ev e c := by rw [eval_evA, hr.ev hk]
   unfold ifV at hc
   split at hc
   ·rename_i hv
    refine wpIn_cond_true (he.trans hv) (ihx ax ro e m h K hc hf ds a w Q hr hn hd hw ?_)
    intro ex e' m' a' w' hr' hn' hd' hs' hnr hfr hk'
    refine hq ex e' m' a' w' hr' hn' hd' hs' ?_ ?_ hk'
    ·intro h; simp only [noRange, Bool.and_eq_true] at h; exact hnr h.1
    ·intro s hs; simp only [writes, memN_append, Bool.or_eq_false_iff] at hs; exact hfr s hs.1
   ·rename_i hv
    refine wpIn_cond_false (he.trans hv) (ihy ay ro e m h K hc hf ds a w Q hr hn hd hw ?_)
    intro ex e' m' a' w' hr' hn' hd' hs' hnr hfr hk'
    refine hq ex e' m' a' w' hr' hn' hd' hs' ?_ ?_ hk'
    ·intro h; simp only [noRange, Bool.and_eq_true] at h; exact hnr h.2
    ·intro s hs; simp only [writes, memN_append, Bool.or_eq_false_iff] at hs; exact hfr s hs.2
   ·exact hc.elim
  ·exact hc.elim
 | block id x ih =>
  intro ann ro e m h K hc hf ds a w Q hr hn hd hw hq
  cases ann <;> try exact hc.elim
  rename_i ax
  refine wpIn_block (ih ax ro e m h _ hc hf ds a w _ hr hn hd hw ?_)
  intro ex e' m' a' w' hr' hn' hd' hs' hnr hfr hk
  have post : ∀ ex', K ex' e' m' w'.heap -> Q ex' a' w' := fun ex' hk' =>
   hq ex' e' m' a' w' hr' hn' hd' hs' (fun h => hnr h) (fun s hs => hfr s hs) hk'
  cases ex with
  | exit id' =>
   dsimp only at hk
   show if id' = id then Q .normal a' w' else Q (.exit id') a' w'
   split at hk
   ·rename_i hb; rw [if_pos (Nat.eq_of_beq_eq_true hb)]; exact post _ hk
   ·rename_i hb; rw [if_neg (fun h => by subst h; simp at hb)]; exact post _ hk
  | normal => exact post _ hk
  | goto l => exact post _ hk
  | ret => exact post _ hk
  | panic ch => exact post _ hk
  | outgrown => exact post _ hk
 | region id ops draw =>
  intro ann ro e m h K hc hf ds a w Q hr hn hd hw hq
  subst hw
  simp only [compile] at hc
  split at hc
  ·rename_i hpl
   have hp := allPlain_of hpl
   have fin : ∀ {a' : Act} {w' : World}, a'.defers = a.defers -> Same w w' -> (Fr ops a.tmps a'.tmps /\ ∃ e', Rel e' a'.tmps /\ K .normal e' m w'.heap) -> Q .normal a' w' := by
    rintro a' w' hd' hs' ⟨hfr, e', hr', hk⟩
    refine hq _ e' m a' w' hr' (hfr.1.trans hn) (hd'.trans hd) hs' (fun _ => rfl) ?_ hk
    intro s hs
    refine hfr.2 s fun i hi => ?_
    unfold dstOf at hi
    cases ho : ops[i]? with
    | none => rw [ho] at hi; cases hi
    | some o =>
     rw [ho] at hi
     exact memN_dsts _ hs o (List.mem_of_getElem? (by simpa using ho)) hi
   split at hc
   ·refine wpIn_region ?_
    have := cSeq_sound (P := P) (ops := ops) ops.toList 0 (by simp) hr hn hc
    rw [List.drop_zero] at this
    exact opsA_sound hp _ a w this fun a' w' hd' hs' hk => fin hd' hs' hk
   ·split at hc
    ·rename_i hok
     simp only [drawOK, Bool.and_eq_true] at hok
     have hl : LR ops 0 (Array.replicate ops.size false) := ⟨by simp, fun j => by
      simp only [Array.getD_eq_getD_getElem?, Array.getElem?_replicate, Nat.zero_testBit]; split <;> rfl⟩
     have hrw := cDrawn_sound (P := P) (n := n) (ancs := ancList ops.toList []) (HA := []) ops.size hl (by intro x hx; cases hx) (by intro x hx; cases hx) hr hn (Fr.refl (ops := ops) a.tmps) hc
     have hcl : Closed ops (ancList ops.toList []) (Array.replicate ops.size false) := ⟨by simp, fun i c hi => by
      simp only [Array.getD_eq_getD_getElem?, Array.getElem?_replicate] at hi; split at hi <;> simp at hi⟩
     have hany := anyA_of_RW hok.1 (apartOK_of hok.2) hp _ hcl hrw
     refine wpIn_region_any hf ?_
     refine anyA_sound hp _ _ a { w with drawn := w.drawn + 1 } hany ?_
     rintro a' w' hd' hs' hk
     exact fin hd' ⟨hs'.os, hs'.output, hs'.tape, Nat.le_trans (Nat.le_succ _) hs'.drawn⟩ hk
    ·exact hc.elim
  ·exact hc.elim
 | loop x ih =>
  intro ann ro e m h K hc hf ds a w Q hr hn hd hw hq
  cases ann <;> try exact hc.elim
  rename_i slots ax
  simp only [compile] at hc
  refine loop_of_head ?_
  split at hc
  ·rename_i hno
   obtain ⟨x0, hL, hbind⟩ := takeV_bind hr hc
   have key := hL (fun v h => ∀ (a' : Act) (w' : World), Rel (bindV slots v (keepE (slots ++ writes x) e)) a'.tmps -> a'.tmps.size = n -> a'.defers = marks m ++ ds -> w'.heap = h -> Same w w' ->
     FrW x a.tmps a'.tmps -> wpHead ro P x Q a' w') ?_
   ·exact key a w (hbind _ (keepE_rel hr fun _ _ => rfl)) hn hd hw (.refl _) (fun _ _ => rfl)
   ·intro v h' hB a' w' hr' hn' hd' hw' hs' hfr'
    refine head_of_round (ih ax ro _ m h' _ hB hf ds a' w' _ hr' hn' hd' hw' ?_)
    intro ex e2 m2 a2 w2 hr2 hn2 hd2 hs2 hnr2 hfr2 hk2
    have hm2 : m2 = m := hnr2 hno
    subst hm2
    have hfr : FrW x a.tmps a2.tmps := fun s hs => by rw [hfr2 s hs, hfr' s hs]
    have post : ∀ ex', K ex' e2 m2 w2.heap -> Q ex' a2 w2 := fun ex' hk' => hq ex' e2 m2 a2 w2 hr2 hn2 hd2 (hs'.trans hs2) (fun _ => rfl) hfr hk'
    cases ex with
    | normal =>
     obtain ⟨v', hZ, hbind'⟩ := takeV_bind hr2 hk2
     refine hZ a2 w2 (hbind' _ (keepE_rel hr fun s hs => ?_)) hn2 hd2 rfl (hs'.trans hs2) hfr
     rw [memN_append, Bool.or_eq_false_iff] at hs
     exact hfr s hs.2
    | exit id => exact post _ hk2
    | goto l => exact post _ hk2
    | ret => exact post _ hk2
    | panic ch => exact post _ hk2
    | outgrown => exact post _ hk2
  ·rename_i hno
   obtain ⟨x0, hL, hbind⟩ := takeV_bind hr hc
   have key := hL (fun v h => ∀ (a' : Act) (w' : World), Rel (bindV slots v.2 (keepE (slots ++ writes x) e)) a'.tmps -> a'.tmps.size = n -> a'.defers = marks v.1 ++ ds -> w'.heap = h -> Same w w' ->
     FrW x a.tmps a'.tmps -> wpHead ro P x Q a' w') ?_
   ·exact key a w (hbind _ (keepE_rel hr fun _ _ => rfl)) hn hd hw (.refl _) (fun _ _ => rfl)
   ·intro v h' hB a' w' hr' hn' hd' hw' hs' hfr'
    refine head_of_round (ih ax ro _ v.1 h' _ hB hf ds a' w' _ hr' hn' hd' hw' ?_)
    intro ex e2 m2 a2 w2 hr2 hn2 hd2 hs2 hnr2 hfr2 hk2
    have hfr : FrW x a.tmps a2.tmps := fun s hs => by rw [hfr2 s hs, hfr' s hs]
    have post : ∀ ex', K ex' e2 m2 w2.heap -> Q ex' a2 w2 := fun ex' hk' => hq ex' e2 m2 a2 w2 hr2 hn2 hd2 (hs'.trans hs2) (fun h => by simp only [noRange] at h; rw [h] at hno; cases hno) hfr hk'
    cases ex with
    | normal =>
     obtain ⟨v', hZ, hbind'⟩ := takeV_bind hr2 hk2
     refine hZ a2 w2 (hbind' _ (keepE_rel hr fun s hs => ?_)) hn2 hd2 rfl (hs'.trans hs2) hfr
     rw [memN_append, Bool.or_eq_false_iff] at hs
     exact hfr s hs.2
    | exit id => exact post _ hk2
    | goto l => exact post _ hk2
    | ret => exact post _ hk2
    | panic ch => exact post _ hk2
    | outgrown => exact post _ hk2
 | rangeFunc f params assign body iha ihb =>
  intro ann ro e m h K hc hf ds a w Q hr hn hd hw hq
  subst hw
  cases ann <;> try exact hc.elim
  rename_i ax ay
  simp only [compile] at hc
  split at hc
  ·rename_i hk
   split at hc
   ·rename_i hro
    split at hc
    ·rename_i hlt
     have hro' : ro = none := by cases ro <;> simp_all
     subst hro'
     have he : a.eval f = ev e f := by rw [eval_evA, hr.ev hk]
     refine wpIn_rangeFunc fun fnid _ => ?_
     let D := w.heap.size
     let l := w.heap.size + 1
     let L : Loop := { state := .ready, pending := none, fn := fnid, tmps := a.tmps, params, assign, body, defers := D }
     let w1 : World := { w with heap := (w.heap.push (.deferred (some []))).push (.loop L) }
     have hL := hc L ?_
     ·unfold callF at hL
      split at hL
      ·rename_i g first captured hfv
       refine ⟨l, [{ target := .collected D, args := #[] }], w1, { target := .fn (.func g) captured, args := first ++ #[yieldV l] }, w1, g, first ++ #[yieldV l] ++ captured, w1, ?_, ?_, ?_, ?_, ?_, ?_⟩
       ·simp only [Instr.enterLoop, newObj, bind, Sem.bind, pure, Sem.run, WF]
        show Result.ok _ _ = Result.ok _ _
        simp [l, D, w1, L]
       ·unfold resolve
        simp only [he, hfv]
        simp [Deferred.ofValue, Act.eval, yieldV, pure]
       ·intro f' _; exact WF_fn none f'
       ·have := wpS_run (callFunc_wp (K := fun _ _ => True) (hL.mono fun _ _ _ => trivial)) w1 (by simp [w1, lo, L, D])
        obtain ⟨hcb, hcw⟩ := hL
        unfold Callable at hcb
        split at hcb
        ·rename_i fn hfn
         simp only [Bool.and_eq_true, Bool.not_eq_true', beq_eq_false_iff_ne, ne_eq] at hcb
         have hb : fn.body.isNone = false := by cases hx : fn.body <;> simp_all
         show Sem.run P (callFunc g (first ++ #[yieldV l] ++ captured)) w1 = _
         unfold callFunc
         simp only [program, bind, Sem.bind, Sem.run, hfn, hb]
         rw [if_neg (by simpa using hcb.2)]
         rfl
        ·cases hcb
       ·intro h; simp [WF_depth] at h
       ·refine WF_calls ((hL.2 w1 (by simp [w1, lo, L, D])).mono ?_)
        rintro e' w3 ⟨v, rfl, hs3, st, p, hst, hl3, hj⟩
        have hs3 : Same w w3 := ⟨hs3.os, hs3.output, hs3.tape, hs3.drawn⟩
        obtain ⟨jump, w4, hrun, hs4, hjp, hh4⟩ := wpS_run (endLoop_wp (P := P) (K := fun j h' => j = p /\ h' = w3.heap.setIfInBounds l (lo L .exhausted p)) hl3 hst ⟨rfl, rfl⟩) w3 rfl
        subst hjp
        refine ⟨jump, w4, hrun, ?_⟩
        have post : ∀ ex, K ex e (D :: m) w4.heap -> Q ex { a with defers := [{ target := .collected D, args := #[] }] ++ a.defers } w4 := fun ex hk' =>
         hq ex e (D :: m) { a with defers := [{ target := .collected D, args := #[] }] ++ a.defers } w4 hr hn (by simp [hd, marks]) (hs3.trans hs4) (fun h => by simp [noRange] at h) (fun _ _ => rfl) hk'
        rw [<- hh4] at hj
        cases jump with
        | none => exact post _ hj
        | some cj =>
         cases cj <;> try exact hj.elim
         ·exact wpIn_exit (post _ (lookK_mem (F := fun id h' => K (.exit id) e (D :: m) h') hj))
         ·exact wpIn_ret (post _ hj)
      ·exact hL.elim
     ·intro args h' R st p hl' hB
      have hlen := listV_length params.toList args
      show YieldH P l (#[] ++ (listV params.toList args).toArray) h' R
      unfold YieldH
      rw [hl']
      dsimp only [lo]
      refine ⟨by simp [hlen, L], ?_⟩
      intro w2 hw2
      have hrel := rel_zip (n := n) params.toList args hr hn hlt
      have htm : (L.params.zip (#[] ++ (listV params.toList args).toArray)).foldl (fun tmps (x : Nat × Value) => tmps.setIfInBounds x.1 x.2) L.tmps =
        (params.toList.zip (listV params.toList args)).foldl (fun t (x : Nat × Value) => t.setIfInBounds x.1 x.2) a.tmps := by
       simp only [L]
       rw [<- Array.foldl_toList, Array.toList_zip]
       simp
      have goal : assign.wpIn (WF (some l)) 0 P (Exit.then (fun a₁ w₁ => ∃ w₂, (Instr.beginRound l).run P w₁ = .ok () w₂ /\
        body.wpIn (WF (some l)) 0 P (roundPost P l fun e' w' => ∃ v, e' = .returned v /\ Same w2 w' /\ R v w'.heap) a₁ w₂) (fun _ _ _ => False))
        { tmps := (L.params.zip (#[] ++ (listV params.toList args).toArray)).foldl (fun tmps (x : Nat × Value) => tmps.setIfInBounds x.1 x.2) L.tmps, defers := [] } w2 := by
       rw [htm]
       refine iha ax (some l) (zipV params.toList args e) [] h' _ hB hf [] _ w2 _ hrel.1 hrel.2 rfl hw2 ?_
       intro ex e1 m1 a1 w1' hr1 hn1 hd1 hs1 hnr1 hfr1 hk1
       cases ex <;> try exact hk1.elim
       obtain ⟨p', hp', hk1⟩ := hk1
       obtain ⟨_, w3, hrun, hs3, hh3⟩ := wpS_run (begin_wp (P := P) (K := fun _ h' => h' = w1'.heap.setIfInBounds l (lo L .busy p')) hp' rfl) w1' rfl
       refine ⟨w3, hrun, ?_⟩
       refine ihb ay (some l) e1 m1 _ _ hk1 hf [] a1 w3 _ hr1 hn1 hd1 hh3 ?_
       intro ex' e2 m2 a2 w4 hr2 hn2 hd2 hs4 hnr2 hfr2 hk2
       obtain ⟨p2, hp2, hk2⟩ := hk2
       have hsame : Same w2 w4 := (hs1.trans hs3).trans hs4
       have step : ∀ (jump : Option Code), R (.bool jump.isNone) (w4.heap.setIfInBounds l (lo L (if jump.isNone then .ready else .done) jump)) ->
         ∃ v w', (Instr.endRound l jump).run P w4 = .ok v w' /\ ∃ v', Ending.returned v = .returned v' /\ Same w2 w' /\ R v' w'.heap := by
        intro jump hR
        obtain ⟨v, w5, hrun5, hs5, hR5⟩ := wpS_run (endRound_wp (P := P) (jump := jump) (K := R) hp2 hR) w4 rfl
        exact ⟨v, w5, hrun5, v, rfl, hsame.trans hs5, hR5⟩
       cases ex' <;> try exact hk2.elim
       ·exact step none hk2
       ·exact step (some (.exit _)) hk2
       ·exact step (some .ret) hk2
      have := roundIn_of_wpIn (F := Fence.wide) (n := 0) (P := P) (l := l) (f := L.fn) (w := w2) (R := fun e' w' => ∃ v, e' = .returned v /\ Same w2 w' /\ R v w'.heap) trivial goal
      exact this
    ·exact hc.elim
   ·exact hc.elim
  ·exact hc.elim

end
open Go

def takeM : List Nat -> Heap -> (Heap -> Prop) -> Prop
 | [], h, K => K h
 | D :: r, h, K => h[D]? = some (.deferred (some [])) /\ takeM r (h.setIfInBounds D (.deferred none)) K

def resQ (P : Program) (e : VEnv) (h : Heap) : List ResultVar -> (List Value -> Prop) -> Prop
 | [], K => K []
 | .tmp t :: r, K => (match look e t with
  | some v => resQ P e h r fun l => K (v :: l)
  | none => False)
 | .cell a t :: r, K => (match look e a with
  | some p => (match P.underlying t, P.info? t with
   | some d, some i => (match isAggD d with
    | true => pLoadN i.size h p fun v => resQ P e h r fun l => K (v :: l)
    | false => pLoad h p fun v => resQ P e h r fun l => K (v :: l))
   | _, _ => False)
  | none => False)

def oneOr : List Value -> Value
 | [v] => v
 | l => .tuple l.toArray

def fnPost (P : Program) (rs : List ResultVar) (K : KT) : Exit -> VEnv -> List Nat -> Heap -> Prop
 | .normal, e, m, h | .ret, e, m, h => takeM m h fun h' => resQ P e h' rs fun l => K (oneOr l) h'
 | _, _, _, _ => False

def argE : List Value -> Nat -> VEnv
 | [], _ => []
 | v :: r, i => (i, v) :: argE r (i + 1)

section
variable {P : Program}

theorem look_argE : ∀ {args : List Value} {i s : Nat} {v : Value}, look (argE args i) s = some v -> i <= s /\ args[s - i]? = some v
 | u :: args, i, s, v, h => by
  simp only [argE, look] at h
  split at h
  ·rename_i hb
   have := Nat.eq_of_beq_eq_true hb; subst this
   exact ⟨Nat.le_refl _, by simpa using h⟩
  ·obtain ⟨h1, h2⟩ := look_argE h
   refine ⟨by omega, ?_⟩
   rw [show s - i = (s - (i + 1)) + 1 by omega]; simpa using h2

theorem loadVar_wp {t : TypeId} {d : TypeDesc} {i : TypeInfo} {p : Value} {h : Heap} {K : Value -> Prop} (hd : P.underlying t = some d) (hi : P.info? t = some i)
  (hq : match isAggD d with
   | true => pLoadN i.size h p K
   | false => pLoad h p K) : ∃ v, rdS P (do loadVar t (<- asAddr p)) h = some v /\ K v := by
 obtain ⟨v, hv, hk⟩ := load_sound hd hi hq
 refine ⟨v, ?_, hk⟩
 have hp : ∃ a, p = .pointer (some a) := by
  cases hag : isAggD d <;> rw [hag] at hq <;> dsimp only at hq
  ·unfold pLoad at hq; split at hq
   ·exact ⟨_, rfl⟩
   ·exact hq.elim
  ·unfold pLoadN at hq; split at hq
   ·exact ⟨_, rfl⟩
   ·exact hq.elim
 obtain ⟨a, rfl⟩ := hp
 exact hv

theorem resQ_sound {e : VEnv} {t : Array Value} {h : Heap} (hr : Rel e t) : ∀ {rs : List ResultVar} {K : List Value -> Prop}, resQ P e h rs K ->
  ∃ l, rdS P (rs.mapM fun (r : ResultVar) => (match r with
   | .tmp s => pure (t.getD s undef)
   | .cell a ty => do loadVar ty (<- asAddr (t.getD a undef)) : Sem Value)) h = some l /\ l.length = rs.length /\ K l
 | [], K, hq => ⟨[], rfl, rfl, hq⟩
 | .tmp s :: r, K, hq => by
  simp only [resQ] at hq
  split at hq
  ·rename_i v hv
   obtain ⟨l, hl, hlen, hk⟩ := resQ_sound hr hq
   refine ⟨v :: l, ?_, by simp [hlen], hk⟩
   rw [List.mapM_cons]
   rw [rdS_bind (a := v) (by simp [hr s v hv, rdS, pure]), rdS_bind hl]; rfl
  ·exact hq.elim
 | .cell a ty :: r, K, hq => by
  simp only [resQ] at hq
  split at hq
  ·rename_i p hp
   split at hq
   ·rename_i d i hd hi
    have hq' : match isAggD d with
     | true => pLoadN i.size h p (fun v => resQ P e h r fun l => K (v :: l))
     | false => pLoad h p (fun v => resQ P e h r fun l => K (v :: l)) := hq
    obtain ⟨v, hv, hk⟩ := loadVar_wp hd hi hq'
    obtain ⟨l, hl, hlen, hk⟩ := resQ_sound hr hk
    refine ⟨v :: l, ?_, by simp [hlen], hk⟩
    rw [List.mapM_cons]
    have : t.getD a undef = p := by simp [hr a p hp]
    dsimp only
    rw [this, rdS_bind hv, rdS_bind hl]; rfl
   ·exact hq.elim
  ·exact hq.elim

theorem results_sound {fn : Func} {e : VEnv} {t : Array Value} {h : Heap} {K : List Value -> Prop} (hr : Rel e t) (hq : resQ P e h fn.results.toList K) :
  ∃ l, rdS P (results fn t) h = some (oneOr l) /\ K l := by
 obtain ⟨l, hl, hlen, hk⟩ := resQ_sound hr hq
 refine ⟨l, ?_, hk⟩
 unfold results
 have hm : rdS P (fn.results.mapM fun
   | .tmp s => pure (t.getD s undef)
   | .cell a ty => do loadVar ty (<- asAddr (t.getD a undef)) : Sem (Array Value)) h = some l.toArray := by
  rw [Array.mapM_eq_mapM_toList]
  have e : ∀ {α β : Type} (f : α -> β) (s : Sem α), (Functor.map f s : Sem β) = (s >>= fun a => pure (f a)) := fun f s => rfl
  rw [e]
  refine (rdS_bind ?_).trans rfl
  exact hl
 refine (rdS_bind hm).trans ?_
 show some _ = some _
 congr 1
 split
 ·rename_i h1
  have h1' : l.length = 1 := by simpa using h1
  obtain ⟨v, rfl⟩ := List.length_eq_one_iff.1 h1'
  rfl
 ·rename_i h1
  have h1' : l.length ≠ 1 := by simpa using h1
  unfold oneOr
  split
  ·simp at h1'
  ·rfl

theorem leaves_of {fn : Func} {t : Array Value} {e : VEnv} {R : Ending -> World -> Prop} {K : KT} {w0 : World} (hr : Rel e t)
  (hR : ∀ v w, Same w0 w -> K v w.heap -> R (.returned v) w) : ∀ (m : List Nat) (w : World), Same w0 w -> takeM m w.heap (fun h' => resQ P e h' fn.results.toList fun l => K (oneOr l) h') ->
  LeavesInM Fence.wide 0 P fn t R (marks m) .returning w
 | [], w, hs, hq => by
  obtain ⟨l, hl, hk⟩ := results_sound hr hq
  exact ⟨_, rdS_run hl w rfl, hR _ _ hs hk⟩
 | D :: m, w, hs, hq => by
  obtain ⟨hD, hq⟩ := hq
  refine ⟨by simp, .inl ⟨D, { w with heap := w.heap.setIfInBounds D (.deferred none) }, rfl, ?_, leaves_of hr hR m _ ⟨hs.os, hs.output, hs.tape, hs.drawn⟩ hq⟩⟩
  simp [Instr.takeDeferred, getObj, setObj, bind, Sem.bind, Sem.run, hD, pure]

theorem callsW_of {f : FuncId} {fn : Func} {c : Code} {ann : Ann} {args : List Value} {h : Heap} {K : KT} (hf : P.funcs[f]? = some fn) (hb : fn.body = some c)
  (hm : P.follows .mixedOrders = true) (hlen : args.length <= fn.ntmps)
  (hc : compile P fn.ntmps false c ann (argE args 0) [] h (fnPost P fn.results.toList K)) : CallsW P f args.toArray h K := by
 intro w hw
 refine callsIn_of_wp_marks hf hb trivial ?_
 have hrel : Rel (argE args 0) (args.toArray ++ Array.replicate (fn.ntmps - args.toArray.size) undef) := by
  intro s v hs
  obtain ⟨_, h2⟩ := look_argE hs
  rw [Nat.sub_zero] at h2
  have hlt : s < args.length := (List.getElem?_eq_some_iff.1 h2).1
  rw [Array.getElem?_append_left (by simpa using hlt)]
  simpa using h2
 have hsz : (args.toArray ++ Array.replicate (fn.ntmps - args.toArray.size) undef).size = fn.ntmps := by simp; omega
 refine compile_sound c ann none _ [] h _ hc hm [] _ w _ hrel hsz rfl hw ?_
 intro ex e' m' a' w' hr' hn' hd' hs' _ _ hk
 have fin : takeM m' w'.heap (fun h' => resQ P e' h' fn.results.toList fun l => K (oneOr l) h') ->
   LeavesInM Fence.wide 0 P fn a'.tmps (fun e w' => ∃ v, e = .returned v /\ Same w w' /\ K v w'.heap) a'.defers .returning w' := by
  intro hk
  rw [hd', List.append_nil]
  exact leaves_of hr' (fun v w'' hs'' hk'' => ⟨v, rfl, hs'', hk''⟩) m' w' hs' hk
 cases ex <;> try exact hk.elim
 ·exact fin hk
 ·exact fin hk

theorem callsH_of {f : FuncId} {fn : Func} {c : Code} {ann : Ann} {args : List Value} {h : Heap} {K : KT} (hf : P.funcs[f]? = some fn) (hb : fn.body = some c)
  (hcal : Callable P f = true) (hm : P.follows .mixedOrders = true) (hlen : args.length <= fn.ntmps)
  (hc : compile P fn.ntmps false c ann (argE args 0) [] h (fnPost P fn.results.toList K)) : CallsH P f args.toArray h K :=
 ⟨hcal, callsW_of hf hb hm hlen hc⟩

theorem calls_of_H {f : FuncId} {args : Array Value} {w : World} {R : Ending -> World -> Prop} {K : KT} (hc : CallsH P f args w.heap K)
  (hk : ∀ v w', Same w w' -> K v w'.heap -> R (.returned v) w') : Calls P f args w R :=
 callsIn_wide.1 ((hc.2 w rfl).mono fun _ _ ⟨_, he, hs, hv⟩ => he ▸ hk _ _ hs hv)

end
open Go

def DeferS (P : Program) (f : FuncId) (args : Array Value) (h : Heap) (K : Heap -> Prop) : Prop :=
 Callable P f = true /\ ∀ w : World, w.heap = h -> CallsDIn Fence.wide 0 P f args .returning w fun e u w' => ∃ v, e = .returned v /\ u = .returning /\ Same w w' /\ K w'.heap

section
variable {P : Program}

theorem leaves_defer {fn : Func} {t : Array Value} {e : VEnv} {R : Ending -> World -> Prop} {K : KT} {w0 : World} {f : FuncId} {cap dargs : Array Value} (hr : Rel e t)
  (hR : ∀ v w, Same w0 w -> K v w.heap -> R (.returned v) w) : ∀ (m : List Nat) (w : World), Same w0 w ->
  takeM m w.heap (fun h' => DeferS P f (dargs ++ cap) h' fun h'' => resQ P e h'' fn.results.toList fun l => K (oneOr l) h'') ->
  LeavesInM Fence.wide 0 P fn t R (marks m ++ [{ target := .fn (.func f) cap, args := dargs }]) .returning w
 | [], w, hs, hq => by
  obtain ⟨hcal, hq⟩ := hq
  refine ⟨by simp, .inr ⟨(fun h => by cases h), .func f, cap, f, dargs ++ cap, rfl, ?_, fun _ _ => trivial, (hq w rfl).mono ?_⟩⟩
  ·show (callFunc f (dargs ++ cap)).run P w = _
   unfold Callable at hcal
   split at hcal
   ·rename_i fn' hfn
    simp only [Bool.and_eq_true, Bool.not_eq_true', beq_eq_false_iff_ne, ne_eq] at hcal
    have hb : fn'.body.isNone = false := by cases hx : fn'.body <;> simp_all
    have hrd : rdS P (callFunc f (dargs ++ cap)) w.heap = some (.enter f (dargs ++ cap)) := by
     unfold callFunc
     refine (rdS_bind (a := P) (by rfl)).trans ?_
     simp only [hfn, hb]
     rw [if_neg (by simpa using hcal.2)]
     rfl
    exact rdS_run hrd w rfl
   ·cases hcal
  ·rintro e' u w' ⟨v, rfl, rfl, hs', hk⟩
   exact leaves_of (K := K) hr hR [] w' (hs.trans hs') hk
 | D :: m, w, hs, hq => by
  obtain ⟨hD, hq⟩ := hq
  refine ⟨by simp, .inl ⟨D, { w with heap := w.heap.setIfInBounds D (.deferred none) }, rfl, ?_, leaves_defer hr hR m _ ⟨hs.os, hs.output, hs.tape, hs.drawn⟩ hq⟩⟩
  simp [Instr.takeDeferred, getObj, setObj, bind, Sem.bind, Sem.run, hD, pure]

theorem wpIn_defer {ro : Option Nat} {id : Nat} {o1 o2 : Oper} {s : Tmp} {f : FuncId} {caps : Array Operand} {c : Call} {a : Act} {w : World} {Q : Exit -> Act -> World -> Prop}
  (hro : ro = none) (h1 : o1.op = .makeFunc (.func f) #[] caps) (hd1 : o1.dst = some s) (hg1 : o1.guard = none) (h2 : o2.op = .defer c) (hc : c.callee = .value (.tmp s)) (hca : c.args = #[]) (hd2 : o2.dst = none) (hg2 : o2.guard = none)
  (hs : s < a.tmps.size)
  (hq : Q .normal { tmps := putA a.tmps (some s) (.func (.func f) #[] (caps.map (evA a.tmps))), defers := { target := .fn (.func f) (caps.map (evA a.tmps)), args := #[] } :: a.defers } w) :
  (Code.region id #[o1, o2] false).wpIn (WF ro) 0 P Q a w := by
 subst hro
 refine wpIn_region ?_
 show wpOpsIn (WF none) 0 P #[o1, o2] Q [0, 1] a w
 have w1 : ∀ t, Region.wanted o1 (yielded #[o1, o2] t) = true := fun t => by simp [Region.wanted, hg1]
 have w2 : ∀ t, Region.wanted o2 (yielded #[o1, o2] t) = true := fun t => by simp [Region.wanted, hg2]
 have g0 : (#[o1, o2] : Array Oper)[0]? = some o1 := rfl
 have g1 : (#[o1, o2] : Array Oper)[1]? = some o2 := rfl
 simp only [wpOpsIn, g0, g1, w1, w2, if_true]
 refine ⟨fun _ _ => trivial, ?_⟩
 have e1 : (o1.semAt (WF none).round a.eval).run P w = .ok (.value (.func (.func f) #[] (caps.map a.eval))) w := by
  show (execOp a.eval o1).run P w = _
  unfold execOp
  simp only [h1, show ∀ g : Operand -> Value, Array.map g #[] = #[] from fun g => by simp]
  rfl
 rw [e1]
 refine ⟨fun _ _ => trivial, ?_⟩
 have ev : (a.put o1.dst (.func (.func f) #[] (caps.map a.eval))).eval (.tmp s) = .func (.func f) #[] (caps.map a.eval) := by
  rw [hd1]
  simp [Act.put, Act.eval, hs]
 have e2 : (o2.semAt (WF none).round (a.put o1.dst (.func (.func f) #[] (caps.map a.eval))).eval).run P w = .ok (.defer { target := .fn (.func f) (caps.map a.eval), args := #[] }) w := by
  show (execOp _ o2).run P w = _
  unfold execOp
  simp only [h2, resolve, hc, hca, ev, show ∀ g : Operand -> Value, Array.map g #[] = #[] from fun g => by simp]
  rfl
 rw [e2]
 simp only [Oper.uponIn, hd2]
 have ee : (caps.map a.eval) = caps.map (evA a.tmps) := by
  congr 1
 rw [hd1, ee]
 exact hq

def deferPost (P : Program) (rs : List ResultVar) (f : FuncId) (args : Array Value) (K : KT) : Exit -> VEnv -> List Nat -> Heap -> Prop
 | .normal, e, m, h | .ret, e, m, h => takeM m h fun h' => DeferS P f args h' fun h'' => resQ P e h'' rs fun l => K (oneOr l) h''
 | _, _, _, _ => False

def thenDefer (P : Program) (n : Nat) (B : Code) (annB : Ann) (rs : List ResultVar) (s : Tmp) (f : FuncId) (caps : List Operand) (K : KT) : Exit -> VEnv -> List Nat -> Heap -> Prop
 | .normal, e, [], h => (match knownL e caps, Nat.blt s n with
  | true, true => compile P n false B annB ((s, .func (.func f) #[] (caps.map (ev e)).toArray) :: e) [] h (deferPost P rs f (caps.map (ev e)).toArray K)
  | _, _ => False)
 | _, _, _, _ => False

theorem callsH_defer {f g : FuncId} {fn : Func} {A B : Code} {annA annB : Ann} {id : Nat} {o1 o2 : Oper} {s : Tmp} {caps : Array Operand} {c : Call} {args : List Value} {h : Heap} {K : KT}
  (hf : P.funcs[f]? = some fn) (hb : fn.body = some (.seq A (.seq (.region id #[o1, o2] false) B))) (hcal : Callable P f = true) (hm : P.follows .mixedOrders = true) (hlen : args.length <= fn.ntmps)
  (h1 : o1.op = .makeFunc (.func g) #[] caps) (hd1 : o1.dst = some s) (hg1 : o1.guard = none) (h2 : o2.op = .defer c) (hc : c.callee = .value (.tmp s)) (hca : c.args = #[]) (hd2 : o2.dst = none) (hg2 : o2.guard = none)
  (hq : compile P fn.ntmps false A annA (argE args 0) [] h (thenDefer P fn.ntmps B annB fn.results.toList s g caps.toList K)) : CallsH P f args.toArray h K := by
 refine ⟨hcal, fun w hw => ?_⟩
 refine callsIn_of_wp_marks hf hb trivial ?_
 have hrel : Rel (argE args 0) (args.toArray ++ Array.replicate (fn.ntmps - args.toArray.size) undef) := by
  intro s v hs
  obtain ⟨_, h2⟩ := look_argE hs
  rw [Nat.sub_zero] at h2
  have hlt : s < args.length := (List.getElem?_eq_some_iff.1 h2).1
  rw [Array.getElem?_append_left (by simpa using hlt)]
  simpa using h2
 have hsz : (args.toArray ++ Array.replicate (fn.ntmps - args.toArray.size) undef).size = fn.ntmps := by simp; omega
 refine wpIn_seq ?_
 refine compile_sound A annA none _ [] h _ hq hm [] _ w _ hrel hsz rfl hw ?_
 intro ex e' m' a' w' hr' hn' hd' hs' _ _ hk
 cases ex <;> try exact hk.elim
 cases m' with
 | cons D m => exact hk.elim
 | nil =>
  obtain ⟨hkn, hsn, hk⟩ : knownL e' caps.toList = true /\ s < fn.ntmps /\ compile P fn.ntmps false B annB ((s, .func (.func g) #[] (caps.toList.map (ev e')).toArray) :: e') [] w'.heap (deferPost P fn.results.toList g (caps.toList.map (ev e')).toArray K) := by
   simp only [thenDefer] at hk
   split at hk
   ·rename_i h1 h2
    exact ⟨h1, Nat.le_of_ble_eq_true h2, hk⟩
   ·exact hk.elim
  have hd0 : a'.defers = [] := hd'
  show (Code.seq (.region id #[o1, o2] false) B).wpIn Fence.wide 0 P _ a' w'
  refine wpIn_seq ?_
  refine wpIn_defer (ro := none) rfl h1 hd1 hg1 h2 hc hca hd2 hg2 (by rw [hn']; exact hsn) ?_
  have hev : caps.map (evA a'.tmps) = (caps.toList.map (ev e')).toArray := by
   apply Array.ext'
   rw [Array.toList_map]
   apply List.map_congr_left
   intro x hx
   exact (hr'.ev (knownL_mem hkn x hx)).symm
  rw [hev, hd0]
  have hr2 : Rel ((s, .func (.func g) #[] (caps.toList.map (ev e')).toArray) :: e') (putA a'.tmps (some s) (.func (.func g) #[] (caps.toList.map (ev e')).toArray)) :=
   hr'.put (dst := some s) (by rw [hn']; simpa [dstOk] using hsn)
  refine compile_sound B annB none _ [] w'.heap _ hk hm [{ target := .fn (.func g) (caps.toList.map (ev e')).toArray, args := #[] }] _ w' _ hr2 (by rw [putA_size]; exact hn') rfl rfl ?_
  intro ex2 e2 m2 a2 w2 hr3 hn3 hd3 hs3 _ _ hk2
  have fin : takeM m2 w2.heap (fun h' => DeferS P g (caps.toList.map (ev e')).toArray h' fun h'' => resQ P e2 h'' fn.results.toList fun l => K (oneOr l) h'') ->
    LeavesInM Fence.wide 0 P fn a2.tmps (fun e w' => ∃ v, e = .returned v /\ Same w w' /\ K v w'.heap) a2.defers .returning w2 := by
   intro hk
   rw [hd3]
   refine leaves_defer (dargs := #[]) (w0 := w2) hr3 (fun v w'' hs'' hk'' => ⟨v, rfl, (hs'.trans hs3).trans hs'', hk''⟩) m2 w2 (.refl _) ?_
   simpa using hk
  cases ex2 <;> try exact hk2.elim
  ·exact fin hk2
  ·exact fin hk2

def cL : Code -> Code
 | .seq a _ => a
 | c => c
def cR : Code -> Code
 | .seq _ b => b
 | c => c
def cO (i : Nat) : Code -> Oper
 | .region _ ops _ => (match ops[i]? with
  | some o => o
  | none => ⟨none, .move (.const undef), 0, "", #[], none⟩)
 | _ => ⟨none, .move (.const undef), 0, "", #[], none⟩
def cId : Code -> Nat
 | .region id _ _ => id
 | _ => 0

end
open Go

def annG : Code -> Nat -> List (Nat × List Nat) -> Ann × Nat × List (Nat × List Nat)
 | .seq a b, i, [] => (match annG a (i + 1) [] with
  | (x, j, s1) => (match annG b j s1 with
   | (y, k, s2) => (.two x y, k, s2)))
 | .seq a b, i, (p, sl) :: s => (match Nat.beq i p with
  | true => (match annG a (i + 1) s with
   | (x, j, s1) => (match annG b j s1 with
    | (y, k, s2) => (.cut sl x y, k, s2)))
  | false => (match annG a (i + 1) ((p, sl) :: s) with
   | (x, j, s1) => (match annG b j s1 with
    | (y, k, s2) => (.two x y, k, s2))))
 | .cond _ a b, i, s => (match annG a i s with
  | (x, j, s1) => (match annG b j s1 with
   | (y, k, s2) => (.two x y, k, s2)))
 | .block _ a, i, s => (match annG a i s with
  | (x, j, s1) => (.one x, j, s1))
 | .scope a, i, s => (match annG a i s with
  | (x, j, s1) => (.one x, j, s1))
 | .loop a, i, (_, sl) :: s => (match annG a (i + 1) s with
  | (x, j, s1) => (.loop sl x, j, s1))
 | .rangeFunc _ _ a b, i, s => (match annG a i s with
  | (x, j, s1) => (match annG b j s1 with
   | (y, k, s2) => (.two x y, k, s2)))
 | _, i, s => (.leaf, i, s)

theorem cutP_of {σ : Type} {A : (σ -> Heap -> Prop) -> Prop} {B : σ -> Heap -> Prop} (Q : σ -> Heap -> Prop) (hA : ∀ J : σ -> Heap -> Prop, (∀ v h, Q v h -> J v h) -> A J) (hB : ∀ v h, Q v h -> B v h) : cutP A B := hA B hB

open Go

def upd (h : Heap) (b : Nat) (o : Obj) : Heap := h.setIfInBounds b o
theorem setIf_upd (h : Heap) (b : Nat) (o : Obj) : h.setIfInBounds b o = upd h b o := rfl

section
variable {h h' h1 h2 : Heap} {b c : Nat} {o x : Obj}

theorem get_lt (hb : h[b]? = some o) : b < h.size := (Array.getElem?_eq_some_iff.1 hb).1
theorem upd_self (hb : b < h.size) : (upd h b o)[b]? = some o := by simp [upd, hb]
theorem upd_self' (hb : h[b]? = some x) : (upd h b o)[b]? = some o := upd_self (get_lt hb)
theorem upd_ne (hne : b ≠ c) : (upd h b o)[c]? = h[c]? := by simp [upd, Array.getElem?_setIfInBounds_ne hne]
theorem upd_size : (upd h b o).size = h.size := by simp [upd]
theorem push_new : (h.push o)[h.size]? = some o := by simp
theorem push_size : (h.push o).size = h.size + 1 := by simp

structure Upd (S : Nat -> Prop) (h h' : Heap) : Prop where
 size : h.size <= h'.size
 same : ∀ b, b < h.size -> ¬ S b -> h'[b]? = h[b]?

theorem Upd.refl (S : Nat -> Prop) (h : Heap) : Upd S h h := ⟨Nat.le_refl _, fun _ _ _ => rfl⟩
theorem Upd.trans {S S' : Nat -> Prop} (a : Upd S h h1) (a' : Upd S' h1 h2) (hs : ∀ b, S' b -> b < h.size -> S b) : Upd S h h2 :=
 ⟨Nat.le_trans a.size a'.size, fun b hb hn => (a'.same b (Nat.lt_of_lt_of_le hb a.size) (fun hs' => hn (hs b hs' hb))).trans (a.same b hb hn)⟩
theorem Upd.mono {S S' : Nat -> Prop} (a : Upd S h h1) (hs : ∀ b, S b -> b < h.size -> S' b) : Upd S' h h1 :=
 ⟨a.size, fun b hb hn => a.same b hb fun hb' => hn (hs b hb' hb)⟩
theorem Upd.push (S : Nat -> Prop) (h : Heap) (o : Obj) : Upd S h (h.push o) :=
 ⟨by simp, fun b hb _ => by rw [Array.getElem?_push]; simp [Nat.ne_of_lt hb]⟩
theorem Upd.upd {S : Nat -> Prop} (h : Heap) {b : Nat} (o : Obj) (hb : S b) : Upd S h (upd h b o) :=
 ⟨by simp [Mh.upd], fun c _ hn => upd_ne (fun e => hn (e ▸ hb))⟩
theorem Upd.get {S : Nat -> Prop} (a : Upd S h h1) (hb : h[b]? = some o) (hn : ¬ S b) : h1[b]? = some o := (a.same b (get_lt hb) hn).trans hb

abbrev Ext (h h' : Heap) : Prop := Upd (fun _ => False) h h'
theorem Ext.get (a : Ext h h1) (hb : h[b]? = some o) : h1[b]? = some o := Upd.get a hb id
theorem Ext.upd {S : Nat -> Prop} (a : Ext h h1) : Upd S h h1 := a.mono fun _ hf _ => hf.elim

theorem hcell_of {cs : Array Value} {T : TypeId} {fz : Nat × Nat} {i : Nat} {v : Value} (hb : h[b]? = some (.cells cs T fz)) (hv : cs[i]? = some v) : hcell h ⟨b, i, none⟩ = some v := by
 simp [hcell, hb, hv]

theorem hfrozen_of {cs : Array Value} {T : TypeId} {i : Nat} (hb : h[b]? = some (.cells cs T (0, 0))) : hfrozen h ⟨b, i, none⟩ = false := by
 simp [hfrozen, hb]

theorem hset_of {cs : Array Value} {T : TypeId} {fz : Nat × Nat} {i : Nat} {v : Value} (hb : h[b]? = some (.cells cs T fz)) :
  hset h ⟨b, i, none⟩ v = upd h b (.cells (cs.setIfInBounds i v) T fz) := by
 have hlt := get_lt hb
 have hbe : h[b] = .cells cs T fz := by simpa [Array.getElem?_eq_getElem hlt] using hb
 unfold hset upd
 apply Array.ext
 ·simp
 ·intro j h1 h2
  simp only [Array.size_modify] at h1
  rw [Array.getElem_modify, Array.getElem_setIfInBounds h1]
  split
  ·rename_i e; subst e; simp [hbe]
  ·rfl

theorem upd_upd {o1 o2 : Obj} : upd (upd h b o1) b o2 = upd h b o2 := by simp [upd]

theorem pLoad_of {a : Value} {v : Value} {i : Nat} {K : Value -> Prop} (ha : a = .pointer (some ⟨b, i, none⟩)) (hv : hcell h ⟨b, i, none⟩ = some v) (hk : K v) : pLoad h a K := by
 subst ha; simp [pLoad, hv, hk]

theorem cellsAt_of {cs : List Value} {T : TypeId} {fz : Nat × Nat} {i : Nat} (hb : h[b]? = some (.cells cs.toArray T fz)) : ∀ (n i : Nat), i + n <= cs.length -> cellsAt h b i n = some ((cs.drop i).take n)
 | 0, i, _ => by simp [cellsAt]
 | n + 1, i, hle => by
  have hlt : i < cs.length := by omega
  have hv : hcell h ⟨b, i, none⟩ = some cs[i] := hcell_of hb (by simp [hlt])
  simp only [cellsAt, hv]
  rw [cellsAt_of (i := i) hb n (i + 1) (by omega)]
  simp only [Option.some.injEq]
  rw [List.drop_eq_getElem_cons hlt, List.take_succ_cons]

def over (cs : List Value) (i : Nat) (l : List Value) : List Value := cs.take i ++ l ++ cs.drop (i + l.length)

theorem storeL_of {T : TypeId} {K : Heap -> Prop} : ∀ (l : List Value) (i : Nat) (h : Heap) (cs : List Value), h[b]? = some (.cells cs.toArray T (0, 0)) -> i + l.length <= cs.length ->
  (∀ v ∈ l, plainCell v = true) -> K (upd h b (.cells (over cs i l).toArray T (0, 0))) -> storeL h b i l K
 | [], i, h, cs, hb, hle, _, hk => by
  have : over cs i [] = cs := by simp [over]
  rw [this] at hk
  have : upd h b (.cells cs.toArray T (0, 0)) = h := by
   have hlt := get_lt hb
   apply Array.ext
   ·simp [upd]
   ·intro j h1 h2
    have : h[b] = .cells cs.toArray T (0, 0) := by simpa [Array.getElem?_eq_getElem hlt] using hb
    simp only [upd, Array.getElem_setIfInBounds h2]
    split
    ·rename_i e; subst e; exact this.symm
    ·rfl
  rw [this] at hk
  exact hk
 | v :: l, i, h, cs, hb, hle, hp, hk => by
  simp only [List.length_cons] at hle
  have hlt : i < cs.length := by omega
  refine ⟨hp v List.mem_cons_self, ?_, hfrozen_of hb, ?_⟩
  ·rw [hcell_of hb (v := cs[i]) (by simp [hlt])]; rfl
  ·rw [hset_of hb]
   have e : (cs.toArray.setIfInBounds i v) = (cs.set i v).toArray := by simp
   rw [e]
   refine storeL_of l (i + 1) _ (cs.set i v) (upd_self' hb) (by simp; omega) (fun u hu => hp u (List.mem_cons_of_mem _ hu)) ?_
   rw [upd_upd]
   have : over (cs.set i v) (i + 1) l = over cs i (v :: l) := by
    simp only [over, List.length_cons]
    rw [List.take_succ_eq_append_getElem (by simpa using hlt)]
    simp only [List.getElem_set_self, List.append_assoc, List.singleton_append, List.cons_append]
    rw [List.take_set_of_le (Nat.le_refl i), List.drop_set_of_lt (by omega)]
    simp [Nat.add_comm, Nat.add_left_comm]
   rw [this]; exact hk

section rows
variable {α : Type} {enc : α -> List Value} {n : Nat}

def row (enc : α -> List Value) (xs : List α) : List Value := xs.flatMap enc

theorem row_length (hn : ∀ a, (enc a).length = n) : ∀ xs : List α, (row enc xs).length = xs.length * n
 | [] => by simp [row]
 | x :: xs => by
  have := row_length hn xs
  simp only [row, List.flatMap_cons, List.length_append, List.length_cons] at *
  rw [this, hn, Nat.succ_mul, Nat.add_comm]

theorem row_take (hn : ∀ a, (enc a).length = n) : ∀ (xs : List α) (i : Nat), (row enc xs).take (i * n) = row enc (xs.take i)
 | [], i => by simp [row]
 | x :: xs, 0 => by simp [row]
 | x :: xs, i + 1 => by
  have := row_take hn xs i
  simp only [row, List.flatMap_cons, List.take_succ_cons] at *
  rw [Nat.succ_mul, Nat.add_comm, <- hn x, List.take_append, List.take_of_length_le (by omega), hn x]
  simp [this]

theorem row_drop (hn : ∀ a, (enc a).length = n) : ∀ (xs : List α) (i : Nat), (row enc xs).drop (i * n) = row enc (xs.drop i)
 | [], i => by simp [row]
 | x :: xs, 0 => by simp [row]
 | x :: xs, i + 1 => by
  have := row_drop hn xs i
  simp only [row, List.flatMap_cons, List.drop_succ_cons] at *
  rw [Nat.succ_mul, Nat.add_comm, <- hn x, List.drop_append, List.drop_of_length_le (by omega), hn x]
  simp [this]

theorem row_append (xs ys : List α) : row enc (xs ++ ys) = row enc xs ++ row enc ys := by simp [row]

theorem row_slot (hn : ∀ a, (enc a).length = n) {xs : List α} {i : Nat} (hi : i < xs.length) (rest : List Value) :
  ((row enc xs ++ rest).drop (i * n)).take n = enc xs[i] := by
 have hl := row_length hn xs
 have hle : i * n + n <= xs.length * n := by
  have := Nat.mul_le_mul_right n (Nat.succ_le_of_lt hi)
  rw [Nat.succ_mul] at this; exact this
 rw [List.drop_append_of_le_length (by omega), row_drop hn, List.take_append_of_le_length (by rw [row_length hn]; simp; rw [Nat.sub_mul]; omega)]
 rw [List.drop_eq_getElem_cons hi]
 simp only [row, List.flatMap_cons]
 rw [List.take_append_of_le_length (by rw [hn]; exact Nat.le_refl _), List.take_of_length_le (by rw [hn]; exact Nat.le_refl _)]

theorem row_get (hn : ∀ a, (enc a).length = n) {xs : List α} {i j : Nat} (hi : i < xs.length) (hj : j < n) (rest : List Value) :
  (row enc xs ++ rest)[i * n + j]? = (enc xs[i])[j]? := by
 rw [<- row_slot hn hi rest, List.getElem?_take_of_lt hj, List.getElem?_drop]

theorem row_over (hn : ∀ a, (enc a).length = n) {xs : List α} {i : Nat} (hi : i < xs.length) (a : α) (rest : List Value) :
  over (row enc xs ++ rest) (i * n) (enc a) = row enc (xs.set i a) ++ rest := by
 have hl := row_length hn xs
 have hle : i * n + n <= xs.length * n := by
  have := Nat.mul_le_mul_right n (Nat.succ_le_of_lt hi)
  rw [Nat.succ_mul] at this; exact this
 unfold over
 rw [hn, List.take_append_of_le_length (by omega), row_take hn, show i * n + n = (i + 1) * n by rw [Nat.succ_mul], List.drop_append_of_le_length (by rw [Nat.succ_mul]; omega), row_drop hn]
 rw [List.set_eq_take_append_cons_drop, if_pos hi]
 simp [row]

end rows
end
open Go

theorem LoopH_intro {σ : Type} {B : σ -> Heap -> (σ -> Heap -> Prop) -> Prop} {x : σ} {h : Heap} (I : σ -> Heap -> Prop) (μ : σ -> Heap -> Nat) (h0 : I x h)
  (step : ∀ (x : σ) (h : Heap) (Z : σ -> Heap -> Prop), I x h -> (∀ x' h', I x' h' -> μ x' h' < μ x h -> Z x' h') -> B x h Z) : LoopH B x h := by
 intro Z hZ
 have key : ∀ n x h, μ x h = n -> I x h -> Z x h := by
  intro n
  induction n using Nat.strongRecOn with
  | _ n ih =>
   intro x h hn hI
   exact hZ x h (step x h Z hI fun x' h' hI' hlt => ih _ (hn ▸ hlt) x' h' rfl hI')
 exact key _ x h rfl h0

section
variable {K : Value -> Prop} {KH : KT} {T E : Prop} {h : Heap} {k : IntKind} {a b : Int} {v x y : Value} {n m o : Nat}

@[simp] theorem ifV_true : ifV (.bool true) T E = T := rfl
@[simp] theorem ifV_false : ifV (.bool false) T E = E := rfl
@[simp] theorem ifV_dec {p : Prop} [Decidable p] : ifV (.bool (decide p)) T E ↔ (p -> T) /\ (¬ p -> E) := by by_cases hp : p <;> simp [ifV, hp]
theorem ifV_bool (c : Bool) : ifV (.bool c) T E ↔ (c = true -> T) /\ (c = false -> E) := by cases c <;> simp [ifV]
@[simp] theorem ifV_beq : ifV (.bool (a == b)) T E ↔ (a = b -> T) /\ (¬ a = b -> E) := by rw [ifV_bool]; simp
@[simp] theorem ifV_bne : ifV (.bool (a != b)) T E ↔ (¬ a = b -> T) /\ (a = b -> E) := by rw [ifV_bool]; simp
@[simp] theorem ifV_notb {c : Bool} : ifV (.bool !c) T E ↔ ifV (.bool c) E T := by cases c <;> simp

@[simp] theorem pNil_ptr {q : Addr} : pNil (.pointer (some q)) K = K (.pointer (some q)) := rfl
@[simp] theorem pNil_func {f : Nat} {c d : Array Value} : pNil (.func (.func f) c d) K = K (.func (.func f) c d) := rfl
@[simp] theorem pNil_yield {f : Nat} {c d : Array Value} : pNil (.func (.yield f) c d) K = K (.func (.yield f) c d) := rfl
@[simp] theorem pField_ptr {off : Nat} : pField off (.pointer (some ⟨n, o, none⟩)) K = K (.pointer (some ⟨n, o + off, none⟩)) := rfl
@[simp] theorem pLoad_ptr : pLoad h (.pointer (some ⟨n, o, none⟩)) K = (match hcell h ⟨n, o, none⟩ with
  | some v => K v
  | none => False) := rfl
@[simp] theorem pLoadN_ptr : pLoadN m h (.pointer (some ⟨n, o, none⟩)) K = (match cellsAt h n o m with
  | some l => K (.agg l.toArray)
  | none => False) := rfl
@[simp] theorem pIdx_sl {size len cap : Nat} : pIdx size (.slice (some ⟨n, o, none⟩) len cap) (.int k a) K ↔ (0 <= a /\ a < len) /\ K (.pointer (some ⟨n, o + a.toNat * size, none⟩)) := by
 simp [pIdx, and_assoc]
@[simp] theorem pIdxA_ptr {size len : Nat} : pIdxA size len (.pointer (some ⟨n, o, none⟩)) (.int k a) K ↔ (0 <= a /\ a < len) /\ K (.pointer (some ⟨n, o + a.toNat * size, none⟩)) := by
 simp [pIdxA, and_assoc]
@[simp] theorem pLen_sl {q : Option Addr} {cap : Nat} : pLen (.slice q n cap) K = K (.int .i64 n) := rfl
@[simp] theorem pLenS_str {s : ByteArray} : pLenS (.string s) K = K (.int .i64 s.size) := rfl
@[simp] theorem pCap_sl {q : Option Addr} {cap : Nat} : pCap (.slice q n cap) K = K (.int .i64 cap) := rfl
@[simp] theorem pExt_tuple {vs : Array Value} : pExt (.tuple vs) n K = (match vs[n]? with
  | some v => K v
  | none => False) := rfl
@[simp] theorem pPart1_agg {vs : Array Value} : pPart1 n (.agg vs) K = (match vs[n]? with
  | some v => K v
  | none => False) := rfl
@[simp] theorem pPartN_agg {vs : Array Value} : pPartN n m (.agg vs) K = K (.agg (vs.extract n (n + m))) := rfl
@[simp] theorem pPick_true : pPick (.bool true) x y K = K x := rfl
@[simp] theorem pPick_false : pPick (.bool false) x y K = K y := rfl
@[simp] theorem pMin_int : pMin (.int k a) (.int k b) K = K (.int k (if b < a then b else a)) := rfl
@[simp] theorem pMax_int : pMax (.int k a) (.int k b) K = K (.int k (if b > a then b else a)) := rfl
@[simp] theorem pConv_int {k' : IntKind} : pConv k (.int k' a) K = K (.int k (k.wrap a)) := rfl
@[simp] theorem pUn_not {c : Bool} : pUn .not (.bool c) K = K (.bool !c) := rfl
@[simp] theorem pUn_neg : pUn .neg (.int k a) K = K (.int k (k.wrap (0 - a))) := rfl
@[simp] theorem pBin_add : pBin .add (.int k a) (.int k b) K ↔ K (.int k (k.wrap (a + b))) := by simp [pBin]
@[simp] theorem pBin_sub : pBin .sub (.int k a) (.int k b) K ↔ K (.int k (k.wrap (a - b))) := by simp [pBin]
@[simp] theorem pBin_mul : pBin .mul (.int k a) (.int k b) K ↔ K (.int k (k.wrap (a * b))) := by simp [pBin]
@[simp] theorem pBin_quo : pBin .quo (.int k a) (.int k b) K ↔ b ≠ 0 /\ K (.int k (k.wrap (a.tdiv b))) := by simp [pBin]
@[simp] theorem pBin_rem : pBin .rem (.int k a) (.int k b) K ↔ b ≠ 0 /\ K (.int k (a.tmod b)) := by simp [pBin]
@[simp] theorem pBin_eql : pBin .eql (.int k a) (.int k b) K ↔ K (.bool (a == b)) := by simp [pBin]
@[simp] theorem pBin_neq : pBin .neq (.int k a) (.int k b) K ↔ K (.bool (a != b)) := by simp [pBin]
@[simp] theorem pBin_lss : pBin .lss (.int k a) (.int k b) K ↔ K (.bool (decide (a < b))) := by simp [pBin]
@[simp] theorem pBin_leq : pBin .leq (.int k a) (.int k b) K ↔ K (.bool (decide (a <= b))) := by simp [pBin]
@[simp] theorem pBin_gtr : pBin .gtr (.int k a) (.int k b) K ↔ K (.bool (decide (b < a))) := by simp [pBin]
@[simp] theorem pBin_geq : pBin .geq (.int k a) (.int k b) K ↔ K (.bool (decide (b <= a))) := by simp [pBin]
@[simp] theorem pEq_ptr_nil {q : Option Addr} : pEq false .ptr (.pointer q) (.pointer none) K ↔ K (.bool q.isNone) := by cases q <;> simp [pEq]
@[simp] theorem pNe_ptr_nil {q : Option Addr} : pEq true .ptr (.pointer q) (.pointer none) K ↔ K (.bool q.isSome) := by cases q <;> simp [pEq]
@[simp] theorem pEq_slice_nil {q : Option Addr} {c : Nat} : pEq false .slice (.slice q n c) (.slice none 0 0) K ↔ K (.bool q.isNone) := by cases q <;> simp [pEq]
@[simp] theorem pNe_slice_nil {q : Option Addr} {c : Nat} : pEq true .slice (.slice q n c) (.slice none 0 0) K ↔ K (.bool q.isSome) := by cases q <;> simp [pEq]
@[simp] theorem pEq_iface_nil : pEq false .iface .nilIface .nilIface K ↔ K (.bool true) := by simp [pEq]
@[simp] theorem pNe_iface_nil : pEq true .iface .nilIface .nilIface K ↔ K (.bool false) := by simp [pEq]
@[simp] theorem pEq_bool {c d : Bool} : pEq false .bool (.bool c) (.bool d) K ↔ K (.bool (c == d)) := by simp [pEq]
@[simp] theorem pNe_bool {c d : Bool} : pEq true .bool (.bool c) (.bool d) K ↔ K (.bool (c != d)) := by cases c <;> cases d <;> simp [pEq]
@[simp] theorem ifV_beqB {c d : Bool} : ifV (.bool (c == d)) T E ↔ (c = d -> T) /\ (¬ c = d -> E) := by cases c <;> cases d <;> simp
@[simp] theorem ifV_bneB {c d : Bool} : ifV (.bool (c != d)) T E ↔ (¬ c = d -> T) /\ (c = d -> E) := by cases c <;> cases d <;> simp

@[simp] theorem plain_int : plainCell (.int k a) = true := rfl
@[simp] theorem plain_bool {c : Bool} : plainCell (.bool c) = true := rfl
@[simp] theorem plain_string {c : ByteArray} : plainCell (.string c) = true := rfl
@[simp] theorem plain_ptr {q : Option Addr} : plainCell (.pointer q) = true := rfl
@[simp] theorem plain_slice {q : Option Addr} : plainCell (.slice q n m) = true := rfl
@[simp] theorem plain_map {q : Option Nat} : plainCell (.map q) = true := rfl
@[simp] theorem plain_func {f : Fn} {c d : Array Value} : plainCell (.func f c d) = true := rfl
@[simp] theorem plain_nilFunc : plainCell .nilFunc = true := rfl
@[simp] theorem plain_nilIface : plainCell .nilIface = true := rfl
@[simp] theorem plain_iface {t : TypeId} : plainCell (.iface t v) = true := rfl
@[simp] theorem cells_int : (Value.int k a).cells = #[.int k a] := rfl
@[simp] theorem cells_bool {c : Bool} : (Value.bool c).cells = #[.bool c] := rfl
@[simp] theorem cells_string {c : ByteArray} : (Value.string c).cells = #[.string c] := rfl
@[simp] theorem cells_ptr {q : Option Addr} : (Value.pointer q).cells = #[.pointer q] := rfl
@[simp] theorem cells_slice {q : Option Addr} : (Value.slice q n m).cells = #[.slice q n m] := rfl
@[simp] theorem cells_map {q : Option Nat} : (Value.map q).cells = #[.map q] := rfl
@[simp] theorem cells_func {f : Fn} {c d : Array Value} : (Value.func f c d).cells = #[.func f c d] := rfl
@[simp] theorem cells_nilFunc : (Value.nilFunc).cells = #[.nilFunc] := rfl
@[simp] theorem cells_nilIface : (Value.nilIface).cells = #[.nilIface] := rfl
@[simp] theorem cells_iface {t : TypeId} : (Value.iface t v).cells = #[.iface t v] := rfl
@[simp] theorem cells_agg {c : Array Value} : (Value.agg c).cells = c := rfl

theorem callV_func {P : Program} {f : Nat} {first captured : Array Value} {args : List Value} (hc : CallsH P f (first ++ args.toArray ++ captured) h KH) :
  callV P (.func (.func f) first captured) args.toArray h KH := hc

theorem wrap_in {n : Int} (h0 : k.min <= n) (h1 : n <= k.max) : k.wrap n = n := by
 unfold IntKind.wrap
 cases k <;> simp only [IntKind.bits, IntKind.signed, IntKind.min, IntKind.max, Bool.true_and, Bool.false_and, if_true, Bool.false_eq_true, if_false] at * <;> (try split) <;> simp at * <;> omega

theorem w64 {n : Int} (h0 : -9223372036854775808 <= n) (h1 : n <= 9223372036854775807) : IntKind.i64.wrap n = n := wrap_in h0 h1

theorem pBox_of {t : TypeId} (hk : KH (.pointer (some ⟨h.size, 0, none⟩)) (h.push (.cells v.cells t (0, 0)))) : pBox t v h KH := hk

theorem pStore_of {a : Value} {c i : Nat} {cs : List Value} {T : TypeId} {sz : Nat} (ha : a = .pointer (some ⟨c, i, none⟩)) (hb : h[c]? = some (.cells cs.toArray T (0, 0)))
  (hs : v.cells.size = sz) (hle : i + v.cells.size <= cs.length) (hp : ∀ u ∈ v.cells.toList, plainCell u = true)
  (hk : KH undef (upd h c (.cells (over cs i v.cells.toList).toArray T (0, 0)))) : pStore sz a v h KH := by
 subst ha
 exact ⟨hs, storeL_of _ _ _ cs hb (by simpa using hle) hp hk⟩
end

open Go

section
variable {h : Heap} {b : Nat}

theorem hcell0 {v : Value} {l : List Value} {T : TypeId} {fz : Nat × Nat} (hb : h[b]? = some (.cells (v :: l).toArray T fz)) : hcell h ⟨b, 0, none⟩ = some v := hcell_of hb (by simp)
theorem hcell1 {u v : Value} {l : List Value} {T : TypeId} {fz : Nat × Nat} (hb : h[b]? = some (.cells (u :: v :: l).toArray T fz)) : hcell h ⟨b, 1, none⟩ = some v := hcell_of hb (by simp)
theorem hcell2 {u t v : Value} {l : List Value} {T : TypeId} {fz : Nat × Nat} (hb : h[b]? = some (.cells (u :: t :: v :: l).toArray T fz)) : hcell h ⟨b, 2, none⟩ = some v := hcell_of hb (by simp)
theorem takeM_of {K : Heap -> Prop} : ∀ (m : List Nat) (h : Heap), (∀ D ∈ m, h[D]? = some (.deferred (some []))) -> m.Nodup -> (∀ h', Upd (fun b => b ∈ m) h h' -> K h') -> takeM m h K
 | [], h, _, _, hk => hk h (.refl _ _)
 | D :: m, h, hD, hn, hk => by
  refine ⟨hD D List.mem_cons_self, ?_⟩
  rw [List.nodup_cons] at hn
  refine takeM_of m _ (fun D' hD' => ?_) hn.2 fun h' hu => hk h' ?_
  ·rw [setIf_upd, upd_ne (fun e : D = D' => hn.1 (by rw [e]; exact hD'))]; exact hD D' (List.mem_cons_of_mem _ hD')
  ·exact (Upd.upd (S := fun b => b ∈ D :: m) h _ List.mem_cons_self).trans hu fun b hb _ => List.mem_cons_of_mem _ hb

theorem roundK_normal {l : Nat} {L : Loop} {R : KT} {p : Option Code} (hb : h[l]? = some (lo L .busy p)) (hk : R (.bool true) (upd h l (lo L .ready none))) : roundK l L R .normal h :=
 ⟨p, hb, hk⟩

theorem beginR_of {l : Nat} {L : Loop} {K : Heap -> Prop} {p : Option Code} (hb : h[l]? = some (lo L .ready p)) (hk : K (upd h l (lo L .busy p))) : beginR l L h K :=
 ⟨p, hb, hk⟩
end

section
variable {K : Value -> Prop} {a b c d : Value} {l : List Value}
theorem pExt0 : pExt (.tuple (a :: l).toArray) 0 K = K a := by simp [pExt]
theorem pExt1 : pExt (.tuple (a :: b :: l).toArray) 1 K = K b := by simp [pExt]
theorem pExt2 : pExt (.tuple (a :: b :: c :: l).toArray) 2 K = K c := by simp [pExt]
end

section
variable {α : Type} {enc : α -> List Value} {n : Nat} {T : TypeId} {h h' : Heap} {v : Value} {bl : Nat} {xs ys : List α}

def SlR (enc : α -> List Value) (n : Nat) (T : TypeId) (h : Heap) (v : Value) (bl : Nat) (xs : List α) : Prop :=
 (v = .slice none 0 0 /\ xs = []) \/ ∃ cap rest, v = .slice (some ⟨bl, 0, none⟩) xs.length cap /\ h[bl]? = some (.cells (row enc xs ++ rest).toArray T (0, 0)) /\
  rest.length = (cap - xs.length) * n /\ xs.length <= cap

theorem SlR.len (H : SlR enc n T h v bl xs) : ∃ base cap, v = .slice base xs.length cap := by
 rcases H with ⟨rfl, rfl⟩ | ⟨_, _, rfl, _⟩
 ·exact ⟨_, _, rfl⟩
 ·exact ⟨_, _, rfl⟩

theorem SlR.full (H : SlR enc n T h v bl xs) (hl : 0 < xs.length) : ∃ cap rest, v = .slice (some ⟨bl, 0, none⟩) xs.length cap /\ h[bl]? = some (.cells (row enc xs ++ rest).toArray T (0, 0)) /\
  rest.length = (cap - xs.length) * n /\ xs.length <= cap := by
 rcases H with ⟨rfl, rfl⟩ | H
 ·simp at hl
 ·exact H

theorem SlR.upd {S : Nat -> Prop} (H : SlR enc n T h v bl xs) (hu : Upd S h h') (hn' : ¬ S bl) : SlR enc n T h' v bl xs := by
 rcases H with H | ⟨cap, rest, a, b, c, d⟩
 ·exact .inl H
 ·exact .inr ⟨cap, rest, a, hu.get b hn', c, d⟩

theorem SlR.slot {m : Nat} (H : SlR enc m T h v bl xs) {i j : Nat} (he : ∀ a, (enc a).length = m) (hi : i < xs.length) (hj : j < m) : hcell h ⟨bl, i * m + j, none⟩ = (enc xs[i])[j]? := by
 obtain ⟨cap, rest, _, hb, _, _⟩ := H.full (by omega)
 rw [hcell_of hb (v := (enc xs[i])[j]'(by rw [he]; exact hj)) (by
  have := row_get he hi hj rest
  rw [List.getElem?_toArray, this]; simp)]
 simp

theorem SlR.idx (H : SlR enc n T h v bl xs) {i : Nat} {k : IntKind} {K : Value -> Prop} (hi : i < xs.length) (hk : K (.pointer (some ⟨bl, i * n, none⟩))) : pIdx n v (.int k i) K := by
 obtain ⟨cap, rest, rfl, hb, _, _⟩ := H.full (by omega)
 rw [pIdx_sl]
 refine ⟨⟨by omega, by omega⟩, ?_⟩
 simpa using hk

theorem SlR.lenK (H : SlR enc n T h v bl xs) {K : Value -> Prop} (hk : K (.int .i64 xs.length)) : pLen v K := by
 obtain ⟨b, c, rfl⟩ := H.len
 exact hk

theorem cellsOf_SlR (he : ∀ a, (enc a).length = n) (H : SlR enc n T h v bl xs) : ∃ base cap, v = .slice base xs.length cap /\ cellsOfSl h n xs.length base = some (row enc xs) := by
 rcases H with ⟨rfl, rfl⟩ | ⟨cap, rest, rfl, hb, _, _⟩
 ·exact ⟨_, _, rfl, rfl⟩
 ·refine ⟨some ⟨bl, 0, none⟩, cap, rfl, ?_⟩
  have hl := row_length he xs
  simp only [cellsOfSl]
  rw [cellsAt_of (i := 0) hb _ 0 (by simp [hl])]
  rw [List.drop_zero, <- hl, List.take_left']
  rfl

theorem append_of {bytes : Nat} {zero : List Value} {xb : Option Addr} {m xc : Nat} {K : KT} (he : ∀ a, (enc a).length = n) (hp : ∀ a, ∀ u ∈ enc a, plainCell u = true) (hz : zero.length = n)
  (H : SlR enc n T h v bl xs) (hm : m = ys.length) (hx : cellsOfSl h n m xb = some (row enc ys)) (hby : 0 < bytes) (hb : (xs.length + ys.length) * bytes <= 2 ^ 47)
  (hK : ∀ v' bl' h', SlR enc n T h' v' bl' (xs ++ ys) -> (bl' = bl \/ bl' = h.size) -> Upd (fun b => b = bl /\ ∃ cs, h[b]? = some (.cells cs T (0, 0))) h h' -> (bl < h.size -> bl' < h'.size) -> K v' h') :
  pAppend T n bytes zero v (.slice xb m xc) h K := by
 subst hm
 have hrx := row_length he xs
 have hry := row_length he ys
 have hpl : ∀ u ∈ row enc ys, plainCell u = true := by
  intro u hu
  simp only [row, List.mem_flatMap] at hu
  obtain ⟨a, _, ha⟩ := hu
  exact hp a u ha
 have hcapB : ∀ cap, cap < xs.length + ys.length -> Builtin.nextslicecap (xs.length + ys.length) cap * bytes <= 2 ^ 48 /\ xs.length + ys.length < 2 ^ 63 := by
  intro cap hc
  refine ⟨growslice_fits hc (by omega), ?_⟩
  have := Nat.le_mul_of_pos_right (xs.length + ys.length) hby
  omega
 have hzl : ∀ m, (zerosL zero m).length = m * n := by
  intro m; simp [zerosL, hz]
 have fresh : ∀ (c : Nat), xs.length + ys.length <= c -> K (.slice (some ⟨h.size, 0, none⟩) (xs.length + ys.length) c) (h.push (.cells (row enc xs ++ row enc ys ++ zerosL zero (c - (xs.length + ys.length))).toArray T (0, 0))) := by
  intro c hc
  exact hK _ h.size _ (.inr ⟨c, zerosL zero (c - (xs.length + ys.length)), by simp, by rw [push_new, row_append], by simp [hzl], by simpa using hc⟩) (.inr rfl) (Upd.push _ _ _) (fun _ => by simp)
 rcases H with ⟨rfl, rfl⟩ | ⟨cap, rest, rfl, hbk, hr, hle⟩
 ·simp only [pAppend, hx]
  by_cases h0 : ys.length = 0
  ·have : ys = [] := List.eq_nil_of_length_eq_zero h0
   subst this
   simp only [List.length_nil, Nat.add_zero, Nat.le_refl, if_true]
   exact hK _ bl _ (.inl ⟨rfl, rfl⟩) (.inl rfl) (.refl _ _) id
  ·rw [if_neg (by omega)]
   simp only [cellsOfSl, List.nil_append]
   have hc := hcapB 0 (by simp; omega)
   simp only [List.length_nil] at hc
   refine ⟨hc.1, hc.2, fun c h1 h2 => ?_⟩
   have := fresh c (by simpa using h1)
   simpa [row] using this
 ·simp only [pAppend, hx]
  by_cases hcap : xs.length + ys.length <= cap
  ·rw [if_pos hcap]
   have hrl : rest.length = cap * n - xs.length * n := by rw [hr, Nat.sub_mul]
   have hmul : (xs.length + ys.length) * n <= cap * n := Nat.mul_le_mul_right n hcap
   rw [Nat.add_mul] at hmul
   refine storeL_of _ _ _ _ hbk (by rw [List.length_append, hrx, hry]; omega) hpl ?_
   have ov : over (row enc xs ++ rest) (0 + xs.length * n) (row enc ys) = row enc (xs ++ ys) ++ rest.drop (ys.length * n) := by
    unfold over
    rw [Nat.zero_add, <- hrx, List.take_left', hry, List.drop_append, row_append]
    ·rw [List.drop_of_length_le (by omega), show (row enc xs).length + ys.length * n - (row enc xs).length = ys.length * n by omega]; simp
    ·rfl
   rw [ov]
   refine hK _ bl _ (.inr ⟨cap, rest.drop (ys.length * n), by simp, upd_self' hbk, ?_, by simpa using hcap⟩) (.inl rfl) (Upd.upd _ _ ⟨rfl, _, hbk⟩) (by simp [upd_size])
   rw [List.length_drop, hrl, List.length_append, Nat.sub_mul, Nat.add_mul]; omega
  ·rw [if_neg hcap]
   have hl := cellsOf_SlR he (.inr ⟨cap, rest, rfl, hbk, hr, hle⟩ : SlR enc n T h (.slice (some ⟨bl, 0, none⟩) xs.length cap) bl xs)
   obtain ⟨b0, c0, e0, hl⟩ := hl
   injection e0 with e0 _ _
   subst e0
   rw [hl]
   have hc := hcapB cap (by omega)
   exact ⟨hc.1, hc.2, fun c h1 h2 => fresh c h1⟩

theorem SlR.set {sz : Nat} {w : Value} {i : Nat} {a : α} {KH : KT} {q : Value} (he : ∀ a, (enc a).length = n) (hp : ∀ u ∈ enc a, plainCell u = true)
  (H : SlR enc n T h v bl xs) (hi : i < xs.length) (hq : q = .pointer (some ⟨bl, i * n, none⟩)) (hw : w.cells.toList = enc a) (hsz : sz = n)
  (hK : ∀ h', SlR enc n T h' v bl (xs.set i a) -> Upd (fun b => b = bl) h h' -> h'.size = h.size -> KH undef h') : pStore sz q w h KH := by
 rw [hsz]
 obtain ⟨cap, rest, rfl, hb, hr, hle⟩ := H.full (by omega)
 have hwl : w.cells.size = n := by rw [<- he a, <- hw]; simp
 have hrx := row_length he xs
 have hmul : (i + 1) * n <= xs.length * n := Nat.mul_le_mul_right n hi
 rw [Nat.succ_mul] at hmul
 refine pStore_of hq hb hwl (by rw [hwl, List.length_append, hrx]; omega) (by rw [hw]; exact hp) ?_
 rw [hw, row_over he hi]
 exact hK _ (.inr ⟨cap, rest, by simp, upd_self' hb, by simpa using hr, by simpa using hle⟩) (Upd.upd _ _ rfl) upd_size

def VwR (enc : α -> List Value) (n : Nat) (h : Heap) (v : Value) (bl : Nat) (ys : List α) : Prop :=
 ∃ base cap, v = .slice base ys.length cap /\ ys.length <= cap /\ ((ys = [] /\ (base = none \/ ∃ b o, base = some ⟨b, o, none⟩)) \/
  ∃ o pre post T fz, base = some ⟨bl, o, none⟩ /\ h[bl]? = some (.cells (pre ++ row enc ys ++ post).toArray T fz) /\ pre.length = o)

theorem VwR.upd {S : Nat -> Prop} (H : VwR enc n h v bl ys) (hu : Upd S h h') (hn : ¬ S bl) : VwR enc n h' v bl ys := by
 obtain ⟨base, cap, rfl, hc, H⟩ := H
 refine ⟨base, cap, rfl, hc, ?_⟩
 rcases H with H | ⟨o, pre, post, T, fz, a, b, c⟩
 ·exact .inl H
 ·exact .inr ⟨o, pre, post, T, fz, a, hu.get b hn, c⟩

theorem SlR.view (H : SlR enc n T h v bl xs) : VwR enc n h v bl xs := by
 rcases H with ⟨rfl, rfl⟩ | ⟨cap, rest, rfl, hb, _, hle⟩
 ·exact ⟨none, 0, rfl, Nat.le_refl _, .inl ⟨rfl, .inl rfl⟩⟩
 ·exact ⟨_, _, rfl, hle, .inr ⟨0, [], rest, T, _, rfl, hb, rfl⟩⟩

theorem VwR.cells (he : ∀ a, (enc a).length = n) (H : VwR enc n h v bl ys) : ∃ base cap, v = .slice base ys.length cap /\ cellsOfSl h n ys.length base = some (row enc ys) := by
 obtain ⟨base, cap, rfl, hc, H⟩ := H
 refine ⟨base, cap, rfl, ?_⟩
 rcases H with ⟨rfl, rfl | ⟨b, o, rfl⟩⟩ | ⟨o, pre, post, T, fz, rfl, hb, ho⟩
 ·rfl
 ·simp [cellsOfSl, cellsAt, row]
 ·have hl := row_length he ys
  simp only [cellsOfSl]
  rw [cellsAt_of (i := 0) hb _ o (by simp [hl]; omega)]
  rw [List.append_assoc, <- ho, List.drop_left', <- hl, List.take_left']
  ·rfl
  ·rfl

theorem VwR.sub {lo hi : Option Value} {K : Value -> Prop} {i j : Nat} (he : ∀ a, (enc a).length = n) (H : VwR enc n h v bl ys) (hlo : bndOf 0 lo = some (i : Int)) (hhi : bndOf ys.length hi = some (j : Int)) (hij : i <= j) (hj : j <= ys.length)
  (hK : ∀ v', VwR enc n h v' bl ((ys.drop i).take (j - i)) -> K v') : pSlice n v lo hi none K := by
 obtain ⟨base, cap, rfl, hc, H⟩ := H
 simp only [pSlice, hlo, hhi]
 rw [show bndOf cap none = some (cap : Int) from rfl]
 dsimp only
 refine ⟨by simp, by omega, by omega, by omega, Int.le_refl _, ?_⟩
 refine hK _ ⟨_, _, by rw [show ((j : Int).toNat - (i : Int).toNat) = ((ys.drop i).take (j - i)).length by simp; omega], by simp; omega, ?_⟩
 simp only [Int.toNat_natCast]
 unfold slBase
 by_cases hci : cap = i
 ·rw [if_pos hci]
  have : (ys.drop i).take (j - i) = [] := by
   apply List.eq_nil_of_length_eq_zero; simp; omega
  rcases H with ⟨_, hb⟩ | ⟨o, pre, post, T, fz, rfl, hb, ho⟩
  ·exact .inl ⟨this, hb⟩
  ·exact .inl ⟨this, .inr ⟨_, _, rfl⟩⟩
 ·rw [if_neg hci]
  rcases H with ⟨rfl, rfl | ⟨b, o, rfl⟩⟩ | ⟨o, pre, post, T, fz, rfl, hb, ho⟩
  ·exact .inl ⟨by simp, .inl rfl⟩
  ·exact .inl ⟨by simp, .inr ⟨_, _, rfl⟩⟩
  ·refine .inr ⟨o + i * n, pre ++ row enc (ys.take i), row enc ((ys.drop i).drop (j - i)) ++ post, T, fz, rfl, ?_, ?_⟩
   ·rw [hb]
    have : row enc ys = row enc (ys.take i) ++ (row enc ((ys.drop i).take (j - i)) ++ row enc ((ys.drop i).drop (j - i))) := by
     rw [<- row_append, List.take_append_drop, <- row_append, List.take_append_drop]
    rw [this]; simp [List.append_assoc]
   ·rw [List.length_append, row_length he, ho]; simp; rw [Nat.min_eq_left (by omega)]

theorem VwR.lenK (H : VwR enc n h v bl ys) {K : Value -> Prop} (hk : K (.int .i64 ys.length)) : pLen v K := by
 obtain ⟨b, c, rfl, _⟩ := H
 exact hk

theorem SlR.pre {k : IntKind} {K : Value -> Prop} {j : Nat} (H : SlR enc n T h v bl xs) (he : ∀ a, (enc a).length = n) (hj : j <= xs.length)
  (hK : ∀ v', SlR enc n T h v' bl (xs.take j) -> K v') : pSlice n v none (some (.int k j)) none K := by
 rcases H with ⟨rfl, rfl⟩ | ⟨cap, rest, rfl, hb, hr, hle⟩
 ·have : j = 0 := by simpa using hj
  subst this
  refine ⟨by simp, by simp, by simp, by simp, by simp, hK _ (.inl ⟨by simp [slBase], by simp⟩)⟩
 ·refine ⟨by simp, by simp, by omega, by omega, Int.le_refl _, hK _ (.inr ⟨cap, row enc (xs.drop j) ++ rest, ?_, ?_, ?_, ?_⟩)⟩
  ·have : slBase n 0 cap (some ⟨bl, 0, none⟩) = some ⟨bl, 0, none⟩ := by simp [slBase]
   simp [this, hj]
  ·rw [hb, <- List.append_assoc, <- row_append, List.take_append_drop]
  ·rw [List.length_append, row_length he, hr]; simp only [List.length_drop, List.length_take, Nat.min_eq_left hj]
   rw [<- Nat.add_mul]; congr 1; omega
  ·simp; omega

theorem makeSlice_of {bytes : Nat} {k k' : IntKind} {m : Nat} {a : α} {K : KT} (hb : (bytes : Int) * m <= 2 ^ 48) (hm : m < 2 ^ 63)
  (hK : ∀ w h', SlR enc n T h' w h.size (List.replicate m a) -> Ext h h' -> h'.size = h.size + 1 -> K w h') : pMakeSlice T bytes (enc a) (.int k m) (.int k' m) h K := by
 refine ⟨by omega, Int.le_refl _, hb, by omega, ?_⟩
 refine hK _ _ (.inr ⟨m, [], by simp, ?_, by simp, by simp⟩) (Upd.push _ _ _) push_size
 rw [push_new]
 have : row enc (List.replicate m a) = (List.replicate m (enc a)).flatten := by simp [row, List.flatMap]
 simp [this]

theorem VwR.idx {k : IntKind} {K : Value -> Prop} {i : Nat} (he : ∀ a, (enc a).length = n) (H : VwR enc n h v bl ys) (hi : i < ys.length)
  (hK : ∀ o, (∀ j, j < n -> hcell h ⟨bl, o + j, none⟩ = (enc ys[i])[j]?) -> K (.pointer (some ⟨bl, o, none⟩))) : pIdx n v (.int k i) K := by
 obtain ⟨base, cap, rfl, hc, H⟩ := H
 rcases H with ⟨rfl, _⟩ | ⟨o, pre, post, T, fz, rfl, hb, ho⟩
 ·simp at hi
 ·rw [pIdx_sl]
  refine ⟨⟨by omega, by omega⟩, ?_⟩
  simp only [Int.toNat_natCast]
  refine hK _ fun j hj => ?_
  rw [hcell_of hb (v := (enc ys[i])[j]'(by rw [he]; exact hj)) (by
   have := row_get he hi hj post
   rw [List.getElem?_toArray, List.append_assoc, List.getElem?_append_right (by omega), show o + i * n + j - pre.length = i * n + j by omega, this]; simp)]
  simp

end
open Go Go.ChangeShapes Go.WideShapes Go.ChangeAt Go.RowKit

section
variable {H : Type} {encD : TypeId × Value -> H} {P : Program} {w : World} {α : Type} {enc : α -> List Value} {ok : α -> Prop} {n : Nat} {e t : TypeId} {v : Value} {r : Reach} {base : Nat} {d : DataW H} {p : List MemPlace}

theorem add_plain {a : Addr} (hs : a.spot = none) (k : Nat) : a.add k = ⟨a.block, a.off + k, none⟩ := by
 obtain ⟨b, o, s⟩ := a
 simp only at hs
 subst hs
 unfold Addr.add
 split
 ·rename_i h; subst h; rfl
 ·rfl

theorem mapM_get {β γ : Type} {f : β -> Option γ} : ∀ {l : List β} {r : List γ}, l.mapM f = some r -> ∀ (i : Nat) (x : β), l[i]? = some x -> f x = r[i]?
 | [], r, h, i, x, hx => by simp at hx
 | y :: l, r, h, i, x, hx => by
  rw [List.mapM_cons] at h
  simp only [Option.pure_def, Option.bind_eq_bind, Option.bind_eq_some_iff] at h
  obtain ⟨z, hz, rs, hrs, hr⟩ := h
  simp only [Option.some.injEq] at hr
  subst hr
  cases i with
  | zero => simp at hx; subst hx; simp [hz]
  | succ i => simp at hx; simpa using mapM_get hrs i x hx

theorem choose_list {Q : Nat -> α -> Prop} : ∀ len, (∀ i, i < len -> ∃ x, Q i x) -> ∃ xs : List α, xs.length = len /\ ∀ i (hi : i < xs.length), Q i xs[i]
 | 0, _ => ⟨[], rfl, fun i hi => by simp at hi⟩
 | len + 1, hall => by
  obtain ⟨xs, hl, hxs⟩ := choose_list len fun i hi => hall i (by omega)
  obtain ⟨x, h1⟩ := hall len (by omega)
  refine ⟨xs ++ [x], by simp [hl], fun i hi => ?_⟩
  by_cases hlt : i < xs.length
  ·rw [List.getElem_append_left hlt]; exact hxs i hlt
  ·have : i = len := by simp at hi; omega
   subst this
   rw [List.getElem_append_right (by omega)]
   simpa [hl] using h1

theorem dec_int {k : IntKind} (he : P.underlying e = some (.int k)) {sp : Nat -> Bool} : ∀ fuel cs x, DataW.trod encD P w 0 sp true fuel e cs = some x -> ∃ a : Int, cs = [.int k a] /\ k.min <= a /\ a <= k.max := by
 intro fuel cs x h
 obtain ⟨n', rfl, _, hw⟩ := DataW.trod_int he h
 refine ⟨n', rfl, ?_⟩
 simpa [Lit.wf] using hw

end
open Go Go.ChangeShapes Go.WideShapes Go.ChangeAt Go.RowKit

section
variable {H : Type} {enc : TypeId × Value -> H} {P : Program} {W W' : World}

theorem sameAt_of_ext (hx : Ext W.heap W'.heap) {p : MemPlace} (hp : p.block < W.heap.size) : W.sameAt W' p := by
 cases p with
 | cell b off =>
  have := hx.same b hp id
  show W'.cell? _ = W.cell? _
  simp only [World.cell?, this]
 | map b => exact hx.same b hp id

theorem trodAll_carry {base : Nat} {spare : Nat -> Bool} {held : Bool} : ∀ {ts : List TypeId} {vs : List Value} {ds : List (DataW H)} {ps : List MemPlace}, DataW.TrodAll enc P W base spare held ts vs ds ps ->
  (∀ p ∈ ps, W.sameAt W' p) -> DataW.TrodAll enc P W' base spare held ts vs ds ps
 | [], [], [], _, h, _ => h
 | _ :: _, _ :: _, _ :: _, _, ⟨p, q, ⟨n, hn⟩, hs, e⟩, ha => by
  subst e
  exact ⟨p, q, ⟨n, DataW.trod_carry n _ _ _ hn fun x hx => ha x (List.mem_append_left _ hx)⟩, trodAll_carry hs fun x hx => ha x (List.mem_append_right _ hx), rfl⟩

theorem kept_of_ext (hs : Same W W') (hx : Ext W.heap W'.heap) (may : MemPlace -> Prop) : W.keptBut W' may := by
 refine ⟨hs.os, hs.output, fun i hi => ?_⟩
 rw [hx.same i hi id]
 have : W.heap[i]? = some W.heap[i] := by simp [hi]
 rw [this]
 cases W.heap[i] <;> simp

theorem trodAll_length {base : Nat} {spare : Nat -> Bool} {held : Bool} : ∀ {ts : List TypeId} {vs : List Value} {ds : List (DataW H)} {ps : List MemPlace}, DataW.TrodAll enc P W base spare held ts vs ds ps -> ds.length = ts.length
 | [], [], [], _, _ => rfl
 | _ :: _, _ :: _, _ :: _, _, ⟨_, _, _, hs, _⟩ => by simp [trodAll_length hs]

end
open Go

abbrev Ent := Int × Value × Nat

def ent (x : Ent) : MapEntry := { key := .int .i64 x.1, val := x.2.1, born := x.2.2 }

def lk (k : Int) : List Ent -> Option Value
 | [] => none
 | x :: r => if x.1 = k then some x.2.1 else lk k r

def fi (k : Int) : List Ent -> Nat -> Option (Nat × Value)
 | [], _ => none
 | x :: r, j => if x.1 = k then some (j, x.2.1) else fi k r (j + 1)

structure IMapL (es : Array MapEntry) (clock : Nat) (t : List Ent) : Prop where
 ents : es.toList = t.map ent
 keys : (t.map (·.1)).Nodup
 borns : (t.map (·.2.2)).Nodup
 old : ∀ x ∈ t, x.2.2 < clock

def IMap (es : Array MapEntry) (clock : Nat) (f : Int -> Option Value) : Prop := ∃ t, IMapL es clock t /\ ∀ k, f k = lk k t

def fset (f : Int -> Option Value) (k : Int) (v : Value) : Int -> Option Value := fun x => if x = k then some v else f x
def fdel (f : Int -> Option Value) (k : Int) : Int -> Option Value := fun x => if x = k then none else f x

theorem fset_same (f : Int -> Option Value) (k : Int) (x y : Value) : fset (fset f k x) k y = fset f k y := by
 funext z; unfold fset; split <;> rfl

theorem findNow_ents (k : Int) : ∀ (t : List Ent) (j : Nat), Instr.findNow (.int .i64) (.int .i64 k) (t.map ent) j = some (fi k t j)
 | [], j => rfl
 | x :: t, j => by
  simp only [List.map_cons, Instr.findNow, ent, Instr.sameNow, if_true]
  by_cases h : x.1 = k
  ·subst h; simp [fi]
  ·have : (k == x.1) = false := by simpa using fun e => h e.symm
   rw [this]
   simp only [fi, if_neg h]
   exact findNow_ents k t (j + 1)

theorem fi_lk (k : Int) : ∀ (t : List Ent) (j : Nat), (fi k t j).map (·.2) = lk k t
 | [], _ => rfl
 | x :: t, j => by
  simp only [fi, lk]; split
  ·rfl
  ·exact fi_lk k t (j + 1)

theorem fi_none {k : Int} : ∀ {t : List Ent} {j : Nat}, fi k t j = none -> ∀ x ∈ t, x.1 ≠ k
 | [], _, _ => by intro x hx; cases hx
 | x :: t, j, h => by
  simp only [fi] at h
  split at h
  ·cases h
  ·rename_i hx
   intro y hy
   rcases List.mem_cons.1 hy with rfl | hy
   ·exact hx
   ·exact fi_none h y hy

theorem lk_none {k : Int} : ∀ {t : List Ent}, (∀ x ∈ t, x.1 ≠ k) -> lk k t = none
 | [], _ => rfl
 | x :: t, h => by
  simp only [lk, if_neg (h x List.mem_cons_self)]
  exact lk_none fun y hy => h y (List.mem_cons_of_mem _ hy)

theorem lk_append {k : Int} {t s : List Ent} : lk k (t ++ s) = (lk k t).orElse fun _ => lk k s := by
 induction t with
 | nil => rfl
 | cons x t ih =>
  simp only [List.cons_append, lk]; split
  ·rfl
  ·exact ih

theorem fi_modify {k : Int} {g : Ent -> Ent} : ∀ {t : List Ent} {j i : Nat} {v : Value}, (t.map (·.1)).Nodup -> fi k t j = some (i, v) ->
  j <= i /\ t.modify (i - j) g = t.map (fun x => if x.1 = k then g x else x)
 | x :: t, j, i, v, hn, h => by
  simp only [List.map_cons, List.nodup_cons] at hn
  simp only [fi] at h
  split at h
  ·rename_i hx
   simp only [Option.some.injEq, Prod.mk.injEq] at h
   obtain ⟨rfl, rfl⟩ := h
   refine ⟨Nat.le_refl _, ?_⟩
   simp only [Nat.sub_self, List.modify_zero_cons, List.map_cons, if_pos hx]
   congr 1
   have : ∀ y ∈ t, y.1 ≠ k := fun y hy e => hn.1 (by rw [hx, <- e]; exact List.mem_map_of_mem hy)
   symm
   rw [List.map_congr_left (g := id) (fun y hy => by simp [this y hy])]
   simp
  ·rename_i hx
   obtain ⟨h1, h2⟩ := fi_modify (g := g) hn.2 h
   refine ⟨by omega, ?_⟩
   rw [show i - j = (i - (j + 1)) + 1 by omega]
   simp only [List.modify_succ_cons, List.map_cons, if_neg hx, h2]

theorem fi_erase {k : Int} : ∀ {t : List Ent} {j i : Nat} {v : Value}, (t.map (·.1)).Nodup -> fi k t j = some (i, v) ->
  j <= i /\ i - j < t.length /\ t.eraseIdx (i - j) = t.filter (fun x => x.1 ≠ k)
 | x :: t, j, i, v, hn, h => by
  simp only [List.map_cons, List.nodup_cons] at hn
  simp only [fi] at h
  split at h
  ·rename_i hx
   simp only [Option.some.injEq, Prod.mk.injEq] at h
   obtain ⟨rfl, rfl⟩ := h
   refine ⟨Nat.le_refl _, by simp, ?_⟩
   have : ∀ y ∈ t, y.1 ≠ k := fun y hy e => hn.1 (by rw [hx, <- e]; exact List.mem_map_of_mem hy)
   simp only [Nat.sub_self, List.eraseIdx_zero, List.tail_cons]
   rw [List.filter_cons_of_neg (by simp [hx]), List.filter_eq_self.2 (fun y hy => by simpa using this y hy)]
  ·rename_i hx
   obtain ⟨h1, h2, h3⟩ := fi_erase hn.2 h
   refine ⟨by omega, by simp; omega, ?_⟩
   rw [show i - j = (i - (j + 1)) + 1 by omega]
   simp only [List.eraseIdx_cons_succ, h3]
   rw [List.filter_cons_of_pos (by simpa using hx)]

theorem lk_map {k k' : Int} {v : Value} : ∀ {t : List Ent}, lk k' (t.map fun x => if x.1 = k then (x.1, v, x.2.2) else x) = if k' = k then (lk k t).map (fun _ => v) else lk k' t
 | [] => by simp [lk]
 | x :: t => by
  have ih := lk_map (k := k) (k' := k') (v := v) (t := t)
  simp only [List.map_cons, lk]
  by_cases hx : x.1 = k
  ·simp only [if_pos hx]
   by_cases hk : k' = k
   ·simp [hk, hx]
   ·have : ¬ x.1 = k' := fun e => hk (by rw [<- e, hx])
    simp only [this, if_false, hk] at ih ⊢
    exact ih
  ·simp only [if_neg hx]
   by_cases hk : x.1 = k'
   ·have : ¬ k' = k := fun e => hx (by rw [hk, e])
    simp [hk, this]
   ·simp only [if_neg hk]; exact ih

theorem lk_filter {k k' : Int} : ∀ {t : List Ent}, lk k' (t.filter fun x => x.1 ≠ k) = if k' = k then none else lk k' t
 | [] => by simp [lk]
 | x :: t => by
  have ih := lk_filter (k := k) (k' := k') (t := t)
  by_cases hx : x.1 = k
  ·rw [List.filter_cons_of_neg (by simp [hx]), ih]
   simp only [lk]
   by_cases hk : k' = k
   ·simp [hk]
   ·have : ¬ x.1 = k' := fun e => hk (by rw [<- e, hx])
    simp [hk, this]
  ·rw [List.filter_cons_of_pos (by simpa using hx)]
   simp only [lk, ih]
   by_cases hk : x.1 = k'
   ·have : ¬ k' = k := fun e => hx (by rw [hk, e])
    simp [hk, this]
   ·simp [hk]

theorem IMap.congr {es : Array MapEntry} {c : Nat} {f g : Int -> Option Value} (h : IMap es c f) (hfg : ∀ k, f k = g k) : IMap es c g := by
 obtain ⟨t, ht, hf⟩ := h
 exact ⟨t, ht, fun k => (hfg k).symm.trans (hf k)⟩

theorem IMap.empty : IMap #[] 0 (fun _ => none) := ⟨[], ⟨rfl, by simp, by simp, by simp⟩, fun _ => rfl⟩

theorem map_eraseIdx {α β : Type} (g : α -> β) : ∀ (t : List α) (i : Nat), (t.eraseIdx i).map g = (t.map g).eraseIdx i
 | [], _ => by simp
 | _ :: _, 0 => by simp
 | x :: t, i + 1 => by simp [map_eraseIdx g t i]

section
variable {h : Heap} {m c : Nat} {es : Array MapEntry} {f : Int -> Option Value}

theorem look_of {z : Value} {ok : Bool} {k : Int} {K : Value -> Prop} (hm : h[m]? = some (.map es c)) (hi : IMap es c f)
  (hk : K (if ok then .tuple #[(f k).getD z, .bool (f k).isSome] else (f k).getD z)) : pLook (.int .i64) z ok h (.map (some m)) (.int .i64 k) K := by
 obtain ⟨t, ht, hf⟩ := hi
 simp only [pLook, hm, ht.ents, findK_int, findNow_ents]
 have hlk := fi_lk k t 0
 rw [hf k, <- hlk] at hk
 cases hfi : fi k t 0 with
 | none => rw [hfi] at hk; simpa using hk
 | some p => rw [hfi] at hk; simpa using hk

theorem IMapL.set {t : List Ent} {i : Nat} {k : Int} {v old : Value} (ht : IMapL es c t) (hfi : fi k t 0 = some (i, old)) :
  IMapL (es.modify i fun e => { e with key := .int .i64 k, val := v }) c (t.map fun x => if x.1 = k then (x.1, v, x.2.2) else x) := by
 have hm := (fi_modify (g := fun x => (x.1, v, x.2.2)) ht.keys hfi).2
 rw [Nat.sub_zero] at hm
 refine ⟨?_, ?_, ?_, ?_⟩
 ·rw [Array.toList_modify, ht.ents, <- hm]
  apply List.ext_getElem
  ·simp
  ·intro j h1 h2
   simp only [List.getElem_modify, List.getElem_map]
   split
   ·rename_i e; subst e
    have hlt : i < t.length := by simpa using h1
    have : (t.modify i fun x => (x.1, v, x.2.2))[i]? = (t.map fun x => if x.1 = k then (x.1, v, x.2.2) else x)[i]? := by rw [hm]
    have hkey : t[i].1 = k := by
     have key : ∀ (t : List Ent) (j i : Nat), fi k t j = some (i, old) -> ∃ hlt : i - j < t.length, t[i - j].1 = k /\ j <= i := by
      intro t
      induction t with
      | nil => intro j i h; cases h
      | cons x t ih =>
       intro j i h
       simp only [fi] at h
       split at h
       ·rename_i hx
        simp only [Option.some.injEq, Prod.mk.injEq] at h
        obtain ⟨rfl, _⟩ := h
        exact ⟨by simp, by simpa using hx, Nat.le_refl _⟩
       ·obtain ⟨h1, h2, h3⟩ := ih _ _ h
        refine ⟨by simp; omega, ?_, by omega⟩
        have : i - j = (i - (j + 1)) + 1 := by omega
        simp only [this, List.getElem_cons_succ]; exact h2
     obtain ⟨_, h2, _⟩ := key t 0 i hfi
     simpa using h2
    simp [ent, hkey]
   ·rfl
 ·have : (t.map fun x => if x.1 = k then (x.1, v, x.2.2) else x).map (·.1) = t.map (·.1) := by
   rw [List.map_map]; apply List.map_congr_left; intro x _; simp only [Function.comp]; split <;> rfl
  rw [this]; exact ht.keys
 ·have : (t.map fun x => if x.1 = k then (x.1, v, x.2.2) else x).map (·.2.2) = t.map (·.2.2) := by
   rw [List.map_map]; apply List.map_congr_left; intro x _; simp only [Function.comp]; split <;> rfl
  rw [this]; exact ht.borns
 ·intro x hx
  obtain ⟨y, hy, rfl⟩ := List.mem_map.1 hx
  have := ht.old y hy
  split <;> exact this

theorem IMapL.push {t : List Ent} {k : Int} {v : Value} (ht : IMapL es c t) (hfi : fi k t 0 = none) :
  IMapL (es.push { key := .int .i64 k, val := v, born := c }) (c + 1) (t ++ [(k, v, c)]) := by
 refine ⟨by simp [ht.ents, ent], ?_, ?_, ?_⟩
 ·rw [List.map_append, List.nodup_append]
  refine ⟨ht.keys, by simp, ?_⟩
  intro a ha b hb
  obtain ⟨x, hx, rfl⟩ := List.mem_map.1 ha
  simp only [List.map_cons, List.map_nil, List.mem_singleton] at hb; subst hb
  exact fi_none hfi x hx
 ·rw [List.map_append, List.nodup_append]
  refine ⟨ht.borns, by simp, ?_⟩
  intro a ha b hb
  obtain ⟨x, hx, rfl⟩ := List.mem_map.1 ha
  simp only [List.map_cons, List.map_nil, List.mem_singleton] at hb; subst hb
  exact Nat.ne_of_lt (ht.old x hx)
 ·intro x hx
  rcases List.mem_append.1 hx with hx | hx
  ·exact Nat.lt_succ_of_lt (ht.old x hx)
  ·rw [List.mem_singleton.1 hx]; exact Nat.lt_succ_self _

theorem lk_set {t : List Ent} {k : Int} {v old : Value} {i : Nat} (hfi : fi k t 0 = some (i, old)) (x : Int) :
  lk x (t.map fun x => if x.1 = k then (x.1, v, x.2.2) else x) = if x = k then some v else lk x t := by
 rw [lk_map]
 split
 ·rw [<- fi_lk k t 0, hfi]; rfl
 ·rfl

theorem lk_push {t : List Ent} {k : Int} {v : Value} {b : Nat} (hfi : fi k t 0 = none) (x : Int) :
  lk x (t ++ [(k, v, b)]) = if x = k then some v else lk x t := by
 rw [lk_append]
 by_cases hx : x = k
 ·subst hx; rw [lk_none (fi_none hfi)]; simp [lk]
 ·have : ¬ k = x := fun e => hx e.symm
  simp [hx, lk, this]

theorem mapSet_of {k : Int} {v : Value} {K : KT} (hm : h[m]? = some (.map es c)) (hi : IMap es c f)
  (hk : ∀ es' c', IMap es' c' (fset f k v) -> K undef (upd h m (.map es' c'))) : pMapSet (.int .i64) (.map (some m)) (.int .i64 k) v h K := by
 obtain ⟨t, ht, hf⟩ := hi
 simp only [pMapSet, hm, ht.ents, findK_int, findNow_ents]
 cases hfi : fi k t 0 with
 | none => exact hk _ _ ⟨_, ht.push hfi, fun x => by rw [lk_push hfi]; simp [fset, hf]⟩
 | some p => exact hk _ _ ⟨_, ht.set hfi, fun x => by rw [lk_set hfi]; simp [fset, hf]⟩

def Stamp (es : Array MapEntry) (s k : Int) : Prop := ∃ e ∈ es.toList, e.key = .int .i64 k /\ (e.born : Int) = s

theorem mapEntry_of {k : Int} {z : Value} {K : KT} (hm : h[m]? = some (.map es c)) (hi : IMap es c f)
  (hk : ∀ es' c' s, IMap es' c' (fset f k ((f k).getD z)) -> Stamp es' s k -> K (.tuple #[(f k).getD z, .int .i64 s]) (upd h m (.map es' c'))) :
  pMapEntry (.int .i64) z (.map (some m)) (.int .i64 k) h K := by
 obtain ⟨t, ht, hf⟩ := hi
 simp only [pMapEntry, hm, ht.ents, findK_int, findNow_ents]
 have hlk := fi_lk k t 0
 cases hfi : fi k t 0 with
 | none =>
  rw [hfi] at hlk
  have hfk : f k = none := by rw [hf]; exact hlk.symm
  rw [hfk] at hk
  refine hk _ _ _ ⟨_, ht.push hfi, fun x => by rw [lk_push hfi]; simp [fset, hf]⟩ ⟨{ key := .int .i64 k, val := z, born := c }, by simp, rfl, rfl⟩
 | some p =>
  obtain ⟨i, v⟩ := p
  rw [hfi] at hlk
  have hfk : f k = some v := by rw [hf]; exact hlk.symm
  rw [hfk] at hk
  have hset := ht.set (v := v) hfi
  obtain ⟨_, hmod⟩ := fi_modify (g := fun x => x) ht.keys hfi
  have hi : i < t.length := by
   have key : ∀ (t : List Ent) (j i : Nat), fi k t j = some (i, v) -> i - j < t.length /\ j <= i := by
    intro t
    induction t with
    | nil => intro j i h; cases h
    | cons x t ih =>
     intro j i h
     simp only [fi] at h
     split at h
     ·simp only [Option.some.injEq, Prod.mk.injEq] at h
      obtain ⟨rfl, _⟩ := h
      exact ⟨by simp, Nat.le_refl _⟩
     ·obtain ⟨h1, h2⟩ := ih _ _ h
      exact ⟨by simp; omega, by omega⟩
   simpa using (key t 0 i hfi).1
  have hes : es[i]? = some (ent t[i]) := by
   rw [<- Array.getElem?_toList, ht.ents]; simp [hi]
  have hti : t[i].1 = k /\ t[i].2.1 = v := by
   obtain ⟨_, e, he, hv, hs⟩ := findNow_some (by rw [findNow_ents, hfi] : Instr.findNow (.int .i64) (.int .i64 k) (t.map ent) 0 = some (some (i, v)))
   simp [hi] at he; subst he
   simp [ent, Instr.sameNow] at hv hs
   exact ⟨hs.symm, hv⟩
  have hsame : (es.modify i fun e => { e with key := .int .i64 k }) = es.modify i fun e => { e with key := .int .i64 k, val := v } := by
   apply Array.ext
   ·simp
   ·intro j h1 h2
    simp only [Array.getElem_modify]
    split
    ·rename_i e; subst e
     have hlt : i < es.size := by simpa using h1
     have : es[i]? = some es[i] := Array.getElem?_eq_getElem hlt
     rw [hes] at this
     simp only [Option.some.injEq] at this
     rw [<- this]; simp [ent, hti.2]
    ·rfl
  dsimp only
  rw [hsame, hes]
  refine hk _ _ _ ⟨_, hset, fun x => by rw [lk_set hfi]; simp [fset, hf]⟩ ?_
  refine ⟨{ (ent t[i]) with key := .int .i64 k, val := v }, ?_, rfl, rfl⟩
  rw [Array.toList_modify]
  refine List.mem_of_getElem? (i := i) ?_
  simp [hes]

theorem entryStore_of {k s : Int} {v : Value} {K : KT} (hm : h[m]? = some (.map es c)) (hi : IMap es c f) (hs : Stamp es s k)
  (hk : ∀ es', IMap es' c (fset f k v) -> K undef (upd h m (.map es' c))) : pEntryStore (.map (some m)) (.int .i64 s) v h K := by
 obtain ⟨t, ht, hf⟩ := hi
 obtain ⟨e, he, hek, hes⟩ := hs
 rw [ht.ents] at he
 obtain ⟨x, hx, rfl⟩ := List.mem_map.1 he
 simp only [ent, Value.int.injEq, true_and] at hek hes
 have hxk : x.1 = k := by simpa using hek
 simp only [pEntryStore, hm]
 -- the place of the stamp
 have key : ∀ (t : List Ent), (t.map (·.1)).Nodup -> (t.map (·.2.2)).Nodup -> x ∈ t -> ∃ i, (t.map ent).findIdx? (fun e => (e.born : Int) == s) = some i /\ ∀ j, fi k t j = some (i + j, x.2.1) := by
  intro t
  induction t with
  | nil => intro _ _ hx; cases hx
  | cons y t ih =>
   intro hk hb hx
   simp only [List.map_cons, List.nodup_cons] at hk hb
   by_cases hy : y = x
   ·subst hy
    refine ⟨0, ?_, fun j => by simp [fi, hxk]⟩
    simp [List.findIdx?_cons, ent, hes]
   ·have hx' : x ∈ t := by
     rcases List.mem_cons.1 hx with h | h
     ·exact (hy h.symm).elim
     ·exact h
    obtain ⟨i, h1, h2⟩ := ih hk.2 hb.2 hx'
    have hyb : ¬ ((y.2.2 : Int) = s) := by
     rw [<- hes]; intro e
     have : y.2.2 = x.2.2 := by exact_mod_cast e
     exact hb.1 (this ▸ List.mem_map_of_mem hx')
    have hyk : y.1 ≠ k := fun e => hk.1 (by rw [e, <- hxk]; exact List.mem_map_of_mem hx')
    refine ⟨i + 1, ?_, fun j => ?_⟩
    ·rw [List.map_cons, List.findIdx?_cons]
     simp only [ent, beq_iff_eq, hyb, if_false]
     rw [show (fun (e : MapEntry) => (e.born : Int) == s) = fun e => (e.born : Int) == s from rfl, h1]; rfl
    ·simp only [fi, if_neg hyk]
     rw [h2 (j + 1)]; congr 2; omega
 obtain ⟨i, h1, h2⟩ := key t ht.keys ht.borns hx
 have hidx : es.findIdx? (fun e => (e.born : Int) == s) = some i := by
  have e : es = (t.map ent).toArray := Array.ext' ht.ents
  rw [e, List.findIdx?_toArray]; exact h1
 rw [hidx]
 have hfi : fi k t 0 = some (i, x.2.1) := by simpa using h2 0
 have hset := ht.set (v := v) hfi
 have hsame : (es.modify i fun e => { e with val := v }) = es.modify i fun e => { e with key := .int .i64 k, val := v } := by
  obtain ⟨_, e, he, _, hs⟩ := findNow_some (by rw [findNow_ents, hfi] : Instr.findNow (.int .i64) (.int .i64 k) (t.map ent) 0 = some (some (i, x.2.1)))
  rw [Nat.sub_zero, <- ht.ents, Array.getElem?_toList] at he
  apply Array.ext
  ·simp
  ·intro j h1 h2
   simp only [Array.getElem_modify]
   split
   ·rename_i e2; subst e2
    have hlt : i < es.size := by simpa using h1
    have h3 : es[i]? = some es[i] := Array.getElem?_eq_getElem hlt
    rw [he] at h3
    simp only [Option.some.injEq] at h3
    have hek : e ∈ es.toList := by rw [<- Array.getElem?_toList] at he; exact List.mem_of_getElem? he
    rw [ht.ents] at hek
    obtain ⟨y, _, rfl⟩ := List.mem_map.1 hek
    rw [<- h3]
    simp only [ent, Instr.sameNow, if_true, Option.some.injEq, beq_iff_eq] at hs
    simp [ent, hs]
   ·rfl
 dsimp only
 rw [hsame]
 exact hk _ ⟨_, hset, fun x => by rw [lk_set hfi]; simp [fset, hf]⟩

theorem delete_of {k : Int} {K : KT} (hm : h[m]? = some (.map es c)) (hi : IMap es c f)
  (hk : ∀ es', IMap es' c (fdel f k) -> K (.tuple #[]) (upd h m (.map es' c))) : pDelete (.int .i64) (.map (some m)) (.int .i64 k) h K := by
 obtain ⟨t, ht, hf⟩ := hi
 simp only [pDelete, hm, ht.ents, findK_int, findNow_ents]
 cases hfi : fi k t 0 with
 | none =>
  refine hk es ⟨t, ht, fun x => ?_⟩
  unfold fdel
  split
  ·rename_i e; subst e; exact (lk_none (fi_none hfi)).symm
  ·exact hf x
 | some p =>
  obtain ⟨i, v⟩ := p
  obtain ⟨_, hlt, her⟩ := fi_erase ht.keys hfi
  rw [Nat.sub_zero] at hlt her
  have hsz : i < es.size := by
   have := congrArg List.length ht.ents; simp at this; omega
  have hes : (es.eraseIdxIfInBounds i).toList = (t.filter fun x => x.1 ≠ k).map ent := by
   unfold Array.eraseIdxIfInBounds
   rw [dif_pos hsz, Array.toList_eraseIdx, ht.ents, <- her, map_eraseIdx]
  refine hk _ ⟨t.filter fun x => x.1 ≠ k, ⟨hes, ?_, ?_, ?_⟩, fun x => ?_⟩
  ·exact (List.filter_sublist.map _).nodup ht.keys
  ·exact (List.filter_sublist.map _).nodup ht.borns
  ·intro x hx; exact ht.old x (List.mem_filter.1 hx).1
  ·rw [lk_filter]; unfold fdel; split
   ·rfl
   ·exact hf x

end
end Go.Mh


