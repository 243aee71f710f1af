/- Texts of the proofs of seat YtmdldoolnhpaeaaGreatDoor, joined: OwnD, OwnX, Defer2, OwnO, OwnF, CellM, Rev, Panic, Panic2, Que, Bits, Disk, ViewA, ViewB, Seek, Seek2, Raw3, ViewC, ViewD, ViewE, ViewX. They have no conditions of their own. -/
import Derived.Test.YtmdldoolnhpaeaaGreatDoorMc
import Derived.Test.YtmdldoolnhpaeaaGreatDoorMb
import Derived.RecoverIn
import Derived.OpenShut
set_option linter.unusedVariables false
set_option linter.unusedSimpArgs false
set_option linter.unusedSectionVars false

namespace Go.Mh
open Go

def sepR (l : List Res) : Res := ⟨fun b => ∃ r ∈ l, r.F b, fun h => (∀ r ∈ l, r.Q h) /\ ∀ {i j : Nat} {r s : Res}, l[i]? = some r -> l[j]? = some s -> i ≠ j -> ∀ b, r.F b -> ¬ s.F b,
 fun hs hq => ⟨fun r hr => r.st (fun b hb => hs b ⟨r, hr, hb⟩) (hq.1 r hr), hq.2⟩⟩

section
variable {h0 h h' : Heap} {L l : List Res} {i j : Nat} {r : Res}

theorem Own.out (o : Own h0 h L) (i : Nat) (hi : L[i]? = some (sepR l)) : Own h0 h (l ++ L.set i nilR) := by
 have hlt : i < L.length := (List.getElem?_eq_some_iff.1 hi).1
 have key : ∀ {j s}, (l ++ L.set i nilR)[j]? = some s -> (j < l.length /\ l[j]? = some s) \/ (l.length <= j /\ ((j - l.length = i /\ s = nilR) \/ (j - l.length ≠ i /\ L[j - l.length]? = some s))) := by
  intro j s hs
  by_cases h1 : j < l.length
  ·rw [List.getElem?_append_left h1] at hs; exact .inl ⟨h1, hs⟩
  ·rw [List.getElem?_append_right (by omega)] at hs
   refine .inr ⟨by omega, ?_⟩
   by_cases e : j - l.length = i
   ·rw [e, List.getElem?_set_self hlt] at hs
    exact .inl ⟨e, (Option.some.inj hs).symm⟩
   ·rw [List.getElem?_set_ne (fun e' => e e'.symm)] at hs
    exact .inr ⟨e, hs⟩
 have q := o.q hi
 refine ⟨o.ext, fun {k s} hs => ?_, fun {a c s t} hs ht hne b hb hb' => ?_⟩
 ·rcases key hs with ⟨_, hs⟩ | ⟨_, ⟨_, rfl⟩ | ⟨_, hs⟩⟩
  ·have hm := List.mem_of_getElem? hs
   exact ⟨q.1.1 s hm, fun b hb => q.2 b ⟨s, hm, hb⟩⟩
  ·exact ⟨trivial, fun b hb => hb.elim⟩
  ·exact o.q hs
 ·rcases key hs with ⟨h1, hs⟩ | ⟨h1, ⟨_, rfl⟩ | ⟨e1, hs⟩⟩ <;> rcases key ht with ⟨h2, ht⟩ | ⟨h2, ⟨_, rfl⟩ | ⟨e2, ht⟩⟩
  ·exact q.1.2 hs ht hne b hb hb'
  ·exact hb'
  ·exact o.ap hi ht (fun e => e2 e.symm) b ⟨s, List.mem_of_getElem? hs, hb⟩ hb'
  ·exact hb
  ·exact hb
  ·exact hb
  ·exact o.ap hi hs (fun e => e1 e.symm) b ⟨t, List.mem_of_getElem? ht, hb'⟩ hb
  ·exact hb'
  ·exact o.ap hs ht (by omega) b hb hb'

theorem Own.back (o : Own h0 h (l ++ L)) (i : Nat) (hi : L[i]? = some nilR) : Own h0 h (L.set i (sepR l)) := by
 have hlt : i < L.length := (List.getElem?_eq_some_iff.1 hi).1
 have kl : ∀ {j s}, l[j]? = some s -> (l ++ L)[j]? = some s := fun {j s} hj => by
  rw [List.getElem?_append_left (List.getElem?_eq_some_iff.1 hj).1]; exact hj
 have kr : ∀ {j s}, L[j]? = some s -> (l ++ L)[l.length + j]? = some s := fun {j s} hj => by
  rw [List.getElem?_append_right (by omega), show l.length + j - l.length = j by omega]; exact hj
 have key : ∀ {j s}, (L.set i (sepR l))[j]? = some s -> (j = i /\ s = sepR l) \/ (j ≠ i /\ L[j]? = some s) := by
  intro j s hs
  by_cases e : j = i
  ·subst e
   rw [List.getElem?_set_self hlt] at hs
   exact .inl ⟨rfl, (Option.some.inj hs).symm⟩
  ·rw [List.getElem?_set_ne (fun e' => e e'.symm)] at hs
   exact .inr ⟨e, hs⟩
 refine ⟨o.ext, fun {k s} hs => ?_, fun {a c s t} hs ht hne b hb hb' => ?_⟩
 ·rcases key hs with ⟨_, rfl⟩ | ⟨_, hs⟩
  ·refine ⟨⟨fun r hr => ?_, fun hi hj hne => o.ap (kl hi) (kl hj) hne⟩, fun b ⟨r, hr, hb⟩ => ?_⟩
   ·obtain ⟨k, hk⟩ := List.getElem?_of_mem hr
    exact (o.q (kl hk)).1
   ·obtain ⟨k, hk⟩ := List.getElem?_of_mem hr
    exact (o.q (kl hk)).2 b hb
  ·exact o.q (kr hs)
 ·rcases key hs with ⟨e1, rfl⟩ | ⟨e1, hs⟩ <;> rcases key ht with ⟨e2, rfl⟩ | ⟨e2, ht⟩
  ·exact hne (e1.trans e2.symm)
  ·obtain ⟨r, hr, hb⟩ := hb
   obtain ⟨k, hk⟩ := List.getElem?_of_mem hr
   have := (List.getElem?_eq_some_iff.1 hk).1
   exact o.ap (kl hk) (kr ht) (by omega) b hb hb'
  ·obtain ⟨r, hr, hb'⟩ := hb'
   obtain ⟨k, hk⟩ := List.getElem?_of_mem hr
   have := (List.getElem?_eq_some_iff.1 hk).1
   exact o.ap (kl hk) (kr hs) (by omega) b hb' hb
  ·exact o.ap (kr hs) (kr ht) (by omega) b hb hb'

theorem Own.sep (o : Own h0 h (l ++ L)) : Own h0 h (sepR l :: L) := by
 have o1 : Own h0 h ((l ++ L) ++ [nilR]) := Own.rot (o.cons (r := nilR) (.refl _ _) trivial fun b hb => hb.elim)
 have o2 : Own h0 h (l ++ (L ++ [nilR])) := by rwa [<- List.append_assoc]
 have o3 := o2.back L.length (by rw [List.getElem?_append_right (Nat.le_refl _), Nat.sub_self]; rfl)
 rw [List.set_append_right _ _ (Nat.le_refl _), Nat.sub_self] at o3
 exact Own.comm o3

end

def encB8 (b : UInt8) : List Value := [.int .u8 b.toNat]
theorem encB8_plain (x : UInt8) : ∀ u ∈ encB8 x, plainCell u = true := by intro u hu; simp [encB8] at hu; subst hu; rfl

open Go

section
variable {h0 h : Heap} {L X Y Z l : List Res} {r : Res} {j p : Nat}

theorem Own.sepAdd (o : Own h0 h (r :: L)) (hj : L[j]? = some (sepR l)) : Own h0 h (L.set j (sepR (l ++ [r]))) := by
 have hlt : j < L.length := (List.getElem?_eq_some_iff.1 hj).1
 have o1 : Own h0 h (l ++ (r :: L.set j nilR)) := o.out (j + 1) hj
 have e : l ++ (r :: L.set j nilR) = (l ++ [r]) ++ L.set j nilR := by simp
 rw [e] at o1
 have o2 := o1.back j (List.getElem?_set_self hlt)
 rwa [List.set_set] at o2

end
open Go

def deferPostR (P : Program) (rs : List ResultVar) (f : FuncId) (args : Array Value) (K : KT) : Exit -> VEnv -> List Nat -> Heap -> Prop
 | .ret, e, m, h => takeM m h fun h' => DeferS P f args h' fun h'' => resQ P e h'' rs fun l => K (oneOr l) h''
 | _, _, _, _ => False

def thenDeferIf (P : Program) (n : Nat) (c : Operand) (B : Code) (annB : Ann) (C : Code) (annC : Ann) (rs : List ResultVar) (s : Tmp) (f : FuncId) (caps : List Operand) (K : KT) : Exit -> VEnv -> List Nat -> Heap -> Prop
 | .normal, e, [], h => (match knownO e c with
  | true => ifV (ev e c) (match knownL e caps, Nat.blt s n with
   | true, true => compile P n false B annB ((s, .func (.func f) #[] (caps.map (ev e)).toArray) :: e) [] h (deferPostR P rs f (caps.map (ev e)).toArray K)
   | _, _ => False) (compile P n false C annC e [] h (fnPost P rs K))
  | false => False)
 | _, _, _, _ => False

def thenOn (P : Program) (n : Nat) (A : Code) (ann : Ann) (K : Exit -> VEnv -> List Nat -> Heap -> Prop) : Exit -> VEnv -> List Nat -> Heap -> Prop
 | .normal, e, [], h => compile P n false A ann e [] h K
 | _, _, _, _ => False

def cT : Code -> Code
 | .cond _ a _ => a
 | c => c

section
variable {P : Program}

theorem callsH_deferIf {f g : FuncId} {fn : Func} {A A' B C : Code} {annA annA' annB annC : Ann} {id : Nat} {o1 o2 : Oper} {s : Tmp} {co : Operand} {caps : Array Operand} {c : Call} {args : List Value} {h : Heap} {K : KT}
  (hf : P.funcs[f]? = some fn) (hb : fn.body = some (.seq A (.seq (.seq A' (.cond co (.seq (.region id #[o1, o2] false) B) .skip)) C))) (hcal : Callable P f = true) (hm : P.follows .mixedOrders = true) (hlen : args.length <= fn.ntmps)
  (h1 : o1.op = .makeFunc (.func g) #[] caps) (hd1 : o1.dst = some s) (hg1 : o1.guard = none) (h2 : o2.op = .defer c) (hc : c.callee = .value (.tmp s)) (hca : c.args = #[]) (hd2 : o2.dst = none) (hg2 : o2.guard = none)
  (hq : compile P fn.ntmps false A annA (argE args 0) [] h (thenOn P fn.ntmps A' annA' (thenDeferIf P fn.ntmps co B annB C annC fn.results.toList s g caps.toList K))) : CallsH P f args.toArray h K := by
 refine ⟨hcal, fun w hw => ?_⟩
 refine callsIn_of_wp_marks hf hb trivial ?_
 have hrel : Rel (argE args 0) (args.toArray ++ Array.replicate (fn.ntmps - args.toArray.size) undef) := by
  intro s v hs
  obtain ⟨_, h2⟩ := look_argE hs
  rw [Nat.sub_zero] at h2
  have hlt : s < args.length := (List.getElem?_eq_some_iff.1 h2).1
  rw [Array.getElem?_append_left (by simpa using hlt)]
  simpa using h2
 have hsz : (args.toArray ++ Array.replicate (fn.ntmps - args.toArray.size) undef).size = fn.ntmps := by simp; omega
 refine wpIn_seq ?_
 refine compile_sound A annA none _ [] h _ hq hm [] _ w _ hrel hsz rfl hw ?_
 intro ex e' m' a' w' hr' hn' hd' hs' _ _ hk
 cases ex <;> try exact hk.elim
 cases m' with
 | cons D m => exact hk.elim
 | nil =>
 show (Code.seq _ C).wpIn Fence.wide 0 P _ a' w'
 refine wpIn_seq (wpIn_seq ?_)
 refine compile_sound A' annA' none _ [] w'.heap _ hk hm [] _ w' _ hr' hn' hd' rfl ?_
 intro ex1 e1 m1 a1 w1 hr1 hn1 hd1' hs1 _ _ hk1
 cases ex1 <;> try exact hk1.elim
 cases m1 with
 | cons D m => exact hk1.elim
 | nil =>
 simp only [thenDeferIf] at hk1
 split at hk1
 ·rename_i hkc
  have he : a1.eval co = ev e1 co := by rw [eval_evA, hr1.ev hkc]
  unfold ifV at hk1
  split at hk1
  ·rename_i hv
   refine wpIn_cond_true (he.trans hv) ?_
   split at hk1
   ·rename_i hkn hsn
    have hsn : s < fn.ntmps := Nat.le_of_ble_eq_true hsn
    refine wpIn_seq ?_
    refine wpIn_defer (ro := none) rfl h1 hd1 hg1 h2 hc hca hd2 hg2 (by rw [hn1]; exact hsn) ?_
    have hev : caps.map (evA a1.tmps) = (caps.toList.map (ev e1)).toArray := by
     apply Array.ext'
     rw [Array.toList_map]
     apply List.map_congr_left
     intro x hx
     exact (hr1.ev (knownL_mem hkn x hx)).symm
    have hd0 : a1.defers = [] := hd1'
    rw [hev, hd0]
    have hr2 : Rel ((s, .func (.func g) #[] (caps.toList.map (ev e1)).toArray) :: e1) (putA a1.tmps (some s) (.func (.func g) #[] (caps.toList.map (ev e1)).toArray)) :=
     hr1.put (dst := some s) (by rw [hn1]; simpa [dstOk] using hsn)
    refine compile_sound B annB none _ [] w1.heap _ hk1 hm [{ target := .fn (.func g) (caps.toList.map (ev e1)).toArray, args := #[] }] _ w1 _ hr2 (by rw [putA_size]; exact hn1) rfl rfl ?_
    intro ex2 e2 m2 a2 w2 hr3 hn3 hd3 hs3 _ _ hk2
    have fin : takeM m2 w2.heap (fun h' => DeferS P g (caps.toList.map (ev e1)).toArray h' fun h'' => resQ P e2 h'' fn.results.toList fun l => K (oneOr l) h'') ->
      LeavesInM Fence.wide 0 P fn a2.tmps (fun e w' => ∃ v, e = .returned v /\ Same w w' /\ K v w'.heap) a2.defers .returning w2 := by
     intro hk
     rw [hd3]
     refine leaves_defer (dargs := #[]) (w0 := w2) hr3 (fun v w'' hs'' hk'' => ⟨v, rfl, ((hs'.trans hs1).trans hs3).trans hs'', hk''⟩) m2 w2 (.refl _) ?_
     simpa using hk
    cases ex2 <;> try exact hk2.elim
    exact fin hk2
   ·exact hk1.elim
  ·rename_i hv
   refine wpIn_cond_false (he.trans hv) (wpIn_skip ?_)
   show C.wpIn Fence.wide 0 P _ a1 w1
   refine compile_sound C annC none _ [] w1.heap _ hk1 hm [] _ w1 _ hr1 hn1 hd1' rfl ?_
   intro ex2 e2 m2 a2 w2 hr3 hn3 hd3 hs3 _ _ hk2
   have fin : takeM m2 w2.heap (fun h' => resQ P e2 h' fn.results.toList fun l => K (oneOr l) h') ->
     LeavesInM Fence.wide 0 P fn a2.tmps (fun e w' => ∃ v, e = .returned v /\ Same w w' /\ K v w'.heap) a2.defers .returning w2 := by
    intro hk
    rw [hd3, List.append_nil]
    exact leaves_of hr3 (fun v w'' hs'' hk'' => ⟨v, rfl, ((hs'.trans hs1).trans hs3).trans hs'', hk''⟩) m2 w2 (.refl _) hk
   cases ex2 <;> try exact hk2.elim
   ·exact fin hk2
   ·exact fin hk2
  ·exact hk1.elim
 ·exact hk1.elim

def plainPost (P : Program) (rs : List ResultVar) (K : KT) : Exit -> VEnv -> List Nat -> Heap -> Prop
 | .normal, e, [], h | .ret, e, [], h => resQ P e h rs fun l => K (oneOr l) h
 | _, _, _, _ => False

theorem deferS_of {f : FuncId} {fn : Func} {c : Code} {ann : Ann} {args : List Value} {h : Heap} {K : Heap -> Prop} (hf : P.funcs[f]? = some fn) (hb : fn.body = some c)
  (hcal : Callable P f = true) (hm : P.follows .mixedOrders = true) (hlen : args.length <= fn.ntmps)
  (hc : compile P fn.ntmps false c ann (argE args 0) [] h (plainPost P fn.results.toList fun _ h' => K h')) : DeferS P f args.toArray h K := by
 refine ⟨hcal, fun w hw => ?_⟩
 have hrel : Rel (argE args 0) (args.toArray ++ Array.replicate (fn.ntmps - args.toArray.size) undef) := by
  intro s v hs
  obtain ⟨_, h2⟩ := look_argE hs
  rw [Nat.sub_zero] at h2
  have hlt : s < args.length := (List.getElem?_eq_some_iff.1 h2).1
  rw [Array.getElem?_append_left (by simpa using hlt)]
  simpa using h2
 have hsz : (args.toArray ++ Array.replicate (fn.ntmps - args.toArray.size) undef).size = fn.ntmps := by simp; omega
 refine (callsDIn_of_wp (R := fun e w' => ∃ v, e = .returned v /\ Same w w' /\ K w'.heap) hf hb trivial ?_).mono fun e u w' ⟨hu, v, he, hs, hk⟩ => ⟨v, he, hu, hs, hk⟩
 refine compile_sound c ann none _ [] h _ hc hm [] _ w _ hrel hsz rfl hw ?_
 intro ex e' m' a' w' hr' hn' hd' hs' _ _ hk
 have fin : m' = [] -> resQ P e' w'.heap fn.results.toList (fun l => K w'.heap) -> a'.defers = [] /\ ∃ v, (results fn a'.tmps).run P w' = .ok v w' /\ ∃ v', Ending.returned v = .returned v' /\ Same w w' /\ K w'.heap := by
  intro hm' hk3
  subst hm'
  obtain ⟨l, hl, hk4⟩ := results_sound hr' hk3
  exact ⟨hd', _, rdS_run hl w' rfl, _, rfl, hs', hk4⟩
 cases ex <;> try exact hk.elim
 ·cases m' with
  | nil => exact fin rfl hk
  | cons _ _ => exact hk.elim
 ·cases m' with
  | nil => exact fin rfl hk
  | cons _ _ => exact hk.elim

end
open Go

section
variable {P : Program} {h0 h h' : Heap} {L : List Res} {i b off n : Nat}

def IterO (P : Program) (fv : Value) {σ : Type} (Q : Heap -> Prop) (s0 : σ) (next : σ -> List Value -> Res -> σ -> Prop) (stop : σ -> Prop) : Prop :=
 ∀ (yv : Value) (h0 h : Heap) (Rs : List Res) (K : KT) (J : σ -> List Res -> Prop) (E : List Res -> Prop), (∃ l, yv = yieldV l) ->
  Own h0 h Rs -> J s0 Rs -> (∀ s Rs' h', J s Rs' -> Own h0 h' Rs' -> Q h') ->
  (∀ s x X s' Rs' Pr h' R, next s x X s' -> J s Rs' -> Own h0 h' (X :: (Rs' ++ Pr)) -> (∀ Rs'' h'', J s' Rs'' -> Own h0 h'' (Rs'' ++ Pr) -> R (.bool true) h'') ->
   (∀ Rs'' h'', E Rs'' -> Own h0 h'' (Rs'' ++ Pr) -> R (.bool false) h'') -> callV P yv x.toArray h' R) ->
  (∀ Rs' h', ((∃ s, stop s /\ J s Rs') \/ E Rs') -> Own h0 h' Rs' -> K (.tuple #[]) h') -> callF P fv #[yv] h K

theorem Own.rangeO {fv : Value} {σ : Type} {Q : Heap -> Prop} {s0 : σ} {next : σ -> List Value -> Res -> σ -> Prop} {stop : σ -> Prop} {ps : List Nat} {B : Loop -> Vals ps -> Heap -> (Exit -> Heap -> Prop) -> Prop} {Kn Kr : Heap -> Prop} {Ks : List (Nat × (Heap -> Prop))}
  (o : Own h0 h L) (hI : IterO P fv Q s0 next stop) (hf : ∀ s x X s', next s x X s' -> x.length = ps.length) (J : σ -> List Res -> Prop) (Er : List Res -> Prop) (Ex : Nat -> List Res -> Prop)
  (j0 : J s0 L) (hQ : ∀ s Rs' h', J s Rs' -> Own h0 h' Rs' -> Q h')
  (step : ∀ M s x X s' Rs' Pr h' (R : Exit -> Heap -> Prop), next s x X s' -> J s Rs' -> Own h0 h' (loopR (h.size + 1) (lo M .ready none) :: X :: markR h.size :: (Rs' ++ Pr)) ->
   (∀ Rs'' h'', J s' Rs'' -> Own h0 h'' (loopR (h.size + 1) (lo M .busy none) :: markR h.size :: (Rs'' ++ Pr)) -> R .normal h'') ->
   (∀ Rs'' h'', Er Rs'' -> Own h0 h'' (loopR (h.size + 1) (lo M .busy none) :: markR h.size :: (Rs'' ++ Pr)) -> R .ret h'') ->
   (∀ id Rs'' h'', Ex id Rs'' -> Own h0 h'' (loopR (h.size + 1) (lo M .busy none) :: markR h.size :: (Rs'' ++ Pr)) -> R (.exit id) h'') -> B M (valsOf ps x) h' R)
  (fin : ∀ s h' Rs', stop s -> J s Rs' -> Own h0 h' (markR h.size :: Rs') -> Kn h') (finr : ∀ h' Rs', Er Rs' -> Own h0 h' (markR h.size :: Rs') -> Kr h')
  (finx : ∀ id h' Rs', Ex id Rs' -> Own h0 h' (markR h.size :: Rs') -> lookK Ks id h') :
  rangeH P fv ps (h.size + 1) (h.push (.deferred (some []))) B Kn Kr Ks := by
 intro M hy
 have e1 : (h.push (.deferred (some []))).size = h.size + 1 := push_size
 have o1 : Own h0 (h.push (.deferred (some []))) (markR h.size :: L) := o.new (r := markR h.size) push_new fun b hb => hb
 have o2 : Own h0 ((h.push (.deferred (some []))).push (lo M .ready none)) (loopR (h.size + 1) (lo M .ready none) :: markR h.size :: L) :=
  o1.new (r := loopR (h.size + 1) (lo M .ready none)) (by show (Array.push _ _)[h.size + 1]? = _; rw [<- e1, push_new]) fun b hb => hb.trans e1.symm
 refine hI (yieldV (h.size + 1)) h0 _ _ _ (fun s Rs => ∃ Rs1, Rs = loopR (h.size + 1) (lo M .ready none) :: markR h.size :: Rs1 /\ J s Rs1)
  (fun Rs => ∃ p Rs1, Rs = loopR (h.size + 1) (lo M .done (some p)) :: markR h.size :: Rs1 /\ ((p = .ret /\ Er Rs1) \/ ∃ id, p = .exit id /\ Ex id Rs1)) ⟨_, rfl⟩ o2 ⟨L, rfl, j0⟩
  (fun s Rs' h' ⟨Rs1, e, hj⟩ o' => hQ s Rs1 h' hj (by subst e; exact o'.tail.tail)) ?_ ?_
 ·rintro s x X s' _ Pr h' R hn ⟨Rs1, rfl, hj⟩ o' hT hF
  have o' : Own h0 h' (loopR (h.size + 1) (lo M .ready none) :: X :: markR h.size :: (Rs1 ++ Pr)) := Own.swap o'
  have hb : h'[h.size + 1]? = some (lo M .ready none) := o'.get 0 rfl
  have := hy (valsOf ps x) h' R .ready none hb
  rw [listV_valsOf (hf _ _ _ _ hn)] at this
  refine this (step M s x X s' Rs1 Pr h' _ hn hj o' ?_ ?_ ?_)
  ·intro Rs'' h'' hj' o''
   have hb' : h''[h.size + 1]? = some (lo M .busy none) := o''.get 0 rfl
   have hlt := get_lt hb'
   refine ⟨none, hb', hT (loopR (h.size + 1) (lo M .ready none) :: markR h.size :: Rs'') _ ⟨Rs'', rfl, hj'⟩ ?_⟩
   refine o''.set 0 (r' := loopR (h.size + 1) (lo M .ready none)) rfl (Upd.upd (S := (loopR (h.size + 1) (lo M .busy none)).F) h'' _ rfl) (upd_self hlt) fun c hc => ⟨.inl hc, ?_⟩
   rw [setIf_upd, upd_size]; exact (show c = h.size + 1 from hc) ▸ hlt
  ·intro Rs'' h'' hj' o''
   have hb' : h''[h.size + 1]? = some (lo M .busy none) := o''.get 0 rfl
   have hlt := get_lt hb'
   refine ⟨none, hb', hF (loopR (h.size + 1) (lo M .done (some .ret)) :: markR h.size :: Rs'') _ ⟨.ret, Rs'', rfl, .inl ⟨rfl, hj'⟩⟩ ?_⟩
   refine o''.set 0 (r' := loopR (h.size + 1) (lo M .done (some .ret))) rfl (Upd.upd (S := (loopR (h.size + 1) (lo M .busy none)).F) h'' _ rfl) (upd_self hlt) fun c hc => ⟨.inl hc, ?_⟩
   rw [setIf_upd, upd_size]; exact (show c = h.size + 1 from hc) ▸ hlt
  ·intro id Rs'' h'' hj' o''
   have hb' : h''[h.size + 1]? = some (lo M .busy none) := o''.get 0 rfl
   have hlt := get_lt hb'
   refine ⟨none, hb', hF (loopR (h.size + 1) (lo M .done (some (.exit id))) :: markR h.size :: Rs'') _ ⟨.exit id, Rs'', rfl, .inr ⟨id, rfl, hj'⟩⟩ ?_⟩
   refine o''.set 0 (r' := loopR (h.size + 1) (lo M .done (some (.exit id)))) rfl (Upd.upd (S := (loopR (h.size + 1) (lo M .busy none)).F) h'' _ rfl) (upd_self hlt) fun c hc => ⟨.inl hc, ?_⟩
   rw [setIf_upd, upd_size]; exact (show c = h.size + 1 from hc) ▸ hlt
 ·have close : ∀ {Rs1 : List Res} {h' : Heap} {st : LoopState} {p : Option Code}, Own h0 h' (loopR (h.size + 1) (lo M st p) :: markR h.size :: Rs1) -> Own h0 (upd h' (h.size + 1) (lo M .exhausted p)) (markR h.size :: Rs1) := by
   intro Rs1 h' st p o'
   have hb' : h'[h.size + 1]? = some (lo M st p) := o'.get 0 rfl
   have hlt := get_lt hb'
   exact (o'.set 0 (r' := nilR) rfl (Upd.upd (S := (loopR (h.size + 1) (lo M st p)).F) h' (lo M .exhausted p) rfl) trivial fun c hc => hc.elim).tail
  rintro Rs' h' (⟨s, hs, Rs1, rfl, hj⟩ | ⟨p, Rs1, rfl, hp⟩) o'
  ·exact ⟨.ready, none, by decide, o'.get 0 rfl, fin _ _ _ hs hj (close o')⟩
  ·refine ⟨.done, some p, by decide, o'.get 0 rfl, ?_⟩
   rcases hp with ⟨rfl, he⟩ | ⟨id, rfl, he⟩
   ·exact finr _ _ he (close o')
   ·exact finx _ _ _ he (close o')

end
open Go

variable {α : Type} {enc : α -> List Value} {n m p v : Nat} {T : TypeId} {h0 h : Heap} {L : List Res}

def upF {β : Type} (f : Nat -> β) (p : Nat) (x : β) : Nat -> β := fun v => if v = p then x else f v
theorem upF_same {β : Type} {f : Nat -> β} {x : β} : upF f p x p = x := if_pos rfl
theorem upF_ne {β : Type} {f : Nat -> β} {x : β} (h : v ≠ p) : upF f p x v = f v := if_neg h

def famR (enc : α -> List Value) (n : Nat) (T : TypeId) (kv : Nat -> Value) (ks : Nat -> List α) (m : Nat) : List Res := (List.range m).map fun v => slR enc n T (kv v) (ks v)
theorem famR_get {kv : Nat -> Value} {ks : Nat -> List α} (hv : v < m) : (famR enc n T kv ks m)[v]? = some (slR enc n T (kv v) (ks v)) := by simp [famR, hv]
theorem famR_set {kv : Nat -> Value} {ks : Nat -> List α} {w : Value} {ys : List α} : (famR enc n T kv ks m).set p (slR enc n T w ys) = famR enc n T (upF kv p w) (upF ks p ys) m := by
 apply List.ext_getElem?
 intro i
 by_cases hi : i < m
 ·by_cases e : i = p
  ·subst e
   rw [List.getElem?_set_self (by simp [famR, hi]), famR_get hi, upF_same, upF_same]
  ·rw [List.getElem?_set_ne (fun h => e h.symm), famR_get hi, famR_get hi, upF_ne e, upF_ne e]
 ·rw [List.getElem?_eq_none (by simp [famR]; omega), List.getElem?_eq_none (by simp [famR]; omega)]

theorem Own.fam0 (o : Own h0 h L) : Own h0 h (famR enc n T (fun _ => .slice none 0 0) (fun _ => ([] : List α)) m ++ L) := by
 unfold famR
 generalize List.range m = r
 induction r with
 | nil => exact o
 | cons a r ih => exact ih.nilS

theorem Own.vwm {w : Value} {xs : List α} (o : Own h0 h L) (hm : slR enc n T w xs ∈ L) : Vw enc n h w xs := by
 obtain ⟨i, hi⟩ := List.getElem?_of_mem hm
 exact o.vw i hi

open Go

def nameF (ns : List Int) : Int -> Option Value := fun z => if z ∈ ns then some (.int .i64 (ns.idxOf z : Nat)) else none

theorem lk_mem {k : Int} : ∀ {t : List Ent}, (lk k t).isSome ↔ k ∈ t.map (·.1)
 | [] => by simp [lk]
 | x :: t => by
  unfold lk
  split
  ·rename_i h; simp [h]
  ·rename_i h
   rw [lk_mem (t := t), List.map_cons, List.mem_cons]
   exact ⟨.inr, fun h' => h'.resolve_left fun e => h e.symm⟩

theorem len_sub {α : Type} [DecidableEq α] : ∀ {l m : List α}, l.Nodup -> (∀ x ∈ l, x ∈ m) -> l.length <= m.length
 | [], _, _, _ => Nat.zero_le _
 | x :: l, m, hn, h => by
  have hx := h x List.mem_cons_self
  have h1 := List.nodup_cons.1 hn
  have := len_sub (l := l) (m := m.erase x) h1.2 fun y hy => (List.mem_erase_of_ne (fun e => h1.1 (by rw [<- e]; exact hy))).2 (h y (List.mem_cons_of_mem _ hy))
  rw [List.length_erase_of_mem hx] at this
  have : 0 < m.length := List.length_pos_of_mem hx
  rw [List.length_cons]; omega

theorem nameF_len {es : Array MapEntry} {c : Nat} {ns : List Int} (H : IMap es c (nameF ns)) (hn : ns.Nodup) : es.size = ns.length := by
 obtain ⟨t, ht, hf⟩ := H
 have hk : ∀ z, z ∈ t.map (·.1) ↔ z ∈ ns := fun z => by
  rw [<- lk_mem, <- hf z]
  unfold nameF
  split <;> simp [*]
 have h1 := len_sub ht.keys fun z hz => (hk z).1 hz
 have h2 := len_sub hn fun z hz => (hk z).2 hz
 have : es.toList.length = t.length := by rw [ht.ents, List.length_map]
 rw [List.length_map] at h1 h2
 rw [Array.length_toList] at this
 omega

theorem nameF_add {ns : List Int} {z : Int} (hz : z ∉ ns) (x : Int) : nameF (ns ++ [z]) x = fset (nameF ns) z (.int .i64 (ns.length : Nat)) x := by
 show (if x ∈ ns ++ [z] then some (Value.int .i64 ((ns ++ [z]).idxOf x : Nat)) else none) = if x = z then some (Value.int .i64 (ns.length : Nat)) else if x ∈ ns then some (Value.int .i64 (ns.idxOf x : Nat)) else none
 by_cases e : x = z
 ·subst e
  rw [if_pos (by simp), if_pos rfl, List.idxOf_append, if_neg hz]
  simp
 ·rw [if_neg e]
  by_cases hx : x ∈ ns
  ·rw [if_pos (by simp [hx]), if_pos hx, List.idxOf_append, if_pos hx]
  ·rw [if_neg (by simp [hx, e]), if_neg hx]

open Go
theorem normGo_append : ∀ {l ns r : List Int}, normGo ns (l ++ r) = normGo ns l ++ normGo (nms ns l) r
 | [], _, _ => rfl
 | z :: l, ns, r => by
  rw [List.cons_append, normGo, normGo, normGo_append, List.cons_append]; rfl
theorem nms_append {ns l r : List Int} : nms ns (l ++ r) = nms (nms ns l) r := by unfold nms; rw [List.foldl_append]
theorem nms_len : ∀ {l ns : List Int}, (nms ns l).length <= ns.length + l.length
 | [], _ => Nat.le_refl _
 | z :: l, ns => by
  have := nms_len (l := l) (ns := addN ns z)
  have h2 : (addN ns z).length <= ns.length + 1 := by
   unfold addN; split <;> simp
  show (nms (addN ns z) l).length <= _
  rw [List.length_cons]; omega
open Go
theorem set_same {α : Type} {L : List α} {i : Nat} {r : α} (hi : L[i]? = some r) : L.set i r = L := by
 apply List.ext_getElem?
 intro j
 rw [List.getElem?_set]
 split
 ·rename_i e; subst e; rw [hi]; simp [(List.getElem?_eq_some_iff.1 hi).1]
 ·rfl

def rv (xs : List Int) (k : Nat) : List Int := (List.range xs.length).map fun m => if m < k \/ xs.length - k <= m then xs.getD (xs.length - 1 - m) 0 else xs.getD m 0
open Go

abbrev PanK := List PanicEntry -> Heap -> Prop

def endX (w : World) (K : KT) (Kp : PanK) (e : Ending) (w' : World) : Prop :=
 (∃ v, e = .returned v /\ Same w w' /\ K v w'.heap) \/ (∃ c, e = .panicked c /\ Same w w' /\ Kp c w'.heap)

def CallsX (P : Program) (f : FuncId) (args : Array Value) (h : Heap) (K : KT) (Kp : PanK) : Prop :=
 Callable P f = true /\ ∀ w : World, w.heap = h -> CallsIn Fence.wide 0 P f args w (endX w K Kp)

def RoundX (P : Program) (l : Nat) (f : FuncId) (tmps : Array Value) (assign body : Code) (h : Heap) (K : KT) (Kp : PanK) : Prop :=
 ∀ w : World, w.heap = h -> RoundIn Fence.wide 0 P l f tmps assign body w (endX w K Kp)

def callX (P : Program) (v : Value) (args : Array Value) (h : Heap) (K : KT) (Kp : PanK) : Prop :=
 match v with
 | .func (.func f) first captured => CallsX P f (first ++ args ++ captured) h K Kp
 | .func (.yield l) first _ => (match h[l]? with
  | some (.loop L) => (first ++ args).size = L.params.size /\ RoundX P l L.fn ((L.params.zip (first ++ args)).foldl (fun tmps (t, a) => tmps.setIfInBounds t a) L.tmps) L.assign L.body h K Kp
  | _ => False)
 | _ => False

def nextX (P : Program) (K : KT) (Kp : PanK) : Next -> Heap -> Prop
 | .enter f args, h => ∀ w : World, w.heap = h -> CallsIn Fence.wide 0 P f args w (endX w K Kp)
 | .round l f tmps assign body, h => RoundX P l f tmps assign body h K Kp
 | _, _ => False

section
variable {P : Program}

theorem callX_wp {v : Value} {args : Array Value} {h : Heap} {K : KT} {Kp : PanK} (hq : callX P v args h K Kp) :
  wpS P (do let d <- Deferred.ofValue v args; invoke d.target d.args) h (nextX P K Kp) := by
 unfold callX at hq
 split at hq
 ·refine wpS_rd (rdS_pure _) ?_
  obtain ⟨hc, hk⟩ := hq
  unfold Callable at hc
  split at hc
  ·rename_i fn hfn
   simp only [Bool.and_eq_true, Bool.not_eq_true', beq_eq_false_iff_ne, ne_eq] at hc
   have hb : fn.body.isNone = false := by cases hx : fn.body <;> simp_all
   show wpS P (callFunc _ _) h _
   unfold callFunc
   refine wpS_rd (a := P) (by rfl) ?_
   simp only [hfn, hb]
   rw [if_neg (by simpa using hc.2)]
   exact hk
  ·cases hc
 ·rename_i l first _
  refine wpS_rd (rdS_pure _) ?_
  split at hq
  ·rename_i L hL
   show wpS P (Instr.yield l (first ++ args)) h _
   unfold Instr.yield Instr.getLoop
   refine wpS_rd (a := L) (by rw [rdS_bind (a := .loop L) (by simp [getObj, rdS, hL])]; rfl) ?_
   rw [if_neg (by simpa using hq.1)]
   exact hq.2
  ·exact hq.elim
 ·exact hq.elim

def isX (o : Oper) : Bool :=
 match o.op with
 | .panic _ => true
 | .call { callee := .value _, .. } => true
 | .typeAssert _ _ _ true => true
 | _ => false

def isIfaceT : TypeDesc -> Bool
 | .interface _ => true
 | _ => false

def cOpX (P : Program) (n : Nat) (o : Oper) (e : VEnv) (h : Heap) (K : VEnv -> Heap -> Prop) (Kp : PanK) : Prop :=
 match o.guard with
 | some _ => False
 | none => (match o.op with
  | .panic x => (match knownO e x, ev e x with
   | true, .iface t v => Kp [{ v := .iface t v, recovered := false }] h
   | _, _ => False)
  | .call c => (match c.callee, okOp n o e with
   | .value f, true => callX P (ev e f) (c.args.toList.map (ev e)).toArray h (fun v h' => K (putE e o.dst v) h') Kp
   | _, _ => False)
  | .typeAssert x _ t true => (match okOp n o e, P.underlying t, ev e x with
   | true, some d, .iface t' v => (match isIfaceT d, Nat.beq t' t with
    | false, true => K (putE e o.dst (.tuple #[v, .bool true])) h
    | _, _ => False)
   | _, _, _ => False)
  | _ => False)

def cSeqX (P : Program) (n : Nat) (ops : Array Oper) (Kp : PanK) : List Oper -> VEnv -> Heap -> (VEnv -> Heap -> Prop) -> Prop
 | [], e, h, K => K e h
 | o :: r, e, h, K => (match isX o with
  | true => cOpX P n o e h (fun e' h' => cSeqX P n ops Kp r e' h' K) Kp
  | false => cStep P n ops o e h fun e' h' => cSeqX P n ops Kp r e' h' K)

variable {ops : Array Oper} {n : Nat}

theorem uponX_sound {ro : Option Nat} {o : Oper} {a : Act} {w : World} {Q : Exit -> Act -> World -> Prop} {K : KT} {Kp : PanK} {K' : Act -> World -> Prop}
  (hp : plainOp o.op = true) (hs : wpS P (execOp a.eval o) w.heap (nextX P K Kp))
  (hk : ∀ v w', Same w w' -> K v w'.heap -> K' (a.put o.dst v) w') (hkp : ∀ c w', Same w w' -> Kp c w'.heap -> Q (.panic c) a w') : o.wpIn (WF ro) 0 P a w K' Q := by
 refine ⟨fun f _ => WF_fn ro f, ?_⟩
 rw [semAt_plain hp]
 obtain ⟨x, w', hr, hsame, hx⟩ := wpS_run hs w rfl
 rw [hr]
 cases x <;> simp only [nextX] at hx <;> try exact hx.elim
 ·refine ⟨fun h => by simp [WF_depth] at h, ?_⟩
  refine (WF_calls (hx w' rfl)).mono ?_
  rintro e w'' (⟨v, rfl, hs', hv⟩ | ⟨c, rfl, hs', hv⟩)
  ·exact hk _ _ (hsame.trans hs') hv
  ·exact hkp _ _ (hsame.trans hs') hv
 ·refine ⟨fun h => by simp [WF_depth] at h, ?_⟩
  refine (WF_round (hx w' rfl)).mono ?_
  rintro e w'' (⟨v, rfl, hs', hv⟩ | ⟨c, rfl, hs', hv⟩)
  ·exact hk _ _ (hsame.trans hs') hv
  ·exact hkp _ _ (hsame.trans hs') hv

theorem cOpX_sound {ro : Option Nat} {i : Nat} {o : Oper} {e : VEnv} {a : Act} {w : World} {h : Heap} {K : VEnv -> Heap -> Prop} {Kp : PanK} {K' : Act -> World -> Prop} {Q : Exit -> Act -> World -> Prop}
  (ho : ops[i]? = some o) (hr : Rel e a.tmps) (hn : a.tmps.size = n) (hw : w.heap = h) (hc : cOpX P n o e h K Kp)
  (hk : ∀ e' a' w', Rel e' a'.tmps -> a'.tmps.size = n -> a'.defers = a.defers -> Same w w' -> Fr ops a.tmps a'.tmps -> K e' w'.heap -> K' a' w')
  (hkp : ∀ c w', Same w w' -> Kp c w'.heap -> Q (.panic c) a w') : wpOpIn (WF ro) 0 P ops Q i K' a w := by
 subst hw
 unfold cOpX at hc
 unfold wpOpIn
 rw [ho]
 dsimp only
 split at hc
 ·exact hc.elim
 ·rename_i hg
  have hwt : Region.wanted o (yielded ops a.tmps) = true := by simp [Region.wanted, hg]
  rw [if_pos hwt]
  split at hc
  ·rename_i x hop
   split at hc
   ·rename_i hkn hev
    rename_i t v
    refine ⟨fun f _ => WF_fn ro f, ?_⟩
    rw [semAt_plain (by rw [hop]; rfl)]
    have : (execOp a.eval o).run P w = .halt (.panic (.iface t v)) w := by
     have he : a.eval x = .iface t v := by rw [eval_evA, <- hr.ev hkn]; exact hev
     unfold execOp
     simp only [hop, he]
     rfl
    rw [this]
    exact hkp _ _ (.refl _) hc
   ·exact hc.elim
  ·rename_i c hop
   split at hc
   ·rename_i f hcal hok
    obtain ⟨hp, hkl, hd⟩ := okOp_parts hok
    rw [<- hn] at hd
    have hs : wpS P (execOp (ev e) o) w.heap (nextX P (fun v h' => K (putE e o.dst v) h') Kp) := by
     have core : execOp (ev e) o = (do let d <- Deferred.ofValue (ev e f) (c.args.map (ev e)); invoke d.target d.args) := by
      unfold execOp
      simp only [hop]
      unfold resolve
      simp only [hcal]
     rw [core]
     have := callX_wp hc
     simpa only [listMap_toArray] using this
    rw [execOp_env hr hp hkl, <- eval_evA] at hs
    refine uponX_sound hp hs (fun v w' hs' hv => ?_) hkp
    refine hk (putE e o.dst v) _ _ ?_ ?_ (put_defers _ _ _) hs' ?_ hv
    ·rw [put_tmps]; exact hr.put hd
    ·rw [put_tmps, putA_size]; exact hn
    ·rw [put_tmps]; exact Fr.put ho
   ·exact hc.elim
  ·rename_i x xt t hop
   split at hc
   ·rename_i d t' v hok hd hev
    split at hc
    ·rename_i hni hbt
     have htt := Nat.eq_of_beq_eq_true hbt
     subst htt
     obtain ⟨hp, hkl, hdst⟩ := okOp_parts hok
     rw [<- hn] at hdst
     have hs : rdS P (execOp (ev e) o) w.heap = some (.value (.tuple #[v, .bool true])) := by
      unfold execOp
      simp only [hop, hev]
      refine (rdS_bind (a := .tuple #[v, .bool true]) ?_).trans rfl
      unfold Instr.typeAssert
      rw [rdS_bind (rdS_underlying hd)]
      cases d <;> first | (cases hni; done) | simp [rdS_pure]
     rw [execOp_env hr hp hkl, <- eval_evA] at hs
     refine ⟨fun f _ => WF_fn ro f, ?_⟩
     rw [semAt_plain hp, rdS_run hs w rfl]
     refine hk (putE e o.dst _) _ _ ?_ ?_ (put_defers _ _ _) (.refl _) ?_ hc
     ·rw [put_tmps]; exact hr.put hdst
     ·rw [put_tmps, putA_size]; exact hn
     ·rw [put_tmps]; exact Fr.put ho
    ·exact hc.elim
   ·exact hc.elim
  ·exact hc.elim

theorem cSeqX_sound {ro : Option Nat} {Kp : PanK} {K : VEnv -> Heap -> Prop} {Q : Exit -> Act -> World -> Prop} (hp : AllPlain ops) : ∀ (l : List Oper) (k : Nat) {e : VEnv} {a : Act} {w : World} {h : Heap}, ops.toList.drop k = l -> Rel e a.tmps -> a.tmps.size = n -> w.heap = h ->
  cSeqX P n ops Kp l e h K ->
  (∀ e' a' w', Rel e' a'.tmps -> a'.tmps.size = n -> a'.defers = a.defers -> Same w w' -> Fr ops a.tmps a'.tmps -> K e' w'.heap -> Q .normal a' w') ->
  (∀ c a' w', a'.tmps.size = n -> a'.defers = a.defers -> Same w w' -> Fr ops a.tmps a'.tmps -> Kp c w'.heap -> Q (.panic c) a' w') ->
  wpOpsIn (WF ro) 0 P ops Q ((List.range ops.size).drop k) a w
 | [], k, e, a, w, h, hl, hr, hn, hw, hc, hq, _ => by
  subst hw
  have : ops.size <= k := by
   have := congrArg List.length hl; simp at this; omega
  rw [List.drop_eq_nil_of_le (by simpa using this)]
  exact hq e a w hr hn rfl (.refl _) (.refl _) hc
 | o :: r, k, e, a, w, h, hl, hr, hn, hw, hc, hq, hqp => by
  subst hw
  have hk : k < ops.size := by
   have := congrArg List.length hl; simp at this; omega
  have ho : ops[k]? = some o := by
   have : (ops.toList.drop k)[0]? = some o := by rw [hl]; rfl
   simpa using this
  have hl' : ops.toList.drop (k + 1) = r := by
   rw [<- List.drop_drop, hl]; rfl
  have hd : (List.range ops.size).drop k = k :: (List.range ops.size).drop (k + 1) := by
   rw [List.drop_eq_getElem_cons (by simpa using hk)]; simp
  rw [hd, wpOpsIn_cons]
  have next : ∀ e' a' w', Rel e' a'.tmps -> a'.tmps.size = n -> a'.defers = a.defers -> Same w w' -> Fr ops a.tmps a'.tmps -> cSeqX P n ops Kp r e' w'.heap K ->
    wpOpsIn (WF ro) 0 P ops Q ((List.range ops.size).drop (k + 1)) a' w' := fun e' a' w' hr' hn' hd' hs' hf' hc' =>
   cSeqX_sound hp r (k + 1) hl' hr' hn' rfl hc' (fun e2 a2 w2 hr2 hn2 hd2 hs2 hf2 hk2 => hq e2 a2 w2 hr2 hn2 (hd2.trans hd') (hs'.trans hs2) (hf'.trans hf2) hk2)
    fun c a2 w2 hn2 hd2 hs2 hf2 hk2 => hqp c a2 w2 hn2 (hd2.trans hd') (hs'.trans hs2) (hf'.trans hf2) hk2
  simp only [cSeqX] at hc
  split at hc
  ·exact cOpX_sound ho hr hn rfl hc next fun c w' hs' hk' => hqp c a w' hn rfl hs' (.refl _) hk'
  ·refine opA_sound (hp k) (cStep_sound ho hr hn hc) ?_
   rintro a' w' hd' hs' ⟨hf, e', hr', hc'⟩
   exact next e' a' w' hr' (hf.1.trans hn) hd' hs' hf hc'

def wpAt (P : Program) (ro : Option Nat) (g : FuncId) (c : Code) (Q : Exit -> Act -> World -> Prop) (a : Act) (w : World) : Prop :=
 ∀ (b : Frame) (k : List Item) (cs : List Frame), b.fn = g -> b.roundOf = (WF ro).round -> (WF ro).fn b.fn -> (WF ro).room (cs.length + 1 + 0) ->
  ∃ e a' w', Q e a' w' /\ ArrivesIn (Machine.fenced P (WF ro)) P (lone (b.atR a (.code c :: k)) cs w) b k cs e a' w'

theorem wpAt_of {ro : Option Nat} {g : FuncId} {c : Code} {Q : Exit -> Act -> World -> Prop} {a : Act} {w : World} (h : c.wpIn (WF ro) 0 P Q a w) : wpAt P ro g c Q a w :=
 fun b k cs _ => h b k cs

theorem wpAt_seq {ro : Option Nat} {g : FuncId} {x y : Code} {Q : Exit -> Act -> World -> Prop} {a : Act} {w : World} (h : wpAt P ro g x (Exit.then (wpAt P ro g y Q) Q) a w) : wpAt P ro g (.seq x y) Q a w := by
 intro b k cs hg hro hb hr
 have h0 : (lone (b.atR a (.code (.seq x y) :: k)) cs w).fenced P (WF ro) := fenced_calm hb hr rfl
 obtain ⟨e, a₁, w₁, hq, harr⟩ := h b (.code y :: k) cs hg hro hb hr
 cases e with
 | normal =>
  obtain ⟨e₂, a₂, w₂, hq₂, harr₂⟩ := hq b k cs hg hro hb hr
  exact ⟨e₂, a₂, w₂, hq₂, .of_steps (.head h0 stepR_seq harr) harr₂⟩
 | exit id => exact ⟨_, a₁, w₁, hq, .of_steps (.one h0 stepR_seq) (.pass (x := .code y) rfl (fun _ _ => .inl (by simp)) harr)⟩
 | goto l => exact ⟨_, a₁, w₁, hq, .of_steps (.one h0 stepR_seq) (.pass (x := .code y) rfl (fun _ _ => .inl (by simp)) harr)⟩
 | ret => exact ⟨_, a₁, w₁, hq, .of_steps (.one h0 stepR_seq) (.pass (x := .code y) rfl (fun _ _ => .inl (by simp)) harr)⟩
 | panic ch => exact ⟨_, a₁, w₁, hq, .of_steps (.one h0 stepR_seq) (.pass (x := .code y) rfl (fun _ _ => .inl (by simp)) harr)⟩
 | outgrown => exact ⟨_, a₁, w₁, hq, .of_steps (.one h0 stepR_seq) (.pass (x := .code y) rfl (fun _ _ => .inl (by simp)) harr)⟩

theorem wpAt_cond {ro : Option Nat} {g : FuncId} {c : Operand} {x y : Code} {t : Bool} {Q : Exit -> Act -> World -> Prop} {a : Act} {w : World} (hc : a.eval c = .bool t) (h : wpAt P ro g (if t then x else y) Q a w) :
  wpAt P ro g (.cond c x y) Q a w :=
 fun b k cs hg hro hb hr => let ⟨e, a', w', q, r⟩ := h b k cs hg hro hb hr; ⟨e, a', w', q, .of_steps (.one (fenced_calm hb hr rfl) (stepR_cond hc)) r⟩

theorem wpAt_block {ro : Option Nat} {g : FuncId} {id : Nat} {c : Code} {Q : Exit -> Act -> World -> Prop} {a : Act} {w : World} (h : wpAt P ro g c (Exit.inBlock id Q) a w) : wpAt P ro g (.block id c) Q a w := by
 intro b k cs hg hro hb hr
 have h0 : (lone (b.atR a (.code (.block id c) :: k)) cs w).fenced P (WF ro) := fenced_calm hb hr rfl
 obtain ⟨e, a₁, w₁, hq, harr⟩ := h b (.inBlock id :: k) cs hg hro hb hr
 cases e with
 | normal => exact ⟨.normal, a₁, w₁, hq, .head h0 stepR_block (StepsIn.trans harr (.one (fenced_calm hb hr rfl) stepR_inBlock))⟩
 | exit id' =>
  by_cases hid : id' = id
  ·simp only [Exit.inBlock, hid, if_true] at hq
   exact ⟨.normal, a₁, w₁, hq, .head h0 stepR_block (harr.1 k (by simp [exitTo, hid]))⟩
  ·simp only [Exit.inBlock, hid, if_false] at hq
   have this : (id == id') = false := by simp; exact fun h => hid h.symm
   have hx : exitTo id' (.inBlock id :: k) = exitTo id' k := by simp [exitTo, this]
   exact ⟨.exit id', a₁, w₁, hq, fun k' hk => .head h0 stepR_block (harr.1 k' (by rw [hx]; exact hk)),
    fun hr' hk => let ⟨k₁, h1, h2⟩ := harr.2 hr' (by rw [hx]; exact hk); ⟨k₁, h1, .head h0 stepR_block h2⟩⟩
 | goto l =>
  have hx : gotoIn l (.inBlock id :: k) = gotoIn l k := by simp [gotoIn]
  exact ⟨_, a₁, w₁, hq, fun k' hk => .head h0 stepR_block (harr.1 k' (by rw [hx]; exact hk)),
   fun hr' hk => let ⟨k₁, h1, h2⟩ := harr.2 hr' (by rw [hx]; exact hk); ⟨k₁, h1, .head h0 stepR_block h2⟩⟩
 | ret => exact ⟨_, a₁, w₁, hq, .of_steps (.one h0 stepR_block) harr⟩
 | panic ch => exact ⟨_, a₁, w₁, hq, .of_steps (.one h0 stepR_block) harr⟩
 | outgrown => exact ⟨_, a₁, w₁, hq, .of_steps (.one h0 stepR_block) harr⟩

def headAt (P : Program) (ro : Option Nat) (g : FuncId) (c : Code) (Q : Exit -> Act -> World -> Prop) (a : Act) (w : World) : Prop :=
 ∀ (b : Frame) (k : List Item) (cs : List Frame), b.fn = g -> b.roundOf = (WF ro).round -> (WF ro).fn b.fn -> (WF ro).room (cs.length + 1 + 0) ->
  ∃ e a' w', Q e a' w' /\ ArrivesIn (Machine.fenced P (WF ro)) P (lone (b.atR a (.code c :: .inLoop c :: k)) cs w) b k cs e a' w'

theorem loopAt_of_head {ro : Option Nat} {g : FuncId} {c : Code} {Q : Exit -> Act -> World -> Prop} {a : Act} {w : World} (h : headAt P ro g c Q a w) : wpAt P ro g (.loop c) Q a w := by
 intro b k cs hg hro hb hr
 obtain ⟨e, a', w', hq, harr⟩ := h b k cs hg hro hb hr
 exact ⟨e, a', w', hq, .of_steps (.one (fenced_calm hb hr rfl) stepR_loop) harr⟩

theorem headAt_of_round {ro : Option Nat} {g : FuncId} {c : Code} {Q : Exit -> Act -> World -> Prop} {a : Act} {w : World}
  (h : wpAt P ro g c (Exit.then (headAt P ro g c Q) Q) a w) : headAt P ro g c Q a w := by
 intro b k cs hg hro hb hr
 obtain ⟨e, a₁, w₁, hq, harr⟩ := h b (.inLoop c :: k) cs hg hro hb hr
 cases e with
 | normal =>
  obtain ⟨e₂, a₂, w₂, hq₂, harr₂⟩ := hq b k cs hg hro hb hr
  exact ⟨e₂, a₂, w₂, hq₂, .of_steps (StepsIn.trans harr (.one (fenced_calm hb hr rfl) stepR_inLoop)) harr₂⟩
 | exit id => exact ⟨_, a₁, w₁, hq, .pass (x := .inLoop c) rfl (fun _ _ => .inl (by simp)) harr⟩
 | goto l => exact ⟨_, a₁, w₁, hq, .pass (x := .inLoop c) rfl (fun _ _ => .inl (by simp)) harr⟩
 | ret => exact ⟨_, a₁, w₁, hq, .pass (x := .inLoop c) rfl (fun _ _ => .inl (by simp)) harr⟩
 | panic ch => exact ⟨_, a₁, w₁, hq, .pass (x := .inLoop c) rfl (fun _ _ => .inl (by simp)) harr⟩
 | outgrown => exact ⟨_, a₁, w₁, hq, .pass (x := .inLoop c) rfl (fun _ _ => .inl (by simp)) harr⟩

def roundPostX (P : Program) (l : Nat) (R : Ending -> World -> Prop) : Exit -> Act -> World -> Prop
 | .panic c, a, w => a.defers = [] /\ R (.panicked c) w
 | ex, a, w => roundPost P l R ex a w

theorem roundX_of {l : Nat} {f : FuncId} {fn : Func} {tmps : Array Value} {assign body : Code} {w : World} {R : Ending -> World -> Prop} (hf : P.funcs[f]? = some fn)
  (h : wpAt P (some l) f assign (Exit.then (fun a₁ w₁ => ∃ w₂, (Instr.beginRound l).run P w₁ = .ok () w₂ /\ wpAt P (some l) f body (roundPostX P l R) a₁ w₂) (fun _ _ _ => False))
   { tmps := tmps, defers := [] } w) :
  RoundIn Fence.wide 0 P l f tmps assign body w R := by
 refine ⟨trivial, fun c cs hr => ?_⟩
 let b : Frame := { (default : Frame) with fn := f, kind := .normal, roundOf := some l }
 have hb0 : Frame.round l f tmps assign body .normal = b.atR { tmps := tmps, defers := [] } [.code assign, .beginRound, .code body] := by
  simp [Frame.round, Frame.atR, b]
 have hr' : (WF (some l)).room ((c :: cs).length + 1 + 0) := hr
 have hF' : (WF (some l)).fn b.fn := trivial
 obtain ⟨e, a₁, w₁, hq, harr⟩ := h b [.beginRound, .code body] (c :: cs) rfl rfl hF' hr'
 rw [<- hb0] at harr
 cases e with
 | normal =>
  obtain ⟨w₂, hbr, hbody⟩ := hq
  have s1 : StepsIn (Machine.fenced P (WF (some l))) P (lone (b.atR a₁ [.beginRound, .code body]) (c :: cs) w₁) (lone (b.atR a₁ [.code body]) (c :: cs) w₂) :=
   .one (fenced_calm (fr := b.atR a₁ [.beginRound, .code body]) hF' hr' rfl) (stepR_beginRound rfl hbr)
  obtain ⟨e₂, a₂, w₃, hq₂, harr₂⟩ := hbody b [] (c :: cs) rfl rfl hF' hr'
  cases e₂ with
  | normal =>
   obtain ⟨v, w₄, hend, hR⟩ := hq₂
   exact ⟨.returned v, w₄, hR, (StepsIn.trans harr s1).trans (StepsIn.trans harr₂ (.one (fenced_calm (fr := b.atR a₂ []) hF' hr' rfl) (stepR_round_end rfl rfl hend)))⟩
  | ret =>
   obtain ⟨v, w₄, hend, hR⟩ := hq₂
   obtain ⟨k₁, hs⟩ := harr₂.2 rfl
   exact ⟨.returned v, w₄, hR, (StepsIn.trans harr s1).trans (StepsIn.trans hs (.one (fenced_calm (fr := b.atR a₂ (.code .ret :: k₁)) hF' hr' rfl) (stepR_round_ret rfl rfl hend)))⟩
  | exit id =>
   obtain ⟨v, w₄, hend, hR⟩ := hq₂
   obtain ⟨k₁, hk, hs⟩ := harr₂.2 rfl rfl
   exact ⟨.returned v, w₄, hR, (StepsIn.trans harr s1).trans (StepsIn.trans hs (.one (fenced_calm (fr := b.atR a₂ (.code (.exit id) :: k₁)) hF' hr' rfl) (stepR_round_exit rfl rfl hk hend)))⟩
  | goto t =>
   obtain ⟨v, w₄, hend, hR⟩ := hq₂
   obtain ⟨k₁, hk, hs⟩ := harr₂.2 rfl rfl
   exact ⟨.returned v, w₄, hR, (StepsIn.trans harr s1).trans (StepsIn.trans hs (.one (fenced_calm (fr := b.atR a₂ (.code (.goto t) :: k₁)) hF' hr' rfl) (stepR_round_goto rfl rfl hk hend)))⟩
  | panic chain =>
   obtain ⟨hd, hR⟩ := hq₂
   obtain ⟨todo, hs⟩ := harr₂
   have hlv : ({ b.atR a₂ todo with mode := .panicking chain } : Frame).leaving P w₃ (.panicked chain) := ⟨rfl, hd, fn, hf⟩
   exact ⟨.panicked chain, w₃, hR, (StepsIn.trans harr s1).trans (StepsIn.trans hs (.one (fenced_leaving hF' hr' hlv) (step_leave_panicked hlv)))⟩
  | outgrown => exact hq₂.elim
 | exit id => exact hq.elim
 | goto t => exact hq.elim
 | ret => exact hq.elim
 | panic chain => exact hq.elim
 | outgrown => exact hq.elim

theorem wpAt_rangeFunc {ro : Option Nat} {gf : FuncId} {g : Operand} {ps : Array Tmp} {assign body : Code} {Q : Exit -> Act -> World -> Prop} {a : Act} {w : World}
  (h : ∃ (l : Nat) (mark : List Deferred) (w₁ : World) (d : Deferred) (w₁' : World) (f : FuncId) (args : Array Value) (w₂ : World),
   (Instr.enterLoop gf a.tmps ps assign body (WF ro).round).run P w = .ok (l, mark) w₁ /\
   (resolve a.eval (rangeCall g l) 0).run P w₁ = .ok d w₁' /\
   (invoke d.target d.args).run P w₁' = .ok (.enter f args) w₂ /\
   CallsIn (WF ro) 0 P f args w₂ (rangePost (WF ro) 0 P l Q { a with defers := mark ++ a.defers })) :
  wpAt P ro gf (Code.rangeFunc g ps assign body) Q a w := by
 intro b k cs hg hro hb hr
 obtain ⟨l, mark, w₁, d, w₁', f, args, w₂, he, hres, hinv, hF, hcall⟩ := h
 rw [<- hro, <- hg] at he
 have h0 : (lone (b.atR a (.code (.rangeFunc g ps assign body) :: k)) cs w).fenced P (WF ro) :=
  fenced_lone (.inl hb) (fun f' _ => WF_fn ro f') (Fence.room_le hr (by omega))
 have henter := stepR_rangeFunc (P := P) (b := b) (a := a) (k := k) (cs := cs) (w := w) he hres hinv
 have hroom : (WF ro).room ((b.atR { a with defers := mark ++ a.defers } (.inRangeFunc l :: k) :: cs).length + 1 + (0 - 1)) := Fence.room_enter hr (fun h => by simp [WF_depth] at h)
 obtain ⟨e, w₃, fr, hR, hsteps, hfn, hleave⟩ := hcall (b.atR { a with defers := mark ++ a.defers } (.inRangeFunc l :: k) :: cs) hroom
 cases e with
 | outgrown =>
  obtain ⟨a₀, w₀, hq⟩ := hR
  exact ⟨.outgrown, a₀, w₀, hq, .inr (Outgrown.of_steps (.one henter) hsteps)⟩
 | returned v =>
  have hl : (lone fr (b.atR { a with defers := mark ++ a.defers } (.inRangeFunc l :: k) :: cs) w₃).fenced P (WF ro) := fenced_leaving (hfn ▸ hF) hroom hleave
  obtain ⟨jump, w₄, hend, hj⟩ := hR
  have sback : StepsIn (Machine.fenced P (WF ro)) P (lone (b.atR a (.code (.rangeFunc g ps assign body) :: k)) cs w) (lone (b.atR { a with defers := mark ++ a.defers } ((jump.map Item.code).toList ++ k)) cs w₄) := by
   refine .head h0 henter (StepsIn.trans hsteps (.head hl ?_ (.one (fenced_calm (fr := b.atR { a with defers := mark ++ a.defers } (.endRangeFunc l :: k)) hb hr rfl) (stepR_endRangeFunc hend))))
   rw [<- finish_atR_inRangeFunc l v]; exact step_leave_returned hleave
  cases jump with
  | none => exact ⟨.normal, _, w₄, hj, sback⟩
  | some c =>
   obtain ⟨e', a'', w₅, hq, harr⟩ := hj b k cs hro hb hr
   exact ⟨e', a'', w₅, hq, .of_steps sback harr⟩
 | panicked chain =>
  have hl : (lone fr (b.atR { a with defers := mark ++ a.defers } (.inRangeFunc l :: k) :: cs) w₃).fenced P (WF ro) := fenced_leaving (hfn ▸ hF) hroom hleave
  refine ⟨.panic chain, _, w₃, hR, .inRangeFunc l :: k, .head h0 henter (StepsIn.trans hsteps (.one hl ?_))⟩
  rw [<- Frame.raise_atR]; exact step_leave_panicked hleave

end

inductive AnnX where
 | pl (a : Ann)
 | pan
 | two (x y : AnnX)
 | cut (slots : List Nat) (x y : AnnX)
 | one (x : AnnX)
 | loop (slots : List Nat) (x : AnnX)
 | rng (a : Ann) (x : AnnX)

def callFX (P : Program) (v : Value) (args : Array Value) (h : Heap) (K : KT) (Kp : PanK) : Prop :=
 match v with
 | .func (.func f) first captured => CallsX P f (first ++ args ++ captured) h K Kp
 | _ => False

def roundKX (l : Nat) (L : Loop) (R : KT) (Rp : PanK) (ex : Exit) (h : Heap) : Prop :=
 match ex with
 | .panic c => Rp c h
 | ex => roundK l L R ex h

def rangeX (P : Program) (fv : Value) (ps : List Nat) (l : Nat) (h0 : Heap) (B : Loop -> Vals ps -> Heap -> (Exit -> Heap -> Prop) -> Prop) (Kn Kr : Heap -> Prop) (Ks : List (Nat × (Heap -> Prop))) (Kp : PanK) : Prop :=
 ∀ L : Loop, (∀ (x : Vals ps) (h : Heap) (R : KT) (Rp : PanK) (st : LoopState) (p : Option Code), h[l]? = some (lo L st p) ->
   B L x h (roundKX l L R Rp) -> callX P (yieldV l) (listV ps x).toArray h R Rp) ->
  callFX P fv #[yieldV l] (h0.push (lo L .ready none)) (fun _ h' => ∃ st p, st ≠ .busy /\ h'[l]? = some (lo L st p) /\ jumpK Kn Kr Ks (h'.setIfInBounds l (lo L .exhausted p)) p) Kp

def roundE (R : Exit -> Heap -> Prop) : Exit -> VEnv -> List Nat -> Heap -> Prop
 | .panic c, _, [], h => R (.panic c) h
 | .panic _, _, _ :: _, _ => False
 | ex, _, _, h => R ex h

def compileX (P : Program) (n : Nat) (ro : Bool) : Code -> AnnX -> VEnv -> List Nat -> Heap -> (Exit -> VEnv -> List Nat -> Heap -> Prop) -> Prop
 | c, .pl a, e, m, h, K => compile P n ro c a e m h K
 | .seq a b, .two x y, e, m, h, K => compileX P n ro a x e m h fun ex e' m' h' => (match ex with
  | .normal => compileX P n ro b y e' m' h' K
  | ex => K ex e' m' h')
 | .seq a b, .cut slots x y, e, m, h, K => (match noRange a with
  | true => cutP (fun J => compileX P n ro a x e m h fun ex e' m' h' => (match ex with
   | .normal => takeV e' slots fun v => J v h'
   | ex => K ex e' m' h')) (fun v h' => compileX P n ro b y (bindV slots v (keepE (slots ++ writes a) e)) m h' K)
  | false => False)
 | .cond c a b, .two x y, e, m, h, K => (match knownO e c with
  | true => ifV (ev e c) (compileX P n ro a x e m h K) (compileX P n ro b y e m h K)
  | false => False)
 | .block id a, .one x, e, m, h, K => compileX P n ro a x e m h fun ex e' m' h' => (match ex with
  | .exit id' => (match Nat.beq id' id with
   | true => K .normal e' m' h'
   | false => K (.exit id') e' m' h')
  | ex => K ex e' m' h')
 | .loop a, .loop slots x, e, m, h, K => takeV e slots fun x0 => LoopH (fun (v : List Nat × Vals slots) h Z => compileX P n ro a x (bindV slots v.2 (keepE (slots ++ writes a) e)) v.1 h fun ex e' m' h' => (match ex with
   | .normal => takeV e' slots fun v' => Z (m', v') h'
   | ex => K ex e' m' h')) (m, x0) h
 | .region _ ops draw, .pan, e, m, h, K => (match plainL ops.toList, draw with
  | true, false => cSeqX P n ops (fun c h' => K (.panic c) [] m h') ops.toList e h fun e' h' => K .normal e' m h'
  | _, _ => False)
 | .rangeFunc f params assign body, .rng x y, e, m, h, K => (match knownO e f, ro, ltAll n params.toList with
  | true, false, true => rangeX P (ev e f) params.toList (h.size + 1) (h.push (.deferred (some [])))
     (fun L v h' R => compile P n true assign x (zipV params.toList v e) [] h' fun ex e1 m1 h1 => (match ex, m1 with
      | .normal, [] => beginR (h.size + 1) L h1 fun h2 => compileX P n true body y e1 [] h2 (roundE R)
      | _, _ => False)) (fun h' => K .normal e (h.size :: m) h') (fun h' => K .ret e (h.size :: m) h') ((exits body).map fun id => (id, fun h' => K (.exit id) e (h.size :: m) h')) (fun c h' => K (.panic c) e (h.size :: m) h')
  | _, _, _ => False)
 | _, _, _, _, _, _ => False

section
variable {P : Program}

theorem compileX_sound {n : Nat} {g : FuncId} {gfn : Func} (hgf : P.funcs[g]? = some gfn) : ∀ (c : Code) (ann : AnnX) (ro : Option Nat) (e : VEnv) (m : List Nat) (h : Heap) (K : Exit -> VEnv -> List Nat -> Heap -> Prop),
  compileX P n ro.isSome c ann e m h K -> (P.follows .mixedOrders = true) -> ∀ (ds : List Deferred) (a : Act) (w : World) (Q : Exit -> Act -> World -> Prop), Rel e a.tmps -> a.tmps.size = n -> a.defers = marks m ++ ds -> w.heap = h ->
  (∀ ex e' m' a' w', Rel e' a'.tmps -> a'.tmps.size = n -> a'.defers = marks m' ++ ds -> Same w w' -> (noRange c = true -> m' = m) -> FrW c a.tmps a'.tmps -> K ex e' m' w'.heap -> Q ex a' w') ->
  wpAt P ro g c Q a w := by
 intro c ann
 have plain : ∀ (c : Code) (an : Ann) (ro : Option Nat) (e : VEnv) (m : List Nat) (h : Heap) (K : Exit -> VEnv -> List Nat -> Heap -> Prop),
  compile P n ro.isSome c an e m h K -> (P.follows .mixedOrders = true) -> ∀ (ds : List Deferred) (a : Act) (w : World) (Q : Exit -> Act -> World -> Prop), Rel e a.tmps -> a.tmps.size = n -> a.defers = marks m ++ ds -> w.heap = h ->
  (∀ ex e' m' a' w', Rel e' a'.tmps -> a'.tmps.size = n -> a'.defers = marks m' ++ ds -> Same w w' -> (noRange c = true -> m' = m) -> FrW c a.tmps a'.tmps -> K ex e' m' w'.heap -> Q ex a' w') ->
  wpAt P ro g c Q a w := fun c an ro e m h K hc hf ds a w Q hr hn hd hw hq => wpAt_of (compile_sound c an ro e m h K hc hf ds a w Q hr hn hd hw hq)
 induction c generalizing ann with
 | skip => cases ann <;> first | exact plain _ _ | (intro ro e m h K hc; exact hc.elim)
 | label l => cases ann <;> first | exact plain _ _ | (intro ro e m h K hc; exact hc.elim)
 | ret => cases ann <;> first | exact plain _ _ | (intro ro e m h K hc; exact hc.elim)
 | exit id => cases ann <;> first | exact plain _ _ | (intro ro e m h K hc; exact hc.elim)
 | goto l => cases ann <;> first | exact plain _ _ | (intro ro e m h K hc; exact hc.elim)
 | refuse why => cases ann <;> first | exact plain _ _ | (intro ro e m h K hc; exact hc.elim)
 | scope x ih => cases ann <;> first | exact plain _ _ | (intro ro e m h K hc; exact hc.elim)
 | seq x y ihx ihy =>
  intro ro e m h K hc hf ds a w Q hr hn hd hw hq
  cases ann <;> try exact hc.elim
  ·exact plain _ _ ro e m h K hc hf ds a w Q hr hn hd hw hq
  ·rename_i ax ay
   refine wpAt_seq (ihx ax ro e m h _ hc hf ds a w _ hr hn hd hw ?_)
   intro ex e' m' a' w' hr' hn' hd' hs' hnr hfr hk
   have post : ∀ ex', K ex' e' m' w'.heap -> (∀ (h : ex' = .normal), False) -> Q ex' a' w' := by
    intro ex' hk' _
    refine hq ex' e' m' a' w' hr' hn' hd' hs' ?_ ?_ hk'
    ·intro h; simp only [noRange, Bool.and_eq_true] at h; exact hnr h.1
    ·intro s hs; simp only [writes, memN_append, Bool.or_eq_false_iff] at hs; exact hfr s hs.1
   cases ex with
   | normal =>
    refine ihy ay ro e' m' w'.heap K hk hf ds a' w' Q hr' hn' hd' rfl ?_
    intro ex2 e2 m2 a2 w2 hr2 hn2 hd2 hs2 hnr2 hfr2 hk2
    refine hq ex2 e2 m2 a2 w2 hr2 hn2 hd2 (hs'.trans hs2) ?_ ?_ hk2
    ·intro h; simp only [noRange, Bool.and_eq_true] at h; rw [hnr2 h.2, hnr h.1]
    ·intro s hs; simp only [writes, memN_append, Bool.or_eq_false_iff] at hs; rw [hfr2 s hs.2, hfr s hs.1]
   | exit id => exact post _ hk (by simp)
   | goto l => exact post _ hk (by simp)
   | ret => exact post _ hk (by simp)
   | panic ch => exact post _ hk (by simp)
   | outgrown => exact post _ hk (by simp)
  ·rename_i slots ax ay
   simp only [compileX] at hc
   split at hc
   ·rename_i hno
    refine wpAt_seq (ihx ax ro e m h _ hc hf ds a w _ hr hn hd hw ?_)
    intro ex e' m' a' w' hr' hn' hd' hs' hnr hfr hk
    have hm2 : m' = m := hnr hno
    subst hm2
    have post : ∀ ex', K ex' e' m' w'.heap -> Q ex' a' w' := by
     intro ex' hk'
     refine hq ex' e' m' a' w' hr' hn' hd' hs' (fun _ => rfl) ?_ hk'
     intro s hs; simp only [writes, memN_append, Bool.or_eq_false_iff] at hs; exact hfr s hs.1
    cases ex with
    | normal =>
     obtain ⟨v, hB, hbind⟩ := takeV_bind hr' hk
     refine ihy ay ro _ m' w'.heap K hB hf ds a' w' Q (hbind _ (keepE_rel hr fun s hs => ?_)) hn' hd' rfl ?_
     ·rw [memN_append, Bool.or_eq_false_iff] at hs
      exact hfr s hs.2
     ·intro ex2 e2 m2 a2 w2 hr2 hn2 hd2 hs2 hnr2 hfr2 hk2
      refine hq ex2 e2 m2 a2 w2 hr2 hn2 hd2 (hs'.trans hs2) ?_ ?_ hk2
      ·intro h; simp only [noRange, Bool.and_eq_true] at h; exact hnr2 h.2
      ·intro s hs; simp only [writes, memN_append, Bool.or_eq_false_iff] at hs; rw [hfr2 s hs.2, hfr s hs.1]
    | exit id => exact post _ hk
    | goto l => exact post _ hk
    | ret => exact post _ hk
    | panic ch => exact post _ hk
    | outgrown => exact post _ hk
   ·exact hc.elim
 | cond c x y ihx ihy =>
  intro ro e m h K hc hf ds a w Q hr hn hd hw hq
  cases ann <;> try exact hc.elim
  ·exact plain _ _ ro e m h K hc hf ds a w Q hr hn hd hw hq
  rename_i ax ay
  simp only [compileX] at hc
  split at hc
  ·rename_i hk
   have he : a.eval c = ev e c := by rw [eval_evA, hr.ev hk]
   unfold ifV at hc
   split at hc
   ·rename_i hv
    refine wpAt_cond (t := true) (he.trans hv) (ihx ax ro e m h K hc hf ds a w Q hr hn hd hw ?_)
    intro ex e' m' a' w' hr' hn' hd' hs' hnr hfr hk'
    refine hq ex e' m' a' w' hr' hn' hd' hs' ?_ ?_ hk'
    ·intro h; simp only [noRange, Bool.and_eq_true] at h; exact hnr h.1
    ·intro s hs; simp only [writes, memN_append, Bool.or_eq_false_iff] at hs; exact hfr s hs.1
   ·rename_i hv
    refine wpAt_cond (t := false) (he.trans hv) (ihy ay ro e m h K hc hf ds a w Q hr hn hd hw ?_)
    intro ex e' m' a' w' hr' hn' hd' hs' hnr hfr hk'
    refine hq ex e' m' a' w' hr' hn' hd' hs' ?_ ?_ hk'
    ·intro h; simp only [noRange, Bool.and_eq_true] at h; exact hnr h.2
    ·intro s hs; simp only [writes, memN_append, Bool.or_eq_false_iff] at hs; exact hfr s hs.2
   ·exact hc.elim
  ·exact hc.elim
 | block id x ih =>
  intro ro e m h K hc hf ds a w Q hr hn hd hw hq
  cases ann <;> try exact hc.elim
  ·exact plain _ _ ro e m h K hc hf ds a w Q hr hn hd hw hq
  rename_i ax
  refine wpAt_block (ih ax ro e m h _ hc hf ds a w _ hr hn hd hw ?_)
  intro ex e' m' a' w' hr' hn' hd' hs' hnr hfr hk
  have post : ∀ ex', K ex' e' m' w'.heap -> Q ex' a' w' := fun ex' hk' =>
   hq ex' e' m' a' w' hr' hn' hd' hs' (fun h => hnr h) (fun s hs => hfr s hs) hk'
  cases ex with
  | exit id' =>
   dsimp only at hk
   show if id' = id then Q .normal a' w' else Q (.exit id') a' w'
   split at hk
   ·rename_i hb; rw [if_pos (Nat.eq_of_beq_eq_true hb)]; exact post _ hk
   ·rename_i hb; rw [if_neg (fun h => by subst h; simp at hb)]; exact post _ hk
  | normal => exact post _ hk
  | goto l => exact post _ hk
  | ret => exact post _ hk
  | panic ch => exact post _ hk
  | outgrown => exact post _ hk
 | region id ops draw =>
  intro ro e m h K hc hf ds a w Q hr hn hd hw hq
  cases ann <;> try exact hc.elim
  ·exact plain _ _ ro e m h K hc hf ds a w Q hr hn hd hw hq
  subst hw
  simp only [compileX] at hc
  split at hc
  ·rename_i hpl
   have hp := allPlain_of hpl
   have frw : ∀ {t t' : Array Value}, Fr ops t t' -> FrW (.region id ops false) t t' := fun hfr s hs =>
    hfr.2 s fun i hi => by
     unfold dstOf at hi
     cases ho : ops[i]? with
     | none => rw [ho] at hi; cases hi
     | some o =>
      rw [ho] at hi
      exact memN_dsts _ hs o (List.mem_of_getElem? (by simpa using ho)) hi
   refine wpAt_of (wpIn_region ?_)
   have := cSeqX_sound (ro := ro) (Q := Q) (n := n) hp ops.toList 0 (a := a) (w := w) (by simp) hr hn rfl hc
    (fun e' a' w' hr' hn' hd' hs' hf' hk' => hq _ e' m a' w' hr' hn' (hd'.trans hd) hs' (fun _ => rfl) (frw hf') hk')
    (fun c a' w' hn' hd' hs' hf' hk' => hq _ [] m a' w' (fun s v h => by cases h) hn' (hd'.trans hd) hs' (fun _ => rfl) (frw hf') hk')
   rwa [List.drop_zero] at this
  ·exact hc.elim
 | loop x ih =>
  intro ro e m h K hc hf ds a w Q hr hn hd hw hq
  cases ann <;> try exact hc.elim
  ·exact plain _ _ ro e m h K hc hf ds a w Q hr hn hd hw hq
  rename_i slots ax
  simp only [compileX] at hc
  refine loopAt_of_head ?_
  obtain ⟨x0, hL, hbind⟩ := takeV_bind hr hc
  have key := hL (fun v h => ∀ (a' : Act) (w' : World), Rel (bindV slots v.2 (keepE (slots ++ writes x) e)) a'.tmps -> a'.tmps.size = n -> a'.defers = marks v.1 ++ ds -> w'.heap = h -> Same w w' ->
    FrW x a.tmps a'.tmps -> (noRange x = true -> v.1 = m) -> headAt P ro g x Q a' w') ?_
  ·exact key a w (hbind _ (keepE_rel hr fun _ _ => rfl)) hn hd hw (.refl _) (fun _ _ => rfl) (fun _ => rfl)
  ·intro v h' hB a' w' hr' hn' hd' hw' hs' hfr' hnm
   refine headAt_of_round (ih ax ro _ v.1 h' _ hB hf ds a' w' _ hr' hn' hd' hw' ?_)
   intro ex e2 m2 a2 w2 hr2 hn2 hd2 hs2 hnr2 hfr2 hk2
   have hfr : FrW x a.tmps a2.tmps := fun s hs => by rw [hfr2 s hs, hfr' s hs]
   have post : ∀ ex', K ex' e2 m2 w2.heap -> Q ex' a2 w2 := fun ex' hk' => hq ex' e2 m2 a2 w2 hr2 hn2 hd2 (hs'.trans hs2) (fun h => by simp only [noRange] at h; rw [hnr2 h, hnm h]) hfr hk'
   cases ex with
   | normal =>
    obtain ⟨v', hZ, hbind'⟩ := takeV_bind hr2 hk2
    refine hZ a2 w2 (hbind' _ (keepE_rel hr fun s hs => ?_)) hn2 hd2 rfl (hs'.trans hs2) hfr (fun h => by rw [hnr2 h, hnm h])
    rw [memN_append, Bool.or_eq_false_iff] at hs
    exact hfr s hs.2
   | exit id => exact post _ hk2
   | goto l => exact post _ hk2
   | ret => exact post _ hk2
   | panic ch => exact post _ hk2
   | outgrown => exact post _ hk2
 | rangeFunc f params assign body iha ihb =>
  intro ro e m h K hc hf ds a w Q hr hn hd hw hq
  cases ann <;> try exact hc.elim
  ·exact plain _ _ ro e m h K hc hf ds a w Q hr hn hd hw hq
  rename_i ax ay
  subst hw
  simp only [compileX] at hc
  split at hc
  ·rename_i hk hro hlt
   have hro' : ro = none := by cases ro <;> simp_all
   subst hro'
   have he : a.eval f = ev e f := by rw [eval_evA, hr.ev hk]
   refine wpAt_rangeFunc ?_
   let D := w.heap.size
   let l := w.heap.size + 1
   let L : Loop := { state := .ready, pending := none, fn := g, tmps := a.tmps, params, assign, body, defers := D }
   let w1 : World := { w with heap := (w.heap.push (.deferred (some []))).push (.loop L) }
   have hL := hc L ?_
   ·unfold callFX at hL
    split at hL
    ·rename_i g' first captured hfv
     refine ⟨l, [{ target := .collected D, args := #[] }], w1, { target := .fn (.func g') captured, args := first ++ #[yieldV l] }, w1, g', first ++ #[yieldV l] ++ captured, w1, ?_, ?_, ?_, ?_⟩
     ·simp only [Instr.enterLoop, newObj, bind, Sem.bind, pure, Sem.run, WF]
      show Result.ok _ _ = Result.ok _ _
      simp [l, D, w1, L]
     ·unfold resolve
      simp only [he, hfv]
      simp [Deferred.ofValue, Act.eval, yieldV, pure]
     ·obtain ⟨hcb, hcw⟩ := hL
      unfold Callable at hcb
      split at hcb
      ·rename_i fn hfn
       simp only [Bool.and_eq_true, Bool.not_eq_true', beq_eq_false_iff_ne, ne_eq] at hcb
       have hb : fn.body.isNone = false := by cases hx : fn.body <;> simp_all
       show Sem.run P (callFunc g' (first ++ #[yieldV l] ++ captured)) w1 = _
       unfold callFunc
       simp only [program, bind, Sem.bind, Sem.run, hfn, hb]
       rw [if_neg (by simpa using hcb.2)]
       rfl
      ·cases hcb
     ·refine WF_calls ((hL.2 w1 (by simp [w1, lo, L, D])).mono ?_)
      rintro e' w3 (⟨v, rfl, hs3, st, p, hst, hl3, hj⟩ | ⟨c, rfl, hs3, hj⟩)
      ·have hs3 : Same w w3 := ⟨hs3.os, hs3.output, hs3.tape, hs3.drawn⟩
       obtain ⟨jump, w4, hrun, hs4, hjp, hh4⟩ := wpS_run (endLoop_wp (P := P) (K := fun j h' => j = p /\ h' = w3.heap.setIfInBounds l (lo L .exhausted p)) hl3 hst ⟨rfl, rfl⟩) w3 rfl
       subst hjp
       refine ⟨jump, w4, hrun, ?_⟩
       have post : ∀ ex, K ex e (D :: m) w4.heap -> Q ex { a with defers := [{ target := .collected D, args := #[] }] ++ a.defers } w4 := fun ex hk' =>
        hq ex e (D :: m) { a with defers := [{ target := .collected D, args := #[] }] ++ a.defers } w4 hr hn (by simp [hd, marks]) (hs3.trans hs4) (fun h => by simp [noRange] at h) (fun _ _ => rfl) hk'
       rw [<- hh4] at hj
       cases jump with
       | none => exact post _ hj
       | some cj =>
        cases cj <;> try exact hj.elim
        ·exact wpIn_exit (post _ (lookK_mem (F := fun id h' => K (.exit id) e (D :: m) h') hj))
        ·exact wpIn_ret (post _ hj)
      ·have hs3 : Same w w3 := ⟨hs3.os, hs3.output, hs3.tape, hs3.drawn⟩
       exact hq (.panic c) e (D :: m) { a with defers := [{ target := .collected D, args := #[] }] ++ a.defers } w3 hr hn (by simp [hd, marks]) hs3 (fun h => by simp [noRange] at h) (fun _ _ => rfl) hj
    ·exact hL.elim
   ·intro args h' R Rp st p hl' hB
    have hlen := listV_length params.toList args
    show callX P (yieldV l) _ h' R Rp
    unfold callX yieldV
    dsimp only
    rw [hl']
    dsimp only [lo]
    refine ⟨by simp [hlen, L], ?_⟩
    intro w2 hw2
    have hrel := rel_zip (n := n) params.toList args hr hn hlt
    have htm : (L.params.zip (#[] ++ (listV params.toList args).toArray)).foldl (fun tmps (x : Nat × Value) => tmps.setIfInBounds x.1 x.2) L.tmps =
      (params.toList.zip (listV params.toList args)).foldl (fun t (x : Nat × Value) => t.setIfInBounds x.1 x.2) a.tmps := by
     simp only [L]
     rw [<- Array.foldl_toList, Array.toList_zip]
     simp
    refine roundX_of hgf ?_
    show wpAt P (some l) g assign _ { tmps := (L.params.zip (#[] ++ (listV params.toList args).toArray)).foldl (fun tmps (x : Nat × Value) => tmps.setIfInBounds x.1 x.2) L.tmps, defers := [] } w2
    rw [htm]
    refine wpAt_of (compile_sound assign ax (some l) (zipV params.toList args e) [] h' _ hB hf [] _ w2 _ hrel.1 hrel.2 rfl hw2 ?_)
    intro ex e1 m1 a1 w1' hr1 hn1 hd1 hs1 hnr1 hfr1 hk1
    cases ex <;> try exact hk1.elim
    cases m1 with
    | cons _ _ => exact hk1.elim
    | nil =>
    obtain ⟨p', hp', hk1⟩ := hk1
    obtain ⟨_, w3, hrun, hs3, hh3⟩ := wpS_run (begin_wp (P := P) (K := fun _ h' => h' = w1'.heap.setIfInBounds l (lo L .busy p')) hp' rfl) w1' rfl
    refine ⟨w3, hrun, ?_⟩
    refine ihb ay (some l) e1 [] _ _ hk1 hf [] a1 w3 _ hr1 hn1 hd1 hh3 ?_
    intro ex' e2 m2 a2 w4 hr2 hn2 hd2 hs4 hnr2 hfr2 hk2
    have hsame : Same w2 w4 := (hs1.trans hs3).trans hs4
    have step : ∀ (jump : Option Code) (p2 : Option Code), w4.heap[l]? = some (lo L .busy p2) -> R (.bool jump.isNone) (w4.heap.setIfInBounds l (lo L (if jump.isNone then .ready else .done) jump)) ->
      ∃ v w', (Instr.endRound l jump).run P w4 = .ok v w' /\ endX w2 R Rp (.returned v) w' := by
     intro jump p2 hp2 hR
     obtain ⟨v, w5, hrun5, hs5, hR5⟩ := wpS_run (endRound_wp (P := P) (jump := jump) (K := R) hp2 hR) w4 rfl
     exact ⟨v, w5, hrun5, .inl ⟨v, rfl, hsame.trans hs5, hR5⟩⟩
    cases ex' with
    | normal => obtain ⟨p2, hp2, hk2⟩ := hk2; exact step none p2 hp2 hk2
    | exit id => obtain ⟨p2, hp2, hk2⟩ := hk2; exact step (some (.exit _)) p2 hp2 hk2
    | ret => obtain ⟨p2, hp2, hk2⟩ := hk2; exact step (some .ret) p2 hp2 hk2
    | goto l => obtain ⟨p2, hp2, hk2⟩ := hk2; exact hk2.elim
    | outgrown => obtain ⟨p2, hp2, hk2⟩ := hk2; exact hk2.elim
    | panic c =>
     cases m2 with
     | cons _ _ => exact hk2.elim
     | nil => exact ⟨hd2, .inr ⟨c, rfl, hsame, hk2⟩⟩
  ·exact hc.elim

end
open Go

section
variable {P : Program}

theorem callsAt_of {f : FuncId} {fn : Func} {c : Code} {args : Array Value} {w : World} {R : Ending -> World -> Prop}
  (hf : P.funcs[f]? = some fn) (hb : fn.body = some c)
  (h : wpAt P none f c (bodyPostM Fence.wide 0 P fn R) { tmps := args ++ Array.replicate (fn.ntmps - args.size) undef, defers := [] } w) : CallsIn Fence.wide 0 P f args w R := by
 refine ⟨trivial, fun cs hr => ?_⟩
 let b : Frame := { (default : Frame) with fn := f, kind := .normal, roundOf := none }
 have henter : Frame.enter P f args .normal =
   b.atR { tmps := args ++ Array.replicate (fn.ntmps - args.size) undef, defers := [] } [.code c] := by
  simp [Frame.enter, Frame.atR, hf, hb, b]
 have hF : Fence.wide.fn f := trivial
 obtain ⟨e, a', w', hq, harr⟩ := h b [] cs rfl rfl trivial hr
 rw [<- henter] at harr
 cases e with
 | normal =>
  obtain ⟨e', w'', fr', hR, hs, hfn, hl⟩ := leaves_stepsInM a'.defers .returning w' { b.atR a' [] with mode := .returning } cs rfl rfl rfl hf rfl hF hr hq
  exact ⟨e', w'', fr', hR, ComesIn.of_steps (StepsIn.trans harr (.one (fenced_calm (fr := b.atR a' []) hF hr rfl) (stepR_end rfl))) hs, hfn, hl⟩
 | ret =>
  obtain ⟨todo, hs₀⟩ := harr.1 rfl
  obtain ⟨e', w'', fr', hR, hs, hfn, hl⟩ := leaves_stepsInM a'.defers .returning w' { b.atR a' todo with mode := .returning } cs rfl rfl rfl hf rfl hF hr hq
  exact ⟨e', w'', fr', hR, ComesIn.of_steps hs₀ hs, hfn, hl⟩
 | panic chain =>
  obtain ⟨todo, hs₀⟩ := harr
  obtain ⟨e', w'', fr', hR, hs, hfn, hl⟩ := leaves_stepsInM a'.defers (.panicking chain) w' { b.atR a' todo with mode := .panicking chain } cs rfl rfl rfl hf rfl hF hr hq
  exact ⟨e', w'', fr', hR, ComesIn.of_steps hs₀ hs, hfn, hl⟩
 | exit id => exact hq.elim
 | goto l => exact hq.elim
 | outgrown => exact ⟨.outgrown, w', b, hq, harr.resolve_left (by simp [b]), rfl, trivial⟩

theorem leaves_panic {fn : Func} {t : Array Value} {R : Ending -> World -> Prop} {c : List PanicEntry} {Kp : Heap -> Prop} {w0 : World}
  (hR : ∀ w, Same w0 w -> Kp w.heap -> R (.panicked c) w) : ∀ (m : List Nat) (w : World), Same w0 w -> takeM m w.heap Kp ->
  LeavesInM Fence.wide 0 P fn t R (marks m) (.panicking c) w
 | [], w, hs, hq => hR _ hs hq
 | D :: m, w, hs, hq => by
  obtain ⟨hD, hq⟩ := hq
  refine ⟨by simp, .inl ⟨D, { w with heap := w.heap.setIfInBounds D (.deferred none) }, rfl, ?_, leaves_panic hR m _ ⟨hs.os, hs.output, hs.tape, hs.drawn⟩ hq⟩⟩
  simp [Instr.takeDeferred, getObj, setObj, bind, Sem.bind, Sem.run, hD, pure]

def fnPostX (P : Program) (rs : List ResultVar) (K : KT) (Kp : PanK) : Exit -> VEnv -> List Nat -> Heap -> Prop
 | .panic c, _, m, h => takeM m h (Kp c)
 | ex, e, m, h => fnPost P rs K ex e m h

theorem argE_rel {fn : Func} {args : List Value} (hlen : args.length <= fn.ntmps) : Rel (argE args 0) (args.toArray ++ Array.replicate (fn.ntmps - args.toArray.size) undef) /\
  (args.toArray ++ Array.replicate (fn.ntmps - args.toArray.size) undef).size = fn.ntmps := by
 refine ⟨fun s v hs => ?_, by simp; omega⟩
 obtain ⟨_, h2⟩ := look_argE hs
 rw [Nat.sub_zero] at h2
 have hlt : s < args.length := (List.getElem?_eq_some_iff.1 h2).1
 rw [Array.getElem?_append_left (by simpa using hlt)]
 simpa using h2

theorem callsX_of {f : FuncId} {fn : Func} {c : Code} {ann : AnnX} {args : List Value} {h : Heap} {K : KT} {Kp : PanK} (hf : P.funcs[f]? = some fn) (hb : fn.body = some c)
  (hcal : Callable P f = true) (hm : P.follows .mixedOrders = true) (hlen : args.length <= fn.ntmps)
  (hc : compileX P fn.ntmps false c ann (argE args 0) [] h (fnPostX P fn.results.toList K Kp)) : CallsX P f args.toArray h K Kp := by
 refine ⟨hcal, fun w hw => callsAt_of hf hb ?_⟩
 obtain ⟨hrel, hsz⟩ := argE_rel hlen
 refine compileX_sound hf c ann none _ [] h _ hc hm [] _ w _ hrel hsz rfl hw ?_
 intro ex e' m' a' w' hr' hn' hd' hs' _ _ hk
 have fin : takeM m' w'.heap (fun h' => resQ P e' h' fn.results.toList fun l => K (oneOr l) h') ->
   LeavesInM Fence.wide 0 P fn a'.tmps (endX w K Kp) a'.defers .returning w' := by
  intro hk
  rw [hd', List.append_nil]
  exact leaves_of hr' (fun v w'' hs'' hk'' => .inl ⟨v, rfl, hs'', hk''⟩) m' w' hs' hk
 cases ex with
 | normal => exact fin hk
 | ret => exact fin hk
 | exit id => exact hk.elim
 | goto l => exact hk.elim
 | outgrown => exact hk.elim
 | panic c =>
  show LeavesInM Fence.wide 0 P fn a'.tmps (endX w K Kp) a'.defers (.panicking c) w'
  rw [hd', List.append_nil]
  exact leaves_panic (fun w'' hs'' hk'' => .inr ⟨c, rfl, hs'', hk''⟩) m' w' hs' hk

def DeferX (P : Program) (f : FuncId) (args : Array Value) (c : List PanicEntry) (h : Heap) (K : Heap -> Prop) : Prop :=
 Callable P f = true /\ ∀ w : World, w.heap = h -> CallsDIn Fence.wide 0 P f args (.panicking c) w fun e u w' => ∃ v, e = .returned v /\ settle u = .returning /\ Same w w' /\ K w'.heap

theorem run_callFunc {f : FuncId} (hcal : Callable P f = true) (args : Array Value) (w : World) : (callFunc f args).run P w = .ok (.enter f args) w := by
 unfold Callable at hcal
 split at hcal
 ·rename_i fn' hfn
  simp only [Bool.and_eq_true, Bool.not_eq_true', beq_eq_false_iff_ne, ne_eq] at hcal
  have hb : fn'.body.isNone = false := by cases hx : fn'.body <;> simp_all
  have hrd : rdS P (callFunc f args) w.heap = some (.enter f args) := by
   unfold callFunc
   refine (rdS_bind (a := P) (by rfl)).trans ?_
   simp only [hfn, hb]
   rw [if_neg (by simpa using hcal.2)]
   rfl
  exact rdS_run hrd w rfl
 ·cases hcal

theorem leaves_deferX {fn : Func} {t : Array Value} {e : VEnv} {R : Ending -> World -> Prop} {K : KT} {w0 : World} {f : FuncId} {cap : Array Value} {c : List PanicEntry} (hr : Rel e t)
  (hR : ∀ v w, Same w0 w -> K v w.heap -> R (.returned v) w) : ∀ (m : List Nat) (w : World), Same w0 w ->
  takeM m w.heap (fun h' => DeferX P f cap c h' fun h'' => resQ P e h'' fn.results.toList fun l => K (oneOr l) h'') ->
  LeavesInM Fence.wide 0 P fn t R (marks m ++ [{ target := .fn (.func f) cap, args := #[] }]) (.panicking c) w
 | [], w, hs, hq => by
  obtain ⟨hcal, hq⟩ := hq
  refine ⟨by simp, .inr ⟨(fun h => by cases h), .func f, cap, f, cap, rfl, ?_, fun _ _ => trivial, (hq w rfl).mono ?_⟩⟩
  ·show (callFunc f (#[] ++ cap)).run P w = _
   rw [Array.empty_append]
   exact run_callFunc hcal _ w
  ·rintro e' u w' ⟨v, rfl, hu, hs', hk⟩
   show LeavesInM Fence.wide 0 P fn t R [] (settle u) w'
   rw [hu]
   exact leaves_of (K := K) hr hR [] w' (hs.trans hs') hk
 | D :: m, w, hs, hq => by
  obtain ⟨hD, hq⟩ := hq
  refine ⟨by simp, .inl ⟨D, { w with heap := w.heap.setIfInBounds D (.deferred none) }, rfl, ?_, leaves_deferX hr hR m _ ⟨hs.os, hs.output, hs.tape, hs.drawn⟩ hq⟩⟩
  simp [Instr.takeDeferred, getObj, setObj, bind, Sem.bind, Sem.run, hD, pure]

def deferPostX (P : Program) (rs : List ResultVar) (f : FuncId) (args : Array Value) (e0 : VEnv) (K : KT) : Exit -> VEnv -> List Nat -> Heap -> Prop
 | .panic c, _, m, h => takeM m h fun h' => DeferX P f args c h' fun h'' => resQ P e0 h'' rs fun l => K (oneOr l) h''
 | ex, e, m, h => deferPost P rs f args K ex e m h

def thenDeferX (P : Program) (n : Nat) (B : Code) (annB : AnnX) (rs : List ResultVar) (s : Tmp) (f : FuncId) (caps : List Operand) (K : KT) : Exit -> VEnv -> List Nat -> Heap -> Prop
 | .normal, e, [], h => (match knownL e caps, Nat.blt s n with
  | true, true => compileX P n false B annB ((s, .func (.func f) #[] (caps.map (ev e)).toArray) :: e) [] h (deferPostX P rs f (caps.map (ev e)).toArray (keepE (writes B) ((s, .func (.func f) #[] (caps.map (ev e)).toArray) :: e)) K)
  | _, _ => False)
 | _, _, _, _ => False

theorem callsH_deferX {f g : FuncId} {fn : Func} {A B : Code} {annA : Ann} {annB : AnnX} {id : Nat} {o1 o2 : Oper} {s : Tmp} {caps : Array Operand} {c : Call} {args : List Value} {h : Heap} {K : KT}
  (hf : P.funcs[f]? = some fn) (hb : fn.body = some (.seq A (.seq (.region id #[o1, o2] false) B))) (hcal : Callable P f = true) (hm : P.follows .mixedOrders = true) (hlen : args.length <= fn.ntmps)
  (h1 : o1.op = .makeFunc (.func g) #[] caps) (hd1 : o1.dst = some s) (hg1 : o1.guard = none) (h2 : o2.op = .defer c) (hc : c.callee = .value (.tmp s)) (hca : c.args = #[]) (hd2 : o2.dst = none) (hg2 : o2.guard = none)
  (hq : compile P fn.ntmps false A annA (argE args 0) [] h (thenDeferX P fn.ntmps B annB fn.results.toList s g caps.toList K)) : CallsH P f args.toArray h K := by
 refine ⟨hcal, fun w hw => callsAt_of hf hb ?_⟩
 obtain ⟨hrel, hsz⟩ := argE_rel hlen
 refine wpAt_seq ?_
 refine wpAt_of (compile_sound A annA none _ [] h _ hq hm [] _ w _ hrel hsz rfl hw ?_)
 intro ex e' m' a' w' hr' hn' hd' hs' _ _ hk
 cases ex <;> try exact hk.elim
 cases m' with
 | cons D m => exact hk.elim
 | nil =>
  obtain ⟨hkn, hsn, hk⟩ : knownL e' caps.toList = true /\ s < fn.ntmps /\ compileX P fn.ntmps false B annB ((s, .func (.func g) #[] (caps.toList.map (ev e')).toArray) :: e') [] w'.heap (deferPostX P fn.results.toList g (caps.toList.map (ev e')).toArray (keepE (writes B) ((s, .func (.func g) #[] (caps.toList.map (ev e')).toArray) :: e')) K) := by
   simp only [thenDeferX] at hk
   split at hk
   ·rename_i h1 h2
    exact ⟨h1, Nat.le_of_ble_eq_true h2, hk⟩
   ·exact hk.elim
  have hd0 : a'.defers = [] := hd'
  show wpAt P none f (Code.seq (.region id #[o1, o2] false) B) _ a' w'
  refine wpAt_seq (wpAt_of ?_)
  refine wpIn_defer (ro := none) rfl h1 hd1 hg1 h2 hc hca hd2 hg2 (by rw [hn']; exact hsn) ?_
  have hev : caps.map (evA a'.tmps) = (caps.toList.map (ev e')).toArray := by
   apply Array.ext'
   rw [Array.toList_map]
   apply List.map_congr_left
   intro x hx
   exact (hr'.ev (knownL_mem hkn x hx)).symm
  rw [hev, hd0]
  have hr2 : Rel ((s, .func (.func g) #[] (caps.toList.map (ev e')).toArray) :: e') (putA a'.tmps (some s) (.func (.func g) #[] (caps.toList.map (ev e')).toArray)) :=
   hr'.put (dst := some s) (by rw [hn']; simpa [dstOk] using hsn)
  show wpAt P none f B _ _ w'
  refine compileX_sound hf B annB none _ [] w'.heap _ hk hm [{ target := .fn (.func g) (caps.toList.map (ev e')).toArray, args := #[] }] _ w' _ hr2 (by rw [putA_size]; exact hn') rfl rfl ?_
  intro ex2 e2 m2 a2 w2 hr3 hn3 hd3 hs3 _ hfr3 hk2
  have fin : takeM m2 w2.heap (fun h' => DeferS P g (caps.toList.map (ev e')).toArray h' fun h'' => resQ P e2 h'' fn.results.toList fun l => K (oneOr l) h'') ->
    LeavesInM Fence.wide 0 P fn a2.tmps (fun e w' => ∃ v, e = .returned v /\ Same w w' /\ K v w'.heap) a2.defers .returning w2 := by
   intro hk
   rw [hd3]
   refine leaves_defer (dargs := #[]) (w0 := w2) hr3 (fun v w'' hs'' hk'' => ⟨v, rfl, (hs'.trans hs3).trans hs'', hk''⟩) m2 w2 (.refl _) ?_
   simpa using hk
  cases ex2 with
  | normal => exact fin hk2
  | ret => exact fin hk2
  | exit id => exact hk2.elim
  | goto l => exact hk2.elim
  | outgrown => exact hk2.elim
  | panic c =>
   show LeavesInM Fence.wide 0 P fn a2.tmps (fun e w' => ∃ v, e = .returned v /\ Same w w' /\ K v w'.heap) a2.defers (.panicking c) w2
   rw [hd3]
   have hr0 : Rel (keepE (writes B) ((s, .func (.func g) #[] (caps.toList.map (ev e')).toArray) :: e')) a2.tmps := keepE_rel hr2 hfr3
   exact leaves_deferX (w0 := w2) hr0 (fun v w'' hs'' hk'' => ⟨v, rfl, (hs'.trans hs3).trans hs'', hk''⟩) m2 w2 (.refl _) hk2

theorem wpIn_pan {n : Nat} {ro : Option Nat} {id : Nat} {ops : Array Oper} {e : VEnv} {a : Act} {w : World} {h : Heap} {K : VEnv -> Heap -> Prop} {Q : Exit -> Act -> World -> Prop} (hpl : plainL ops.toList = true) (hr : Rel e a.tmps) (hn : a.tmps.size = n) (hw : w.heap = h)
  (hc : cSeqX P n ops (fun _ _ => False) ops.toList e h K)
  (hq : ∀ e' a' w', Rel e' a'.tmps -> a'.tmps.size = n -> a'.defers = a.defers -> Same w w' -> K e' w'.heap -> Q .normal a' w') : (Code.region id ops false).wpIn (WF ro) 0 P Q a w := by
 refine wpIn_region ?_
 have := cSeqX_sound (ro := ro) (Q := Q) (n := n) (allPlain_of hpl) ops.toList 0 (a := a) (w := w) (by simp) hr hn hw hc
  (fun e' a' w' hr' hn' hd' hs' _ hk' => hq e' a' w' hr' hn' hd' hs' hk') (fun c a' w' _ _ _ _ hk' => hk'.elim)
 rwa [List.drop_zero] at this

def cOps : Code -> Array Oper
 | .region _ ops _ => ops
 | _ => #[]

end
open Go

section
variable {α : Type} {enc : α -> List Value} {n : Nat} {T : TypeId} {h0 h h' : Heap} {v w : Value} {ys xs : List α} {K : Value -> Prop} {KH : KT} {k : IntKind} {i : Nat} {L : List Res}

theorem pSlice_mono {x : Value} {lo hi mx : Option Value} {K1 K2 : Value -> Prop} (h1 : pSlice n x lo hi mx K1) (h2 : ∀ v, K1 v -> K2 v) : pSlice n x lo hi mx K2 := by
 unfold pSlice at *
 split at h1
 ·split at h1
  ·rename_i e1 e2 e3
   exact ⟨h1.1, h1.2.1, h1.2.2.1, h1.2.2.2.1, h1.2.2.2.2.1, h2 _ h1.2.2.2.2.2⟩
  ·exact h1.elim
 ·exact h1.elim

theorem pSlice_all {β : Type} {x : Value} {lo hi mx : Option Value} {Q : β -> Prop} {K : β -> Value -> Prop} (b0 : β) (hb : Q b0) (h : ∀ b, Q b -> pSlice n x lo hi mx (K b)) : pSlice n x lo hi mx fun v => ∀ b, Q b -> K b v := by
 have h1 := h b0 hb
 unfold pSlice at h h1 ⊢
 split at h1
 ·split at h1
  ·rename_i e1 e2 e3
   simp only [e1, e2, e3] at h ⊢
   exact ⟨h1.1, h1.2.1, h1.2.2.1, h1.2.2.2.1, h1.2.2.2.2.1, fun b hb => (h b hb).2.2.2.2.2⟩
  ·exact h1.elim
 ·exact h1.elim

theorem Vw.subA {lo hi : Option Value} {a j : Nat} (he : ∀ a, (enc a).length = n) (H : Vw enc n h v ys) (hlo : bndOf 0 lo = some (a : Int)) (hhi : bndOf ys.length hi = some (j : Int)) (hij : a <= j) (hj : j <= ys.length)
  (hK : ∀ v', (∀ h', Vw enc n h' v ys -> Vw enc n h' v' ((ys.drop a).take (j - a))) -> K v') : pSlice n v lo hi none K :=
 pSlice_mono (pSlice_all (Q := fun h' => Vw enc n h' v ys) (K := fun h' v' => Vw enc n h' v' ((ys.drop a).take (j - a))) h H fun h' H' => H'.sub he hlo hhi hij hj fun v' h => h) fun v' h => hK v' h

def QuR (enc : α -> List Value) (n : Nat) (T : TypeId) (h : Heap) (v : Value) (ys : List α) : Prop :=
 (v = .slice none 0 0 /\ ys = []) \/ ∃ bl cap pre rest, v = .slice (some ⟨bl, pre.length, none⟩) ys.length cap /\ h[bl]? = some (.cells (pre ++ row enc ys ++ rest).toArray T (0, 0)) /\
  (cap - ys.length) * n <= rest.length /\ ys.length <= cap

def quR (enc : α -> List Value) (n : Nat) (T : TypeId) (v : Value) (ys : List α) : Res := ⟨blkOf v, fun h => QuR enc n T h v ys, fun {h h'} hs hq => by
 rcases hq with H | ⟨bl, cap, pre, rest, rfl, hb, a, c⟩
 ·exact .inl H
 ·exact .inr ⟨bl, cap, pre, rest, rfl, (hs bl rfl).trans hb, a, c⟩⟩

theorem Own.que (o : Own h0 h L) (i : Nat) (hi : L[i]? = some (slR enc n T v xs)) : Own h0 h (L.set i (quR enc n T v xs)) := by
 refine o.conv i hi ?_ fun b hb => hb
 obtain ⟨bl, H⟩ := o.get i hi
 rcases H with H | ⟨cap, rest, rfl, hb, a, c⟩
 ·exact .inl H
 ·exact .inr ⟨bl, cap, [], rest, rfl, hb, by omega, c⟩

theorem Own.qvw (o : Own h0 h L) (i : Nat) (hi : L[i]? = some (quR enc n T v ys)) : Vw enc n h v ys := by
 rcases o.get i hi with ⟨rfl, rfl⟩ | ⟨bl, cap, pre, rest, rfl, hb, a, c⟩
 ·exact .nil
 ·exact ⟨bl, _, cap, rfl, c, .inr ⟨_, pre, rest, T, _, rfl, hb, rfl⟩⟩

theorem Own.qtail {y : α} {hi' : Option Value} (o : Own h0 h L) (he : ∀ a, (enc a).length = n) (i : Nat) (hi : L[i]? = some (quR enc n T v (y :: ys))) (hh : hi' = none)
  (hK : ∀ v', Own h0 h (L.set i (quR enc n T v' ys)) -> K v') : pSlice n v (some (.int k 1)) hi' none K := by
 subst hh
 rcases o.get i hi with ⟨rfl, h⟩ | ⟨bl, cap, pre, rest, rfl, hb, a, c⟩
 ·cases h
 ·simp only [List.length_cons] at c a
  refine ⟨by simp, by simp, by simp; omega, by simp; omega, by simp, ?_⟩
  refine hK _ (o.conv i hi ?_ ?_)
  ·refine .inr ?_
   simp only [List.length_cons, Int.toNat_natCast]
   unfold slBase
   by_cases hc : cap = 1
   ·subst hc
    have : ys = [] := List.eq_nil_of_length_eq_zero (by omega)
    subst this
    refine ⟨bl, 0, pre, enc y ++ rest, by simp, by rw [hb]; simp [row], by simp, by simp⟩
   ·refine ⟨bl, cap - 1, pre ++ enc y, rest, ?_, by rw [hb]; simp [row], ?_, by omega⟩
    ·rw [if_neg (by simp; omega)]; simp [he]
    ·rw [show cap - 1 - ys.length = cap - (ys.length + 1) by omega]; exact a
  ·intro b hb'
   unfold slBase at hb'
   split at hb'
   ·exact hb'
   ·exact hb'

theorem Own.clearTail {xs : List Int} {j : Nat} {a : Int} (o : Own h0 h L) (i : Nat) (hi : L[i]? = some (slR encJ 1 T v xs)) (hj : j <= xs.length)
  (hK : ∀ h', Own h0 h' (L.set i (slR encJ 1 T v (xs.take j ++ List.replicate (xs.length - j) a))) -> KH (.tuple #[]) h') : pSlice 1 v (some (.int k j)) none none fun t => pClear [I a] t h KH := by
 have hrow : ∀ l : List Int, row encJ l = l.map I := fun l => by
  induction l with
  | nil => rfl
  | cons a l ih => simp only [row, List.flatMap_cons, List.map_cons] at ih ⊢; rw [ih]; rfl
 have same : j = xs.length -> L.set i (slR encJ 1 T v (xs.take j ++ List.replicate (xs.length - j) a)) = L := fun e => by
  subst e
  rw [List.take_length, Nat.sub_self, List.replicate_zero, List.append_nil]
  apply List.ext_getElem?
  intro q
  rw [List.getElem?_set]
  split
  ·rename_i e; subst e; rw [hi]; simp [(List.getElem?_eq_some_iff.1 hi).1]
  ·rfl
 obtain ⟨bl, H⟩ := o.get i hi
 rcases H with ⟨rfl, rfl⟩ | ⟨cap, rest, rfl, hb, hr, hle⟩
 ·have e0 : j = 0 := by simpa using hj
  subst e0
  refine ⟨by simp, by simp, by simp, by simp, by simp, ?_⟩
  have e : slBase 1 (Int.toNat ((0 : Nat) : Int)) (Int.toNat ((0 : Nat) : Int)) none = none := by simp [slBase]
  rw [e]
  show KH (.tuple #[]) h
  exact hK h (by rw [same rfl]; exact o)
 ·have hblt := get_lt hb
  refine ⟨by simp, by simp, by simp; omega, by simp; omega, by simp, ?_⟩
  simp only [Int.toNat_natCast]
  by_cases e : xs.length = j
  ·have hlen : xs.length - j = 0 := by omega
   have ho := hK h (by rw [same e.symm]; exact o)
   rw [hlen]
   unfold slBase
   split
   ·exact ho
   ·exact ho
  ·have hb2 : slBase 1 j cap (some ⟨bl, 0, none⟩) = some ⟨bl, j, none⟩ := by
    unfold slBase; rw [if_neg (by omega)]; simp
   rw [hb2]
   obtain ⟨q, hq⟩ : ∃ q, xs.length - j = q + 1 := ⟨xs.length - j - 1, by omega⟩
   rw [hq]
   show storeL h bl j (zerosL [I a] (q + 1)) (KH (.tuple #[]))
   rw [<- hq]
   have hz : zerosL [I a] (xs.length - j) = List.replicate (xs.length - j) (I a) := by simp [zerosL]
   rw [hz]
   refine storeL_of _ _ _ _ hb (by rw [List.length_append, hrow]; simp; omega) (fun u hu => by rw [List.eq_of_mem_replicate hu]; rfl) ?_
   have ov : over (row encJ xs ++ rest) j (List.replicate (xs.length - j) (I a)) = row encJ (xs.take j ++ List.replicate (xs.length - j) a) ++ rest := by
    rw [hrow, hrow]
    unfold over
    have hl : (List.map (fun x => I x) xs).length = xs.length := by simp
    rw [List.length_replicate, List.take_append_of_le_length (by rw [hl]; omega), show j + (xs.length - j) = (List.map (fun x => I x) xs).length by rw [hl]; omega, List.drop_left']
    ·simp [List.map_take]
    ·rfl
   rw [ov]
   refine hK _ (o.set i hi (Upd.upd _ _ rfl) ⟨bl, .inr ⟨cap, rest, by simp; omega, upd_self hblt, by simp; rw [hr]; congr 1; simp; omega, by simp; omega⟩⟩ fun b hb' => ⟨.inl hb', by rw [upd_size]; exact (show b = bl from hb') ▸ hblt⟩)

theorem Own.pre {j : Nat} (o : Own h0 h L) (he : ∀ a, (enc a).length = n) (i : Nat) (hi : L[i]? = some (slR enc n T v xs)) (hj : j <= xs.length)
  (hK : ∀ v', Own h0 h (L.set i (slR enc n T v' (xs.take j))) -> K v') : pSlice n v none (some (.int k j)) none K := by
 obtain ⟨bl, H⟩ := o.get i hi
 have H0 := H
 rcases H with ⟨rfl, rfl⟩ | ⟨cap, rest, rfl, hb, hr, hle⟩
 ·have : j = 0 := by simpa using hj
  subst this
  refine ⟨by simp, by simp, by simp, by simp, by simp, hK _ (o.conv i hi ⟨bl, ?_⟩ ?_)⟩
  ·exact .inl ⟨by simp [slBase], by simp⟩
  ·intro b hb; simp [slBase, slR, blkOf] at hb
 ·exact H0.pre he hj fun v' H' => hK v' (o.conv i hi ⟨bl, H'⟩ fun b hb => H'.blk hb)

theorem Own.qtail3 {y : α} {m : Int} {k' k'' : IntKind} (o : Own h0 h L) (he : ∀ a, (enc a).length = n) (i : Nat) (hi : L[i]? = some (quR enc n T v (y :: ys))) (hm : m = ys.length + 1)
  (hK : ∀ v', Own h0 h (L.set i (quR enc n T v' ys)) -> K v') : pSlice n v (some (.int k 1)) (some (.int k' m)) (some (.int k'' m)) K := by
 subst hm
 rcases o.get i hi with ⟨rfl, h⟩ | ⟨bl, cap, pre, rest, rfl, hb, a, c⟩
 ·cases h
 ·simp only [List.length_cons] at c a
  refine ⟨fun _ => rfl, by decide, by omega, Int.le_refl _, by omega, ?_⟩
  have e1 : (Int.toNat (1 : Int)) = 1 := rfl
  have e2 : ((ys.length : Int) + 1).toNat = ys.length + 1 := by omega
  rw [e1, e2, Nat.add_sub_cancel]
  refine hK _ (o.conv i hi ?_ ?_)
  ·refine .inr ?_
   unfold slBase
   by_cases hc : ys.length = 0
   ·have : ys = [] := List.eq_nil_of_length_eq_zero hc
    subst this
    refine ⟨bl, 0, pre, enc y ++ rest, by simp, by rw [hb]; simp [row], by simp, by simp⟩
   ·refine ⟨bl, ys.length, pre ++ enc y, rest, ?_, by rw [hb]; simp [row], by simp, Nat.le_refl _⟩
    rw [if_neg (by omega)]; simp [he]
  ·intro b hb'
   unfold slBase at hb'
   split at hb'
   ·exact hb'
   ·exact hb'

theorem Own.copyAll {x : Value} {xs ys : List α} (o : Own h0 h L) (i : Nat) (hi : L[i]? = some (slR enc n T v xs)) (he : ∀ a, (enc a).length = n) (hp : ∀ a, ∀ u ∈ enc a, plainCell u = true) (hx : Vw enc n h x ys) (hl : xs.length = ys.length)
  (hK : ∀ h', Own h0 h' (L.set i (slR enc n T v ys)) -> KH (.int .i64 ys.length) h') : pCopy n v x h KH := by
 obtain ⟨xb, xc, rfl, hcx⟩ := hx.cells he
 obtain ⟨bl, H⟩ := o.get i hi
 have H0 := H
 rcases H with ⟨rfl, rfl⟩ | ⟨cap, rest, rfl, hb, hr, hle⟩
 ·have : ys = [] := List.eq_nil_of_length_eq_zero hl.symm
  subst this
  unfold pCopy
  have : cellsOfSl h n (Nat.min ([] : List α).length 0) xb = some [] := by
   have e : (Nat.min ([] : List α).length 0) = ([] : List α).length := rfl
   rw [e, hcx]; rfl
  simp only [this]
  refine hK h ?_
  have : L.set i (slR enc n T (.slice none 0 0) []) = L := by
   apply List.ext_getElem?
   intro q
   rw [List.getElem?_set]
   split
   ·rename_i e; subst e; rw [hi]; simp [(List.getElem?_eq_some_iff.1 hi).1]
   ·rfl
  rw [this]; exact o
 ·unfold pCopy
  have hmin : Nat.min ys.length xs.length = ys.length := by rw [hl]; exact Nat.min_self _
  simp only [hmin, hcx]
  have hz : (0 : Nat) = 0 * n := by simp
  rw [hz]
  refine o.storeRow i hi he hp H0 rfl (by omega) fun h' o' => hK h' ?_
  have e : xs.take 0 ++ ys ++ xs.drop (0 + ys.length) = ys := by
   rw [List.take_zero, List.nil_append, Nat.zero_add, List.drop_of_length_le (by omega), List.append_nil]
  rw [e] at o'
  exact o'

end
open Go

def mkB (k : Nat) : UInt8 := UInt8.ofNat (2 ^ k)
def getx (x : UInt8) (k : Nat) : Bool := (x &&& mkB k) != 0
def setx (x : UInt8) (k : Nat) : UInt8 := (x &&& ~~~mkB k) ||| mkB k

theorem u8_ind {P : UInt8 -> Prop} (h : ∀ x : Fin 256, P (UInt8.ofNat x.val)) (x : UInt8) : P x := by
 have := h ⟨x.toNat, x.toNat_lt⟩
 simpa using this

theorem mask_val : ∀ k : Fin 8, IntKind.u8.wrap (1 * 2 ^ (min (k.val : Int).toNat IntKind.u8.bits)) = ((mkB k.val).toNat : Int) := by decide +kernel
theorem andNot_val (x : UInt8) (k : Fin 8) : IntKind.u8.wrap (BitVec.ofInt IntKind.u8.bits (x.toNat : Int) &&& ~~~BitVec.ofInt IntKind.u8.bits ((mkB k.val).toNat : Int)).toNat = ((x &&& ~~~mkB k.val).toNat : Int) := by
 revert k; revert x; exact u8_ind (by decide +kernel)
theorem or_val (x : UInt8) (k : Fin 8) : IntKind.u8.wrap (BitVec.ofInt IntKind.u8.bits (x.toNat : Int) ||| BitVec.ofInt IntKind.u8.bits ((mkB k.val).toNat : Int)).toNat = ((x ||| mkB k.val).toNat : Int) := by
 revert k; revert x; exact u8_ind (by decide +kernel)
theorem and_val (x : UInt8) (k : Fin 8) : (IntKind.u8.wrap (BitVec.ofInt IntKind.u8.bits (x.toNat : Int) &&& BitVec.ofInt IntKind.u8.bits ((mkB k.val).toNat : Int)).toNat != 0) = getx x k.val := by
 revert k; revert x; exact u8_ind (by decide +kernel)
def getB (bs : List UInt8) (long row i : Nat) : Bool := getx (bs.getD (row * long + i / 8) 0) (i % 8)
def setB (bs : List UInt8) (long row i : Nat) : List UInt8 := bs.set (row * long + i / 8) (setx (bs.getD (row * long + i / 8) 0) (i % 8))

theorem setB_len {bs : List UInt8} {long row i : Nat} : (setB bs long row i).length = bs.length := by simp [setB]

theorem row_lt {rows long r q : Nat} (hr : r < rows) (hq : q < long) : r * long + q < rows * long := by
 have := Nat.mul_le_mul_right long (show r + 1 <= rows by omega)
 rw [Nat.add_mul] at this; omega

def setRow (bs : List UInt8) (long r : Nat) (l : List Nat) : List UInt8 := l.foldl (fun b i => setB b long r i) bs
theorem setRow_len : ∀ {l : List Nat} {bs : List UInt8} {long r : Nat}, (setRow bs long r l).length = bs.length
 | [], _, _, _ => rfl
 | i :: l, bs, long, r => by
  have := setRow_len (l := l) (bs := setB bs long r i) (long := long) (r := r)
  rw [setB_len] at this; exact this
def longB (w : Nat) : Nat := (w + 7) / 8
theorem longB_lt {w i : Nat} (h : i < w) : i / 8 < longB w := by unfold longB; omega

open Go

abbrev Nm := ByteArray

inductive Ch where
 | mk (a : Nm) (n : Nat)
 | ren (a b : Nm)
 | rem (a : Nm)
deriving DecidableEq

abbrev Dir := List (Nm × Nat)

def dlook : Dir -> Nm -> Option Nat
 | [], _ => none
 | x :: r, a => if x.1 = a then some x.2 else dlook r a
def ddel (D : Dir) (a : Nm) : Dir := D.filter fun x => !decide (x.1 = a)
def dset (D : Dir) (a : Nm) (n : Nat) : Dir := (a, n) :: ddel D a

def app (D : Dir) : Ch -> Dir
 | .mk a n => dset D a n
 | .ren a b => dset (ddel D a) b ((dlook D a).getD 0)
 | .rem a => ddel D a

open Go Go.ChangeShapes Go.WideShapes Go.ChangeAt Go.RowKit

section
variable {H : Type} {encD : TypeId × Value -> H} {P : Program} {w : World} {α : Type} {enc : α -> List Value} {ok : α -> Prop} {n : Nat} {e t : TypeId} {v : Value} {r : Reach} {base : Nat} {d : DataW H} {p : List MemPlace} {cs : List Value}

theorem view_at {fuel : Nat} {x0 : DataW H × List MemPlace} (he : ∀ a, (enc a).length = n) (ht : P.underlying t = some (.slice e)) (hn : P.cellsOf e = n) (hpos : 0 < n)
  (hdec : ∀ fuel cs x, DataW.trod encD P w 0 (fun _ => true) true fuel e cs = some x -> ∃ a, cs = enc a /\ ok a)
  (hf : DataW.trod encD P w 0 (fun _ => true) true fuel t [v] = some x0) (hsp0 : ∀ a l c, v = .slice (some a) l c -> a.spot = none) :
  ∃ bl xs, VwR enc n w.heap v bl xs /\ (∀ a ∈ xs, ok a) /\ xs.length <= maxLen := by
 rcases Go.Deep.open_slice ht hf with ⟨hc, _⟩ | ⟨a, len, cap, m, fuel', D, Pl, hc, _, hle, hmx, hm, _, hx⟩
 ·simp only [List.cons.injEq, and_true] at hc
  subst hc
  exact ⟨0, [], ⟨none, 0, rfl, Nat.le_refl _, .inl ⟨rfl, .inl rfl⟩⟩, by simp, by simp⟩
 ·simp only [List.cons.injEq, and_true] at hc
  subst hc
  have hsp := hsp0 a len cap rfl
  simp only [if_true] at hm
  subst hm
  have hall : ∀ i, i < len -> ∃ x : α, w.cells? 0 (a.add (i * n)) n = some (enc x) /\ ok x := by
   intro i hi
   obtain ⟨cs', h1, h2⟩ := hx i (by omega)
   obtain ⟨x, rfl, hok⟩ := hdec _ _ _ h2
   rw [hn] at h1
   exact ⟨x, h1, hok⟩
  obtain ⟨xs, hl, hxs⟩ := choose_list (Q := fun i x => w.cells? 0 (a.add (i * n)) n = some (enc x) /\ ok x) len hall
  refine ⟨a.block, xs, ?_, fun x hx' => ?_, by omega⟩
  ·refine ⟨some a, m, by rw [hl], by omega, ?_⟩
   have ha : a = ⟨a.block, a.off, none⟩ := by
    obtain ⟨b, o, s⟩ := a; simp only at hsp; subst hsp; rfl
   by_cases h0 : xs = []
   ·exact .inl ⟨h0, .inr ⟨_, _, by rw [<- ha]⟩⟩
   ·right
    have hlp : 0 < xs.length := List.length_pos_iff.2 h0
    have hcell : ∀ i (hi : i < xs.length) j, j < n -> w.cell? ⟨a.block, a.off + i * n + j, none⟩ = (enc xs[i])[j]? := by
     intro i hi j hj
     have h1 := (hxs i hi).1
     unfold World.cells? at h1
     rw [if_pos (Nat.zero_le _), add_plain hsp] at h1
     have := mapM_get h1 j j (by simp [hj])
     rw [add_plain rfl] at this
     exact this
    have h00 := hcell 0 hlp 0 hpos
    simp only [World.cell?] at h00
    have hblk : ∃ c T fz, w.heap[a.block]? = some (.cells c T fz) := by
     split at h00
     ·rename_i c T fz hb; exact ⟨c, T, fz, hb⟩
     ·rw [List.getElem?_eq_getElem (by rw [he]; exact hpos)] at h00; cases h00
    obtain ⟨c, T, fz, hb⟩ := hblk
    have hcc : ∀ i (hi : i < xs.length) j, j < n -> c[a.off + i * n + j]? = (enc xs[i])[j]? := by
     intro i hi j hj
     have := hcell i hi j hj
     simpa [World.cell?, hb] using this
    have hrl := row_length he xs
    have hmid : (c.toList.drop a.off).take (xs.length * n) = row enc xs := by
     apply List.ext_getElem?
     intro k
     by_cases hk : k < xs.length * n
     ·have hi : k / n < xs.length := (Nat.div_lt_iff_lt_mul hpos).2 hk
      have hj : k % n < n := Nat.mod_lt _ hpos
      have hkk : k / n * n + k % n = k := by rw [Nat.mul_comm]; exact Nat.div_add_mod k n
      have g := row_get he hi hj []
      rw [List.append_nil, hkk] at g
      rw [g, <- hcc _ hi _ hj, List.getElem?_take_of_lt hk, List.getElem?_drop, Nat.add_assoc, hkk]
      simp
     ·rw [List.getElem?_eq_none (by simp; omega), List.getElem?_eq_none (by omega)]
    have hsize : a.off + xs.length * n <= c.size := by
     have hi : xs.length - 1 < xs.length := by omega
     have h1 := hcc (xs.length - 1) hi (n - 1) (by omega)
     rw [List.getElem?_eq_getElem (by rw [he]; omega)] at h1
     have h2 := (Array.getElem?_eq_some_iff.1 h1).1
     have h3 : (xs.length - 1) * n + n = xs.length * n := by rw [<- Nat.succ_mul]; congr 1; omega
     omega
    refine ⟨a.off, c.toList.take a.off, c.toList.drop (a.off + xs.length * n), T, fz, by rw [<- ha], ?_, by simp; omega⟩
    rw [hb, <- hmid]
    have : c.toList.take a.off ++ (c.toList.drop a.off).take (xs.length * n) ++ c.toList.drop (a.off + xs.length * n) = c.toList := by
     rw [<- List.drop_drop, List.append_assoc, List.take_append_drop, List.take_append_drop]
    rw [this]
  ·obtain ⟨i, hi, rfl⟩ := List.mem_iff_getElem.1 hx'
   exact (hxs i hi).2

def Opn (encD : TypeId × Value -> H) (P : Program) (w : World) (t : TypeId) (cs : List Value) : Prop :=
 (∃ fuel x, DataW.trod encD P w 0 (fun _ => true) true fuel t cs = some x) /\ ∀ v ∈ cs, ∀ a l c, v = .slice (some a) l c -> a.spot = none

theorem cell_spot {a : Addr} {l c : Nat} (h : Cell.okWide P w r base t (.slice (some a) l c)) : a.spot = none := by
 unfold Cell.okWide at h
 cases hu : P.underlying t with
 | none => simp [hu, Cell.ok] at h
 | some u =>
  cases u <;> simp [hu, Cell.ok] at h
  exact h.2.2.2.1

def isAgg (P : Program) (t : TypeId) : Bool := match P.underlying t with
 | some (.struct _) | some (.array _ _) => true
 | _ => false

theorem agg_of (ha : isAgg P t = true) (hn : P.cellsOf t = n) (hv : Value.okWide P w r base t v) (hd : DataW.Trod encD P w 0 (fun _ => true) true t v d p) :
  ∃ cs : List Value, v = .agg cs.toArray /\ cs.length = n /\ Opn encD P w t cs := by
 have : ∃ cs, v = .agg cs /\ cs.size = P.cellsOf t /\ Row.okWide P w r base t cs := by
  unfold Value.okWide at hv
  unfold isAgg at ha
  split at hv
  ·exact hv
  ·exact hv
  ·rename_i h1 h2
   split at ha
   ·rename_i h3; exact absurd h3 (h1 _)
   ·rename_i h3; exact absurd h3 (h2 _ _)
   ·cases ha
 obtain ⟨cs, rfl, hs, ts, _, _, hc⟩ := this
 obtain ⟨fuel, hf⟩ := hd
 refine ⟨cs.toList, by simp, by simpa [hn] using hs, ⟨fuel, _, hf⟩, fun v hv a l c e => ?_⟩
 obtain ⟨i, hi⟩ := List.getElem?_of_mem hv
 obtain ⟨u, _, hu⟩ := hc i v (by simpa using hi)
 rw [e] at hu
 exact cell_spot hu

def fieldOf (P : Program) (t : TypeId) (i : Nat) : Option (TypeId × Nat) := match P.underlying t with
 | some (.struct fs) => fs.toList[i]?.map fun f => (f.type, f.offset)
 | _ => none

theorem Opn.field (O : Opn encD P w t cs) (i : Nat) {ft : TypeId} {off : Nat} {cs' : List Value} (hf : fieldOf P t i = some (ft, off)) (hn : P.cellsOf ft = n) (hcs : (cs.drop off).take n = cs') : Opn encD P w ft cs' := by
 obtain ⟨⟨fuel, x, h⟩, hs⟩ := O
 unfold fieldOf at hf
 split at hf
 ·rename_i fs ht
  obtain ⟨xs, m, rfl, _, _, _, hfs⟩ := DataW.trod_struct ht h
  simp only [Option.map_eq_some_iff] at hf
  obtain ⟨f, hi, e⟩ := hf
  injection e with e1 e2
  subst e1 e2 hn hcs
  refine ⟨⟨m, ?_⟩, fun v hv => hs v (List.mem_of_mem_drop (List.mem_of_mem_take hv))⟩
  have hh := hfs i f (by simpa using hi)
  obtain ⟨y, hy⟩ : ∃ y, xs[i]? = some y := by
   have : i < xs.length := by
    have := (List.getElem?_eq_some_iff.1 hi).1
    simp_all
   exact ⟨_, List.getElem?_eq_getElem this⟩
  exact ⟨y, by rw [hh, hy]⟩
 ·cases hf

theorem Opn.int {k : IntKind} (O : Opn encD P w t [v]) (ht : P.underlying t = some (.int k)) : ∃ a : Int, v = .int k a /\ k.min <= a /\ a <= k.max := by
 obtain ⟨⟨fuel, x, h⟩, _⟩ := O
 obtain ⟨a, e, r⟩ := dec_int ht _ _ _ h
 simp only [List.cons.injEq, and_true] at e
 exact ⟨a, e, r⟩

theorem Opn.view (he : ∀ a, (enc a).length = n) (O : Opn encD P w t [v]) (ht : P.underlying t = some (.slice e)) (hn : P.cellsOf e = n) (hpos : 0 < n)
  (hdec : ∀ fuel cs x, DataW.trod encD P w 0 (fun _ => true) true fuel e cs = some x -> ∃ a, cs = enc a /\ ok a) : ∃ bl xs, VwR enc n w.heap v bl xs /\ (∀ a ∈ xs, ok a) /\ xs.length <= maxLen := by
 obtain ⟨⟨fuel, x, h⟩, hs⟩ := O
 exact view_at he ht hn hpos hdec h (hs v (by simp))

theorem dec_bool (he : P.underlying e = some .bool) {sp : Nat -> Bool} : ∀ fuel cs x, DataW.trod encD P w 0 sp true fuel e cs = some x -> ∃ a : Bool, cs = [.bool a] /\ True := by
 intro fuel cs x h
 cases fuel with
 | zero => simp [DataW.trod] at h
 | succ m =>
  unfold DataW.trod at h
  rw [he] at h
  split at h <;> simp_all

theorem len3 {l : List Value} (h : l.length = 3) : ∃ a b c, l = [a, b, c] := by match l, h with | [a, b, c], _ => exact ⟨a, b, c, rfl⟩
theorem len4 {l : List Value} (h : l.length = 4) : ∃ a b c d, l = [a, b, c, d] := by match l, h with | [a, b, c, d], _ => exact ⟨a, b, c, d, rfl⟩
theorem len5 {l : List Value} (h : l.length = 5) : ∃ a b c d e, l = [a, b, c, d, e] := by match l, h with | [a, b, c, d, e], _ => exact ⟨a, b, c, d, e, rfl⟩
theorem len6 {l : List Value} (h : l.length = 6) : ∃ a b c d e f, l = [a, b, c, d, e, f] := by match l, h with | [a, b, c, d, e, f], _ => exact ⟨a, b, c, d, e, f, rfl⟩
def encK (k : IntKind) (x : Int) : List Value := [.int k x]
end
open Go

structure A3 where
 f : Int
 t : Int
 w : Int
def encA3 (a : A3) : List Value := [I a.f, I a.t, I a.w]
theorem encA3_len (a : A3) : (encA3 a).length = 3 := rfl
theorem encA3_plain (a : A3) : ∀ u ∈ encA3 a, Mh.plainCell u = true := by
 intro u hu; simp [encA3] at hu; rcases hu with rfl | rfl | rfl <;> rfl

theorem Sm.of_arcs {g : G} (hR : g.Right) (h : g.arcs.length <= 31) : Sm g := fun r hr => by
 have T := from_tree hR hr
 have hinj : ∀ l : List Nat, l.Nodup -> (∀ v ∈ l, v ∈ (g.from r).order /\ v ≠ r) -> l.length <= g.arcs.length := by
  intro l hn hl
  have hm : (l.map fun v => ((g.from r).arc.getD v (-1)).toNat).Nodup := by
   rw [List.nodup_iff_pairwise_ne, List.pairwise_map]
   refine (List.nodup_iff_pairwise_ne.1 hn).imp_of_mem fun {a b} ha hb hne e => hne ?_
   obtain ⟨i, _, e1, e2, _⟩ := T.arc a (hl a ha).1 (hl a ha).2
   obtain ⟨j, _, e3, e4, _⟩ := T.arc b (hl b hb).1 (hl b hb).2
   rw [e1, e3, Int.toNat_natCast, Int.toNat_natCast] at e
   rw [<- e2, <- e4, e]
  have := nodup_le hm fun x hx => by
   obtain ⟨v, hv, rfl⟩ := List.mem_map.1 hx
   obtain ⟨i, hi, e1, _⟩ := T.arc v (hl v hv).1 (hl v hv).2
   rw [e1, Int.toNat_natCast]; exact hi
  rwa [List.length_map] at this
 have h1 := hinj ((g.from r).order.erase r) (T.nodup.erase r) fun v hv => by
  rw [T.nodup.mem_erase_iff] at hv
  exact ⟨hv.2, hv.1⟩
 have h2 : ((g.from r).order.erase r).length + 1 >= (g.from r).order.length := by
  rw [List.length_erase]; split <;> omega
 omega
open Go Go.ChangeShapes Go.WideShapes Go.ChangeAt Go.RowKit

section
variable {H : Type} {encD : TypeId × Value -> H} {P : Program} {w : World} {n : Nat} {e t : TypeId} {v : Value} {r : Reach} {base : Nat} {d : DataW H} {p : List MemPlace}

theorem trod_field {fuel : Nat} {cs : List Value} {x : DataW H × List MemPlace} {sp : Nat -> Bool} (h : DataW.trod encD P w 0 sp true fuel t cs = some x) (i : Nat) {ft : TypeId} {off : Nat} {cs' : List Value}
  (hf : fieldOf P t i = some (ft, off)) (hn : P.cellsOf ft = n) (hcs : (cs.drop off).take n = cs') : ∃ m y, DataW.trod encD P w 0 sp true m ft cs' = some y := by
 unfold fieldOf at hf
 split at hf
 ·rename_i fs ht
  obtain ⟨xs, m, rfl, _, _, _, hfs⟩ := DataW.trod_struct ht h
  simp only [Option.map_eq_some_iff] at hf
  obtain ⟨f, hi, e⟩ := hf
  injection e with e1 e2
  subst e1 e2 hn hcs
  refine ⟨m, ?_⟩
  have hh := hfs i f (by simpa using hi)
  obtain ⟨y, hy⟩ : ∃ y, xs[i]? = some y := by
   have : i < xs.length := by
    have := (List.getElem?_eq_some_iff.1 hi).1
    simp_all
   exact ⟨_, List.getElem?_eq_getElem this⟩
  exact ⟨y, by rw [hh, hy]⟩
 ·cases hf

theorem trod_len {fuel : Nat} {cs : List Value} {x : DataW H × List MemPlace} {sp : Nat -> Bool} (h : DataW.trod encD P w 0 sp true fuel t cs = some x) (hf : (fieldOf P t 0).isSome = true) : cs.length = P.cellsOf t := by
 unfold fieldOf at hf
 split at hf
 ·rename_i fs ht
  obtain ⟨xs, m, rfl, _, hl, _, hfs⟩ := DataW.trod_struct ht h
  exact hl
 ·cases hf

theorem Opn.bool (O : Opn encD P w t [v]) (ht : P.underlying t = some .bool) : ∃ a : Bool, v = .bool a := by
 obtain ⟨⟨fuel, x, h⟩, _⟩ := O
 obtain ⟨a, e, r⟩ := dec_bool ht _ _ _ h
 simp only [List.cons.injEq, and_true] at e
 exact ⟨a, e⟩

end
open Go Go.ChangeShapes Go.WideShapes Go.ChangeAt Go.RowKit

section
variable {H : Type} {encD : TypeId × Value -> H} {P : Program} {w : World} {e : TypeId}

theorem dec_a3 {t0 t1 t2 : TypeId} (f0 : fieldOf P e 0 = some (t0, 0)) (f1 : fieldOf P e 1 = some (t1, 1)) (f2 : fieldOf P e 2 = some (t2, 2)) (hc : P.cellsOf e = 3)
  (h0 : P.underlying t0 = some (.int .i64)) (h1 : P.underlying t1 = some (.int .i64)) (h2 : P.underlying t2 = some (.int .i64))
  (c0 : P.cellsOf t0 = 1) (c1 : P.cellsOf t1 = 1) (c2 : P.cellsOf t2 = 1) {sp : Nat -> Bool} :
  ∀ fuel cs x, DataW.trod encD P w 0 sp true fuel e cs = some x -> ∃ a : A3, cs = encA3 a /\ True := by
 intro fuel cs x h
 have hl := trod_len h (by rw [f0]; rfl)
 rw [hc] at hl
 obtain ⟨a, b, c, rfl⟩ := len3 hl
 obtain ⟨m0, y0, g0⟩ := trod_field h 0 (cs' := [a]) f0 c0 rfl
 obtain ⟨m1, y1, g1⟩ := trod_field h 1 (cs' := [b]) f1 c1 rfl
 obtain ⟨m2, y2, g2⟩ := trod_field h 2 (cs' := [c]) f2 c2 rfl
 obtain ⟨za, ea, _⟩ := dec_int (k := .i64) h0 _ _ _ g0
 obtain ⟨zb, eb, _⟩ := dec_int (k := .i64) h1 _ _ _ g1
 obtain ⟨zc, ec, _⟩ := dec_int (k := .i64) h2 _ _ _ g2
 simp only [List.cons.injEq, and_true] at ea eb ec
 subst ea eb ec
 exact ⟨⟨za, zb, zc⟩, rfl, trivial⟩

end
open Go Go.ChangeShapes Go.WideShapes Go.ChangeAt Go.RowKit

section
variable {H : Type} {enc encD : TypeId × Value -> H} {P : Program} {w W W' : World} {n : Nat} {e t : TypeId} {v : Value} {r : Reach} {base : Nat} {d : DataW H} {p : List MemPlace} {cs : List Value} {B : Nat}

theorem law_laidX {C : Checked} {os : Os} {f : FuncId} {fn : Func} {s : ChangeSpec} {conds : List PathCond} {tb : TypeId} {X : World -> Array Value -> Prop}
  (hX : ∀ (w w' : World) (args : Array Value), w.heap = w'.heap -> X w args -> X w' args)
  (own : ownKnob C.prog.godebug = none) (started : os.Started) (noInit : C.prog.inits.idxOf? f = none) (hfn : C.prog.funcs[f]? = some fn)
  (witness : ∃ (w : World) (tape : Tape) (i : Input), w.os = os /\ (w.forCall tape i).Shaped C.prog /\ i.vars = [] /\ Input.okWide C.prog (w.forCall tape i) .any w.heap.size f i /\
   ((s.pre enc C.prog fn conds false (w.forCall tape i).memory i.args /\ X (w.forCall tape i).memory i.args) /\ sizedMet enc C.prog fn (OpenSpec.ofChange s) false (w.forCall tape i).memory i.args) /\ ({} : Assume).holds C.prog (lone (Frame.enter C.prog f i.args .normal) [] (w.forCall tape i)))
  (hvars : s.vars = []) (hres : fn.resultTypes = #[tb]) (htb : C.prog.underlying tb = some .bool)
  (hspec : ∀ ds : List (DataW H), ds.length = fn.params.toList.length -> s.fn H ds = { results := [.lit (.bool true)], args := ds })
  (kids : Kids C.prog (· < C.prog.types.size)) (full : ∀ t e, t < C.prog.types.size -> C.prog.underlying t = some (.slice e) -> 0 < C.prog.cellsOf e) (hpar : ∀ t ∈ fn.params.toList, t < C.prog.types.size)
  (hcall : ∀ (W : World) (base : Nat) (args : Array Value) (ds : List (DataW H)) (ps : List MemPlace), (∀ (j : Nat) t v, fn.params[j]? = some t -> args[j]? = some v -> Value.okWide C.prog W .any base t v) ->
   DataW.TrodAll enc C.prog W 0 (fun _ => true) true fn.params.toList args.toList ds ps -> X W args ->
   CallsH C.prog f args W.heap fun v h' => v = .bool true /\ Ext W.heap h') :
  ReturnsInHanded {} C os f .any (fun w args => (s.pre enc C.prog fn conds false w args /\ X w args) /\ sizedMet enc C.prog fn (OpenSpec.ofChange s) false w args) (s.post enc C.prog fn false true false false) := by
 refine returnsInHanded_of_change_and hX own started noInit hfn witness ?_
 intro W base args ds gs before hval hW hcnd hwt hL _
 have hW' := hW
 obtain ⟨p, q, hA, hV, rfl, hfz, hnd⟩ := hW
 rw [hvars] at hV
 obtain ⟨rfl, rfl⟩ := trodVars_none hV
 refine calls_of_H (hcall W base args ds p hval hA hL) fun v w' hs hv => ⟨v, rfl, ?_⟩
 obtain ⟨rfl, hx⟩ := hv
 have hlt : ∀ x ∈ p, x.block < W.heap.size := fun x hx => hW'.lt x (by simpa using hx)
 have hsp := hspec ds (trodAll_length hA)
 unfold ChangeSpec.post
 refine ⟨ds, [], p ++ [], [], p, [], hW', ?_, ?_, ?_, kept_of_ext hs hx _, fun h => by cases h⟩
 ·rw [List.append_nil, hsp, hres]
  exact trodAll_mk1 ⟨1, by simp [DataW.trod, htb, Value.cells]⟩
 ·rw [List.append_nil, hsp]
  exact trodAll_carry (DataW.TrodAll.respare kids full hpar hA fun x hx => by simpa using hlt x hx) fun x hx' => sameAt_of_ext hx (hlt x hx')
 ·rw [List.append_nil, hsp, hvars]; rfl

end
end Go.Mh
