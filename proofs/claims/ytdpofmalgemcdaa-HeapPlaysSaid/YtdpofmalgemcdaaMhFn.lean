/- A text of the proofs of seat Ytdpofmalgemcdaa: 'Mh.Fn'. It has no condition of its own. -/
import Derived.Test.YtdpofmalgemcdaaMhCSound
set_option linter.unusedVariables false
set_option linter.unusedSimpArgs false
namespace Go.Mh
open Go

def takeM : List Nat → Heap → (Heap → Prop) → Prop
  | [], h, K => K h
  | D :: r, h, K => h[D]? = some (.deferred (some [])) ∧ takeM r (h.setIfInBounds D (.deferred none)) K

def resQ (P : Program) (e : VEnv) (h : Heap) : List ResultVar → (List Value → Prop) → Prop
  | [], K => K []
  | .tmp t :: r, K => (match look e t with
    | some v => resQ P e h r fun l => K (v :: l)
    | none => False)
  | .cell a t :: r, K => (match look e a with
    | some p => (match P.underlying t, P.info? t with
      | some d, some i => (match isAggD d with
        | true => pLoadN i.size h p fun v => resQ P e h r fun l => K (v :: l)
        | false => pLoad h p fun v => resQ P e h r fun l => K (v :: l))
      | _, _ => False)
    | none => False)

def oneOr : List Value → Value
  | [v] => v
  | l => .tuple l.toArray

def fnPost (P : Program) (rs : List ResultVar) (K : Value → Heap → Prop) : Exit → VEnv → List Nat → Heap → Prop
  | .normal, e, m, h | .ret, e, m, h => takeM m h fun h' => resQ P e h' rs fun l => K (oneOr l) h'
  | _, _, _, _ => False

def argE : List Value → Nat → VEnv
  | [], _ => []
  | v :: r, i => (i, v) :: argE r (i + 1)

section
variable {P : Program}

theorem look_argE : ∀ {args : List Value} {i s : Nat} {v : Value}, look (argE args i) s = some v → i ≤ s ∧ args[s - i]? = some v
  | u :: args, i, s, v, h => by
    simp only [argE, look] at h
    split at h
    · rename_i hb
      have := Nat.eq_of_beq_eq_true hb; subst this
      exact ⟨Nat.le_refl _, by simpa using h⟩
    · obtain ⟨h1, h2⟩ := look_argE h
      refine ⟨by omega, ?_⟩
      rw [show s - i = (s - (i + 1)) + 1 by omega]; simpa using h2

theorem loadVar_wp {t : TypeId} {d : TypeDesc} {i : TypeInfo} {p : Value} {h : Heap} {K : Value → Prop} (hd : P.underlying t = some d) (hi : P.info? t = some i)
    (hq : match isAggD d with
      | true => pLoadN i.size h p K
      | false => pLoad h p K) : ∃ v, rdS P (do loadVar t (← asAddr p)) h = some v ∧ K v := by
  obtain ⟨v, hv, hk⟩ := load_sound hd hi hq
  refine ⟨v, ?_, hk⟩
  have hp : ∃ a, p = .pointer (some a) := by
    cases hag : isAggD d <;> rw [hag] at hq <;> dsimp only at hq
    · unfold pLoad at hq; split at hq
      · exact ⟨_, rfl⟩
      · exact hq.elim
    · unfold pLoadN at hq; split at hq
      · exact ⟨_, rfl⟩
      · exact hq.elim
  obtain ⟨a, rfl⟩ := hp
  exact hv

theorem resQ_sound {e : VEnv} {t : Array Value} {h : Heap} (hr : Rel e t) : ∀ {rs : List ResultVar} {K : List Value → Prop}, resQ P e h rs K →
    ∃ l, rdS P (rs.mapM fun (r : ResultVar) => (match r with
      | .tmp s => pure (t.getD s undef)
      | .cell a ty => do loadVar ty (← asAddr (t.getD a undef)) : Sem Value)) h = some l ∧ l.length = rs.length ∧ K l
  | [], K, hq => ⟨[], rfl, rfl, hq⟩
  | .tmp s :: r, K, hq => by
    simp only [resQ] at hq
    split at hq
    · rename_i v hv
      obtain ⟨l, hl, hlen, hk⟩ := resQ_sound hr hq
      refine ⟨v :: l, ?_, by simp [hlen], hk⟩
      rw [List.mapM_cons]
      rw [rdS_bind (a := v) (by simp [hr s v hv, rdS, pure]), rdS_bind hl]; rfl
    · exact hq.elim
  | .cell a ty :: r, K, hq => by
    simp only [resQ] at hq
    split at hq
    · rename_i p hp
      split at hq
      · rename_i d i hd hi
        have hq' : match isAggD d with
          | true => pLoadN i.size h p (fun v => resQ P e h r fun l => K (v :: l))
          | false => pLoad h p (fun v => resQ P e h r fun l => K (v :: l)) := hq
        obtain ⟨v, hv, hk⟩ := loadVar_wp hd hi hq'
        obtain ⟨l, hl, hlen, hk⟩ := resQ_sound hr hk
        refine ⟨v :: l, ?_, by simp [hlen], hk⟩
        rw [List.mapM_cons]
        have : t.getD a undef = p := by simp [hr a p hp]
        dsimp only
        rw [this, rdS_bind hv, rdS_bind hl]; rfl
      · exact hq.elim
    · exact hq.elim

theorem results_sound {fn : Func} {e : VEnv} {t : Array Value} {h : Heap} {K : List Value → Prop} (hr : Rel e t) (hq : resQ P e h fn.results.toList K) :
    ∃ l, rdS P (results fn t) h = some (oneOr l) ∧ K l := by
  obtain ⟨l, hl, hlen, hk⟩ := resQ_sound hr hq
  refine ⟨l, ?_, hk⟩
  unfold results
  have hm : rdS P (fn.results.mapM fun
      | .tmp s => pure (t.getD s undef)
      | .cell a ty => do loadVar ty (← asAddr (t.getD a undef)) : Sem (Array Value)) h = some l.toArray := by
    rw [Array.mapM_eq_mapM_toList]
    have e : ∀ {α β : Type} (f : α → β) (s : Sem α), (Functor.map f s : Sem β) = (s >>= fun a => pure (f a)) := fun f s => rfl
    rw [e]
    refine (rdS_bind ?_).trans rfl
    exact hl
  refine (rdS_bind hm).trans ?_
  show some _ = some _
  congr 1
  split
  · rename_i h1
    have h1' : l.length = 1 := by simpa using h1
    obtain ⟨v, rfl⟩ := List.length_eq_one_iff.1 h1'
    rfl
  · rename_i h1
    have h1' : l.length ≠ 1 := by simpa using h1
    unfold oneOr
    split
    · simp at h1'
    · rfl

theorem leaves_of {fn : Func} {t : Array Value} {e : VEnv} {R : Ending → World → Prop} {K : Value → Heap → Prop} {w0 : World} (hr : Rel e t)
    (hR : ∀ v w, Same w0 w → K v w.heap → R (.returned v) w) : ∀ (m : List Nat) (w : World), Same w0 w → takeM m w.heap (fun h' => resQ P e h' fn.results.toList fun l => K (oneOr l) h') →
    LeavesInM Fence.wide 0 P fn t R (marks m) .returning w
  | [], w, hs, hq => by
    obtain ⟨l, hl, hk⟩ := results_sound hr hq
    exact ⟨_, rdS_run hl w rfl, hR _ _ hs hk⟩
  | D :: m, w, hs, hq => by
    obtain ⟨hD, hq⟩ := hq
    refine ⟨by simp, .inl ⟨D, { w with heap := w.heap.setIfInBounds D (.deferred none) }, rfl, ?_, leaves_of hr hR m _ ⟨hs.os, hs.output, hs.tape⟩ hq⟩⟩
    simp [Instr.takeDeferred, getObj, setObj, bind, Sem.bind, Sem.run, hD, pure]

/-- A function's contract out of its compiled body. -/
theorem callsW_of {f : FuncId} {fn : Func} {c : Code} {ann : Ann} {args : List Value} {h : Heap} {K : Value → Heap → Prop} (hf : P.funcs[f]? = some fn) (hb : fn.body = some c)
    (hm : P.follows .mixedOrders = true) (hlen : args.length ≤ fn.ntmps)
    (hc : compile P fn.ntmps false c ann (argE args 0) [] h (fnPost P fn.results.toList K)) : CallsW P f args.toArray h K := by
  intro w hw
  refine callsIn_of_wp_marks hf hb trivial ?_
  have hrel : Rel (argE args 0) (args.toArray ++ Array.replicate (fn.ntmps - args.toArray.size) undef) := by
    intro s v hs
    obtain ⟨_, h2⟩ := look_argE hs
    rw [Nat.sub_zero] at h2
    have hlt : s < args.length := (List.getElem?_eq_some_iff.1 h2).1
    rw [Array.getElem?_append_left (by simpa using hlt)]
    simpa using h2
  have hsz : (args.toArray ++ Array.replicate (fn.ntmps - args.toArray.size) undef).size = fn.ntmps := by simp; omega
  refine compile_sound c ann none _ [] h _ hc hm _ w _ hrel hsz rfl hw ?_
  intro ex e' m' a' w' hr' hn' hd' hs' _ _ hk
  have fin : takeM m' w'.heap (fun h' => resQ P e' h' fn.results.toList fun l => K (oneOr l) h') →
      LeavesInM Fence.wide 0 P fn a'.tmps (fun e w' => ∃ v, e = .returned v ∧ Same w w' ∧ K v w'.heap) a'.defers .returning w' := by
    intro hk
    rw [hd']
    exact leaves_of hr' (fun v w'' hs'' hk'' => ⟨v, rfl, hs'', hk''⟩) m' w' hs' hk
  cases ex <;> try exact hk.elim
  · exact fin hk
  · exact fin hk

theorem callsH_of {f : FuncId} {fn : Func} {c : Code} {ann : Ann} {args : List Value} {h : Heap} {K : Value → Heap → Prop} (hf : P.funcs[f]? = some fn) (hb : fn.body = some c)
    (hcal : Callable P f = true) (hm : P.follows .mixedOrders = true) (hlen : args.length ≤ fn.ntmps)
    (hc : compile P fn.ntmps false c ann (argE args 0) [] h (fnPost P fn.results.toList K)) : CallsH P f args.toArray h K :=
  ⟨hcal, callsW_of hf hb hm hlen hc⟩

/-- The kit's contract out of ours. -/
theorem calls_of_H {f : FuncId} {args : Array Value} {w : World} {R : Ending → World → Prop} {K : Value → Heap → Prop} (hc : CallsH P f args w.heap K)
    (hk : ∀ v w', Same w w' → K v w'.heap → R (.returned v) w') : Calls P f args w R :=
  callsIn_wide.1 ((hc.2 w rfl).mono fun _ _ ⟨_, he, hs, hv⟩ => he ▸ hk _ _ hs hv)

end
end Go.Mh
