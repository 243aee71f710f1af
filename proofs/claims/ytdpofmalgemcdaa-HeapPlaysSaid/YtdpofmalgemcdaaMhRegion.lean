/- A text of the proofs of seat Ytdpofmalgemcdaa: 'Mh.Region'. It has no condition of its own. -/
import Derived.Test.YtdpofmalgemcdaaMhLSound3
set_option linter.unusedVariables false
set_option linter.unusedSimpArgs false
namespace Go.Mh
open Go

def WF (ro : Option Nat) : Fence := { Fence.wide with round := ro }

theorem WF_fn (ro : Option Nat) (f : FuncId) : (WF ro).fn f := trivial
theorem WF_depth (ro : Option Nat) : (WF ro).depth = none := rfl
theorem WF_calls {ro : Option Nat} {n : Nat} {P : Program} {f : FuncId} {args : Array Value} {w : World} {R : Ending → World → Prop}
    (h : CallsIn Fence.wide n P f args w R) : CallsIn (WF ro) n P f args w R := h
theorem WF_round {ro : Option Nat} {n l : Nat} {P : Program} {f : FuncId} {tmps : Array Value} {assign body : Code} {w : World} {R : Ending → World → Prop}
    (h : RoundIn Fence.wide n P l f tmps assign body w R) : RoundIn (WF ro) n P l f tmps assign body w R := h

def evA (t : Array Value) : Operand → Value
  | .tmp s => t.getD s undef
  | .const v => v
  | .global g => .pointer (some ⟨g, 0, none⟩)
  | .func f => .func (.func f) #[] #[]

theorem eval_evA (a : Act) : a.eval = evA a.tmps := by funext x; cases x <;> rfl

def putA (t : Array Value) (dst : Option Tmp) (v : Value) : Array Value :=
  match dst with
  | some d => t.setIfInBounds d v
  | none => t

theorem put_tmps (a : Act) (dst : Option Tmp) (v : Value) : (a.put dst v).tmps = putA a.tmps dst v := by cases dst <;> rfl
theorem put_defers (a : Act) (dst : Option Tmp) (v : Value) : (a.put dst v).defers = a.defers := by cases dst <;> rfl
theorem putA_size (t : Array Value) (dst : Option Tmp) (v : Value) : (putA t dst v).size = t.size := by cases dst <;> simp [putA]

def plainOp : Op → Bool
  | .defer _ | .select .. => false
  | _ => true

def AllPlain (ops : Array Oper) : Prop := ∀ (i : Nat) (o : Oper), ops[i]? = some o → plainOp o.op = true

section
variable {P : Program} {ops : Array Oper}

/-- One operation of a region, over slots and heap. -/
def opA (P : Program) (ops : Array Oper) (i : Nat) (t : Array Value) (h : Heap) (K : Array Value → Heap → Prop) : Prop :=
  match ops[i]? with
  | none => K t h
  | some o => if Region.wanted o (yielded ops t) then wpS P (execOp (evA t) o) h (nextK P fun v h' => K (putA t o.dst v) h') else K (putA t o.dst undef) h

theorem nextK_mono {K K' : Value → Heap → Prop} (hm : ∀ v h, K v h → K' v h) : ∀ n h, nextK P K n h → nextK P K' n h := by
  intro n h hk
  cases n <;> simp only [nextK] at hk ⊢
  · exact hm _ _ hk
  · exact hm _ _ hk
  · exact fun w hw => (hk w hw).mono fun _ _ ⟨v, he, hs, hk⟩ => ⟨v, he, hs, hm _ _ hk⟩
  · exact RoundH.mono hk hm

theorem opA_mono {i : Nat} {t : Array Value} {h : Heap} {K K' : Array Value → Heap → Prop} (hm : ∀ t h, K t h → K' t h) (hk : opA P ops i t h K) : opA P ops i t h K' := by
  unfold opA at *
  split
  · rename_i e; rw [e] at hk; exact hm _ _ hk
  · rename_i o e; rw [e] at hk
    dsimp only at hk
    split
    · rename_i hw; rw [if_pos hw] at hk; exact wpS_mono (nextK_mono fun v h hk => hm _ _ hk) hk
    · rename_i hw; rw [if_neg hw] at hk; exact hm _ _ hk

theorem semAt_plain {ro : Option Nat} {ρ : Operand → Value} {o : Oper} (hp : plainOp o.op = true) : Oper.semAt ro ρ o = execOp ρ o :=
  Oper.semAt_eq ro ρ o fun c hc => by rw [hc] at hp; cases hp

theorem upon_sound {ro : Option Nat} {o : Oper} {a : Act} {w : World} {Q : Exit → Act → World → Prop} {K : Value → Heap → Prop} {K' : Act → World → Prop}
    (hp : plainOp o.op = true) (hs : wpS P (execOp a.eval o) w.heap (nextK P K))
    (hk : ∀ v w', Same w w' → K v w'.heap → K' (a.put o.dst v) w') : o.wpIn (WF ro) 0 P a w K' Q := by
  refine ⟨fun f _ => WF_fn ro f, ?_⟩
  rw [semAt_plain hp]
  obtain ⟨x, w', hr, hsame, hx⟩ := wpS_run hs w rfl
  rw [hr]
  cases x <;> simp only [nextK] at hx <;> try exact hx.elim
  · exact hk _ _ hsame hx
  · exact hk _ _ hsame hx
  · refine ⟨fun h => by simp [WF_depth] at h, ?_⟩
    refine (WF_calls (hx w' rfl)).mono ?_
    rintro e w'' ⟨v, rfl, hs', hv⟩
    exact hk _ _ (hsame.trans hs') hv
  · refine ⟨fun h => by simp [WF_depth] at h, ?_⟩
    refine (WF_round (hx w' rfl)).mono ?_
    rintro e w'' ⟨v, rfl, hs', hv⟩
    exact hk _ _ (hsame.trans hs') hv

theorem opA_sound {ro : Option Nat} {i : Nat} {a : Act} {w : World} {Q : Exit → Act → World → Prop} {K : Array Value → Heap → Prop} {K' : Act → World → Prop}
    (hp : ∀ o, ops[i]? = some o → plainOp o.op = true) (hs : opA P ops i a.tmps w.heap K)
    (hk : ∀ a' w', a'.defers = a.defers → Same w w' → K a'.tmps w'.heap → K' a' w') : wpOpIn (WF ro) 0 P ops Q i K' a w := by
  unfold opA at hs
  unfold wpOpIn
  split
  · rename_i e; rw [e] at hs; exact hk _ _ rfl (.refl _) hs
  · rename_i o e
    rw [e] at hs
    dsimp only at hs
    split
    · rename_i hw; rw [if_pos hw] at hs
      rw [← eval_evA] at hs
      exact upon_sound (hp o e) hs fun v w' hs' hv => hk _ _ (put_defers _ _ _) hs' (by rw [put_tmps]; exact hv)
    · rename_i hw; rw [if_neg hw] at hs
      exact ⟨fun f _ => WF_fn ro f, hk _ _ (put_defers _ _ _) (.refl _) (by rw [put_tmps]; exact hs)⟩

/-! ### Any order -/

def anyA (P : Program) (ops : Array Oper) (Q : Array Value → Heap → Prop) : Nat → Array Bool → Array Value → Heap → Prop
  | 0, listed, t, h => Region.ready .any ops listed = [] ∧ Q t h
  | fuel + 1, listed, t, h =>
    (Region.ready .any ops listed = [] → Q t h) ∧
    ∀ i ∈ Region.ready .any ops listed, opA P ops i t h (anyA P ops Q fuel (listed.setIfInBounds i true))

theorem anyA_sound {ro : Option Nat} {Q : Exit → Act → World → Prop} {K : Array Value → Heap → Prop} (hp : AllPlain ops) :
    ∀ (fuel : Nat) (listed : Array Bool) (a : Act) (w : World), anyA P ops K fuel listed a.tmps w.heap →
      (∀ a' w', a'.defers = a.defers → Same w w' → K a'.tmps w'.heap → Q .normal a' w') → wpAnyIn (WF ro) 0 P .any ops Q fuel listed a w := by
  intro fuel
  induction fuel with
  | zero => intro listed a w hk hq; exact ⟨hk.1, hq _ _ rfl (.refl _) hk.2⟩
  | succ fuel ih =>
    intro listed a w hk hq
    refine ⟨fun hr => hq _ _ rfl (.refl _) (hk.1 hr), fun i hi => ?_⟩
    refine opA_sound (hp i) (hk.2 i hi) fun a' w' hd hs h' => ih _ a' w' h' fun a'' w'' hd' hs' h'' => hq _ _ (hd'.trans hd) (hs.trans hs') h''

/-! ### Two operations that are apart -/

theorem evA_put {t : Array Value} {dst : Option Tmp} {v : Value} {x : Operand} (hx : ∀ d, dst = some d → x ≠ .tmp d) : evA (putA t dst v) x = evA t x := by
  cases dst with
  | none => rfl
  | some d =>
    cases x with
    | tmp s =>
      have : d ≠ s := fun e => hx d rfl (e ▸ rfl)
      simp [evA, putA, Array.getElem?_setIfInBounds_ne this]
    | _ => rfl

theorem execOp_evA_put {t : Array Value} {o : Oper} {dst : Option Tmp} {v : Value} (hp : plainOp o.op = true) (hd : ∀ d, dst = some d → d ∉ o.looksAt ops) :
    execOp (evA (putA t dst v)) o = execOp (evA t) o := by
  refine execOp_congr o (fun cs b hc => by rw [hc] at hp; cases hp) fun x hx => evA_put fun d hd' hxd => hd d hd' ?_
  subst hxd
  exact List.mem_append_left _ (List.mem_filterMap.2 ⟨.tmp d, by simpa using hx, rfl⟩)

theorem wanted_evA_put {t : Array Value} {o : Oper} {dst : Option Tmp} {v : Value} (hd : ∀ d, dst = some d → d ∉ o.looksAt ops) :
    Region.wanted o (yielded ops (putA t dst v)) = Region.wanted o (yielded ops t) := by
  have := wanted_put (ops := ops) o { tmps := t, defers := [] } dst v hd
  rw [put_tmps] at this
  exact this

theorem putA_comm {t : Array Value} {x y : Option Tmp} {v u : Value} (h : ∀ d, x = some d → y ≠ some d) : putA (putA t x v) y u = putA (putA t y u) x v := by
  cases x with
  | none => rfl
  | some d =>
    cases y with
    | none => rfl
    | some e =>
      have : d ≠ e := fun he => h d rfl (he ▸ rfl)
      simp [putA, Array.setIfInBounds_comm _ _ this]

/-- What a quiet operation gives, in whatever heap that is asked. -/
def Gives (P : Program) (ops : Array Oper) (c : Nat) (v : Value) (t : Array Value) (h : Heap) : Prop :=
  ∃ o, ops[c]? = some o ∧ if Region.wanted o (yielded ops t) then rdS P (execOp (evA t) o) h = some (.value v) else v = undef

def dstOf (ops : Array Oper) (c : Nat) : Option Tmp := (ops[c]?).bind (·.dst)

theorem Gives.opA {c : Nat} {v : Value} {t : Array Value} {h : Heap} {K : Array Value → Heap → Prop} (hg : Gives P ops c v t h) (hk : K (putA t (dstOf ops c) v) h) : Mh.opA P ops c t h K := by
  obtain ⟨o, ho, hv⟩ := hg
  unfold Mh.opA
  simp only [ho, dstOf, Option.bind_some] at *
  split
  · rename_i hw; rw [if_pos hw] at hv; exact wpS_of_rdS hv hk
  · rename_i hw; rw [if_neg hw] at hv; subst hv; exact hk

def apartAt (ops : Array Oper) (c i : Nat) : Bool :=
  match ops[c]?, ops[i]? with
  | some x, some y => x.apart ops y
  | _, _ => false

theorem Gives.put {c i : Nat} {v u : Value} {t : Array Value} {h : Heap} (hp : AllPlain ops) (ha : apartAt ops c i = true) :
    Gives P ops c v (putA t (dstOf ops i) u) h ↔ Gives P ops c v t h := by
  unfold apartAt at ha
  split at ha
  · rename_i x y hx hy
    obtain ⟨_, _, h3⟩ := Oper.apart_spec ha
    unfold Gives
    simp only [hx, dstOf, hy, Option.bind_some, Option.some.injEq, exists_eq_left']
    rw [wanted_evA_put h3, execOp_evA_put (hp c x hx) h3]
  · cases ha

theorem opA_swap {c i : Nat} {v : Value} {t : Array Value} {h : Heap} {K : Array Value → Heap → Prop} (hp : AllPlain ops)
    (ha : apartAt ops c i = true) (hk : opA P ops i (putA t (dstOf ops c) v) h K) :
    opA P ops i t h (fun t' h' => (∃ u, t' = putA t (dstOf ops i) u) ∧ K (putA t' (dstOf ops c) v) h') := by
  unfold apartAt at ha
  split at ha
  · rename_i x y hx hy
    obtain ⟨h1, h2, h3⟩ := Oper.apart_spec ha
    have hpy := hp i y hy
    unfold opA at *
    simp only [hx, dstOf, hy, Option.bind_some] at hk ⊢
    rw [wanted_evA_put h1, execOp_evA_put hpy h1] at hk
    split
    · rename_i hw; rw [if_pos hw] at hk
      refine wpS_mono (nextK_mono fun u h' hk' => ⟨⟨u, rfl⟩, ?_⟩) hk
      rw [← putA_comm h2]; exact hk'
    · rename_i hw; rw [if_neg hw] at hk
      refine ⟨⟨_, rfl⟩, ?_⟩
      rw [← putA_comm h2]; exact hk
  · cases ha

end
end Go.Mh
