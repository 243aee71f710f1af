/- A text of the proofs of seat Ytdpofmalgemcdaa: 'Mh.Compile'. It has no condition of its own. -/
import Derived.Test.YtdpofmalgemcdaaMhCDrawn
set_option linter.unusedVariables false
set_option linter.unusedSimpArgs false
namespace Go.Mh
open Go

/-! ### A drawn region's check -/

def chk1 (ops : Array Oper) (ancs : List Nat) (x : Oper) (i ai : Nat) : List Oper → Nat → Bool
  | [], _ => true
  | y :: r, j => (Nat.beq i j || (Nat.testBit ai j || (Nat.testBit (ancs.getD j 0) i || x.apart ops y))) && chk1 ops ancs x i ai r (j + 1)

def chk (ops : Array Oper) (ancs : List Nat) : List Oper → Nat → Bool
  | [], _ => true
  | x :: r, i => (match quietB x.op with
    | true => chk1 ops ancs x i (ancs.getD i 0) ops.toList 0
    | false => true) && chk ops ancs r (i + 1)

def plainL : List Oper → Bool
  | [] => true
  | o :: r => plainOp o.op && plainL r

def drawOK (ops : Array Oper) (ancs : List Nat) : Bool := ancOKB ancs ops.toList 0 && chk ops ancs ops.toList 0

section
variable {P : Program} {ops : Array Oper} {ancs : List Nat}

theorem chk1_spec {x : Oper} {i ai : Nat} : ∀ (l : List Oper) (k : Nat), chk1 ops ancs x i ai l k = true → ∀ (j : Nat) (y : Oper), l[j]? = some y →
    i = k + j ∨ ai.testBit (k + j) = true ∨ (ancs.getD (k + j) 0).testBit i = true ∨ x.apart ops y = true
  | [], _, _, j, y, hy => by simp at hy
  | z :: l, k, h, j, y, hy => by
    simp only [chk1, Bool.and_eq_true, Bool.or_eq_true] at h
    cases j with
    | zero =>
      simp only [List.getElem?_cons_zero, Option.some.injEq] at hy; subst hy
      rcases h.1 with h | h | h | h
      · exact .inl (Nat.eq_of_beq_eq_true h)
      · exact .inr (.inl h)
      · exact .inr (.inr (.inl h))
      · exact .inr (.inr (.inr h))
    | succ j =>
      have := chk1_spec l (k + 1) h.2 j y (by simpa using hy)
      rw [show k + (j + 1) = k + 1 + j by omega]; exact this

theorem chk_spec : ∀ (l : List Oper) (k : Nat), chk ops ancs l k = true → ∀ (i : Nat) (x : Oper), l[i]? = some x → quietB x.op = true →
    chk1 ops ancs x (k + i) (ancs.getD (k + i) 0) ops.toList 0 = true
  | [], _, _, i, x, hx => by simp at hx
  | z :: l, k, h, i, x, hx => by
    intro hq
    simp only [chk, Bool.and_eq_true] at h
    cases i with
    | zero =>
      simp only [List.getElem?_cons_zero, Option.some.injEq] at hx; subst hx
      have := h.1; rw [hq] at this; exact this
    | succ i =>
      have := chk_spec l (k + 1) h.2 i x (by simpa using hx) hq
      rw [show k + (i + 1) = k + 1 + i by omega]; exact this

theorem apartOK_of (h : chk ops ancs ops.toList 0 = true) : apartOK ops ancs := by
  intro c i hc hi hne hq h1 h2
  unfold quietAt at hq
  split at hq
  · rename_i x hx
    obtain ⟨y, hy⟩ : ∃ y, ops[i]? = some y := ⟨_, Array.getElem?_eq_getElem hi⟩
    have := chk1_spec _ _ (chk_spec _ _ h c x (by simpa using hx) hq) i y (by simpa using hy)
    simp only [Nat.zero_add] at this
    unfold apartAt
    rw [hx, hy]
    dsimp only
    rcases this with h | h | h | h
    · exact (hne h).elim
    · unfold ancBit at h2; rw [h2] at h; cases h
    · unfold ancBit at h1; rw [h1] at h; cases h
    · exact h
  · cases hq

theorem plainL_spec : ∀ {l : List Oper}, plainL l = true → ∀ (i : Nat) (o : Oper), l[i]? = some o → plainOp o.op = true
  | [], _, i, o, ho => by simp at ho
  | x :: l, h, i, o, ho => by
    simp only [plainL, Bool.and_eq_true] at h
    cases i with
    | zero => simp only [List.getElem?_cons_zero, Option.some.injEq] at ho; subst ho; exact h.1
    | succ i => exact plainL_spec h.2 i o (by simpa using ho)

theorem allPlain_of (h : plainL ops.toList = true) : AllPlain ops := fun i o ho => plainL_spec h i o (by simpa using ho)

end

/-! ### Loops -/

/-- The least fixed point: what is reached by rounds that end. -/
def LoopH {σ : Type} (B : σ → Heap → (σ → Heap → Prop) → Prop) (x : σ) (h : Heap) : Prop :=
  ∀ Z : σ → Heap → Prop, (∀ x h, B x h Z → Z x h) → Z x h

def Vals : List Nat → Type
  | [] => Unit
  | _ :: r => Value × Vals r

def bindV : (l : List Nat) → Vals l → VEnv → VEnv
  | [], _, e => e
  | s :: r, x, e => (s, x.1) :: bindV r x.2 e

def takeV (e : VEnv) : (l : List Nat) → (Vals l → Prop) → Prop
  | [], K => K ()
  | s :: r, K => (match look e s with
    | some v => takeV e r fun x => K (v, x)
    | none => False)

def memN (s : Nat) : List Nat → Bool
  | [] => false
  | x :: r => match Nat.beq x s with
    | true => true
    | false => memN s r

def keepE (drop : List Nat) : VEnv → VEnv
  | [] => []
  | x :: r => match memN x.1 drop with
    | true => keepE drop r
    | false => x :: keepE drop r

def dstsL : List Oper → List Nat
  | [] => []
  | o :: r => match o.dst with
    | some d => d :: dstsL r
    | none => dstsL r

/-- The slots that a piece of code may write (a range over a function writes none of this frame's). -/
def writes : Code → List Nat
  | .region _ ops _ => dstsL ops.toList
  | .seq a b => writes a ++ writes b
  | .cond _ a b => writes a ++ writes b
  | .block _ a => writes a
  | .loop a => writes a
  | .scope a => writes a
  | _ => []

def noRange : Code → Bool
  | .seq a b => noRange a && noRange b
  | .cond _ a b => noRange a && noRange b
  | .block _ a => noRange a
  | .loop a => noRange a
  | .scope a => noRange a
  | .rangeFunc .. => false
  | _ => true

/-- What the program beside the code says of its loops. -/
inductive Ann where
  | leaf
  | one (a : Ann)
  | two (a b : Ann)
  | loop (slots : List Nat) (a : Ann)

/-- A loop over a function, in its block. -/
def lo (L : Loop) (st : LoopState) (p : Option Code) : Obj := .loop { L with state := st, pending := p }

def yieldV (l : Nat) : Value := .func (.yield l) #[] #[]

def lookK : List (Nat × (Heap → Prop)) → Nat → Heap → Prop
  | [], _, _ => False
  | (i, K) :: r, id, h => match Nat.beq i id with
    | true => K h
    | false => lookK r id h

def jumpK (Kn Kr : Heap → Prop) (Ks : List (Nat × (Heap → Prop))) (h : Heap) : Option Code → Prop
  | none => Kn h
  | some .ret => Kr h
  | some (.exit id) => lookK Ks id h
  | some _ => False

def listV : (l : List Nat) → Vals l → List Value
  | [], _ => []
  | _ :: r, x => x.1 :: listV r x.2

def roundK (l : Nat) (L : Loop) (K : Value → Heap → Prop) (ex : Exit) (h : Heap) : Prop :=
  ∃ p, h[l]? = some (lo L .busy p) ∧ match ex with
    | .normal => K (.bool true) (h.setIfInBounds l (lo L .ready none))
    | .ret => K (.bool false) (h.setIfInBounds l (lo L .done (some .ret)))
    | .exit id => K (.bool false) (h.setIfInBounds l (lo L .done (some (.exit id))))
    | _ => False

/-- The call of a function that is no yield. -/
def callF (P : Program) (v : Value) (args : Array Value) (h : Heap) (K : Value → Heap → Prop) : Prop :=
  match v with
  | .func (.func f) first captured => CallsH P f (first ++ args ++ captured) h K
  | _ => False

/-- The beginning of a round. -/
def beginR (l : Nat) (L : Loop) (h : Heap) (K : Heap → Prop) : Prop :=
  ∃ p, h[l]? = some (lo L .ready p) ∧ K (h.setIfInBounds l (lo L .busy p))

/-- A range over a function: whatever the loop's record L is, if yield with it does what the body does, the call of the function ends well. -/
def rangeH (P : Program) (fv : Value) (ps : List Nat) (l : Nat) (h0 : Heap) (B : Loop → Vals ps → Heap → (Exit → Heap → Prop) → Prop) (Kn Kr : Heap → Prop) (Ks : List (Nat × (Heap → Prop))) : Prop :=
  ∀ L : Loop, (∀ (x : Vals ps) (h : Heap) (R : Value → Heap → Prop) (st : LoopState) (p : Option Code), h[l]? = some (lo L st p) →
      B L x h (roundK l L R) → callV P (yieldV l) (listV ps x).toArray h R) →
    callF P fv #[yieldV l] (h0.push (lo L .ready none)) fun _ h' => ∃ st p, st ≠ .busy ∧ h'[l]? = some (lo L st p) ∧ jumpK Kn Kr Ks (h'.setIfInBounds l (lo L .exhausted p)) p

def dropN (id : Nat) : List Nat → List Nat
  | [] => []
  | x :: r => match Nat.beq x id with
    | true => dropN id r
    | false => x :: dropN id r

/-- The blocks that a piece of code may leave for. -/
def exits : Code → List Nat
  | .exit id => [id]
  | .seq a b => exits a ++ exits b
  | .cond _ a b => exits a ++ exits b
  | .block id a => dropN id (exits a)
  | .loop a => exits a
  | _ => []

def ltAll (n : Nat) : List Nat → Bool
  | [] => true
  | x :: r => Nat.blt x n && ltAll n r

def zipV : (l : List Nat) → Vals l → VEnv → VEnv
  | [], _, e => e
  | s :: r, x, e => zipV r x.2 ((s, x.1) :: e)

def compile (P : Program) (n : Nat) (ro : Bool) : Code → Ann → VEnv → List Nat → Heap → (Exit → VEnv → List Nat → Heap → Prop) → Prop
  | .skip, _, e, m, h, K => K .normal e m h
  | .label _, _, e, m, h, K => K .normal e m h
  | .ret, _, e, m, h, K => K .ret e m h
  | .exit id, _, e, m, h, K => K (.exit id) e m h
  | .seq a b, .two x y, e, m, h, K => compile P n ro a x e m h fun ex e' m' h' => (match ex with
    | .normal => compile P n ro b y e' m' h' K
    | ex => K ex e' m' h')
  | .cond c a b, .two x y, e, m, h, K => (match knownO e c with
    | true => ifV (ev e c) (compile P n ro a x e m h K) (compile P n ro b y e m h K)
    | false => False)
  | .block id a, .one x, e, m, h, K => compile P n ro a x e m h fun ex e' m' h' => (match ex with
    | .exit id' => (match Nat.beq id' id with
      | true => K .normal e' m' h'
      | false => K (.exit id') e' m' h')
    | ex => K ex e' m' h')
  | .loop a, .loop slots x, e, m, h, K => (match noRange a with
    | true => takeV e slots fun x0 => LoopH (fun v h Z => compile P n ro a x (bindV slots v (keepE (slots ++ writes a) e)) m h fun ex e' m' h' => (match ex with
      | .normal => takeV e' slots fun v' => Z v' h'
      | ex => K ex e' m' h')) x0 h
    | false => takeV e slots fun x0 => LoopH (fun (v : List Nat × Vals slots) h Z => compile P n ro a x (bindV slots v.2 (keepE (slots ++ writes a) e)) v.1 h fun ex e' m' h' => (match ex with
      | .normal => takeV e' slots fun v' => Z (m', v') h'
      | ex => K ex e' m' h')) (m, x0) h)
  | .region _ ops draw, _, e, m, h, K => (match plainL ops.toList with
    | true => (match draw with
      | false => cSeq P n ops ops.toList e h fun e' h' => K .normal e' m h'
      | true => (match drawOK ops (ancList ops.toList []) with
        | true => cDrawn P n ops (ancList ops.toList []) ops.size 0 [] e h fun e' h' => K .normal e' m h'
        | false => False))
    | false => False)
  | .rangeFunc f params assign body, .two x y, e, m, h, K => (match knownO e f with
    | true => (match ro with
      | false => (match ltAll n params.toList with
        | true => rangeH P (ev e f) params.toList (h.size + 1) (h.push (.deferred (some [])))
          (fun L v h' R => compile P n true assign x (zipV params.toList v e) [] h' fun ex e1 m1 h1 => (match ex with
            | .normal => beginR (h.size + 1) L h1 fun h2 => compile P n true body y e1 m1 h2 fun ex' _ _ h3 => R ex' h3
            | _ => False)) (fun h' => K .normal e (h.size :: m) h') (fun h' => K .ret e (h.size :: m) h') ((exits body).map fun id => (id, fun h' => K (.exit id) e (h.size :: m) h'))
        | false => False)
      | true => False)
    | false => False)
  | _, _, _, _, _, _ => False

end Go.Mh
