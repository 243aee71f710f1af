/- A text of the proofs of seat Ytdpofmalgemcdaa: 'Mh.CReg'. It has no condition of its own. -/
import Derived.Test.YtdpofmalgemcdaaMhDrawn
set_option linter.unusedVariables false
set_option linter.unusedSimpArgs false
namespace Go.Mh
open Go

abbrev VEnv := List (Nat × Value)

def look : VEnv → Nat → Option Value
  | [], _ => none
  | (s, v) :: r, t => match Nat.beq s t with
    | true => some v
    | false => look r t

def ev (e : VEnv) : Operand → Value
  | .tmp t => (match look e t with
    | some v => v
    | none => undef)
  | .const v => v
  | .global g => .pointer (some ⟨g, 0, none⟩)
  | .func f => .func (.func f) #[] #[]

def knownO (e : VEnv) : Operand → Bool
  | .tmp t => (match look e t with
    | some _ => true
    | none => false)
  | _ => true

def knownL (e : VEnv) : List Operand → Bool
  | [] => true
  | x :: r => match knownO e x with
    | true => knownL e r
    | false => false

def putE (e : VEnv) (dst : Option Tmp) (v : Value) : VEnv :=
  match dst with
  | some d => (d, v) :: e
  | none => e

def dstOk (n : Nat) : Option Tmp → Bool
  | some d => Nat.blt d n
  | none => true

def Rel (e : VEnv) (t : Array Value) : Prop := ∀ s v, look e s = some v → t[s]? = some v

theorem Rel.ev {e : VEnv} {t : Array Value} (h : Rel e t) {x : Operand} (hk : knownO e x = true) : ev e x = evA t x := by
  cases x with
  | tmp s =>
    simp only [knownO] at hk
    split at hk
    · rename_i v hv
      simp [Mh.ev, evA, hv, h s v hv]
    · cases hk
  | _ => rfl

theorem knownL_mem {e : VEnv} : ∀ {l : List Operand}, knownL e l = true → ∀ x ∈ l, knownO e x = true
  | x :: r, h, y, hy => by
    simp only [knownL] at h
    split at h
    · rename_i hx
      rcases List.mem_cons.1 hy with rfl | hy
      · exact hx
      · exact knownL_mem h y hy
    · cases h

theorem Rel.put {e : VEnv} {t : Array Value} (h : Rel e t) {dst : Option Tmp} {v : Value} (hd : dstOk t.size dst = true) : Rel (putE e dst v) (putA t dst v) := by
  cases dst with
  | none => exact h
  | some d =>
    intro s u hs
    have hlt : d < t.size := Nat.le_of_ble_eq_true hd
    simp only [putE, look] at hs
    split at hs
    · rename_i he
      have := Nat.eq_of_beq_eq_true he; subst this
      simp only [Option.some.injEq] at hs; subst hs
      simp [putA, hlt]
    · rename_i he
      have hne : d ≠ s := fun h => by subst h; simp at he
      simp only [putA, Array.getElem?_setIfInBounds_ne hne]
      exact h s u hs

theorem Rel.lit {e : VEnv} {t : Array Value} (h : Rel e t) {s : Nat} {v : Value} (hs : look e s = some v) : Rel ((s, v) :: e) t := by
  intro s' u hu
  simp only [look] at hu
  split at hu
  · rename_i he
    have := Nat.eq_of_beq_eq_true he; subst this
    simp only [Option.some.injEq] at hu; subst hu
    exact h s v hs
  · exact h s' u hu

def okOp (n : Nat) (o : Oper) (e : VEnv) : Bool :=
  match plainOp o.op with
  | true => (match knownL e o.op.operands.toList with
    | true => dstOk n o.dst
    | false => false)
  | false => false

def cOp (P : Program) (n : Nat) (o : Oper) (e : VEnv) (h : Heap) (K : VEnv → Heap → Prop) : Prop :=
  match okOp n o e with
  | true => (match quietB o.op with
    | true => qop P (ev e) o.op h fun v => K (putE e o.dst v) h
    | false => lop P (ev e) o.op h fun v h' => K (putE e o.dst v) h')
  | false => False

/-- Was the operation passed over, as its own guard's slot shows in the written environment? -/
def skipB (ops : Array Oper) (e : VEnv) (j : Nat) : Bool :=
  match ops[j]? with
  | some o => (match o.guard with
    | none => false
    | some (j', want) => (match dstOf ops j' with
      | some s => (match look e s with
        | some (.bool true) => !want
        | some (.bool false) => want
        | some (.tuple _) => true
        | _ => false)
      | none => false))
  | none => false

def isU (v : Value) (X : Prop) : Prop :=
  match v with
  | .tuple _ => X
  | _ => False

def cGuard (ops : Array Oper) (o : Oper) (e : VEnv) (F : Bool → VEnv → Prop) : Prop :=
  match o.guard with
  | none => F true e
  | some (j, want) => (match dstOf ops j with
    | some s => (match look e s with
      | some v => (match skipB ops e j with
        | true => isU v (F false e)
        | false => ifV v (F want ((s, .bool true) :: e)) (F (!want) ((s, .bool false) :: e)))
      | none => False)
    | none => False)

def cStep (P : Program) (n : Nat) (ops : Array Oper) (o : Oper) (e : VEnv) (h : Heap) (K : VEnv → Heap → Prop) : Prop :=
  cGuard ops o e fun w e' => match w with
    | true => cOp P n o e' h K
    | false => (match dstOk n o.dst with
      | true => K (putE e' o.dst undef) h
      | false => False)

section
variable {P : Program} {ops : Array Oper} {n : Nat}

theorem cGuard_sound {o : Oper} {e : VEnv} {t : Array Value} {F : Bool → VEnv → Prop} (hr : Rel e t) (hg : cGuard ops o e F) :
    ∃ e', Rel e' t ∧ F (Region.wanted o (yielded ops t)) e' := by
  unfold cGuard at hg
  unfold Region.wanted
  cases hgd : o.guard with
  | none => rw [hgd] at hg; exact ⟨e, hr, hg⟩
  | some p =>
    obtain ⟨j, want⟩ := p
    rw [hgd] at hg
    dsimp only at hg ⊢
    split at hg
    · rename_i s hs
      split at hg
      · rename_i v hv
        have ht := hr s v hv
        have hy : yielded ops t j = (match v with | .bool b => some b | _ => none) := by
          unfold yielded
          unfold dstOf at hs
          rw [hs]
          simp only [Option.bind_some, ht]
          cases v <;> rfl
        split at hg
        · unfold isU at hg
          split at hg
          · refine ⟨_, hr, ?_⟩
            rw [hy]; exact hg
          · exact hg.elim
        · unfold ifV at hg
          split at hg
          · refine ⟨_, hr.lit hv, ?_⟩
            rw [hy]; cases want <;> exact hg
          · refine ⟨_, hr.lit hv, ?_⟩
            rw [hy]; cases want <;> exact hg
          · exact hg.elim
      · exact hg.elim
    · exact hg.elim

theorem okOp_parts {o : Oper} {e : VEnv} (h : okOp n o e = true) : plainOp o.op = true ∧ knownL e o.op.operands.toList = true ∧ dstOk n o.dst = true := by
  unfold okOp at h
  split at h
  · rename_i h1
    split at h
    · rename_i h2; exact ⟨h1, h2, h⟩
    · cases h
  · cases h

theorem execOp_env {o : Oper} {e : VEnv} {t : Array Value} (hr : Rel e t) (hp : plainOp o.op = true) (hk : knownL e o.op.operands.toList = true) : execOp (ev e) o = execOp (evA t) o :=
  execOp_congr o (fun cs b hc => by rw [hc] at hp; cases hp) fun x hx => hr.ev (knownL_mem hk x (by simpa using hx))

/-- What a slot holds that no operation of the region writes. -/
def Fr (ops : Array Oper) (t t' : Array Value) : Prop := t'.size = t.size ∧ ∀ s, (∀ i, dstOf ops i ≠ some s) → t'[s]? = t[s]?

theorem Fr.refl (t : Array Value) : Fr ops t t := ⟨rfl, fun _ _ => rfl⟩
theorem Fr.trans {a b c : Array Value} (h : Fr ops a b) (h' : Fr ops b c) : Fr ops a c := ⟨h'.1.trans h.1, fun s hs => (h'.2 s hs).trans (h.2 s hs)⟩
theorem Fr.put {t : Array Value} {i : Nat} {o : Oper} {v : Value} (ho : ops[i]? = some o) : Fr ops t (putA t o.dst v) := by
  refine ⟨putA_size _ _ _, fun s hs => ?_⟩
  cases hd : o.dst with
  | none => rfl
  | some d =>
    have hne : d ≠ s := fun e => hs i (by simp [dstOf, ho, hd, e])
    simp [putA, Array.getElem?_setIfInBounds_ne hne]

theorem cStep_sound {i : Nat} {o : Oper} {e : VEnv} {t : Array Value} {h : Heap} {K : VEnv → Heap → Prop} (ho : ops[i]? = some o) (hr : Rel e t) (hn : t.size = n)
    (hc : cStep P n ops o e h K) : opA P ops i t h fun t' h' => Fr ops t t' ∧ ∃ e', Rel e' t' ∧ K e' h' := by
  unfold cStep at hc
  obtain ⟨e', hr', hc⟩ := cGuard_sound hr hc
  unfold opA
  rw [ho]
  dsimp only
  cases hw : Region.wanted o (yielded ops t) with
  | true =>
    rw [hw] at hc
    simp only [if_true]
    unfold cOp at hc
    dsimp only at hc
    split at hc
    · rename_i hok
      obtain ⟨hp, hk, hd⟩ := okOp_parts hok
      rw [← hn] at hd
      rw [← execOp_env hr' hp hk]
      split at hc
      · obtain ⟨v, hv, hK⟩ := qop_sound hc
        exact wpS_of_rdS hv ⟨Fr.put ho, _, hr'.put hd, hK⟩
      · exact wpS_mono (nextK_mono fun v h' hK => ⟨Fr.put ho, _, hr'.put hd, hK⟩) (lop_sound hc)
    · exact hc.elim
  | false =>
    rw [hw] at hc
    simp only [Bool.false_eq_true, if_false]
    dsimp only at hc
    split at hc
    · rename_i hd
      rw [← hn] at hd
      exact ⟨Fr.put ho, _, hr'.put hd, hc⟩
    · exact hc.elim

/-- A loud operation that only adds a block. -/
theorem cStep_adds {o : Oper} {e : VEnv} {h : Heap} {K : VEnv → Heap → Prop} (ha : addsB o.op = true) (hc : cStep P n ops o e h K) :
    cStep P n ops o e h fun e' h' => K e' h' ∧ (h' = h ∨ ∃ x, h' = h.push x) := by
  have hF : ∀ (w : Bool) (e' : VEnv), (match w with
      | true => cOp P n o e' h K
      | false => (match dstOk n o.dst with
        | true => K (putE e' o.dst undef) h
        | false => False)) → (match w with
      | true => cOp P n o e' h fun e' h' => K e' h' ∧ (h' = h ∨ ∃ x, h' = h.push x)
      | false => (match dstOk n o.dst with
        | true => K (putE e' o.dst undef) h ∧ (h = h ∨ ∃ x, h = h.push x)
        | false => False)) := by
    intro w e' hx
    cases w with
    | true =>
      dsimp only at hx ⊢
      unfold cOp at *
      split at hx
      · split at hx
        · rename_i hq; rw [adds_loud ha] at hq; cases hq
        · exact lop_mono (fun v h' hk => ⟨hk.1, .inr hk.2⟩) (lop_adds ha hx)
      · exact hx.elim
    | false =>
      dsimp only at hx ⊢
      split at hx
      · exact ⟨hx, .inl rfl⟩
      · exact hx.elim
  unfold cStep at *
  unfold cGuard at *
  split at hc
  · exact hF true e hc
  · rename_i j want _
    split at hc
    · rename_i s _
      split at hc
      · split at hc
        · unfold isU at *
          split at hc
          · exact hF false e hc
          · exact hc.elim
        · unfold ifV at *
          split at hc
          · exact hF want ((s, .bool true) :: e) hc
          · exact hF (!want) ((s, .bool false) :: e) hc
          · exact hc.elim
      · exact hc.elim
    · exact hc.elim

/-! ### A region in the text's order -/

def cSeq (P : Program) (n : Nat) (ops : Array Oper) : List Oper → VEnv → Heap → (VEnv → Heap → Prop) → Prop
  | [], e, h, K => K e h
  | o :: r, e, h, K => cStep P n ops o e h fun e' h' => cSeq P n ops r e' h' K

def opsA (P : Program) (ops : Array Oper) (Q : Array Value → Heap → Prop) : List Nat → Array Value → Heap → Prop
  | [], t, h => Q t h
  | i :: r, t, h => opA P ops i t h (opsA P ops Q r)

theorem opsA_sound {ro : Option Nat} {Q : Exit → Act → World → Prop} {K : Array Value → Heap → Prop} (hp : AllPlain ops) : ∀ (l : List Nat) (a : Act) (w : World),
    opsA P ops K l a.tmps w.heap → (∀ a' w', a'.defers = a.defers → Same w w' → K a'.tmps w'.heap → Q .normal a' w') → wpOpsIn (WF ro) 0 P ops Q l a w
  | [], a, w, hk, hq => hq _ _ rfl (.refl _) hk
  | i :: r, a, w, hk, hq => by
    rw [wpOpsIn_cons]
    exact opA_sound (hp i) hk fun a' w' hd hs hk' => opsA_sound hp r a' w' hk' fun a'' w'' hd' hs' hk'' => hq _ _ (hd'.trans hd) (hs.trans hs') hk''

theorem cSeq_sound : ∀ (l : List Oper) (k : Nat) {e : VEnv} {t : Array Value} {h : Heap} {K : VEnv → Heap → Prop}, ops.toList.drop k = l → Rel e t → t.size = n →
    cSeq P n ops l e h K → opsA P ops (fun t' h' => Fr ops t t' ∧ ∃ e', Rel e' t' ∧ K e' h') ((List.range ops.size).drop k) t h
  | [], k, e, t, h, K, hl, hr, hn, hc => by
    have : ops.size ≤ k := by
      have := congrArg List.length hl; simp at this; omega
    rw [List.drop_eq_nil_of_le (by simpa using this)]
    exact ⟨.refl _, e, hr, hc⟩
  | o :: r, k, e, t, h, K, hl, hr, hn, hc => by
    have hk : k < ops.size := by
      have := congrArg List.length hl; simp at this; omega
    have ho : ops[k]? = some o := by
      have : (ops.toList.drop k)[0]? = some o := by rw [hl]; rfl
      simpa using this
    have hl' : ops.toList.drop (k + 1) = r := by
      rw [← List.drop_drop, hl]; rfl
    have hd : (List.range ops.size).drop k = k :: (List.range ops.size).drop (k + 1) := by
      rw [List.drop_eq_getElem_cons (by simpa using hk)]; simp
    rw [hd]
    refine opA_mono ?_ (cStep_sound ho hr hn hc)
    rintro t' h' ⟨hf, e', hr', hc'⟩
    have := cSeq_sound r (k + 1) hl' hr' (hf.1.trans hn) hc'
    have mono : ∀ (l : List Nat) (t : Array Value) (h : Heap) {K K' : Array Value → Heap → Prop}, (∀ t h, K t h → K' t h) → opsA P ops K l t h → opsA P ops K' l t h := by
      intro l
      induction l with
      | nil => intro t h K K' hm hk; exact hm _ _ hk
      | cons i r ih => intro t h K K' hm hk; exact opA_mono (fun t h => ih t h hm) hk
    exact mono _ _ _ (fun t'' h'' ⟨hf', hx⟩ => ⟨hf.trans hf', hx⟩) this

end
end Go.Mh
