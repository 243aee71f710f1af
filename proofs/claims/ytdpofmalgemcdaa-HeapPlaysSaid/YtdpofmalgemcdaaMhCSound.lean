/- A text of the proofs of seat Ytdpofmalgemcdaa: 'Mh.CSound'. It has no condition of its own. -/
import Derived.Test.YtdpofmalgemcdaaMhCompile
import Derived.RangeFuncLeaves
set_option linter.unusedVariables false
set_option linter.unusedSimpArgs false
namespace Go.Mh
open Go

def marks (m : List Nat) : List Deferred := m.map fun D => { target := .collected D, args := #[] }

section
variable {P : Program}

theorem memN_append {s : Nat} : ∀ {a b : List Nat}, memN s (a ++ b) = (memN s a || memN s b)
  | [], b => by simp [memN]
  | x :: a, b => by
    simp only [List.cons_append, memN]
    split
    · rfl
    · exact memN_append

theorem memN_dsts {s : Nat} : ∀ (l : List Oper), memN s (dstsL l) = false → ∀ o ∈ l, o.dst ≠ some s
  | [], _, o, ho => by cases ho
  | x :: l, h, o, ho => by
    have hx : x.dst ≠ some s ∧ memN s (dstsL l) = false := by
      simp only [dstsL] at h
      split at h
      · rename_i d hd
        simp only [memN] at h
        split at h
        · cases h
        · rename_i hb
          refine ⟨fun e => ?_, h⟩
          rw [hd] at e; cases e
          rw [Nat.beq_refl] at hb; cases hb
      · rename_i hd
        exact ⟨(fun e => by rw [hd] at e; cases e), h⟩
    rcases List.mem_cons.1 ho with rfl | ho
    · exact hx.1
    · exact memN_dsts l hx.2 o ho

def FrW (c : Code) (t t' : Array Value) : Prop := ∀ s, memN s (writes c) = false → t'[s]? = t[s]?

theorem look_bindV {slots : List Nat} {e : VEnv} : ∀ {x : Vals slots} {s : Nat} {v : Value}, look (bindV slots x e) s = some v → memN s slots = true ∨ look e s = some v := by
  induction slots with
  | nil => intro x s v h; exact .inr h
  | cons d r ih =>
    intro x s v h
    simp only [bindV, look] at h
    simp only [memN]
    split at h
    · rename_i hb; rw [hb]; exact .inl rfl
    · rename_i hb; rw [hb]; exact ih h

theorem look_keepE {drop : List Nat} : ∀ {e : VEnv} {s : Nat} {v : Value}, look (keepE drop e) s = some v → memN s drop = false ∧ look e s = some v
  | [], s, v, h => by cases h
  | (d, u) :: e, s, v, h => by
    simp only [keepE] at h
    split at h
    · rename_i hd
      obtain ⟨h1, h2⟩ := look_keepE h
      refine ⟨h1, ?_⟩
      simp only [look]
      split
      · rename_i hb
        have := Nat.eq_of_beq_eq_true hb; subst this
        rw [hd] at h1; cases h1
      · exact h2
    · rename_i hd
      simp only [look] at h ⊢
      split at h
      · rename_i hb
        have := Nat.eq_of_beq_eq_true hb; subst this
        exact ⟨hd, h⟩
      · exact look_keepE h

/-- Values taken out of what is known are bound again. -/
theorem takeV_bind {t : Array Value} {e' : VEnv} (hr : Rel e' t) : ∀ {slots : List Nat} {F : Vals slots → Prop}, takeV e' slots F →
    ∃ v, F v ∧ ∀ e, Rel e t → Rel (bindV slots v e) t := by
  intro slots
  induction slots with
  | nil => intro F h; exact ⟨(), h, fun e he => he⟩
  | cons s r ih =>
    intro F h
    simp only [takeV] at h
    split at h
    · rename_i v hv
      obtain ⟨x, hx, hb⟩ := ih h
      refine ⟨(v, x), hx, fun e he => ?_⟩
      intro s' u hu
      simp only [bindV, look] at hu
      split at hu
      · rename_i hbq
        have := Nat.eq_of_beq_eq_true hbq; subst this
        simp only [Option.some.injEq] at hu; subst hu
        exact hr s v hv
      · exact hb e he s' u hu
    · exact h.elim

theorem keepE_rel {drop : List Nat} {e : VEnv} {t t' : Array Value} (hr : Rel e t) (hf : ∀ s, memN s drop = false → t'[s]? = t[s]?) : Rel (keepE drop e) t' := fun s v h => by
  obtain ⟨h1, h2⟩ := look_keepE h
  rw [hf s h1]; exact hr s v h2

/-- Arrival at the head of a loop's round. -/
def wpHead (ro : Option Nat) (P : Program) (c : Code) (Q : Exit → Act → World → Prop) (a : Act) (w : World) : Prop :=
  ∀ (b : Frame) (k : List Item) (cs : List Frame), b.roundOf = (WF ro).round → (WF ro).fn b.fn → (WF ro).room (cs.length + 1 + 0) →
    ∃ e a' w', Q e a' w' ∧ ArrivesIn (Machine.fenced P (WF ro)) P (lone (b.atR a (.code c :: .inLoop c :: k)) cs w) b k cs e a' w'

theorem loop_of_head {ro : Option Nat} {c : Code} {Q : Exit → Act → World → Prop} {a : Act} {w : World} (h : wpHead ro P c Q a w) : (Code.loop c).wpIn (WF ro) 0 P Q a w := by
  intro b k cs hro hb hr
  obtain ⟨e, a', w', hq, harr⟩ := h b k cs hro hb hr
  exact ⟨e, a', w', hq, .of_steps (.one (fenced_calm hb hr rfl) stepR_loop) harr⟩

theorem head_of_round {ro : Option Nat} {c : Code} {Q : Exit → Act → World → Prop} {a : Act} {w : World}
    (h : c.wpIn (WF ro) 0 P (Exit.then (wpHead ro P c Q) Q) a w) : wpHead ro P c Q a w := by
  intro b k cs hro hb hr
  obtain ⟨e, a₁, w₁, hq, harr⟩ := h b (.inLoop c :: k) cs hro hb hr
  cases e with
  | normal =>
    obtain ⟨e₂, a₂, w₂, hq₂, harr₂⟩ := hq b k cs hro hb hr
    exact ⟨e₂, a₂, w₂, hq₂, .of_steps (StepsIn.trans harr (.one (fenced_calm hb hr rfl) stepR_inLoop)) harr₂⟩
  | exit id => exact ⟨_, a₁, w₁, hq, .pass (x := .inLoop c) rfl (fun _ _ => .inl (by simp)) harr⟩
  | goto l => exact ⟨_, a₁, w₁, hq, .pass (x := .inLoop c) rfl (fun _ _ => .inl (by simp)) harr⟩
  | ret => exact ⟨_, a₁, w₁, hq, .pass (x := .inLoop c) rfl (fun _ _ => .inl (by simp)) harr⟩
  | panic ch => exact ⟨_, a₁, w₁, hq, .pass (x := .inLoop c) rfl (fun _ _ => .inl (by simp)) harr⟩
  | outgrown => exact ⟨_, a₁, w₁, hq, .pass (x := .inLoop c) rfl (fun _ _ => .inl (by simp)) harr⟩

theorem rel_zip {n : Nat} : ∀ (ps : List Nat) (x : Vals ps) {e : VEnv} {t : Array Value}, Rel e t → t.size = n → ltAll n ps = true →
    Rel (zipV ps x e) ((ps.zip (listV ps x)).foldl (fun t (x : Nat × Value) => t.setIfInBounds x.1 x.2) t) ∧ ((ps.zip (listV ps x)).foldl (fun t (x : Nat × Value) => t.setIfInBounds x.1 x.2) t).size = n
  | [], x, e, t, hr, hn, _ => ⟨hr, hn⟩
  | s :: ps, x, e, t, hr, hn, hl => by
    simp only [ltAll, Bool.and_eq_true] at hl
    have := hr.put (dst := some s) (v := x.1) (by rw [hn]; exact hl.1)
    simp only [zipV, listV, List.zip_cons_cons, List.foldl_cons]
    exact rel_zip ps x.2 this (by simpa using hn) hl.2

theorem listV_length : ∀ (l : List Nat) (x : Vals l), (listV l x).length = l.length
  | [], _ => rfl
  | _ :: r, x => by simp [listV, listV_length r x.2]

theorem lookK_mem {F : Nat → Heap → Prop} : ∀ {l : List Nat} {id : Nat} {h : Heap}, lookK (l.map fun i => (i, F i)) id h → F id h
  | i :: l, id, h, hk => by
    simp only [List.map_cons, lookK] at hk
    split at hk
    · rename_i hb; have := Nat.eq_of_beq_eq_true hb; subst this; exact hk
    · exact lookK_mem hk

theorem getLoop_run {w : World} {l : Nat} {L : Loop} (h : w.heap[l]? = some (.loop L)) : (Instr.getLoop l).run P w = .ok L w := by
  refine rdS_run (h := w.heap) ?_ w rfl
  unfold Instr.getLoop
  rw [rdS_bind (a := .loop L) (by simp [getObj, rdS, h])]; rfl

theorem rdS_getLoop {h : Heap} {l : Nat} {L : Loop} (hl : h[l]? = some (.loop L)) : rdS P (Instr.getLoop l) h = some L := by
  unfold Instr.getLoop
  rw [rdS_bind (a := .loop L) (by simp [getObj, rdS, hl])]; rfl

theorem wpS_setLoop {h : Heap} {l : Nat} {L : Loop} {o : Obj} {K : Unit → Heap → Prop} (hl : h[l]? = some (.loop L)) (hk : K () (h.setIfInBounds l o)) : wpS P (setObj l o) h K := by
  simp [setObj, wpS, hl]; exact hk

theorem begin_wp {h : Heap} {l : Nat} {L : Loop} {p : Option Code} {K : Unit → Heap → Prop} (hl : h[l]? = some (lo L .ready p)) (hk : K () (h.setIfInBounds l (lo L .busy p))) :
    wpS P (Instr.beginRound l) h K := by
  unfold Instr.beginRound
  refine wpS_rd (rdS_getLoop hl) ?_
  refine wpS_bind (wpS_setLoop hl ?_)
  exact hk

theorem endRound_wp {h : Heap} {l : Nat} {L : Loop} {p : Option Code} {jump : Option Code} {K : Value → Heap → Prop} (hl : h[l]? = some (lo L .busy p))
    (hk : K (.bool jump.isNone) (h.setIfInBounds l (lo L (if jump.isNone then .ready else .done) jump))) : wpS P (Instr.endRound l jump) h K := by
  unfold Instr.endRound
  refine wpS_rd (rdS_getLoop hl) ?_
  refine wpS_bind (wpS_setLoop hl ?_)
  exact hk

theorem endLoop_wp {h : Heap} {l : Nat} {L : Loop} {st : LoopState} {p : Option Code} {K : Option Code → Heap → Prop} (hl : h[l]? = some (lo L st p)) (hs : st ≠ .busy)
    (hk : K p (h.setIfInBounds l (lo L .exhausted p))) : wpS P (Instr.endLoop l) h K := by
  unfold Instr.endLoop
  refine wpS_rd (rdS_getLoop hl) ?_
  have : ((({ L with state := st, pending := p } : Loop).state == .busy) = true) = False := by
    simp [hs]
  rw [if_neg (by rw [this]; exact id)]
  refine wpS_bind (wpS_setLoop hl ?_)
  exact hk

theorem compile_sound {n : Nat} : ∀ (c : Code) (ann : Ann) (ro : Option Nat) (e : VEnv) (m : List Nat) (h : Heap) (K : Exit → VEnv → List Nat → Heap → Prop),
    compile P n ro.isSome c ann e m h K → (P.follows .mixedOrders = true) → ∀ (a : Act) (w : World) (Q : Exit → Act → World → Prop), Rel e a.tmps → a.tmps.size = n → a.defers = marks m → w.heap = h →
    (∀ ex e' m' a' w', Rel e' a'.tmps → a'.tmps.size = n → a'.defers = marks m' → Same w w' → (noRange c = true → m' = m) → FrW c a.tmps a'.tmps → K ex e' m' w'.heap → Q ex a' w') →
    c.wpIn (WF ro) 0 P Q a w := by
  intro c
  induction c with
  | skip => intro ann ro e m h K hc hf a w Q hr hn hd hw hq; subst hw; exact wpIn_skip (hq _ _ _ _ _ hr hn hd (.refl _) (fun _ => rfl) (fun _ _ => rfl) hc)
  | label l => intro ann ro e m h K hc hf a w Q hr hn hd hw hq; subst hw; exact wpIn_label (hq _ _ _ _ _ hr hn hd (.refl _) (fun _ => rfl) (fun _ _ => rfl) hc)
  | ret => intro ann ro e m h K hc hf a w Q hr hn hd hw hq; subst hw; exact wpIn_ret (hq _ _ _ _ _ hr hn hd (.refl _) (fun _ => rfl) (fun _ _ => rfl) hc)
  | exit id => intro ann ro e m h K hc hf a w Q hr hn hd hw hq; subst hw; exact wpIn_exit (hq _ _ _ _ _ hr hn hd (.refl _) (fun _ => rfl) (fun _ _ => rfl) hc)
  | goto l => intro ann ro e m h K hc; exact hc.elim
  | scope c ih => intro ann ro e m h K hc; exact hc.elim
  | refuse why => intro ann ro e m h K hc; exact hc.elim
  | seq x y ihx ihy =>
    intro ann ro e m h K hc hf a w Q hr hn hd hw hq
    cases ann <;> try exact hc.elim
    rename_i ax ay
    refine wpIn_seq (ihx ax ro e m h _ hc hf a w _ hr hn hd hw ?_)
    intro ex e' m' a' w' hr' hn' hd' hs' hnr hfr hk
    have post : ∀ ex', K ex' e' m' w'.heap → (∀ (h : ex' = .normal), False) → Q ex' a' w' := by
      intro ex' hk' _
      refine hq ex' e' m' a' w' hr' hn' hd' hs' ?_ ?_ hk'
      · intro h; simp only [noRange, Bool.and_eq_true] at h; exact hnr h.1
      · intro s hs; simp only [writes, memN_append, Bool.or_eq_false_iff] at hs; exact hfr s hs.1
    cases ex with
    | normal =>
      refine ihy ay ro e' m' w'.heap K hk hf a' w' Q hr' hn' hd' rfl ?_
      intro ex2 e2 m2 a2 w2 hr2 hn2 hd2 hs2 hnr2 hfr2 hk2
      refine hq ex2 e2 m2 a2 w2 hr2 hn2 hd2 (hs'.trans hs2) ?_ ?_ hk2
      · intro h; simp only [noRange, Bool.and_eq_true] at h; rw [hnr2 h.2, hnr h.1]
      · intro s hs; simp only [writes, memN_append, Bool.or_eq_false_iff] at hs; rw [hfr2 s hs.2, hfr s hs.1]
    | exit id => exact post _ hk (by simp)
    | goto l => exact post _ hk (by simp)
    | ret => exact post _ hk (by simp)
    | panic ch => exact post _ hk (by simp)
    | outgrown => exact post _ hk (by simp)
  | cond c x y ihx ihy =>
    intro ann ro e m h K hc hf a w Q hr hn hd hw hq
    cases ann <;> try exact hc.elim
    rename_i ax ay
    simp only [compile] at hc
    split at hc
    · rename_i hk
      have he : a.eval c = ev e c := by rw [eval_evA, hr.ev hk]
      unfold ifV at hc
      split at hc
      · rename_i hv
        refine wpIn_cond_true (he.trans hv) (ihx ax ro e m h K hc hf a w Q hr hn hd hw ?_)
        intro ex e' m' a' w' hr' hn' hd' hs' hnr hfr hk'
        refine hq ex e' m' a' w' hr' hn' hd' hs' ?_ ?_ hk'
        · intro h; simp only [noRange, Bool.and_eq_true] at h; exact hnr h.1
        · intro s hs; simp only [writes, memN_append, Bool.or_eq_false_iff] at hs; exact hfr s hs.1
      · rename_i hv
        refine wpIn_cond_false (he.trans hv) (ihy ay ro e m h K hc hf a w Q hr hn hd hw ?_)
        intro ex e' m' a' w' hr' hn' hd' hs' hnr hfr hk'
        refine hq ex e' m' a' w' hr' hn' hd' hs' ?_ ?_ hk'
        · intro h; simp only [noRange, Bool.and_eq_true] at h; exact hnr h.2
        · intro s hs; simp only [writes, memN_append, Bool.or_eq_false_iff] at hs; exact hfr s hs.2
      · exact hc.elim
    · exact hc.elim
  | block id x ih =>
    intro ann ro e m h K hc hf a w Q hr hn hd hw hq
    cases ann <;> try exact hc.elim
    rename_i ax
    refine wpIn_block (ih ax ro e m h _ hc hf a w _ hr hn hd hw ?_)
    intro ex e' m' a' w' hr' hn' hd' hs' hnr hfr hk
    have post : ∀ ex', K ex' e' m' w'.heap → Q ex' a' w' := fun ex' hk' =>
      hq ex' e' m' a' w' hr' hn' hd' hs' (fun h => hnr h) (fun s hs => hfr s hs) hk'
    cases ex with
    | exit id' =>
      dsimp only at hk
      show if id' = id then Q .normal a' w' else Q (.exit id') a' w'
      split at hk
      · rename_i hb; rw [if_pos (Nat.eq_of_beq_eq_true hb)]; exact post _ hk
      · rename_i hb; rw [if_neg (fun h => by subst h; simp at hb)]; exact post _ hk
    | normal => exact post _ hk
    | goto l => exact post _ hk
    | ret => exact post _ hk
    | panic ch => exact post _ hk
    | outgrown => exact post _ hk
  | region id ops draw =>
    intro ann ro e m h K hc hf a w Q hr hn hd hw hq
    subst hw
    simp only [compile] at hc
    split at hc
    · rename_i hpl
      have hp := allPlain_of hpl
      have fin : ∀ {a' : Act} {w' : World}, a'.defers = a.defers → Same w w' → (Fr ops a.tmps a'.tmps ∧ ∃ e', Rel e' a'.tmps ∧ K .normal e' m w'.heap) → Q .normal a' w' := by
        rintro a' w' hd' hs' ⟨hfr, e', hr', hk⟩
        refine hq _ e' m a' w' hr' (hfr.1.trans hn) (hd'.trans hd) hs' (fun _ => rfl) ?_ hk
        intro s hs
        refine hfr.2 s fun i hi => ?_
        unfold dstOf at hi
        cases ho : ops[i]? with
        | none => rw [ho] at hi; cases hi
        | some o =>
          rw [ho] at hi
          exact memN_dsts _ hs o (List.mem_of_getElem? (by simpa using ho)) hi
      split at hc
      · refine wpIn_region ?_
        have := cSeq_sound (P := P) (ops := ops) ops.toList 0 (by simp) hr hn hc
        rw [List.drop_zero] at this
        exact opsA_sound hp _ a w this fun a' w' hd' hs' hk => fin hd' hs' hk
      · split at hc
        · rename_i hok
          simp only [drawOK, Bool.and_eq_true] at hok
          have hl : LR ops 0 (Array.replicate ops.size false) := ⟨by simp, fun j => by
            simp only [Array.getD_eq_getD_getElem?, Array.getElem?_replicate, Nat.zero_testBit]; split <;> rfl⟩
          have hrw := cDrawn_sound (P := P) (n := n) (ancs := ancList ops.toList []) (HA := []) ops.size hl (by intro x hx; cases hx) (by intro x hx; cases hx) hr hn (Fr.refl (ops := ops) a.tmps) hc
          have hcl : Closed ops (ancList ops.toList []) (Array.replicate ops.size false) := ⟨by simp, fun i c hi => by
            simp only [Array.getD_eq_getD_getElem?, Array.getElem?_replicate] at hi; split at hi <;> simp at hi⟩
          have hany := anyA_of_RW hok.1 (apartOK_of hok.2) hp _ hcl hrw
          refine wpIn_region_any hf ?_
          refine anyA_sound hp _ _ a { w with drawn := w.drawn + 1 } hany ?_
          rintro a' w' hd' hs' hk
          exact fin hd' ⟨hs'.os, hs'.output, hs'.tape⟩ hk
        · exact hc.elim
    · exact hc.elim
  | loop x ih =>
    intro ann ro e m h K hc hf a w Q hr hn hd hw hq
    cases ann <;> try exact hc.elim
    rename_i slots ax
    simp only [compile] at hc
    refine loop_of_head ?_
    split at hc
    · rename_i hno
      obtain ⟨x0, hL, hbind⟩ := takeV_bind hr hc
      have key := hL (fun v h => ∀ (a' : Act) (w' : World), Rel (bindV slots v (keepE (slots ++ writes x) e)) a'.tmps → a'.tmps.size = n → a'.defers = marks m → w'.heap = h → Same w w' →
          FrW x a.tmps a'.tmps → wpHead ro P x Q a' w') ?_
      · exact key a w (hbind _ (keepE_rel hr fun _ _ => rfl)) hn hd hw (.refl _) (fun _ _ => rfl)
      · intro v h' hB a' w' hr' hn' hd' hw' hs' hfr'
        refine head_of_round (ih ax ro _ m h' _ hB hf a' w' _ hr' hn' hd' hw' ?_)
        intro ex e2 m2 a2 w2 hr2 hn2 hd2 hs2 hnr2 hfr2 hk2
        have hm2 : m2 = m := hnr2 hno
        subst hm2
        have hfr : FrW x a.tmps a2.tmps := fun s hs => by rw [hfr2 s hs, hfr' s hs]
        have post : ∀ ex', K ex' e2 m2 w2.heap → Q ex' a2 w2 := fun ex' hk' => hq ex' e2 m2 a2 w2 hr2 hn2 hd2 (hs'.trans hs2) (fun _ => rfl) hfr hk'
        cases ex with
        | normal =>
          obtain ⟨v', hZ, hbind'⟩ := takeV_bind hr2 hk2
          refine hZ a2 w2 (hbind' _ (keepE_rel hr fun s hs => ?_)) hn2 hd2 rfl (hs'.trans hs2) hfr
          rw [memN_append, Bool.or_eq_false_iff] at hs
          exact hfr s hs.2
        | exit id => exact post _ hk2
        | goto l => exact post _ hk2
        | ret => exact post _ hk2
        | panic ch => exact post _ hk2
        | outgrown => exact post _ hk2
    · rename_i hno
      obtain ⟨x0, hL, hbind⟩ := takeV_bind hr hc
      have key := hL (fun v h => ∀ (a' : Act) (w' : World), Rel (bindV slots v.2 (keepE (slots ++ writes x) e)) a'.tmps → a'.tmps.size = n → a'.defers = marks v.1 → w'.heap = h → Same w w' →
          FrW x a.tmps a'.tmps → wpHead ro P x Q a' w') ?_
      · exact key a w (hbind _ (keepE_rel hr fun _ _ => rfl)) hn hd hw (.refl _) (fun _ _ => rfl)
      · intro v h' hB a' w' hr' hn' hd' hw' hs' hfr'
        refine head_of_round (ih ax ro _ v.1 h' _ hB hf a' w' _ hr' hn' hd' hw' ?_)
        intro ex e2 m2 a2 w2 hr2 hn2 hd2 hs2 hnr2 hfr2 hk2
        have hfr : FrW x a.tmps a2.tmps := fun s hs => by rw [hfr2 s hs, hfr' s hs]
        have post : ∀ ex', K ex' e2 m2 w2.heap → Q ex' a2 w2 := fun ex' hk' => hq ex' e2 m2 a2 w2 hr2 hn2 hd2 (hs'.trans hs2) (fun h => by simp only [noRange] at h; rw [h] at hno; cases hno) hfr hk'
        cases ex with
        | normal =>
          obtain ⟨v', hZ, hbind'⟩ := takeV_bind hr2 hk2
          refine hZ a2 w2 (hbind' _ (keepE_rel hr fun s hs => ?_)) hn2 hd2 rfl (hs'.trans hs2) hfr
          rw [memN_append, Bool.or_eq_false_iff] at hs
          exact hfr s hs.2
        | exit id => exact post _ hk2
        | goto l => exact post _ hk2
        | ret => exact post _ hk2
        | panic ch => exact post _ hk2
        | outgrown => exact post _ hk2
  | rangeFunc f params assign body iha ihb =>
    intro ann ro e m h K hc hf a w Q hr hn hd hw hq
    subst hw
    cases ann <;> try exact hc.elim
    rename_i ax ay
    simp only [compile] at hc
    split at hc
    · rename_i hk
      split at hc
      · rename_i hro
        split at hc
        · rename_i hlt
          have hro' : ro = none := by cases ro <;> simp_all
          subst hro'
          have he : a.eval f = ev e f := by rw [eval_evA, hr.ev hk]
          refine wpIn_rangeFunc fun fnid _ => ?_
          let D := w.heap.size
          let l := w.heap.size + 1
          let L : Loop := { state := .ready, pending := none, fn := fnid, tmps := a.tmps, params, assign, body, defers := D }
          let w1 : World := { w with heap := (w.heap.push (.deferred (some []))).push (.loop L) }
          have hL := hc L ?_
          · unfold callF at hL
            split at hL
            · rename_i g first captured hfv
              refine ⟨l, [{ target := .collected D, args := #[] }], w1, { target := .fn (.func g) captured, args := first ++ #[yieldV l] }, w1, g, first ++ #[yieldV l] ++ captured, w1, ?_, ?_, ?_, ?_, ?_, ?_⟩
              · simp only [Instr.enterLoop, newObj, bind, Sem.bind, pure, Sem.run, WF]
                show Result.ok _ _ = Result.ok _ _
                simp [l, D, w1, L]
              · unfold resolve
                simp only [he, hfv]
                simp [Deferred.ofValue, Act.eval, yieldV, pure]
              · intro f' _; exact WF_fn none f'
              · have := wpS_run (callFunc_wp (K := fun _ _ => True) (hL.mono fun _ _ _ => trivial)) w1 (by simp [w1, lo, L, D])
                obtain ⟨hcb, hcw⟩ := hL
                unfold Callable at hcb
                split at hcb
                · rename_i fn hfn
                  simp only [Bool.and_eq_true, Bool.not_eq_true', beq_eq_false_iff_ne, ne_eq] at hcb
                  have hb : fn.body.isNone = false := by cases hx : fn.body <;> simp_all
                  show Sem.run P (callFunc g (first ++ #[yieldV l] ++ captured)) w1 = _
                  unfold callFunc
                  simp only [program, bind, Sem.bind, Sem.run, hfn, hb]
                  rw [if_neg (by simpa using hcb.2)]
                  rfl
                · cases hcb
              · intro h; simp [WF_depth] at h
              · refine WF_calls ((hL.2 w1 (by simp [w1, lo, L, D])).mono ?_)
                rintro e' w3 ⟨v, rfl, hs3, st, p, hst, hl3, hj⟩
                have hs3 : Same w w3 := ⟨hs3.os, hs3.output, hs3.tape⟩
                obtain ⟨jump, w4, hrun, hs4, hjp, hh4⟩ := wpS_run (endLoop_wp (P := P) (K := fun j h' => j = p ∧ h' = w3.heap.setIfInBounds l (lo L .exhausted p)) hl3 hst ⟨rfl, rfl⟩) w3 rfl
                subst hjp
                refine ⟨jump, w4, hrun, ?_⟩
                have post : ∀ ex, K ex e (D :: m) w4.heap → Q ex { a with defers := [{ target := .collected D, args := #[] }] ++ a.defers } w4 := fun ex hk' =>
                  hq ex e (D :: m) { a with defers := [{ target := .collected D, args := #[] }] ++ a.defers } w4 hr hn (by simp [hd, marks]) (hs3.trans hs4) (fun h => by simp [noRange] at h) (fun _ _ => rfl) hk'
                rw [← hh4] at hj
                cases jump with
                | none => exact post _ hj
                | some cj =>
                  cases cj <;> try exact hj.elim
                  · exact wpIn_exit (post _ (lookK_mem (F := fun id h' => K (.exit id) e (D :: m) h') hj))
                  · exact wpIn_ret (post _ hj)
            · exact hL.elim
          · intro args h' R st p hl' hB
            have hlen := listV_length params.toList args
            show YieldH P l (#[] ++ (listV params.toList args).toArray) h' R
            unfold YieldH
            rw [hl']
            dsimp only [lo]
            refine ⟨by simp [hlen, L], ?_⟩
            intro w2 hw2
            have hrel := rel_zip (n := n) params.toList args hr hn hlt
            have htm : (L.params.zip (#[] ++ (listV params.toList args).toArray)).foldl (fun tmps (x : Nat × Value) => tmps.setIfInBounds x.1 x.2) L.tmps =
                (params.toList.zip (listV params.toList args)).foldl (fun t (x : Nat × Value) => t.setIfInBounds x.1 x.2) a.tmps := by
              simp only [L]
              rw [← Array.foldl_toList, Array.toList_zip]
              simp
            have goal : assign.wpIn (WF (some l)) 0 P (Exit.then (fun a₁ w₁ => ∃ w₂, (Instr.beginRound l).run P w₁ = .ok () w₂ ∧
                body.wpIn (WF (some l)) 0 P (roundPost P l fun e' w' => ∃ v, e' = .returned v ∧ Same w2 w' ∧ R v w'.heap) a₁ w₂) (fun _ _ _ => False))
                { tmps := (L.params.zip (#[] ++ (listV params.toList args).toArray)).foldl (fun tmps (x : Nat × Value) => tmps.setIfInBounds x.1 x.2) L.tmps, defers := [] } w2 := by
              rw [htm]
              refine iha ax (some l) (zipV params.toList args e) [] h' _ hB hf _ w2 _ hrel.1 hrel.2 rfl hw2 ?_
              intro ex e1 m1 a1 w1' hr1 hn1 hd1 hs1 hnr1 hfr1 hk1
              cases ex <;> try exact hk1.elim
              obtain ⟨p', hp', hk1⟩ := hk1
              obtain ⟨_, w3, hrun, hs3, hh3⟩ := wpS_run (begin_wp (P := P) (K := fun _ h' => h' = w1'.heap.setIfInBounds l (lo L .busy p')) hp' rfl) w1' rfl
              refine ⟨w3, hrun, ?_⟩
              refine ihb ay (some l) e1 m1 _ _ hk1 hf a1 w3 _ hr1 hn1 hd1 hh3 ?_
              intro ex' e2 m2 a2 w4 hr2 hn2 hd2 hs4 hnr2 hfr2 hk2
              obtain ⟨p2, hp2, hk2⟩ := hk2
              have hsame : Same w2 w4 := (hs1.trans hs3).trans hs4
              have step : ∀ (jump : Option Code), R (.bool jump.isNone) (w4.heap.setIfInBounds l (lo L (if jump.isNone then .ready else .done) jump)) →
                  ∃ v w', (Instr.endRound l jump).run P w4 = .ok v w' ∧ ∃ v', Ending.returned v = .returned v' ∧ Same w2 w' ∧ R v' w'.heap := by
                intro jump hR
                obtain ⟨v, w5, hrun5, hs5, hR5⟩ := wpS_run (endRound_wp (P := P) (jump := jump) (K := R) hp2 hR) w4 rfl
                exact ⟨v, w5, hrun5, v, rfl, hsame.trans hs5, hR5⟩
              cases ex' <;> try exact hk2.elim
              · exact step none hk2
              · exact step (some (.exit _)) hk2
              · exact step (some .ret) hk2
            have := roundIn_of_wpIn (F := Fence.wide) (n := 0) (P := P) (l := l) (f := L.fn) (w := w2) (R := fun e' w' => ∃ v, e' = .returned v ∧ Same w2 w' ∧ R v w'.heap) trivial goal
            exact this
        · exact hc.elim
      · exact hc.elim
    · exact hc.elim

end
end Go.Mh
