/- A text of the proofs of seat Ytdpofmalgemcdaa: 'Mh.CDrawn'. It has no condition of its own. -/
import Derived.Test.YtdpofmalgemcdaaMhCReg
set_option linter.unusedVariables false
set_option linter.unusedSimpArgs false
namespace Go.Mh
open Go

def predMask (o : Oper) : Nat := o.after.toList.foldl (fun s e => bif Region.binds .any e then s ||| 2 ^ e.on else s) 0

def readyM (o : Oper) (i listed : Nat) : Bool :=
  match Nat.testBit listed i with
  | true => false
  | false => Nat.beq (predMask o &&& listed) (predMask o)

/-- The first quiet operation that may go now. -/
def firstQuiet (listed : Nat) : List Oper → Nat → Option (Nat × Oper)
  | [], _ => none
  | o :: r, i => match quietB o.op with
    | true => (match readyM o i listed with
      | true => some (i, o)
      | false => firstQuiet listed r (i + 1))
    | false => firstQuiet listed r (i + 1)

def allReady (listed : Nat) : List Oper → Nat → List (Nat × Oper)
  | [], _ => []
  | o :: r, i => match readyM o i listed with
    | true => (i, o) :: allReady listed r (i + 1)
    | false => allReady listed r (i + 1)

abbrev HeldE := List (Nat × Oper × VEnv × Value)

def dropE (anc : Nat) : HeldE → HeldE
  | [] => []
  | x :: r => match Nat.testBit anc x.1 with
    | true => dropE anc r
    | false => x :: dropE anc r

def recheck (P : Program) (h : Heap) : HeldE → Prop → Prop
  | [], R => R
  | x :: r, R => qop P (ev x.2.2.1) x.2.1.op h (fun v => v = x.2.2.2) ∧ recheck P h r R

def allOf {α : Type} (F : α → Prop) : List α → Prop
  | [] => True
  | [x] => F x
  | x :: y :: r => F x ∧ allOf F (y :: r)

def cDrawn (P : Program) (n : Nat) (ops : Array Oper) (ancs : List Nat) : Nat → Nat → HeldE → VEnv → Heap → (VEnv → Heap → Prop) → Prop
  | 0, listed, _, e, h, K => (match allReady listed ops.toList 0 with
    | [] => K e h
    | _ => False)
  | f + 1, listed, H, e, h, K =>
    match firstQuiet listed ops.toList 0 with
    | some (c, o) => cGuard ops o e fun w e' => (match w with
      | true => (match okOp n o e' with
        | true => qop P (ev e') o.op h fun v => cDrawn P n ops ancs f (listed ||| 2 ^ c) (match pureB P o.op with
          | true => H
          | false => H ++ [(c, o, e', v)]) (putE e' o.dst v) h K
        | false => False)
      | false => (match dstOk n o.dst with
        | true => cDrawn P n ops ancs f (listed ||| 2 ^ c) H (putE e' o.dst undef) h K
        | false => False))
    | none => (match allReady listed ops.toList 0 with
      | [] => K e h
      | l => allOf (fun (x : Nat × Oper) => cStep P n ops x.2 e h fun e' h' => (match addsB x.2.op with
        | true => cDrawn P n ops ancs f (listed ||| 2 ^ x.1) (dropE (ancs.getD x.1 0) H) e' h' K
        | false => recheck P h' (dropE (ancs.getD x.1 0) H) (cDrawn P n ops ancs f (listed ||| 2 ^ x.1) (dropE (ancs.getD x.1 0) H) e' h' K))) l)

section
variable {P : Program} {ops : Array Oper} {n : Nat} {ancs : List Nat}

/-- Mask and row of marks. -/
def LR (ops : Array Oper) (listed : Nat) (lA : Array Bool) : Prop := lA.size = ops.size ∧ ∀ j, lA.getD j false = listed.testBit j

theorem LR.set {listed : Nat} {lA : Array Bool} {i : Nat} (h : LR ops listed lA) (hi : i < ops.size) : LR ops (listed ||| 2 ^ i) (lA.setIfInBounds i true) := by
  refine ⟨by simp [h.1], fun j => ?_⟩
  rw [getD_set (by rw [h.1]; exact hi), Nat.testBit_or, Nat.testBit_two_pow, ← h.2 j]
  by_cases e : i = j <;> simp [e]

theorem predMask_bit (o : Oper) (c : Nat) : (predMask o).testBit c = true ↔ ∃ e ∈ o.after, Region.binds .any e = true ∧ e.on = c := by
  have key : ∀ (l : List Edge) (s : Nat), (l.foldl (fun s e => bif Region.binds .any e then s ||| 2 ^ e.on else s) s).testBit c = true ↔
      s.testBit c = true ∨ ∃ e ∈ l, Region.binds .any e = true ∧ e.on = c := by
    intro l
    induction l with
    | nil => intro s; simp
    | cons e l ih =>
      intro s
      rw [List.foldl_cons, ih]
      cases hb : Region.binds .any e with
      | false => simp [hb]
      | true =>
        simp only [cond_true, Nat.testBit_or, Nat.testBit_two_pow, Bool.or_eq_true, decide_eq_true_eq, List.mem_cons, exists_eq_or_imp, hb, true_and]
        constructor
        · rintro ((h | h) | h)
          · exact .inl h
          · exact .inr (.inl h)
          · exact .inr (.inr h)
        · rintro (h | h | h)
          · exact .inl (.inl h)
          · exact .inl (.inr h)
          · exact .inr h
  unfold predMask
  rw [key, Nat.zero_testBit]
  simp only [Bool.false_eq_true, false_or, ← Array.mem_def]

theorem readyM_iff {listed : Nat} {lA : Array Bool} {i : Nat} {o : Oper} (h : LR ops listed lA) (ho : ops[i]? = some o) : readyM o i listed = true ↔ i ∈ Region.ready .any ops lA := by
  have hi : i < ops.size := (Array.getElem?_eq_some_iff.1 ho).1
  rw [mem_ready]
  have hd : lA.getD i true = listed.testBit i := by
    rw [← h.2 i]
    have : i < lA.size := by rw [h.1]; exact hi
    simp [Array.getD_eq_getD_getElem?, this]
  unfold readyM
  constructor
  · intro hr
    split at hr
    · cases hr
    · rename_i hb
      refine ⟨hi, by rw [hd, hb], o, ho, fun e he hbind => ?_⟩
      have heq := Nat.eq_of_beq_eq_true hr
      have : (predMask o).testBit e.on = true := (predMask_bit o e.on).2 ⟨e, he, hbind, rfl⟩
      rw [← heq, Nat.testBit_and, Bool.and_eq_true] at this
      rw [h.2]; exact this.2
  · rintro ⟨_, h2, o', ho', h3⟩
    rw [ho] at ho'; cases ho'
    rw [hd] at h2
    rw [h2]
    dsimp only
    have : predMask o &&& listed = predMask o := by
      apply Nat.eq_of_testBit_eq
      intro j
      rw [Nat.testBit_and]
      cases hb : (predMask o).testBit j with
      | false => rfl
      | true =>
        obtain ⟨e, he, hbind, rfl⟩ := (predMask_bit o j).1 hb
        rw [← h.2, h3 e he hbind]; rfl
    rw [this]; exact Nat.beq_refl _

theorem firstQuiet_spec {listed : Nat} : ∀ (l : List Oper) (k : Nat) {c : Nat} {o : Oper}, firstQuiet listed l k = some (c, o) →
    k ≤ c ∧ l[c - k]? = some o ∧ quietB o.op = true ∧ readyM o c listed = true
  | [], k, c, o, h => by cases h
  | x :: l, k, c, o, h => by
    have step : firstQuiet listed l (k + 1) = some (c, o) → k ≤ c ∧ (x :: l)[c - k]? = some o ∧ quietB o.op = true ∧ readyM o c listed = true := by
      intro h
      obtain ⟨h1, h2, h3, h4⟩ := firstQuiet_spec l (k + 1) h
      refine ⟨by omega, ?_, h3, h4⟩
      rw [show c - k = (c - (k + 1)) + 1 by omega]; simpa using h2
    simp only [firstQuiet] at h
    split at h
    · rename_i hq
      split at h
      · rename_i hr
        simp only [Option.some.injEq, Prod.mk.injEq] at h
        obtain ⟨rfl, rfl⟩ := h
        exact ⟨Nat.le_refl _, by simp, hq, hr⟩
      · exact step h
    · exact step h

theorem allReady_spec {listed : Nat} : ∀ (l : List Oper) (k : Nat) (c : Nat) (o : Oper), (c, o) ∈ allReady listed l k ↔
    k ≤ c ∧ l[c - k]? = some o ∧ readyM o c listed = true
  | [], k, c, o => by simp [allReady]
  | x :: l, k, c, o => by
    have ih := allReady_spec (listed := listed) l (k + 1) c o
    have tail : (c, o) ∈ allReady listed l (k + 1) ↔ k < c ∧ (x :: l)[c - k]? = some o ∧ readyM o c listed = true := by
      rw [ih]
      constructor
      · rintro ⟨h1, h2, h3⟩
        refine ⟨by omega, ?_, h3⟩
        rw [show c - k = (c - (k + 1)) + 1 by omega]; simpa using h2
      · rintro ⟨h1, h2, h3⟩
        refine ⟨by omega, ?_, h3⟩
        rw [show c - k = (c - (k + 1)) + 1 by omega] at h2; simpa using h2
    simp only [allReady]
    split
    · rename_i hr
      rw [List.mem_cons, tail]
      constructor
      · rintro (h | ⟨h1, h2, h3⟩)
        · simp only [Prod.mk.injEq] at h
          obtain ⟨rfl, rfl⟩ := h
          exact ⟨Nat.le_refl _, by simp, hr⟩
        · exact ⟨by omega, h2, h3⟩
      · rintro ⟨h1, h2, h3⟩
        rcases Nat.lt_or_ge k c with hlt | hge
        · exact .inr ⟨hlt, h2, h3⟩
        · have : c = k := by omega
          subst this
          simp at h2; subst h2; exact .inl rfl
    · rename_i hr
      rw [tail]
      constructor
      · rintro ⟨h1, h2, h3⟩; exact ⟨by omega, h2, h3⟩
      · rintro ⟨h1, h2, h3⟩
        rcases Nat.lt_or_ge k c with hlt | hge
        · exact ⟨hlt, h2, h3⟩
        · have : c = k := by omega
          subst this
          simp at h2; subst h2; rw [h3] at hr; cases hr

theorem allOf_mem {α : Type} {F : α → Prop} : ∀ {l : List α}, allOf F l → ∀ x ∈ l, F x
  | [x], h, y, hy => by rw [List.mem_singleton.1 hy]; exact h
  | x :: y :: r, h, z, hz => by
    rcases List.mem_cons.1 hz with rfl | hz
    · exact h.1
    · exact allOf_mem h.2 z hz

theorem recheck_spec {h : Heap} {R : Prop} : ∀ {H : HeldE}, recheck P h H R → R ∧ ∀ x ∈ H, qop P (ev x.2.2.1) x.2.1.op h (fun v => v = x.2.2.2)
  | [], hr => ⟨hr, by simp⟩
  | x :: H, hr => by
    obtain ⟨h1, h2⟩ := recheck_spec hr.2
    exact ⟨h1, fun y hy => by
      rcases List.mem_cons.1 hy with rfl | hy
      · exact hr.1
      · exact h2 y hy⟩

theorem mem_dropE {anc : Nat} : ∀ {H : HeldE} {x : Nat × Oper × VEnv × Value}, x ∈ dropE anc H ↔ x ∈ H ∧ anc.testBit x.1 = false
  | [], x => by simp [dropE]
  | y :: H, x => by
    simp only [dropE]
    split
    · rename_i hb
      rw [mem_dropE, List.mem_cons]
      constructor
      · rintro ⟨h1, h2⟩; exact ⟨.inr h1, h2⟩
      · rintro ⟨rfl | h1, h2⟩
        · rw [hb] at h2; cases h2
        · exact ⟨h1, h2⟩
    · rename_i hb
      rw [List.mem_cons, mem_dropE, List.mem_cons]
      constructor
      · rintro (rfl | ⟨h1, h2⟩)
        · exact ⟨.inl rfl, hb⟩
        · exact ⟨.inr h1, h2⟩
      · rintro ⟨rfl | h1, h2⟩
        · exact .inl rfl
        · exact .inr ⟨h1, h2⟩

/-- What the text's list of held operations is to the theorem's. -/
def HR (P : Program) (H : HeldE) (HA : Held) : Prop :=
  ∀ x ∈ HA, (∀ h, x.2 h) ∨ ∃ y ∈ H, y.1 = x.1 ∧ ∀ h, qop P (ev y.2.2.1) y.2.1.op h (fun v => v = y.2.2.2) → x.2 h

theorem HR.drop {H : HeldE} {HA : Held} {i : Nat} (hh : HR P H HA) : HR P (dropE (ancs.getD i 0) H) (dropH ancs i HA) := by
  intro x hx
  obtain ⟨hx1, hx2⟩ := List.mem_filter.1 hx
  rcases hh x hx1 with h | ⟨y, hy, he, h⟩
  · exact .inl h
  · refine .inr ⟨y, mem_dropE.2 ⟨hy, ?_⟩, he, h⟩
    rw [he]
    simpa [ancBit] using hx2

def QK (ops : Array Oper) (K : VEnv → Heap → Prop) (t₀ : Array Value) : Array Value → Heap → Prop :=
  fun t h => Fr ops t₀ t ∧ ∃ e, Rel e t ∧ K e h

theorem quietAt_of {c : Nat} {o : Oper} (ho : ops[c]? = some o) (hq : quietB o.op = true) : quietAt ops c = true := by
  simp [quietAt, ho, hq]

theorem cDrawn_sound {K : VEnv → Heap → Prop} {t₀ : Array Value} : ∀ (f : Nat) {listed : Nat} {lA : Array Bool} {H : HeldE} {HA : Held} {e : VEnv} {t : Array Value} {h : Heap},
    LR ops listed lA → HR P H HA → (∀ x ∈ H, qop P (ev x.2.2.1) x.2.1.op h (fun v => v = x.2.2.2)) → Rel e t → t.size = n → Fr ops t₀ t →
    cDrawn P n ops ancs f listed H e h K → RW P ops ancs (QK ops K t₀) f HA lA t h
  | 0, listed, lA, H, HA, e, t, h, hl, hh, hfacts, hr, hn, hfr, hc => by
    unfold cDrawn at hc
    split at hc
    · rename_i hnone
      refine ⟨?_, hfr, e, hr, hc⟩
      apply List.eq_nil_iff_forall_not_mem.2
      intro i hi
      obtain ⟨_, _, o, ho, _⟩ := mem_ready.1 hi
      have : (i, o) ∈ allReady listed ops.toList 0 := (allReady_spec _ _ _ _).2 ⟨Nat.zero_le _, by simpa using ho, (readyM_iff hl ho).2 hi⟩
      rw [hnone] at this; cases this
    · exact hc.elim
  | f + 1, listed, lA, H, HA, e, t, h, hl, hh, hfacts, hr, hn, hfr, hc => by
    unfold cDrawn at hc
    split at hc
    · rename_i c o hfq
      obtain ⟨_, ho, hq, hrd⟩ := firstQuiet_spec _ _ hfq
      have ho : ops[c]? = some o := by simpa using ho
      have hready := (readyM_iff hl ho).1 hrd
      obtain ⟨e', hr', hc⟩ := cGuard_sound hr hc
      have hcs : c < ops.size := ready_lt hready
      have hdst : dstOf ops c = o.dst := by simp [dstOf, ho]
      cases hw : Region.wanted o (yielded ops t) with
      | true =>
        rw [hw] at hc
        dsimp only at hc
        split at hc
        · rename_i hok
          obtain ⟨hp, hk, hd⟩ := okOp_parts hok
          rw [← hn] at hd
          obtain ⟨v, hK, hall⟩ := qop_det _ _ _ hc
          have hg : ∀ h', qop P (ev e') o.op h' (fun u => u = v) → Gives P ops c v t h' := by
            intro h' hq'
            obtain ⟨u, hu, rfl⟩ := qop_sound hq'
            refine ⟨o, ho, ?_⟩
            rw [if_pos hw, ← execOp_env hr' hp hk]; exact hu
          have hqv : qop P (ev e') o.op h (fun u => u = v) := hall _ rfl
          have hHA : HR P (match pureB P o.op with
            | true => H
            | false => H ++ [(c, o, e', v)]) (HA ++ [(c, Gives P ops c v t)]) := by
            intro x hx
            rcases List.mem_append.1 hx with hx | hx
            · rcases hh x hx with hx | ⟨y, hy, he, hx⟩
              · exact .inl hx
              · refine .inr ⟨y, ?_, he, hx⟩
                split
                · exact hy
                · exact List.mem_append.2 (.inl hy)
            · rw [List.mem_singleton.1 hx]
              split
              · rename_i hpure; exact .inl fun h' => hg h' (qop_pure hpure hqv)
              · exact .inr ⟨(c, o, e', v), List.mem_append.2 (.inr (List.mem_singleton.2 rfl)), rfl, fun h' => hg h'⟩
          have hF : ∀ x ∈ (match pureB P o.op with
            | true => H
            | false => H ++ [(c, o, e', v)]), qop P (ev x.2.2.1) x.2.1.op h (fun u => u = x.2.2.2) := by
            intro x hx
            split at hx
            · exact hfacts x hx
            · rcases List.mem_append.1 hx with hx | hx
              · exact hfacts x hx
              · rw [List.mem_singleton.1 hx]; exact hqv
          have hrw := cDrawn_sound f (hl.set hcs) hHA hF (hr'.put hd) (by rw [putA_size]; exact hn) (hfr.trans (Fr.put ho)) hK
          exact .inr (.inl ⟨c, v, hready, quietAt_of ho hq, hg h hqv, by rw [hdst]; exact hrw⟩)
        · exact hc.elim
      | false =>
        rw [hw] at hc
        dsimp only at hc
        split at hc
        · rename_i hd
          rw [← hn] at hd
          have hg : ∀ h', Gives P ops c undef t h' := fun h' => ⟨o, ho, by rw [hw]; simp⟩
          have hHA : HR P H (HA ++ [(c, Gives P ops c undef t)]) := by
            intro x hx
            rcases List.mem_append.1 hx with hx | hx
            · exact hh x hx
            · rw [List.mem_singleton.1 hx]; exact .inl hg
          have hrw := cDrawn_sound f (hl.set hcs) hHA hfacts (hr'.put hd) (by rw [putA_size]; exact hn) (hfr.trans (Fr.put ho)) hc
          exact .inr (.inl ⟨c, undef, hready, quietAt_of ho hq, hg h, by rw [hdst]; exact hrw⟩)
        · exact hc.elim
    · split at hc
      · rename_i hnone
        refine .inl ⟨?_, hfr, e, hr, hc⟩
        apply List.eq_nil_iff_forall_not_mem.2
        intro i hi
        obtain ⟨_, _, o, ho, _⟩ := mem_ready.1 hi
        have : (i, o) ∈ allReady listed ops.toList 0 := (allReady_spec _ _ _ _).2 ⟨Nat.zero_le _, by simpa using ho, (readyM_iff hl ho).2 hi⟩
        rw [hnone] at this; cases this
      · rename_i l hne
        have key : ∀ i ∈ Region.ready .any ops lA, opA P ops i t h fun t' h' => (∀ x ∈ dropH ancs i HA, x.2 h') ∧ RW P ops ancs (QK ops K t₀) f (dropH ancs i HA) (lA.setIfInBounds i true) t' h' := by
          intro i hi
          obtain ⟨_, _, o, ho, _⟩ := mem_ready.1 hi
          have hmem : (i, o) ∈ allReady listed ops.toList 0 := (allReady_spec _ _ _ _).2 ⟨Nat.zero_le _, by simpa using ho, (readyM_iff hl ho).2 hi⟩
          have hx := allOf_mem hc (i, o) hmem
          have his : i < ops.size := ready_lt hi
          have fin : ∀ (e' : VEnv) (t' : Array Value) (h' : Heap), Fr ops t t' → Rel e' t' → (∀ x ∈ dropE (ancs.getD i 0) H, qop P (ev x.2.2.1) x.2.1.op h' (fun v => v = x.2.2.2)) →
              cDrawn P n ops ancs f (listed ||| 2 ^ i) (dropE (ancs.getD i 0) H) e' h' K →
              (∀ x ∈ dropH ancs i HA, x.2 h') ∧ RW P ops ancs (QK ops K t₀) f (dropH ancs i HA) (lA.setIfInBounds i true) t' h' := by
            intro e' t' h' hf hr' hF hcd
            have hrw := cDrawn_sound f (hl.set his) (HR.drop hh) hF hr' (hf.1.trans hn) (hfr.trans hf) hcd
            refine ⟨fun x hx => ?_, hrw⟩
            rcases HR.drop (ancs := ancs) (i := i) hh x hx with h1 | ⟨y, hy, _, h1⟩
            · exact h1 h'
            · exact h1 h' (hF y hy)
          cases hadd : addsB o.op with
          | true =>
            have hx : cStep P n ops o e h fun e' h' => cDrawn P n ops ancs f (listed ||| 2 ^ i) (dropE (ancs.getD i 0) H) e' h' K := by
              dsimp only at hx; rw [hadd] at hx; exact hx
            refine opA_mono ?_ (cStep_sound ho hr hn (cStep_adds hadd hx))
            rintro t' h' ⟨hf, e', hr', hcd, hpush⟩
            refine fin e' t' h' hf hr' ?_ hcd
            intro x hx
            have := hfacts x (mem_dropE.1 hx).1
            rcases hpush with rfl | ⟨y, rfl⟩
            · exact this
            · exact qop_push this
          | false =>
            have hx : cStep P n ops o e h fun e' h' => recheck P h' (dropE (ancs.getD i 0) H) (cDrawn P n ops ancs f (listed ||| 2 ^ i) (dropE (ancs.getD i 0) H) e' h' K) := by
              dsimp only at hx; rw [hadd] at hx; exact hx
            refine opA_mono ?_ (cStep_sound ho hr hn hx)
            rintro t' h' ⟨hf, e', hr', hcd⟩
            obtain ⟨h1, h2⟩ := recheck_spec hcd
            exact fin e' t' h' hf hr' h2 h1
        by_cases hre : Region.ready .any ops lA = []
        · refine .inl ⟨hre, ?_⟩
          exfalso
          cases hl2 : allReady listed ops.toList 0 with
          | nil => exact hne hl2
          | cons x r =>
            obtain ⟨i, o⟩ := x
            have hm : (i, o) ∈ allReady listed ops.toList 0 := by rw [hl2]; exact List.mem_cons_self
            obtain ⟨_, ho, hrd⟩ := (allReady_spec _ _ _ _).1 hm
            have := (readyM_iff hl (by simpa using ho)).1 hrd
            rw [hre] at this; cases this
        · exact .inr (.inr ⟨hre, key⟩)

end
end Go.Mh
