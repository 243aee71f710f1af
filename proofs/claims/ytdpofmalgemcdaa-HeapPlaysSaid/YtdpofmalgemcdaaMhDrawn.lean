/- A text of the proofs of seat Ytdpofmalgemcdaa: 'Mh.Drawn'. It has no condition of its own. -/
import Derived.Test.YtdpofmalgemcdaaMhRegion
set_option linter.unusedVariables false
set_option linter.unusedSimpArgs false
namespace Go.Mh
open Go

def predOr (acc : List Nat) (o : Oper) : Nat :=
  o.after.toList.foldl (fun s e => bif Region.binds .any e then s ||| (2 ^ e.on ||| acc.getD e.on 0) else s) 0

def ancList : List Oper → List Nat → List Nat
  | [], acc => acc
  | o :: r, acc => ancList r (acc ++ [predOr acc o])

section
variable {P : Program} {ops : Array Oper} {ancs : List Nat}

def ancBit (ancs : List Nat) (i c : Nat) : Bool := (ancs.getD i 0).testBit c

def ancOKB (ancs : List Nat) : List Oper → Nat → Bool
  | [], _ => true
  | o :: r, i => Nat.beq (ancs.getD i 0) (predOr ancs o) && ancOKB ancs r (i + 1)

theorem predOr_bit (ancs : List Nat) (o : Oper) (c : Nat) (h : (predOr ancs o).testBit c = true) :
    ∃ e ∈ o.after, Region.binds .any e = true ∧ (c = e.on ∨ ancBit ancs e.on c = true) := by
  have key : ∀ (l : List Edge) (s : Nat), (l.foldl (fun s e => bif Region.binds .any e then s ||| (2 ^ e.on ||| ancs.getD e.on 0) else s) s).testBit c = true →
      s.testBit c = true ∨ ∃ e ∈ l, Region.binds .any e = true ∧ (c = e.on ∨ ancBit ancs e.on c = true) := by
    intro l
    induction l with
    | nil => intro s h; exact .inl h
    | cons e l ih =>
      intro s h
      rw [List.foldl_cons] at h
      rcases ih _ h with h | ⟨e', he', hb⟩
      · cases hb : Region.binds .any e with
        | false => rw [hb] at h; exact .inl h
        | true =>
          rw [hb, cond_true, Nat.testBit_or, Nat.testBit_or, Nat.testBit_two_pow] at h
          simp only [Bool.or_eq_true, decide_eq_true_eq] at h
          rcases h with h | h | h
          · exact .inl h
          · exact .inr ⟨e, List.mem_cons_self, hb, .inl h.symm⟩
          · exact .inr ⟨e, List.mem_cons_self, hb, .inr h⟩
      · exact .inr ⟨e', List.mem_cons_of_mem _ he', hb⟩
  rcases key o.after.toList 0 h with h | ⟨e, he, h⟩
  · simp at h
  · exact ⟨e, Array.mem_def.2 he, h⟩

theorem ancOKB_spec {ancs : List Nat} : ∀ (l : List Oper) (k : Nat), ancOKB ancs l k = true → ∀ (i : Nat) (o : Oper), l[i]? = some o → ancs.getD (k + i) 0 = predOr ancs o
  | [], _, _, i, o, ho => by simp at ho
  | x :: l, k, h, i, o, ho => by
    simp only [ancOKB, Bool.and_eq_true] at h
    cases i with
    | zero => simp only [List.getElem?_cons_zero, Option.some.injEq] at ho; subst ho; exact Nat.eq_of_beq_eq_true h.1
    | succ i =>
      rw [show k + (i + 1) = k + 1 + i by omega]
      exact ancOKB_spec l (k + 1) h.2 i o (by simpa using ho)

theorem anc_bit (hok : ancOKB ancs ops.toList 0 = true) {i c : Nat} {o : Oper} (ho : ops[i]? = some o) (hb : ancBit ancs i c = true) :
    ∃ e ∈ o.after, Region.binds .any e = true ∧ (c = e.on ∨ ancBit ancs e.on c = true) := by
  have h := ancOKB_spec ops.toList 0 hok i o (by simpa using ho)
  rw [Nat.zero_add] at h
  unfold ancBit at hb
  rw [h] at hb
  exact predOr_bit ancs o c hb

def quietAt (ops : Array Oper) (i : Nat) : Bool :=
  match ops[i]? with
  | some o => quietB o.op
  | none => false

/-- Every quiet operation is ordered against, or apart from, each other one. -/
def apartOK (ops : Array Oper) (ancs : List Nat) : Prop :=
  ∀ c i : Nat, c < ops.size → i < ops.size → c ≠ i → quietAt ops c = true → ancBit ancs i c = false → ancBit ancs c i = false → apartAt ops c i = true

theorem mem_ready {listed : Array Bool} {i : Nat} : i ∈ Region.ready .any ops listed ↔
    i < ops.size ∧ listed.getD i true = false ∧ ∃ o, ops[i]? = some o ∧ ∀ e ∈ o.after, Region.binds .any e = true → listed.getD e.on false = true := by
  unfold Region.ready
  simp only [List.mem_filter, List.mem_range, Bool.and_eq_true, Bool.not_eq_true']
  constructor
  · rintro ⟨h1, h2, h3⟩
    refine ⟨h1, h2, ?_⟩
    cases ho : ops[i]? with
    | none => rw [ho] at h3; simp at h3
    | some o =>
      rw [ho] at h3
      simp only [Option.map_some, Option.getD_some, Array.all_eq_true_iff_forall_mem, Bool.or_eq_true, Bool.not_eq_true'] at h3
      refine ⟨o, rfl, fun e he hb => ?_⟩
      rcases h3 e he with h | h
      · rw [hb] at h; cases h
      · exact h
  · rintro ⟨h1, h2, o, ho, h3⟩
    refine ⟨h1, h2, ?_⟩
    rw [ho]
    simp only [Option.map_some, Option.getD_some, Array.all_eq_true_iff_forall_mem, Bool.or_eq_true, Bool.not_eq_true']
    intro e he
    cases hb : Region.binds .any e with
    | false => exact .inl rfl
    | true => exact .inr (h3 e he hb)

def Closed (ops : Array Oper) (ancs : List Nat) (listed : Array Bool) : Prop :=
  listed.size = ops.size ∧ ∀ i c, listed.getD i false = true → ancBit ancs i c = true → listed.getD c false = true

theorem getD_set {listed : Array Bool} {i j : Nat} {d : Bool} (hi : i < listed.size) : (listed.setIfInBounds i true).getD j d = if i = j then true else listed.getD j d := by
  simp only [Array.getD_eq_getD_getElem?, Array.getElem?_setIfInBounds]
  split
  · rename_i e; subst e; simp [hi]
  · rfl

theorem ready_anc (hok : ancOKB ancs ops.toList 0 = true) {listed : Array Bool} {i c : Nat} (hc : Closed ops ancs listed) (hi : i ∈ Region.ready .any ops listed)
    (hb : ancBit ancs i c = true) : listed.getD c false = true := by
  obtain ⟨_, _, o, ho, h⟩ := mem_ready.1 hi
  obtain ⟨e, he, hbind, rfl | hbit⟩ := anc_bit hok ho hb
  · exact h e he hbind
  · exact hc.2 _ _ (h e he hbind) hbit

theorem ready_lt {listed : Array Bool} {i : Nat} (hi : i ∈ Region.ready .any ops listed) : i < ops.size := (mem_ready.1 hi).1

theorem ready_not {listed : Array Bool} {i : Nat} (hs : listed.size = ops.size) (hi : i ∈ Region.ready .any ops listed) : listed.getD i false = false := by
  obtain ⟨h1, h2, _⟩ := mem_ready.1 hi
  have : i < listed.size := by omega
  simpa [Array.getD_eq_getD_getElem?, this] using h2

theorem closed_set (hok : ancOKB ancs ops.toList 0 = true) {listed : Array Bool} {i : Nat} (hc : Closed ops ancs listed) (hi : i ∈ Region.ready .any ops listed) :
    Closed ops ancs (listed.setIfInBounds i true) := by
  have hl : i < listed.size := by rw [hc.1]; exact ready_lt hi
  refine ⟨by simp [hc.1], fun j c hj hb => ?_⟩
  rw [getD_set hl] at hj ⊢
  split
  · rfl
  · split at hj
    · rename_i e; subst e; exact ready_anc hok hc hi hb
    · exact hc.2 _ _ hj hb

theorem ready_set {listed : Array Bool} {i c : Nat} (hs : listed.size = ops.size) (hne : i ≠ c) (hi : i ∈ Region.ready .any ops listed) (hc : c < ops.size) :
    i ∈ Region.ready .any ops (listed.setIfInBounds c true) := by
  obtain ⟨h1, h2, o, ho, h⟩ := mem_ready.1 hi
  have hl : c < listed.size := by omega
  refine mem_ready.2 ⟨h1, ?_, o, ho, fun e he hb => ?_⟩
  · rw [getD_set hl, if_neg (fun e => hne e.symm)]; exact h2
  · rw [getD_set hl]; split
    · rfl
    · exact h e he hb

abbrev Held := List (Nat × (Heap → Prop))

def dropH (ancs : List Nat) (i : Nat) (H : Held) : Held := H.filter fun x => !ancBit ancs i x.1

theorem dropH_sub {i : Nat} {H : Held} : dropH ancs i H ⊆ H := fun _ h => (List.mem_filter.1 h).1

theorem dropH_mono {i : Nat} {H H' : Held} (h : H' ⊆ H) : dropH ancs i H' ⊆ dropH ancs i H := fun x hx => by
  obtain ⟨h1, h2⟩ := List.mem_filter.1 hx
  exact List.mem_filter.2 ⟨h h1, h2⟩

/-- Quiet operations as early as may be; loud ones in whatever order. -/
def RW (P : Program) (ops : Array Oper) (ancs : List Nat) (Q : Array Value → Heap → Prop) : Nat → Held → Array Bool → Array Value → Heap → Prop
  | 0, _, listed, t, h => Region.ready .any ops listed = [] ∧ Q t h
  | f + 1, H, listed, t, h =>
    (Region.ready .any ops listed = [] ∧ Q t h) ∨
    (∃ c v, c ∈ Region.ready .any ops listed ∧ quietAt ops c = true ∧ Gives P ops c v t h ∧
      RW P ops ancs Q f (H ++ [(c, Gives P ops c v t)]) (listed.setIfInBounds c true) (putA t (dstOf ops c) v) h) ∨
    (Region.ready .any ops listed ≠ [] ∧ ∀ i ∈ Region.ready .any ops listed,
      opA P ops i t h fun t' h' => (∀ x ∈ dropH ancs i H, x.2 h') ∧ RW P ops ancs Q f (dropH ancs i H) (listed.setIfInBounds i true) t' h')

theorem RW_sub {Q : Array Value → Heap → Prop} : ∀ (f : Nat) {H H' : Held} {listed : Array Bool} {t : Array Value} {h : Heap}, H' ⊆ H → RW P ops ancs Q f H listed t h → RW P ops ancs Q f H' listed t h
  | 0, _, _, _, _, _, _, hr => hr
  | f + 1, H, H', listed, t, h, hs, hr => by
    rcases hr with hr | ⟨c, v, hc, hq, hg, hr⟩ | ⟨hne, hr⟩
    · exact .inl hr
    · refine .inr (.inl ⟨c, v, hc, hq, hg, RW_sub f ?_ hr⟩)
      intro x hx
      rcases List.mem_append.1 hx with hx | hx
      · exact List.mem_append.2 (.inl (hs hx))
      · exact List.mem_append.2 (.inr hx)
    · refine .inr (.inr ⟨hne, fun i hi => opA_mono ?_ (hr i hi)⟩)
      rintro t' h' ⟨h1, h2⟩
      exact ⟨fun x hx => h1 x (dropH_mono hs hx), RW_sub f (dropH_mono hs) h2⟩

theorem RW_take (hok : ancOKB ancs ops.toList 0 = true) (hap : apartOK ops ancs) (hp : AllPlain ops) {Q : Array Value → Heap → Prop} :
    ∀ (f : Nat) {H : Held} {listed : Array Bool} {t : Array Value} {h : Heap} {i : Nat}, Closed ops ancs listed → RW P ops ancs Q (f + 1) H listed t h →
      i ∈ Region.ready .any ops listed → (∀ x ∈ H, x.2 h) →
      opA P ops i t h fun t' h' => (∀ x ∈ dropH ancs i H, x.2 h') ∧ RW P ops ancs Q f (dropH ancs i H) (listed.setIfInBounds i true) t' h' := by
  intro f
  induction f with
  | zero =>
    intro H listed t h i hcl hr hi hH
    rcases hr with ⟨hr, _⟩ | ⟨c, v, hc, hq, hg, hr⟩ | ⟨_, hr⟩
    · rw [hr] at hi; cases hi
    · by_cases hic : i = c
      · subst hic
        exact hg.opA ⟨fun x hx => hH x (dropH_sub hx), hr⟩
      · have := ready_set hcl.1 hic hi (ready_lt hc)
        rw [hr.1] at this; cases this
    · exact hr i hi
  | succ f ih =>
    intro H listed t h i hcl hr hi hH
    rcases hr with ⟨hr, _⟩ | ⟨c, v, hc, hq, hg, hr⟩ | ⟨_, hr⟩
    · rw [hr] at hi; cases hi
    · by_cases hic : i = c
      · subst hic
        exact hg.opA ⟨fun x hx => hH x (dropH_sub hx), RW_sub _ (fun x hx => List.mem_append.2 (.inl (dropH_sub hx))) hr⟩
      · have hci : ancBit ancs i c = false := by
          cases hb : ancBit ancs i c with
          | false => rfl
          | true => have := ready_anc hok hcl hi hb; rw [ready_not hcl.1 hc] at this; cases this
        have hic' : ancBit ancs c i = false := by
          cases hb : ancBit ancs c i with
          | false => rfl
          | true => have := ready_anc hok hcl hc hb; rw [ready_not hcl.1 hi] at this; cases this
        have ha : apartAt ops c i = true := hap c i (ready_lt hc) (ready_lt hi) (fun e => hic e.symm) hq hci hic'
        have hH' : ∀ x ∈ H ++ [(c, Gives P ops c v t)], x.2 h := by
          intro x hx
          rcases List.mem_append.1 hx with hx | hx
          · exact hH x hx
          · rw [List.mem_singleton.1 hx]; exact hg
        have := ih (closed_set hok hcl hc) hr (ready_set hcl.1 hic hi (ready_lt hc)) hH'
        refine opA_mono ?_ (opA_swap hp ha this)
        rintro t' h' ⟨⟨u, rfl⟩, hfacts, hrw⟩
        have hd : dropH ancs i (H ++ [(c, Gives P ops c v t)]) = dropH ancs i H ++ [(c, Gives P ops c v t)] := by
          unfold dropH; rw [List.filter_append]; simp [hci]
        rw [hd] at hfacts hrw
        have hg' : Gives P ops c v (putA t (dstOf ops i) u) = Gives P ops c v t := funext fun h'' => propext (Gives.put hp ha)
        refine ⟨fun x hx => hfacts x (List.mem_append.2 (.inl hx)), .inr (.inl ⟨c, v, ready_set hcl.1 (fun e => hic e.symm) hc (ready_lt hi), hq, ?_, ?_⟩)⟩
        · rw [hg']; exact hfacts _ (List.mem_append.2 (.inr (List.mem_singleton.2 rfl)))
        · rw [hg', Array.setIfInBounds_comm _ _ (fun e => hic e)]; exact hrw
    · exact hr i hi

theorem anyA_of_RW (hok : ancOKB ancs ops.toList 0 = true) (hap : apartOK ops ancs) (hp : AllPlain ops) {Q : Array Value → Heap → Prop} :
    ∀ (f : Nat) {listed : Array Bool} {t : Array Value} {h : Heap}, Closed ops ancs listed → RW P ops ancs Q f [] listed t h → anyA P ops Q f listed t h := by
  intro f
  induction f with
  | zero => intro listed t h _ hr; exact hr
  | succ f ih =>
    intro listed t h hcl hr
    refine ⟨fun he => ?_, fun i hi => opA_mono (fun t' h' hk => ih (closed_set hok hcl hi) hk.2) (RW_take hok hap hp f hcl hr hi (by simp))⟩
    rcases hr with ⟨_, hq⟩ | ⟨c, v, hc, _⟩ | ⟨hne, _⟩
    · exact hq
    · rw [he] at hc; cases hc
    · exact (hne he).elim

end
end Go.Mh
