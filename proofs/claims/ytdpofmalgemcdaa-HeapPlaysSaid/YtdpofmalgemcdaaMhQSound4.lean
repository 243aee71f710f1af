/- A text of the proofs of seat Ytdpofmalgemcdaa: 'Mh.QSound4'. It has no condition of its own. -/
import Derived.Test.YtdpofmalgemcdaaMhQSound3
set_option linter.unusedVariables false
set_option linter.unusedSimpArgs false
namespace Go.Mh
open Go

section
variable {P : Program} {h : Heap}

theorem listMap_toArray {α β : Type} (f : α → β) (a : Array α) : (a.toList.map f).toArray = a.map f := by cases a; simp

theorem nil_sound {v : Value} {K : Value → Prop} (hq : pNil v K) : ∃ u, rdS P (match v with
    | .pointer none | .nilIface | .nilFunc => runtimePanic .nilDeref
    | .func (.method name) first captured =>
      match (first[0]? : Option Value) with
      | some .nilIface => runtimePanic .nilDeref
      | some (.iface t w) => do
        if (← nilAhead ((← program).types.size + Made.depth) t w name) != some false then
          unsupported (.noEntry "op/nilCheck.the method's receiver behind this interface value is a nil pointer, or cannot be seen to be none, and the arguments act or may panic (ledger 612)")
        pure (.value (.func (.method name) first captured))
      | _ => pure (.value (.func (.method name) first captured))
    | x => pure (.value x) : Sem Next) h = some (.value u) ∧ K u := by
  unfold pNil at hq
  split at hq
  · exact ⟨_, rfl, hq⟩
  · exact ⟨_, rfl, hq⟩
  · exact ⟨_, rfl, hq⟩
  · exact hq.elim

theorem binop_sound {ρ : Operand → Value} {op : BinOp} {t : TypeId} {d : TypeDesc} {x y : Operand} {K : Value → Prop} (hd : P.underlying t = some d)
    (hq : pBinT d op (litOf y) (ρ x) (ρ y) K) :
    ∃ v, rdS P (do eqGuard op t x y (ρ x) (ρ y); binOp op t (ρ x) (ρ y)) h = some v ∧ K v := by
  unfold pBinT at hq
  split at hq
  · rename_i k hk
    split at hq
    · exact hq.elim
    · rename_i hlit
      have main : ∀ neg : Bool, (op = .eql ∧ neg = false ∨ op = .neq ∧ neg = true) → pEq neg k (ρ x) (ρ y) K →
          ∃ v, rdS P (do eqGuard op t x y (ρ x) (ρ y); binOp op t (ρ x) (ρ y)) h = some v ∧ K v := by
        intro neg hop hp
        have hn := eq_noAgg hp
        obtain ⟨b, hv, hk'⟩ := eq_sound (h := h) hd hk hp
        refine ⟨_, ?_, hk'⟩
        have hg : rdS P (eqGuard op t x y (ρ x) (ρ y)) h = some () := by
          by_cases hni : ρ x = .nilIface
          · obtain ⟨rfl, _⟩ := hn.2 hni
            have : litOf y = true := by cases hl : litOf y <;> simp_all [isIfaceK]
            exact guard_lit hn.1 this
          · exact guard_plain hn.1 (fun e => hni e.1)
        rw [rdS_bind hg, eq_not hp op t (by rcases hop with ⟨e, _⟩ | ⟨e, _⟩ <;> simp [e])]
        rcases hop with ⟨rfl, rfl⟩ | ⟨rfl, rfl⟩
        · dsimp only; rw [rdS_bind hv]; simp [rdS, pure]
        · dsimp only; rw [rdS_bind hv]; simp [rdS, pure]
      split at hq
      · exact main false (.inl ⟨rfl, rfl⟩) hq
      · exact main true (.inr ⟨rfl, rfl⟩) hq
      · exact hq.elim
  · have hn := bin_noAgg hq
    obtain ⟨v, hv, hk⟩ := bin_sound (P := P) (h := h) (t := t) hq
    refine ⟨v, ?_, hk⟩
    rw [rdS_bind (guard_plain hn.1 (fun e => hn.2 e.1))]; exact hv

theorem len_sound {t type : TypeId} {argTypes : Array TypeId} {args : Array Value} {d : TypeDesc} {x : Value} {K : Value → Prop} (hT : argTypes[0]? = some t) (hx : args[0]? = some x)
    (hd : P.underlying t = some d)
    (hq : match some d with
        | some (.slice _) => pLen x K
        | some .string => pLenS x K
        | some (.map _ _) => pLenM h x K
        | some (.array n _) => K (.int .i64 n)
        | _ => False) : ∃ v, rdS P (Builtin.len_ argTypes type args) h = some v ∧ K v := by
  split at hq
  · rename_i e hde
    cases hde
    unfold pLen at hq
    split at hq
    · refine ⟨_, ?_, hq⟩
      unfold Builtin.len_; simp only [hT, hx]; rw [rdS_bind (rdS_underlying hd)]; rfl
    · exact hq.elim
  · rename_i hde
    cases hde
    unfold pLenS at hq
    split at hq
    · refine ⟨_, ?_, hq⟩
      unfold Builtin.len_; simp only [hT, hx]; rw [rdS_bind (rdS_underlying hd)]; rfl
    · exact hq.elim
  · rename_i hde
    cases hde
    unfold pLenM at hq
    split at hq
    · refine ⟨_, ?_, hq⟩
      unfold Builtin.len_; simp only [hT, hx]; rw [rdS_bind (rdS_underlying hd)]; rfl
    · rename_i r
      split at hq
      · rename_i es clock hm
        refine ⟨_, ?_, hq⟩
        have hget : rdS P (getObj r) h = some (.map es clock) := by simp [getObj, rdS, hm]
        unfold Builtin.len_; simp only [hT, hx]; rw [rdS_bind (rdS_underlying hd)]
        dsimp only
        rw [rdS_bind hget]; rfl
      · exact hq.elim
    · exact hq.elim
  · rename_i hde
    cases hde
    refine ⟨_, ?_, hq⟩
    unfold Builtin.len_; simp only [hT, hx]; rw [rdS_bind (rdS_underlying hd)]
    cases x <;> rfl
  · exact hq.elim

theorem cap_sound {t type : TypeId} {argTypes : Array TypeId} {args : Array Value} {e : TypeId} {x : Value} {K : Value → Prop} (hT : argTypes[0]? = some t) (hx : args[0]? = some x)
    (hd : P.underlying t = some (.slice e)) (hq : pCap x K) : ∃ v, rdS P (Builtin.cap_ argTypes type args) h = some v ∧ K v := by
  unfold pCap at hq
  split at hq
  · refine ⟨_, ?_, hq⟩
    unfold Builtin.cap_; simp only [hT, hx]; rw [rdS_bind (rdS_underlying hd)]; rfl
  · exact hq.elim

theorem qop_sound {ρ : Operand → Value} {o : Oper} {K : Value → Prop} (hq : qop P ρ o.op h K) : ∃ v, rdS P (execOp ρ o) h = some (.value v) ∧ K v := by
  have lift : ∀ {s : Sem Value}, (∃ v, rdS P s h = some v ∧ K v) → ∃ v, rdS P (do pure (Next.value (← s)) : Sem Next) h = some (.value v) ∧ K v :=
    fun ⟨v, hv, hk⟩ => ⟨v, rdv hv, hk⟩
  obtain ⟨dst, op, type, pos, after, guard⟩ := o
  dsimp only at hq
  unfold execOp
  cases op <;> simp only [qop] at hq
  case move x => exact ⟨_, rfl, hq⟩
  case assign x => exact ⟨_, rfl, hq⟩
  case pick c a b =>
    unfold pPick at hq
    dsimp only
    split at hq
    · rename_i e; exact ⟨_, by rw [e]; rfl, hq⟩
    · rename_i e; exact ⟨_, by rw [e]; rfl, hq⟩
    · exact hq.elim
  case load t a =>
    split at hq
    · rename_i d i hd hi; exact lift (load_sound hd hi hq)
    · exact hq.elim
  case nilCheck x => exact nil_sound hq
  case binOp op t x y yt =>
    split at hq
    · rename_i d hd; exact lift (binop_sound hd hq)
    · exact hq.elim
  case unOp op t x => exact lift (un_sound hq)
  case convert s d x =>
    split at hq
    · rename_i hs hd; exact lift (conv_sound hs hd hq)
    · exact hq.elim
  case makeInterface t x =>
    split at hq
    · exact hq.elim
    · rename_i d hno hd
      refine lift ⟨_, ?_, hq⟩
      unfold Instr.makeInterface
      rw [rdS_bind (rdS_underlying hd)]
      cases d <;> first | rfl | exact (hno _ rfl).elim
    · exact hq.elim
  case makeFunc fn first captured => exact lift ⟨_, rfl, by simpa only [listMap_toArray] using hq⟩
  case slice t x lo hi mx =>
    split at hq
    · split at hq
      · rename_i hd _ _ he; exact lift (slice_sound hd he hq)
      · exact hq.elim
    · rename_i hd
      split at hq
      · exact lift (sliceS_sound hd hq)
      · exact hq.elim
    · exact hq.elim
  case fieldAddr s x f =>
    split at hq
    · rename_i fs hs
      split at hq
      · rename_i fd hf
        split at hq
        · rename_i i hi
          split at hq
          · exact hq.elim
          · rename_i n hn; exact lift (field_sound hs hf hi hn hq)
        · exact hq.elim
      · exact hq.elim
    · exact hq.elim
  case field t x f =>
    split at hq
    · rename_i fs hs
      split at hq
      · rename_i fd hf
        split at hq
        · rename_i d i hd hi; exact lift (part_sound hs hf hd hi hq)
        · exact hq.elim
      · exact hq.elim
    · exact hq.elim
  case indexAddr t x i =>
    split at hq
    · rename_i e ht
      split at hq
      · rename_i info he; exact lift (idx_sound ht he hq)
      · exact hq.elim
    · rename_i n e ht
      split at hq
      · rename_i info he; exact lift (idxA_sound ht he hq)
      · exact hq.elim
    · exact hq.elim
  case lookup t m k ok =>
    split at hq
    · rename_i kt et ht
      split at hq
      · rename_i kd ei hk he
        split at hq
        · rename_i z hs hz; exact lift (look_sound ht hk he hs hz hq)
        · exact hq.elim
      · exact hq.elim
    · exact hq.elim
  case extract x i => exact lift (ext_sound hq)
  case build t parts =>
    split at hq
    · rename_i fs i ht hi
      split at hq
      · rename_i z hz
        split at hq
        · rename_i ps hp hall
          exact lift (build_struct_sound ht hi hz hall (by simpa using hp) hq)
        · exact hq.elim
      · exact hq.elim
    · rename_i n e i ht hi
      split at hq
      · rename_i z ei hz he
        refine lift (build_array_sound ht hi hz he ?_)
        have : (parts.map fun (x : Nat × Operand) => (x.1, ρ x.2)).toList.map (fun (x : Nat × Value) => (x.1 * ei.size, ei.size, x.2)) = parts.toList.map fun (x : Nat × Operand) => (x.1 * ei.size, ei.size, ρ x.2) := by simp
        show pBuild z.cells.toList ((parts.map fun (x : Nat × Operand) => (x.1, ρ x.2)).toList.map (fun (x : Nat × Value) => (x.1 * ei.size, ei.size, x.2))) K
        rw [this]; exact hq
      · exact hq.elim
    · exact hq.elim
  case call c =>
    obtain ⟨callee, args, argTypes⟩ := c
    dsimp only at hq ⊢
    have core : ∀ {b : Builtin} {s : Sem Value}, (∀ cs, builtin b argTypes type cs (args.map ρ) = (do pure (.value (← s)))) → (∃ v, rdS P s h = some v ∧ K v) →
        ∃ v, rdS P (do let d ← resolve ρ { callee := .builtin b, args, argTypes } type; invoke d.target d.args) h = some (.value v) ∧ K v := by
      rintro b s hs ⟨v, hv, hk⟩
      refine ⟨v, ?_, hk⟩
      show rdS P (builtin b argTypes type _ (args.map ρ)) h = _
      rw [hs]; exact rdv hv
    have ar : ∀ {i : Nat} {x : Operand}, args[i]? = some x → (args.map ρ)[i]? = some (ρ x) := fun hx => by simp [hx]
    have two : ∀ {x y : Operand}, args.toList = [x, y] → (args.map ρ).toList = [ρ x, ρ y] := fun e => by simp [e]
    have three : ∀ {x y z : Operand}, args.toList = [x, y, z] → (args.map ρ).toList = [ρ x, ρ y, ρ z] := fun e => by simp [e]
    split at hq
    · split at hq
      · rename_i t x hT hx
        cases hd : P.underlying t with
        | none => rw [hd] at hq; exact hq.elim
        | some d => rw [hd] at hq; exact core (fun _ => rfl) (len_sound hT (ar hx) hd hq)
      · exact hq.elim
    · split at hq
      · rename_i t x hT hx
        split at hq
        · rename_i e hd; exact core (fun _ => rfl) (cap_sound hT (ar hx) hd hq)
        · exact hq.elim
      · exact hq.elim
    · split at hq
      · rename_i x y hxy
        obtain ⟨v, hv, hk⟩ := min_sound (P := P) (h := h) hq
        refine core (fun _ => rfl) ⟨v, ?_, hk⟩
        unfold Builtin.min_; rw [two hxy]; dsimp only; rw [List.foldlM_cons, rdS_bind hv]; rfl
      · rename_i x y z hxy
        obtain ⟨u, hu, hk⟩ := min_sound (P := P) (h := h) hq
        obtain ⟨v, hv, hk⟩ := min_sound (P := P) (h := h) hk
        refine core (fun _ => rfl) ⟨v, ?_, hk⟩
        unfold Builtin.min_; rw [three hxy]; dsimp only; rw [List.foldlM_cons, rdS_bind hu, List.foldlM_cons, rdS_bind hv]; rfl
      · exact hq.elim
    · split at hq
      · rename_i x y hxy
        obtain ⟨v, hv, hk⟩ := max_sound (P := P) (h := h) hq
        refine core (fun _ => rfl) ⟨v, ?_, hk⟩
        unfold Builtin.max_; rw [two hxy]; dsimp only; rw [List.foldlM_cons, rdS_bind hv]; rfl
      · rename_i x y z hxy
        obtain ⟨u, hu, hk⟩ := max_sound (P := P) (h := h) hq
        obtain ⟨v, hv, hk⟩ := max_sound (P := P) (h := h) hk
        refine core (fun _ => rfl) ⟨v, ?_, hk⟩
        unfold Builtin.max_; rw [three hxy]; dsimp only; rw [List.foldlM_cons, rdS_bind hu, List.foldlM_cons, rdS_bind hv]; rfl
      · exact hq.elim
    · exact hq.elim
  all_goals exact hq.elim

end
end Go.Mh
