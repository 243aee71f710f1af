/- Texts of the proofs of seat YtleaknaadodjeaaGreat, joined: LSound3, Region, Drawn, CReg, CDrawn, Compile, CSound, Fn, Defer, Ann, Mem, Step. They have no conditions of their own. -/
import Derived.Test.YtleaknaadodjeaaGreatMa
import Derived.RangeFuncLeaves
import Derived.RecoverIn
set_option linter.unusedVariables false
set_option linter.unusedSimpArgs false
set_option linter.unusedSectionVars false

namespace Go.Mh
open Go

section
variable {P : Program} {h : Heap}

theorem lop_sound {ρ : Operand → Value} {o : Oper} {K : Value → Heap → Prop} (hq : lop P ρ o.op h K) : wpS P (execOp ρ o) h (nextK P K) := by
  obtain ⟨dst, op, type, pos, after, guard⟩ := o
  dsimp only at hq
  unfold execOp
  cases op <;> simp only [lop] at hq
  case box t v => exact wpv (box_sound hq)
  case alloc t =>
    split at hq
    · rename_i i hi
      split at hq
      · rename_i z hz; exact wpv (alloc_sound hi hz hq)
      · exact hq.elim
    · exact hq.elim
  case buildSlice t len parts =>
    split at hq
    · rename_i e ht
      split at hq
      · rename_i i hi
        split at hq
        · rename_i z hz
          split at hq
          · rename_i h1 h2
            refine wpv (buildSlice_sound ht hi hz (Nat.le_of_ble_eq_true h1) (Nat.eq_of_beq_eq_true h2) ?_)
            have : (parts.map fun (x : Nat × Operand) => (x.1, ρ x.2)).toList.map (fun (x : Nat × Value) => (x.1 * i.size, i.size, x.2)) = parts.toList.map fun (x : Nat × Operand) => (x.1 * i.size, i.size, ρ x.2) := by simp
            show pBuildSlice e _ ((parts.map fun (x : Nat × Operand) => (x.1, ρ x.2)).toList.map (fun (x : Nat × Value) => (x.1 * i.size, i.size, x.2))) len h K
            rw [this]; exact hq
          · exact hq.elim
        · exact hq.elim
      · exact hq.elim
    · exact hq.elim
  case makeSlice t l c =>
    split at hq
    · rename_i e ht
      split at hq
      · rename_i i hi
        split at hq
        · rename_i z hz
          split at hq
          · rename_i h2; exact wpv (makeSlice_sound ht hi hz (Nat.eq_of_beq_eq_true h2) hq)
          · exact hq.elim
        · exact hq.elim
      · exact hq.elim
    · exact hq.elim
  case makeMap t r =>
    cases r with
    | none => exact wpv hq
    | some _ => exact hq.elim
  case range t m =>
    split at hq
    · rename_i kt et ht; exact wpv (range_sound ht hq)
    · exact hq.elim
  case next it s =>
    split at hq
    · exact hq.elim
    · exact wpv (next_sound hq)
  case store t a x =>
    split at hq
    · rename_i i hi; exact wpu (store_sound hi hq)
    · exact hq.elim
  case mapUpdate t m k x =>
    split at hq
    · rename_i kt et ht
      split at hq
      · rename_i kd hk
        split at hq
        · rename_i hs; exact wpu (mapSet_sound ht hk hs hq)
        · exact hq.elim
      · exact hq.elim
    · exact hq.elim
  case insert t m k x =>
    split at hq
    · rename_i kt et ht
      split at hq
      · rename_i kd hk
        split at hq
        · rename_i hs; exact wpu (mapSet_sound ht hk hs hq)
        · exact hq.elim
      · exact hq.elim
    · exact hq.elim
  case mapEntry t m k =>
    split at hq
    · rename_i kt et ht
      split at hq
      · rename_i kd ei hk he
        split at hq
        · rename_i z hs hz; exact wpv (mapEntry_sound ht hk hs he hz hq)
        · exact hq.elim
      · exact hq.elim
    · exact hq.elim
  case entryStore t m s x => exact wpu (entryStore_sound hq)
  case call c =>
    obtain ⟨callee, args, argTypes⟩ := c
    dsimp only at hq ⊢
    have core : ∀ {b : Builtin} {s : Sem Value}, (∀ cs, builtin b argTypes type cs (args.map ρ) = (do pure (.value (← s)))) → wpS P s h K →
        wpS P (do let d ← resolve ρ { callee := .builtin b, args, argTypes } type; invoke d.target d.args) h (nextK P K) := by
      intro b s hs hk
      show wpS P (builtin b argTypes type _ (args.map ρ)) h _
      rw [hs]; exact wpv hk
    have two : ∀ {x y : Operand}, args.toList = [x, y] → (args.map ρ).toList = [ρ x, ρ y] := fun e => by simp [e]
    split at hq
    · split at hq
      · rename_i t xt s x hT hX hargs
        split at hq
        · rename_i e xe ht hx
          split at hq
          · rename_i i hi
            split at hq
            · rename_i z hz
              split at hq
              · exact core (fun _ => rfl) (append_sound hT hX (two hargs) ht hx hi hz hq)
              · exact hq.elim
            · exact hq.elim
          · exact hq.elim
        · rename_i e kk ht hx
          split at hq
          · rename_i i hi
            split at hq
            · rename_i z hz
              split at hq
              · rename_i hb
                exact core (fun _ => rfl) (appendZ_sound hT hX (two hargs) ht hx hi hz (Nat.eq_of_beq_eq_true hb) hq)
              · exact hq.elim
            · exact hq.elim
          · exact hq.elim
        · exact hq.elim
      · exact hq.elim
    · split at hq
      · rename_i t d x hT hargs
        split at hq
        · rename_i e ht
          split at hq
          · rename_i i hi
            split at hq
            · exact core (fun _ => rfl) (copyS_sound hT (two hargs) ht hi hq)
            · exact core (fun _ => rfl) (copy_sound hT (two hargs) ht hi hq)
          · exact hq.elim
        · exact hq.elim
      · exact hq.elim
    · split at hq
      · rename_i t m k hT hargs
        split at hq
        · rename_i kt et ht
          split at hq
          · rename_i kd hk
            split at hq
            · rename_i hs; exact core (fun _ => rfl) (delete_sound hT (two hargs) ht hk hs hq)
            · exact hq.elim
          · exact hq.elim
        · exact hq.elim
      · exact hq.elim
    · split at hq
      · rename_i t x hT hargs
        split at hq
        · rename_i e ht
          split at hq
          · rename_i i hi
            split at hq
            · rename_i z hz; exact core (fun _ => rfl) (clear_sound hT (by simp [hargs]) ht hi hz hq)
            · exact hq.elim
          · exact hq.elim
        · exact hq.elim
      · exact hq.elim
    · exact callV_wp (by simpa only [listMap_toArray] using hq)
    · exact hq.elim
  all_goals exact hq.elim

def quietB : Op → Bool
  | .move _ | .assign _ | .pick .. | .load .. | .nilCheck _ | .binOp .. | .unOp .. | .convert .. | .makeInterface .. | .makeFunc .. | .slice .. | .fieldAddr .. | .field ..
  | .indexAddr .. | .index .. | .lookup .. | .extract .. | .build .. | .entry _ => true
  | .call { callee := .builtin .len, .. } | .call { callee := .builtin .cap, .. } | .call { callee := .builtin .min, .. } | .call { callee := .builtin .max, .. } => true
  | _ => false

/-- Operations that look at nothing but their operands. -/
def pureB (P : Program) : Op → Bool
  | .load .. | .lookup .. | .entry _ => false
  | .convert _ d _ => (match P.underlying d with
    | some .string => false
    | _ => true)
  | .call { callee := .builtin .len, argTypes, .. } => (match argTypes[0]? with
    | some t => (match P.underlying t with
      | some (.map _ _) => false
      | _ => true)
    | none => true)
  | _ => true

/-- Loud operations that only add a block. -/
def addsB : Op → Bool
  | .box .. | .alloc _ | .buildSlice .. | .makeSlice .. | .makeMap .. => true
  | _ => false

theorem pushed {h : Heap} {r : Nat} {x o : Obj} (hx : h[r]? = some x) : (h.push o)[r]? = some x := by
  have := (Array.getElem?_eq_some_iff.1 hx).1
  rw [Array.getElem?_push]; simp [Nat.ne_of_lt this, hx]

theorem hcell_push {h : Heap} {a : Addr} {v : Value} {o : Obj} (hv : hcell h a = some v) : hcell (h.push o) a = some v := by
  unfold hcell at *
  split at hv
  · rename_i hb; rw [pushed hb]; exact hv
  · cases hv

theorem cellsAt_push {h : Heap} {b : Nat} {o : Obj} : ∀ {n i : Nat} {l : List Value}, cellsAt h b i n = some l → cellsAt (h.push o) b i n = some l
  | 0, _, _, hl => hl
  | n + 1, i, l, hl => by
    simp only [cellsAt] at *
    split at hl
    · rename_i v hv
      rw [hcell_push hv]
      split at hl
      · rename_i l' hl'; rw [cellsAt_push hl']; exact hl
      · cases hl
    · cases hl

/-- What is read of a heap is read of it with one more block. -/
theorem qop_push {ρ : Operand → Value} {op : Op} {o : Obj} {K : Value → Prop} (hq : qop P ρ op h K) : qop P ρ op (h.push o) K := by
  cases op <;> simp only [qop] at hq ⊢ <;> try exact hq
  case load t a =>
    split at hq
    · rename_i d i hd hi
      split at hq
      · rename_i ha
        unfold pLoadN at *
        split at hq
        · split at hq
          · rename_i l hl; rw [cellsAt_push hl]; exact hq
          · exact hq.elim
        · exact hq.elim
      · rename_i ha
        unfold pLoad at *
        split at hq
        · split at hq
          · rename_i v hv; rw [hcell_push hv]; exact hq
          · exact hq.elim
        · exact hq.elim
    · exact hq.elim
  case convert s d x =>
    split at hq
    · exact hq
    · split at hq
      · unfold pConvBS at *
        split at hq
        · exact hq
        · split at hq
          · rename_i l hl; rw [cellsAt_push hl]; exact hq
          · exact hq.elim
        · exact hq.elim
      · exact hq.elim
    · exact hq.elim
  case entry it =>
    unfold pEntryM at *
    split at hq
    · rename_i r
      split at hq
      · rename_i m x seen stepped hr
        rw [pushed hr]
        dsimp only
        split at hq
        · rename_i stamp es clock hb hm
          rw [hb, pushed hm]
          exact hq
        · exact hq.elim
      · exact hq.elim
    · exact hq.elim
  case lookup t m k ok =>
    split at hq
    · split at hq
      · split at hq
        · unfold pLook at *
          split at hq
          · exact hq
          · rename_i r
            split at hq
            · rename_i es clock hm; rw [pushed hm]; exact hq
            · exact hq.elim
          · exact hq.elim
        · exact hq.elim
      · exact hq.elim
    · exact hq.elim
  case call c =>
    split at hq
    · split at hq
      · split at hq
        · exact hq
        · exact hq
        · unfold pLenM at *
          split at hq
          · exact hq
          · rename_i r
            split at hq
            · rename_i es clock hm; rw [pushed hm]; exact hq
            · exact hq.elim
          · exact hq.elim
        · exact hq
        · exact hq.elim
      · exact hq.elim
    all_goals exact hq

/-- A pure operation looks at no heap. -/
theorem qop_pure {ρ : Operand → Value} {op : Op} {h' : Heap} {K : Value → Prop} (hp : pureB P op = true) (hq : qop P ρ op h K) : qop P ρ op h' K := by
  cases op <;> simp only [qop] at hq ⊢ <;> try exact hq
  case convert s d x =>
    split at hq
    · exact hq
    · rename_i hs hd
      simp [pureB, hd] at hp
    · exact hq.elim
  case entry it => cases hp
  case load t a => cases hp
  case lookup t m k ok => cases hp
  case call c =>
    obtain ⟨callee, args, argTypes⟩ := c
    dsimp only at hq ⊢
    split at hq
    · split at hq
      · rename_i t x hT hx
        split at hq
        · exact hq
        · exact hq
        · rename_i hd
          simp [pureB, hT, hd] at hp
        · exact hq
        · exact hq.elim
      · exact hq.elim
    all_goals exact hq

theorem storeL_mono {b : Nat} {K K' : Heap → Prop} (hm : ∀ h, K h → K' h) : ∀ (l : List Value) (o : Nat) (h : Heap), storeL h b o l K → storeL h b o l K'
  | [], _, _, hl => hm _ hl
  | _ :: r, o, _, hl => ⟨hl.1, hl.2.1, hl.2.2.1, storeL_mono hm r _ _ hl.2.2.2⟩

theorem lop_mono {ρ : Operand → Value} {op : Op} {K K' : Value → Heap → Prop} (hm : ∀ v h, K v h → K' v h) (hl : lop P ρ op h K) : lop P ρ op h K' := by
  cases op <;> simp only [lop] at hl ⊢ <;> try exact hl.elim
  case box t v => exact hm _ _ hl
  case alloc t =>
    split at hl
    · split at hl
      · exact hm _ _ hl
      · exact hl.elim
    · exact hl.elim
  case buildSlice t len parts =>
    split at hl
    · split at hl
      · split at hl
        · split at hl
          · exact ⟨hl.1, hm _ _ hl.2⟩
          · exact hl.elim
        · exact hl.elim
      · exact hl.elim
    · exact hl.elim
  case makeSlice t l c =>
    split at hl
    · split at hl
      · split at hl
        · split at hl
          · unfold pMakeSlice at *
            split at hl
            · exact ⟨hl.1, hl.2.1, hl.2.2.1, hl.2.2.2.1, hm _ _ hl.2.2.2.2⟩
            · exact hl.elim
          · exact hl.elim
        · exact hl.elim
      · exact hl.elim
    · exact hl.elim
  case range t m =>
    split at hl
    · unfold pRangeM at *
      split at hl
      · exact hm _ _ hl
      · split at hl
        · exact hm _ _ hl
        · exact hl.elim
      · exact hl.elim
    · exact hl.elim
  case next it s =>
    split at hl
    · exact hl.elim
    · unfold pNextM at *
      split at hl
      · split at hl
        · exact hm _ _ hl
        · split at hl
          · exact ⟨hl.1, fun e he => hm _ _ (hl.2.1 e he), fun h => hm _ _ (hl.2.2 h)⟩
          · exact hl.elim
        · exact hl.elim
      · exact hl.elim
  case makeMap t r =>
    cases r with
    | none => exact hm _ _ hl
    | some _ => exact hl.elim
  case store t a x =>
    split at hl
    · unfold pStore at *
      split at hl
      · exact ⟨hl.1, storeL_mono (hm _) _ _ _ hl.2⟩
      · exact hl.elim
    · exact hl.elim
  case mapUpdate t m k x =>
    split at hl
    · split at hl
      · split at hl
        · unfold pMapSet at *
          split at hl
          · split at hl
            · split at hl
              · exact hm _ _ hl
              · exact hm _ _ hl
              · exact hl.elim
            · exact hl.elim
          · exact hl.elim
        · exact hl.elim
      · exact hl.elim
    · exact hl.elim
  case insert t m k x =>
    split at hl
    · split at hl
      · split at hl
        · unfold pMapSet at *
          split at hl
          · split at hl
            · split at hl
              · exact hm _ _ hl
              · exact hm _ _ hl
              · exact hl.elim
            · exact hl.elim
          · exact hl.elim
        · exact hl.elim
      · exact hl.elim
    · exact hl.elim
  case mapEntry t m k =>
    split at hl
    · split at hl
      · split at hl
        · unfold pMapEntry at *
          split at hl
          · split at hl
            · split at hl
              · exact hm _ _ hl
              · exact hm _ _ hl
              · exact hl.elim
            · exact hl.elim
          · exact hl.elim
        · exact hl.elim
      · exact hl.elim
    · exact hl.elim
  case entryStore t m s x =>
    unfold pEntryStore at *
    split at hl
    · split at hl
      · split at hl
        · exact hm _ _ hl
        · exact hl.elim
      · exact hl.elim
    · exact hl.elim
  case call c =>
    split at hl
    · split at hl
      · split at hl
        · split at hl
          · split at hl
            · split at hl
              · unfold pAppend at *
                split at hl
                · split at hl
                  · split at hl
                    · rename_i hle
                      rw [if_pos hle]
                      split at hl
                      · exact storeL_mono (hm _) _ _ _ hl
                      · exact hm _ _ hl
                      · exact hl.elim
                    · rename_i hle
                      rw [if_neg hle]
                      split at hl
                      · exact ⟨hl.1, hl.2.1, fun c h1 h2 => hm _ _ (hl.2.2 c h1 h2)⟩
                      · exact hl.elim
                  · exact hl.elim
                · exact hl.elim
              · exact hl.elim
            · exact hl.elim
          · exact hl.elim
        · split at hl
          · split at hl
            · split at hl
              · unfold pAppendZ at *
                split at hl
                · obtain ⟨h0, h1, h2, hl⟩ := hl
                  refine ⟨h0, h1, h2, ?_⟩
                  split at hl
                  · rename_i hle
                    rw [if_pos hle]
                    split at hl
                    · exact storeL_mono (hm _) _ _ _ hl
                    · exact hm _ _ hl
                    · exact hl.elim
                  · rename_i hle
                    rw [if_neg hle]
                    split at hl
                    · exact ⟨hl.1, hl.2.1, fun c h1 h2 => hm _ _ (hl.2.2 c h1 h2)⟩
                    · exact hl.elim
                · exact hl.elim
              · exact hl.elim
            · exact hl.elim
          · exact hl.elim
        · exact hl.elim
      · exact hl.elim
    · split at hl
      · split at hl
        · split at hl
          · split at hl
            · unfold pCopyS at *
              split at hl
              · split at hl
                · exact storeL_mono (hm _) _ _ _ hl
                · exact hm _ _ hl
                · exact hl.elim
              · exact hl.elim
            · unfold pCopy at *
              split at hl
              · split at hl
                · split at hl
                  · exact storeL_mono (hm _) _ _ _ hl
                  · exact hm _ _ hl
                  · exact hl.elim
                · exact hl.elim
              · exact hl.elim
          · exact hl.elim
        · exact hl.elim
      · exact hl.elim
    · split at hl
      · split at hl
        · split at hl
          · split at hl
            · unfold pDelete at *
              split at hl
              · split at hl
                · exact hm _ _ hl
                · exact hl.elim
              · split at hl
                · split at hl
                  · exact hm _ _ hl
                  · exact hm _ _ hl
                  · exact hl.elim
                · exact hl.elim
              · exact hl.elim
            · exact hl.elim
          · exact hl.elim
        · exact hl.elim
      · exact hl.elim
    · split at hl
      · split at hl
        · split at hl
          · split at hl
            · unfold pClear at *
              split at hl
              · exact hm _ _ hl
              · split at hl
                · exact hm _ _ hl
                · exact storeL_mono (hm _) _ _ _ hl
              · exact hl.elim
            · exact hl.elim
          · exact hl.elim
        · exact hl.elim
      · exact hl.elim
    · exact callV.mono hl hm
    · exact hl.elim

theorem adds_loud {op : Op} (ha : addsB op = true) : quietB op = false := by
  cases op <;> first | rfl | cases ha

theorem pBox_adds {t : TypeId} {v : Value} {K : Value → Heap → Prop} (hq : pBox t v h K) : pBox t v h (fun v h' => K v h' ∧ ∃ o, h' = h.push o) := ⟨hq, _, rfl⟩

theorem lop_adds {ρ : Operand → Value} {op : Op} {K : Value → Heap → Prop} (ha : addsB op = true) (hq : lop P ρ op h K) : lop P ρ op h (fun v h' => K v h' ∧ ∃ o, h' = h.push o) := by
  cases op <;> simp only [lop] at hq ⊢ <;> try (cases ha)
  case box t v => exact pBox_adds hq
  case alloc t =>
    split at hq
    · split at hq
      · exact pBox_adds hq
      · exact hq.elim
    · exact hq.elim
  case buildSlice t len parts =>
    split at hq
    · split at hq
      · split at hq
        · split at hq
          · exact ⟨hq.1, hq.2, _, rfl⟩
          · exact hq.elim
        · exact hq.elim
      · exact hq.elim
    · exact hq.elim
  case makeSlice t l c =>
    split at hq
    · split at hq
      · split at hq
        · split at hq
          · unfold pMakeSlice at *
            split at hq
            · exact ⟨hq.1, hq.2.1, hq.2.2.1, hq.2.2.2.1, hq.2.2.2.2, _, rfl⟩
            · exact hq.elim
          · exact hq.elim
        · exact hq.elim
      · exact hq.elim
    · exact hq.elim
  case makeMap t r =>
    cases r with
    | none => exact ⟨hq, _, rfl⟩
    | some _ => exact hq.elim

/-- A quiet operation has one value. -/
def Det (T : (Value → Prop) → Prop) : Prop := ∀ K, T K → ∃ v, K v ∧ ∀ K' : Value → Prop, K' v → T K'

theorem det_one {T : (Value → Prop) → Prop} (v : Value) (h1 : ∀ K, T K → K v) (h2 : ∀ K : Value → Prop, K v → T K) : Det T :=
  fun K hK => ⟨v, h1 K hK, h2⟩

theorem det_false {T : (Value → Prop) → Prop} (hf : ∀ K, T K → False) : Det T := fun K hK => (hf K hK).elim

theorem det_pPick (c a b : Value) : Det (pPick c a b) := by
  intro K hK; unfold pPick at *; split at hK
  · exact ⟨_, hK, fun _ h => h⟩
  · exact ⟨_, hK, fun _ h => h⟩
  · exact hK.elim

theorem det_pLoad (h : Heap) (a : Value) : Det (pLoad h a) := by
  intro K hK; unfold pLoad at *; split at hK
  · split at hK
    · rename_i v hv; exact ⟨_, hK, fun _ h => h⟩
    · exact hK.elim
  · exact hK.elim

theorem det_pLoadN (n : Nat) (h : Heap) (a : Value) : Det (pLoadN n h a) := by
  intro K hK; unfold pLoadN at *; split at hK
  · split at hK
    · rename_i v hv; exact ⟨_, hK, fun _ h => h⟩
    · exact hK.elim
  · exact hK.elim

theorem det_pNil (v : Value) : Det (pNil v) := by
  intro K hK; unfold pNil at *; split at hK
  · exact ⟨_, hK, fun _ h => h⟩
  · exact ⟨_, hK, fun _ h => h⟩
  · exact ⟨_, hK, fun _ h => h⟩
  · exact hK.elim

theorem det_pBin (op : BinOp) (x y : Value) : Det (pBin op x y) := by
  intro K hK; unfold pBin at *
  split at hK <;> first
    | exact hK.elim
    | (obtain ⟨h1, h2, hk⟩ := hK; exact ⟨_, hk, fun _ h => ⟨h1, h2, h⟩⟩)
    | (obtain ⟨h1, hk⟩ := hK; exact ⟨_, hk, fun _ h => ⟨h1, h⟩⟩)
    | exact ⟨_, hK, fun _ h => h⟩

theorem det_pEq (neg : Bool) (d : EqK) (x y : Value) : Det (pEq neg d x y) := by
  intro K hK; unfold pEq at *
  split at hK <;> first
    | exact hK.elim
    | exact ⟨_, hK, fun _ h => h⟩

theorem det_pBinT (d : TypeDesc) (op : BinOp) (lit : Bool) (x y : Value) : Det (pBinT d op lit x y) := by
  intro K hK; unfold pBinT at *
  split at hK
  · split at hK
    · exact hK.elim
    · split at hK
      · exact det_pEq _ _ _ _ K hK
      · exact det_pEq _ _ _ _ K hK
      · exact hK.elim
  · exact det_pBin _ _ _ K hK

theorem det_pEqS (op : BinOp) (n : Nat) (x y : Value) : Det (pEqS op n x y) := by
  intro K hK; unfold pEqS at *
  split at hK
  · split at hK
    · obtain ⟨h1, h2, hk⟩ := hK
      exact ⟨_, hk, fun _ h => ⟨h1, h2, h⟩⟩
    · exact hK.elim
  · split at hK
    · obtain ⟨h1, h2, hk⟩ := hK
      exact ⟨_, hk, fun _ h => ⟨h1, h2, h⟩⟩
    · exact hK.elim
  · exact hK.elim

theorem det_pUn (op : UnOp) (x : Value) : Det (pUn op x) := by
  intro K hK; unfold pUn at *
  split at hK <;> first
    | exact hK.elim
    | exact ⟨_, hK, fun _ h => h⟩

theorem det_pConv (k : IntKind) (x : Value) : Det (pConv k x) := by
  intro K hK; unfold pConv at *
  split at hK <;> first
    | exact hK.elim
    | exact ⟨_, hK, fun _ h => h⟩

theorem det_pField (off : Nat) (x : Value) : Det (pField off x) := by
  intro K hK; unfold pField at *
  split at hK <;> first
    | exact hK.elim
    | exact ⟨_, hK, fun _ h => h⟩

theorem det_pIdx (size : Nat) (x i : Value) : Det (pIdx size x i) := by
  intro K hK; unfold pIdx at *
  split at hK <;> first
    | exact hK.elim
    | exact ⟨_, hK.2.2, fun _ h => ⟨hK.1, hK.2.1, h⟩⟩

theorem det_pIdxA (size len : Nat) (x i : Value) : Det (pIdxA size len x i) := by
  intro K hK; unfold pIdxA at *
  split at hK <;> first
    | exact hK.elim
    | exact ⟨_, hK.2.2, fun _ h => ⟨hK.1, hK.2.1, h⟩⟩

theorem det_pSlice (size : Nat) (x : Value) (lo hi mx : Option Value) : Det (pSlice size x lo hi mx) := by
  intro K hK; unfold pSlice at *
  split at hK
  · split at hK
    · obtain ⟨h1, h2, h3, h4, h5, hk⟩ := hK
      exact ⟨_, hk, fun _ h => ⟨h1, h2, h3, h4, h5, h⟩⟩
    · exact hK.elim
  · exact hK.elim

theorem det_pSliceS (x : Value) (lo hi : Option Value) : Det (pSliceS x lo hi) := by
  intro K hK; unfold pSliceS at *
  split at hK
  · split at hK
    · obtain ⟨h1, h2, h3, hk⟩ := hK
      exact ⟨_, hk, fun _ h => ⟨h1, h2, h3, h⟩⟩
    · exact hK.elim
  · exact hK.elim

theorem det_pExt (x : Value) (i : Nat) : Det (pExt x i) := by
  intro K hK; unfold pExt at *
  split at hK
  · split at hK
    · exact ⟨_, hK, fun _ h => h⟩
    · exact hK.elim
  · exact hK.elim

theorem det_pIdxV1 (len : Nat) (x i : Value) : Det (pIdxV1 len x i) := by
  intro K hK; unfold pIdxV1 at *
  split at hK
  · obtain ⟨h1, h2, h3⟩ := hK
    split at h3
    · rename_i v hv; exact ⟨_, h3, fun _ h => ⟨h1, h2, h⟩⟩
    · exact h3.elim
  · exact hK.elim

theorem det_pIdxVN (size len : Nat) (x i : Value) : Det (pIdxVN size len x i) := by
  intro K hK; unfold pIdxVN at *
  split at hK <;> first
    | exact hK.elim
    | exact ⟨_, hK.2.2, fun _ h => ⟨hK.1, hK.2.1, h⟩⟩

theorem det_pIdxS (x i : Value) : Det (pIdxS x i) := by
  intro K hK; unfold pIdxS at *
  split at hK
  · obtain ⟨h1, h3⟩ := hK
    split at h3
    · rename_i v hv; exact ⟨_, h3, fun _ h => ⟨h1, h⟩⟩
    · exact h3.elim
  · exact hK.elim

theorem det_pPart1 (off : Nat) (x : Value) : Det (pPart1 off x) := by
  intro K hK; unfold pPart1 at *
  split at hK
  · split at hK
    · exact ⟨_, hK, fun _ h => h⟩
    · exact hK.elim
  · exact hK.elim

theorem det_pPartN (off n : Nat) (x : Value) : Det (pPartN off n x) := by
  intro K hK; unfold pPartN at *
  split at hK
  · exact ⟨_, hK, fun _ h => h⟩
  · exact hK.elim

theorem det_pLen (x : Value) : Det (pLen x) := by
  intro K hK; unfold pLen at *
  split at hK
  · exact ⟨_, hK, fun _ h => h⟩
  · exact hK.elim

theorem det_pLenS (x : Value) : Det (pLenS x) := by
  intro K hK; unfold pLenS at *
  split at hK
  · exact ⟨_, hK, fun _ h => h⟩
  · exact hK.elim

theorem det_pCap (x : Value) : Det (pCap x) := by
  intro K hK; unfold pCap at *
  split at hK
  · exact ⟨_, hK, fun _ h => h⟩
  · exact hK.elim

theorem det_pLenM (h : Heap) (x : Value) : Det (pLenM h x) := by
  intro K hK; unfold pLenM at *
  split at hK
  · exact ⟨_, hK, fun _ h => h⟩
  · split at hK
    · exact ⟨_, hK, fun _ h => h⟩
    · exact hK.elim
  · exact hK.elim

theorem det_pMin (x y : Value) : Det (pMin x y) := by
  intro K hK; unfold pMin at *
  split at hK
  · exact ⟨_, hK, fun _ h => h⟩
  · exact hK.elim

theorem det_pMax (x y : Value) : Det (pMax x y) := by
  intro K hK; unfold pMax at *
  split at hK
  · exact ⟨_, hK, fun _ h => h⟩
  · exact hK.elim

theorem det_pLook (kd : TypeDesc) (zero : Value) (ok : Bool) (h : Heap) (m k : Value) : Det (pLook kd zero ok h m k) := by
  intro K hK; unfold pLook at *
  split at hK
  · split at hK
    · exact ⟨_, hK, fun _ h => h⟩
    · exact hK.elim
  · split at hK
    · split at hK
      · exact ⟨_, hK, fun _ h => h⟩
      · exact ⟨_, hK, fun _ h => h⟩
      · exact hK.elim
    · exact hK.elim
  · exact hK.elim

theorem det_pConvBS (h : Heap) (x : Value) : Det (pConvBS h x) := by
  intro K hK; unfold pConvBS at *
  split at hK
  · exact ⟨_, hK, fun _ h => h⟩
  · split at hK
    · split at hK
      · exact ⟨_, hK, fun _ h => h⟩
      · exact hK.elim
    · exact hK.elim
  · exact hK.elim

theorem det_pEntryM (h : Heap) (x : Value) : Det (pEntryM x h) := by
  intro K hK; unfold pEntryM at *
  split at hK
  · split at hK
    · split at hK
      · obtain ⟨h1, hK⟩ := hK
        split at hK
        · exact ⟨_, hK, fun _ h => ⟨h1, h⟩⟩
        · exact hK.elim
      · exact hK.elim
    · exact hK.elim
  · exact hK.elim

theorem det_pBuild (zero : List Value) (parts : List (Nat × Nat × Value)) : Det (pBuild zero parts) := by
  intro K hK; exact ⟨_, hK.2, fun _ h => ⟨hK.1, h⟩⟩

theorem det_two {T U : (Value → Prop) → Prop} {T' : Value → (Value → Prop) → Prop} (hT : Det T) (hT' : ∀ u, Det (T' u)) (hU : ∀ K, U K = T fun u => T' u K) : Det U := by
  intro K hK
  rw [hU] at hK
  obtain ⟨u, hu, h1⟩ := hT _ hK
  obtain ⟨v, hv, h2⟩ := hT' u K hu
  exact ⟨v, hv, fun K' hK' => by rw [hU]; exact h1 _ (h2 K' hK')⟩

theorem qop_det (ρ : Operand → Value) (op : Op) : Det (qop P ρ op h) := by
  intro K hq
  cases op <;> simp only [qop] at hq ⊢ <;> try exact hq.elim
  case move x => exact ⟨_, hq, fun _ h => h⟩
  case assign x => exact ⟨_, hq, fun _ h => h⟩
  case pick c a b => exact det_pPick _ _ _ K hq
  case load t a =>
    split at hq
    · split at hq
      · exact det_pLoadN _ _ _ K hq
      · exact det_pLoad _ _ K hq
    · exact hq.elim
  case nilCheck x => exact det_pNil _ K hq
  case binOp op t x y yt =>
    split at hq
    · split at hq
      · exact det_pEqS _ _ _ _ K hq
      · exact hq.elim
    · exact det_pBinT _ _ _ _ _ K hq
    · exact hq.elim
  case unOp op t x => exact det_pUn _ _ K hq
  case convert s d x =>
    split at hq
    · exact det_pConv _ _ K hq
    · split at hq
      · exact det_pConvBS _ _ K hq
      · exact hq.elim
    · exact hq.elim
  case entry it => exact det_pEntryM _ _ K hq
  case makeInterface t x =>
    split at hq
    · exact hq.elim
    · exact ⟨_, hq, fun _ h => h⟩
    · exact hq.elim
  case makeFunc fn first captured => exact ⟨_, hq, fun _ h => h⟩
  case slice t x lo hi mx =>
    split at hq
    · split at hq
      · exact det_pSlice _ _ _ _ _ K hq
      · exact hq.elim
    · split at hq
      · exact det_pSliceS _ _ _ K hq
      · exact hq.elim
    · exact hq.elim
  case fieldAddr s x f =>
    split at hq
    · split at hq
      · split at hq
        · split at hq
          · exact hq.elim
          · exact det_pField _ _ K hq
        · exact hq.elim
      · exact hq.elim
    · exact hq.elim
  case field t x f =>
    split at hq
    · split at hq
      · split at hq
        · split at hq
          · exact det_pPartN _ _ _ K hq
          · exact det_pPart1 _ _ K hq
        · exact hq.elim
      · exact hq.elim
    · exact hq.elim
  case indexAddr t x i =>
    split at hq
    · split at hq
      · exact det_pIdx _ _ _ K hq
      · exact hq.elim
    · split at hq
      · exact det_pIdxA _ _ _ _ K hq
      · exact hq.elim
    · exact hq.elim
  case index t x i =>
    split at hq
    · split at hq
      · split at hq
        · exact det_pIdxVN _ _ _ _ K hq
        · split at hq
          · exact det_pIdxV1 _ _ _ K hq
          · exact hq.elim
      · exact hq.elim
    · exact det_pIdxS _ _ K hq
    · exact hq.elim
  case lookup t m k ok =>
    split at hq
    · split at hq
      · split at hq
        · exact det_pLook _ _ _ _ _ _ K hq
        · exact hq.elim
      · exact hq.elim
    · exact hq.elim
  case extract x i => exact det_pExt _ _ K hq
  case build t parts =>
    split at hq
    · split at hq
      · split at hq
        · exact det_pBuild _ _ K hq
        · exact hq.elim
      · exact hq.elim
    · split at hq
      · exact det_pBuild _ _ K hq
      · exact hq.elim
    · exact hq.elim
  case call c =>
    split at hq
    · split at hq
      · split at hq
        · exact det_pLen _ K hq
        · exact det_pLenS _ K hq
        · exact det_pLenM _ _ K hq
        · exact ⟨_, hq, fun _ h => h⟩
        · exact hq.elim
      · exact hq.elim
    · split at hq
      · split at hq
        · exact det_pCap _ K hq
        · exact hq.elim
      · exact hq.elim
    · split at hq
      · exact det_pMin _ _ K hq
      · exact det_two (det_pMin _ _) (fun u => det_pMin u _) (fun _ => rfl) K hq
      · exact hq.elim
    · split at hq
      · exact det_pMax _ _ K hq
      · exact det_two (det_pMax _ _) (fun u => det_pMax u _) (fun _ => rfl) K hq
      · exact hq.elim
    · exact hq.elim

end
end Go.Mh

namespace Go.Mh
open Go

def WF (ro : Option Nat) : Fence := { Fence.wide with round := ro }

theorem WF_fn (ro : Option Nat) (f : FuncId) : (WF ro).fn f := trivial
theorem WF_depth (ro : Option Nat) : (WF ro).depth = none := rfl
theorem WF_calls {ro : Option Nat} {n : Nat} {P : Program} {f : FuncId} {args : Array Value} {w : World} {R : Ending → World → Prop}
    (h : CallsIn Fence.wide n P f args w R) : CallsIn (WF ro) n P f args w R := h
theorem WF_round {ro : Option Nat} {n l : Nat} {P : Program} {f : FuncId} {tmps : Array Value} {assign body : Code} {w : World} {R : Ending → World → Prop}
    (h : RoundIn Fence.wide n P l f tmps assign body w R) : RoundIn (WF ro) n P l f tmps assign body w R := h

def evA (t : Array Value) : Operand → Value
  | .tmp s => t.getD s undef
  | .const v => v
  | .global g => .pointer (some ⟨g, 0, none⟩)
  | .func f => .func (.func f) #[] #[]

theorem eval_evA (a : Act) : a.eval = evA a.tmps := by funext x; cases x <;> rfl

def putA (t : Array Value) (dst : Option Tmp) (v : Value) : Array Value :=
  match dst with
  | some d => t.setIfInBounds d v
  | none => t

theorem put_tmps (a : Act) (dst : Option Tmp) (v : Value) : (a.put dst v).tmps = putA a.tmps dst v := by cases dst <;> rfl
theorem put_defers (a : Act) (dst : Option Tmp) (v : Value) : (a.put dst v).defers = a.defers := by cases dst <;> rfl
theorem putA_size (t : Array Value) (dst : Option Tmp) (v : Value) : (putA t dst v).size = t.size := by cases dst <;> simp [putA]

def plainOp : Op → Bool
  | .defer _ | .select .. => false
  | _ => true

def AllPlain (ops : Array Oper) : Prop := ∀ (i : Nat) (o : Oper), ops[i]? = some o → plainOp o.op = true

section
variable {P : Program} {ops : Array Oper}

/-- One operation of a region, over slots and heap. -/
def opA (P : Program) (ops : Array Oper) (i : Nat) (t : Array Value) (h : Heap) (K : Array Value → Heap → Prop) : Prop :=
  match ops[i]? with
  | none => K t h
  | some o => if Region.wanted o (yielded ops t) then wpS P (execOp (evA t) o) h (nextK P fun v h' => K (putA t o.dst v) h') else K (putA t o.dst undef) h

theorem nextK_mono {K K' : Value → Heap → Prop} (hm : ∀ v h, K v h → K' v h) : ∀ n h, nextK P K n h → nextK P K' n h := by
  intro n h hk
  cases n <;> simp only [nextK] at hk ⊢
  · exact hm _ _ hk
  · exact hm _ _ hk
  · exact fun w hw => (hk w hw).mono fun _ _ ⟨v, he, hs, hk⟩ => ⟨v, he, hs, hm _ _ hk⟩
  · exact RoundH.mono hk hm

theorem opA_mono {i : Nat} {t : Array Value} {h : Heap} {K K' : Array Value → Heap → Prop} (hm : ∀ t h, K t h → K' t h) (hk : opA P ops i t h K) : opA P ops i t h K' := by
  unfold opA at *
  split
  · rename_i e; rw [e] at hk; exact hm _ _ hk
  · rename_i o e; rw [e] at hk
    dsimp only at hk
    split
    · rename_i hw; rw [if_pos hw] at hk; exact wpS_mono (nextK_mono fun v h hk => hm _ _ hk) hk
    · rename_i hw; rw [if_neg hw] at hk; exact hm _ _ hk

theorem semAt_plain {ro : Option Nat} {ρ : Operand → Value} {o : Oper} (hp : plainOp o.op = true) : Oper.semAt ro ρ o = execOp ρ o :=
  Oper.semAt_eq ro ρ o fun c hc => by rw [hc] at hp; cases hp

theorem upon_sound {ro : Option Nat} {o : Oper} {a : Act} {w : World} {Q : Exit → Act → World → Prop} {K : Value → Heap → Prop} {K' : Act → World → Prop}
    (hp : plainOp o.op = true) (hs : wpS P (execOp a.eval o) w.heap (nextK P K))
    (hk : ∀ v w', Same w w' → K v w'.heap → K' (a.put o.dst v) w') : o.wpIn (WF ro) 0 P a w K' Q := by
  refine ⟨fun f _ => WF_fn ro f, ?_⟩
  rw [semAt_plain hp]
  obtain ⟨x, w', hr, hsame, hx⟩ := wpS_run hs w rfl
  rw [hr]
  cases x <;> simp only [nextK] at hx <;> try exact hx.elim
  · exact hk _ _ hsame hx
  · exact hk _ _ hsame hx
  · refine ⟨fun h => by simp [WF_depth] at h, ?_⟩
    refine (WF_calls (hx w' rfl)).mono ?_
    rintro e w'' ⟨v, rfl, hs', hv⟩
    exact hk _ _ (hsame.trans hs') hv
  · refine ⟨fun h => by simp [WF_depth] at h, ?_⟩
    refine (WF_round (hx w' rfl)).mono ?_
    rintro e w'' ⟨v, rfl, hs', hv⟩
    exact hk _ _ (hsame.trans hs') hv

theorem opA_sound {ro : Option Nat} {i : Nat} {a : Act} {w : World} {Q : Exit → Act → World → Prop} {K : Array Value → Heap → Prop} {K' : Act → World → Prop}
    (hp : ∀ o, ops[i]? = some o → plainOp o.op = true) (hs : opA P ops i a.tmps w.heap K)
    (hk : ∀ a' w', a'.defers = a.defers → Same w w' → K a'.tmps w'.heap → K' a' w') : wpOpIn (WF ro) 0 P ops Q i K' a w := by
  unfold opA at hs
  unfold wpOpIn
  split
  · rename_i e; rw [e] at hs; exact hk _ _ rfl (.refl _) hs
  · rename_i o e
    rw [e] at hs
    dsimp only at hs
    split
    · rename_i hw; rw [if_pos hw] at hs
      rw [← eval_evA] at hs
      exact upon_sound (hp o e) hs fun v w' hs' hv => hk _ _ (put_defers _ _ _) hs' (by rw [put_tmps]; exact hv)
    · rename_i hw; rw [if_neg hw] at hs
      exact ⟨fun f _ => WF_fn ro f, hk _ _ (put_defers _ _ _) (.refl _) (by rw [put_tmps]; exact hs)⟩

/-! ### Any order -/

def anyA (P : Program) (ops : Array Oper) (Q : Array Value → Heap → Prop) : Nat → Array Bool → Array Value → Heap → Prop
  | 0, listed, t, h => Region.ready .any ops listed = [] ∧ Q t h
  | fuel + 1, listed, t, h =>
    (Region.ready .any ops listed = [] → Q t h) ∧
    ∀ i ∈ Region.ready .any ops listed, opA P ops i t h (anyA P ops Q fuel (listed.setIfInBounds i true))

theorem anyA_sound {ro : Option Nat} {Q : Exit → Act → World → Prop} {K : Array Value → Heap → Prop} (hp : AllPlain ops) :
    ∀ (fuel : Nat) (listed : Array Bool) (a : Act) (w : World), anyA P ops K fuel listed a.tmps w.heap →
      (∀ a' w', a'.defers = a.defers → Same w w' → K a'.tmps w'.heap → Q .normal a' w') → wpAnyIn (WF ro) 0 P .any ops Q fuel listed a w := by
  intro fuel
  induction fuel with
  | zero => intro listed a w hk hq; exact ⟨hk.1, hq _ _ rfl (.refl _) hk.2⟩
  | succ fuel ih =>
    intro listed a w hk hq
    refine ⟨fun hr => hq _ _ rfl (.refl _) (hk.1 hr), fun i hi => ?_⟩
    refine opA_sound (hp i) (hk.2 i hi) fun a' w' hd hs h' => ih _ a' w' h' fun a'' w'' hd' hs' h'' => hq _ _ (hd'.trans hd) (hs.trans hs') h''

/-! ### Two operations that are apart -/

theorem evA_put {t : Array Value} {dst : Option Tmp} {v : Value} {x : Operand} (hx : ∀ d, dst = some d → x ≠ .tmp d) : evA (putA t dst v) x = evA t x := by
  cases dst with
  | none => rfl
  | some d =>
    cases x with
    | tmp s =>
      have : d ≠ s := fun e => hx d rfl (e ▸ rfl)
      simp [evA, putA, Array.getElem?_setIfInBounds_ne this]
    | _ => rfl

theorem execOp_evA_put {t : Array Value} {o : Oper} {dst : Option Tmp} {v : Value} (hp : plainOp o.op = true) (hd : ∀ d, dst = some d → d ∉ o.looksAt ops) :
    execOp (evA (putA t dst v)) o = execOp (evA t) o := by
  refine execOp_congr o (fun cs b hc => by rw [hc] at hp; cases hp) fun x hx => evA_put fun d hd' hxd => hd d hd' ?_
  subst hxd
  exact List.mem_append_left _ (List.mem_filterMap.2 ⟨.tmp d, by simpa using hx, rfl⟩)

theorem wanted_evA_put {t : Array Value} {o : Oper} {dst : Option Tmp} {v : Value} (hd : ∀ d, dst = some d → d ∉ o.looksAt ops) :
    Region.wanted o (yielded ops (putA t dst v)) = Region.wanted o (yielded ops t) := by
  have := wanted_put (ops := ops) o { tmps := t, defers := [] } dst v hd
  rw [put_tmps] at this
  exact this

theorem putA_comm {t : Array Value} {x y : Option Tmp} {v u : Value} (h : ∀ d, x = some d → y ≠ some d) : putA (putA t x v) y u = putA (putA t y u) x v := by
  cases x with
  | none => rfl
  | some d =>
    cases y with
    | none => rfl
    | some e =>
      have : d ≠ e := fun he => h d rfl (he ▸ rfl)
      simp [putA, Array.setIfInBounds_comm _ _ this]

/-- What a quiet operation gives, in whatever heap that is asked. -/
def Gives (P : Program) (ops : Array Oper) (c : Nat) (v : Value) (t : Array Value) (h : Heap) : Prop :=
  ∃ o, ops[c]? = some o ∧ if Region.wanted o (yielded ops t) then rdS P (execOp (evA t) o) h = some (.value v) else v = undef

def dstOf (ops : Array Oper) (c : Nat) : Option Tmp := (ops[c]?).bind (·.dst)

theorem Gives.opA {c : Nat} {v : Value} {t : Array Value} {h : Heap} {K : Array Value → Heap → Prop} (hg : Gives P ops c v t h) (hk : K (putA t (dstOf ops c) v) h) : Mh.opA P ops c t h K := by
  obtain ⟨o, ho, hv⟩ := hg
  unfold Mh.opA
  simp only [ho, dstOf, Option.bind_some] at *
  split
  · rename_i hw; rw [if_pos hw] at hv; exact wpS_of_rdS hv hk
  · rename_i hw; rw [if_neg hw] at hv; subst hv; exact hk

def apartAt (ops : Array Oper) (c i : Nat) : Bool :=
  match ops[c]?, ops[i]? with
  | some x, some y => x.apart ops y
  | _, _ => false

theorem Gives.put {c i : Nat} {v u : Value} {t : Array Value} {h : Heap} (hp : AllPlain ops) (ha : apartAt ops c i = true) :
    Gives P ops c v (putA t (dstOf ops i) u) h ↔ Gives P ops c v t h := by
  unfold apartAt at ha
  split at ha
  · rename_i x y hx hy
    obtain ⟨_, _, h3⟩ := Oper.apart_spec ha
    unfold Gives
    simp only [hx, dstOf, hy, Option.bind_some, Option.some.injEq, exists_eq_left']
    rw [wanted_evA_put h3, execOp_evA_put (hp c x hx) h3]
  · cases ha

theorem opA_swap {c i : Nat} {v : Value} {t : Array Value} {h : Heap} {K : Array Value → Heap → Prop} (hp : AllPlain ops)
    (ha : apartAt ops c i = true) (hk : opA P ops i (putA t (dstOf ops c) v) h K) :
    opA P ops i t h (fun t' h' => (∃ u, t' = putA t (dstOf ops i) u) ∧ K (putA t' (dstOf ops c) v) h') := by
  unfold apartAt at ha
  split at ha
  · rename_i x y hx hy
    obtain ⟨h1, h2, h3⟩ := Oper.apart_spec ha
    have hpy := hp i y hy
    unfold opA at *
    simp only [hx, dstOf, hy, Option.bind_some] at hk ⊢
    rw [wanted_evA_put h1, execOp_evA_put hpy h1] at hk
    split
    · rename_i hw; rw [if_pos hw] at hk
      refine wpS_mono (nextK_mono fun u h' hk' => ⟨⟨u, rfl⟩, ?_⟩) hk
      rw [← putA_comm h2]; exact hk'
    · rename_i hw; rw [if_neg hw] at hk
      refine ⟨⟨_, rfl⟩, ?_⟩
      rw [← putA_comm h2]; exact hk
  · cases ha

end
end Go.Mh

namespace Go.Mh
open Go

def predOr (acc : List Nat) (o : Oper) : Nat :=
  o.after.toList.foldl (fun s e => bif Region.binds .any e then s ||| (2 ^ e.on ||| acc.getD e.on 0) else s) 0

def ancList : List Oper → List Nat → List Nat
  | [], acc => acc
  | o :: r, acc => ancList r (acc ++ [predOr acc o])

section
variable {P : Program} {ops : Array Oper} {ancs : List Nat}

def ancBit (ancs : List Nat) (i c : Nat) : Bool := (ancs.getD i 0).testBit c

def ancOKB (ancs : List Nat) : List Oper → Nat → Bool
  | [], _ => true
  | o :: r, i => Nat.beq (ancs.getD i 0) (predOr ancs o) && ancOKB ancs r (i + 1)

theorem predOr_bit (ancs : List Nat) (o : Oper) (c : Nat) (h : (predOr ancs o).testBit c = true) :
    ∃ e ∈ o.after, Region.binds .any e = true ∧ (c = e.on ∨ ancBit ancs e.on c = true) := by
  have key : ∀ (l : List Edge) (s : Nat), (l.foldl (fun s e => bif Region.binds .any e then s ||| (2 ^ e.on ||| ancs.getD e.on 0) else s) s).testBit c = true →
      s.testBit c = true ∨ ∃ e ∈ l, Region.binds .any e = true ∧ (c = e.on ∨ ancBit ancs e.on c = true) := by
    intro l
    induction l with
    | nil => intro s h; exact .inl h
    | cons e l ih =>
      intro s h
      rw [List.foldl_cons] at h
      rcases ih _ h with h | ⟨e', he', hb⟩
      · cases hb : Region.binds .any e with
        | false => rw [hb] at h; exact .inl h
        | true =>
          rw [hb, cond_true, Nat.testBit_or, Nat.testBit_or, Nat.testBit_two_pow] at h
          simp only [Bool.or_eq_true, decide_eq_true_eq] at h
          rcases h with h | h | h
          · exact .inl h
          · exact .inr ⟨e, List.mem_cons_self, hb, .inl h.symm⟩
          · exact .inr ⟨e, List.mem_cons_self, hb, .inr h⟩
      · exact .inr ⟨e', List.mem_cons_of_mem _ he', hb⟩
  rcases key o.after.toList 0 h with h | ⟨e, he, h⟩
  · simp at h
  · exact ⟨e, Array.mem_def.2 he, h⟩

theorem ancOKB_spec {ancs : List Nat} : ∀ (l : List Oper) (k : Nat), ancOKB ancs l k = true → ∀ (i : Nat) (o : Oper), l[i]? = some o → ancs.getD (k + i) 0 = predOr ancs o
  | [], _, _, i, o, ho => by simp at ho
  | x :: l, k, h, i, o, ho => by
    simp only [ancOKB, Bool.and_eq_true] at h
    cases i with
    | zero => simp only [List.getElem?_cons_zero, Option.some.injEq] at ho; subst ho; exact Nat.eq_of_beq_eq_true h.1
    | succ i =>
      rw [show k + (i + 1) = k + 1 + i by omega]
      exact ancOKB_spec l (k + 1) h.2 i o (by simpa using ho)

theorem anc_bit (hok : ancOKB ancs ops.toList 0 = true) {i c : Nat} {o : Oper} (ho : ops[i]? = some o) (hb : ancBit ancs i c = true) :
    ∃ e ∈ o.after, Region.binds .any e = true ∧ (c = e.on ∨ ancBit ancs e.on c = true) := by
  have h := ancOKB_spec ops.toList 0 hok i o (by simpa using ho)
  rw [Nat.zero_add] at h
  unfold ancBit at hb
  rw [h] at hb
  exact predOr_bit ancs o c hb

def quietAt (ops : Array Oper) (i : Nat) : Bool :=
  match ops[i]? with
  | some o => quietB o.op
  | none => false

/-- Every quiet operation is ordered against, or apart from, each other one. -/
def apartOK (ops : Array Oper) (ancs : List Nat) : Prop :=
  ∀ c i : Nat, c < ops.size → i < ops.size → c ≠ i → quietAt ops c = true → ancBit ancs i c = false → ancBit ancs c i = false → apartAt ops c i = true

theorem mem_ready {listed : Array Bool} {i : Nat} : i ∈ Region.ready .any ops listed ↔
    i < ops.size ∧ listed.getD i true = false ∧ ∃ o, ops[i]? = some o ∧ ∀ e ∈ o.after, Region.binds .any e = true → listed.getD e.on false = true := by
  unfold Region.ready
  simp only [List.mem_filter, List.mem_range, Bool.and_eq_true, Bool.not_eq_true']
  constructor
  · rintro ⟨h1, h2, h3⟩
    refine ⟨h1, h2, ?_⟩
    cases ho : ops[i]? with
    | none => rw [ho] at h3; simp at h3
    | some o =>
      rw [ho] at h3
      simp only [Option.map_some, Option.getD_some, Array.all_eq_true_iff_forall_mem, Bool.or_eq_true, Bool.not_eq_true'] at h3
      refine ⟨o, rfl, fun e he hb => ?_⟩
      rcases h3 e he with h | h
      · rw [hb] at h; cases h
      · exact h
  · rintro ⟨h1, h2, o, ho, h3⟩
    refine ⟨h1, h2, ?_⟩
    rw [ho]
    simp only [Option.map_some, Option.getD_some, Array.all_eq_true_iff_forall_mem, Bool.or_eq_true, Bool.not_eq_true']
    intro e he
    cases hb : Region.binds .any e with
    | false => exact .inl rfl
    | true => exact .inr (h3 e he hb)

def Closed (ops : Array Oper) (ancs : List Nat) (listed : Array Bool) : Prop :=
  listed.size = ops.size ∧ ∀ i c, listed.getD i false = true → ancBit ancs i c = true → listed.getD c false = true

theorem getD_set {listed : Array Bool} {i j : Nat} {d : Bool} (hi : i < listed.size) : (listed.setIfInBounds i true).getD j d = if i = j then true else listed.getD j d := by
  simp only [Array.getD_eq_getD_getElem?, Array.getElem?_setIfInBounds]
  split
  · rename_i e; subst e; simp [hi]
  · rfl

theorem ready_anc (hok : ancOKB ancs ops.toList 0 = true) {listed : Array Bool} {i c : Nat} (hc : Closed ops ancs listed) (hi : i ∈ Region.ready .any ops listed)
    (hb : ancBit ancs i c = true) : listed.getD c false = true := by
  obtain ⟨_, _, o, ho, h⟩ := mem_ready.1 hi
  obtain ⟨e, he, hbind, rfl | hbit⟩ := anc_bit hok ho hb
  · exact h e he hbind
  · exact hc.2 _ _ (h e he hbind) hbit

theorem ready_lt {listed : Array Bool} {i : Nat} (hi : i ∈ Region.ready .any ops listed) : i < ops.size := (mem_ready.1 hi).1

theorem ready_not {listed : Array Bool} {i : Nat} (hs : listed.size = ops.size) (hi : i ∈ Region.ready .any ops listed) : listed.getD i false = false := by
  obtain ⟨h1, h2, _⟩ := mem_ready.1 hi
  have : i < listed.size := by omega
  simpa [Array.getD_eq_getD_getElem?, this] using h2

theorem closed_set (hok : ancOKB ancs ops.toList 0 = true) {listed : Array Bool} {i : Nat} (hc : Closed ops ancs listed) (hi : i ∈ Region.ready .any ops listed) :
    Closed ops ancs (listed.setIfInBounds i true) := by
  have hl : i < listed.size := by rw [hc.1]; exact ready_lt hi
  refine ⟨by simp [hc.1], fun j c hj hb => ?_⟩
  rw [getD_set hl] at hj ⊢
  split
  · rfl
  · split at hj
    · rename_i e; subst e; exact ready_anc hok hc hi hb
    · exact hc.2 _ _ hj hb

theorem ready_set {listed : Array Bool} {i c : Nat} (hs : listed.size = ops.size) (hne : i ≠ c) (hi : i ∈ Region.ready .any ops listed) (hc : c < ops.size) :
    i ∈ Region.ready .any ops (listed.setIfInBounds c true) := by
  obtain ⟨h1, h2, o, ho, h⟩ := mem_ready.1 hi
  have hl : c < listed.size := by omega
  refine mem_ready.2 ⟨h1, ?_, o, ho, fun e he hb => ?_⟩
  · rw [getD_set hl, if_neg (fun e => hne e.symm)]; exact h2
  · rw [getD_set hl]; split
    · rfl
    · exact h e he hb

abbrev Held := List (Nat × (Heap → Prop))

def dropH (ancs : List Nat) (i : Nat) (H : Held) : Held := H.filter fun x => !ancBit ancs i x.1

theorem dropH_sub {i : Nat} {H : Held} : dropH ancs i H ⊆ H := fun _ h => (List.mem_filter.1 h).1

theorem dropH_mono {i : Nat} {H H' : Held} (h : H' ⊆ H) : dropH ancs i H' ⊆ dropH ancs i H := fun x hx => by
  obtain ⟨h1, h2⟩ := List.mem_filter.1 hx
  exact List.mem_filter.2 ⟨h h1, h2⟩

/-- Quiet operations as early as may be; loud ones in whatever order. -/
def RW (P : Program) (ops : Array Oper) (ancs : List Nat) (Q : Array Value → Heap → Prop) : Nat → Held → Array Bool → Array Value → Heap → Prop
  | 0, _, listed, t, h => Region.ready .any ops listed = [] ∧ Q t h
  | f + 1, H, listed, t, h =>
    (Region.ready .any ops listed = [] ∧ Q t h) ∨
    (∃ c v, c ∈ Region.ready .any ops listed ∧ quietAt ops c = true ∧ Gives P ops c v t h ∧
      RW P ops ancs Q f (H ++ [(c, Gives P ops c v t)]) (listed.setIfInBounds c true) (putA t (dstOf ops c) v) h) ∨
    (Region.ready .any ops listed ≠ [] ∧ ∀ i ∈ Region.ready .any ops listed,
      opA P ops i t h fun t' h' => (∀ x ∈ dropH ancs i H, x.2 h') ∧ RW P ops ancs Q f (dropH ancs i H) (listed.setIfInBounds i true) t' h')

theorem RW_sub {Q : Array Value → Heap → Prop} : ∀ (f : Nat) {H H' : Held} {listed : Array Bool} {t : Array Value} {h : Heap}, H' ⊆ H → RW P ops ancs Q f H listed t h → RW P ops ancs Q f H' listed t h
  | 0, _, _, _, _, _, _, hr => hr
  | f + 1, H, H', listed, t, h, hs, hr => by
    rcases hr with hr | ⟨c, v, hc, hq, hg, hr⟩ | ⟨hne, hr⟩
    · exact .inl hr
    · refine .inr (.inl ⟨c, v, hc, hq, hg, RW_sub f ?_ hr⟩)
      intro x hx
      rcases List.mem_append.1 hx with hx | hx
      · exact List.mem_append.2 (.inl (hs hx))
      · exact List.mem_append.2 (.inr hx)
    · refine .inr (.inr ⟨hne, fun i hi => opA_mono ?_ (hr i hi)⟩)
      rintro t' h' ⟨h1, h2⟩
      exact ⟨fun x hx => h1 x (dropH_mono hs hx), RW_sub f (dropH_mono hs) h2⟩

theorem RW_take (hok : ancOKB ancs ops.toList 0 = true) (hap : apartOK ops ancs) (hp : AllPlain ops) {Q : Array Value → Heap → Prop} :
    ∀ (f : Nat) {H : Held} {listed : Array Bool} {t : Array Value} {h : Heap} {i : Nat}, Closed ops ancs listed → RW P ops ancs Q (f + 1) H listed t h →
      i ∈ Region.ready .any ops listed → (∀ x ∈ H, x.2 h) →
      opA P ops i t h fun t' h' => (∀ x ∈ dropH ancs i H, x.2 h') ∧ RW P ops ancs Q f (dropH ancs i H) (listed.setIfInBounds i true) t' h' := by
  intro f
  induction f with
  | zero =>
    intro H listed t h i hcl hr hi hH
    rcases hr with ⟨hr, _⟩ | ⟨c, v, hc, hq, hg, hr⟩ | ⟨_, hr⟩
    · rw [hr] at hi; cases hi
    · by_cases hic : i = c
      · subst hic
        exact hg.opA ⟨fun x hx => hH x (dropH_sub hx), hr⟩
      · have := ready_set hcl.1 hic hi (ready_lt hc)
        rw [hr.1] at this; cases this
    · exact hr i hi
  | succ f ih =>
    intro H listed t h i hcl hr hi hH
    rcases hr with ⟨hr, _⟩ | ⟨c, v, hc, hq, hg, hr⟩ | ⟨_, hr⟩
    · rw [hr] at hi; cases hi
    · by_cases hic : i = c
      · subst hic
        exact hg.opA ⟨fun x hx => hH x (dropH_sub hx), RW_sub _ (fun x hx => List.mem_append.2 (.inl (dropH_sub hx))) hr⟩
      · have hci : ancBit ancs i c = false := by
          cases hb : ancBit ancs i c with
          | false => rfl
          | true => have := ready_anc hok hcl hi hb; rw [ready_not hcl.1 hc] at this; cases this
        have hic' : ancBit ancs c i = false := by
          cases hb : ancBit ancs c i with
          | false => rfl
          | true => have := ready_anc hok hcl hc hb; rw [ready_not hcl.1 hi] at this; cases this
        have ha : apartAt ops c i = true := hap c i (ready_lt hc) (ready_lt hi) (fun e => hic e.symm) hq hci hic'
        have hH' : ∀ x ∈ H ++ [(c, Gives P ops c v t)], x.2 h := by
          intro x hx
          rcases List.mem_append.1 hx with hx | hx
          · exact hH x hx
          · rw [List.mem_singleton.1 hx]; exact hg
        have := ih (closed_set hok hcl hc) hr (ready_set hcl.1 hic hi (ready_lt hc)) hH'
        refine opA_mono ?_ (opA_swap hp ha this)
        rintro t' h' ⟨⟨u, rfl⟩, hfacts, hrw⟩
        have hd : dropH ancs i (H ++ [(c, Gives P ops c v t)]) = dropH ancs i H ++ [(c, Gives P ops c v t)] := by
          unfold dropH; rw [List.filter_append]; simp [hci]
        rw [hd] at hfacts hrw
        have hg' : Gives P ops c v (putA t (dstOf ops i) u) = Gives P ops c v t := funext fun h'' => propext (Gives.put hp ha)
        refine ⟨fun x hx => hfacts x (List.mem_append.2 (.inl hx)), .inr (.inl ⟨c, v, ready_set hcl.1 (fun e => hic e.symm) hc (ready_lt hi), hq, ?_, ?_⟩)⟩
        · rw [hg']; exact hfacts _ (List.mem_append.2 (.inr (List.mem_singleton.2 rfl)))
        · rw [hg', Array.setIfInBounds_comm _ _ (fun e => hic e)]; exact hrw
    · exact hr i hi

theorem anyA_of_RW (hok : ancOKB ancs ops.toList 0 = true) (hap : apartOK ops ancs) (hp : AllPlain ops) {Q : Array Value → Heap → Prop} :
    ∀ (f : Nat) {listed : Array Bool} {t : Array Value} {h : Heap}, Closed ops ancs listed → RW P ops ancs Q f [] listed t h → anyA P ops Q f listed t h := by
  intro f
  induction f with
  | zero => intro listed t h _ hr; exact hr
  | succ f ih =>
    intro listed t h hcl hr
    refine ⟨fun he => ?_, fun i hi => opA_mono (fun t' h' hk => ih (closed_set hok hcl hi) hk.2) (RW_take hok hap hp f hcl hr hi (by simp))⟩
    rcases hr with ⟨_, hq⟩ | ⟨c, v, hc, _⟩ | ⟨hne, _⟩
    · exact hq
    · rw [he] at hc; cases hc
    · exact (hne he).elim

end
end Go.Mh

namespace Go.Mh
open Go

abbrev VEnv := List (Nat × Value)

def look : VEnv → Nat → Option Value
  | [], _ => none
  | (s, v) :: r, t => match Nat.beq s t with
    | true => some v
    | false => look r t

def ev (e : VEnv) : Operand → Value
  | .tmp t => (match look e t with
    | some v => v
    | none => undef)
  | .const v => v
  | .global g => .pointer (some ⟨g, 0, none⟩)
  | .func f => .func (.func f) #[] #[]

def knownO (e : VEnv) : Operand → Bool
  | .tmp t => (match look e t with
    | some _ => true
    | none => false)
  | _ => true

def knownL (e : VEnv) : List Operand → Bool
  | [] => true
  | x :: r => match knownO e x with
    | true => knownL e r
    | false => false

def putE (e : VEnv) (dst : Option Tmp) (v : Value) : VEnv :=
  match dst with
  | some d => (d, v) :: e
  | none => e

def dstOk (n : Nat) : Option Tmp → Bool
  | some d => Nat.blt d n
  | none => true

def Rel (e : VEnv) (t : Array Value) : Prop := ∀ s v, look e s = some v → t[s]? = some v

theorem Rel.ev {e : VEnv} {t : Array Value} (h : Rel e t) {x : Operand} (hk : knownO e x = true) : ev e x = evA t x := by
  cases x with
  | tmp s =>
    simp only [knownO] at hk
    split at hk
    · rename_i v hv
      simp [Mh.ev, evA, hv, h s v hv]
    · cases hk
  | _ => rfl

theorem knownL_mem {e : VEnv} : ∀ {l : List Operand}, knownL e l = true → ∀ x ∈ l, knownO e x = true
  | x :: r, h, y, hy => by
    simp only [knownL] at h
    split at h
    · rename_i hx
      rcases List.mem_cons.1 hy with rfl | hy
      · exact hx
      · exact knownL_mem h y hy
    · cases h

theorem Rel.put {e : VEnv} {t : Array Value} (h : Rel e t) {dst : Option Tmp} {v : Value} (hd : dstOk t.size dst = true) : Rel (putE e dst v) (putA t dst v) := by
  cases dst with
  | none => exact h
  | some d =>
    intro s u hs
    have hlt : d < t.size := Nat.le_of_ble_eq_true hd
    simp only [putE, look] at hs
    split at hs
    · rename_i he
      have := Nat.eq_of_beq_eq_true he; subst this
      simp only [Option.some.injEq] at hs; subst hs
      simp [putA, hlt]
    · rename_i he
      have hne : d ≠ s := fun h => by subst h; simp at he
      simp only [putA, Array.getElem?_setIfInBounds_ne hne]
      exact h s u hs

theorem Rel.lit {e : VEnv} {t : Array Value} (h : Rel e t) {s : Nat} {v : Value} (hs : look e s = some v) : Rel ((s, v) :: e) t := by
  intro s' u hu
  simp only [look] at hu
  split at hu
  · rename_i he
    have := Nat.eq_of_beq_eq_true he; subst this
    simp only [Option.some.injEq] at hu; subst hu
    exact h s v hs
  · exact h s' u hu

def okOp (n : Nat) (o : Oper) (e : VEnv) : Bool :=
  match plainOp o.op with
  | true => (match knownL e o.op.operands.toList with
    | true => dstOk n o.dst
    | false => false)
  | false => false

def cOp (P : Program) (n : Nat) (o : Oper) (e : VEnv) (h : Heap) (K : VEnv → Heap → Prop) : Prop :=
  match okOp n o e with
  | true => (match quietB o.op with
    | true => qop P (ev e) o.op h fun v => K (putE e o.dst v) h
    | false => lop P (ev e) o.op h fun v h' => K (putE e o.dst v) h')
  | false => False

/-- Was the operation passed over, as its own guard's slot shows in the written environment? -/
def skipB (ops : Array Oper) (e : VEnv) (j : Nat) : Bool :=
  match ops[j]? with
  | some o => (match o.guard with
    | none => false
    | some (j', want) => (match dstOf ops j' with
      | some s => (match look e s with
        | some (.bool true) => !want
        | some (.bool false) => want
        | some (.tuple _) => true
        | _ => false)
      | none => false))
  | none => false

def isU (v : Value) (X : Prop) : Prop :=
  match v with
  | .tuple _ => X
  | _ => False

def cGuard (ops : Array Oper) (o : Oper) (e : VEnv) (F : Bool → VEnv → Prop) : Prop :=
  match o.guard with
  | none => F true e
  | some (j, want) => (match dstOf ops j with
    | some s => (match look e s with
      | some v => (match skipB ops e j with
        | true => isU v (F false e)
        | false => ifV v (F want ((s, .bool true) :: e)) (F (!want) ((s, .bool false) :: e)))
      | none => False)
    | none => False)

def cStep (P : Program) (n : Nat) (ops : Array Oper) (o : Oper) (e : VEnv) (h : Heap) (K : VEnv → Heap → Prop) : Prop :=
  cGuard ops o e fun w e' => match w with
    | true => cOp P n o e' h K
    | false => (match dstOk n o.dst with
      | true => K (putE e' o.dst undef) h
      | false => False)

section
variable {P : Program} {ops : Array Oper} {n : Nat}

theorem cGuard_sound {o : Oper} {e : VEnv} {t : Array Value} {F : Bool → VEnv → Prop} (hr : Rel e t) (hg : cGuard ops o e F) :
    ∃ e', Rel e' t ∧ F (Region.wanted o (yielded ops t)) e' := by
  unfold cGuard at hg
  unfold Region.wanted
  cases hgd : o.guard with
  | none => rw [hgd] at hg; exact ⟨e, hr, hg⟩
  | some p =>
    obtain ⟨j, want⟩ := p
    rw [hgd] at hg
    dsimp only at hg ⊢
    split at hg
    · rename_i s hs
      split at hg
      · rename_i v hv
        have ht := hr s v hv
        have hy : yielded ops t j = (match v with | .bool b => some b | _ => none) := by
          unfold yielded
          unfold dstOf at hs
          rw [hs]
          simp only [Option.bind_some, ht]
          cases v <;> rfl
        split at hg
        · unfold isU at hg
          split at hg
          · refine ⟨_, hr, ?_⟩
            rw [hy]; exact hg
          · exact hg.elim
        · unfold ifV at hg
          split at hg
          · refine ⟨_, hr.lit hv, ?_⟩
            rw [hy]; cases want <;> exact hg
          · refine ⟨_, hr.lit hv, ?_⟩
            rw [hy]; cases want <;> exact hg
          · exact hg.elim
      · exact hg.elim
    · exact hg.elim

theorem okOp_parts {o : Oper} {e : VEnv} (h : okOp n o e = true) : plainOp o.op = true ∧ knownL e o.op.operands.toList = true ∧ dstOk n o.dst = true := by
  unfold okOp at h
  split at h
  · rename_i h1
    split at h
    · rename_i h2; exact ⟨h1, h2, h⟩
    · cases h
  · cases h

theorem execOp_env {o : Oper} {e : VEnv} {t : Array Value} (hr : Rel e t) (hp : plainOp o.op = true) (hk : knownL e o.op.operands.toList = true) : execOp (ev e) o = execOp (evA t) o :=
  execOp_congr o (fun cs b hc => by rw [hc] at hp; cases hp) fun x hx => hr.ev (knownL_mem hk x (by simpa using hx))

/-- What a slot holds that no operation of the region writes. -/
def Fr (ops : Array Oper) (t t' : Array Value) : Prop := t'.size = t.size ∧ ∀ s, (∀ i, dstOf ops i ≠ some s) → t'[s]? = t[s]?

theorem Fr.refl (t : Array Value) : Fr ops t t := ⟨rfl, fun _ _ => rfl⟩
theorem Fr.trans {a b c : Array Value} (h : Fr ops a b) (h' : Fr ops b c) : Fr ops a c := ⟨h'.1.trans h.1, fun s hs => (h'.2 s hs).trans (h.2 s hs)⟩
theorem Fr.put {t : Array Value} {i : Nat} {o : Oper} {v : Value} (ho : ops[i]? = some o) : Fr ops t (putA t o.dst v) := by
  refine ⟨putA_size _ _ _, fun s hs => ?_⟩
  cases hd : o.dst with
  | none => rfl
  | some d =>
    have hne : d ≠ s := fun e => hs i (by simp [dstOf, ho, hd, e])
    simp [putA, Array.getElem?_setIfInBounds_ne hne]

theorem cStep_sound {i : Nat} {o : Oper} {e : VEnv} {t : Array Value} {h : Heap} {K : VEnv → Heap → Prop} (ho : ops[i]? = some o) (hr : Rel e t) (hn : t.size = n)
    (hc : cStep P n ops o e h K) : opA P ops i t h fun t' h' => Fr ops t t' ∧ ∃ e', Rel e' t' ∧ K e' h' := by
  unfold cStep at hc
  obtain ⟨e', hr', hc⟩ := cGuard_sound hr hc
  unfold opA
  rw [ho]
  dsimp only
  cases hw : Region.wanted o (yielded ops t) with
  | true =>
    rw [hw] at hc
    simp only [if_true]
    unfold cOp at hc
    dsimp only at hc
    split at hc
    · rename_i hok
      obtain ⟨hp, hk, hd⟩ := okOp_parts hok
      rw [← hn] at hd
      rw [← execOp_env hr' hp hk]
      split at hc
      · obtain ⟨v, hv, hK⟩ := qop_sound hc
        exact wpS_of_rdS hv ⟨Fr.put ho, _, hr'.put hd, hK⟩
      · exact wpS_mono (nextK_mono fun v h' hK => ⟨Fr.put ho, _, hr'.put hd, hK⟩) (lop_sound hc)
    · exact hc.elim
  | false =>
    rw [hw] at hc
    simp only [Bool.false_eq_true, if_false]
    dsimp only at hc
    split at hc
    · rename_i hd
      rw [← hn] at hd
      exact ⟨Fr.put ho, _, hr'.put hd, hc⟩
    · exact hc.elim

/-- A loud operation that only adds a block. -/
theorem cStep_adds {o : Oper} {e : VEnv} {h : Heap} {K : VEnv → Heap → Prop} (ha : addsB o.op = true) (hc : cStep P n ops o e h K) :
    cStep P n ops o e h fun e' h' => K e' h' ∧ (h' = h ∨ ∃ x, h' = h.push x) := by
  have hF : ∀ (w : Bool) (e' : VEnv), (match w with
      | true => cOp P n o e' h K
      | false => (match dstOk n o.dst with
        | true => K (putE e' o.dst undef) h
        | false => False)) → (match w with
      | true => cOp P n o e' h fun e' h' => K e' h' ∧ (h' = h ∨ ∃ x, h' = h.push x)
      | false => (match dstOk n o.dst with
        | true => K (putE e' o.dst undef) h ∧ (h = h ∨ ∃ x, h = h.push x)
        | false => False)) := by
    intro w e' hx
    cases w with
    | true =>
      dsimp only at hx ⊢
      unfold cOp at *
      split at hx
      · split at hx
        · rename_i hq; rw [adds_loud ha] at hq; cases hq
        · exact lop_mono (fun v h' hk => ⟨hk.1, .inr hk.2⟩) (lop_adds ha hx)
      · exact hx.elim
    | false =>
      dsimp only at hx ⊢
      split at hx
      · exact ⟨hx, .inl rfl⟩
      · exact hx.elim
  unfold cStep at *
  unfold cGuard at *
  split at hc
  · exact hF true e hc
  · rename_i j want _
    split at hc
    · rename_i s _
      split at hc
      · split at hc
        · unfold isU at *
          split at hc
          · exact hF false e hc
          · exact hc.elim
        · unfold ifV at *
          split at hc
          · exact hF want ((s, .bool true) :: e) hc
          · exact hF (!want) ((s, .bool false) :: e) hc
          · exact hc.elim
      · exact hc.elim
    · exact hc.elim

/-! ### A region in the text's order -/

def cSeq (P : Program) (n : Nat) (ops : Array Oper) : List Oper → VEnv → Heap → (VEnv → Heap → Prop) → Prop
  | [], e, h, K => K e h
  | o :: r, e, h, K => cStep P n ops o e h fun e' h' => cSeq P n ops r e' h' K

def opsA (P : Program) (ops : Array Oper) (Q : Array Value → Heap → Prop) : List Nat → Array Value → Heap → Prop
  | [], t, h => Q t h
  | i :: r, t, h => opA P ops i t h (opsA P ops Q r)

theorem opsA_sound {ro : Option Nat} {Q : Exit → Act → World → Prop} {K : Array Value → Heap → Prop} (hp : AllPlain ops) : ∀ (l : List Nat) (a : Act) (w : World),
    opsA P ops K l a.tmps w.heap → (∀ a' w', a'.defers = a.defers → Same w w' → K a'.tmps w'.heap → Q .normal a' w') → wpOpsIn (WF ro) 0 P ops Q l a w
  | [], a, w, hk, hq => hq _ _ rfl (.refl _) hk
  | i :: r, a, w, hk, hq => by
    rw [wpOpsIn_cons]
    exact opA_sound (hp i) hk fun a' w' hd hs hk' => opsA_sound hp r a' w' hk' fun a'' w'' hd' hs' hk'' => hq _ _ (hd'.trans hd) (hs.trans hs') hk''

theorem cSeq_sound : ∀ (l : List Oper) (k : Nat) {e : VEnv} {t : Array Value} {h : Heap} {K : VEnv → Heap → Prop}, ops.toList.drop k = l → Rel e t → t.size = n →
    cSeq P n ops l e h K → opsA P ops (fun t' h' => Fr ops t t' ∧ ∃ e', Rel e' t' ∧ K e' h') ((List.range ops.size).drop k) t h
  | [], k, e, t, h, K, hl, hr, hn, hc => by
    have : ops.size ≤ k := by
      have := congrArg List.length hl; simp at this; omega
    rw [List.drop_eq_nil_of_le (by simpa using this)]
    exact ⟨.refl _, e, hr, hc⟩
  | o :: r, k, e, t, h, K, hl, hr, hn, hc => by
    have hk : k < ops.size := by
      have := congrArg List.length hl; simp at this; omega
    have ho : ops[k]? = some o := by
      have : (ops.toList.drop k)[0]? = some o := by rw [hl]; rfl
      simpa using this
    have hl' : ops.toList.drop (k + 1) = r := by
      rw [← List.drop_drop, hl]; rfl
    have hd : (List.range ops.size).drop k = k :: (List.range ops.size).drop (k + 1) := by
      rw [List.drop_eq_getElem_cons (by simpa using hk)]; simp
    rw [hd]
    refine opA_mono ?_ (cStep_sound ho hr hn hc)
    rintro t' h' ⟨hf, e', hr', hc'⟩
    have := cSeq_sound r (k + 1) hl' hr' (hf.1.trans hn) hc'
    have mono : ∀ (l : List Nat) (t : Array Value) (h : Heap) {K K' : Array Value → Heap → Prop}, (∀ t h, K t h → K' t h) → opsA P ops K l t h → opsA P ops K' l t h := by
      intro l
      induction l with
      | nil => intro t h K K' hm hk; exact hm _ _ hk
      | cons i r ih => intro t h K K' hm hk; exact opA_mono (fun t h => ih t h hm) hk
    exact mono _ _ _ (fun t'' h'' ⟨hf', hx⟩ => ⟨hf.trans hf', hx⟩) this

end
end Go.Mh

namespace Go.Mh
open Go

def predMask (o : Oper) : Nat := o.after.toList.foldl (fun s e => bif Region.binds .any e then s ||| 2 ^ e.on else s) 0

def readyM (o : Oper) (i listed : Nat) : Bool :=
  match Nat.testBit listed i with
  | true => false
  | false => Nat.beq (predMask o &&& listed) (predMask o)

/-- The first quiet operation that may go now. -/
def firstQuiet (listed : Nat) : List Oper → Nat → Option (Nat × Oper)
  | [], _ => none
  | o :: r, i => match quietB o.op with
    | true => (match readyM o i listed with
      | true => some (i, o)
      | false => firstQuiet listed r (i + 1))
    | false => firstQuiet listed r (i + 1)

def allReady (listed : Nat) : List Oper → Nat → List (Nat × Oper)
  | [], _ => []
  | o :: r, i => match readyM o i listed with
    | true => (i, o) :: allReady listed r (i + 1)
    | false => allReady listed r (i + 1)

abbrev HeldE := List (Nat × Oper × VEnv × Value)

def dropE (anc : Nat) : HeldE → HeldE
  | [] => []
  | x :: r => match Nat.testBit anc x.1 with
    | true => dropE anc r
    | false => x :: dropE anc r

def recheck (P : Program) (h : Heap) : HeldE → Prop → Prop
  | [], R => R
  | x :: r, R => qop P (ev x.2.2.1) x.2.1.op h (fun v => v = x.2.2.2) ∧ recheck P h r R

def allOf {α : Type} (F : α → Prop) : List α → Prop
  | [] => True
  | [x] => F x
  | x :: y :: r => F x ∧ allOf F (y :: r)

def cDrawn (P : Program) (n : Nat) (ops : Array Oper) (ancs : List Nat) : Nat → Nat → HeldE → VEnv → Heap → (VEnv → Heap → Prop) → Prop
  | 0, listed, _, e, h, K => (match allReady listed ops.toList 0 with
    | [] => K e h
    | _ => False)
  | f + 1, listed, H, e, h, K =>
    match firstQuiet listed ops.toList 0 with
    | some (c, o) => cGuard ops o e fun w e' => (match w with
      | true => (match okOp n o e' with
        | true => qop P (ev e') o.op h fun v => cDrawn P n ops ancs f (listed ||| 2 ^ c) (match pureB P o.op with
          | true => H
          | false => H ++ [(c, o, e', v)]) (putE e' o.dst v) h K
        | false => False)
      | false => (match dstOk n o.dst with
        | true => cDrawn P n ops ancs f (listed ||| 2 ^ c) H (putE e' o.dst undef) h K
        | false => False))
    | none => (match allReady listed ops.toList 0 with
      | [] => K e h
      | l => allOf (fun (x : Nat × Oper) => cStep P n ops x.2 e h fun e' h' => (match addsB x.2.op with
        | true => cDrawn P n ops ancs f (listed ||| 2 ^ x.1) (dropE (ancs.getD x.1 0) H) e' h' K
        | false => recheck P h' (dropE (ancs.getD x.1 0) H) (cDrawn P n ops ancs f (listed ||| 2 ^ x.1) (dropE (ancs.getD x.1 0) H) e' h' K))) l)

section
variable {P : Program} {ops : Array Oper} {n : Nat} {ancs : List Nat}

/-- Mask and row of marks. -/
def LR (ops : Array Oper) (listed : Nat) (lA : Array Bool) : Prop := lA.size = ops.size ∧ ∀ j, lA.getD j false = listed.testBit j

theorem LR.set {listed : Nat} {lA : Array Bool} {i : Nat} (h : LR ops listed lA) (hi : i < ops.size) : LR ops (listed ||| 2 ^ i) (lA.setIfInBounds i true) := by
  refine ⟨by simp [h.1], fun j => ?_⟩
  rw [getD_set (by rw [h.1]; exact hi), Nat.testBit_or, Nat.testBit_two_pow, ← h.2 j]
  by_cases e : i = j <;> simp [e]

theorem predMask_bit (o : Oper) (c : Nat) : (predMask o).testBit c = true ↔ ∃ e ∈ o.after, Region.binds .any e = true ∧ e.on = c := by
  have key : ∀ (l : List Edge) (s : Nat), (l.foldl (fun s e => bif Region.binds .any e then s ||| 2 ^ e.on else s) s).testBit c = true ↔
      s.testBit c = true ∨ ∃ e ∈ l, Region.binds .any e = true ∧ e.on = c := by
    intro l
    induction l with
    | nil => intro s; simp
    | cons e l ih =>
      intro s
      rw [List.foldl_cons, ih]
      cases hb : Region.binds .any e with
      | false => simp [hb]
      | true =>
        simp only [cond_true, Nat.testBit_or, Nat.testBit_two_pow, Bool.or_eq_true, decide_eq_true_eq, List.mem_cons, exists_eq_or_imp, hb, true_and]
        constructor
        · rintro ((h | h) | h)
          · exact .inl h
          · exact .inr (.inl h)
          · exact .inr (.inr h)
        · rintro (h | h | h)
          · exact .inl (.inl h)
          · exact .inl (.inr h)
          · exact .inr h
  unfold predMask
  rw [key, Nat.zero_testBit]
  simp only [Bool.false_eq_true, false_or, ← Array.mem_def]

theorem readyM_iff {listed : Nat} {lA : Array Bool} {i : Nat} {o : Oper} (h : LR ops listed lA) (ho : ops[i]? = some o) : readyM o i listed = true ↔ i ∈ Region.ready .any ops lA := by
  have hi : i < ops.size := (Array.getElem?_eq_some_iff.1 ho).1
  rw [mem_ready]
  have hd : lA.getD i true = listed.testBit i := by
    rw [← h.2 i]
    have : i < lA.size := by rw [h.1]; exact hi
    simp [Array.getD_eq_getD_getElem?, this]
  unfold readyM
  constructor
  · intro hr
    split at hr
    · cases hr
    · rename_i hb
      refine ⟨hi, by rw [hd, hb], o, ho, fun e he hbind => ?_⟩
      have heq := Nat.eq_of_beq_eq_true hr
      have : (predMask o).testBit e.on = true := (predMask_bit o e.on).2 ⟨e, he, hbind, rfl⟩
      rw [← heq, Nat.testBit_and, Bool.and_eq_true] at this
      rw [h.2]; exact this.2
  · rintro ⟨_, h2, o', ho', h3⟩
    rw [ho] at ho'; cases ho'
    rw [hd] at h2
    rw [h2]
    dsimp only
    have : predMask o &&& listed = predMask o := by
      apply Nat.eq_of_testBit_eq
      intro j
      rw [Nat.testBit_and]
      cases hb : (predMask o).testBit j with
      | false => rfl
      | true =>
        obtain ⟨e, he, hbind, rfl⟩ := (predMask_bit o j).1 hb
        rw [← h.2, h3 e he hbind]; rfl
    rw [this]; exact Nat.beq_refl _

theorem firstQuiet_spec {listed : Nat} : ∀ (l : List Oper) (k : Nat) {c : Nat} {o : Oper}, firstQuiet listed l k = some (c, o) →
    k ≤ c ∧ l[c - k]? = some o ∧ quietB o.op = true ∧ readyM o c listed = true
  | [], k, c, o, h => by cases h
  | x :: l, k, c, o, h => by
    have step : firstQuiet listed l (k + 1) = some (c, o) → k ≤ c ∧ (x :: l)[c - k]? = some o ∧ quietB o.op = true ∧ readyM o c listed = true := by
      intro h
      obtain ⟨h1, h2, h3, h4⟩ := firstQuiet_spec l (k + 1) h
      refine ⟨by omega, ?_, h3, h4⟩
      rw [show c - k = (c - (k + 1)) + 1 by omega]; simpa using h2
    simp only [firstQuiet] at h
    split at h
    · rename_i hq
      split at h
      · rename_i hr
        simp only [Option.some.injEq, Prod.mk.injEq] at h
        obtain ⟨rfl, rfl⟩ := h
        exact ⟨Nat.le_refl _, by simp, hq, hr⟩
      · exact step h
    · exact step h

theorem allReady_spec {listed : Nat} : ∀ (l : List Oper) (k : Nat) (c : Nat) (o : Oper), (c, o) ∈ allReady listed l k ↔
    k ≤ c ∧ l[c - k]? = some o ∧ readyM o c listed = true
  | [], k, c, o => by simp [allReady]
  | x :: l, k, c, o => by
    have ih := allReady_spec (listed := listed) l (k + 1) c o
    have tail : (c, o) ∈ allReady listed l (k + 1) ↔ k < c ∧ (x :: l)[c - k]? = some o ∧ readyM o c listed = true := by
      rw [ih]
      constructor
      · rintro ⟨h1, h2, h3⟩
        refine ⟨by omega, ?_, h3⟩
        rw [show c - k = (c - (k + 1)) + 1 by omega]; simpa using h2
      · rintro ⟨h1, h2, h3⟩
        refine ⟨by omega, ?_, h3⟩
        rw [show c - k = (c - (k + 1)) + 1 by omega] at h2; simpa using h2
    simp only [allReady]
    split
    · rename_i hr
      rw [List.mem_cons, tail]
      constructor
      · rintro (h | ⟨h1, h2, h3⟩)
        · simp only [Prod.mk.injEq] at h
          obtain ⟨rfl, rfl⟩ := h
          exact ⟨Nat.le_refl _, by simp, hr⟩
        · exact ⟨by omega, h2, h3⟩
      · rintro ⟨h1, h2, h3⟩
        rcases Nat.lt_or_ge k c with hlt | hge
        · exact .inr ⟨hlt, h2, h3⟩
        · have : c = k := by omega
          subst this
          simp at h2; subst h2; exact .inl rfl
    · rename_i hr
      rw [tail]
      constructor
      · rintro ⟨h1, h2, h3⟩; exact ⟨by omega, h2, h3⟩
      · rintro ⟨h1, h2, h3⟩
        rcases Nat.lt_or_ge k c with hlt | hge
        · exact ⟨hlt, h2, h3⟩
        · have : c = k := by omega
          subst this
          simp at h2; subst h2; rw [h3] at hr; cases hr

theorem allOf_mem {α : Type} {F : α → Prop} : ∀ {l : List α}, allOf F l → ∀ x ∈ l, F x
  | [x], h, y, hy => by rw [List.mem_singleton.1 hy]; exact h
  | x :: y :: r, h, z, hz => by
    rcases List.mem_cons.1 hz with rfl | hz
    · exact h.1
    · exact allOf_mem h.2 z hz

theorem recheck_spec {h : Heap} {R : Prop} : ∀ {H : HeldE}, recheck P h H R → R ∧ ∀ x ∈ H, qop P (ev x.2.2.1) x.2.1.op h (fun v => v = x.2.2.2)
  | [], hr => ⟨hr, by simp⟩
  | x :: H, hr => by
    obtain ⟨h1, h2⟩ := recheck_spec hr.2
    exact ⟨h1, fun y hy => by
      rcases List.mem_cons.1 hy with rfl | hy
      · exact hr.1
      · exact h2 y hy⟩

theorem mem_dropE {anc : Nat} : ∀ {H : HeldE} {x : Nat × Oper × VEnv × Value}, x ∈ dropE anc H ↔ x ∈ H ∧ anc.testBit x.1 = false
  | [], x => by simp [dropE]
  | y :: H, x => by
    simp only [dropE]
    split
    · rename_i hb
      rw [mem_dropE, List.mem_cons]
      constructor
      · rintro ⟨h1, h2⟩; exact ⟨.inr h1, h2⟩
      · rintro ⟨rfl | h1, h2⟩
        · rw [hb] at h2; cases h2
        · exact ⟨h1, h2⟩
    · rename_i hb
      rw [List.mem_cons, mem_dropE, List.mem_cons]
      constructor
      · rintro (rfl | ⟨h1, h2⟩)
        · exact ⟨.inl rfl, hb⟩
        · exact ⟨.inr h1, h2⟩
      · rintro ⟨rfl | h1, h2⟩
        · exact .inl rfl
        · exact .inr ⟨h1, h2⟩

/-- What the text's list of held operations is to the theorem's. -/
def HR (P : Program) (H : HeldE) (HA : Held) : Prop :=
  ∀ x ∈ HA, (∀ h, x.2 h) ∨ ∃ y ∈ H, y.1 = x.1 ∧ ∀ h, qop P (ev y.2.2.1) y.2.1.op h (fun v => v = y.2.2.2) → x.2 h

theorem HR.drop {H : HeldE} {HA : Held} {i : Nat} (hh : HR P H HA) : HR P (dropE (ancs.getD i 0) H) (dropH ancs i HA) := by
  intro x hx
  obtain ⟨hx1, hx2⟩ := List.mem_filter.1 hx
  rcases hh x hx1 with h | ⟨y, hy, he, h⟩
  · exact .inl h
  · refine .inr ⟨y, mem_dropE.2 ⟨hy, ?_⟩, he, h⟩
    rw [he]
    simpa [ancBit] using hx2

def QK (ops : Array Oper) (K : VEnv → Heap → Prop) (t₀ : Array Value) : Array Value → Heap → Prop :=
  fun t h => Fr ops t₀ t ∧ ∃ e, Rel e t ∧ K e h

theorem quietAt_of {c : Nat} {o : Oper} (ho : ops[c]? = some o) (hq : quietB o.op = true) : quietAt ops c = true := by
  simp [quietAt, ho, hq]

theorem cDrawn_sound {K : VEnv → Heap → Prop} {t₀ : Array Value} : ∀ (f : Nat) {listed : Nat} {lA : Array Bool} {H : HeldE} {HA : Held} {e : VEnv} {t : Array Value} {h : Heap},
    LR ops listed lA → HR P H HA → (∀ x ∈ H, qop P (ev x.2.2.1) x.2.1.op h (fun v => v = x.2.2.2)) → Rel e t → t.size = n → Fr ops t₀ t →
    cDrawn P n ops ancs f listed H e h K → RW P ops ancs (QK ops K t₀) f HA lA t h
  | 0, listed, lA, H, HA, e, t, h, hl, hh, hfacts, hr, hn, hfr, hc => by
    unfold cDrawn at hc
    split at hc
    · rename_i hnone
      refine ⟨?_, hfr, e, hr, hc⟩
      apply List.eq_nil_iff_forall_not_mem.2
      intro i hi
      obtain ⟨_, _, o, ho, _⟩ := mem_ready.1 hi
      have : (i, o) ∈ allReady listed ops.toList 0 := (allReady_spec _ _ _ _).2 ⟨Nat.zero_le _, by simpa using ho, (readyM_iff hl ho).2 hi⟩
      rw [hnone] at this; cases this
    · exact hc.elim
  | f + 1, listed, lA, H, HA, e, t, h, hl, hh, hfacts, hr, hn, hfr, hc => by
    unfold cDrawn at hc
    split at hc
    · rename_i c o hfq
      obtain ⟨_, ho, hq, hrd⟩ := firstQuiet_spec _ _ hfq
      have ho : ops[c]? = some o := by simpa using ho
      have hready := (readyM_iff hl ho).1 hrd
      obtain ⟨e', hr', hc⟩ := cGuard_sound hr hc
      have hcs : c < ops.size := ready_lt hready
      have hdst : dstOf ops c = o.dst := by simp [dstOf, ho]
      cases hw : Region.wanted o (yielded ops t) with
      | true =>
        rw [hw] at hc
        dsimp only at hc
        split at hc
        · rename_i hok
          obtain ⟨hp, hk, hd⟩ := okOp_parts hok
          rw [← hn] at hd
          obtain ⟨v, hK, hall⟩ := qop_det _ _ _ hc
          have hg : ∀ h', qop P (ev e') o.op h' (fun u => u = v) → Gives P ops c v t h' := by
            intro h' hq'
            obtain ⟨u, hu, rfl⟩ := qop_sound hq'
            refine ⟨o, ho, ?_⟩
            rw [if_pos hw, ← execOp_env hr' hp hk]; exact hu
          have hqv : qop P (ev e') o.op h (fun u => u = v) := hall _ rfl
          have hHA : HR P (match pureB P o.op with
            | true => H
            | false => H ++ [(c, o, e', v)]) (HA ++ [(c, Gives P ops c v t)]) := by
            intro x hx
            rcases List.mem_append.1 hx with hx | hx
            · rcases hh x hx with hx | ⟨y, hy, he, hx⟩
              · exact .inl hx
              · refine .inr ⟨y, ?_, he, hx⟩
                split
                · exact hy
                · exact List.mem_append.2 (.inl hy)
            · rw [List.mem_singleton.1 hx]
              split
              · rename_i hpure; exact .inl fun h' => hg h' (qop_pure hpure hqv)
              · exact .inr ⟨(c, o, e', v), List.mem_append.2 (.inr (List.mem_singleton.2 rfl)), rfl, fun h' => hg h'⟩
          have hF : ∀ x ∈ (match pureB P o.op with
            | true => H
            | false => H ++ [(c, o, e', v)]), qop P (ev x.2.2.1) x.2.1.op h (fun u => u = x.2.2.2) := by
            intro x hx
            split at hx
            · exact hfacts x hx
            · rcases List.mem_append.1 hx with hx | hx
              · exact hfacts x hx
              · rw [List.mem_singleton.1 hx]; exact hqv
          have hrw := cDrawn_sound f (hl.set hcs) hHA hF (hr'.put hd) (by rw [putA_size]; exact hn) (hfr.trans (Fr.put ho)) hK
          exact .inr (.inl ⟨c, v, hready, quietAt_of ho hq, hg h hqv, by rw [hdst]; exact hrw⟩)
        · exact hc.elim
      | false =>
        rw [hw] at hc
        dsimp only at hc
        split at hc
        · rename_i hd
          rw [← hn] at hd
          have hg : ∀ h', Gives P ops c undef t h' := fun h' => ⟨o, ho, by rw [hw]; simp⟩
          have hHA : HR P H (HA ++ [(c, Gives P ops c undef t)]) := by
            intro x hx
            rcases List.mem_append.1 hx with hx | hx
            · exact hh x hx
            · rw [List.mem_singleton.1 hx]; exact .inl hg
          have hrw := cDrawn_sound f (hl.set hcs) hHA hfacts (hr'.put hd) (by rw [putA_size]; exact hn) (hfr.trans (Fr.put ho)) hc
          exact .inr (.inl ⟨c, undef, hready, quietAt_of ho hq, hg h, by rw [hdst]; exact hrw⟩)
        · exact hc.elim
    · split at hc
      · rename_i hnone
        refine .inl ⟨?_, hfr, e, hr, hc⟩
        apply List.eq_nil_iff_forall_not_mem.2
        intro i hi
        obtain ⟨_, _, o, ho, _⟩ := mem_ready.1 hi
        have : (i, o) ∈ allReady listed ops.toList 0 := (allReady_spec _ _ _ _).2 ⟨Nat.zero_le _, by simpa using ho, (readyM_iff hl ho).2 hi⟩
        rw [hnone] at this; cases this
      · rename_i l hne
        have key : ∀ i ∈ Region.ready .any ops lA, opA P ops i t h fun t' h' => (∀ x ∈ dropH ancs i HA, x.2 h') ∧ RW P ops ancs (QK ops K t₀) f (dropH ancs i HA) (lA.setIfInBounds i true) t' h' := by
          intro i hi
          obtain ⟨_, _, o, ho, _⟩ := mem_ready.1 hi
          have hmem : (i, o) ∈ allReady listed ops.toList 0 := (allReady_spec _ _ _ _).2 ⟨Nat.zero_le _, by simpa using ho, (readyM_iff hl ho).2 hi⟩
          have hx := allOf_mem hc (i, o) hmem
          have his : i < ops.size := ready_lt hi
          have fin : ∀ (e' : VEnv) (t' : Array Value) (h' : Heap), Fr ops t t' → Rel e' t' → (∀ x ∈ dropE (ancs.getD i 0) H, qop P (ev x.2.2.1) x.2.1.op h' (fun v => v = x.2.2.2)) →
              cDrawn P n ops ancs f (listed ||| 2 ^ i) (dropE (ancs.getD i 0) H) e' h' K →
              (∀ x ∈ dropH ancs i HA, x.2 h') ∧ RW P ops ancs (QK ops K t₀) f (dropH ancs i HA) (lA.setIfInBounds i true) t' h' := by
            intro e' t' h' hf hr' hF hcd
            have hrw := cDrawn_sound f (hl.set his) (HR.drop hh) hF hr' (hf.1.trans hn) (hfr.trans hf) hcd
            refine ⟨fun x hx => ?_, hrw⟩
            rcases HR.drop (ancs := ancs) (i := i) hh x hx with h1 | ⟨y, hy, _, h1⟩
            · exact h1 h'
            · exact h1 h' (hF y hy)
          cases hadd : addsB o.op with
          | true =>
            have hx : cStep P n ops o e h fun e' h' => cDrawn P n ops ancs f (listed ||| 2 ^ i) (dropE (ancs.getD i 0) H) e' h' K := by
              dsimp only at hx; rw [hadd] at hx; exact hx
            refine opA_mono ?_ (cStep_sound ho hr hn (cStep_adds hadd hx))
            rintro t' h' ⟨hf, e', hr', hcd, hpush⟩
            refine fin e' t' h' hf hr' ?_ hcd
            intro x hx
            have := hfacts x (mem_dropE.1 hx).1
            rcases hpush with rfl | ⟨y, rfl⟩
            · exact this
            · exact qop_push this
          | false =>
            have hx : cStep P n ops o e h fun e' h' => recheck P h' (dropE (ancs.getD i 0) H) (cDrawn P n ops ancs f (listed ||| 2 ^ i) (dropE (ancs.getD i 0) H) e' h' K) := by
              dsimp only at hx; rw [hadd] at hx; exact hx
            refine opA_mono ?_ (cStep_sound ho hr hn hx)
            rintro t' h' ⟨hf, e', hr', hcd⟩
            obtain ⟨h1, h2⟩ := recheck_spec hcd
            exact fin e' t' h' hf hr' h2 h1
        by_cases hre : Region.ready .any ops lA = []
        · refine .inl ⟨hre, ?_⟩
          exfalso
          cases hl2 : allReady listed ops.toList 0 with
          | nil => exact hne hl2
          | cons x r =>
            obtain ⟨i, o⟩ := x
            have hm : (i, o) ∈ allReady listed ops.toList 0 := by rw [hl2]; exact List.mem_cons_self
            obtain ⟨_, ho, hrd⟩ := (allReady_spec _ _ _ _).1 hm
            have := (readyM_iff hl (by simpa using ho)).1 hrd
            rw [hre] at this; cases this
        · exact .inr (.inr ⟨hre, key⟩)

end
end Go.Mh

namespace Go.Mh
open Go

/-! ### A drawn region's check -/

def chk1 (ops : Array Oper) (ancs : List Nat) (x : Oper) (i ai : Nat) : List Oper → Nat → Bool
  | [], _ => true
  | y :: r, j => (Nat.beq i j || (Nat.testBit ai j || (Nat.testBit (ancs.getD j 0) i || x.apart ops y))) && chk1 ops ancs x i ai r (j + 1)

def chk (ops : Array Oper) (ancs : List Nat) : List Oper → Nat → Bool
  | [], _ => true
  | x :: r, i => (match quietB x.op with
    | true => chk1 ops ancs x i (ancs.getD i 0) ops.toList 0
    | false => true) && chk ops ancs r (i + 1)

def plainL : List Oper → Bool
  | [] => true
  | o :: r => plainOp o.op && plainL r

def drawOK (ops : Array Oper) (ancs : List Nat) : Bool := ancOKB ancs ops.toList 0 && chk ops ancs ops.toList 0

section
variable {P : Program} {ops : Array Oper} {ancs : List Nat}

theorem chk1_spec {x : Oper} {i ai : Nat} : ∀ (l : List Oper) (k : Nat), chk1 ops ancs x i ai l k = true → ∀ (j : Nat) (y : Oper), l[j]? = some y →
    i = k + j ∨ ai.testBit (k + j) = true ∨ (ancs.getD (k + j) 0).testBit i = true ∨ x.apart ops y = true
  | [], _, _, j, y, hy => by simp at hy
  | z :: l, k, h, j, y, hy => by
    simp only [chk1, Bool.and_eq_true, Bool.or_eq_true] at h
    cases j with
    | zero =>
      simp only [List.getElem?_cons_zero, Option.some.injEq] at hy; subst hy
      rcases h.1 with h | h | h | h
      · exact .inl (Nat.eq_of_beq_eq_true h)
      · exact .inr (.inl h)
      · exact .inr (.inr (.inl h))
      · exact .inr (.inr (.inr h))
    | succ j =>
      have := chk1_spec l (k + 1) h.2 j y (by simpa using hy)
      rw [show k + (j + 1) = k + 1 + j by omega]; exact this

theorem chk_spec : ∀ (l : List Oper) (k : Nat), chk ops ancs l k = true → ∀ (i : Nat) (x : Oper), l[i]? = some x → quietB x.op = true →
    chk1 ops ancs x (k + i) (ancs.getD (k + i) 0) ops.toList 0 = true
  | [], _, _, i, x, hx => by simp at hx
  | z :: l, k, h, i, x, hx => by
    intro hq
    simp only [chk, Bool.and_eq_true] at h
    cases i with
    | zero =>
      simp only [List.getElem?_cons_zero, Option.some.injEq] at hx; subst hx
      have := h.1; rw [hq] at this; exact this
    | succ i =>
      have := chk_spec l (k + 1) h.2 i x (by simpa using hx) hq
      rw [show k + (i + 1) = k + 1 + i by omega]; exact this

theorem apartOK_of (h : chk ops ancs ops.toList 0 = true) : apartOK ops ancs := by
  intro c i hc hi hne hq h1 h2
  unfold quietAt at hq
  split at hq
  · rename_i x hx
    obtain ⟨y, hy⟩ : ∃ y, ops[i]? = some y := ⟨_, Array.getElem?_eq_getElem hi⟩
    have := chk1_spec _ _ (chk_spec _ _ h c x (by simpa using hx) hq) i y (by simpa using hy)
    simp only [Nat.zero_add] at this
    unfold apartAt
    rw [hx, hy]
    dsimp only
    rcases this with h | h | h | h
    · exact (hne h).elim
    · unfold ancBit at h2; rw [h2] at h; cases h
    · unfold ancBit at h1; rw [h1] at h; cases h
    · exact h
  · cases hq

theorem plainL_spec : ∀ {l : List Oper}, plainL l = true → ∀ (i : Nat) (o : Oper), l[i]? = some o → plainOp o.op = true
  | [], _, i, o, ho => by simp at ho
  | x :: l, h, i, o, ho => by
    simp only [plainL, Bool.and_eq_true] at h
    cases i with
    | zero => simp only [List.getElem?_cons_zero, Option.some.injEq] at ho; subst ho; exact h.1
    | succ i => exact plainL_spec h.2 i o (by simpa using ho)

theorem allPlain_of (h : plainL ops.toList = true) : AllPlain ops := fun i o ho => plainL_spec h i o (by simpa using ho)

end

/-! ### Loops -/

/-- The least fixed point: what is reached by rounds that end. -/
def LoopH {σ : Type} (B : σ → Heap → (σ → Heap → Prop) → Prop) (x : σ) (h : Heap) : Prop :=
  ∀ Z : σ → Heap → Prop, (∀ x h, B x h Z → Z x h) → Z x h

def Vals : List Nat → Type
  | [] => Unit
  | _ :: r => Value × Vals r

def bindV : (l : List Nat) → Vals l → VEnv → VEnv
  | [], _, e => e
  | s :: r, x, e => (s, x.1) :: bindV r x.2 e

def takeV (e : VEnv) : (l : List Nat) → (Vals l → Prop) → Prop
  | [], K => K ()
  | s :: r, K => (match look e s with
    | some v => takeV e r fun x => K (v, x)
    | none => False)

def memN (s : Nat) : List Nat → Bool
  | [] => false
  | x :: r => match Nat.beq x s with
    | true => true
    | false => memN s r

def keepE (drop : List Nat) : VEnv → VEnv
  | [] => []
  | x :: r => match memN x.1 drop with
    | true => keepE drop r
    | false => x :: keepE drop r

def dstsL : List Oper → List Nat
  | [] => []
  | o :: r => match o.dst with
    | some d => d :: dstsL r
    | none => dstsL r

/-- The slots that a piece of code may write (a range over a function writes none of this frame's). -/
def writes : Code → List Nat
  | .region _ ops _ => dstsL ops.toList
  | .seq a b => writes a ++ writes b
  | .cond _ a b => writes a ++ writes b
  | .block _ a => writes a
  | .loop a => writes a
  | .scope a => writes a
  | _ => []

def noRange : Code → Bool
  | .seq a b => noRange a && noRange b
  | .cond _ a b => noRange a && noRange b
  | .block _ a => noRange a
  | .loop a => noRange a
  | .scope a => noRange a
  | .rangeFunc .. => false
  | _ => true

/-- What the program beside the code says of its loops. -/
inductive Ann where
  | leaf
  | one (a : Ann)
  | two (a b : Ann)
  | cut (slots : List Nat) (a b : Ann)
  | loop (slots : List Nat) (a : Ann)

/-- A loop over a function, in its block. -/
def lo (L : Loop) (st : LoopState) (p : Option Code) : Obj := .loop { L with state := st, pending := p }

def yieldV (l : Nat) : Value := .func (.yield l) #[] #[]

def lookK : List (Nat × (Heap → Prop)) → Nat → Heap → Prop
  | [], _, _ => False
  | (i, K) :: r, id, h => match Nat.beq i id with
    | true => K h
    | false => lookK r id h

def jumpK (Kn Kr : Heap → Prop) (Ks : List (Nat × (Heap → Prop))) (h : Heap) : Option Code → Prop
  | none => Kn h
  | some .ret => Kr h
  | some (.exit id) => lookK Ks id h
  | some _ => False

def listV : (l : List Nat) → Vals l → List Value
  | [], _ => []
  | _ :: r, x => x.1 :: listV r x.2

def roundK (l : Nat) (L : Loop) (K : Value → Heap → Prop) (ex : Exit) (h : Heap) : Prop :=
  ∃ p, h[l]? = some (lo L .busy p) ∧ match ex with
    | .normal => K (.bool true) (h.setIfInBounds l (lo L .ready none))
    | .ret => K (.bool false) (h.setIfInBounds l (lo L .done (some .ret)))
    | .exit id => K (.bool false) (h.setIfInBounds l (lo L .done (some (.exit id))))
    | _ => False

/-- The call of a function that is no yield. -/
def callF (P : Program) (v : Value) (args : Array Value) (h : Heap) (K : Value → Heap → Prop) : Prop :=
  match v with
  | .func (.func f) first captured => CallsH P f (first ++ args ++ captured) h K
  | _ => False

/-- The beginning of a round. -/
def beginR (l : Nat) (L : Loop) (h : Heap) (K : Heap → Prop) : Prop :=
  ∃ p, h[l]? = some (lo L .ready p) ∧ K (h.setIfInBounds l (lo L .busy p))

/-- A range over a function: whatever the loop's record L is, if yield with it does what the body does, the call of the function ends well. -/
def rangeH (P : Program) (fv : Value) (ps : List Nat) (l : Nat) (h0 : Heap) (B : Loop → Vals ps → Heap → (Exit → Heap → Prop) → Prop) (Kn Kr : Heap → Prop) (Ks : List (Nat × (Heap → Prop))) : Prop :=
  ∀ L : Loop, (∀ (x : Vals ps) (h : Heap) (R : Value → Heap → Prop) (st : LoopState) (p : Option Code), h[l]? = some (lo L st p) →
      B L x h (roundK l L R) → callV P (yieldV l) (listV ps x).toArray h R) →
    callF P fv #[yieldV l] (h0.push (lo L .ready none)) fun _ h' => ∃ st p, st ≠ .busy ∧ h'[l]? = some (lo L st p) ∧ jumpK Kn Kr Ks (h'.setIfInBounds l (lo L .exhausted p)) p

def dropN (id : Nat) : List Nat → List Nat
  | [] => []
  | x :: r => match Nat.beq x id with
    | true => dropN id r
    | false => x :: dropN id r

/-- The blocks that a piece of code may leave for. -/
def exits : Code → List Nat
  | .exit id => [id]
  | .seq a b => exits a ++ exits b
  | .cond _ a b => exits a ++ exits b
  | .block id a => dropN id (exits a)
  | .loop a => exits a
  | _ => []

def ltAll (n : Nat) : List Nat → Bool
  | [] => true
  | x :: r => Nat.blt x n && ltAll n r

def zipV : (l : List Nat) → Vals l → VEnv → VEnv
  | [], _, e => e
  | s :: r, x, e => zipV r x.2 ((s, x.1) :: e)

/-- What comes behind a piece of code, said once. -/
def cutP {σ : Type} (A : (σ → Heap → Prop) → Prop) (B : σ → Heap → Prop) : Prop := A B

def compile (P : Program) (n : Nat) (ro : Bool) : Code → Ann → VEnv → List Nat → Heap → (Exit → VEnv → List Nat → Heap → Prop) → Prop
  | .skip, _, e, m, h, K => K .normal e m h
  | .label _, _, e, m, h, K => K .normal e m h
  | .ret, _, e, m, h, K => K .ret e m h
  | .exit id, _, e, m, h, K => K (.exit id) e m h
  | .seq a b, .two x y, e, m, h, K => compile P n ro a x e m h fun ex e' m' h' => (match ex with
    | .normal => compile P n ro b y e' m' h' K
    | ex => K ex e' m' h')
  | .seq a b, .cut slots x y, e, m, h, K => (match noRange a with
    | true => cutP (fun J => compile P n ro a x e m h fun ex e' m' h' => (match ex with
      | .normal => takeV e' slots fun v => J v h'
      | ex => K ex e' m' h')) (fun v h' => compile P n ro b y (bindV slots v (keepE (slots ++ writes a) e)) m h' K)
    | false => False)
  | .cond c a b, .two x y, e, m, h, K => (match knownO e c with
    | true => ifV (ev e c) (compile P n ro a x e m h K) (compile P n ro b y e m h K)
    | false => False)
  | .block id a, .one x, e, m, h, K => compile P n ro a x e m h fun ex e' m' h' => (match ex with
    | .exit id' => (match Nat.beq id' id with
      | true => K .normal e' m' h'
      | false => K (.exit id') e' m' h')
    | ex => K ex e' m' h')
  | .scope a, .one x, e, m, h, K => compile P n ro a x e m h fun ex e' m' h' => (match ex with
    | .goto _ => False
    | ex => K ex e' m' h')
  | .loop a, .loop slots x, e, m, h, K => (match noRange a with
    | true => takeV e slots fun x0 => LoopH (fun v h Z => compile P n ro a x (bindV slots v (keepE (slots ++ writes a) e)) m h fun ex e' m' h' => (match ex with
      | .normal => takeV e' slots fun v' => Z v' h'
      | ex => K ex e' m' h')) x0 h
    | false => takeV e slots fun x0 => LoopH (fun (v : List Nat × Vals slots) h Z => compile P n ro a x (bindV slots v.2 (keepE (slots ++ writes a) e)) v.1 h fun ex e' m' h' => (match ex with
      | .normal => takeV e' slots fun v' => Z (m', v') h'
      | ex => K ex e' m' h')) (m, x0) h)
  | .region _ ops draw, _, e, m, h, K => (match plainL ops.toList with
    | true => (match draw with
      | false => cSeq P n ops ops.toList e h fun e' h' => K .normal e' m h'
      | true => (match drawOK ops (ancList ops.toList []) with
        | true => cDrawn P n ops (ancList ops.toList []) ops.size 0 [] e h fun e' h' => K .normal e' m h'
        | false => False))
    | false => False)
  | .rangeFunc f params assign body, .two x y, e, m, h, K => (match knownO e f with
    | true => (match ro with
      | false => (match ltAll n params.toList with
        | true => rangeH P (ev e f) params.toList (h.size + 1) (h.push (.deferred (some [])))
          (fun L v h' R => compile P n true assign x (zipV params.toList v e) [] h' fun ex e1 m1 h1 => (match ex with
            | .normal => beginR (h.size + 1) L h1 fun h2 => compile P n true body y e1 m1 h2 fun ex' _ _ h3 => R ex' h3
            | _ => False)) (fun h' => K .normal e (h.size :: m) h') (fun h' => K .ret e (h.size :: m) h') ((exits body).map fun id => (id, fun h' => K (.exit id) e (h.size :: m) h'))
        | false => False)
      | true => False)
    | false => False)
  | _, _, _, _, _, _ => False

end Go.Mh

namespace Go.Mh
open Go

def marks (m : List Nat) : List Deferred := m.map fun D => { target := .collected D, args := #[] }

section
variable {P : Program}

theorem memN_append {s : Nat} : ∀ {a b : List Nat}, memN s (a ++ b) = (memN s a || memN s b)
  | [], b => by simp [memN]
  | x :: a, b => by
    simp only [List.cons_append, memN]
    split
    · rfl
    · exact memN_append

theorem memN_dsts {s : Nat} : ∀ (l : List Oper), memN s (dstsL l) = false → ∀ o ∈ l, o.dst ≠ some s
  | [], _, o, ho => by cases ho
  | x :: l, h, o, ho => by
    have hx : x.dst ≠ some s ∧ memN s (dstsL l) = false := by
      simp only [dstsL] at h
      split at h
      · rename_i d hd
        simp only [memN] at h
        split at h
        · cases h
        · rename_i hb
          refine ⟨fun e => ?_, h⟩
          rw [hd] at e; cases e
          rw [Nat.beq_refl] at hb; cases hb
      · rename_i hd
        exact ⟨(fun e => by rw [hd] at e; cases e), h⟩
    rcases List.mem_cons.1 ho with rfl | ho
    · exact hx.1
    · exact memN_dsts l hx.2 o ho

section
variable {b : Frame} {a : Act} {k : List Item} {cs : List Frame} {w : World} {Q : Exit → Act → World → Prop} {F : World → Prop} {n : Nat}
theorem stepR_scope {c : Code} : step P (lone (b.atR a (.code (.scope c) :: k)) cs w) = .next (lone (b.atR a (.code c :: .inScope c :: k)) cs w) :=
  step_lone_go (by simp [stepG, stepG.exec, Frame.atR])
theorem stepR_inScope {c : Code} : step P (lone (b.atR a (.inScope c :: k)) cs w) = .next (lone (b.atR a k) cs w) :=
  step_lone_go (by simp [stepG, stepG.exec, Frame.atR])
end

/-- A scope that no jump leaves. -/
def noJump (Q : Exit → Act → World → Prop) : Exit → Act → World → Prop
  | .goto _, _, _ => False
  | ex, a, w => Q ex a w

def FrW (c : Code) (t t' : Array Value) : Prop := ∀ s, memN s (writes c) = false → t'[s]? = t[s]?

theorem look_bindV {slots : List Nat} {e : VEnv} : ∀ {x : Vals slots} {s : Nat} {v : Value}, look (bindV slots x e) s = some v → memN s slots = true ∨ look e s = some v := by
  induction slots with
  | nil => intro x s v h; exact .inr h
  | cons d r ih =>
    intro x s v h
    simp only [bindV, look] at h
    simp only [memN]
    split at h
    · rename_i hb; first | exact .inl rfl | (rw [hb]; exact .inl rfl)
    · rename_i hb; first | exact ih h | (rw [hb]; exact ih h)

theorem look_keepE {drop : List Nat} : ∀ {e : VEnv} {s : Nat} {v : Value}, look (keepE drop e) s = some v → memN s drop = false ∧ look e s = some v
  | [], s, v, h => by cases h
  | (d, u) :: e, s, v, h => by
    simp only [keepE] at h
    split at h
    · rename_i hd
      obtain ⟨h1, h2⟩ := look_keepE h
      refine ⟨h1, ?_⟩
      simp only [look]
      split
      · rename_i hb
        have := Nat.eq_of_beq_eq_true hb; subst this
        rw [hd] at h1; cases h1
      · exact h2
    · rename_i hd
      simp only [look] at h ⊢
      split at h
      · rename_i hb
        have := Nat.eq_of_beq_eq_true hb; subst this
        exact ⟨hd, h⟩
      · exact look_keepE h

/-- Values taken out of what is known are bound again. -/
theorem takeV_bind {t : Array Value} {e' : VEnv} (hr : Rel e' t) : ∀ {slots : List Nat} {F : Vals slots → Prop}, takeV e' slots F →
    ∃ v, F v ∧ ∀ e, Rel e t → Rel (bindV slots v e) t := by
  intro slots
  induction slots with
  | nil => intro F h; exact ⟨(), h, fun e he => he⟩
  | cons s r ih =>
    intro F h
    simp only [takeV] at h
    split at h
    · rename_i v hv
      obtain ⟨x, hx, hb⟩ := ih h
      refine ⟨(v, x), hx, fun e he => ?_⟩
      intro s' u hu
      simp only [bindV, look] at hu
      split at hu
      · rename_i hbq
        have := Nat.eq_of_beq_eq_true hbq; subst this
        simp only [Option.some.injEq] at hu; subst hu
        exact hr s v hv
      · exact hb e he s' u hu
    · exact h.elim

theorem keepE_rel {drop : List Nat} {e : VEnv} {t t' : Array Value} (hr : Rel e t) (hf : ∀ s, memN s drop = false → t'[s]? = t[s]?) : Rel (keepE drop e) t' := fun s v h => by
  obtain ⟨h1, h2⟩ := look_keepE h
  rw [hf s h1]; exact hr s v h2

/-- Arrival at the head of a loop's round. -/
def wpHead (ro : Option Nat) (P : Program) (c : Code) (Q : Exit → Act → World → Prop) (a : Act) (w : World) : Prop :=
  ∀ (b : Frame) (k : List Item) (cs : List Frame), b.roundOf = (WF ro).round → (WF ro).fn b.fn → (WF ro).room (cs.length + 1 + 0) →
    ∃ e a' w', Q e a' w' ∧ ArrivesIn (Machine.fenced P (WF ro)) P (lone (b.atR a (.code c :: .inLoop c :: k)) cs w) b k cs e a' w'

theorem loop_of_head {ro : Option Nat} {c : Code} {Q : Exit → Act → World → Prop} {a : Act} {w : World} (h : wpHead ro P c Q a w) : (Code.loop c).wpIn (WF ro) 0 P Q a w := by
  intro b k cs hro hb hr
  obtain ⟨e, a', w', hq, harr⟩ := h b k cs hro hb hr
  exact ⟨e, a', w', hq, .of_steps (.one (fenced_calm hb hr rfl) stepR_loop) harr⟩

theorem head_of_round {ro : Option Nat} {c : Code} {Q : Exit → Act → World → Prop} {a : Act} {w : World}
    (h : c.wpIn (WF ro) 0 P (Exit.then (wpHead ro P c Q) Q) a w) : wpHead ro P c Q a w := by
  intro b k cs hro hb hr
  obtain ⟨e, a₁, w₁, hq, harr⟩ := h b (.inLoop c :: k) cs hro hb hr
  cases e with
  | normal =>
    obtain ⟨e₂, a₂, w₂, hq₂, harr₂⟩ := hq b k cs hro hb hr
    exact ⟨e₂, a₂, w₂, hq₂, .of_steps (StepsIn.trans harr (.one (fenced_calm hb hr rfl) stepR_inLoop)) harr₂⟩
  | exit id => exact ⟨_, a₁, w₁, hq, .pass (x := .inLoop c) rfl (fun _ _ => .inl (by simp)) harr⟩
  | goto l => exact ⟨_, a₁, w₁, hq, .pass (x := .inLoop c) rfl (fun _ _ => .inl (by simp)) harr⟩
  | ret => exact ⟨_, a₁, w₁, hq, .pass (x := .inLoop c) rfl (fun _ _ => .inl (by simp)) harr⟩
  | panic ch => exact ⟨_, a₁, w₁, hq, .pass (x := .inLoop c) rfl (fun _ _ => .inl (by simp)) harr⟩
  | outgrown => exact ⟨_, a₁, w₁, hq, .pass (x := .inLoop c) rfl (fun _ _ => .inl (by simp)) harr⟩

theorem rel_zip {n : Nat} : ∀ (ps : List Nat) (x : Vals ps) {e : VEnv} {t : Array Value}, Rel e t → t.size = n → ltAll n ps = true →
    Rel (zipV ps x e) ((ps.zip (listV ps x)).foldl (fun t (x : Nat × Value) => t.setIfInBounds x.1 x.2) t) ∧ ((ps.zip (listV ps x)).foldl (fun t (x : Nat × Value) => t.setIfInBounds x.1 x.2) t).size = n
  | [], x, e, t, hr, hn, _ => ⟨hr, hn⟩
  | s :: ps, x, e, t, hr, hn, hl => by
    simp only [ltAll, Bool.and_eq_true] at hl
    have := hr.put (dst := some s) (v := x.1) (by rw [hn]; exact hl.1)
    simp only [zipV, listV, List.zip_cons_cons, List.foldl_cons]
    exact rel_zip ps x.2 this (by simpa using hn) hl.2

theorem listV_length : ∀ (l : List Nat) (x : Vals l), (listV l x).length = l.length
  | [], _ => rfl
  | _ :: r, x => by simp [listV, listV_length r x.2]

theorem lookK_mem {F : Nat → Heap → Prop} : ∀ {l : List Nat} {id : Nat} {h : Heap}, lookK (l.map fun i => (i, F i)) id h → F id h
  | i :: l, id, h, hk => by
    simp only [List.map_cons, lookK] at hk
    split at hk
    · rename_i hb; have := Nat.eq_of_beq_eq_true hb; subst this; exact hk
    · exact lookK_mem hk

theorem getLoop_run {w : World} {l : Nat} {L : Loop} (h : w.heap[l]? = some (.loop L)) : (Instr.getLoop l).run P w = .ok L w := by
  refine rdS_run (h := w.heap) ?_ w rfl
  unfold Instr.getLoop
  rw [rdS_bind (a := .loop L) (by simp [getObj, rdS, h])]; rfl

theorem rdS_getLoop {h : Heap} {l : Nat} {L : Loop} (hl : h[l]? = some (.loop L)) : rdS P (Instr.getLoop l) h = some L := by
  unfold Instr.getLoop
  rw [rdS_bind (a := .loop L) (by simp [getObj, rdS, hl])]; rfl

theorem wpS_setLoop {h : Heap} {l : Nat} {L : Loop} {o : Obj} {K : Unit → Heap → Prop} (hl : h[l]? = some (.loop L)) (hk : K () (h.setIfInBounds l o)) : wpS P (setObj l o) h K := by
  simp [setObj, wpS, hl]; exact hk

theorem begin_wp {h : Heap} {l : Nat} {L : Loop} {p : Option Code} {K : Unit → Heap → Prop} (hl : h[l]? = some (lo L .ready p)) (hk : K () (h.setIfInBounds l (lo L .busy p))) :
    wpS P (Instr.beginRound l) h K := by
  unfold Instr.beginRound
  refine wpS_rd (rdS_getLoop hl) ?_
  refine wpS_bind (wpS_setLoop hl ?_)
  exact hk

theorem endRound_wp {h : Heap} {l : Nat} {L : Loop} {p : Option Code} {jump : Option Code} {K : Value → Heap → Prop} (hl : h[l]? = some (lo L .busy p))
    (hk : K (.bool jump.isNone) (h.setIfInBounds l (lo L (if jump.isNone then .ready else .done) jump))) : wpS P (Instr.endRound l jump) h K := by
  unfold Instr.endRound
  refine wpS_rd (rdS_getLoop hl) ?_
  refine wpS_bind (wpS_setLoop hl ?_)
  exact hk

theorem endLoop_wp {h : Heap} {l : Nat} {L : Loop} {st : LoopState} {p : Option Code} {K : Option Code → Heap → Prop} (hl : h[l]? = some (lo L st p)) (hs : st ≠ .busy)
    (hk : K p (h.setIfInBounds l (lo L .exhausted p))) : wpS P (Instr.endLoop l) h K := by
  unfold Instr.endLoop
  refine wpS_rd (rdS_getLoop hl) ?_
  have : ((({ L with state := st, pending := p } : Loop).state == .busy) = true) = False := by
    simp [hs]
  rw [if_neg (by rw [this]; exact id)]
  refine wpS_bind (wpS_setLoop hl ?_)
  exact hk

theorem wpIn_scope {F : Fence} {n : Nat} {c : Code} {a : Act} {w : World} {Q : Exit → Act → World → Prop} (h : c.wpIn F n P (noJump Q) a w) : (Code.scope c).wpIn F n P Q a w := by
  intro b k cs hro hb hr
  have h0 : (lone (b.atR a (.code (.scope c) :: k)) cs w).fenced P F := fenced_calm hb hr rfl
  obtain ⟨e, a₁, w₁, hq, harr⟩ := h b (.inScope c :: k) cs hro hb hr
  cases e with
  | normal => exact ⟨.normal, a₁, w₁, hq, .head h0 stepR_scope (StepsIn.trans harr (.one (fenced_calm hb hr rfl) stepR_inScope))⟩
  | exit id' =>
    have hx : exitTo id' (.inScope c :: k) = exitTo id' k := by simp [exitTo]
    exact ⟨.exit id', a₁, w₁, hq, fun k' hk => .head h0 stepR_scope (harr.1 k' (by rw [hx]; exact hk)),
      fun hr' hk => let ⟨k₁, h1, h2⟩ := harr.2 hr' (by rw [hx]; exact hk); ⟨k₁, h1, .head h0 stepR_scope h2⟩⟩
  | goto l => exact hq.elim
  | ret => exact ⟨_, a₁, w₁, hq, .of_steps (.one h0 stepR_scope) harr⟩
  | panic ch => exact ⟨_, a₁, w₁, hq, .of_steps (.one h0 stepR_scope) harr⟩
  | outgrown => exact ⟨_, a₁, w₁, hq, .of_steps (.one h0 stepR_scope) harr⟩

theorem compile_sound {n : Nat} : ∀ (c : Code) (ann : Ann) (ro : Option Nat) (e : VEnv) (m : List Nat) (h : Heap) (K : Exit → VEnv → List Nat → Heap → Prop),
    compile P n ro.isSome c ann e m h K → (P.follows .mixedOrders = true) → ∀ (ds : List Deferred) (a : Act) (w : World) (Q : Exit → Act → World → Prop), Rel e a.tmps → a.tmps.size = n → a.defers = marks m ++ ds → w.heap = h →
    (∀ ex e' m' a' w', Rel e' a'.tmps → a'.tmps.size = n → a'.defers = marks m' ++ ds → Same w w' → (noRange c = true → m' = m) → FrW c a.tmps a'.tmps → K ex e' m' w'.heap → Q ex a' w') →
    c.wpIn (WF ro) 0 P Q a w := by
  intro c
  induction c with
  | skip => intro ann ro e m h K hc hf ds a w Q hr hn hd hw hq; subst hw; exact wpIn_skip (hq _ _ _ _ _ hr hn hd (.refl _) (fun _ => rfl) (fun _ _ => rfl) hc)
  | label l => intro ann ro e m h K hc hf ds a w Q hr hn hd hw hq; subst hw; exact wpIn_label (hq _ _ _ _ _ hr hn hd (.refl _) (fun _ => rfl) (fun _ _ => rfl) hc)
  | ret => intro ann ro e m h K hc hf ds a w Q hr hn hd hw hq; subst hw; exact wpIn_ret (hq _ _ _ _ _ hr hn hd (.refl _) (fun _ => rfl) (fun _ _ => rfl) hc)
  | exit id => intro ann ro e m h K hc hf ds a w Q hr hn hd hw hq; subst hw; exact wpIn_exit (hq _ _ _ _ _ hr hn hd (.refl _) (fun _ => rfl) (fun _ _ => rfl) hc)
  | goto l => intro ann ro e m h K hc; exact hc.elim
  | scope x ih =>
    intro ann ro e m h K hc hf ds a w Q hr hn hd hw hq
    cases ann <;> try exact hc.elim
    rename_i ax
    refine wpIn_scope (ih ax ro e m h _ hc hf ds a w _ hr hn hd hw ?_)
    intro ex e' m' a' w' hr' hn' hd' hs' hnr hfr hk
    have post : ∀ ex', K ex' e' m' w'.heap → Q ex' a' w' := fun ex' hk' =>
      hq ex' e' m' a' w' hr' hn' hd' hs' (fun h => hnr h) (fun s hs => hfr s hs) hk'
    cases ex with
    | exit id' => exact post _ hk
    | normal => exact post _ hk
    | goto l => exact hk.elim
    | ret => exact post _ hk
    | panic ch => exact post _ hk
    | outgrown => exact post _ hk
  | refuse why => intro ann ro e m h K hc; exact hc.elim
  | seq x y ihx ihy =>
    intro ann ro e m h K hc hf ds a w Q hr hn hd hw hq
    cases ann <;> try exact hc.elim
    · rename_i ax ay
      refine wpIn_seq (ihx ax ro e m h _ hc hf ds a w _ hr hn hd hw ?_)
      intro ex e' m' a' w' hr' hn' hd' hs' hnr hfr hk
      have post : ∀ ex', K ex' e' m' w'.heap → (∀ (h : ex' = .normal), False) → Q ex' a' w' := by
        intro ex' hk' _
        refine hq ex' e' m' a' w' hr' hn' hd' hs' ?_ ?_ hk'
        · intro h; simp only [noRange, Bool.and_eq_true] at h; exact hnr h.1
        · intro s hs; simp only [writes, memN_append, Bool.or_eq_false_iff] at hs; exact hfr s hs.1
      cases ex with
      | normal =>
        refine ihy ay ro e' m' w'.heap K hk hf ds a' w' Q hr' hn' hd' rfl ?_
        intro ex2 e2 m2 a2 w2 hr2 hn2 hd2 hs2 hnr2 hfr2 hk2
        refine hq ex2 e2 m2 a2 w2 hr2 hn2 hd2 (hs'.trans hs2) ?_ ?_ hk2
        · intro h; simp only [noRange, Bool.and_eq_true] at h; rw [hnr2 h.2, hnr h.1]
        · intro s hs; simp only [writes, memN_append, Bool.or_eq_false_iff] at hs; rw [hfr2 s hs.2, hfr s hs.1]
      | exit id => exact post _ hk (by simp)
      | goto l => exact post _ hk (by simp)
      | ret => exact post _ hk (by simp)
      | panic ch => exact post _ hk (by simp)
      | outgrown => exact post _ hk (by simp)
    · rename_i slots ax ay
      simp only [compile] at hc
      split at hc
      · rename_i hno
        refine wpIn_seq (ihx ax ro e m h _ hc hf ds a w _ hr hn hd hw ?_)
        intro ex e' m' a' w' hr' hn' hd' hs' hnr hfr hk
        have hm2 : m' = m := hnr hno
        subst hm2
        have post : ∀ ex', K ex' e' m' w'.heap → Q ex' a' w' := by
          intro ex' hk'
          refine hq ex' e' m' a' w' hr' hn' hd' hs' (fun _ => rfl) ?_ hk'
          intro s hs; simp only [writes, memN_append, Bool.or_eq_false_iff] at hs; exact hfr s hs.1
        cases ex with
        | normal =>
          obtain ⟨v, hB, hbind⟩ := takeV_bind hr' hk
          refine ihy ay ro _ m' w'.heap K hB hf ds a' w' Q (hbind _ (keepE_rel hr fun s hs => ?_)) hn' hd' rfl ?_
          · rw [memN_append, Bool.or_eq_false_iff] at hs
            exact hfr s hs.2
          · intro ex2 e2 m2 a2 w2 hr2 hn2 hd2 hs2 hnr2 hfr2 hk2
            refine hq ex2 e2 m2 a2 w2 hr2 hn2 hd2 (hs'.trans hs2) ?_ ?_ hk2
            · intro h; simp only [noRange, Bool.and_eq_true] at h; exact hnr2 h.2
            · intro s hs; simp only [writes, memN_append, Bool.or_eq_false_iff] at hs; rw [hfr2 s hs.2, hfr s hs.1]
        | exit id => exact post _ hk
        | goto l => exact post _ hk
        | ret => exact post _ hk
        | panic ch => exact post _ hk
        | outgrown => exact post _ hk
      · exact hc.elim
  | cond c x y ihx ihy =>
    intro ann ro e m h K hc hf ds a w Q hr hn hd hw hq
    cases ann <;> try exact hc.elim
    rename_i ax ay
    simp only [compile] at hc
    split at hc
    · rename_i hk
      have he : a.eval c = ev e c := by rw [eval_evA, hr.ev hk]
      unfold ifV at hc
      split at hc
      · rename_i hv
        refine wpIn_cond_true (he.trans hv) (ihx ax ro e m h K hc hf ds a w Q hr hn hd hw ?_)
        intro ex e' m' a' w' hr' hn' hd' hs' hnr hfr hk'
        refine hq ex e' m' a' w' hr' hn' hd' hs' ?_ ?_ hk'
        · intro h; simp only [noRange, Bool.and_eq_true] at h; exact hnr h.1
        · intro s hs; simp only [writes, memN_append, Bool.or_eq_false_iff] at hs; exact hfr s hs.1
      · rename_i hv
        refine wpIn_cond_false (he.trans hv) (ihy ay ro e m h K hc hf ds a w Q hr hn hd hw ?_)
        intro ex e' m' a' w' hr' hn' hd' hs' hnr hfr hk'
        refine hq ex e' m' a' w' hr' hn' hd' hs' ?_ ?_ hk'
        · intro h; simp only [noRange, Bool.and_eq_true] at h; exact hnr h.2
        · intro s hs; simp only [writes, memN_append, Bool.or_eq_false_iff] at hs; exact hfr s hs.2
      · exact hc.elim
    · exact hc.elim
  | block id x ih =>
    intro ann ro e m h K hc hf ds a w Q hr hn hd hw hq
    cases ann <;> try exact hc.elim
    rename_i ax
    refine wpIn_block (ih ax ro e m h _ hc hf ds a w _ hr hn hd hw ?_)
    intro ex e' m' a' w' hr' hn' hd' hs' hnr hfr hk
    have post : ∀ ex', K ex' e' m' w'.heap → Q ex' a' w' := fun ex' hk' =>
      hq ex' e' m' a' w' hr' hn' hd' hs' (fun h => hnr h) (fun s hs => hfr s hs) hk'
    cases ex with
    | exit id' =>
      dsimp only at hk
      show if id' = id then Q .normal a' w' else Q (.exit id') a' w'
      split at hk
      · rename_i hb; rw [if_pos (Nat.eq_of_beq_eq_true hb)]; exact post _ hk
      · rename_i hb; rw [if_neg (fun h => by subst h; simp at hb)]; exact post _ hk
    | normal => exact post _ hk
    | goto l => exact post _ hk
    | ret => exact post _ hk
    | panic ch => exact post _ hk
    | outgrown => exact post _ hk
  | region id ops draw =>
    intro ann ro e m h K hc hf ds a w Q hr hn hd hw hq
    subst hw
    simp only [compile] at hc
    split at hc
    · rename_i hpl
      have hp := allPlain_of hpl
      have fin : ∀ {a' : Act} {w' : World}, a'.defers = a.defers → Same w w' → (Fr ops a.tmps a'.tmps ∧ ∃ e', Rel e' a'.tmps ∧ K .normal e' m w'.heap) → Q .normal a' w' := by
        rintro a' w' hd' hs' ⟨hfr, e', hr', hk⟩
        refine hq _ e' m a' w' hr' (hfr.1.trans hn) (hd'.trans hd) hs' (fun _ => rfl) ?_ hk
        intro s hs
        refine hfr.2 s fun i hi => ?_
        unfold dstOf at hi
        cases ho : ops[i]? with
        | none => rw [ho] at hi; cases hi
        | some o =>
          rw [ho] at hi
          exact memN_dsts _ hs o (List.mem_of_getElem? (by simpa using ho)) hi
      split at hc
      · refine wpIn_region ?_
        have := cSeq_sound (P := P) (ops := ops) ops.toList 0 (by simp) hr hn hc
        rw [List.drop_zero] at this
        exact opsA_sound hp _ a w this fun a' w' hd' hs' hk => fin hd' hs' hk
      · split at hc
        · rename_i hok
          simp only [drawOK, Bool.and_eq_true] at hok
          have hl : LR ops 0 (Array.replicate ops.size false) := ⟨by simp, fun j => by
            simp only [Array.getD_eq_getD_getElem?, Array.getElem?_replicate, Nat.zero_testBit]; split <;> rfl⟩
          have hrw := cDrawn_sound (P := P) (n := n) (ancs := ancList ops.toList []) (HA := []) ops.size hl (by intro x hx; cases hx) (by intro x hx; cases hx) hr hn (Fr.refl (ops := ops) a.tmps) hc
          have hcl : Closed ops (ancList ops.toList []) (Array.replicate ops.size false) := ⟨by simp, fun i c hi => by
            simp only [Array.getD_eq_getD_getElem?, Array.getElem?_replicate] at hi; split at hi <;> simp at hi⟩
          have hany := anyA_of_RW hok.1 (apartOK_of hok.2) hp _ hcl hrw
          refine wpIn_region_any hf ?_
          refine anyA_sound hp _ _ a { w with drawn := w.drawn + 1 } hany ?_
          rintro a' w' hd' hs' hk
          exact fin hd' ⟨hs'.os, hs'.output, hs'.tape⟩ hk
        · exact hc.elim
    · exact hc.elim
  | loop x ih =>
    intro ann ro e m h K hc hf ds a w Q hr hn hd hw hq
    cases ann <;> try exact hc.elim
    rename_i slots ax
    simp only [compile] at hc
    refine loop_of_head ?_
    split at hc
    · rename_i hno
      obtain ⟨x0, hL, hbind⟩ := takeV_bind hr hc
      have key := hL (fun v h => ∀ (a' : Act) (w' : World), Rel (bindV slots v (keepE (slots ++ writes x) e)) a'.tmps → a'.tmps.size = n → a'.defers = marks m ++ ds → w'.heap = h → Same w w' →
          FrW x a.tmps a'.tmps → wpHead ro P x Q a' w') ?_
      · exact key a w (hbind _ (keepE_rel hr fun _ _ => rfl)) hn hd hw (.refl _) (fun _ _ => rfl)
      · intro v h' hB a' w' hr' hn' hd' hw' hs' hfr'
        refine head_of_round (ih ax ro _ m h' _ hB hf ds a' w' _ hr' hn' hd' hw' ?_)
        intro ex e2 m2 a2 w2 hr2 hn2 hd2 hs2 hnr2 hfr2 hk2
        have hm2 : m2 = m := hnr2 hno
        subst hm2
        have hfr : FrW x a.tmps a2.tmps := fun s hs => by rw [hfr2 s hs, hfr' s hs]
        have post : ∀ ex', K ex' e2 m2 w2.heap → Q ex' a2 w2 := fun ex' hk' => hq ex' e2 m2 a2 w2 hr2 hn2 hd2 (hs'.trans hs2) (fun _ => rfl) hfr hk'
        cases ex with
        | normal =>
          obtain ⟨v', hZ, hbind'⟩ := takeV_bind hr2 hk2
          refine hZ a2 w2 (hbind' _ (keepE_rel hr fun s hs => ?_)) hn2 hd2 rfl (hs'.trans hs2) hfr
          rw [memN_append, Bool.or_eq_false_iff] at hs
          exact hfr s hs.2
        | exit id => exact post _ hk2
        | goto l => exact post _ hk2
        | ret => exact post _ hk2
        | panic ch => exact post _ hk2
        | outgrown => exact post _ hk2
    · rename_i hno
      obtain ⟨x0, hL, hbind⟩ := takeV_bind hr hc
      have key := hL (fun v h => ∀ (a' : Act) (w' : World), Rel (bindV slots v.2 (keepE (slots ++ writes x) e)) a'.tmps → a'.tmps.size = n → a'.defers = marks v.1 ++ ds → w'.heap = h → Same w w' →
          FrW x a.tmps a'.tmps → wpHead ro P x Q a' w') ?_
      · exact key a w (hbind _ (keepE_rel hr fun _ _ => rfl)) hn hd hw (.refl _) (fun _ _ => rfl)
      · intro v h' hB a' w' hr' hn' hd' hw' hs' hfr'
        refine head_of_round (ih ax ro _ v.1 h' _ hB hf ds a' w' _ hr' hn' hd' hw' ?_)
        intro ex e2 m2 a2 w2 hr2 hn2 hd2 hs2 hnr2 hfr2 hk2
        have hfr : FrW x a.tmps a2.tmps := fun s hs => by rw [hfr2 s hs, hfr' s hs]
        have post : ∀ ex', K ex' e2 m2 w2.heap → Q ex' a2 w2 := fun ex' hk' => hq ex' e2 m2 a2 w2 hr2 hn2 hd2 (hs'.trans hs2) (fun h => by simp only [noRange] at h; rw [h] at hno; cases hno) hfr hk'
        cases ex with
        | normal =>
          obtain ⟨v', hZ, hbind'⟩ := takeV_bind hr2 hk2
          refine hZ a2 w2 (hbind' _ (keepE_rel hr fun s hs => ?_)) hn2 hd2 rfl (hs'.trans hs2) hfr
          rw [memN_append, Bool.or_eq_false_iff] at hs
          exact hfr s hs.2
        | exit id => exact post _ hk2
        | goto l => exact post _ hk2
        | ret => exact post _ hk2
        | panic ch => exact post _ hk2
        | outgrown => exact post _ hk2
  | rangeFunc f params assign body iha ihb =>
    intro ann ro e m h K hc hf ds a w Q hr hn hd hw hq
    subst hw
    cases ann <;> try exact hc.elim
    rename_i ax ay
    simp only [compile] at hc
    split at hc
    · rename_i hk
      split at hc
      · rename_i hro
        split at hc
        · rename_i hlt
          have hro' : ro = none := by cases ro <;> simp_all
          subst hro'
          have he : a.eval f = ev e f := by rw [eval_evA, hr.ev hk]
          refine wpIn_rangeFunc fun fnid _ => ?_
          let D := w.heap.size
          let l := w.heap.size + 1
          let L : Loop := { state := .ready, pending := none, fn := fnid, tmps := a.tmps, params, assign, body, defers := D }
          let w1 : World := { w with heap := (w.heap.push (.deferred (some []))).push (.loop L) }
          have hL := hc L ?_
          · unfold callF at hL
            split at hL
            · rename_i g first captured hfv
              refine ⟨l, [{ target := .collected D, args := #[] }], w1, { target := .fn (.func g) captured, args := first ++ #[yieldV l] }, w1, g, first ++ #[yieldV l] ++ captured, w1, ?_, ?_, ?_, ?_, ?_, ?_⟩
              · simp only [Instr.enterLoop, newObj, bind, Sem.bind, pure, Sem.run, WF]
                show Result.ok _ _ = Result.ok _ _
                simp [l, D, w1, L]
              · unfold resolve
                simp only [he, hfv]
                simp [Deferred.ofValue, Act.eval, yieldV, pure]
              · intro f' _; exact WF_fn none f'
              · have := wpS_run (callFunc_wp (K := fun _ _ => True) (hL.mono fun _ _ _ => trivial)) w1 (by simp [w1, lo, L, D])
                obtain ⟨hcb, hcw⟩ := hL
                unfold Callable at hcb
                split at hcb
                · rename_i fn hfn
                  simp only [Bool.and_eq_true, Bool.not_eq_true', beq_eq_false_iff_ne, ne_eq] at hcb
                  have hb : fn.body.isNone = false := by cases hx : fn.body <;> simp_all
                  show Sem.run P (callFunc g (first ++ #[yieldV l] ++ captured)) w1 = _
                  unfold callFunc
                  simp only [program, bind, Sem.bind, Sem.run, hfn, hb]
                  rw [if_neg (by simpa using hcb.2)]
                  rfl
                · cases hcb
              · intro h; simp [WF_depth] at h
              · refine WF_calls ((hL.2 w1 (by simp [w1, lo, L, D])).mono ?_)
                rintro e' w3 ⟨v, rfl, hs3, st, p, hst, hl3, hj⟩
                have hs3 : Same w w3 := ⟨hs3.os, hs3.output, hs3.tape⟩
                obtain ⟨jump, w4, hrun, hs4, hjp, hh4⟩ := wpS_run (endLoop_wp (P := P) (K := fun j h' => j = p ∧ h' = w3.heap.setIfInBounds l (lo L .exhausted p)) hl3 hst ⟨rfl, rfl⟩) w3 rfl
                subst hjp
                refine ⟨jump, w4, hrun, ?_⟩
                have post : ∀ ex, K ex e (D :: m) w4.heap → Q ex { a with defers := [{ target := .collected D, args := #[] }] ++ a.defers } w4 := fun ex hk' =>
                  hq ex e (D :: m) { a with defers := [{ target := .collected D, args := #[] }] ++ a.defers } w4 hr hn (by simp [hd, marks]) (hs3.trans hs4) (fun h => by simp [noRange] at h) (fun _ _ => rfl) hk'
                rw [← hh4] at hj
                cases jump with
                | none => exact post _ hj
                | some cj =>
                  cases cj <;> try exact hj.elim
                  · exact wpIn_exit (post _ (lookK_mem (F := fun id h' => K (.exit id) e (D :: m) h') hj))
                  · exact wpIn_ret (post _ hj)
            · exact hL.elim
          · intro args h' R st p hl' hB
            have hlen := listV_length params.toList args
            show YieldH P l (#[] ++ (listV params.toList args).toArray) h' R
            unfold YieldH
            rw [hl']
            dsimp only [lo]
            refine ⟨by simp [hlen, L], ?_⟩
            intro w2 hw2
            have hrel := rel_zip (n := n) params.toList args hr hn hlt
            have htm : (L.params.zip (#[] ++ (listV params.toList args).toArray)).foldl (fun tmps (x : Nat × Value) => tmps.setIfInBounds x.1 x.2) L.tmps =
                (params.toList.zip (listV params.toList args)).foldl (fun t (x : Nat × Value) => t.setIfInBounds x.1 x.2) a.tmps := by
              simp only [L]
              rw [← Array.foldl_toList, Array.toList_zip]
              simp
            have goal : assign.wpIn (WF (some l)) 0 P (Exit.then (fun a₁ w₁ => ∃ w₂, (Instr.beginRound l).run P w₁ = .ok () w₂ ∧
                body.wpIn (WF (some l)) 0 P (roundPost P l fun e' w' => ∃ v, e' = .returned v ∧ Same w2 w' ∧ R v w'.heap) a₁ w₂) (fun _ _ _ => False))
                { tmps := (L.params.zip (#[] ++ (listV params.toList args).toArray)).foldl (fun tmps (x : Nat × Value) => tmps.setIfInBounds x.1 x.2) L.tmps, defers := [] } w2 := by
              rw [htm]
              refine iha ax (some l) (zipV params.toList args e) [] h' _ hB hf [] _ w2 _ hrel.1 hrel.2 rfl hw2 ?_
              intro ex e1 m1 a1 w1' hr1 hn1 hd1 hs1 hnr1 hfr1 hk1
              cases ex <;> try exact hk1.elim
              obtain ⟨p', hp', hk1⟩ := hk1
              obtain ⟨_, w3, hrun, hs3, hh3⟩ := wpS_run (begin_wp (P := P) (K := fun _ h' => h' = w1'.heap.setIfInBounds l (lo L .busy p')) hp' rfl) w1' rfl
              refine ⟨w3, hrun, ?_⟩
              refine ihb ay (some l) e1 m1 _ _ hk1 hf [] a1 w3 _ hr1 hn1 hd1 hh3 ?_
              intro ex' e2 m2 a2 w4 hr2 hn2 hd2 hs4 hnr2 hfr2 hk2
              obtain ⟨p2, hp2, hk2⟩ := hk2
              have hsame : Same w2 w4 := (hs1.trans hs3).trans hs4
              have step : ∀ (jump : Option Code), R (.bool jump.isNone) (w4.heap.setIfInBounds l (lo L (if jump.isNone then .ready else .done) jump)) →
                  ∃ v w', (Instr.endRound l jump).run P w4 = .ok v w' ∧ ∃ v', Ending.returned v = .returned v' ∧ Same w2 w' ∧ R v' w'.heap := by
                intro jump hR
                obtain ⟨v, w5, hrun5, hs5, hR5⟩ := wpS_run (endRound_wp (P := P) (jump := jump) (K := R) hp2 hR) w4 rfl
                exact ⟨v, w5, hrun5, v, rfl, hsame.trans hs5, hR5⟩
              cases ex' <;> try exact hk2.elim
              · exact step none hk2
              · exact step (some (.exit _)) hk2
              · exact step (some .ret) hk2
            have := roundIn_of_wpIn (F := Fence.wide) (n := 0) (P := P) (l := l) (f := L.fn) (w := w2) (R := fun e' w' => ∃ v, e' = .returned v ∧ Same w2 w' ∧ R v w'.heap) trivial goal
            exact this
        · exact hc.elim
      · exact hc.elim
    · exact hc.elim

end
end Go.Mh

namespace Go.Mh
open Go

def takeM : List Nat → Heap → (Heap → Prop) → Prop
  | [], h, K => K h
  | D :: r, h, K => h[D]? = some (.deferred (some [])) ∧ takeM r (h.setIfInBounds D (.deferred none)) K

def resQ (P : Program) (e : VEnv) (h : Heap) : List ResultVar → (List Value → Prop) → Prop
  | [], K => K []
  | .tmp t :: r, K => (match look e t with
    | some v => resQ P e h r fun l => K (v :: l)
    | none => False)
  | .cell a t :: r, K => (match look e a with
    | some p => (match P.underlying t, P.info? t with
      | some d, some i => (match isAggD d with
        | true => pLoadN i.size h p fun v => resQ P e h r fun l => K (v :: l)
        | false => pLoad h p fun v => resQ P e h r fun l => K (v :: l))
      | _, _ => False)
    | none => False)

def oneOr : List Value → Value
  | [v] => v
  | l => .tuple l.toArray

def fnPost (P : Program) (rs : List ResultVar) (K : Value → Heap → Prop) : Exit → VEnv → List Nat → Heap → Prop
  | .normal, e, m, h | .ret, e, m, h => takeM m h fun h' => resQ P e h' rs fun l => K (oneOr l) h'
  | _, _, _, _ => False

def argE : List Value → Nat → VEnv
  | [], _ => []
  | v :: r, i => (i, v) :: argE r (i + 1)

section
variable {P : Program}

theorem look_argE : ∀ {args : List Value} {i s : Nat} {v : Value}, look (argE args i) s = some v → i ≤ s ∧ args[s - i]? = some v
  | u :: args, i, s, v, h => by
    simp only [argE, look] at h
    split at h
    · rename_i hb
      have := Nat.eq_of_beq_eq_true hb; subst this
      exact ⟨Nat.le_refl _, by simpa using h⟩
    · obtain ⟨h1, h2⟩ := look_argE h
      refine ⟨by omega, ?_⟩
      rw [show s - i = (s - (i + 1)) + 1 by omega]; simpa using h2

theorem loadVar_wp {t : TypeId} {d : TypeDesc} {i : TypeInfo} {p : Value} {h : Heap} {K : Value → Prop} (hd : P.underlying t = some d) (hi : P.info? t = some i)
    (hq : match isAggD d with
      | true => pLoadN i.size h p K
      | false => pLoad h p K) : ∃ v, rdS P (do loadVar t (← asAddr p)) h = some v ∧ K v := by
  obtain ⟨v, hv, hk⟩ := load_sound hd hi hq
  refine ⟨v, ?_, hk⟩
  have hp : ∃ a, p = .pointer (some a) := by
    cases hag : isAggD d <;> rw [hag] at hq <;> dsimp only at hq
    · unfold pLoad at hq; split at hq
      · exact ⟨_, rfl⟩
      · exact hq.elim
    · unfold pLoadN at hq; split at hq
      · exact ⟨_, rfl⟩
      · exact hq.elim
  obtain ⟨a, rfl⟩ := hp
  exact hv

theorem resQ_sound {e : VEnv} {t : Array Value} {h : Heap} (hr : Rel e t) : ∀ {rs : List ResultVar} {K : List Value → Prop}, resQ P e h rs K →
    ∃ l, rdS P (rs.mapM fun (r : ResultVar) => (match r with
      | .tmp s => pure (t.getD s undef)
      | .cell a ty => do loadVar ty (← asAddr (t.getD a undef)) : Sem Value)) h = some l ∧ l.length = rs.length ∧ K l
  | [], K, hq => ⟨[], rfl, rfl, hq⟩
  | .tmp s :: r, K, hq => by
    simp only [resQ] at hq
    split at hq
    · rename_i v hv
      obtain ⟨l, hl, hlen, hk⟩ := resQ_sound hr hq
      refine ⟨v :: l, ?_, by simp [hlen], hk⟩
      rw [List.mapM_cons]
      rw [rdS_bind (a := v) (by simp [hr s v hv, rdS, pure]), rdS_bind hl]; rfl
    · exact hq.elim
  | .cell a ty :: r, K, hq => by
    simp only [resQ] at hq
    split at hq
    · rename_i p hp
      split at hq
      · rename_i d i hd hi
        have hq' : match isAggD d with
          | true => pLoadN i.size h p (fun v => resQ P e h r fun l => K (v :: l))
          | false => pLoad h p (fun v => resQ P e h r fun l => K (v :: l)) := hq
        obtain ⟨v, hv, hk⟩ := loadVar_wp hd hi hq'
        obtain ⟨l, hl, hlen, hk⟩ := resQ_sound hr hk
        refine ⟨v :: l, ?_, by simp [hlen], hk⟩
        rw [List.mapM_cons]
        have : t.getD a undef = p := by simp [hr a p hp]
        dsimp only
        rw [this, rdS_bind hv, rdS_bind hl]; rfl
      · exact hq.elim
    · exact hq.elim

theorem results_sound {fn : Func} {e : VEnv} {t : Array Value} {h : Heap} {K : List Value → Prop} (hr : Rel e t) (hq : resQ P e h fn.results.toList K) :
    ∃ l, rdS P (results fn t) h = some (oneOr l) ∧ K l := by
  obtain ⟨l, hl, hlen, hk⟩ := resQ_sound hr hq
  refine ⟨l, ?_, hk⟩
  unfold results
  have hm : rdS P (fn.results.mapM fun
      | .tmp s => pure (t.getD s undef)
      | .cell a ty => do loadVar ty (← asAddr (t.getD a undef)) : Sem (Array Value)) h = some l.toArray := by
    rw [Array.mapM_eq_mapM_toList]
    have e : ∀ {α β : Type} (f : α → β) (s : Sem α), (Functor.map f s : Sem β) = (s >>= fun a => pure (f a)) := fun f s => rfl
    rw [e]
    refine (rdS_bind ?_).trans rfl
    exact hl
  refine (rdS_bind hm).trans ?_
  show some _ = some _
  congr 1
  split
  · rename_i h1
    have h1' : l.length = 1 := by simpa using h1
    obtain ⟨v, rfl⟩ := List.length_eq_one_iff.1 h1'
    rfl
  · rename_i h1
    have h1' : l.length ≠ 1 := by simpa using h1
    unfold oneOr
    split
    · simp at h1'
    · rfl

theorem leaves_of {fn : Func} {t : Array Value} {e : VEnv} {R : Ending → World → Prop} {K : Value → Heap → Prop} {w0 : World} (hr : Rel e t)
    (hR : ∀ v w, Same w0 w → K v w.heap → R (.returned v) w) : ∀ (m : List Nat) (w : World), Same w0 w → takeM m w.heap (fun h' => resQ P e h' fn.results.toList fun l => K (oneOr l) h') →
    LeavesInM Fence.wide 0 P fn t R (marks m) .returning w
  | [], w, hs, hq => by
    obtain ⟨l, hl, hk⟩ := results_sound hr hq
    exact ⟨_, rdS_run hl w rfl, hR _ _ hs hk⟩
  | D :: m, w, hs, hq => by
    obtain ⟨hD, hq⟩ := hq
    refine ⟨by simp, .inl ⟨D, { w with heap := w.heap.setIfInBounds D (.deferred none) }, rfl, ?_, leaves_of hr hR m _ ⟨hs.os, hs.output, hs.tape⟩ hq⟩⟩
    simp [Instr.takeDeferred, getObj, setObj, bind, Sem.bind, Sem.run, hD, pure]

/-- A function's contract out of its compiled body. -/
theorem callsW_of {f : FuncId} {fn : Func} {c : Code} {ann : Ann} {args : List Value} {h : Heap} {K : Value → Heap → Prop} (hf : P.funcs[f]? = some fn) (hb : fn.body = some c)
    (hm : P.follows .mixedOrders = true) (hlen : args.length ≤ fn.ntmps)
    (hc : compile P fn.ntmps false c ann (argE args 0) [] h (fnPost P fn.results.toList K)) : CallsW P f args.toArray h K := by
  intro w hw
  refine callsIn_of_wp_marks hf hb trivial ?_
  have hrel : Rel (argE args 0) (args.toArray ++ Array.replicate (fn.ntmps - args.toArray.size) undef) := by
    intro s v hs
    obtain ⟨_, h2⟩ := look_argE hs
    rw [Nat.sub_zero] at h2
    have hlt : s < args.length := (List.getElem?_eq_some_iff.1 h2).1
    rw [Array.getElem?_append_left (by simpa using hlt)]
    simpa using h2
  have hsz : (args.toArray ++ Array.replicate (fn.ntmps - args.toArray.size) undef).size = fn.ntmps := by simp; omega
  refine compile_sound c ann none _ [] h _ hc hm [] _ w _ hrel hsz rfl hw ?_
  intro ex e' m' a' w' hr' hn' hd' hs' _ _ hk
  have fin : takeM m' w'.heap (fun h' => resQ P e' h' fn.results.toList fun l => K (oneOr l) h') →
      LeavesInM Fence.wide 0 P fn a'.tmps (fun e w' => ∃ v, e = .returned v ∧ Same w w' ∧ K v w'.heap) a'.defers .returning w' := by
    intro hk
    rw [hd', List.append_nil]
    exact leaves_of hr' (fun v w'' hs'' hk'' => ⟨v, rfl, hs'', hk''⟩) m' w' hs' hk
  cases ex <;> try exact hk.elim
  · exact fin hk
  · exact fin hk

theorem callsH_of {f : FuncId} {fn : Func} {c : Code} {ann : Ann} {args : List Value} {h : Heap} {K : Value → Heap → Prop} (hf : P.funcs[f]? = some fn) (hb : fn.body = some c)
    (hcal : Callable P f = true) (hm : P.follows .mixedOrders = true) (hlen : args.length ≤ fn.ntmps)
    (hc : compile P fn.ntmps false c ann (argE args 0) [] h (fnPost P fn.results.toList K)) : CallsH P f args.toArray h K :=
  ⟨hcal, callsW_of hf hb hm hlen hc⟩

/-- The kit's contract out of ours. -/
theorem calls_of_H {f : FuncId} {args : Array Value} {w : World} {R : Ending → World → Prop} {K : Value → Heap → Prop} (hc : CallsH P f args w.heap K)
    (hk : ∀ v w', Same w w' → K v w'.heap → R (.returned v) w') : Calls P f args w R :=
  callsIn_wide.1 ((hc.2 w rfl).mono fun _ _ ⟨_, he, hs, hv⟩ => he ▸ hk _ _ hs hv)

end
end Go.Mh

namespace Go.Mh
open Go

/-- A deferred call of a function, made while its frame leaves in peace. -/
def DeferS (P : Program) (f : FuncId) (args : Array Value) (h : Heap) (K : Heap → Prop) : Prop :=
  Callable P f = true ∧ ∀ w : World, w.heap = h → CallsDIn Fence.wide 0 P f args .returning w fun e u w' => ∃ v, e = .returned v ∧ u = .returning ∧ Same w w' ∧ K w'.heap

section
variable {P : Program}

theorem leaves_defer {fn : Func} {t : Array Value} {e : VEnv} {R : Ending → World → Prop} {K : Value → Heap → Prop} {w0 : World} {f : FuncId} {cap dargs : Array Value} (hr : Rel e t)
    (hR : ∀ v w, Same w0 w → K v w.heap → R (.returned v) w) : ∀ (m : List Nat) (w : World), Same w0 w →
    takeM m w.heap (fun h' => DeferS P f (dargs ++ cap) h' fun h'' => resQ P e h'' fn.results.toList fun l => K (oneOr l) h'') →
    LeavesInM Fence.wide 0 P fn t R (marks m ++ [{ target := .fn (.func f) cap, args := dargs }]) .returning w
  | [], w, hs, hq => by
    obtain ⟨hcal, hq⟩ := hq
    refine ⟨by simp, .inr ⟨(fun h => by cases h), .func f, cap, f, dargs ++ cap, rfl, ?_, fun _ _ => trivial, (hq w rfl).mono ?_⟩⟩
    · show (callFunc f (dargs ++ cap)).run P w = _
      unfold Callable at hcal
      split at hcal
      · rename_i fn' hfn
        simp only [Bool.and_eq_true, Bool.not_eq_true', beq_eq_false_iff_ne, ne_eq] at hcal
        have hb : fn'.body.isNone = false := by cases hx : fn'.body <;> simp_all
        have hrd : rdS P (callFunc f (dargs ++ cap)) w.heap = some (.enter f (dargs ++ cap)) := by
          unfold callFunc
          refine (rdS_bind (a := P) (by rfl)).trans ?_
          simp only [hfn, hb]
          rw [if_neg (by simpa using hcal.2)]
          rfl
        exact rdS_run hrd w rfl
      · cases hcal
    · rintro e' u w' ⟨v, rfl, rfl, hs', hk⟩
      exact leaves_of (K := K) hr hR [] w' (hs.trans hs') hk
  | D :: m, w, hs, hq => by
    obtain ⟨hD, hq⟩ := hq
    refine ⟨by simp, .inl ⟨D, { w with heap := w.heap.setIfInBounds D (.deferred none) }, rfl, ?_, leaves_defer hr hR m _ ⟨hs.os, hs.output, hs.tape⟩ hq⟩⟩
    simp [Instr.takeDeferred, getObj, setObj, bind, Sem.bind, Sem.run, hD, pure]

/-- A closure made and deferred. -/
theorem wpIn_defer {ro : Option Nat} {id : Nat} {o1 o2 : Oper} {s : Tmp} {f : FuncId} {caps : Array Operand} {c : Call} {a : Act} {w : World} {Q : Exit → Act → World → Prop}
    (hro : ro = none) (h1 : o1.op = .makeFunc (.func f) #[] caps) (hd1 : o1.dst = some s) (hg1 : o1.guard = none) (h2 : o2.op = .defer c) (hc : c.callee = .value (.tmp s)) (hca : c.args = #[]) (hd2 : o2.dst = none) (hg2 : o2.guard = none)
    (hs : s < a.tmps.size)
    (hq : Q .normal { tmps := putA a.tmps (some s) (.func (.func f) #[] (caps.map (evA a.tmps))), defers := { target := .fn (.func f) (caps.map (evA a.tmps)), args := #[] } :: a.defers } w) :
    (Code.region id #[o1, o2] false).wpIn (WF ro) 0 P Q a w := by
  subst hro
  refine wpIn_region ?_
  show wpOpsIn (WF none) 0 P #[o1, o2] Q [0, 1] a w
  have w1 : ∀ t, Region.wanted o1 (yielded #[o1, o2] t) = true := fun t => by simp [Region.wanted, hg1]
  have w2 : ∀ t, Region.wanted o2 (yielded #[o1, o2] t) = true := fun t => by simp [Region.wanted, hg2]
  have g0 : (#[o1, o2] : Array Oper)[0]? = some o1 := rfl
  have g1 : (#[o1, o2] : Array Oper)[1]? = some o2 := rfl
  simp only [wpOpsIn, g0, g1, w1, w2, if_true]
  refine ⟨fun _ _ => trivial, ?_⟩
  have e1 : (o1.semAt (WF none).round a.eval).run P w = .ok (.value (.func (.func f) #[] (caps.map a.eval))) w := by
    show (execOp a.eval o1).run P w = _
    unfold execOp
    simp only [h1, show ∀ g : Operand → Value, Array.map g #[] = #[] from fun g => by simp]
    rfl
  rw [e1]
  refine ⟨fun _ _ => trivial, ?_⟩
  have ev : (a.put o1.dst (.func (.func f) #[] (caps.map a.eval))).eval (.tmp s) = .func (.func f) #[] (caps.map a.eval) := by
    rw [hd1]
    simp [Act.put, Act.eval, hs]
  have e2 : (o2.semAt (WF none).round (a.put o1.dst (.func (.func f) #[] (caps.map a.eval))).eval).run P w = .ok (.defer { target := .fn (.func f) (caps.map a.eval), args := #[] }) w := by
    show (execOp _ o2).run P w = _
    unfold execOp
    simp only [h2, resolve, hc, hca, ev, show ∀ g : Operand → Value, Array.map g #[] = #[] from fun g => by simp]
    rfl
  rw [e2]
  simp only [Oper.uponIn, hd2]
  have ee : (caps.map a.eval) = caps.map (evA a.tmps) := by
    congr 1
  rw [hd1, ee]
  exact hq

def deferPost (P : Program) (rs : List ResultVar) (f : FuncId) (args : Array Value) (K : Value → Heap → Prop) : Exit → VEnv → List Nat → Heap → Prop
  | .normal, e, m, h | .ret, e, m, h => takeM m h fun h' => DeferS P f args h' fun h'' => resQ P e h'' rs fun l => K (oneOr l) h''
  | _, _, _, _ => False

def thenDefer (P : Program) (n : Nat) (B : Code) (annB : Ann) (rs : List ResultVar) (s : Tmp) (f : FuncId) (caps : List Operand) (K : Value → Heap → Prop) : Exit → VEnv → List Nat → Heap → Prop
  | .normal, e, [], h => (match knownL e caps, Nat.blt s n with
    | true, true => compile P n false B annB ((s, .func (.func f) #[] (caps.map (ev e)).toArray) :: e) [] h (deferPost P rs f (caps.map (ev e)).toArray K)
    | _, _ => False)
  | _, _, _, _ => False

/-- A function that makes a closure, defers it, and goes on. -/
theorem callsH_defer {f g : FuncId} {fn : Func} {A B : Code} {annA annB : Ann} {id : Nat} {o1 o2 : Oper} {s : Tmp} {caps : Array Operand} {c : Call} {args : List Value} {h : Heap} {K : Value → Heap → Prop}
    (hf : P.funcs[f]? = some fn) (hb : fn.body = some (.seq A (.seq (.region id #[o1, o2] false) B))) (hcal : Callable P f = true) (hm : P.follows .mixedOrders = true) (hlen : args.length ≤ fn.ntmps)
    (h1 : o1.op = .makeFunc (.func g) #[] caps) (hd1 : o1.dst = some s) (hg1 : o1.guard = none) (h2 : o2.op = .defer c) (hc : c.callee = .value (.tmp s)) (hca : c.args = #[]) (hd2 : o2.dst = none) (hg2 : o2.guard = none)
    (hq : compile P fn.ntmps false A annA (argE args 0) [] h (thenDefer P fn.ntmps B annB fn.results.toList s g caps.toList K)) : CallsH P f args.toArray h K := by
  refine ⟨hcal, fun w hw => ?_⟩
  refine callsIn_of_wp_marks hf hb trivial ?_
  have hrel : Rel (argE args 0) (args.toArray ++ Array.replicate (fn.ntmps - args.toArray.size) undef) := by
    intro s v hs
    obtain ⟨_, h2⟩ := look_argE hs
    rw [Nat.sub_zero] at h2
    have hlt : s < args.length := (List.getElem?_eq_some_iff.1 h2).1
    rw [Array.getElem?_append_left (by simpa using hlt)]
    simpa using h2
  have hsz : (args.toArray ++ Array.replicate (fn.ntmps - args.toArray.size) undef).size = fn.ntmps := by simp; omega
  refine wpIn_seq ?_
  refine compile_sound A annA none _ [] h _ hq hm [] _ w _ hrel hsz rfl hw ?_
  intro ex e' m' a' w' hr' hn' hd' hs' _ _ hk
  cases ex <;> try exact hk.elim
  cases m' with
  | cons D m => exact hk.elim
  | nil =>
    obtain ⟨hkn, hsn, hk⟩ : knownL e' caps.toList = true ∧ s < fn.ntmps ∧ compile P fn.ntmps false B annB ((s, .func (.func g) #[] (caps.toList.map (ev e')).toArray) :: e') [] w'.heap (deferPost P fn.results.toList g (caps.toList.map (ev e')).toArray K) := by
      simp only [thenDefer] at hk
      split at hk
      · rename_i h1 h2
        exact ⟨h1, Nat.le_of_ble_eq_true h2, hk⟩
      · exact hk.elim
    have hd0 : a'.defers = [] := hd'
    show (Code.seq (.region id #[o1, o2] false) B).wpIn Fence.wide 0 P _ a' w'
    refine wpIn_seq ?_
    refine wpIn_defer (ro := none) rfl h1 hd1 hg1 h2 hc hca hd2 hg2 (by rw [hn']; exact hsn) ?_
    have hev : caps.map (evA a'.tmps) = (caps.toList.map (ev e')).toArray := by
      apply Array.ext'
      rw [Array.toList_map]
      apply List.map_congr_left
      intro x hx
      exact (hr'.ev (knownL_mem hkn x hx)).symm
    rw [hev, hd0]
    have hr2 : Rel ((s, .func (.func g) #[] (caps.toList.map (ev e')).toArray) :: e') (putA a'.tmps (some s) (.func (.func g) #[] (caps.toList.map (ev e')).toArray)) :=
      hr'.put (dst := some s) (by rw [hn']; simpa [dstOk] using hsn)
    refine compile_sound B annB none _ [] w'.heap _ hk hm [{ target := .fn (.func g) (caps.toList.map (ev e')).toArray, args := #[] }] _ w' _ hr2 (by rw [putA_size]; exact hn') rfl rfl ?_
    intro ex2 e2 m2 a2 w2 hr3 hn3 hd3 hs3 _ _ hk2
    have fin : takeM m2 w2.heap (fun h' => DeferS P g (caps.toList.map (ev e')).toArray h' fun h'' => resQ P e2 h'' fn.results.toList fun l => K (oneOr l) h'') →
        LeavesInM Fence.wide 0 P fn a2.tmps (fun e w' => ∃ v, e = .returned v ∧ Same w w' ∧ K v w'.heap) a2.defers .returning w2 := by
      intro hk
      rw [hd3]
      refine leaves_defer (dargs := #[]) (w0 := w2) hr3 (fun v w'' hs'' hk'' => ⟨v, rfl, (hs'.trans hs3).trans hs'', hk''⟩) m2 w2 (.refl _) ?_
      simpa using hk
    cases ex2 <;> try exact hk2.elim
    · exact fin hk2
    · exact fin hk2

def cL : Code → Code
  | .seq a _ => a
  | c => c
def cR : Code → Code
  | .seq _ b => b
  | c => c
def cO (i : Nat) : Code → Oper
  | .region _ ops _ => (match ops[i]? with
    | some o => o
    | none => ⟨none, .move (.const undef), 0, "", #[], none⟩)
  | _ => ⟨none, .move (.const undef), 0, "", #[], none⟩
def cId : Code → Nat
  | .region id _ _ => id
  | _ => 0

end
end Go.Mh

namespace Go.Mh
open Go

/-- The annotation of a code, by its loops' and cuts' slots, at their places in order. -/
def annG : Code → Nat → List (Nat × List Nat) → Ann × Nat × List (Nat × List Nat)
  | .seq a b, i, [] => (match annG a (i + 1) [] with
    | (x, j, s1) => (match annG b j s1 with
      | (y, k, s2) => (.two x y, k, s2)))
  | .seq a b, i, (p, sl) :: s => (match Nat.beq i p with
    | true => (match annG a (i + 1) s with
      | (x, j, s1) => (match annG b j s1 with
        | (y, k, s2) => (.cut sl x y, k, s2)))
    | false => (match annG a (i + 1) ((p, sl) :: s) with
      | (x, j, s1) => (match annG b j s1 with
        | (y, k, s2) => (.two x y, k, s2))))
  | .cond _ a b, i, s => (match annG a i s with
    | (x, j, s1) => (match annG b j s1 with
      | (y, k, s2) => (.two x y, k, s2)))
  | .block _ a, i, s => (match annG a i s with
    | (x, j, s1) => (.one x, j, s1))
  | .scope a, i, s => (match annG a i s with
    | (x, j, s1) => (.one x, j, s1))
  | .loop a, i, (_, sl) :: s => (match annG a (i + 1) s with
    | (x, j, s1) => (.loop sl x, j, s1))
  | .rangeFunc _ _ a b, i, s => (match annG a i s with
    | (x, j, s1) => (match annG b j s1 with
      | (y, k, s2) => (.two x y, k, s2)))
  | _, i, s => (.leaf, i, s)

/-- To say once what holds behind a piece of code. -/
theorem cutP_of {σ : Type} {A : (σ → Heap → Prop) → Prop} {B : σ → Heap → Prop} (Q : σ → Heap → Prop) (hA : ∀ J : σ → Heap → Prop, (∀ v h, Q v h → J v h) → A J) (hB : ∀ v h, Q v h → B v h) : cutP A B := hA B hB

end Go.Mh

namespace Go.Mh
open Go

def upd (h : Heap) (b : Nat) (o : Obj) : Heap := h.setIfInBounds b o
theorem setIf_upd (h : Heap) (b : Nat) (o : Obj) : h.setIfInBounds b o = upd h b o := rfl

section
variable {h h' h1 h2 : Heap} {b c : Nat} {o x : Obj}

theorem get_lt (hb : h[b]? = some o) : b < h.size := (Array.getElem?_eq_some_iff.1 hb).1
theorem upd_self (hb : b < h.size) : (upd h b o)[b]? = some o := by simp [upd, hb]
theorem upd_self' (hb : h[b]? = some x) : (upd h b o)[b]? = some o := upd_self (get_lt hb)
theorem upd_ne (hne : b ≠ c) : (upd h b o)[c]? = h[c]? := by simp [upd, Array.getElem?_setIfInBounds_ne hne]
theorem upd_size : (upd h b o).size = h.size := by simp [upd]
theorem push_new : (h.push o)[h.size]? = some o := by simp
theorem push_size : (h.push o).size = h.size + 1 := by simp

/-- Only blocks of S are turned, and blocks may come. -/
structure Upd (S : Nat → Prop) (h h' : Heap) : Prop where
  size : h.size ≤ h'.size
  same : ∀ b, b < h.size → ¬ S b → h'[b]? = h[b]?

theorem Upd.refl (S : Nat → Prop) (h : Heap) : Upd S h h := ⟨Nat.le_refl _, fun _ _ _ => rfl⟩
theorem Upd.trans {S S' : Nat → Prop} (a : Upd S h h1) (a' : Upd S' h1 h2) (hs : ∀ b, S' b → b < h.size → S b) : Upd S h h2 :=
  ⟨Nat.le_trans a.size a'.size, fun b hb hn => (a'.same b (Nat.lt_of_lt_of_le hb a.size) (fun hs' => hn (hs b hs' hb))).trans (a.same b hb hn)⟩
theorem Upd.mono {S S' : Nat → Prop} (a : Upd S h h1) (hs : ∀ b, S b → b < h.size → S' b) : Upd S' h h1 :=
  ⟨a.size, fun b hb hn => a.same b hb fun hb' => hn (hs b hb' hb)⟩
theorem Upd.push (S : Nat → Prop) (h : Heap) (o : Obj) : Upd S h (h.push o) :=
  ⟨by simp, fun b hb _ => by rw [Array.getElem?_push]; simp [Nat.ne_of_lt hb]⟩
theorem Upd.upd {S : Nat → Prop} (h : Heap) {b : Nat} (o : Obj) (hb : S b) : Upd S h (upd h b o) :=
  ⟨by simp [Mh.upd], fun c _ hn => upd_ne (fun e => hn (e ▸ hb))⟩
theorem Upd.get {S : Nat → Prop} (a : Upd S h h1) (hb : h[b]? = some o) (hn : ¬ S b) : h1[b]? = some o := (a.same b (get_lt hb) hn).trans hb

/-- Nothing old is turned. -/
abbrev Ext (h h' : Heap) : Prop := Upd (fun _ => False) h h'
theorem Ext.get (a : Ext h h1) (hb : h[b]? = some o) : h1[b]? = some o := Upd.get a hb id
theorem Ext.upd {S : Nat → Prop} (a : Ext h h1) : Upd S h h1 := a.mono fun _ hf _ => hf.elim

theorem hcell_of {cs : Array Value} {T : TypeId} {fz : Nat × Nat} {i : Nat} {v : Value} (hb : h[b]? = some (.cells cs T fz)) (hv : cs[i]? = some v) : hcell h ⟨b, i, none⟩ = some v := by
  simp [hcell, hb, hv]

theorem hfrozen_of {cs : Array Value} {T : TypeId} {i : Nat} (hb : h[b]? = some (.cells cs T (0, 0))) : hfrozen h ⟨b, i, none⟩ = false := by
  simp [hfrozen, hb]

theorem hset_of {cs : Array Value} {T : TypeId} {fz : Nat × Nat} {i : Nat} {v : Value} (hb : h[b]? = some (.cells cs T fz)) :
    hset h ⟨b, i, none⟩ v = upd h b (.cells (cs.setIfInBounds i v) T fz) := by
  have hlt := get_lt hb
  have hbe : h[b] = .cells cs T fz := by simpa [Array.getElem?_eq_getElem hlt] using hb
  unfold hset upd
  apply Array.ext
  · simp
  · intro j h1 h2
    simp only [Array.size_modify] at h1
    rw [Array.getElem_modify, Array.getElem_setIfInBounds h1]
    split
    · rename_i e; subst e; simp [hbe]
    · rfl

theorem upd_upd {o1 o2 : Obj} : upd (upd h b o1) b o2 = upd h b o2 := by simp [upd]

/-! ### Stepping -/

theorem pLoad_of {a : Value} {v : Value} {i : Nat} {K : Value → Prop} (ha : a = .pointer (some ⟨b, i, none⟩)) (hv : hcell h ⟨b, i, none⟩ = some v) (hk : K v) : pLoad h a K := by
  subst ha; simp [pLoad, hv, hk]

theorem cellsAt_of {cs : List Value} {T : TypeId} {fz : Nat × Nat} {i : Nat} (hb : h[b]? = some (.cells cs.toArray T fz)) : ∀ (n i : Nat), i + n ≤ cs.length → cellsAt h b i n = some ((cs.drop i).take n)
  | 0, i, _ => by simp [cellsAt]
  | n + 1, i, hle => by
    have hlt : i < cs.length := by omega
    have hv : hcell h ⟨b, i, none⟩ = some cs[i] := hcell_of hb (by simp [hlt])
    simp only [cellsAt, hv]
    rw [cellsAt_of (i := i) hb n (i + 1) (by omega)]
    simp only [Option.some.injEq]
    rw [List.drop_eq_getElem_cons hlt, List.take_succ_cons]

/-- The row of a block over-written from a place on. -/
def over (cs : List Value) (i : Nat) (l : List Value) : List Value := cs.take i ++ l ++ cs.drop (i + l.length)

theorem over_length {cs : List Value} {i : Nat} {l : List Value} (hle : i + l.length ≤ cs.length) : (over cs i l).length = cs.length := by
  simp [over]; omega

theorem storeL_of {T : TypeId} {K : Heap → Prop} : ∀ (l : List Value) (i : Nat) (h : Heap) (cs : List Value), h[b]? = some (.cells cs.toArray T (0, 0)) → i + l.length ≤ cs.length →
    (∀ v ∈ l, plainCell v = true) → K (upd h b (.cells (over cs i l).toArray T (0, 0))) → storeL h b i l K
  | [], i, h, cs, hb, hle, _, hk => by
    have : over cs i [] = cs := by simp [over]
    rw [this] at hk
    have : upd h b (.cells cs.toArray T (0, 0)) = h := by
      have hlt := get_lt hb
      apply Array.ext
      · simp [upd]
      · intro j h1 h2
        have : h[b] = .cells cs.toArray T (0, 0) := by simpa [Array.getElem?_eq_getElem hlt] using hb
        simp only [upd, Array.getElem_setIfInBounds h2]
        split
        · rename_i e; subst e; exact this.symm
        · rfl
    rw [this] at hk
    exact hk
  | v :: l, i, h, cs, hb, hle, hp, hk => by
    simp only [List.length_cons] at hle
    have hlt : i < cs.length := by omega
    refine ⟨hp v List.mem_cons_self, ?_, hfrozen_of hb, ?_⟩
    · rw [hcell_of hb (v := cs[i]) (by simp [hlt])]; rfl
    · rw [hset_of hb]
      have e : (cs.toArray.setIfInBounds i v) = (cs.set i v).toArray := by simp
      rw [e]
      refine storeL_of l (i + 1) _ (cs.set i v) (upd_self' hb) (by simp; omega) (fun u hu => hp u (List.mem_cons_of_mem _ hu)) ?_
      rw [upd_upd]
      have : over (cs.set i v) (i + 1) l = over cs i (v :: l) := by
        simp only [over, List.length_cons]
        rw [List.take_succ_eq_append_getElem (by simpa using hlt)]
        simp only [List.getElem_set_self, List.append_assoc, List.singleton_append, List.cons_append]
        rw [List.take_set_of_le (Nat.le_refl i), List.drop_set_of_lt (by omega)]
        simp [Nat.add_comm, Nat.add_left_comm]
      rw [this]; exact hk

/-! ### Rows of elements of one size -/

section rows
variable {α : Type} {enc : α → List Value} {n : Nat}

def row (enc : α → List Value) (xs : List α) : List Value := xs.flatMap enc

theorem row_length (hn : ∀ a, (enc a).length = n) : ∀ xs : List α, (row enc xs).length = xs.length * n
  | [] => by simp [row]
  | x :: xs => by
    have := row_length hn xs
    simp only [row, List.flatMap_cons, List.length_append, List.length_cons] at *
    rw [this, hn, Nat.succ_mul, Nat.add_comm]

theorem row_take (hn : ∀ a, (enc a).length = n) : ∀ (xs : List α) (i : Nat), (row enc xs).take (i * n) = row enc (xs.take i)
  | [], i => by simp [row]
  | x :: xs, 0 => by simp [row]
  | x :: xs, i + 1 => by
    have := row_take hn xs i
    simp only [row, List.flatMap_cons, List.take_succ_cons] at *
    rw [Nat.succ_mul, Nat.add_comm, ← hn x, List.take_append, List.take_of_length_le (by omega), hn x]
    simp [this]

theorem row_drop (hn : ∀ a, (enc a).length = n) : ∀ (xs : List α) (i : Nat), (row enc xs).drop (i * n) = row enc (xs.drop i)
  | [], i => by simp [row]
  | x :: xs, 0 => by simp [row]
  | x :: xs, i + 1 => by
    have := row_drop hn xs i
    simp only [row, List.flatMap_cons, List.drop_succ_cons] at *
    rw [Nat.succ_mul, Nat.add_comm, ← hn x, List.drop_append, List.drop_of_length_le (by omega), hn x]
    simp [this]

theorem row_append (xs ys : List α) : row enc (xs ++ ys) = row enc xs ++ row enc ys := by simp [row]

theorem row_slot (hn : ∀ a, (enc a).length = n) {xs : List α} {i : Nat} (hi : i < xs.length) (rest : List Value) :
    ((row enc xs ++ rest).drop (i * n)).take n = enc xs[i] := by
  have hl := row_length hn xs
  have hle : i * n + n ≤ xs.length * n := by
    have := Nat.mul_le_mul_right n (Nat.succ_le_of_lt hi)
    rw [Nat.succ_mul] at this; exact this
  rw [List.drop_append_of_le_length (by omega), row_drop hn, List.take_append_of_le_length (by rw [row_length hn]; simp; rw [Nat.sub_mul]; omega)]
  rw [List.drop_eq_getElem_cons hi]
  simp only [row, List.flatMap_cons]
  rw [List.take_append_of_le_length (by rw [hn]; exact Nat.le_refl _), List.take_of_length_le (by rw [hn]; exact Nat.le_refl _)]

theorem row_get (hn : ∀ a, (enc a).length = n) {xs : List α} {i j : Nat} (hi : i < xs.length) (hj : j < n) (rest : List Value) :
    (row enc xs ++ rest)[i * n + j]? = (enc xs[i])[j]? := by
  rw [← row_slot hn hi rest, List.getElem?_take_of_lt hj, List.getElem?_drop]

theorem row_over (hn : ∀ a, (enc a).length = n) {xs : List α} {i : Nat} (hi : i < xs.length) (a : α) (rest : List Value) :
    over (row enc xs ++ rest) (i * n) (enc a) = row enc (xs.set i a) ++ rest := by
  have hl := row_length hn xs
  have hle : i * n + n ≤ xs.length * n := by
    have := Nat.mul_le_mul_right n (Nat.succ_le_of_lt hi)
    rw [Nat.succ_mul] at this; exact this
  unfold over
  rw [hn, List.take_append_of_le_length (by omega), row_take hn, show i * n + n = (i + 1) * n by rw [Nat.succ_mul], List.drop_append_of_le_length (by rw [Nat.succ_mul]; omega), row_drop hn]
  rw [List.set_eq_take_append_cons_drop, if_pos hi]
  simp [row]

end rows
end
end Go.Mh

namespace Go.Mh
open Go

theorem LoopH_intro {σ : Type} {B : σ → Heap → (σ → Heap → Prop) → Prop} {x : σ} {h : Heap} (I : σ → Heap → Prop) (μ : σ → Heap → Nat) (h0 : I x h)
    (step : ∀ (x : σ) (h : Heap) (Z : σ → Heap → Prop), I x h → (∀ x' h', I x' h' → μ x' h' < μ x h → Z x' h') → B x h Z) : LoopH B x h := by
  intro Z hZ
  have key : ∀ n x h, μ x h = n → I x h → Z x h := by
    intro n
    induction n using Nat.strongRecOn with
    | _ n ih =>
      intro x h hn hI
      exact hZ x h (step x h Z hI fun x' h' hI' hlt => ih _ (hn ▸ hlt) x' h' rfl hI')
  exact key _ x h rfl h0

section
variable {K : Value → Prop} {KH : Value → Heap → Prop} {T E : Prop} {h : Heap} {k : IntKind} {a b : Int} {v x y : Value} {n m o : Nat}

@[simp] theorem ifV_true : ifV (.bool true) T E = T := rfl
@[simp] theorem ifV_false : ifV (.bool false) T E = E := rfl
@[simp] theorem ifV_dec {p : Prop} [Decidable p] : ifV (.bool (decide p)) T E ↔ (p → T) ∧ (¬ p → E) := by by_cases hp : p <;> simp [ifV, hp]
theorem ifV_bool (c : Bool) : ifV (.bool c) T E ↔ (c = true → T) ∧ (c = false → E) := by cases c <;> simp [ifV]
@[simp] theorem ifV_beq : ifV (.bool (a == b)) T E ↔ (a = b → T) ∧ (¬ a = b → E) := by rw [ifV_bool]; simp
@[simp] theorem ifV_bne : ifV (.bool (a != b)) T E ↔ (¬ a = b → T) ∧ (a = b → E) := by rw [ifV_bool]; simp
@[simp] theorem ifV_notb {c : Bool} : ifV (.bool !c) T E ↔ ifV (.bool c) E T := by cases c <;> simp

@[simp] theorem pNil_ptr {q : Addr} : pNil (.pointer (some q)) K = K (.pointer (some q)) := rfl
@[simp] theorem pNil_func {f : Nat} {c d : Array Value} : pNil (.func (.func f) c d) K = K (.func (.func f) c d) := rfl
@[simp] theorem pNil_yield {f : Nat} {c d : Array Value} : pNil (.func (.yield f) c d) K = K (.func (.yield f) c d) := rfl
@[simp] theorem pField_ptr {off : Nat} : pField off (.pointer (some ⟨n, o, none⟩)) K = K (.pointer (some ⟨n, o + off, none⟩)) := rfl
@[simp] theorem pLoad_ptr : pLoad h (.pointer (some ⟨n, o, none⟩)) K = (match hcell h ⟨n, o, none⟩ with
    | some v => K v
    | none => False) := rfl
@[simp] theorem pLoadN_ptr : pLoadN m h (.pointer (some ⟨n, o, none⟩)) K = (match cellsAt h n o m with
    | some l => K (.agg l.toArray)
    | none => False) := rfl
@[simp] theorem pIdx_sl {size len cap : Nat} : pIdx size (.slice (some ⟨n, o, none⟩) len cap) (.int k a) K ↔ (0 ≤ a ∧ a < len) ∧ K (.pointer (some ⟨n, o + a.toNat * size, none⟩)) := by
  simp [pIdx, and_assoc]
@[simp] theorem pIdxA_ptr {size len : Nat} : pIdxA size len (.pointer (some ⟨n, o, none⟩)) (.int k a) K ↔ (0 ≤ a ∧ a < len) ∧ K (.pointer (some ⟨n, o + a.toNat * size, none⟩)) := by
  simp [pIdxA, and_assoc]
@[simp] theorem pLen_sl {q : Option Addr} {cap : Nat} : pLen (.slice q n cap) K = K (.int .i64 n) := rfl
@[simp] theorem pLenS_str {s : ByteArray} : pLenS (.string s) K = K (.int .i64 s.size) := rfl
@[simp] theorem pCap_sl {q : Option Addr} {cap : Nat} : pCap (.slice q n cap) K = K (.int .i64 cap) := rfl
@[simp] theorem pExt_tuple {vs : Array Value} : pExt (.tuple vs) n K = (match vs[n]? with
    | some v => K v
    | none => False) := rfl
@[simp] theorem pPart1_agg {vs : Array Value} : pPart1 n (.agg vs) K = (match vs[n]? with
    | some v => K v
    | none => False) := rfl
@[simp] theorem pPartN_agg {vs : Array Value} : pPartN n m (.agg vs) K = K (.agg (vs.extract n (n + m))) := rfl
@[simp] theorem pPick_true : pPick (.bool true) x y K = K x := rfl
@[simp] theorem pPick_false : pPick (.bool false) x y K = K y := rfl
@[simp] theorem pMin_int : pMin (.int k a) (.int k b) K = K (.int k (if b < a then b else a)) := rfl
@[simp] theorem pMax_int : pMax (.int k a) (.int k b) K = K (.int k (if b > a then b else a)) := rfl
@[simp] theorem pConv_int {k' : IntKind} : pConv k (.int k' a) K = K (.int k (k.wrap a)) := rfl
@[simp] theorem pUn_not {c : Bool} : pUn .not (.bool c) K = K (.bool !c) := rfl
@[simp] theorem pUn_neg : pUn .neg (.int k a) K = K (.int k (k.wrap (0 - a))) := rfl
@[simp] theorem pBin_add : pBin .add (.int k a) (.int k b) K ↔ K (.int k (k.wrap (a + b))) := by simp [pBin]
@[simp] theorem pBin_sub : pBin .sub (.int k a) (.int k b) K ↔ K (.int k (k.wrap (a - b))) := by simp [pBin]
@[simp] theorem pBin_mul : pBin .mul (.int k a) (.int k b) K ↔ K (.int k (k.wrap (a * b))) := by simp [pBin]
@[simp] theorem pBin_quo : pBin .quo (.int k a) (.int k b) K ↔ b ≠ 0 ∧ K (.int k (k.wrap (a.tdiv b))) := by simp [pBin]
@[simp] theorem pBin_rem : pBin .rem (.int k a) (.int k b) K ↔ b ≠ 0 ∧ K (.int k (a.tmod b)) := by simp [pBin]
@[simp] theorem pBin_eql : pBin .eql (.int k a) (.int k b) K ↔ K (.bool (a == b)) := by simp [pBin]
@[simp] theorem pBin_neq : pBin .neq (.int k a) (.int k b) K ↔ K (.bool (a != b)) := by simp [pBin]
@[simp] theorem pBin_lss : pBin .lss (.int k a) (.int k b) K ↔ K (.bool (decide (a < b))) := by simp [pBin]
@[simp] theorem pBin_leq : pBin .leq (.int k a) (.int k b) K ↔ K (.bool (decide (a ≤ b))) := by simp [pBin]
@[simp] theorem pBin_gtr : pBin .gtr (.int k a) (.int k b) K ↔ K (.bool (decide (b < a))) := by simp [pBin]
@[simp] theorem pBin_geq : pBin .geq (.int k a) (.int k b) K ↔ K (.bool (decide (b ≤ a))) := by simp [pBin]
@[simp] theorem pEq_ptr_nil {q : Option Addr} : pEq false .ptr (.pointer q) (.pointer none) K ↔ K (.bool q.isNone) := by cases q <;> simp [pEq]
@[simp] theorem pNe_ptr_nil {q : Option Addr} : pEq true .ptr (.pointer q) (.pointer none) K ↔ K (.bool q.isSome) := by cases q <;> simp [pEq]
@[simp] theorem pEq_slice_nil {q : Option Addr} {c : Nat} : pEq false .slice (.slice q n c) (.slice none 0 0) K ↔ K (.bool q.isNone) := by cases q <;> simp [pEq]
@[simp] theorem pNe_slice_nil {q : Option Addr} {c : Nat} : pEq true .slice (.slice q n c) (.slice none 0 0) K ↔ K (.bool q.isSome) := by cases q <;> simp [pEq]
@[simp] theorem pEq_iface_nil : pEq false .iface .nilIface .nilIface K ↔ K (.bool true) := by simp [pEq]
@[simp] theorem pNe_iface_nil : pEq true .iface .nilIface .nilIface K ↔ K (.bool false) := by simp [pEq]
@[simp] theorem pEq_bool {c d : Bool} : pEq false .bool (.bool c) (.bool d) K ↔ K (.bool (c == d)) := by simp [pEq]
@[simp] theorem pNe_bool {c d : Bool} : pEq true .bool (.bool c) (.bool d) K ↔ K (.bool (c != d)) := by cases c <;> cases d <;> simp [pEq]
@[simp] theorem ifV_beqB {c d : Bool} : ifV (.bool (c == d)) T E ↔ (c = d → T) ∧ (¬ c = d → E) := by cases c <;> cases d <;> simp
@[simp] theorem ifV_bneB {c d : Bool} : ifV (.bool (c != d)) T E ↔ (¬ c = d → T) ∧ (c = d → E) := by cases c <;> cases d <;> simp

@[simp] theorem plain_int : plainCell (.int k a) = true := rfl
@[simp] theorem plain_bool {c : Bool} : plainCell (.bool c) = true := rfl
@[simp] theorem plain_string {c : ByteArray} : plainCell (.string c) = true := rfl
@[simp] theorem plain_ptr {q : Option Addr} : plainCell (.pointer q) = true := rfl
@[simp] theorem plain_slice {q : Option Addr} : plainCell (.slice q n m) = true := rfl
@[simp] theorem plain_map {q : Option Nat} : plainCell (.map q) = true := rfl
@[simp] theorem plain_func {f : Fn} {c d : Array Value} : plainCell (.func f c d) = true := rfl
@[simp] theorem plain_nilFunc : plainCell .nilFunc = true := rfl
@[simp] theorem plain_nilIface : plainCell .nilIface = true := rfl
@[simp] theorem plain_iface {t : TypeId} : plainCell (.iface t v) = true := rfl
@[simp] theorem cells_int : (Value.int k a).cells = #[.int k a] := rfl
@[simp] theorem cells_bool {c : Bool} : (Value.bool c).cells = #[.bool c] := rfl
@[simp] theorem cells_string {c : ByteArray} : (Value.string c).cells = #[.string c] := rfl
@[simp] theorem cells_ptr {q : Option Addr} : (Value.pointer q).cells = #[.pointer q] := rfl
@[simp] theorem cells_slice {q : Option Addr} : (Value.slice q n m).cells = #[.slice q n m] := rfl
@[simp] theorem cells_map {q : Option Nat} : (Value.map q).cells = #[.map q] := rfl
@[simp] theorem cells_func {f : Fn} {c d : Array Value} : (Value.func f c d).cells = #[.func f c d] := rfl
@[simp] theorem cells_nilFunc : (Value.nilFunc).cells = #[.nilFunc] := rfl
@[simp] theorem cells_nilIface : (Value.nilIface).cells = #[.nilIface] := rfl
@[simp] theorem cells_iface {t : TypeId} : (Value.iface t v).cells = #[.iface t v] := rfl
@[simp] theorem cells_agg {c : Array Value} : (Value.agg c).cells = c := rfl

theorem callV_func {P : Program} {f : Nat} {first captured : Array Value} {args : List Value} (hc : CallsH P f (first ++ args.toArray ++ captured) h KH) :
    callV P (.func (.func f) first captured) args.toArray h KH := hc

theorem wrap_in {n : Int} (h0 : k.min ≤ n) (h1 : n ≤ k.max) : k.wrap n = n := by
  unfold IntKind.wrap
  cases k <;> simp only [IntKind.bits, IntKind.signed, IntKind.min, IntKind.max, Bool.true_and, Bool.false_and, if_true, Bool.false_eq_true, if_false] at * <;> (try split) <;> simp at * <;> omega

theorem w64 {n : Int} (h0 : -9223372036854775808 ≤ n) (h1 : n ≤ 9223372036854775807) : IntKind.i64.wrap n = n := wrap_in h0 h1

/-- A box: a new block. -/
theorem pBox_of {t : TypeId} (hk : KH (.pointer (some ⟨h.size, 0, none⟩)) (h.push (.cells v.cells t (0, 0)))) : pBox t v h KH := hk

theorem pStore_of {a : Value} {c i : Nat} {cs : List Value} {T : TypeId} {sz : Nat} (ha : a = .pointer (some ⟨c, i, none⟩)) (hb : h[c]? = some (.cells cs.toArray T (0, 0)))
    (hs : v.cells.size = sz) (hle : i + v.cells.size ≤ cs.length) (hp : ∀ u ∈ v.cells.toList, plainCell u = true)
    (hk : KH undef (upd h c (.cells (over cs i v.cells.toList).toArray T (0, 0)))) : pStore sz a v h KH := by
  subst ha
  exact ⟨hs, storeL_of _ _ _ cs hb (by simpa using hle) hp hk⟩
end

end Go.Mh
