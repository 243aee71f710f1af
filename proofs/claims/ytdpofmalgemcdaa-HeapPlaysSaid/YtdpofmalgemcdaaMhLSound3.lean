/- A text of the proofs of seat Ytdpofmalgemcdaa: 'Mh.LSound3'. It has no condition of its own. -/
import Derived.Test.YtdpofmalgemcdaaMhLSound2
set_option linter.unusedVariables false
set_option linter.unusedSimpArgs false
namespace Go.Mh
open Go

section
variable {P : Program} {h : Heap}

theorem lop_sound {ρ : Operand → Value} {o : Oper} {K : Value → Heap → Prop} (hq : lop P ρ o.op h K) : wpS P (execOp ρ o) h (nextK P K) := by
  obtain ⟨dst, op, type, pos, after, guard⟩ := o
  dsimp only at hq
  unfold execOp
  cases op <;> simp only [lop] at hq
  case box t v => exact wpv (box_sound hq)
  case alloc t =>
    split at hq
    · rename_i i hi
      split at hq
      · rename_i z hz; exact wpv (alloc_sound hi hz hq)
      · exact hq.elim
    · exact hq.elim
  case buildSlice t len parts =>
    split at hq
    · rename_i e ht
      split at hq
      · rename_i i hi
        split at hq
        · rename_i z hz
          split at hq
          · rename_i h1 h2
            refine wpv (buildSlice_sound ht hi hz (Nat.le_of_ble_eq_true h1) (Nat.eq_of_beq_eq_true h2) ?_)
            have : (parts.map fun (x : Nat × Operand) => (x.1, ρ x.2)).toList.map (fun (x : Nat × Value) => (x.1 * i.size, i.size, x.2)) = parts.toList.map fun (x : Nat × Operand) => (x.1 * i.size, i.size, ρ x.2) := by simp
            show pBuildSlice e _ ((parts.map fun (x : Nat × Operand) => (x.1, ρ x.2)).toList.map (fun (x : Nat × Value) => (x.1 * i.size, i.size, x.2))) len h K
            rw [this]; exact hq
          · exact hq.elim
        · exact hq.elim
      · exact hq.elim
    · exact hq.elim
  case makeSlice t l c =>
    split at hq
    · rename_i e ht
      split at hq
      · rename_i i hi
        split at hq
        · rename_i z hz
          split at hq
          · rename_i h2; exact wpv (makeSlice_sound ht hi hz (Nat.eq_of_beq_eq_true h2) hq)
          · exact hq.elim
        · exact hq.elim
      · exact hq.elim
    · exact hq.elim
  case makeMap t r =>
    cases r with
    | none => exact wpv hq
    | some _ => exact hq.elim
  case store t a x =>
    split at hq
    · rename_i i hi; exact wpu (store_sound hi hq)
    · exact hq.elim
  case mapUpdate t m k x =>
    split at hq
    · rename_i kt et ht
      split at hq
      · rename_i kd hk
        split at hq
        · rename_i hs; exact wpu (mapSet_sound ht hk hs hq)
        · exact hq.elim
      · exact hq.elim
    · exact hq.elim
  case insert t m k x =>
    split at hq
    · rename_i kt et ht
      split at hq
      · rename_i kd hk
        split at hq
        · rename_i hs; exact wpu (mapSet_sound ht hk hs hq)
        · exact hq.elim
      · exact hq.elim
    · exact hq.elim
  case mapEntry t m k =>
    split at hq
    · rename_i kt et ht
      split at hq
      · rename_i kd ei hk he
        split at hq
        · rename_i z hs hz; exact wpv (mapEntry_sound ht hk hs he hz hq)
        · exact hq.elim
      · exact hq.elim
    · exact hq.elim
  case entryStore t m s x => exact wpu (entryStore_sound hq)
  case call c =>
    obtain ⟨callee, args, argTypes⟩ := c
    dsimp only at hq ⊢
    have core : ∀ {b : Builtin} {s : Sem Value}, (∀ cs, builtin b argTypes type cs (args.map ρ) = (do pure (.value (← s)))) → wpS P s h K →
        wpS P (do let d ← resolve ρ { callee := .builtin b, args, argTypes } type; invoke d.target d.args) h (nextK P K) := by
      intro b s hs hk
      show wpS P (builtin b argTypes type _ (args.map ρ)) h _
      rw [hs]; exact wpv hk
    have two : ∀ {x y : Operand}, args.toList = [x, y] → (args.map ρ).toList = [ρ x, ρ y] := fun e => by simp [e]
    split at hq
    · split at hq
      · rename_i t xt s x hT hX hargs
        split at hq
        · rename_i e xe ht hx
          split at hq
          · rename_i i hi
            split at hq
            · rename_i z hz
              split at hq
              · exact core (fun _ => rfl) (append_sound hT hX (two hargs) ht hx hi hz hq)
              · exact hq.elim
            · exact hq.elim
          · exact hq.elim
        · exact hq.elim
      · exact hq.elim
    · split at hq
      · rename_i t m k hT hargs
        split at hq
        · rename_i kt et ht
          split at hq
          · rename_i kd hk
            split at hq
            · rename_i hs; exact core (fun _ => rfl) (delete_sound hT (two hargs) ht hk hs hq)
            · exact hq.elim
          · exact hq.elim
        · exact hq.elim
      · exact hq.elim
    · exact callV_wp (by simpa only [listMap_toArray] using hq)
    · exact hq.elim
  all_goals exact hq.elim

def quietB : Op → Bool
  | .move _ | .assign _ | .pick .. | .load .. | .nilCheck _ | .binOp .. | .unOp .. | .convert .. | .makeInterface .. | .makeFunc .. | .slice .. | .fieldAddr .. | .field ..
  | .indexAddr .. | .index .. | .lookup .. | .extract .. | .build .. => true
  | .call { callee := .builtin .len, .. } | .call { callee := .builtin .cap, .. } | .call { callee := .builtin .min, .. } | .call { callee := .builtin .max, .. } => true
  | _ => false

/-- Operations that look at nothing but their operands. -/
def pureB (P : Program) : Op → Bool
  | .load .. | .lookup .. => false
  | .call { callee := .builtin .len, argTypes, .. } => (match argTypes[0]? with
    | some t => (match P.underlying t with
      | some (.map _ _) => false
      | _ => true)
    | none => true)
  | _ => true

/-- Loud operations that only add a block. -/
def addsB : Op → Bool
  | .box .. | .alloc _ | .buildSlice .. | .makeSlice .. | .makeMap .. => true
  | _ => false

theorem pushed {h : Heap} {r : Nat} {x o : Obj} (hx : h[r]? = some x) : (h.push o)[r]? = some x := by
  have := (Array.getElem?_eq_some_iff.1 hx).1
  rw [Array.getElem?_push]; simp [Nat.ne_of_lt this, hx]

theorem hcell_push {h : Heap} {a : Addr} {v : Value} {o : Obj} (hv : hcell h a = some v) : hcell (h.push o) a = some v := by
  unfold hcell at *
  split at hv
  · rename_i hb; rw [pushed hb]; exact hv
  · cases hv

theorem cellsAt_push {h : Heap} {b : Nat} {o : Obj} : ∀ {n i : Nat} {l : List Value}, cellsAt h b i n = some l → cellsAt (h.push o) b i n = some l
  | 0, _, _, hl => hl
  | n + 1, i, l, hl => by
    simp only [cellsAt] at *
    split at hl
    · rename_i v hv
      rw [hcell_push hv]
      split at hl
      · rename_i l' hl'; rw [cellsAt_push hl']; exact hl
      · cases hl
    · cases hl

/-- What is read of a heap is read of it with one more block. -/
theorem qop_push {ρ : Operand → Value} {op : Op} {o : Obj} {K : Value → Prop} (hq : qop P ρ op h K) : qop P ρ op (h.push o) K := by
  cases op <;> simp only [qop] at hq ⊢ <;> try exact hq
  case load t a =>
    split at hq
    · rename_i d i hd hi
      split at hq
      · rename_i ha
        unfold pLoadN at *
        split at hq
        · split at hq
          · rename_i l hl; rw [cellsAt_push hl]; exact hq
          · exact hq.elim
        · exact hq.elim
      · rename_i ha
        unfold pLoad at *
        split at hq
        · split at hq
          · rename_i v hv; rw [hcell_push hv]; exact hq
          · exact hq.elim
        · exact hq.elim
    · exact hq.elim
  case lookup t m k ok =>
    split at hq
    · split at hq
      · split at hq
        · unfold pLook at *
          split at hq
          · exact hq
          · rename_i r
            split at hq
            · rename_i es clock hm; rw [pushed hm]; exact hq
            · exact hq.elim
          · exact hq.elim
        · exact hq.elim
      · exact hq.elim
    · exact hq.elim
  case call c =>
    split at hq
    · split at hq
      · split at hq
        · exact hq
        · exact hq
        · unfold pLenM at *
          split at hq
          · exact hq
          · rename_i r
            split at hq
            · rename_i es clock hm; rw [pushed hm]; exact hq
            · exact hq.elim
          · exact hq.elim
        · exact hq
        · exact hq.elim
      · exact hq.elim
    all_goals exact hq

/-- A pure operation looks at no heap. -/
theorem qop_pure {ρ : Operand → Value} {op : Op} {h' : Heap} {K : Value → Prop} (hp : pureB P op = true) (hq : qop P ρ op h K) : qop P ρ op h' K := by
  cases op <;> simp only [qop] at hq ⊢ <;> try exact hq
  case load t a => cases hp
  case lookup t m k ok => cases hp
  case call c =>
    obtain ⟨callee, args, argTypes⟩ := c
    dsimp only at hq ⊢
    split at hq
    · split at hq
      · rename_i t x hT hx
        split at hq
        · exact hq
        · exact hq
        · rename_i hd
          simp [pureB, hT, hd] at hp
        · exact hq
        · exact hq.elim
      · exact hq.elim
    all_goals exact hq

theorem storeL_mono {b : Nat} {K K' : Heap → Prop} (hm : ∀ h, K h → K' h) : ∀ (l : List Value) (o : Nat) (h : Heap), storeL h b o l K → storeL h b o l K'
  | [], _, _, hl => hm _ hl
  | _ :: r, o, _, hl => ⟨hl.1, hl.2.1, hl.2.2.1, storeL_mono hm r _ _ hl.2.2.2⟩

theorem lop_mono {ρ : Operand → Value} {op : Op} {K K' : Value → Heap → Prop} (hm : ∀ v h, K v h → K' v h) (hl : lop P ρ op h K) : lop P ρ op h K' := by
  cases op <;> simp only [lop] at hl ⊢ <;> try exact hl.elim
  case box t v => exact hm _ _ hl
  case alloc t =>
    split at hl
    · split at hl
      · exact hm _ _ hl
      · exact hl.elim
    · exact hl.elim
  case buildSlice t len parts =>
    split at hl
    · split at hl
      · split at hl
        · split at hl
          · exact ⟨hl.1, hm _ _ hl.2⟩
          · exact hl.elim
        · exact hl.elim
      · exact hl.elim
    · exact hl.elim
  case makeSlice t l c =>
    split at hl
    · split at hl
      · split at hl
        · split at hl
          · unfold pMakeSlice at *
            split at hl
            · exact ⟨hl.1, hl.2.1, hl.2.2.1, hl.2.2.2.1, hm _ _ hl.2.2.2.2⟩
            · exact hl.elim
          · exact hl.elim
        · exact hl.elim
      · exact hl.elim
    · exact hl.elim
  case makeMap t r =>
    cases r with
    | none => exact hm _ _ hl
    | some _ => exact hl.elim
  case store t a x =>
    split at hl
    · unfold pStore at *
      split at hl
      · exact ⟨hl.1, storeL_mono (hm _) _ _ _ hl.2⟩
      · exact hl.elim
    · exact hl.elim
  case mapUpdate t m k x =>
    split at hl
    · split at hl
      · split at hl
        · unfold pMapSet at *
          split at hl
          · split at hl
            · split at hl
              · exact hm _ _ hl
              · exact hm _ _ hl
              · exact hl.elim
            · exact hl.elim
          · exact hl.elim
        · exact hl.elim
      · exact hl.elim
    · exact hl.elim
  case insert t m k x =>
    split at hl
    · split at hl
      · split at hl
        · unfold pMapSet at *
          split at hl
          · split at hl
            · split at hl
              · exact hm _ _ hl
              · exact hm _ _ hl
              · exact hl.elim
            · exact hl.elim
          · exact hl.elim
        · exact hl.elim
      · exact hl.elim
    · exact hl.elim
  case mapEntry t m k =>
    split at hl
    · split at hl
      · split at hl
        · unfold pMapEntry at *
          split at hl
          · split at hl
            · split at hl
              · exact hm _ _ hl
              · exact hm _ _ hl
              · exact hl.elim
            · exact hl.elim
          · exact hl.elim
        · exact hl.elim
      · exact hl.elim
    · exact hl.elim
  case entryStore t m s x =>
    unfold pEntryStore at *
    split at hl
    · split at hl
      · split at hl
        · exact hm _ _ hl
        · exact hl.elim
      · exact hl.elim
    · exact hl.elim
  case call c =>
    split at hl
    · split at hl
      · split at hl
        · split at hl
          · split at hl
            · split at hl
              · unfold pAppend at *
                split at hl
                · split at hl
                  · split at hl
                    · rename_i hle
                      rw [if_pos hle]
                      split at hl
                      · exact storeL_mono (hm _) _ _ _ hl
                      · exact hm _ _ hl
                      · exact hl.elim
                    · rename_i hle
                      rw [if_neg hle]
                      split at hl
                      · exact ⟨hl.1, hl.2.1, fun c h1 h2 => hm _ _ (hl.2.2 c h1 h2)⟩
                      · exact hl.elim
                  · exact hl.elim
                · exact hl.elim
              · exact hl.elim
            · exact hl.elim
          · exact hl.elim
        · exact hl.elim
      · exact hl.elim
    · split at hl
      · split at hl
        · split at hl
          · split at hl
            · unfold pDelete at *
              split at hl
              · exact hm _ _ hl
              · split at hl
                · split at hl
                  · exact hm _ _ hl
                  · exact hm _ _ hl
                  · exact hl.elim
                · exact hl.elim
              · exact hl.elim
            · exact hl.elim
          · exact hl.elim
        · exact hl.elim
      · exact hl.elim
    · exact callV.mono hl hm
    · exact hl.elim

theorem adds_loud {op : Op} (ha : addsB op = true) : quietB op = false := by
  cases op <;> first | rfl | cases ha

theorem pBox_adds {t : TypeId} {v : Value} {K : Value → Heap → Prop} (hq : pBox t v h K) : pBox t v h (fun v h' => K v h' ∧ ∃ o, h' = h.push o) := ⟨hq, _, rfl⟩

theorem lop_adds {ρ : Operand → Value} {op : Op} {K : Value → Heap → Prop} (ha : addsB op = true) (hq : lop P ρ op h K) : lop P ρ op h (fun v h' => K v h' ∧ ∃ o, h' = h.push o) := by
  cases op <;> simp only [lop] at hq ⊢ <;> try (cases ha)
  case box t v => exact pBox_adds hq
  case alloc t =>
    split at hq
    · split at hq
      · exact pBox_adds hq
      · exact hq.elim
    · exact hq.elim
  case buildSlice t len parts =>
    split at hq
    · split at hq
      · split at hq
        · split at hq
          · exact ⟨hq.1, hq.2, _, rfl⟩
          · exact hq.elim
        · exact hq.elim
      · exact hq.elim
    · exact hq.elim
  case makeSlice t l c =>
    split at hq
    · split at hq
      · split at hq
        · split at hq
          · unfold pMakeSlice at *
            split at hq
            · exact ⟨hq.1, hq.2.1, hq.2.2.1, hq.2.2.2.1, hq.2.2.2.2, _, rfl⟩
            · exact hq.elim
          · exact hq.elim
        · exact hq.elim
      · exact hq.elim
    · exact hq.elim
  case makeMap t r =>
    cases r with
    | none => exact ⟨hq, _, rfl⟩
    | some _ => exact hq.elim

/-- A quiet operation has one value. -/
def Det (T : (Value → Prop) → Prop) : Prop := ∀ K, T K → ∃ v, K v ∧ ∀ K' : Value → Prop, K' v → T K'

theorem det_one {T : (Value → Prop) → Prop} (v : Value) (h1 : ∀ K, T K → K v) (h2 : ∀ K : Value → Prop, K v → T K) : Det T :=
  fun K hK => ⟨v, h1 K hK, h2⟩

theorem det_false {T : (Value → Prop) → Prop} (hf : ∀ K, T K → False) : Det T := fun K hK => (hf K hK).elim

theorem det_pPick (c a b : Value) : Det (pPick c a b) := by
  intro K hK; unfold pPick at *; split at hK
  · exact ⟨_, hK, fun _ h => h⟩
  · exact ⟨_, hK, fun _ h => h⟩
  · exact hK.elim

theorem det_pLoad (h : Heap) (a : Value) : Det (pLoad h a) := by
  intro K hK; unfold pLoad at *; split at hK
  · split at hK
    · rename_i v hv; exact ⟨_, hK, fun _ h => h⟩
    · exact hK.elim
  · exact hK.elim

theorem det_pLoadN (n : Nat) (h : Heap) (a : Value) : Det (pLoadN n h a) := by
  intro K hK; unfold pLoadN at *; split at hK
  · split at hK
    · rename_i v hv; exact ⟨_, hK, fun _ h => h⟩
    · exact hK.elim
  · exact hK.elim

theorem det_pNil (v : Value) : Det (pNil v) := by
  intro K hK; unfold pNil at *; split at hK
  · exact ⟨_, hK, fun _ h => h⟩
  · exact ⟨_, hK, fun _ h => h⟩
  · exact ⟨_, hK, fun _ h => h⟩
  · exact hK.elim

theorem det_pBin (op : BinOp) (x y : Value) : Det (pBin op x y) := by
  intro K hK; unfold pBin at *
  split at hK <;> first
    | exact hK.elim
    | (obtain ⟨h1, h2, hk⟩ := hK; exact ⟨_, hk, fun _ h => ⟨h1, h2, h⟩⟩)
    | (obtain ⟨h1, hk⟩ := hK; exact ⟨_, hk, fun _ h => ⟨h1, h⟩⟩)
    | exact ⟨_, hK, fun _ h => h⟩

theorem det_pEq (neg : Bool) (d : EqK) (x y : Value) : Det (pEq neg d x y) := by
  intro K hK; unfold pEq at *
  split at hK <;> first
    | exact hK.elim
    | exact ⟨_, hK, fun _ h => h⟩

theorem det_pBinT (d : TypeDesc) (op : BinOp) (lit : Bool) (x y : Value) : Det (pBinT d op lit x y) := by
  intro K hK; unfold pBinT at *
  split at hK
  · split at hK
    · exact hK.elim
    · split at hK
      · exact det_pEq _ _ _ _ K hK
      · exact det_pEq _ _ _ _ K hK
      · exact hK.elim
  · exact det_pBin _ _ _ K hK

theorem det_pUn (op : UnOp) (x : Value) : Det (pUn op x) := by
  intro K hK; unfold pUn at *
  split at hK <;> first
    | exact hK.elim
    | exact ⟨_, hK, fun _ h => h⟩

theorem det_pConv (k : IntKind) (x : Value) : Det (pConv k x) := by
  intro K hK; unfold pConv at *
  split at hK <;> first
    | exact hK.elim
    | exact ⟨_, hK, fun _ h => h⟩

theorem det_pField (off : Nat) (x : Value) : Det (pField off x) := by
  intro K hK; unfold pField at *
  split at hK <;> first
    | exact hK.elim
    | exact ⟨_, hK, fun _ h => h⟩

theorem det_pIdx (size : Nat) (x i : Value) : Det (pIdx size x i) := by
  intro K hK; unfold pIdx at *
  split at hK <;> first
    | exact hK.elim
    | exact ⟨_, hK.2.2, fun _ h => ⟨hK.1, hK.2.1, h⟩⟩

theorem det_pIdxA (size len : Nat) (x i : Value) : Det (pIdxA size len x i) := by
  intro K hK; unfold pIdxA at *
  split at hK <;> first
    | exact hK.elim
    | exact ⟨_, hK.2.2, fun _ h => ⟨hK.1, hK.2.1, h⟩⟩

theorem det_pSlice (size : Nat) (x : Value) (lo hi mx : Option Value) : Det (pSlice size x lo hi mx) := by
  intro K hK; unfold pSlice at *
  split at hK
  · split at hK
    · obtain ⟨h1, h2, h3, h4, h5, hk⟩ := hK
      exact ⟨_, hk, fun _ h => ⟨h1, h2, h3, h4, h5, h⟩⟩
    · exact hK.elim
  · exact hK.elim

theorem det_pSliceS (x : Value) (lo hi : Option Value) : Det (pSliceS x lo hi) := by
  intro K hK; unfold pSliceS at *
  split at hK
  · split at hK
    · obtain ⟨h1, h2, h3, hk⟩ := hK
      exact ⟨_, hk, fun _ h => ⟨h1, h2, h3, h⟩⟩
    · exact hK.elim
  · exact hK.elim

theorem det_pExt (x : Value) (i : Nat) : Det (pExt x i) := by
  intro K hK; unfold pExt at *
  split at hK
  · split at hK
    · exact ⟨_, hK, fun _ h => h⟩
    · exact hK.elim
  · exact hK.elim

theorem det_pPart1 (off : Nat) (x : Value) : Det (pPart1 off x) := by
  intro K hK; unfold pPart1 at *
  split at hK
  · split at hK
    · exact ⟨_, hK, fun _ h => h⟩
    · exact hK.elim
  · exact hK.elim

theorem det_pPartN (off n : Nat) (x : Value) : Det (pPartN off n x) := by
  intro K hK; unfold pPartN at *
  split at hK
  · exact ⟨_, hK, fun _ h => h⟩
  · exact hK.elim

theorem det_pLen (x : Value) : Det (pLen x) := by
  intro K hK; unfold pLen at *
  split at hK
  · exact ⟨_, hK, fun _ h => h⟩
  · exact hK.elim

theorem det_pLenS (x : Value) : Det (pLenS x) := by
  intro K hK; unfold pLenS at *
  split at hK
  · exact ⟨_, hK, fun _ h => h⟩
  · exact hK.elim

theorem det_pCap (x : Value) : Det (pCap x) := by
  intro K hK; unfold pCap at *
  split at hK
  · exact ⟨_, hK, fun _ h => h⟩
  · exact hK.elim

theorem det_pLenM (h : Heap) (x : Value) : Det (pLenM h x) := by
  intro K hK; unfold pLenM at *
  split at hK
  · exact ⟨_, hK, fun _ h => h⟩
  · split at hK
    · exact ⟨_, hK, fun _ h => h⟩
    · exact hK.elim
  · exact hK.elim

theorem det_pMin (x y : Value) : Det (pMin x y) := by
  intro K hK; unfold pMin at *
  split at hK
  · exact ⟨_, hK, fun _ h => h⟩
  · exact hK.elim

theorem det_pMax (x y : Value) : Det (pMax x y) := by
  intro K hK; unfold pMax at *
  split at hK
  · exact ⟨_, hK, fun _ h => h⟩
  · exact hK.elim

theorem det_pLook (kd : TypeDesc) (zero : Value) (ok : Bool) (h : Heap) (m k : Value) : Det (pLook kd zero ok h m k) := by
  intro K hK; unfold pLook at *
  split at hK
  · exact ⟨_, hK, fun _ h => h⟩
  · split at hK
    · split at hK
      · exact ⟨_, hK, fun _ h => h⟩
      · exact ⟨_, hK, fun _ h => h⟩
      · exact hK.elim
    · exact hK.elim
  · exact hK.elim

theorem det_pBuild (zero : List Value) (parts : List (Nat × Nat × Value)) : Det (pBuild zero parts) := by
  intro K hK; exact ⟨_, hK.2, fun _ h => ⟨hK.1, h⟩⟩

theorem det_two {T U : (Value → Prop) → Prop} {T' : Value → (Value → Prop) → Prop} (hT : Det T) (hT' : ∀ u, Det (T' u)) (hU : ∀ K, U K = T fun u => T' u K) : Det U := by
  intro K hK
  rw [hU] at hK
  obtain ⟨u, hu, h1⟩ := hT _ hK
  obtain ⟨v, hv, h2⟩ := hT' u K hu
  exact ⟨v, hv, fun K' hK' => by rw [hU]; exact h1 _ (h2 K' hK')⟩

theorem qop_det (ρ : Operand → Value) (op : Op) : Det (qop P ρ op h) := by
  intro K hq
  cases op <;> simp only [qop] at hq ⊢ <;> try exact hq.elim
  case move x => exact ⟨_, hq, fun _ h => h⟩
  case assign x => exact ⟨_, hq, fun _ h => h⟩
  case pick c a b => exact det_pPick _ _ _ K hq
  case load t a =>
    split at hq
    · split at hq
      · exact det_pLoadN _ _ _ K hq
      · exact det_pLoad _ _ K hq
    · exact hq.elim
  case nilCheck x => exact det_pNil _ K hq
  case binOp op t x y yt =>
    split at hq
    · exact det_pBinT _ _ _ _ _ K hq
    · exact hq.elim
  case unOp op t x => exact det_pUn _ _ K hq
  case convert s d x =>
    split at hq
    · exact det_pConv _ _ K hq
    · exact hq.elim
  case makeInterface t x =>
    split at hq
    · exact hq.elim
    · exact ⟨_, hq, fun _ h => h⟩
    · exact hq.elim
  case makeFunc fn first captured => exact ⟨_, hq, fun _ h => h⟩
  case slice t x lo hi mx =>
    split at hq
    · split at hq
      · exact det_pSlice _ _ _ _ _ K hq
      · exact hq.elim
    · split at hq
      · exact det_pSliceS _ _ _ K hq
      · exact hq.elim
    · exact hq.elim
  case fieldAddr s x f =>
    split at hq
    · split at hq
      · split at hq
        · split at hq
          · exact hq.elim
          · exact det_pField _ _ K hq
        · exact hq.elim
      · exact hq.elim
    · exact hq.elim
  case field t x f =>
    split at hq
    · split at hq
      · split at hq
        · split at hq
          · exact det_pPartN _ _ _ K hq
          · exact det_pPart1 _ _ K hq
        · exact hq.elim
      · exact hq.elim
    · exact hq.elim
  case indexAddr t x i =>
    split at hq
    · split at hq
      · exact det_pIdx _ _ _ K hq
      · exact hq.elim
    · split at hq
      · exact det_pIdxA _ _ _ _ K hq
      · exact hq.elim
    · exact hq.elim
  case lookup t m k ok =>
    split at hq
    · split at hq
      · split at hq
        · exact det_pLook _ _ _ _ _ _ K hq
        · exact hq.elim
      · exact hq.elim
    · exact hq.elim
  case extract x i => exact det_pExt _ _ K hq
  case build t parts =>
    split at hq
    · split at hq
      · split at hq
        · exact det_pBuild _ _ K hq
        · exact hq.elim
      · exact hq.elim
    · split at hq
      · exact det_pBuild _ _ K hq
      · exact hq.elim
    · exact hq.elim
  case call c =>
    split at hq
    · split at hq
      · split at hq
        · exact det_pLen _ K hq
        · exact det_pLenS _ K hq
        · exact det_pLenM _ _ K hq
        · exact ⟨_, hq, fun _ h => h⟩
        · exact hq.elim
      · exact hq.elim
    · split at hq
      · split at hq
        · exact det_pCap _ K hq
        · exact hq.elim
      · exact hq.elim
    · split at hq
      · exact det_pMin _ _ K hq
      · exact det_two (det_pMin _ _) (fun u => det_pMin u _) (fun _ => rfl) K hq
      · exact hq.elim
    · split at hq
      · exact det_pMax _ _ K hq
      · exact det_two (det_pMax _ _) (fun u => det_pMax u _) (fun _ => rfl) K hq
      · exact hq.elim
    · exact hq.elim

end
end Go.Mh
