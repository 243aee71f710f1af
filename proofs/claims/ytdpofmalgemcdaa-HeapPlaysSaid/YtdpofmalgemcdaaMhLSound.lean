/- A text of the proofs of seat Ytdpofmalgemcdaa: 'Mh.LSound'. It has no condition of its own. -/
import Derived.Test.YtdpofmalgemcdaaMhQSound4
set_option linter.unusedVariables false
set_option linter.unusedSimpArgs false
namespace Go.Mh
open Go

def nextK (P : Program) (K : Value → Heap → Prop) : Next → Heap → Prop
  | .value v, h => K v h
  | .skip, h => K undef h
  | .enter f args, h => CallsW P f args h K
  | .round l f tmps assign body, h => RoundH P l f tmps assign body h K
  | _, _ => False

/-- The loud operations: what makes, writes, calls. -/
def lop (P : Program) (ρ : Operand → Value) (op : Op) (h : Heap) (K : Value → Heap → Prop) : Prop :=
  match op with
  | .box t v => pBox t (ρ v) h K
  | .alloc t => (match P.info? t with
    | some i => (match i.zero with
      | some z => pBox t z h K
      | none => False)
    | none => False)
  | .buildSlice t len parts => (match P.underlying t with
    | some (.slice e) => (match P.info? e with
      | some i => (match i.zero with
        | some z => (match Nat.ble (len * i.size) 16777216, Nat.beq z.cells.size i.size with
          | true, true => pBuildSlice e (zerosL z.cells.toList len) (parts.toList.map fun (j, x) => (j * i.size, i.size, ρ x)) len h K
          | _, _ => False)
        | none => False)
      | none => False)
    | _ => False)
  | .makeSlice t l c => (match P.underlying t with
    | some (.slice e) => (match P.info? e with
      | some i => (match i.zero with
        | some z => (match Nat.beq z.cells.size i.size with
          | true => pMakeSlice e i.bytes z.cells.toList (ρ l) (ρ c) h K
          | false => False)
        | none => False)
      | none => False)
    | _ => False)
  | .makeMap _ none => pMakeMap h K
  | .store t a x => (match P.info? t with
    | some i => pStore i.size (ρ a) (ρ x) h K
    | none => False)
  | .mapUpdate t m k x | .insert t m k x => (match P.underlying t with
    | some (.map kt _) => (match P.underlying kt with
      | some kd => (match simpleKey kd with
        | true => pMapSet kd (ρ m) (ρ k) (ρ x) h K
        | false => False)
      | none => False)
    | _ => False)
  | .mapEntry t m k => (match P.underlying t with
    | some (.map kt et) => (match P.underlying kt, P.info? et with
      | some kd, some ei => (match simpleKey kd, ei.zero with
        | true, some z => pMapEntry kd z (ρ m) (ρ k) h K
        | _, _ => False)
      | _, _ => False)
    | _ => False)
  | .entryStore _ m s x => pEntryStore (ρ m) (ρ s) (ρ x) h K
  | .call c => (match c.callee with
    | .builtin .append => (match c.argTypes[0]?, c.argTypes[1]?, c.args.toList with
      | some t, some xt, [s, x] => (match P.underlying t, P.underlying xt with
        | some (.slice e), some (.slice _) => (match P.info? e with
          | some i => (match i.zero with
            | some z => (match Nat.beq z.cells.size i.size with
              | true => pAppend e i.size i.bytes z.cells.toList (ρ s) (ρ x) h K
              | false => False)
            | none => False)
          | none => False)
        | _, _ => False)
      | _, _, _ => False)
    | .builtin .delete => (match c.argTypes[0]?, c.args.toList with
      | some t, [m, k] => (match P.underlying t with
        | some (.map kt _) => (match P.underlying kt with
          | some kd => (match simpleKey kd with
            | true => pDelete kd (ρ m) (ρ k) h K
            | false => False)
          | none => False)
        | _ => False)
      | _, _ => False)
    | .value f => callV P (ρ f) (c.args.toList.map ρ).toArray h K
    | _ => False)
  | _ => False

section
variable {P : Program} {h : Heap}

theorem wpS_pure {α : Type} {a : α} {K : α → Heap → Prop} (hk : K a h) : wpS P (pure a : Sem α) h K := hk

theorem wpS_rd {α β : Type} {s : Sem α} {f : α → Sem β} {a : α} {K : β → Heap → Prop} (hs : rdS P s h = some a) (hk : wpS P (f a) h K) : wpS P (s >>= f) h K :=
  wpS_bind (wpS_of_rdS hs hk)

theorem wpv {s : Sem Value} {K : Value → Heap → Prop} (hs : wpS P s h K) : wpS P (do pure (Next.value (← s)) : Sem Next) h (nextK P K) :=
  wpS_bind (wpS_mono (fun _ _ hk => hk) hs)

theorem wpu {s : Sem Unit} {K : Value → Heap → Prop} (hs : wpS P s h fun _ h' => K undef h') : wpS P (do s; pure Next.skip : Sem Next) h (nextK P K) :=
  wpS_bind (wpS_mono (fun _ _ hk => hk) hs)

theorem box_sound {t : TypeId} {v : Value} {K : Value → Heap → Prop} (hq : pBox t v h K) : wpS P (Instr.box t v) h K := by
  unfold Instr.box newVar newRow
  exact hq

theorem alloc_sound {t : TypeId} {i : TypeInfo} {z : Value} {K : Value → Heap → Prop} (hi : P.info? t = some i) (hz : i.zero = some z) (hq : pBox t z h K) :
    wpS P (Instr.alloc t true (.tuple #[])) h K := by
  unfold Instr.alloc
  refine wpS_rd (rdS_zeroValue hi hz) ?_
  exact hq

theorem zeros_eq (z : Array Value) (n s : Nat) (hs : z.size = s) :
    (Array.range (n * s)).map (z[· % z.size]!) = (zerosL z.toList n).toArray := by
  subst hs
  apply Array.ext'
  simp only [Array.toList_map, Array.toList_range, zerosL]
  induction n with
  | zero => simp
  | succ n ih =>
    rw [Nat.succ_mul, List.range_add, List.map_append, ih, List.replicate_succ', List.flatten_append]
    congr 1
    simp only [List.map_map, List.flatten_cons, List.flatten_nil, List.append_nil]
    apply List.ext_getElem
    · simp
    · intro i h1 h2
      simp only [List.length_map, List.length_range] at h1
      simp [Function.comp, Nat.mod_eq_of_lt h1, h1]

theorem buildSlice_sound {t e : TypeId} {i : TypeInfo} {z : Value} {len : Nat} {parts : Array (Nat × Value)} {K : Value → Heap → Prop} (ht : P.underlying t = some (.slice e))
    (hi : P.info? e = some i) (hz : i.zero = some z) (hl : len * i.size ≤ 16777216) (hzs : z.cells.size = i.size)
    (hq : pBuildSlice e (zerosL z.cells.toList len) (parts.toList.map fun (j, x) => (j * i.size, i.size, x)) len h K) :
    wpS P (Instr.buildSlice t len parts) h K := by
  obtain ⟨hs, hk⟩ := hq
  have hze := zeros_eq z.cells len i.size hzs
  have hsz : (zerosL z.cells.toList len).length = ((Array.range (len * i.size)).map (z.cells[· % z.cells.size]!)).size := by
    rw [hze]; simp
  unfold Instr.buildSlice
  refine wpS_rd (rdS_underlying ht) ?_
  dsimp only
  refine wpS_rd (rdS_sizeOf hi) ?_
  rw [if_neg (by omega)]
  have fin : ∀ (zero : Array Value), (Array.range (len * i.size)).map (zero[· % zero.size]!) = (zerosL z.cells.toList len).toArray →
      wpS P (match Instr.fill (fun j => some (j * i.size, i.size)) ((Array.range (len * i.size)).map (zero[· % zero.size]!)) parts.toList with
        | some cells => do pure (.slice (some (← newRow e cells)) len len)
        | x => stuck "buildSlice: a part of the wrong size") h K := by
    intro zero hzero
    rw [hzero, fill_eq parts.toList _ _ (placed_all _) (by simpa using hs)]
    exact hk
  split
  · rename_i h0
    refine fin #[] ?_
    rw [← hze, h0]; simp
  · refine wpS_rd (rdS_zeroValue hi hz) ?_
    exact fin z.cells hze

theorem wrap_i64 {n : Int} (h0 : 0 ≤ n) (h1 : n < 2 ^ 63) : IntKind.i64.wrap n = n := by
  have e : n % (2 ^ IntKind.i64.bits : Int) = n := Int.emod_eq_of_lt h0 (by show n < 2 ^ 64; omega)
  have f : decide (n ≥ (2 ^ (IntKind.i64.bits - 1) : Int)) = false := decide_eq_false (by show ¬ (n ≥ 2 ^ 63); omega)
  unfold IntKind.wrap
  dsimp only
  rw [e, f]; simp

theorem makeSlice_sound {t e : TypeId} {i : TypeInfo} {z : Value} {l c : Value} {K : Value → Heap → Prop} (ht : P.underlying t = some (.slice e))
    (hi : P.info? e = some i) (hz : i.zero = some z) (hzs : z.cells.size = i.size) (hq : pMakeSlice e i.bytes z.cells.toList l c h K) :
    wpS P (Instr.makeSlice t l c) h K := by
  unfold pMakeSlice at hq
  split at hq
  · rename_i k l k' c
    obtain ⟨h0, h1, h2, h3, hk⟩ := hq
    have wl := wrap_i64 h0 (by omega : l < 2 ^ 63)
    have wc := wrap_i64 (by omega : 0 ≤ c) h3
    have hze := zeros_eq z.cells c.toNat i.size hzs
    unfold Instr.makeSlice
    refine wpS_rd (rdS_underlying ht) ?_
    dsimp only
    refine wpS_rd (a := l) (by rfl) ?_
    refine wpS_rd (a := c) (by rfl) ?_
    refine wpS_rd (rdS_typeInfo hi) ?_
    rw [wl, wc]
    have hcond : (((decide (c < 0) || decide ((i.bytes : Int) * c > 2 ^ 48)) || decide (l < 0)) || decide (l > c)) = false := by
      simp; omega
    have hcond' : ¬ ((decide (c < 0) || decide ((i.bytes : Int) * c > 2 ^ 48) || decide (l < 0) || decide (l > c)) = true) := by rw [hcond]; simp
    rw [if_neg hcond']
    unfold askRoom
    have hk' : K (.slice (some ⟨h.size, 0, none⟩) l.toNat c.toNat) (h.push (.cells (zerosL z.cells.toList c.toNat).toArray e (0, 0))) := hk
    have go : wpS P (do
        let n := c.toNat * (← sizeOf e)
        let zero ← if n = 0 then pure #[] else do pure (← zeroValue e).cells
        let a ← newRow e ((Array.range n).map (zero[· % zero.size]!))
        pure (.slice (some a) l.toNat c.toNat) : Sem Value) h K := by
      refine wpS_rd (rdS_sizeOf hi) ?_
      dsimp only
      split
      · rename_i hn
        show K _ _
        have : (Array.range (c.toNat * i.size)).map ((#[] : Array Value)[· % (#[] : Array Value).size]!) = (zerosL z.cells.toList c.toNat).toArray := by
          rw [← hze, hn]; simp
        rw [this]; exact hk'
      · refine wpS_rd (rdS_zeroValue hi hz) ?_
        show K _ _
        rw [hze]; exact hk'
    split
    · exact wpS_bind (show wpS P (mark .noRoom) h _ from go)
    · exact wpS_bind (wpS_pure go)
  · exact hq.elim

theorem storeCells_sound {b o : Nat} : ∀ (vs : List Value) (i : Nat) {h : Heap} {K : Heap → Prop}, storeL h b (o + i) vs K →
    wpS P (storeCells ⟨b, o, none⟩ vs i) h (fun _ h' => K h')
  | [], i, h, K, hq => hq
  | v :: r, i, h, K, hq => by
    obtain ⟨hp, hc, hf, hk⟩ := hq
    unfold storeCells
    refine wpS_bind ?_
    rw [addr_add]
    exact ⟨hp, hc, hf, storeCells_sound r (i + 1) (by rw [← Nat.add_assoc]; exact hk)⟩

theorem store_sound {t : TypeId} {i : TypeInfo} {a v : Value} {K : Value → Heap → Prop} (hi : P.info? t = some i) (hq : pStore i.size a v h K) :
    wpS P (Instr.storeAt t a v) h (fun _ h' => K undef h') := by
  unfold pStore at hq
  split at hq
  · rename_i b o
    obtain ⟨hs, hk⟩ := hq
    unfold Instr.storeAt
    refine wpS_rd (a := ⟨b, o, none⟩) (by rfl) ?_
    unfold storeVar
    refine wpS_rd (rdS_sizeOf hi) ?_
    rw [if_neg (by simpa using hs)]
    exact storeCells_sound v.cells.toList 0 (by simpa using hk)
  · exact hq.elim

end
end Go.Mh
