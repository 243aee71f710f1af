/- A text of the proofs of seat Ytdpofmalgemcdaa: 'Mh.Ops'. It has no condition of its own. -/
/- Which primitive an operation is, and that the primitive's truth is enough for the operation. -/
import Derived.Test.YtdpofmalgemcdaaMhPrims
set_option linter.unusedVariables false
set_option linter.unusedSimpArgs false
namespace Go.Mh
open Go

section
variable {P : Program} {h : Heap}

theorem rdS_underlying {t : TypeId} {d : TypeDesc} (hd : P.underlying t = some d) : rdS P (underlying t) h = some d := by
  simp [underlying, program, bind, Sem.bind, rdS, hd, pure]

theorem rdS_typeInfo {t : TypeId} {i : TypeInfo} (hi : P.info? t = some i) : rdS P (typeInfo t) h = some i := by
  simp [typeInfo, program, bind, Sem.bind, rdS, hi, pure]

theorem rdS_sizeOf {t : TypeId} {i : TypeInfo} (hi : P.info? t = some i) : rdS P (sizeOf t) h = some i.size := by
  unfold sizeOf; rw [rdS_bind (rdS_typeInfo hi)]; rfl

theorem rdS_zeroValue {t : TypeId} {i : TypeInfo} {z : Value} (hi : P.info? t = some i) (hz : i.zero = some z) : rdS P (zeroValue t) h = some z := by
  unfold zeroValue; rw [rdS_bind (rdS_typeInfo hi)]; simp [hz, rdS, pure]

theorem rdS_load {a : Addr} {v : Value} (hv : hcell h a = some v) : rdS P (load a) h = some v := by
  simp [load, rdS, hv]

theorem addr_add (b o n : Nat) : (⟨b, o, none⟩ : Addr).add n = ⟨b, o + n, none⟩ := by
  unfold Addr.add; split
  · subst_vars; rfl
  · rfl

theorem rdS_loadCellsFrom {b o : Nat} : ∀ (n i : Nat) (acc : Array Value) {l : List Value}, cellsAt h b (o + i) n = some l →
    rdS P (loadCellsFrom ⟨b, o, none⟩ i n acc) h = some (acc ++ l.toArray)
  | 0, i, acc, l, hl => by
    simp only [cellsAt, Option.some.injEq] at hl; subst hl
    simp [loadCellsFrom, rdS, pure]
  | n + 1, i, acc, l, hl => by
    simp only [cellsAt] at hl
    split at hl
    · rename_i v hv
      split at hl
      · rename_i l' hl'
        simp only [Option.some.injEq] at hl; subst hl
        unfold loadCellsFrom
        rw [rdS_bind (rdS_load (by rw [addr_add]; exact hv))]
        rw [rdS_loadCellsFrom n (i + 1) (acc.push v) (l := l') (by rw [← Nat.add_assoc]; exact hl')]
        simp
      · cases hl
    · cases hl

theorem rdS_loadCells {b o n : Nat} {l : List Value} (hl : cellsAt h b o n = some l) : rdS P (loadCells ⟨b, o, none⟩ n) h = some l.toArray := by
  unfold loadCells; rw [rdS_loadCellsFrom n 0 #[] (by simpa using hl)]; simp

theorem rdS_pure {α : Type} (a : α) : rdS P (pure a : Sem α) h = some a := rfl

end

def isAggD : TypeDesc → Bool
  | .struct _ | .array _ _ => true
  | _ => false

/-- Key types whose values are compared at once. -/
def simpleKey : TypeDesc → Bool
  | .int _ | .string | .bool => true
  | _ => false

def eqKind : TypeDesc → Option EqK
  | .bool => some .bool
  | .pointer _ => some .ptr
  | .slice _ => some .slice
  | .map _ _ => some .map
  | .func _ _ _ => some .func
  | .interface _ => some .iface
  | _ => none

def litOf : Operand → Bool
  | .const _ => true
  | _ => false

def isIfaceK : EqK → Bool
  | .iface => true
  | _ => false

def pBinT (d : TypeDesc) (op : BinOp) (lit : Bool) (x y : Value) (K : Value → Prop) : Prop :=
  match eqKind d with
  | some k => (match isIfaceK k && !lit with
    | true => False
    | false => (match op with
      | .eql => pEq false k x y K
      | .neq => pEq true k x y K
      | _ => False))
  | none => pBin op x y K

/-- The parts of a literal with their places. -/
def placed (place : Nat → Option (Nat × Nat)) : List (Nat × Value) → Option (List (Nat × Nat × Value))
  | [] => some []
  | (i, v) :: r => match place i with
    | some (off, size) => (match placed place r with
      | some l => some ((off, size, v) :: l)
      | none => none)
    | none => none

/-- The quiet operations: what is read leaves the heap alone. -/
def qop (P : Program) (ρ : Operand → Value) (op : Op) (h : Heap) (K : Value → Prop) : Prop :=
  match op with
  | .move x | .assign x => K (ρ x)
  | .pick c a b => pPick (ρ c) (ρ a) (ρ b) K
  | .load t a => (match P.underlying t, P.info? t with
    | some d, some i => (match isAggD d with
      | true => pLoadN i.size h (ρ a) K
      | false => pLoad h (ρ a) K)
    | _, _ => False)
  | .nilCheck x => pNil (ρ x) K
  | .binOp op t x y _ => (match P.underlying t with
    | some d => pBinT d op (litOf y) (ρ x) (ρ y) K
    | none => False)
  | .unOp op _ x => pUn op (ρ x) K
  | .convert s d x => (match P.underlying s, P.underlying d with
    | some _, some (.int k) => pConv k (ρ x) K
    | _, _ => False)
  | .makeInterface t x => (match P.underlying t with
    | some (.interface _) => False
    | some _ => K (.iface t (ρ x))
    | none => False)
  | .makeFunc fn first captured => K (.func fn (first.toList.map ρ).toArray (captured.toList.map ρ).toArray)
  | .slice t x lo hi mx => (match P.underlying t with
    | some (.slice e) => (match P.info? e with
      | some i => pSlice i.size (ρ x) (lo.map ρ) (hi.map ρ) (mx.map ρ) K
      | none => False)
    | some .string => (match mx with
      | none => pSliceS (ρ x) (lo.map ρ) (hi.map ρ) K
      | some _ => False)
    | _ => False)
  | .fieldAddr s x f => (match P.underlying s with
    | some (.struct fs) => (match fs[f]? with
      | some fd => (match P.info? fd.type with
        | some i => (match i.size with
          | 0 => False
          | _ + 1 => pField fd.offset (ρ x) K)
        | none => False)
      | none => False)
    | _ => False)
  | .field t x f => (match P.underlying t with
    | some (.struct fs) => (match fs[f]? with
      | some fd => (match P.underlying fd.type, P.info? fd.type with
        | some d, some i => (match isAggD d with
          | true => pPartN fd.offset i.size (ρ x) K
          | false => pPart1 fd.offset (ρ x) K)
        | _, _ => False)
      | none => False)
    | _ => False)
  | .indexAddr t x i => (match P.underlying t with
    | some (.slice e) => (match P.info? e with
      | some info => pIdx info.size (ρ x) (ρ i) K
      | none => False)
    | some (.array n e) => (match P.info? e with
      | some info => pIdxA info.size n (ρ x) (ρ i) K
      | none => False)
    | _ => False)
  | .lookup t m k ok => (match P.underlying t with
    | some (.map kt et) => (match P.underlying kt, P.info? et with
      | some kd, some ei => (match simpleKey kd, ei.zero with
        | true, some z => pLook kd z ok h (ρ m) (ρ k) K
        | _, _ => False)
      | _, _ => False)
    | _ => False)
  | .extract x i => pExt (ρ x) i K
  | .build t parts => (match P.underlying t, P.info? t with
    | some (.struct fs), some i => (match i.zero with
      | some z => (match placed ((fs.toList.map fun f => (f.offset, P.cellsOf f.type))[·]?) (parts.toList.map fun (j, x) => (j, ρ x)), fs.toList.all (fun f => (P.info? f.type).isSome) with
        | some ps, true => pBuild z.cells.toList ps K
        | _, _ => False)
      | none => False)
    | some (.array _ e), some i => (match i.zero, P.info? e with
      | some z, some ei => pBuild z.cells.toList (parts.toList.map fun (j, x) => (j * ei.size, ei.size, ρ x)) K
      | _, _ => False)
    | _, _ => False)
  | .call c => (match c.callee with
    | .builtin .len => (match c.argTypes[0]?, c.args[0]? with
      | some t, some x => (match P.underlying t with
        | some (.slice _) => pLen (ρ x) K
        | some .string => pLenS (ρ x) K
        | some (.map _ _) => pLenM h (ρ x) K
        | some (.array n _) => K (.int .i64 n)
        | _ => False)
      | _, _ => False)
    | .builtin .cap => (match c.argTypes[0]?, c.args[0]? with
      | some t, some x => (match P.underlying t with
        | some (.slice _) => pCap (ρ x) K
        | _ => False)
      | _, _ => False)
    | .builtin .min => (match c.args.toList with
      | [x, y] => pMin (ρ x) (ρ y) K
      | [x, y, z] => pMin (ρ x) (ρ y) fun u => pMin u (ρ z) K
      | _ => False)
    | .builtin .max => (match c.args.toList with
      | [x, y] => pMax (ρ x) (ρ y) K
      | [x, y, z] => pMax (ρ x) (ρ y) fun u => pMax u (ρ z) K
      | _ => False)
    | _ => False)
  | _ => False

end Go.Mh
