/- A text of the proofs of seat Ytdpofmalgemcdaa: 'Mh.Prims'. It has no condition of its own. -/
/- The primitive steps of the clean texts, as predicate transformers over heaps. -/
import Derived.Test.YtdpofmalgemcdaaMhBase
set_option linter.unusedVariables false
set_option linter.unusedSimpArgs false
namespace Go.Mh
open Go

/-! ### Calls, as seen from heaps -/

def Callable (P : Program) (f : FuncId) : Bool :=
  match P.funcs[f]? with
  | some fn => fn.body.isSome && !(fn.name == "runtime.NumGoroutine")
  | none => false

def CallsW (P : Program) (f : FuncId) (args : Array Value) (h : Heap) (K : Value → Heap → Prop) : Prop :=
  ∀ w : World, w.heap = h → CallsIn Fence.wide 0 P f args w (fun e w' => ∃ v, e = .returned v ∧ Same w w' ∧ K v w'.heap)

def CallsH (P : Program) (f : FuncId) (args : Array Value) (h : Heap) (K : Value → Heap → Prop) : Prop :=
  Callable P f = true ∧ CallsW P f args h K

def RoundH (P : Program) (l : Nat) (f : FuncId) (tmps : Array Value) (assign body : Code) (h : Heap) (K : Value → Heap → Prop) : Prop :=
  ∀ w : World, w.heap = h → RoundIn Fence.wide 0 P l f tmps assign body w (fun e w' => ∃ v, e = .returned v ∧ Same w w' ∧ K v w'.heap)

def YieldH (P : Program) (l : Nat) (args : Array Value) (h : Heap) (K : Value → Heap → Prop) : Prop :=
  match h[l]? with
  | some (.loop L) => args.size = L.params.size ∧ RoundH P l L.fn ((L.params.zip args).foldl (fun tmps (t, a) => tmps.setIfInBounds t a) L.tmps) L.assign L.body h K
  | _ => False

def callV (P : Program) (v : Value) (args : Array Value) (h : Heap) (K : Value → Heap → Prop) : Prop :=
  match v with
  | .func (.func f) first captured => CallsH P f (first ++ args ++ captured) h K
  | .func (.yield l) first _ => YieldH P l (first ++ args) h K
  | _ => False

theorem CallsH.mono {P : Program} {f : FuncId} {args : Array Value} {h : Heap} {K K' : Value → Heap → Prop}
    (hc : CallsH P f args h K) (hm : ∀ v h, K v h → K' v h) : CallsH P f args h K' :=
  ⟨hc.1, fun w hw => (hc.2 w hw).mono fun _ _ ⟨v, he, hs, hk⟩ => ⟨v, he, hs, hm _ _ hk⟩⟩

theorem RoundH.mono {P : Program} {l : Nat} {f : FuncId} {tmps : Array Value} {assign body : Code} {h : Heap} {K K' : Value → Heap → Prop}
    (hc : RoundH P l f tmps assign body h K) (hm : ∀ v h, K v h → K' v h) : RoundH P l f tmps assign body h K' :=
  fun w hw => (hc w hw).mono fun _ _ ⟨v, he, hs, hk⟩ => ⟨v, he, hs, hm _ _ hk⟩

theorem YieldH.mono {P : Program} {l : Nat} {args : Array Value} {h : Heap} {K K' : Value → Heap → Prop}
    (hc : YieldH P l args h K) (hm : ∀ v h, K v h → K' v h) : YieldH P l args h K' := by
  unfold YieldH at *
  split
  · rename_i L hL; simp only [hL] at hc; exact ⟨hc.1, hc.2.mono hm⟩
  · rename_i hno
    split at hc
    · rename_i L hL; exact (hno _ hL).elim
    · exact hc

theorem callV.mono {P : Program} {v : Value} {args : Array Value} {h : Heap} {K K' : Value → Heap → Prop}
    (hc : callV P v args h K) (hm : ∀ v h, K v h → K' v h) : callV P v args h K' := by
  unfold callV at *
  split
  · exact CallsH.mono hc hm
  · exact YieldH.mono hc hm
  · rename_i h1 h2
    split at hc
    · exact (h1 _ _ _ rfl).elim
    · exact (h2 _ _ _ rfl).elim
    · exact hc

/-- A call by a plain name. -/
def callS (P : Program) (f : Nat) (args : List Value) (h : Heap) (K : Value → Heap → Prop) : Prop := callV P (.func (.func f) #[] #[]) args.toArray h K

theorem callS_of {P : Program} {f : Nat} {args : List Value} {h : Heap} {K : Value → Heap → Prop} (hc : CallsH P f args.toArray h K) : callS P f args h K := by
  show CallsH P f (#[] ++ args.toArray ++ #[]) h K
  simpa using hc

/-! ### Branches -/

def ifV (v : Value) (T E : Prop) : Prop :=
  match v with
  | .bool true => T
  | .bool false => E
  | _ => False

/-! ### Quiet primitives -/

def pPick (c a b : Value) (K : Value → Prop) : Prop :=
  match c with
  | .bool true => K a
  | .bool false => K b
  | _ => False

def pLoad (h : Heap) (a : Value) (K : Value → Prop) : Prop :=
  match a with
  | .pointer (some ⟨b, o, none⟩) => (match hcell h ⟨b, o, none⟩ with
    | some v => K v
    | none => False)
  | _ => False

def cellsAt (h : Heap) (b o : Nat) : Nat → Option (List Value)
  | 0 => some []
  | n + 1 => match hcell h ⟨b, o, none⟩ with
    | some v => (match cellsAt h b (o + 1) n with
      | some l => some (v :: l)
      | none => none)
    | none => none

def pLoadN (n : Nat) (h : Heap) (a : Value) (K : Value → Prop) : Prop :=
  match a with
  | .pointer (some ⟨b, o, none⟩) => (match cellsAt h b o n with
    | some l => K (.agg l.toArray)
    | none => False)
  | _ => False

def pNil (v : Value) (K : Value → Prop) : Prop :=
  match v with
  | .pointer (some a) => K (.pointer (some a))
  | .func (.func f) first captured => K (.func (.func f) first captured)
  | .func (.yield l) first captured => K (.func (.yield l) first captured)
  | _ => False

def pBin (op : BinOp) (x y : Value) (K : Value → Prop) : Prop :=
  match op, x, y with
  | .add, .int k a, .int k' b => k = k' ∧ K (.int k (k.wrap (a + b)))
  | .sub, .int k a, .int k' b => k = k' ∧ K (.int k (k.wrap (a - b)))
  | .mul, .int k a, .int k' b => k = k' ∧ K (.int k (k.wrap (a * b)))
  | .quo, .int k a, .int k' b => k = k' ∧ b ≠ 0 ∧ K (.int k (k.wrap (a.tdiv b)))
  | .rem, .int k a, .int k' b => k = k' ∧ b ≠ 0 ∧ K (.int k (a.tmod b))
  | .and, .int k a, .int k' b => k = k' ∧ K (.int k (k.wrap (BitVec.ofInt k.bits a &&& BitVec.ofInt k.bits b).toNat))
  | .or, .int k a, .int k' b => k = k' ∧ K (.int k (k.wrap (BitVec.ofInt k.bits a ||| BitVec.ofInt k.bits b).toNat))
  | .xor, .int k a, .int k' b => k = k' ∧ K (.int k (k.wrap (BitVec.ofInt k.bits a ^^^ BitVec.ofInt k.bits b).toNat))
  | .shl, .int k a, .int _ b => 0 ≤ b ∧ K (.int k (k.wrap (a * 2 ^ (min b.toNat k.bits))))
  | .shr, .int k a, .int _ b => 0 ≤ b ∧ K (.int k (a.fdiv (2 ^ (min b.toNat k.bits))))
  | .eql, .int k a, .int k' b => k = k' ∧ K (.bool (a == b))
  | .neq, .int k a, .int k' b => k = k' ∧ K (.bool (a != b))
  | .lss, .int k a, .int k' b => k = k' ∧ K (.bool (a < b))
  | .leq, .int k a, .int k' b => k = k' ∧ K (.bool (a ≤ b))
  | .gtr, .int k a, .int k' b => k = k' ∧ K (.bool (a > b))
  | .geq, .int k a, .int k' b => k = k' ∧ K (.bool (a ≥ b))
  | .eql, .string a, .string b => K (.bool (a.toList == b.toList))
  | .neq, .string a, .string b => K (.bool !(a.toList == b.toList))
  | _, _, _ => False

/-- Kinds of types whose equality is asked otherwise than of numbers and strings. -/
inductive EqK where
  | bool | ptr | slice | map | func | iface

def pEq (neg : Bool) (d : EqK) (x y : Value) (K : Value → Prop) : Prop :=
  match d, x, y with
  | .bool, .bool a, .bool b => K (.bool (xor neg (a == b)))
  | .ptr, .pointer none, .pointer b => K (.bool (xor neg b.isNone))
  | .ptr, .pointer (some _), .pointer none => K (.bool (xor neg false))
  | .slice, .slice none _ _, .slice b _ _ => K (.bool (xor neg b.isNone))
  | .slice, .slice (some _) _ _, .slice none _ _ => K (.bool (xor neg false))
  | .map, .map none, .map b => K (.bool (xor neg b.isNone))
  | .map, .map (some _), .map none => K (.bool (xor neg false))
  | .func, .nilFunc, .nilFunc => K (.bool (xor neg true))
  | .func, .func (.func _) _ _, .nilFunc => K (.bool (xor neg false))
  | .iface, .nilIface, .nilIface => K (.bool (xor neg true))
  | .iface, .iface _ _, .nilIface => K (.bool (xor neg false))
  | _, _, _ => False

def pUn (op : UnOp) (x : Value) (K : Value → Prop) : Prop :=
  match op, x with
  | .neg, .int k n => K (.int k (k.wrap (0 - n)))
  | .not, .bool b => K (.bool !b)
  | _, _ => False

def pConv (k : IntKind) (x : Value) (K : Value → Prop) : Prop :=
  match x with
  | .int _ n => K (.int k (k.wrap n))
  | _ => False

def pField (off : Nat) (x : Value) (K : Value → Prop) : Prop :=
  match x with
  | .pointer (some ⟨b, o, none⟩) => K (.pointer (some ⟨b, o + off, none⟩))
  | _ => False

def pIdx (size : Nat) (x i : Value) (K : Value → Prop) : Prop :=
  match x, i with
  | .slice (some ⟨b, o, none⟩) len _, .int _ i => 0 ≤ i ∧ i < len ∧ K (.pointer (some ⟨b, o + i.toNat * size, none⟩))
  | _, _ => False

def pIdxA (size len : Nat) (x i : Value) (K : Value → Prop) : Prop :=
  match x, i with
  | .pointer (some ⟨b, o, none⟩), .int _ i => 0 ≤ i ∧ i < len ∧ K (.pointer (some ⟨b, o + i.toNat * size, none⟩))
  | _, _ => False

/-- The bound of a slice expression: left out, or a number. -/
def bndOf (d : Nat) : Option Value → Option Int
  | none => some d
  | some (.int _ i) => some i
  | some _ => none

def slBase (size l m : Nat) (a : Option Addr) : Option Addr :=
  if m = l then a else match a with
    | some ⟨b, o, none⟩ => some ⟨b, o + l * size, none⟩
    | x => x.map (·.add (l * size))

def pSlice (size : Nat) (x : Value) (lo hi mx : Option Value) (K : Value → Prop) : Prop :=
  match x with
  | .slice a len cap =>
    (match bndOf 0 lo, bndOf len hi, bndOf cap mx with
    | some l, some h, some m => (mx.isSome = true → hi.isSome = true) ∧ 0 ≤ l ∧ l ≤ h ∧ h ≤ m ∧ m ≤ cap ∧ K (.slice (slBase size l.toNat m.toNat a) (h.toNat - l.toNat) (m.toNat - l.toNat))
    | _, _, _ => False)
  | _ => False

def pSliceS (x : Value) (lo hi : Option Value) (K : Value → Prop) : Prop :=
  match x with
  | .string s =>
    (match bndOf 0 lo, bndOf s.size hi with
    | some l, some h => 0 ≤ l ∧ l ≤ h ∧ h ≤ s.size ∧ K (.string (s.extract l.toNat h.toNat))
    | _, _ => False)
  | _ => False

def pExt (x : Value) (i : Nat) (K : Value → Prop) : Prop :=
  match x with
  | .tuple vs => (match vs[i]? with
    | some v => K v
    | none => False)
  | _ => False

/-- A part of a struct or array value: one cell that is no aggregate's, or some. -/
def pPart1 (off : Nat) (x : Value) (K : Value → Prop) : Prop :=
  match x with
  | .agg cs => (match cs[off]? with
    | some v => K v
    | none => False)
  | _ => False

def pPartN (off n : Nat) (x : Value) (K : Value → Prop) : Prop :=
  match x with
  | .agg cs => K (.agg (cs.extract off (off + n)))
  | _ => False

def pLen (x : Value) (K : Value → Prop) : Prop :=
  match x with
  | .slice _ n _ => K (.int .i64 n)
  | _ => False

def pLenS (x : Value) (K : Value → Prop) : Prop :=
  match x with
  | .string s => K (.int .i64 s.size)
  | _ => False

def pCap (x : Value) (K : Value → Prop) : Prop :=
  match x with
  | .slice _ _ c => K (.int .i64 c)
  | _ => False

def pLenM (h : Heap) (x : Value) (K : Value → Prop) : Prop :=
  match x with
  | .map none => K (.int .i64 0)
  | .map (some r) => (match h[r]? with
    | some (.map es _) => K (.int .i64 es.size)
    | _ => False)
  | _ => False

def pMin (x y : Value) (K : Value → Prop) : Prop :=
  match x, y with
  | .int k a, .int _ b => K (.int k (if b < a then b else a))
  | _, _ => False

def pMax (x y : Value) (K : Value → Prop) : Prop :=
  match x, y with
  | .int k a, .int _ b => K (.int k (if b > a then b else a))
  | _, _ => False

def pLook (kd : TypeDesc) (zero : Value) (ok : Bool) (h : Heap) (m k : Value) (K : Value → Prop) : Prop :=
  match m with
  | .map none => K (if ok then .tuple #[zero, .bool false] else zero)
  | .map (some r) => (match h[r]? with
    | some (.map es _) => (match Instr.findNow kd k es.toList 0 with
      | some (some (_, v)) => K (if ok then .tuple #[v, .bool true] else v)
      | some none => K (if ok then .tuple #[zero, .bool false] else zero)
      | none => False)
    | _ => False)
  | _ => False

/-- The cells of a struct or array literal: parts laid over zero values; each at an offset, of a size. -/
def spliceAll (cs : List Value) : List (Nat × Nat × Value) → List Value
  | [] => cs
  | (off, _, v) :: r => spliceAll (cs.take off ++ v.cells.toList ++ cs.drop (off + v.cells.size)) r

def sizesOk (n : Nat) : List (Nat × Nat × Value) → Prop
  | [] => True
  | (off, size, v) :: r => v.cells.size = size ∧ off + size ≤ n ∧ sizesOk n r

def pBuild (zero : List Value) (parts : List (Nat × Nat × Value)) (K : Value → Prop) : Prop :=
  sizesOk zero.length parts ∧ K (.agg (spliceAll zero parts).toArray)

/-! ### Loud primitives -/

def pBox (t : TypeId) (v : Value) (h : Heap) (K : Value → Heap → Prop) : Prop :=
  K (.pointer (some ⟨h.size, 0, none⟩)) (h.push (.cells v.cells t (0, 0)))

def pBuildSlice (t : TypeId) (zero : List Value) (parts : List (Nat × Nat × Value)) (len : Nat) (h : Heap) (K : Value → Heap → Prop) : Prop :=
  sizesOk zero.length parts ∧ K (.slice (some ⟨h.size, 0, none⟩) len len) (h.push (.cells (spliceAll zero parts).toArray t (0, 0)))

def pMakeSlice (t : TypeId) (bytes : Nat) (zero : List Value) (len cap : Value) (h : Heap) (K : Value → Heap → Prop) : Prop :=
  match len, cap with
  | .int _ l, .int _ c => 0 ≤ l ∧ l ≤ c ∧ bytes * c ≤ 2 ^ 48 ∧ c < 2 ^ 63 ∧
      K (.slice (some ⟨h.size, 0, none⟩) l.toNat c.toNat) (h.push (.cells (List.replicate c.toNat zero).flatten.toArray t (0, 0)))
  | _, _ => False

def pMakeMap (h : Heap) (K : Value → Heap → Prop) : Prop := K (.map (some h.size)) (h.push (.map #[] 0))

def storeL (h : Heap) (b o : Nat) : List Value → (Heap → Prop) → Prop
  | [], K => K h
  | v :: r, K => plainCell v = true ∧ (hcell h ⟨b, o, none⟩).isSome = true ∧ hfrozen h ⟨b, o, none⟩ = false ∧ storeL (hset h ⟨b, o, none⟩ v) b (o + 1) r K

def pStore (n : Nat) (a v : Value) (h : Heap) (K : Value → Heap → Prop) : Prop :=
  match a with
  | .pointer (some ⟨b, o, none⟩) => v.cells.size = n ∧ storeL h b o v.cells.toList (K undef)
  | _ => False

def cellsOfSl (h : Heap) (size n : Nat) : Option Addr → Option (List Value)
  | none => some []
  | some ⟨b, o, none⟩ => cellsAt h b o (n * size)
  | _ => none

def zerosL (zero : List Value) (n : Nat) : List Value := (List.replicate n zero).flatten

def pAppend (t : TypeId) (size bytes : Nat) (zero : List Value) (s x : Value) (h : Heap) (K : Value → Heap → Prop) : Prop :=
  match s, x with
  | .slice base sLen sCap, .slice xb n _ =>
    (match cellsOfSl h size n xb with
    | some new =>
      if sLen + n ≤ sCap then
        (match base with
        | some ⟨b, o, none⟩ => storeL h b (o + sLen * size) new (K (.slice base (sLen + n) sCap))
        | none => K (.slice none (sLen + n) sCap) h
        | _ => False)
      else
        (match cellsOfSl h size sLen base with
        | some old => Builtin.nextslicecap (sLen + n) sCap * bytes ≤ 2 ^ 48 ∧ sLen + n < 2 ^ 63 ∧
            ∀ c, sLen + n ≤ c → c < 2 ^ 63 → K (.slice (some ⟨h.size, 0, none⟩) (sLen + n) c) (h.push (.cells (old ++ new ++ zerosL zero (c - (sLen + n))).toArray t (0, 0)))
        | none => False)
    | none => False)
  | _, _ => False

def pMapSet (kd : TypeDesc) (m k v : Value) (h : Heap) (K : Value → Heap → Prop) : Prop :=
  match m with
  | .map (some r) => (match h[r]? with
    | some (.map es clock) => (match Instr.findNow kd k es.toList 0 with
      | some (some (i, _)) => K undef (h.setIfInBounds r (.map (es.modify i fun e => { e with key := k, val := v }) clock))
      | some none => K undef (h.setIfInBounds r (.map (es.push { key := k, val := v, born := clock }) (clock + 1)))
      | none => False)
    | _ => False)
  | _ => False

def pMapEntry (kd : TypeDesc) (zero : Value) (m k : Value) (h : Heap) (K : Value → Heap → Prop) : Prop :=
  match m with
  | .map (some r) => (match h[r]? with
    | some (.map es clock) => (match Instr.findNow kd k es.toList 0 with
      | some (some (i, v)) => K (.tuple #[v, .int .i64 (((es[i]?).map (·.born)).getD 0)]) (h.setIfInBounds r (.map (es.modify i fun e => { e with key := k }) clock))
      | some none => K (.tuple #[zero, .int .i64 clock]) (h.setIfInBounds r (.map (es.push { key := k, val := zero, born := clock }) (clock + 1)))
      | none => False)
    | _ => False)
  | _ => False

def pEntryStore (m s v : Value) (h : Heap) (K : Value → Heap → Prop) : Prop :=
  match m, s with
  | .map (some r), .int _ n => (match h[r]? with
    | some (.map es clock) => (match es.findIdx? (fun e => (e.born : Int) == n) with
      | some i => K undef (h.setIfInBounds r (.map (es.modify i fun e => { e with val := v }) clock))
      | none => False)
    | _ => False)
  | _, _ => False

def pDelete (kd : TypeDesc) (m k : Value) (h : Heap) (K : Value → Heap → Prop) : Prop :=
  match m with
  | .map none => K (.tuple #[]) h
  | .map (some r) => (match h[r]? with
    | some (.map es clock) => (match Instr.findNow kd k es.toList 0 with
      | some (some (i, _)) => K (.tuple #[]) (h.setIfInBounds r (.map (es.eraseIdxIfInBounds i) clock))
      | some none => K (.tuple #[]) (h.setIfInBounds r (.map es clock))
      | none => False)
    | _ => False)
  | _ => False

end Go.Mh
