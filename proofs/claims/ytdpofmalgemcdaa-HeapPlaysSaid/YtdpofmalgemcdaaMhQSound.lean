/- A text of the proofs of seat Ytdpofmalgemcdaa: 'Mh.QSound'. It has no condition of its own. -/
import Derived.Test.YtdpofmalgemcdaaMhOps
set_option linter.unusedVariables false
set_option linter.unusedSimpArgs false
namespace Go.Mh
open Go

section
variable {P : Program} {h : Heap}

abbrev Yields (P : Program) (s : Sem Next) (h : Heap) (K : Value → Prop) : Prop := ∃ v, rdS P s h = some (.value v) ∧ K v

theorem rdv {s : Sem Value} {v : Value} (hv : rdS P s h = some v) : rdS P (do pure (Next.value (← s)) : Sem Next) h = some (.value v) := by
  rw [rdS_bind hv]; rfl

theorem rdS_isAgg {t : TypeId} {d : TypeDesc} (hd : P.underlying t = some d) : rdS P (isAgg t) h = some (isAggD d) := by
  unfold isAgg
  rw [rdS_bind (rdS_underlying hd)]
  cases d <;> rfl

theorem load_sound {t : TypeId} {d : TypeDesc} {i : TypeInfo} {a : Value} {K : Value → Prop} (hd : P.underlying t = some d) (hi : P.info? t = some i)
    (hq : match isAggD d with
      | true => pLoadN i.size h a K
      | false => pLoad h a K) : ∃ v, rdS P (Instr.loadAt t a) h = some v ∧ K v := by
  cases had : isAggD d with
  | false =>
    simp only [had] at hq
    unfold pLoad at hq
    split at hq
    · rename_i b o
      split at hq
      · rename_i v hv
        refine ⟨v, ?_, hq⟩
        unfold Instr.loadAt
        rw [rdS_bind (a := ⟨b, o, none⟩) (by simp [Instr.sureAddr, rdS, pure])]
        unfold loadVar
        rw [rdS_bind (rdS_isAgg hd), had]
        exact rdS_load hv
      · exact hq.elim
    · exact hq.elim
  | true =>
    simp only [had] at hq
    unfold pLoadN at hq
    split at hq
    · rename_i b o
      split at hq
      · rename_i l hl
        refine ⟨_, ?_, hq⟩
        unfold Instr.loadAt
        rw [rdS_bind (a := ⟨b, o, none⟩) (by simp [Instr.sureAddr, rdS, pure])]
        unfold loadVar
        rw [rdS_bind (rdS_isAgg hd), had]
        simp only [if_true]
        rw [rdS_bind (rdS_sizeOf hi), rdS_bind (rdS_loadCells hl)]; rfl
      · exact hq.elim
    · exact hq.elim

theorem bin_sound {op : BinOp} {t : TypeId} {x y : Value} {K : Value → Prop} (hq : pBin op x y K) : ∃ v, rdS P (binOp op t x y) h = some v ∧ K v := by
  cases x <;> cases y <;> cases op <;> simp only [pBin] at hq <;>
    first
      | exact hq.elim
      | (obtain ⟨rfl, hb, hk⟩ := hq; exact ⟨_, by simp [binOp, Op.intDiv, rdS, pure, hb], hk⟩)
      | (obtain ⟨rfl, hk⟩ := hq; exact ⟨_, by simp [binOp, Op.intArith, Op.intCmp, Op.intBits, rdS, pure], hk⟩)
      | (obtain ⟨hb, hk⟩ := hq; exact ⟨_, by simp only [binOp, Op.shift]; rw [if_neg (by omega)]; rfl, hk⟩)
      | exact ⟨_, by simp [binOp, Op.stringOp, rdS, pure], hq⟩

theorem guard_plain {op : BinOp} {t : TypeId} {x y : Operand} {a b : Value} (ha : ∀ cs, a ≠ .agg cs) (hn : ¬ (a = .nilIface ∧ b = .nilIface)) :
    rdS P (eqGuard op t x y a b) h = some () := by
  unfold eqGuard
  cases op <;> simp [rdS, pure] <;>
  · cases a <;> cases b <;> first | rfl | (exact (ha _ rfl).elim) | (exact (hn ⟨rfl, rfl⟩).elim)

theorem guard_not {op : BinOp} {t : TypeId} {x y : Operand} {a b : Value} (ho : op ≠ .eql) (hn : op ≠ .neq) :
    rdS P (eqGuard op t x y a b) h = some () := by
  unfold eqGuard
  cases op <;> simp_all [rdS, pure]

theorem guard_lit {op : BinOp} {t : TypeId} {x y : Operand} {a b : Value} (ha : ∀ cs, a ≠ .agg cs) (hl : litOf y = true) :
    rdS P (eqGuard op t x y a b) h = some () := by
  unfold eqGuard
  cases y <;> simp [litOf] at hl
  cases op <;> simp [rdS, pure] <;>
  · cases a <;> cases b <;> first | rfl | (exact (ha _ rfl).elim)

theorem bin_noAgg {op : BinOp} {x y : Value} {K : Value → Prop} (hq : pBin op x y K) : (∀ cs, x ≠ .agg cs) ∧ x ≠ .nilIface := by
  constructor
  · rintro cs rfl; cases op <;> exact hq.elim
  · rintro rfl; cases op <;> exact hq.elim

theorem eq_sound {neg : Bool} {t : TypeId} {d : TypeDesc} {k : EqK} {x y : Value} {K : Value → Prop} (hd : P.underlying t = some d) (hk : eqKind d = some k) (hq : pEq neg k x y K) :
    ∃ b, rdS P (Op.equal t x y) h = some b ∧ K (.bool (xor neg b)) := by
  unfold pEq at hq
  split at hq <;> (try exact hq.elim) <;> cases d <;> simp only [eqKind, Option.some.injEq, reduceCtorEq] at hk <;>
    (refine ⟨_, ?_, hq⟩; unfold Op.equal Op.maxDepth Op.equalIn; rw [rdS_bind (rdS_underlying hd)]; rfl)

theorem eq_noAgg {neg : Bool} {d : EqK} {x y : Value} {K : Value → Prop} (hq : pEq neg d x y K) : (∀ cs, x ≠ .agg cs) ∧ (x = .nilIface → d = .iface ∧ y = .nilIface) := by
  constructor
  · rintro cs rfl; cases d <;> exact hq.elim
  · rintro rfl; unfold pEq at hq; split at hq <;> simp_all

theorem eq_not {d : EqK} {x y : Value} {neg : Bool} {K : Value → Prop} (hq : pEq neg d x y K) (op : BinOp) (t : TypeId) (ho : op = .eql ∨ op = .neq) :
    binOp op t x y = (match op with
      | .eql => do pure (.bool (← Op.equal t x y))
      | _ => do pure (.bool (!(← Op.equal t x y)))) := by
  unfold pEq at hq
  split at hq <;> first
    | exact hq.elim
    | (rcases ho with rfl | rfl <;> rfl)

theorem slBase_eq {size l m : Nat} {a : Option Addr} : (if m = l then a else a.map (·.add (l * size))) = slBase size l m a := by
  unfold slBase
  split
  · rfl
  · split
    · simp [addr_add]
    · rfl

theorem bound_sound {v : Option Value} {d y : Nat} {code : BoundsCode} {i : Int} (hb : bndOf d v = some i) (h0 : 0 ≤ i) (h1 : i ≤ y) :
    v = none ∧ i = d ∨ ∃ u, v = some u ∧ rdS P (Instr.sliceBound u y code) h = some i.toNat := by
  unfold bndOf at hb
  split at hb
  · simp only [Option.some.injEq] at hb; exact .inl ⟨rfl, hb.symm⟩
  · rename_i k j
    simp only [Option.some.injEq] at hb; subst hb
    refine .inr ⟨_, rfl, ?_⟩
    unfold Instr.sliceBound
    rw [rdS_bind (a := (k, j)) (by simp [asIntOf, rdS, pure])]
    simp [h0, h1, rdS, pure]
  · cases hb

theorem bounds_sound {b : Bool} {len cap : Nat} {lo hi mx : Option Value} {l hh m : Int} (hl : bndOf 0 lo = some l) (hh' : bndOf len hi = some hh) (hm : bndOf cap mx = some m)
    (hmx : mx.isSome = true → hi.isSome = true) (h0 : 0 ≤ l) (h1 : l ≤ hh) (h2 : hh ≤ m) (h3 : m ≤ cap) :
    rdS P (Instr.sliceBounds b len cap lo hi mx) h = some (l.toNat, hh.toNat, m.toNat) := by
  have hle : hh ≤ (m.toNat : Int) := by omega
  have hle2 : l ≤ (hh.toNat : Int) := by omega
  have B := fun (code : BoundsCode) => bound_sound (P := P) (h := h) (code := code) hm (by omega) h3
  have C := fun (code : BoundsCode) => bound_sound (P := P) (h := h) (code := code) hh' (by omega) hle
  have D := fun (code : BoundsCode) => bound_sound (P := P) (h := h) (code := code) hl h0 hle2
  unfold Instr.sliceBounds
  cases mx with
  | none =>
    have em : (m.toNat : Nat) = cap := by rcases B .index with ⟨_, e⟩ | ⟨_, e, _⟩ <;> simp_all
    cases hi with
    | none =>
      have eh : (hh.toNat : Nat) = len := by rcases C .index with ⟨_, e⟩ | ⟨_, e, _⟩ <;> simp_all
      cases lo with
      | none =>
        have el : (l.toNat : Nat) = 0 := by rcases D .index with ⟨_, e⟩ | ⟨_, e, _⟩ <;> simp_all
        dsimp only
        rw [rdS_bind (rdS_pure _), rdS_bind (rdS_pure _), rdS_bind (rdS_pure _), em, eh, el]; rfl
      | some u =>
        have hu : ∀ c, rdS P (Instr.sliceBound u hh.toNat c) h = some l.toNat := fun c => by rcases D c with ⟨e, _⟩ | ⟨_, e, q⟩ <;> simp_all
        dsimp only
        rw [rdS_bind (rdS_pure _), rdS_bind (rdS_pure _)]
        rw [eh] at hu ⊢
        rw [rdS_bind (hu _), em]; rfl
    | some v =>
      have hv : ∀ c, rdS P (Instr.sliceBound v m.toNat c) h = some hh.toNat := fun c => by rcases C c with ⟨e, _⟩ | ⟨_, e, q⟩ <;> simp_all
      rw [em] at hv ⊢
      cases lo with
      | none =>
        have el : (l.toNat : Nat) = 0 := by rcases D .index with ⟨_, e⟩ | ⟨_, e, _⟩ <;> simp_all
        dsimp only
        rw [rdS_bind (rdS_pure _), rdS_bind (hv _), rdS_bind (rdS_pure _), el]; rfl
      | some u =>
        have hu : ∀ c, rdS P (Instr.sliceBound u hh.toNat c) h = some l.toNat := fun c => by rcases D c with ⟨e, _⟩ | ⟨_, e, q⟩ <;> simp_all
        dsimp only
        rw [rdS_bind (rdS_pure _), rdS_bind (hv _), rdS_bind (hu _)]; rfl
  | some x =>
    have hx : ∀ c, rdS P (Instr.sliceBound x cap c) h = some m.toNat := fun c => by rcases B c with ⟨e, _⟩ | ⟨_, e, q⟩ <;> simp_all
    cases hi with
    | none => simp at hmx
    | some v =>
      have hv : ∀ c, rdS P (Instr.sliceBound v m.toNat c) h = some hh.toNat := fun c => by rcases C c with ⟨e, _⟩ | ⟨_, e, q⟩ <;> simp_all
      cases lo with
      | none =>
        have el : (l.toNat : Nat) = 0 := by rcases D .index with ⟨_, e⟩ | ⟨_, e, _⟩ <;> simp_all
        dsimp only
        rw [rdS_bind (hx _), rdS_bind (hv _), rdS_bind (rdS_pure _), el]; rfl
      | some u =>
        have hu : ∀ c, rdS P (Instr.sliceBound u hh.toNat c) h = some l.toNat := fun c => by rcases D c with ⟨e, _⟩ | ⟨_, e, q⟩ <;> simp_all
        dsimp only
        rw [rdS_bind (hx _), rdS_bind (hv _), rdS_bind (hu _)]; rfl

theorem findNow_some {kd : TypeDesc} {k : Value} : ∀ {es : List MapEntry} {j i : Nat} {v : Value}, Instr.findNow kd k es j = some (some (i, v)) →
    j ≤ i ∧ ∃ e, es[i - j]? = some e ∧ e.val = v ∧ Instr.sameNow kd k e.key = some true
  | [], j, i, v, hf => by simp [Instr.findNow] at hf
  | e :: es, j, i, v, hf => by
    simp only [Instr.findNow] at hf
    split at hf
    · rename_i hs
      simp only [Option.some.injEq, Prod.mk.injEq] at hf
      obtain ⟨rfl, rfl⟩ := hf
      exact ⟨Nat.le_refl _, e, by simp, rfl, hs⟩
    · obtain ⟨hle, e', he', hv, hs⟩ := findNow_some hf
      refine ⟨by omega, e', ?_, hv, hs⟩
      have : i - j = (i - (j + 1)) + 1 := by omega
      rw [this]; simpa using he'
    · cases hf

theorem checkKey_simple {kt : TypeId} {kd : TypeDesc} {e : Bool} {n : Nat} {k : Value} (hd : P.underlying kt = some kd) (hs : simpleKey kd = true) :
    rdS P (Instr.checkKey e (n + 1) kt k) h = some () := by
  unfold Instr.checkKey
  rw [rdS_bind (rdS_underlying hd)]
  cases kd <;> simp_all [simpleKey, rdS, pure]

theorem findKey_simple {kt : TypeId} {kd : TypeDesc} {k : Value} {es : List MapEntry} {r : Option (Nat × Value)} (hd : P.underlying kt = some kd)
    (hf : Instr.findNow kd k es 0 = some r) : rdS P (Instr.findKey kt k es) h = some r := by
  unfold Instr.findKey
  rw [rdS_bind (rdS_underlying hd)]
  simp [hf, rdS, pure]

theorem look_sound {t kt et : TypeId} {kd : TypeDesc} {ei : TypeInfo} {z : Value} {ok : Bool} {m k : Value} {K : Value → Prop}
    (ht : P.underlying t = some (.map kt et)) (hk : P.underlying kt = some kd) (he : P.info? et = some ei) (hs : simpleKey kd = true) (hz : ei.zero = some z)
    (hq : pLook kd z ok h m k K) : ∃ v, rdS P (Instr.lookup t m k ok) h = some v ∧ K v := by
  have hck := fun e => checkKey_simple (h := h) (n := 9999) (e := e) (k := k) hk hs
  have hz' := rdS_zeroValue (h := h) he hz
  unfold pLook at hq
  split at hq
  · refine ⟨_, ?_, hq⟩
    have hf := findKey_simple (h := h) (es := []) (k := k) (r := none) hk (by simp [Instr.findNow])
    unfold Instr.lookup
    rw [rdS_bind (rdS_underlying ht)]
    dsimp only
    rw [rdS_bind (rdS_pure _), rdS_bind (hck _), rdS_bind hf]
    dsimp only
    rw [rdS_bind hz']
    rfl
  · rename_i r
    split at hq
    · rename_i es clock hm
      have hget : rdS P (getObj r) h = some (.map es clock) := by simp [getObj, rdS, hm]
      unfold Instr.lookup
      rw [rdS_bind (rdS_underlying ht)]
      dsimp only
      rw [rdS_bind hget]
      dsimp only
      rw [rdS_bind (rdS_pure _), rdS_bind (hck _)]
      split at hq
      · rename_i i v hf
        refine ⟨_, ?_, hq⟩
        rw [rdS_bind (findKey_simple hk hf)]
        rfl
      · rename_i hf
        refine ⟨_, ?_, hq⟩
        rw [rdS_bind (findKey_simple hk hf)]
        dsimp only
        rw [rdS_bind hz']; rfl
      · exact hq.elim
    · exact hq.elim
  · exact hq.elim

end
end Go.Mh
