/- A text of the proofs of seat Ytdpofmalgemcdaa: 'Mh.LSound2'. It has no condition of its own. -/
import Derived.Test.YtdpofmalgemcdaaMhLSound
import Derived.MapKept
set_option linter.unusedVariables false
set_option linter.unusedSimpArgs false
namespace Go.Mh
open Go

section
variable {P : Program} {h : Heap}

theorem stays_sound {kd : TypeDesc} {old k : Value} (hs : Instr.sameNow kd k old = some true) : rdS P (Instr.keyThatStays old k) h = some k := by
  have hb : Instr.sameBits (9999 + 1) old k = true := by
    unfold Instr.sameNow at hs
    split at hs
    · rename_i kk a k' b
      split at hs
      · rename_i he; subst he
        simp only [Option.some.injEq, beq_iff_eq] at hs; subst hs
        simp [Instr.sameBits]
      · cases hs
    · simp only [Option.some.injEq] at hs
      have := (MapKept.bytes_beq _ _).1 hs
      subst this; simp only [Instr.sameBits]; exact (MapKept.bytes_beq _ _).2 rfl
    · simp only [Option.some.injEq, beq_iff_eq] at hs; subst hs; simp [Instr.sameBits]
    · cases hs
  unfold Instr.keyThatStays
  rw [show (10000 : Nat) = 9999 + 1 from rfl, hb]; rfl

theorem rdS_getMap {r : Nat} {es : Array MapEntry} {clock : Nat} (hm : h[r]? = some (.map es clock)) : rdS P (getObj r) h = some (.map es clock) := by
  simp [getObj, rdS, hm]

theorem wpS_setMap {r : Nat} {es : Array MapEntry} {clock : Nat} {o : Obj} {K : Unit → Heap → Prop} (hm : h[r]? = some (.map es clock)) (hk : K () (h.setIfInBounds r o)) :
    wpS P (setObj r o) h K := by
  simp [setObj, wpS, hm]; exact hk

theorem mapSet_sound {t kt et : TypeId} {kd : TypeDesc} {m k v : Value} {K : Value → Heap → Prop} (ht : P.underlying t = some (.map kt et)) (hk : P.underlying kt = some kd)
    (hs : simpleKey kd = true) (hq : pMapSet kd m k v h K) : wpS P (Instr.mapUpdate t m k v) h (fun _ h' => K undef h') := by
  unfold pMapSet at hq
  split at hq
  · rename_i r
    split at hq
    · rename_i es clock hm
      unfold Instr.mapUpdate
      refine wpS_rd (rdS_underlying ht) ?_
      dsimp only
      refine wpS_rd (rdS_getMap hm) ?_
      dsimp only
      refine wpS_rd (checkKey_simple (n := 9999) hk hs) ?_
      split at hq
      · rename_i i old hf
        refine wpS_rd (findKey_simple hk hf) ?_
        dsimp only
        obtain ⟨_, e, he, _, hsn⟩ := findNow_some hf
        have he' : es[i]? = some e := by simpa using he
        refine wpS_rd (a := k) (by rw [he']; exact stays_sound hsn) ?_
        exact wpS_setMap hm hq
      · rename_i hf
        refine wpS_rd (findKey_simple hk hf) ?_
        exact wpS_setMap hm hq
      · exact hq.elim
    · exact hq.elim
  · exact hq.elim

theorem mapEntry_sound {t kt et : TypeId} {kd : TypeDesc} {ei : TypeInfo} {z m k : Value} {K : Value → Heap → Prop} (ht : P.underlying t = some (.map kt et)) (hk : P.underlying kt = some kd)
    (hs : simpleKey kd = true) (he : P.info? et = some ei) (hz : ei.zero = some z) (hq : pMapEntry kd z m k h K) : wpS P (Instr.mapEntry t m k) h K := by
  unfold pMapEntry at hq
  split at hq
  · rename_i r
    split at hq
    · rename_i es clock hm
      unfold Instr.mapEntry
      refine wpS_rd (rdS_underlying ht) ?_
      dsimp only
      refine wpS_rd (rdS_getMap hm) ?_
      dsimp only
      refine wpS_rd (checkKey_simple (n := 9999) hk hs) ?_
      split at hq
      · rename_i i old hf
        refine wpS_rd (findKey_simple hk hf) ?_
        dsimp only
        obtain ⟨_, e, he, _, hsn⟩ := findNow_some hf
        have he' : es[i]? = some e := by simpa using he
        refine wpS_rd (a := k) (by rw [he']; exact stays_sound hsn) ?_
        refine wpS_bind (wpS_setMap hm ?_)
        exact hq
      · rename_i hf
        refine wpS_rd (findKey_simple hk hf) ?_
        dsimp only
        refine wpS_rd (rdS_zeroValue he hz) ?_
        refine wpS_bind (wpS_setMap hm ?_)
        exact hq
      · exact hq.elim
    · exact hq.elim
  · exact hq.elim

theorem entryStore_sound {t : TypeId} {m s v : Value} {K : Value → Heap → Prop} (hq : pEntryStore m s v h K) : wpS P (Instr.entryStore t m s v) h (fun _ h' => K undef h') := by
  unfold pEntryStore at hq
  split at hq
  · rename_i r k n
    split at hq
    · rename_i es clock hm
      split at hq
      · rename_i i hi
        unfold Instr.entryStore
        dsimp only
        refine wpS_rd (rdS_getMap hm) ?_
        dsimp only
        refine wpS_rd (a := n) (by rfl) ?_
        rw [hi]
        exact wpS_setMap hm hq
      · exact hq.elim
    · exact hq.elim
  · exact hq.elim

theorem delete_sound {t kt et : TypeId} {kd : TypeDesc} {argTypes : Array TypeId} {type : TypeId} {args : Array Value} {m k : Value} {K : Value → Heap → Prop} (hT : argTypes[0]? = some t)
    (hargs : args.toList = [m, k]) (ht : P.underlying t = some (.map kt et)) (hk : P.underlying kt = some kd)
    (hs : simpleKey kd = true) (hq : pDelete kd m k h K) : wpS P (Builtin.delete_ argTypes type args) h K := by
  have ha : args = #[m, k] := by apply Array.ext'; simpa using hargs
  subst ha
  unfold pDelete at hq
  unfold Builtin.delete_
  simp only [hT, List.getElem?_toArray, List.getElem?_cons_zero, List.getElem?_cons_succ]
  refine wpS_rd (rdS_underlying ht) ?_
  dsimp only
  split at hq
  · refine wpS_rd (checkKey_simple (n := 9999) hk hs) ?_
    exact hq
  · rename_i r
    split at hq
    · rename_i es clock hm
      refine wpS_rd (rdS_getMap hm) ?_
      dsimp only
      refine wpS_rd (checkKey_simple (n := 9999) hk hs) ?_
      split at hq
      · rename_i i old hf
        refine wpS_rd (findKey_simple hk hf) ?_
        dsimp only
        exact wpS_bind (wpS_setMap hm hq)
      · rename_i hf
        refine wpS_rd (findKey_simple hk hf) ?_
        dsimp only
        exact wpS_bind (wpS_setMap hm hq)
      · exact hq.elim
    · exact hq.elim
  · exact hq.elim

theorem firstCells_sound {size n c l : Nat} {a : Option Addr} {vs : List Value} (hc : cellsOfSl h size n a = some vs) : rdS P (Builtin.firstCells size n (.slice a l c)) h = some vs.toArray := by
  unfold cellsOfSl at hc
  split at hc
  · simp only [Option.some.injEq] at hc; subst hc; rfl
  · exact rdS_loadCells hc
  · cases hc

theorem zeroCells_eq (z : Array Value) (n : Nat) : Builtin.zeroCells z n = (zerosL z.toList n).toArray := zeros_eq z n z.size rfl

theorem append_sound {t e xt xe : TypeId} {i : TypeInfo} {z : Value} {argTypes : Array TypeId} {type : TypeId} {args : Array Value} {s x : Value} {K : Value → Heap → Prop}
    (hT : argTypes[0]? = some t) (hX : argTypes[1]? = some xt) (hargs : args.toList = [s, x]) (ht : P.underlying t = some (.slice e)) (hx : P.underlying xt = some (.slice xe))
    (hi : P.info? e = some i) (hz : i.zero = some z)
    (hq : pAppend e i.size i.bytes z.cells.toList s x h K) : wpS P (Builtin.append_ argTypes type args) h K := by
  have ha : args = #[s, x] := by apply Array.ext'; simpa using hargs
  subst ha
  unfold pAppend at hq
  split at hq
  · rename_i base sLen sCap xb n xc
    split at hq
    · rename_i new hnew
      have hnew' : rdS P (Builtin.firstCells i.size n (.slice xb n xc)) h = some new.toArray := firstCells_sound hnew
      unfold Builtin.append_
      simp only [hT, hX, List.getElem?_toArray, List.getElem?_cons_zero, List.getElem?_cons_succ]
      refine wpS_rd (rdS_underlying ht) ?_
      dsimp only
      refine wpS_rd (rdS_sizeOf hi) ?_
      refine wpS_rd (rdS_underlying hx) ?_
      dsimp only
      refine wpS_rd (rdS_pure _) ?_
      simp only [Bool.false_eq_true, if_false, Bool.not_false, if_true]
      refine wpS_rd (a := n) (by rfl) ?_
      split at hq
      · rename_i hle
        rw [if_pos hle]
        refine wpS_rd hnew' ?_
        split at hq
        · rename_i b o
          dsimp only
          refine wpS_bind ?_
          rw [addr_add]
          exact wpS_mono (fun _ _ hk => hk) (storeCells_sound (P := P) (b := b) (o := o + sLen * i.size) (K := K (.slice (some ⟨b, o, none⟩) (sLen + n) sCap)) new 0 (by simpa using hq))
        · exact hq
        · exact hq.elim
      · rename_i hle
        rw [if_neg hle]
        split at hq
        · rename_i old hold
          obtain ⟨hcap, hb, hk⟩ := hq
          have hold' : rdS P (Builtin.firstCells i.size sLen (.slice base sLen sCap)) h = some old.toArray := firstCells_sound hold
          refine wpS_rd (rdS_typeInfo hi) ?_
          rw [if_neg (by
            rintro ⟨h1, _⟩
            have : IntKind.i64.max = 2 ^ 63 - 1 := rfl
            omega)]
          refine wpS_rd (rdS_typeInfo hi) ?_
          rw [if_neg (by omega)]
          refine wpS_bind ?_
          have hch : ∀ c, sLen + n ≤ c → c < 2 ^ 63 → wpS P (do
              askRoom (c * (← typeInfo e).bytes)
              let old ← Builtin.firstCells i.size sLen (.slice base sLen sCap)
              let new ← Builtin.firstCells i.size n (.slice xb n xc)
              let rest := Builtin.zeroCells (← zeroValue e).cells (c - (sLen + n))
              pure (.slice (some (← newRow e (old ++ new ++ rest))) (sLen + n) c) : Sem Value) h K := by
            intro c hc hc2
            have fin : wpS P (do
              let old ← Builtin.firstCells i.size sLen (.slice base sLen sCap)
              let new ← Builtin.firstCells i.size n (.slice xb n xc)
              let rest := Builtin.zeroCells (← zeroValue e).cells (c - (sLen + n))
              pure (.slice (some (← newRow e (old ++ new ++ rest))) (sLen + n) c) : Sem Value) h K := by
              refine wpS_rd hold' (wpS_rd hnew' (wpS_rd (rdS_zeroValue hi hz) ?_))
              rw [zeroCells_eq]
              show K _ _
              have := hk c hc hc2
              simpa using this
            refine wpS_rd (rdS_typeInfo hi) ?_
            unfold askRoom
            split
            · exact wpS_bind (show wpS P (mark .noRoom) h _ from fin)
            · exact wpS_bind (wpS_pure fin)
          show wpS P (choose _) h _
          unfold choose
          simp only [wpS, Question.forced, Bool.false_eq_true, if_false]
          intro t
          refine hch _ (Nat.le_add_right _ _) ?_
          show sLen + n + t % (2 ^ 63 - (sLen + n)) < 2 ^ 63
          have := Nat.mod_lt t (show 0 < 2 ^ 63 - (sLen + n) by omega)
          omega
        · exact hq.elim
    · exact hq.elim
  · exact hq.elim

theorem callFunc_wp {f : FuncId} {args : Array Value} {K : Value → Heap → Prop} (hq : CallsH P f args h K) : wpS P (callFunc f args) h (nextK P K) := by
  obtain ⟨hc, hk⟩ := hq
  unfold Callable at hc
  split at hc
  · rename_i fn hfn
    simp only [Bool.and_eq_true, Bool.not_eq_true', beq_eq_false_iff_ne, ne_eq] at hc
    have hb : fn.body.isNone = false := by cases hx : fn.body <;> simp_all
    unfold callFunc
    refine wpS_rd (a := P) (by rfl) ?_
    simp only [hfn, hb]
    rw [if_neg (by simpa using hc.2)]
    exact hk
  · cases hc

theorem callV_wp {v : Value} {args : Array Value} {K : Value → Heap → Prop} (hq : callV P v args h K) :
    wpS P (do let d ← Deferred.ofValue v args; invoke d.target d.args) h (nextK P K) := by
  unfold callV at hq
  split at hq
  · refine wpS_rd (rdS_pure _) ?_
    exact callFunc_wp hq
  · rename_i l first _
    refine wpS_rd (rdS_pure _) ?_
    unfold YieldH at hq
    split at hq
    · rename_i L hL
      show wpS P (Instr.yield l (first ++ args)) h _
      unfold Instr.yield Instr.getLoop
      refine wpS_rd (a := L) (by rw [rdS_bind (a := .loop L) (by simp [getObj, rdS, hL])]; rfl) ?_
      rw [if_neg (by simpa using hq.1)]
      exact hq.2
    · exact hq.elim
  · exact hq.elim

end
end Go.Mh
