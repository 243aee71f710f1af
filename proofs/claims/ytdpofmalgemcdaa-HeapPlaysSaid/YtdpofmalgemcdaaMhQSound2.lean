/- A text of the proofs of seat Ytdpofmalgemcdaa: 'Mh.QSound2'. It has no condition of its own. -/
import Derived.Test.YtdpofmalgemcdaaMhQSound
set_option linter.unusedVariables false
set_option linter.unusedSimpArgs false
namespace Go.Mh
open Go

section
variable {P : Program} {h : Heap}

theorem idx_sound {t e : TypeId} {info : TypeInfo} {x i : Value} {K : Value → Prop} (ht : P.underlying t = some (.slice e)) (he : P.info? e = some info)
    (hq : pIdx info.size x i K) : ∃ v, rdS P (Instr.indexAt t x i) h = some v ∧ K v := by
  unfold pIdx at hq
  split at hq
  · rename_i b o len cap k i
    obtain ⟨h0, h1, hk⟩ := hq
    refine ⟨_, ?_, hk⟩
    unfold Instr.indexAt
    rw [rdS_bind (a := (k, i)) (by rfl), rdS_bind (rdS_underlying ht)]
    dsimp only
    rw [rdS_bind (rdS_pure _)]
    dsimp only
    rw [rdS_bind (rdS_underlying ht)]
    dsimp only
    rw [if_pos ⟨h0, h1⟩, rdS_bind (rdS_sizeOf he), addr_add]; rfl
  · exact hq.elim

theorem idxA_sound {t e : TypeId} {n : Nat} {info : TypeInfo} {x i : Value} {K : Value → Prop} (ht : P.underlying t = some (.array n e)) (he : P.info? e = some info)
    (hq : pIdxA info.size n x i K) : ∃ v, rdS P (Instr.indexAt t x i) h = some v ∧ K v := by
  unfold pIdxA at hq
  split at hq
  · rename_i b o k i
    obtain ⟨h0, h1, hk⟩ := hq
    refine ⟨_, ?_, hk⟩
    unfold Instr.indexAt
    rw [rdS_bind (a := (k, i)) (by rfl), rdS_bind (rdS_underlying ht)]
    dsimp only
    rw [rdS_bind (a := ⟨b, o, none⟩) (by rfl), rdS_bind (rdS_pure _)]
    dsimp only
    rw [rdS_bind (rdS_underlying ht)]
    dsimp only
    rw [if_pos ⟨h0, h1⟩, rdS_bind (rdS_sizeOf he), addr_add]; rfl
  · exact hq.elim

theorem slice_sound {t e : TypeId} {info : TypeInfo} {x : Value} {lo hi mx : Option Value} {K : Value → Prop} (ht : P.underlying t = some (.slice e)) (he : P.info? e = some info)
    (hq : pSlice info.size x lo hi mx K) : ∃ v, rdS P (Instr.sliceAt t x lo hi mx) h = some v ∧ K v := by
  unfold pSlice at hq
  split at hq
  · rename_i a len cap
    split at hq
    · rename_i l hh m hl hh' hm
      obtain ⟨hmx, h0, h1, h2, h3, hk⟩ := hq
      refine ⟨_, ?_, hk⟩
      unfold Instr.sliceAt
      rw [rdS_bind (rdS_underlying ht)]
      dsimp only
      unfold Instr.slice
      rw [rdS_bind (rdS_underlying ht)]
      dsimp only
      rw [rdS_bind (bounds_sound hl hh' hm hmx h0 h1 h2 h3)]
      dsimp only
      rw [rdS_bind (rdS_sizeOf he), slBase_eq]; rfl
    · exact hq.elim
  · exact hq.elim

theorem sliceS_sound {t : TypeId} {x : Value} {lo hi : Option Value} {K : Value → Prop} (ht : P.underlying t = some .string)
    (hq : pSliceS x lo hi K) : ∃ v, rdS P (Instr.sliceAt t x lo hi none) h = some v ∧ K v := by
  unfold pSliceS at hq
  split at hq
  · rename_i s
    split at hq
    · rename_i l hh hl hh'
      obtain ⟨h0, h1, h2, hk⟩ := hq
      refine ⟨_, ?_, hk⟩
      unfold Instr.sliceAt
      rw [rdS_bind (rdS_underlying ht)]
      dsimp only
      unfold Instr.slice
      rw [rdS_bind (rdS_underlying ht)]
      dsimp only
      have hb := bounds_sound (P := P) (h := h) (b := false) (len := s.size) (cap := s.size) (mx := none) (m := s.size) hl hh' rfl (by simp) h0 h1 h2 (by omega)
      simp only [Option.isSome_none, Bool.false_eq_true, if_false]
      rw [rdS_bind hb]; rfl
    · exact hq.elim
  · exact hq.elim

theorem field_sound {s : TypeId} {fs : Array Field} {f : Nat} {fd : Field} {i : TypeInfo} {x : Value} {n : Nat} {K : Value → Prop} (hs : P.underlying s = some (.struct fs))
    (hf : fs[f]? = some fd) (hi : P.info? fd.type = some i) (hn : i.size = n + 1) (hq : pField fd.offset x K) : ∃ v, rdS P (Instr.fieldAt s x f) h = some v ∧ K v := by
  unfold pField at hq
  split at hq
  · rename_i b o
    refine ⟨_, ?_, hq⟩
    unfold Instr.fieldAt
    rw [rdS_bind (rdS_underlying hs)]
    dsimp only
    rw [hf]
    dsimp only
    rw [rdS_bind (a := ⟨b, o, none⟩) (by rfl)]
    unfold fieldPlace
    have : rdS P (do
        if (← sizeOf fd.type) = 0 then partAt ⟨b, o, none⟩ fd.offset fd.byteOffset else pure ((⟨b, o, none⟩ : Addr).add fd.offset)) h = some ⟨b, o + fd.offset, none⟩ := by
      rw [rdS_bind (rdS_sizeOf hi), if_neg (by omega), addr_add]; rfl
    rw [rdS_bind this]; rfl
  · exact hq.elim

theorem part_sound {s : TypeId} {fs : Array Field} {f : Nat} {fd : Field} {d : TypeDesc} {i : TypeInfo} {x : Value} {K : Value → Prop} (hs : P.underlying s = some (.struct fs))
    (hf : fs[f]? = some fd) (hd : P.underlying fd.type = some d) (hi : P.info? fd.type = some i)
    (hq : match isAggD d with
      | true => pPartN fd.offset i.size x K
      | false => pPart1 fd.offset x K) : ∃ v, rdS P (Instr.field s x f) h = some v ∧ K v := by
  cases hag : isAggD d with
  | true =>
    simp only [hag] at hq
    unfold pPartN at hq
    split at hq
    · rename_i cs
      refine ⟨_, ?_, hq⟩
      unfold Instr.field
      rw [rdS_bind (rdS_underlying hs)]
      dsimp only
      rw [hf]
      dsimp only
      rw [rdS_bind (a := cs) (by rfl)]
      unfold part
      rw [rdS_bind (rdS_isAgg hd), hag]
      simp only [if_true]
      rw [rdS_bind (rdS_sizeOf hi)]; rfl
    · exact hq.elim
  | false =>
    simp only [hag] at hq
    unfold pPart1 at hq
    split at hq
    · rename_i cs
      split at hq
      · rename_i v hv
        refine ⟨_, ?_, hq⟩
        unfold Instr.field
        rw [rdS_bind (rdS_underlying hs)]
        dsimp only
        rw [hf]
        dsimp only
        rw [rdS_bind (a := cs) (by rfl)]
        unfold part
        rw [rdS_bind (rdS_isAgg hd), hag]
        simp [hv, rdS, pure]
      · exact hq.elim
    · exact hq.elim

theorem ext_sound {x : Value} {i : Nat} {K : Value → Prop} (hq : pExt x i K) : ∃ v, rdS P (Instr.extract x i) h = some v ∧ K v := by
  unfold pExt at hq
  split at hq
  · split at hq
    · rename_i v hv
      exact ⟨v, by simp [Instr.extract, hv, rdS, pure], hq⟩
    · exact hq.elim
  · exact hq.elim

theorem un_sound {op : UnOp} {x : Value} {K : Value → Prop} (hq : pUn op x K) : ∃ v, rdS P (Op.unary op x) h = some v ∧ K v := by
  unfold pUn at hq
  split at hq
  · exact ⟨_, by simp [Op.unary, Op.intArith, rdS, pure], hq⟩
  · exact ⟨_, by simp [Op.unary, rdS, pure], hq⟩
  · exact hq.elim

theorem conv_sound {s d : TypeId} {ds : TypeDesc} {k : IntKind} {x : Value} {K : Value → Prop} (hs : P.underlying s = some ds) (hd : P.underlying d = some (.int k))
    (hq : pConv k x K) : ∃ v, rdS P (convert s d x) h = some v ∧ K v := by
  unfold pConv at hq
  split at hq
  · rename_i k' n
    refine ⟨_, ?_, hq⟩
    unfold convert
    rw [rdS_bind (rdS_underlying hs), rdS_bind (rdS_underlying hd)]
    cases ds <;> rfl
  · exact hq.elim

theorem min_sound {x y : Value} {K : Value → Prop} (hq : pMin x y K) : ∃ v, rdS P (Builtin.min2 x y) h = some v ∧ K v := by
  unfold pMin at hq
  split at hq
  · exact ⟨_, by simp [Builtin.min2, rdS, pure], hq⟩
  · exact hq.elim

theorem max_sound {x y : Value} {K : Value → Prop} (hq : pMax x y K) : ∃ v, rdS P (Builtin.max2 x y) h = some v ∧ K v := by
  unfold pMax at hq
  split at hq
  · exact ⟨_, by simp [Builtin.max2, rdS, pure], hq⟩
  · exact hq.elim

/-! ### Literals -/

theorem foldl_cells (off : Nat) : ∀ (l : List Value) (j : Nat) (cs : Array Value), off + j + l.length ≤ cs.size →
    ((l.zipIdx j).foldl (fun cs (x : Value × Nat) => cs.setIfInBounds (off + x.2) x.1) cs).toList = cs.toList.take (off + j) ++ l ++ cs.toList.drop (off + j + l.length)
  | [], j, cs, _ => by simp
  | c :: l, j, cs, hle => by
    simp only [List.length_cons] at hle
    simp only [List.zipIdx_cons, List.foldl_cons]
    rw [foldl_cells off l (j + 1) _ (by simp; omega)]
    simp only [Array.toList_setIfInBounds]
    have hlen : off + j < cs.toList.length := by simp; omega
    have e1 : (cs.toList.set (off + j) c).take (off + (j + 1)) = cs.toList.take (off + j) ++ [c] := by
      rw [show off + (j + 1) = (off + j) + 1 by omega, List.take_succ_eq_append_getElem (by simpa using hlen)]
      simp [List.take_set_of_le]
    have e2 : (cs.toList.set (off + j) c).drop (off + (j + 1) + l.length) = cs.toList.drop (off + j + (l.length + 1)) := by
      rw [List.drop_set_of_lt (by omega), show off + (j + 1) + l.length = off + j + (l.length + 1) by omega]
    rw [e1, e2]; simp

end
end Go.Mh
