/- Texts of the proofs of seat YtjamcgoebnafkaaGreatDoor, joined: Meet, ViewA, ViewB. They have no conditions of their own. -/
import Derived.Test.YtjamcgoebnafkaaGreatDoorMc
import Derived.Test.YtjamcgoebnafkaaGreatDoorMb
import Derived.OpenShut
set_option linter.unusedVariables false
set_option linter.unusedSimpArgs false

/-! Where two floods meet. -/
namespace Go.Mh
open Go

theorem meetGo_spec {d d' : List Int} : ∀ i : Nat, (meetGo d d' i = (-1, far) ∧ ∀ u : Nat, u < i → ¬ (rchd d u = true ∧ rchd d' u = true)) ∨
    ∃ v : Nat, v < i ∧ meetGo d d' i = ((v : Int), d.getD v far + d'.getD v far) ∧ rchd d v = true ∧ rchd d' v = true ∧ ∀ u : Nat, u < i → rchd d u = true → rchd d' u = true → d.getD v far + d'.getD v far ≤ d.getD u far + d'.getD u far
  | 0 => .inl ⟨rfl, fun u h => absurd h (by omega)⟩
  | i + 1 => by
    have step : meetGo d d' (i + 1) = if rchd d i = true ∧ rchd d' i = true ∧ ((meetGo d d' i).1 < 0 ∨ d.getD i far + d'.getD i far < (meetGo d d' i).2) then ((i : Int), d.getD i far + d'.getD i far) else meetGo d d' i := rfl
    have split : ∀ {u : Nat}, u < i + 1 → u < i ∨ u = i := fun h => by omega
    by_cases hb : rchd d i = true ∧ rchd d' i = true
    · rcases meetGo_spec (d := d) (d' := d') i with ⟨h1, h2⟩ | ⟨v, hv, h1, r1, r2, h2⟩
      · rw [h1, if_pos ⟨hb.1, hb.2, .inl (by decide)⟩] at step
        refine .inr ⟨i, by omega, step, hb.1, hb.2, fun u hu a b => ?_⟩
        rcases split hu with h | rfl
        · exact absurd ⟨a, b⟩ (h2 u h)
        · exact Int.le_refl _
      · rw [h1] at step
        by_cases hlt : d.getD i far + d'.getD i far < d.getD v far + d'.getD v far
        · rw [if_pos ⟨hb.1, hb.2, .inr hlt⟩] at step
          refine .inr ⟨i, by omega, step, hb.1, hb.2, fun u hu a b => ?_⟩
          rcases split hu with h | rfl
          · have := h2 u h a b; omega
          · exact Int.le_refl _
        · rw [if_neg (by rintro ⟨_, _, h | h⟩; exact absurd h (by omega); exact hlt h)] at step
          refine .inr ⟨v, by omega, step, r1, r2, fun u hu a b => ?_⟩
          rcases split hu with h | rfl
          · exact h2 u h a b
          · omega
    · rw [if_neg fun e => hb ⟨e.1, e.2.1⟩] at step
      rcases meetGo_spec (d := d) (d' := d') i with ⟨h1, h2⟩ | ⟨v, hv, h1, r1, r2, h2⟩
      · refine .inl ⟨by rw [step, h1], fun u hu => ?_⟩
        rcases split hu with h | rfl
        · exact h2 u h
        · exact hb
      · refine .inr ⟨v, by omega, by rw [step, h1], r1, r2, fun u hu a b => ?_⟩
        rcases split hu with h | rfl
        · exact h2 u h a b
        · exact absurd ⟨a, b⟩ hb

section
variable {g : G} {s t : Nat}

/-- What is known of a node that both floods reach. -/
theorem meet_node (hR : g.Right) (hs : s < g.n) (ht : t < g.n) {u : Nat} (hu : u < g.n) (h1 : dAt (g.from s).dist u < far) (h2 : dAt (g.to t).dist u < far) :
    ∃ la lb, folI g.n g.arcs (g.from s).dist (g.from s).arc A.t A.f u = some la ∧ folI g.n g.arcs (g.to t).dist (g.to t).arc A.f A.t u = some lb ∧ Trail g.arcs s (la.reverse ++ lb) t ∧
      tsum g.arcs (la.reverse ++ lb) = dAt (g.from s).dist u + dAt (g.to t).dist u ∧ dAt (g.from s).dist t ≤ dAt (g.from s).dist u + dAt (g.to t).dist u ∧ dAt (g.from s).dist t < far := by
  have TF := from_tree hR hs
  have TT := to_tree hR ht
  obtain ⟨la, ha, FA⟩ := (folI_tree TF hu).1 h1
  obtain ⟨lb, hb, FB⟩ := (folI_tree TT hu).1 h2
  have hmost := hR.most
  have tsr : ∀ r : List Nat, tsum g.arcs r.reverse = tsum g.arcs r := fun r => by
    induction r with
    | nil => rfl
    | cons i r ih => rw [List.reverse_cons, tsum_append, tsum_cons, tsum_cons, ih, tsum_nil]; omega
  have tr := FA.rt.bwd.append FB.rt.fwd
  have es : tsum g.arcs (la.reverse ++ lb) = dAt (g.from s).dist u + dAt (g.to t).dist u := by
    rw [tsum_append, tsr, FA.sum, FB.sum]
  have top : ∀ {tl hd : A → Nat} {s : Nat} {T : Tr}, TreeOf g.arcs tl hd g.n s T → dAt T.dist u < far → dAt T.dist u ≤ 16777215 * 2147483647 := by
    intro tl hd s T H hl
    have hm := (H.reached u hu).2 hl
    have q := H.top (fun a ha => by have := (hR.ends a ha).2.2; show (a.w : Int) ≤ 2147483647; omega) u hm
    have hi : T.order.idxOf u < T.order.length := List.idxOf_lt_length_iff.2 hm
    have hlen := nodup_le H.nodup H.range
    refine Int.le_trans q ?_
    have : ((T.order.idxOf u : Nat) : Int) ≤ 16777215 := by omega
    show _ * 2147483647 ≤ _
    omega
  have t1 := top TF h1
  have t2 := top TT h2
  have hf : far = 72057594037927936 := rfl
  have w := Trail.way .nil tr
  rw [Int.zero_add, es] at w
  have le := TF.ls.le_way w (by omega)
  exact ⟨la, lb, ha, hb, tr, es, le, by omega⟩

/-- Where both floods meet. -/
theorem meet_tree (hR : g.Right) (hs : s < g.n) (ht : t < g.n) :
    (dAt (g.from s).dist t < far ∧ ∃ v : Nat, v < g.n ∧ meet (g.from s).dist (g.to t).dist = ((v : Int), dAt (g.from s).dist t) ∧ dAt (g.from s).dist v < far ∧ dAt (g.to t).dist v < far ∧ dAt (g.from s).dist v + dAt (g.to t).dist v = dAt (g.from s).dist t) ∨
    (¬ dAt (g.from s).dist t < far ∧ meet (g.from s).dist (g.to t).dist = (-1, far) ∧ ∀ u, u < g.n → ¬ (dAt (g.from s).dist u < far ∧ dAt (g.to t).dist u < far)) := by
  have TF := from_tree hR hs
  have TT := to_tree hR ht
  have r1 : ∀ {u : Nat}, u < g.n → (rchd (g.from s).dist u = true ↔ dAt (g.from s).dist u < far) := fun hu => rchd_iff (by rw [TF.ls.len]; exact hu) (TF.ls.nonneg hu)
  have r2 : ∀ {u : Nat}, u < g.n → (rchd (g.to t).dist u = true ↔ dAt (g.to t).dist u < far) := fun hu => rchd_iff (by rw [TT.ls.len]; exact hu) (TT.ls.nonneg hu)
  have hl : min (g.from s).dist.length (g.to t).dist.length = g.n := by rw [TF.ls.len, TT.ls.len]; omega
  unfold meet
  rw [hl]
  rcases meetGo_spec (d := (g.from s).dist) (d' := (g.to t).dist) g.n with ⟨h1, h2⟩ | ⟨v, hv, h1, a1, a2, h2⟩
  · refine .inr ⟨fun h => h2 t ht ⟨(r1 ht).2 h, (r2 ht).2 (by rw [TT.ls.zero]; decide)⟩, h1, fun u hu ⟨a, b⟩ => h2 u hu ⟨(r1 hu).2 a, (r2 hu).2 b⟩⟩
  · have b1 := (r1 hv).1 a1
    have b2 := (r2 hv).1 a2
    obtain ⟨_, _, _, _, _, _, le, lt⟩ := meet_node hR hs ht hv b1 b2
    have ge := h2 t ht ((r1 ht).2 lt) ((r2 ht).2 (by rw [TT.ls.zero]; decide))
    have z : (g.to t).dist.getD t far = 0 := TT.ls.zero
    rw [z] at ge
    have e : dAt (g.from s).dist v + dAt (g.to t).dist v = dAt (g.from s).dist t := by
      have : (g.from s).dist.getD v far + (g.to t).dist.getD v far ≤ (g.from s).dist.getD t far := by omega
      show (g.from s).dist.getD v far + (g.to t).dist.getD v far = (g.from s).dist.getD t far
      exact Int.le_antisymm this le
    exact .inl ⟨lt, v, hv, by rw [h1]; exact congrArg (Prod.mk (v : Int)) e, b1, b2, e⟩

end
end Go.Mh

namespace Go.Mh
open Go Go.ChangeShapes Go.WideShapes Go.ChangeAt Go.RowKit

section
variable {H : Type} {encD : TypeId × Value → H} {P : Program} {w : World} {e t : TypeId} {v : Value} {r : Reach} {base : Nat} {d : DataW H} {p : List MemPlace}

/-- An array of three numbers, given. -/
theorem arr3_of {k : IntKind} (ht : P.underlying t = some (.array 3 e)) (he : P.underlying e = some (.int k)) (hct : P.cellsOf t = 3) (hce : P.cellsOf e = 1) (hv : Value.okWide P w r base t v) (hd : DataW.Trod encD P w 0 (fun _ => true) true t v d p) :
    ∃ a b c : Int, v = .agg #[.int k a, .int k b, .int k c] ∧ (k.min ≤ a ∧ a ≤ k.max) ∧ (k.min ≤ b ∧ b ≤ k.max) ∧ (k.min ≤ c ∧ c ≤ k.max) := by
  simp only [Value.okWide, ht] at hv
  obtain ⟨cs, rfl, hsz, _⟩ := hv
  rw [hct] at hsz
  obtain ⟨l⟩ := cs
  match l, hsz with
  | [c0, c1, c2], _ =>
    obtain ⟨fuel, hf⟩ := hd
    cases fuel with
    | zero => simp [DataW.trod] at hf
    | succ n =>
      simp only [Value.cells] at hf
      unfold DataW.trod at hf
      rw [ht] at hf
      have r3 : List.range 3 = [0, 1, 2] := rfl
      simp [r3, hce] at hf
      obtain ⟨_, hf⟩ := hf
      cases h0 : DataW.trod encD P w 0 (fun _ => true) true n e [c0] with
      | none => simp [h0] at hf
      | some y0 =>
        cases h1 : DataW.trod encD P w 0 (fun _ => true) true n e [c1] with
        | none => simp [h0, h1] at hf
        | some y1 =>
          cases h2 : DataW.trod encD P w 0 (fun _ => true) true n e [c2] with
          | none => simp [h0, h1, h2] at hf
          | some y2 =>
            obtain ⟨a, ea, ra⟩ := dec_int (k := k) he _ _ _ h0
            obtain ⟨b, eb, rb⟩ := dec_int (k := k) he _ _ _ h1
            obtain ⟨c, ec, rc⟩ := dec_int (k := k) he _ _ _ h2
            simp only [List.cons.injEq, and_true] at ea eb ec
            subst ea eb ec
            exact ⟨a, b, c, rfl, ra, rb, rc⟩

end
end Go.Mh

namespace Go.Mh
open Go Go.ChangeShapes Go.WideShapes Go.ChangeAt Go.RowKit

section
variable {H : Type} {encD : TypeId × Value → H} {P : Program} {w : World} {α : Type} {enc : α → List Value} {ok : α → Prop} {n : Nat} {e t : TypeId} {v : Value} {r : Reach} {base : Nat} {d : DataW H} {p : List MemPlace} {cs : List Value}

theorem view_at {fuel : Nat} {x0 : DataW H × List MemPlace} (he : ∀ a, (enc a).length = n) (ht : P.underlying t = some (.slice e)) (hn : P.cellsOf e = n) (hpos : 0 < n)
    (hdec : ∀ fuel cs x, DataW.trod encD P w 0 (fun _ => true) true fuel e cs = some x → ∃ a, cs = enc a ∧ ok a)
    (hf : DataW.trod encD P w 0 (fun _ => true) true fuel t [v] = some x0) (hsp0 : ∀ a l c, v = .slice (some a) l c → a.spot = none) :
    ∃ bl xs, VwR enc n w.heap v bl xs ∧ (∀ a ∈ xs, ok a) ∧ xs.length ≤ maxLen := by
  rcases Go.Deep.open_slice ht hf with ⟨hc, _⟩ | ⟨a, len, cap, m, fuel', D, Pl, hc, _, hle, hmx, hm, _, hx⟩
  · simp only [List.cons.injEq, and_true] at hc
    subst hc
    exact ⟨0, [], ⟨none, 0, rfl, Nat.le_refl _, .inl ⟨rfl, .inl rfl⟩⟩, by simp, by simp⟩
  · simp only [List.cons.injEq, and_true] at hc
    subst hc
    have hsp := hsp0 a len cap rfl
    simp only [if_true] at hm
    subst hm
    have hall : ∀ i, i < len → ∃ x : α, w.cells? 0 (a.add (i * n)) n = some (enc x) ∧ ok x := by
      intro i hi
      obtain ⟨cs', h1, h2⟩ := hx i (by omega)
      obtain ⟨x, rfl, hok⟩ := hdec _ _ _ h2
      rw [hn] at h1
      exact ⟨x, h1, hok⟩
    obtain ⟨xs, hl, hxs⟩ := choose_list (Q := fun i x => w.cells? 0 (a.add (i * n)) n = some (enc x) ∧ ok x) len hall
    refine ⟨a.block, xs, ?_, fun x hx' => ?_, by omega⟩
    · refine ⟨some a, m, by rw [hl], by omega, ?_⟩
      have ha : a = ⟨a.block, a.off, none⟩ := by
        obtain ⟨b, o, s⟩ := a; simp only at hsp; subst hsp; rfl
      by_cases h0 : xs = []
      · exact .inl ⟨h0, .inr ⟨_, _, by rw [← ha]⟩⟩
      · right
        have hlp : 0 < xs.length := List.length_pos_iff.2 h0
        have hcell : ∀ i (hi : i < xs.length) j, j < n → w.cell? ⟨a.block, a.off + i * n + j, none⟩ = (enc xs[i])[j]? := by
          intro i hi j hj
          have h1 := (hxs i hi).1
          unfold World.cells? at h1
          rw [if_pos (Nat.zero_le _), add_plain hsp] at h1
          have := mapM_get h1 j j (by simp [hj])
          rw [add_plain rfl] at this
          exact this
        have h00 := hcell 0 hlp 0 hpos
        simp only [World.cell?] at h00
        have hblk : ∃ c T fz, w.heap[a.block]? = some (.cells c T fz) := by
          split at h00
          · rename_i c T fz hb; exact ⟨c, T, fz, hb⟩
          · rw [List.getElem?_eq_getElem (by rw [he]; exact hpos)] at h00; cases h00
        obtain ⟨c, T, fz, hb⟩ := hblk
        have hcc : ∀ i (hi : i < xs.length) j, j < n → c[a.off + i * n + j]? = (enc xs[i])[j]? := by
          intro i hi j hj
          have := hcell i hi j hj
          simpa [World.cell?, hb] using this
        have hrl := row_length he xs
        have hmid : (c.toList.drop a.off).take (xs.length * n) = row enc xs := by
          apply List.ext_getElem?
          intro k
          by_cases hk : k < xs.length * n
          · have hi : k / n < xs.length := (Nat.div_lt_iff_lt_mul hpos).2 hk
            have hj : k % n < n := Nat.mod_lt _ hpos
            have hkk : k / n * n + k % n = k := by rw [Nat.mul_comm]; exact Nat.div_add_mod k n
            have g := row_get he hi hj []
            rw [List.append_nil, hkk] at g
            rw [g, ← hcc _ hi _ hj, List.getElem?_take_of_lt hk, List.getElem?_drop, Nat.add_assoc, hkk]
            simp
          · rw [List.getElem?_eq_none (by simp; omega), List.getElem?_eq_none (by omega)]
        have hsize : a.off + xs.length * n ≤ c.size := by
          have hi : xs.length - 1 < xs.length := by omega
          have h1 := hcc (xs.length - 1) hi (n - 1) (by omega)
          rw [List.getElem?_eq_getElem (by rw [he]; omega)] at h1
          have h2 := (Array.getElem?_eq_some_iff.1 h1).1
          have h3 : (xs.length - 1) * n + n = xs.length * n := by rw [← Nat.succ_mul]; congr 1; omega
          omega
        refine ⟨a.off, c.toList.take a.off, c.toList.drop (a.off + xs.length * n), T, fz, by rw [← ha], ?_, by simp; omega⟩
        rw [hb, ← hmid]
        have : c.toList.take a.off ++ (c.toList.drop a.off).take (xs.length * n) ++ c.toList.drop (a.off + xs.length * n) = c.toList := by
          rw [← List.drop_drop, List.append_assoc, List.take_append_drop, List.take_append_drop]
        rw [this]
    · obtain ⟨i, hi, rfl⟩ := List.mem_iff_getElem.1 hx'
      exact (hxs i hi).2


/-- Cells of a type, given: they can be gone through, and slices among them begin at no spot. -/
def Opn (encD : TypeId × Value → H) (P : Program) (w : World) (t : TypeId) (cs : List Value) : Prop :=
  (∃ fuel x, DataW.trod encD P w 0 (fun _ => true) true fuel t cs = some x) ∧ ∀ v ∈ cs, ∀ a l c, v = .slice (some a) l c → a.spot = none

theorem cell_spot {a : Addr} {l c : Nat} (h : Cell.okWide P w r base t (.slice (some a) l c)) : a.spot = none := by
  unfold Cell.okWide at h
  cases hu : P.underlying t with
  | none => simp [hu, Cell.ok] at h
  | some u =>
    cases u <;> simp [hu, Cell.ok] at h
    exact h.2.2.2.1

theorem Opn.of_slice (ht : P.underlying t = some (.slice e)) (hv : Value.okWide P w r base t v) (hd : DataW.Trod encD P w 0 (fun _ => true) true t v d p) : Opn encD P w t [v] := by
  obtain ⟨a0, len0, cap0, rfl⟩ := okWide_slice ht hv
  obtain ⟨fuel, hf⟩ := hd
  refine ⟨⟨fuel, _, hf⟩, fun v hv' a l c e' => ?_⟩
  simp at hv'
  subst hv'
  injection e' with e1 e2 e3
  subst e1
  exact okWide_slice_spot ht hv

def isAgg (P : Program) (t : TypeId) : Bool := match P.underlying t with
  | some (.struct _) | some (.array _ _) => true
  | _ => false

theorem agg_of (ha : isAgg P t = true) (hn : P.cellsOf t = n) (hv : Value.okWide P w r base t v) (hd : DataW.Trod encD P w 0 (fun _ => true) true t v d p) :
    ∃ cs : List Value, v = .agg cs.toArray ∧ cs.length = n ∧ Opn encD P w t cs := by
  have : ∃ cs, v = .agg cs ∧ cs.size = P.cellsOf t ∧ Row.okWide P w r base t cs := by
    unfold Value.okWide at hv
    unfold isAgg at ha
    split at hv
    · exact hv
    · exact hv
    · rename_i h1 h2
      split at ha
      · rename_i h3; exact absurd h3 (h1 _)
      · rename_i h3; exact absurd h3 (h2 _ _)
      · cases ha
  obtain ⟨cs, rfl, hs, ts, _, _, hc⟩ := this
  obtain ⟨fuel, hf⟩ := hd
  refine ⟨cs.toList, by simp, by simpa [hn] using hs, ⟨fuel, _, hf⟩, fun v hv a l c e => ?_⟩
  obtain ⟨i, hi⟩ := List.getElem?_of_mem hv
  obtain ⟨u, _, hu⟩ := hc i v (by simpa using hi)
  rw [e] at hu
  exact cell_spot hu

def fieldOf (P : Program) (t : TypeId) (i : Nat) : Option (TypeId × Nat) := match P.underlying t with
  | some (.struct fs) => fs.toList[i]?.map fun f => (f.type, f.offset)
  | _ => none

theorem Opn.field (O : Opn encD P w t cs) (i : Nat) {ft : TypeId} {off : Nat} {cs' : List Value} (hf : fieldOf P t i = some (ft, off)) (hn : P.cellsOf ft = n) (hcs : (cs.drop off).take n = cs') : Opn encD P w ft cs' := by
  obtain ⟨⟨fuel, x, h⟩, hs⟩ := O
  unfold fieldOf at hf
  split at hf
  · rename_i fs ht
    obtain ⟨xs, m, rfl, _, _, _, hfs⟩ := DataW.trod_struct ht h
    simp only [Option.map_eq_some_iff] at hf
    obtain ⟨f, hi, e⟩ := hf
    injection e with e1 e2
    subst e1 e2 hn hcs
    refine ⟨⟨m, ?_⟩, fun v hv => hs v (List.mem_of_mem_drop (List.mem_of_mem_take hv))⟩
    have hh := hfs i f (by simpa using hi)
    obtain ⟨y, hy⟩ : ∃ y, xs[i]? = some y := by
      have : i < xs.length := by
        have := (List.getElem?_eq_some_iff.1 hi).1
        simp_all
      exact ⟨_, List.getElem?_eq_getElem this⟩
    exact ⟨y, by rw [hh, hy]⟩
  · cases hf

theorem Opn.elem {m : Nat} (O : Opn encD P w t cs) (i : Nat) {cs' : List Value} (ht : P.underlying t = some (.array m e)) (hi : i < m) (hn : P.cellsOf e = n) (hcs : (cs.drop (i * n)).take n = cs') : Opn encD P w e cs' := by
  obtain ⟨⟨fuel, x, h⟩, hs⟩ := O
  obtain ⟨xs, k, rfl, _, _, hl, hfs⟩ := DataW.trod_array ht h
  subst hn hcs
  refine ⟨⟨k, xs[i], ?_⟩, fun v hv => hs v (List.mem_of_mem_drop (List.mem_of_mem_take hv))⟩
  rw [hfs i hi, List.getElem?_eq_getElem (by omega)]

theorem Opn.int {k : IntKind} (O : Opn encD P w t [v]) (ht : P.underlying t = some (.int k)) : ∃ a : Int, v = .int k a ∧ k.min ≤ a ∧ a ≤ k.max := by
  obtain ⟨⟨fuel, x, h⟩, _⟩ := O
  obtain ⟨a, e, r⟩ := dec_int ht _ _ _ h
  simp only [List.cons.injEq, and_true] at e
  exact ⟨a, e, r⟩

theorem Opn.view (he : ∀ a, (enc a).length = n) (O : Opn encD P w t [v]) (ht : P.underlying t = some (.slice e)) (hn : P.cellsOf e = n) (hpos : 0 < n)
    (hdec : ∀ fuel cs x, DataW.trod encD P w 0 (fun _ => true) true fuel e cs = some x → ∃ a, cs = enc a ∧ ok a) : ∃ bl xs, VwR enc n w.heap v bl xs ∧ (∀ a ∈ xs, ok a) ∧ xs.length ≤ maxLen := by
  obtain ⟨⟨fuel, x, h⟩, hs⟩ := O
  exact view_at he ht hn hpos hdec h (hs v (by simp))

theorem dec_bool (he : P.underlying e = some .bool) {sp : Nat → Bool} : ∀ fuel cs x, DataW.trod encD P w 0 sp true fuel e cs = some x → ∃ a : Bool, cs = [.bool a] ∧ True := by
  intro fuel cs x h
  cases fuel with
  | zero => simp [DataW.trod] at h
  | succ m =>
    unfold DataW.trod at h
    rw [he] at h
    split at h <;> simp_all

theorem len2 {l : List Value} (h : l.length = 2) : ∃ a b, l = [a, b] := by match l, h with | [a, b], _ => exact ⟨a, b, rfl⟩
theorem len3 {l : List Value} (h : l.length = 3) : ∃ a b c, l = [a, b, c] := by match l, h with | [a, b, c], _ => exact ⟨a, b, c, rfl⟩
theorem len4 {l : List Value} (h : l.length = 4) : ∃ a b c d, l = [a, b, c, d] := by match l, h with | [a, b, c, d], _ => exact ⟨a, b, c, d, rfl⟩
theorem len5 {l : List Value} (h : l.length = 5) : ∃ a b c d e, l = [a, b, c, d, e] := by match l, h with | [a, b, c, d, e], _ => exact ⟨a, b, c, d, e, rfl⟩
theorem len6 {l : List Value} (h : l.length = 6) : ∃ a b c d e f, l = [a, b, c, d, e, f] := by match l, h with | [a, b, c, d, e, f], _ => exact ⟨a, b, c, d, e, f, rfl⟩
theorem len7 {l : List Value} (h : l.length = 7) : ∃ a b c d e f g, l = [a, b, c, d, e, f, g] := by match l, h with | [a, b, c, d, e, f, g], _ => exact ⟨a, b, c, d, e, f, g, rfl⟩
theorem len8 {l : List Value} (h : l.length = 8) : ∃ a b c d e f g i, l = [a, b, c, d, e, f, g, i] := by match l, h with | [a, b, c, d, e, f, g, i], _ => exact ⟨a, b, c, d, e, f, g, i, rfl⟩

/-- Numbers of a kind. -/
def encK (k : IntKind) (x : Int) : List Value := [.int k x]
theorem encK_len (k : IntKind) (x : Int) : (encK k x).length = 1 := rfl
def encB (x : Bool) : List Value := [.bool x]

end
end Go.Mh
