/- Texts of the proofs of seat YtgefabaobhendaaDoor, joined: ViewC, ViewD. They have no conditions of their own. -/
import Derived.Test.YtgefabaobhendaaDoorMc
import Derived.Test.YtgefabaobhendaaDoorMb
set_option linter.unusedVariables false
set_option linter.unusedSimpArgs false

/-! Arguments of which it is known how much memory they take. -/
namespace Go.Mh
open Go Go.ChangeShapes Go.WideShapes Go.ChangeAt Go.RowKit

section
variable {H : Type} {enc encD : TypeId × Value → H} {P : Program} {w W W' : World} {n : Nat} {e t : TypeId} {v : Value} {r : Reach} {base : Nat} {d : DataW H} {p : List MemPlace} {cs : List Value} {B : Nat}

/-- As law_laid; the arguments take no more memory than may be. -/
theorem law_laidS {C : Checked} {os : Os} {f : FuncId} {fn : Func} {s : ChangeSpec} {conds : List PathCond} {tb : TypeId} {X : World → Array Value → Prop}
    (hX : ∀ (w w' : World) (args : Array Value), w.heap = w'.heap → X w args → X w' args)
    (own : ownKnob C.prog.godebug = none) (started : os.Started) (noInit : C.prog.inits.idxOf? f = none) (hfn : C.prog.funcs[f]? = some fn)
    (witness : ∃ (w : World) (tape : Tape) (i : Input), w.os = os ∧ (w.forCall tape i).Shaped C.prog ∧ i.vars = [] ∧ Input.okWide C.prog (w.forCall tape i) .any w.heap.size f i ∧
      ((s.pre enc C.prog fn conds false (w.forCall tape i).memory i.args ∧ X (w.forCall tape i).memory i.args) ∧ sizedMet enc C.prog fn (OpenSpec.ofChange s) false (w.forCall tape i).memory i.args) ∧ ({} : Assume).holds C.prog (lone (Frame.enter C.prog f i.args .normal) [] (w.forCall tape i)))
    (hvars : s.vars = []) (hres : fn.resultTypes = #[tb]) (htb : C.prog.underlying tb = some .bool)
    (hspec : ∀ ds : List (DataW H), ds.length = fn.params.toList.length → s.fn H ds = { results := [.lit (.bool true)], args := ds })
    (kids : Kids C.prog (· < C.prog.types.size)) (full : ∀ t e, t < C.prog.types.size → C.prog.underlying t = some (.slice e) → 0 < C.prog.cellsOf e) (hpar : ∀ t ∈ fn.params.toList, t < C.prog.types.size)
    (hcall : ∀ (W : World) (base : Nat) (args : Array Value) (ds : List (DataW H)) (ps : List MemPlace), (∀ (j : Nat) t v, fn.params[j]? = some t → args[j]? = some v → Value.okWide C.prog W .any base t v) →
      DataW.TrodAll enc C.prog W 0 (fun _ => true) true fn.params.toList args.toList ds ps → (∀ q ∈ DataW.weightsEach C.prog fn.params.toList ds, q ≤ reachBytes) →
      CallsH C.prog f args W.heap fun v h' => v = .bool true ∧ Ext W.heap h') :
    ReturnsInHanded {} C os f .any (fun w args => (s.pre enc C.prog fn conds false w args ∧ X w args) ∧ sizedMet enc C.prog fn (OpenSpec.ofChange s) false w args) (s.post enc C.prog fn false true false false) := by
  refine returnsInHanded_of_change_and hX own started noInit hfn witness ?_
  intro W base args ds gs before hval hW hcnd hwt _ _
  have hW' := hW
  obtain ⟨p, q, hA, hV, rfl, hfz, hnd⟩ := hW
  rw [hvars] at hV
  obtain ⟨rfl, rfl⟩ := trodVars_none hV
  have hvt : s.plain.varTypes C.prog = [] := by
    have : s.plain.vars = [] := hvars
    simp [DataSpec.varTypes, this]
  rw [hvt, List.append_nil, List.append_nil] at hwt
  refine calls_of_H (hcall W base args ds p hval hA fun q hq => by simpa using List.all_eq_true.1 hwt q hq) fun v w' hs hv => ⟨v, rfl, ?_⟩
  obtain ⟨rfl, hx⟩ := hv
  have hlt : ∀ x ∈ p, x.block < W.heap.size := fun x hx => hW'.lt x (by simpa using hx)
  have hsp := hspec ds (trodAll_length hA)
  unfold ChangeSpec.post
  refine ⟨ds, [], p ++ [], [], p, [], hW', ?_, ?_, ?_, kept_of_ext hs hx _, fun h => by cases h⟩
  · rw [List.append_nil, hsp, hres]
    exact trodAll_mk1 ⟨1, by simp [DataW.trod, htb, Value.cells]⟩
  · rw [List.append_nil, hsp]
    exact trodAll_carry (DataW.TrodAll.respare kids full hpar hA fun x hx => by simpa using hlt x hx) fun x hx' => sameAt_of_ext hx (hlt x hx')
  · rw [List.append_nil, hsp, hvars]; rfl

/-- Cells of a type, given, of which no part takes more memory than B. -/
def OpnW (encD : TypeId × Value → H) (P : Program) (w : World) (B : Nat) (t : TypeId) (cs : List Value) : Prop :=
  (∃ fuel x, DataW.trod encD P w 0 (fun _ => true) true fuel t cs = some x ∧ ∀ q ∈ DataW.weights P t x.1, q ≤ B) ∧ ∀ v ∈ cs, ∀ a l c, v = .slice (some a) l c → a.spot = none

theorem OpnW.opn (O : OpnW encD P w B t cs) : Opn encD P w t cs := by
  obtain ⟨⟨fuel, x, h, _⟩, hs⟩ := O
  exact ⟨⟨fuel, x, h⟩, hs⟩

theorem agg_ofW (ha : isAgg P t = true) (hn : P.cellsOf t = n) (hv : Value.okWide P w r base t v) (hd : DataW.Trod encD P w 0 (fun _ => true) true t v d p) (hw : ∀ q ∈ DataW.weights P t d, q ≤ B) :
    ∃ cs : List Value, v = .agg cs.toArray ∧ cs.length = n ∧ OpnW encD P w B t cs := by
  obtain ⟨cs, rfl, hl, ⟨_, hs⟩⟩ := agg_of ha hn hv hd
  obtain ⟨fuel, hf⟩ := hd
  exact ⟨cs, rfl, hl, ⟨fuel, _, by simpa [Value.cells] using hf, hw⟩, hs⟩

theorem weightsEach_get {q : Nat} : ∀ {ts : List TypeId} {ds : List (DataW H)} {i : Nat} {u : TypeId} {d : DataW H}, ts[i]? = some u → ds[i]? = some d → q ∈ DataW.weights P u d → q ∈ DataW.weightsEach P ts ds
  | t :: ts, d :: ds, 0, u, x, h1, h2, hq => by
    simp at h1 h2
    subst h1 h2
    simp only [DataW.weightsEach]
    exact List.mem_append_left _ hq
  | t :: ts, d :: ds, i + 1, u, x, h1, h2, hq => by
    simp only [DataW.weightsEach]
    exact List.mem_append_right _ (weightsEach_get (by simpa using h1) (by simpa using h2) hq)
  | [], _, _, _, _, h1, _, _ => by simp at h1
  | _ :: _, [], _, _, _, _, h2, _ => by simp at h2

theorem OpnW.field (O : OpnW encD P w B t cs) (i : Nat) {ft : TypeId} {off : Nat} {cs' : List Value} (hf : fieldOf P t i = some (ft, off)) (hn : P.cellsOf ft = n) (hcs : (cs.drop off).take n = cs') : OpnW encD P w B ft cs' := by
  have O' := (O.opn.field i hf hn hcs).2
  obtain ⟨⟨fuel, x, h, hw⟩, hs⟩ := O
  refine ⟨?_, O'⟩
  unfold fieldOf at hf
  split at hf
  · rename_i fs ht
    obtain ⟨xs, m, rfl, rfl, _, _, hfs⟩ := DataW.trod_struct ht h
    simp only [Option.map_eq_some_iff] at hf
    obtain ⟨f, hi, e⟩ := hf
    injection e with e1 e2
    subst e1 e2 hn hcs
    have hh := hfs i f (by simpa using hi)
    obtain ⟨y, hy⟩ : ∃ y, xs[i]? = some y := by
      have : i < xs.length := by
        have := (List.getElem?_eq_some_iff.1 hi).1
        simp_all
      exact ⟨_, List.getElem?_eq_getElem this⟩
    refine ⟨m, y, by rw [hh, hy], fun q hq => hw q ?_⟩
    simp only [DataW.weights, ht]
    exact weightsEach_get (i := i) (by simp [hi]) (by simp [hy]) hq
  · cases hf

/-- A slice takes no more memory than may be. -/
theorem OpnW.len {α : Type} {enc : α → List Value} {bl : Nat} {xs : List α} {h : Heap} {b : Nat} (O : OpnW encD P w B t [v]) (ht : P.underlying t = some (.slice e)) (hb : P.bytesOf e = b) (H : VwR enc n h v bl xs) : xs.length * b ≤ B := by
  obtain ⟨⟨fuel, x, hx, hw⟩, _⟩ := O
  obtain ⟨bs, cap, rfl, _⟩ := H
  rcases Go.Deep.open_slice ht hx with ⟨hc, _⟩ | ⟨a, len, cap', m, fuel', D, Pl, hc, _, _, _, _, rfl, _⟩
  · simp only [List.cons.injEq, and_true] at hc
    injection hc with _ hl _
    rw [hl]; simp
  · simp only [List.cons.injEq, and_true] at hc
    injection hc with _ hl _
    have := hw (((List.range len).map D).length * P.bytesOf e + ((List.range (m - len)).map fun j => D (len + j)).length * P.bytesOf e) (by
      simp only [DataW.weights, ht]
      rw [← Nat.add_mul]
      exact List.mem_cons_self ..)
    rw [hb] at this
    simp at this
    rw [hl]; omega

end
end Go.Mh

namespace Go.Mh
open Go Go.ChangeShapes Go.WideShapes Go.ChangeAt Go.RowKit

section
variable {H : Type} {encD : TypeId × Value → H} {P : Program} {w : World} {n : Nat} {e t : TypeId} {v : Value} {r : Reach} {base : Nat} {d : DataW H} {p : List MemPlace}

theorem trod_field {fuel : Nat} {cs : List Value} {x : DataW H × List MemPlace} {sp : Nat → Bool} (h : DataW.trod encD P w 0 sp true fuel t cs = some x) (i : Nat) {ft : TypeId} {off : Nat} {cs' : List Value}
    (hf : fieldOf P t i = some (ft, off)) (hn : P.cellsOf ft = n) (hcs : (cs.drop off).take n = cs') : ∃ m y, DataW.trod encD P w 0 sp true m ft cs' = some y := by
  unfold fieldOf at hf
  split at hf
  · rename_i fs ht
    obtain ⟨xs, m, rfl, _, _, _, hfs⟩ := DataW.trod_struct ht h
    simp only [Option.map_eq_some_iff] at hf
    obtain ⟨f, hi, e⟩ := hf
    injection e with e1 e2
    subst e1 e2 hn hcs
    refine ⟨m, ?_⟩
    have hh := hfs i f (by simpa using hi)
    obtain ⟨y, hy⟩ : ∃ y, xs[i]? = some y := by
      have : i < xs.length := by
        have := (List.getElem?_eq_some_iff.1 hi).1
        simp_all
      exact ⟨_, List.getElem?_eq_getElem this⟩
    exact ⟨y, by rw [hh, hy]⟩
  · cases hf

theorem trod_len {fuel : Nat} {cs : List Value} {x : DataW H × List MemPlace} {sp : Nat → Bool} (h : DataW.trod encD P w 0 sp true fuel t cs = some x) (hf : (fieldOf P t 0).isSome = true) : cs.length = P.cellsOf t := by
  unfold fieldOf at hf
  split at hf
  · rename_i fs ht
    obtain ⟨xs, m, rfl, _, hl, _, hfs⟩ := DataW.trod_struct ht h
    exact hl
  · cases hf

/-- An event, given. -/
theorem dec_ev {t0 t1 t2 t3 : TypeId} (f0 : fieldOf P e 0 = some (t0, 0)) (f1 : fieldOf P e 1 = some (t1, 1)) (f2 : fieldOf P e 2 = some (t2, 2)) (f3 : fieldOf P e 3 = some (t3, 3)) (hc : P.cellsOf e = 4)
    (h0 : P.underlying t0 = some (.int .i64)) (h1 : P.underlying t1 = some (.int .i64)) (h2 : P.underlying t2 = some (.int .i64)) (h3 : P.underlying t3 = some (.int .i64))
    (c0 : P.cellsOf t0 = 1) (c1 : P.cellsOf t1 = 1) (c2 : P.cellsOf t2 = 1) (c3 : P.cellsOf t3 = 1) {sp : Nat → Bool} :
    ∀ fuel cs x, DataW.trod encD P w 0 sp true fuel e cs = some x → ∃ a : Ev, cs = encE a ∧ True := by
  intro fuel cs x h
  have hl := trod_len h (by rw [f0]; rfl)
  rw [hc] at hl
  obtain ⟨a, b, c, d, rfl⟩ := len4 hl
  obtain ⟨m0, y0, g0⟩ := trod_field h 0 (cs' := [a]) f0 c0 rfl
  obtain ⟨m1, y1, g1⟩ := trod_field h 1 (cs' := [b]) f1 c1 rfl
  obtain ⟨m2, y2, g2⟩ := trod_field h 2 (cs' := [c]) f2 c2 rfl
  obtain ⟨m3, y3, g3⟩ := trod_field h 3 (cs' := [d]) f3 c3 rfl
  obtain ⟨za, ea, _⟩ := dec_int (k := .i64) h0 _ _ _ g0
  obtain ⟨zb, eb, _⟩ := dec_int (k := .i64) h1 _ _ _ g1
  obtain ⟨zc, ec, _⟩ := dec_int (k := .i64) h2 _ _ _ g2
  obtain ⟨zd, ed, _⟩ := dec_int (k := .i64) h3 _ _ _ g3
  simp only [List.cons.injEq, and_true] at ea eb ec ed
  subst ea eb ec ed
  exact ⟨⟨za, zb, zc, zd⟩, rfl, trivial⟩

end
end Go.Mh
