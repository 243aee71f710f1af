/- A text of the proofs of seat Ytdpofmalgemcdaa: 'HeapP'. It has no condition of its own. -/
import Derived.Test.YtdpofmalgemcdaaHeapO
import Derived.Test.YtdpofmalgemcdaaHeapBase
set_option linter.unusedVariables false
set_option linter.unusedSimpArgs false
namespace Go.Proofs.Ytdpofmalgemcdaa
open Go Go.Mh Go.ChangeShapes

def fsOf (P : Program) (e : TypeId) : Array Field :=
  match P.underlying e with
  | some (.struct fs) => fs
  | _ => #[]

theorem dec_int3 {H : Type} {encD : TypeId × Value → H} {P : Program} {w : World} {e : TypeId} {t0 t1 t2 : TypeId} {k0 k1 k2 : IntKind} {sp : Nat → Bool} (he : P.underlying e = some (.struct (fsOf P e))) (ce : P.cellsOf e = 3)
    (hfs : (fsOf P e).toList.map (fun f => (f.type, f.offset)) = [(t0, 0), (t1, 1), (t2, 2)]) (c0 : P.cellsOf t0 = 1) (c1 : P.cellsOf t1 = 1) (c2 : P.cellsOf t2 = 1)
    (h0 : P.underlying t0 = some (.int k0)) (h1 : P.underlying t1 = some (.int k1)) (h2 : P.underlying t2 = some (.int k2)) :
    ∀ fuel cs x, DataW.trod encD P w 0 sp true fuel e cs = some x → ∃ a b c : Int, cs = [.int k0 a, .int k1 b, .int k2 c] ∧ (k0.min ≤ a ∧ a ≤ k0.max) ∧ (k1.min ≤ b ∧ b ≤ k1.max) ∧ (k2.min ≤ c ∧ c ≤ k2.max) := by
  intro fuel cs x h
  obtain ⟨f0, f1, f2, hf⟩ : ∃ f0 f1 f2, (fsOf P e).toList = [f0, f1, f2] := by
    have hl := congrArg List.length hfs
    rw [List.length_map] at hl
    generalize (fsOf P e).toList = l at hl
    match l, hl with
    | [a, b, c], _ => exact ⟨a, b, c, rfl⟩
  rw [hf] at hfs
  simp only [List.map_cons, List.map_nil, List.cons.injEq, Prod.mk.injEq, and_true] at hfs
  obtain ⟨⟨rfl, o0⟩, ⟨rfl, o1⟩, rfl, o2⟩ := hfs
  cases fuel with
  | zero => simp [DataW.trod] at h
  | succ fuel =>
    rw [DataW.trod_step] at h
    unfold DataW.trodStep at h
    simp only [he, ce] at h
    split at h
    · rename_i hl
      match cs, hl with
      | [u, v, z], _ =>
        simp only [hf, List.mapM_cons, List.mapM_nil, o0, o1, o2, c0, c1, c2, Option.map_eq_some_iff, Option.bind_eq_bind, Option.bind_eq_some_iff, Option.pure_def] at h
        obtain ⟨_, ⟨x0, e0, _, ⟨x1, e1, _, ⟨x2, e2, _⟩, _⟩, _⟩, _⟩ := h
        obtain ⟨a, ha, _, wa⟩ := DataW.trod_int h0 e0
        obtain ⟨b, hb, _, wb⟩ := DataW.trod_int h1 e1
        obtain ⟨c, hc, _, wc⟩ := DataW.trod_int h2 e2
        simp at ha hb hc
        subst ha hb hc
        exact ⟨a, b, c, rfl, by simpa [Lit.wf] using wa, by simpa [Lit.wf] using wb, by simpa [Lit.wf] using wc⟩
    · cases h

theorem view_ops {H : Type} {encD : TypeId × Value → H} {W : World} {base : Nat} {v : Value} {d : DataW H} {p : List MemPlace} (hval : Value.okWide Try.prog W .any base 41 v) (hd : DataW.Trod encD Try.prog W 0 (fun _ => true) true 41 v d p) :
    ∃ bl xs, VwR encO 3 W.heap v bl xs ∧ (∀ a ∈ xs, okO a) ∧ xs.length ≤ maxLen := by
  refine view_of (enc := encO) (n := 3) (ok := okO) encO_len (e := 44) (by kernel_rfl) (by kernel_rfl) (by decide) ?_ hval hd
  intro fuel cs x hx
  obtain ⟨a, b, c, rfl, wa, wb, wc⟩ := dec_int3 (k0 := .u8) (k1 := .i64) (k2 := .i64) (t0 := 5) (t1 := 3) (t2 := 2) (by kernel_rfl) (by kernel_rfl) (by kernel_rfl) (by kernel_rfl) (by kernel_rfl) (by kernel_rfl) (by kernel_rfl) (by kernel_rfl) (by kernel_rfl) fuel cs x hx
  exact ⟨⟨a, b, c⟩, rfl, wa, wb, wc⟩

theorem heapRises_lifted (os : Os) (started : os.Started) (H : Type) (enc : TypeId × Value → H) :
    ReturnsInHanded {} Try.checked os 5 .any (Rows.heapRisesSpec.pre6 enc Try.prog Try.f5 Rows.heapRisesRow.domain false) (Rows.heapRisesSpec.post enc Try.prog Try.f5 false true false false) := by
  refine law_lifted (C := Try.checked) (tb := 4) Try.own started (by kernel_rfl) Try.func5
    (ChangeSpec.witness6 (enc := enc) (C := Try.checked) false ⟨#[], #[.slice none 0 0], []⟩ 8 (by kernel_rfl) (by kernel_rfl) (by kernel_rfl) (by kernel_rfl))
    rfl (by kernel_rfl) (by kernel_rfl) ?_ Try.kids Try.full (by decide +kernel) ?_
  · intro ds hl
    rw [show Try.f5.params.toList = [41] by kernel_rfl] at hl
    match ds, hl with
    | [a], _ => rfl
  · intro W base args ds ps hval hA _
    rw [show Try.f5.params.toList = [41] by kernel_rfl] at hA
    obtain ⟨v0, d0, rfl, rfl, h0⟩ := trodAll_one hA
    obtain ⟨bl, xs, hv, hlo, hlen⟩ := view_ops (hval 0 41 v0 (by kernel_rfl) rfl) h0
    exact rises_ok hv hlo hlen fun h' hx => ⟨rfl, hx⟩

theorem heapRises_holds : Rows.HeapRisesSaid :=
  OpenClaim.holds_of_wide 5 Try.f5 rfl rfl rfl rfl rfl rfl rfl ⟨rfl, rfl, rfl, rfl, rfl⟩ rfl rfl rfl rfl rfl (by kernel_rfl) Try.func5 (by kernel_rfl)
    (of_decide_eq_true (by kernel_rfl)) (by unfold Func.isWrapper; first | (rw [if_pos (by decide +kernel)]; kernel_rfl) | (rw [if_neg (by decide +kernel)]; exact ⟨rfl, rfl⟩))
    (fun os started H enc _ => heapRises_lifted os started H enc)

end Go.Proofs.Ytdpofmalgemcdaa
