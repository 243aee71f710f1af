/- A text of the proofs of seat Ytdpofmalgemcdaa: 'Mh.Step'. It has no condition of its own. -/
import Derived.Test.YtdpofmalgemcdaaMhMem
set_option linter.unusedVariables false
set_option linter.unusedSimpArgs false
namespace Go.Mh
open Go

theorem LoopH_intro {σ : Type} {B : σ → Heap → (σ → Heap → Prop) → Prop} {x : σ} {h : Heap} (I : σ → Heap → Prop) (μ : σ → Heap → Nat) (h0 : I x h)
    (step : ∀ (x : σ) (h : Heap) (Z : σ → Heap → Prop), I x h → (∀ x' h', I x' h' → μ x' h' < μ x h → Z x' h') → B x h Z) : LoopH B x h := by
  intro Z hZ
  have key : ∀ n x h, μ x h = n → I x h → Z x h := by
    intro n
    induction n using Nat.strongRecOn with
    | _ n ih =>
      intro x h hn hI
      exact hZ x h (step x h Z hI fun x' h' hI' hlt => ih _ (hn ▸ hlt) x' h' rfl hI')
  exact key _ x h rfl h0

section
variable {K : Value → Prop} {KH : Value → Heap → Prop} {T E : Prop} {h : Heap} {k : IntKind} {a b : Int} {v x y : Value} {n m o : Nat}

@[simp] theorem ifV_true : ifV (.bool true) T E = T := rfl
@[simp] theorem ifV_false : ifV (.bool false) T E = E := rfl
@[simp] theorem ifV_dec {p : Prop} [Decidable p] : ifV (.bool (decide p)) T E ↔ (p → T) ∧ (¬ p → E) := by by_cases hp : p <;> simp [ifV, hp]
theorem ifV_bool (c : Bool) : ifV (.bool c) T E ↔ (c = true → T) ∧ (c = false → E) := by cases c <;> simp [ifV]
@[simp] theorem ifV_beq : ifV (.bool (a == b)) T E ↔ (a = b → T) ∧ (¬ a = b → E) := by rw [ifV_bool]; simp
@[simp] theorem ifV_bne : ifV (.bool (a != b)) T E ↔ (¬ a = b → T) ∧ (a = b → E) := by rw [ifV_bool]; simp
@[simp] theorem ifV_notb {c : Bool} : ifV (.bool !c) T E ↔ ifV (.bool c) E T := by cases c <;> simp

@[simp] theorem pNil_ptr {q : Addr} : pNil (.pointer (some q)) K = K (.pointer (some q)) := rfl
@[simp] theorem pNil_func {f : Nat} {c d : Array Value} : pNil (.func (.func f) c d) K = K (.func (.func f) c d) := rfl
@[simp] theorem pNil_yield {f : Nat} {c d : Array Value} : pNil (.func (.yield f) c d) K = K (.func (.yield f) c d) := rfl
@[simp] theorem pField_ptr {off : Nat} : pField off (.pointer (some ⟨n, o, none⟩)) K = K (.pointer (some ⟨n, o + off, none⟩)) := rfl
@[simp] theorem pLoad_ptr : pLoad h (.pointer (some ⟨n, o, none⟩)) K = (match hcell h ⟨n, o, none⟩ with
    | some v => K v
    | none => False) := rfl
@[simp] theorem pLoadN_ptr : pLoadN m h (.pointer (some ⟨n, o, none⟩)) K = (match cellsAt h n o m with
    | some l => K (.agg l.toArray)
    | none => False) := rfl
@[simp] theorem pIdx_sl {size len cap : Nat} : pIdx size (.slice (some ⟨n, o, none⟩) len cap) (.int k a) K ↔ (0 ≤ a ∧ a < len) ∧ K (.pointer (some ⟨n, o + a.toNat * size, none⟩)) := by
  simp [pIdx, and_assoc]
@[simp] theorem pIdxA_ptr {size len : Nat} : pIdxA size len (.pointer (some ⟨n, o, none⟩)) (.int k a) K ↔ (0 ≤ a ∧ a < len) ∧ K (.pointer (some ⟨n, o + a.toNat * size, none⟩)) := by
  simp [pIdxA, and_assoc]
@[simp] theorem pLen_sl {q : Option Addr} {cap : Nat} : pLen (.slice q n cap) K = K (.int .i64 n) := rfl
@[simp] theorem pLenS_str {s : ByteArray} : pLenS (.string s) K = K (.int .i64 s.size) := rfl
@[simp] theorem pCap_sl {q : Option Addr} {cap : Nat} : pCap (.slice q n cap) K = K (.int .i64 cap) := rfl
@[simp] theorem pExt_tuple {vs : Array Value} : pExt (.tuple vs) n K = (match vs[n]? with
    | some v => K v
    | none => False) := rfl
@[simp] theorem pPart1_agg {vs : Array Value} : pPart1 n (.agg vs) K = (match vs[n]? with
    | some v => K v
    | none => False) := rfl
@[simp] theorem pPartN_agg {vs : Array Value} : pPartN n m (.agg vs) K = K (.agg (vs.extract n (n + m))) := rfl
@[simp] theorem pPick_true : pPick (.bool true) x y K = K x := rfl
@[simp] theorem pPick_false : pPick (.bool false) x y K = K y := rfl
@[simp] theorem pMin_int : pMin (.int k a) (.int k b) K = K (.int k (if b < a then b else a)) := rfl
@[simp] theorem pMax_int : pMax (.int k a) (.int k b) K = K (.int k (if b > a then b else a)) := rfl
@[simp] theorem pConv_int {k' : IntKind} : pConv k (.int k' a) K = K (.int k (k.wrap a)) := rfl
@[simp] theorem pUn_not {c : Bool} : pUn .not (.bool c) K = K (.bool !c) := rfl
@[simp] theorem pUn_neg : pUn .neg (.int k a) K = K (.int k (k.wrap (0 - a))) := rfl
@[simp] theorem pBin_add : pBin .add (.int k a) (.int k b) K ↔ K (.int k (k.wrap (a + b))) := by simp [pBin]
@[simp] theorem pBin_sub : pBin .sub (.int k a) (.int k b) K ↔ K (.int k (k.wrap (a - b))) := by simp [pBin]
@[simp] theorem pBin_mul : pBin .mul (.int k a) (.int k b) K ↔ K (.int k (k.wrap (a * b))) := by simp [pBin]
@[simp] theorem pBin_quo : pBin .quo (.int k a) (.int k b) K ↔ b ≠ 0 ∧ K (.int k (k.wrap (a.tdiv b))) := by simp [pBin]
@[simp] theorem pBin_rem : pBin .rem (.int k a) (.int k b) K ↔ b ≠ 0 ∧ K (.int k (a.tmod b)) := by simp [pBin]
@[simp] theorem pBin_eql : pBin .eql (.int k a) (.int k b) K ↔ K (.bool (a == b)) := by simp [pBin]
@[simp] theorem pBin_neq : pBin .neq (.int k a) (.int k b) K ↔ K (.bool (a != b)) := by simp [pBin]
@[simp] theorem pBin_lss : pBin .lss (.int k a) (.int k b) K ↔ K (.bool (decide (a < b))) := by simp [pBin]
@[simp] theorem pBin_leq : pBin .leq (.int k a) (.int k b) K ↔ K (.bool (decide (a ≤ b))) := by simp [pBin]
@[simp] theorem pBin_gtr : pBin .gtr (.int k a) (.int k b) K ↔ K (.bool (decide (b < a))) := by simp [pBin]
@[simp] theorem pBin_geq : pBin .geq (.int k a) (.int k b) K ↔ K (.bool (decide (b ≤ a))) := by simp [pBin]
@[simp] theorem pEq_ptr_nil {q : Option Addr} : pEq false .ptr (.pointer q) (.pointer none) K ↔ K (.bool q.isNone) := by cases q <;> simp [pEq]
@[simp] theorem pNe_ptr_nil {q : Option Addr} : pEq true .ptr (.pointer q) (.pointer none) K ↔ K (.bool q.isSome) := by cases q <;> simp [pEq]
@[simp] theorem pEq_slice_nil {q : Option Addr} {c : Nat} : pEq false .slice (.slice q n c) (.slice none 0 0) K ↔ K (.bool q.isNone) := by cases q <;> simp [pEq]
@[simp] theorem pNe_slice_nil {q : Option Addr} {c : Nat} : pEq true .slice (.slice q n c) (.slice none 0 0) K ↔ K (.bool q.isSome) := by cases q <;> simp [pEq]
@[simp] theorem pEq_iface_nil : pEq false .iface .nilIface .nilIface K ↔ K (.bool true) := by simp [pEq]
@[simp] theorem pNe_iface_nil : pEq true .iface .nilIface .nilIface K ↔ K (.bool false) := by simp [pEq]
@[simp] theorem pEq_bool {c d : Bool} : pEq false .bool (.bool c) (.bool d) K ↔ K (.bool (c == d)) := by simp [pEq]
@[simp] theorem pNe_bool {c d : Bool} : pEq true .bool (.bool c) (.bool d) K ↔ K (.bool (c != d)) := by cases c <;> cases d <;> simp [pEq]
@[simp] theorem ifV_beqB {c d : Bool} : ifV (.bool (c == d)) T E ↔ (c = d → T) ∧ (¬ c = d → E) := by cases c <;> cases d <;> simp
@[simp] theorem ifV_bneB {c d : Bool} : ifV (.bool (c != d)) T E ↔ (¬ c = d → T) ∧ (c = d → E) := by cases c <;> cases d <;> simp

@[simp] theorem plain_int : plainCell (.int k a) = true := rfl
@[simp] theorem plain_bool {c : Bool} : plainCell (.bool c) = true := rfl
@[simp] theorem plain_string {c : ByteArray} : plainCell (.string c) = true := rfl
@[simp] theorem plain_ptr {q : Option Addr} : plainCell (.pointer q) = true := rfl
@[simp] theorem plain_slice {q : Option Addr} : plainCell (.slice q n m) = true := rfl
@[simp] theorem plain_map {q : Option Nat} : plainCell (.map q) = true := rfl
@[simp] theorem plain_func {f : Fn} {c d : Array Value} : plainCell (.func f c d) = true := rfl
@[simp] theorem plain_nilFunc : plainCell .nilFunc = true := rfl
@[simp] theorem plain_nilIface : plainCell .nilIface = true := rfl
@[simp] theorem plain_iface {t : TypeId} : plainCell (.iface t v) = true := rfl
@[simp] theorem cells_int : (Value.int k a).cells = #[.int k a] := rfl
@[simp] theorem cells_bool {c : Bool} : (Value.bool c).cells = #[.bool c] := rfl
@[simp] theorem cells_string {c : ByteArray} : (Value.string c).cells = #[.string c] := rfl
@[simp] theorem cells_ptr {q : Option Addr} : (Value.pointer q).cells = #[.pointer q] := rfl
@[simp] theorem cells_slice {q : Option Addr} : (Value.slice q n m).cells = #[.slice q n m] := rfl
@[simp] theorem cells_map {q : Option Nat} : (Value.map q).cells = #[.map q] := rfl
@[simp] theorem cells_func {f : Fn} {c d : Array Value} : (Value.func f c d).cells = #[.func f c d] := rfl
@[simp] theorem cells_nilFunc : (Value.nilFunc).cells = #[.nilFunc] := rfl
@[simp] theorem cells_nilIface : (Value.nilIface).cells = #[.nilIface] := rfl
@[simp] theorem cells_iface {t : TypeId} : (Value.iface t v).cells = #[.iface t v] := rfl
@[simp] theorem cells_agg {c : Array Value} : (Value.agg c).cells = c := rfl

theorem callV_func {P : Program} {f : Nat} {first captured : Array Value} {args : List Value} (hc : CallsH P f (first ++ args.toArray ++ captured) h KH) :
    callV P (.func (.func f) first captured) args.toArray h KH := hc

theorem wrap_in {n : Int} (h0 : k.min ≤ n) (h1 : n ≤ k.max) : k.wrap n = n := by
  unfold IntKind.wrap
  cases k <;> simp only [IntKind.bits, IntKind.signed, IntKind.min, IntKind.max, Bool.true_and, Bool.false_and, if_true, Bool.false_eq_true, if_false] at * <;> (try split) <;> simp at * <;> omega

theorem w64 {n : Int} (h0 : -9223372036854775808 ≤ n) (h1 : n ≤ 9223372036854775807) : IntKind.i64.wrap n = n := wrap_in h0 h1

/-- A box: a new block. -/
theorem pBox_of {t : TypeId} (hk : KH (.pointer (some ⟨h.size, 0, none⟩)) (h.push (.cells v.cells t (0, 0)))) : pBox t v h KH := hk

theorem pStore_of {a : Value} {c i : Nat} {cs : List Value} {T : TypeId} {sz : Nat} (ha : a = .pointer (some ⟨c, i, none⟩)) (hb : h[c]? = some (.cells cs.toArray T (0, 0)))
    (hs : v.cells.size = sz) (hle : i + v.cells.size ≤ cs.length) (hp : ∀ u ∈ v.cells.toList, plainCell u = true)
    (hk : KH undef (upd h c (.cells (over cs i v.cells.toList).toArray T (0, 0)))) : pStore sz a v h KH := by
  subst ha
  exact ⟨hs, storeL_of _ _ _ cs hb (by simpa using hle) hp hk⟩
end

end Go.Mh
