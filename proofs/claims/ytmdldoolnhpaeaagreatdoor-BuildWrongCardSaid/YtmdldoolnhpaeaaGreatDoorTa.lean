/- Texts of the proofs of seat YtmdldoolnhpaeaaGreatDoor, joined: AsA, ChA, ChB, ChC, LiA, DrA, DrB, NtA, NtB, NtC, NtD, BdA, AsB, HpB, HpC. They have no conditions of their own. -/
import Derived.Test.YtmdldoolnhpaeaaGreatDoorGa
import Derived.WalkKit
import Derived.LaidEql
import Derived.Stop.Asserts
import Derived.RowKitTokens
import Derived.CallsIn
import Derived.KernelRfl
import Derived.Test.YtmdldoolnhpaeaaGreatDoorGb
import Derived.Test.YtmdldoolnhpaeaaGreatDoorMc
import Derived.Tactics
import Derived.Tactics2
import Derived.Test.YtmdldoolnhpaeaaGreatDoorMd
set_option linter.unusedVariables false
set_option linter.unusedSimpArgs false
set_option linter.unusedSectionVars false

namespace Go.Proofs.YtmdldoolnhpaeaaGreatDoor
open Go Go.RowKit Go.Extern.Stop Go.Stop Go.Extern

theorem as_valueOf27 (t : Addr) (w : World) : (ReflectliteValue.unpack (.iface 92 (.pointer (some t)))).run Tryz.prog w
  = .ok (.agg #[.pointer (some ⟨1, 92, none⟩), .pointer (some ⟨w.heap.size, 0, none⟩), .int .u64 150]) (w.alloc (.cells #[.pointer (some t)] 92)) := by kernel_rfl
theorem as_type27 (a : Addr) (w : World) : (ReflectliteValue.methodAny (ReflectliteValue.valueError "reflectlite.Value.Type" 0) (fun t _ _ _ => ReflectliteType.toType t) #[.agg #[.pointer (some ⟨1, 92, none⟩), .pointer (some a), .int .u64 150]]).run Tryz.prog w
  = .ok (.iface 210 (.agg #[.pointer (some ⟨1, 92, none⟩)])) w := by kernel_rfl
theorem as_methodKind (h : Value) (w : World) : (Go.method 468 210 (.agg #[h]) "Kind").run Tryz.prog w = .ok (267, h) w := by kernel_rfl
theorem as_kind27 (w : World) : ((ReflectliteType.abiMethod fun t => (fun a : Nat => Value.int IntKind.u8 (a : Int)) <$> Rtype.kind t) #[.pointer (some ⟨1, 92, none⟩)]).run Tryz.prog w = .ok (.int .u8 22) w := by kernel_rfl
theorem as_kind25 (w : World) : ((ReflectliteType.abiMethod fun t => (fun a : Nat => Value.int IntKind.u8 (a : Int)) <$> Rtype.kind t) #[.pointer (some ⟨1, 90, none⟩)]).run Tryz.prog w = .ok (.int .u8 22) w := by kernel_rfl

theorem rlm (z : Sem Value) (f : TypeId -> Addr -> Nat -> Nat -> Sem Value) (v : Value) :
  ReflectliteValue.method z f #[v] = (do match <- ReflectliteValue.parts v with | none => z | some (t, a, fl) => f t a fl (fl % 32)) := rfl
theorem as_parts27 (a : Addr) (w : World) : (ReflectliteValue.parts (.agg #[.pointer (some ⟨1, 92, none⟩), .pointer (some a), .int .u64 150])).run Tryz.prog w = .ok (some (92, a, 150)) w := by kernel_rfl
theorem as_isNil27 (a p : Addr) (W : World) (ha : W.cell? a = some (.pointer (some p))) :
  (ReflectliteValue.method (ReflectliteValue.valueError "reflectlite.Value.IsNil" 0) ReflectliteValue.isNil #[.agg #[.pointer (some ⟨1, 92, none⟩), .pointer (some a), .int .u64 150]]).run Tryz.prog W = .ok (.bool false) W := by
 rw [rlm]
 simp only [Sem.run_bind, as_parts27, Result.andThen]
 simp [ReflectliteValue.isNil, loadVar, isAgg, underlying, Tryz.underlying92, ha, Result.andThen]

theorem as_methodElem (h : Value) (w : World) : (Go.method 468 210 (.agg #[h]) "Elem").run Tryz.prog w = .ok (283, .agg #[h]) w := by kernel_rfl
theorem as_methodImplements (h : Value) (w : World) : (Go.method 468 210 (.agg #[h]) "Implements").run Tryz.prog w = .ok (284, .agg #[h]) w := by kernel_rfl
theorem as_methodAssignableTo (h : Value) (w : World) : (Go.method 468 210 (.agg #[h]) "AssignableTo").run Tryz.prog w = .ok (281, .agg #[h]) w := by kernel_rfl
theorem as_elem27 (w : World) : (ReflectliteType.method ReflectliteType.elem #[.agg #[.pointer (some ⟨1, 92, none⟩)]]).run Tryz.prog w = .ok (.iface 210 (.agg #[.pointer (some ⟨1, 90, none⟩)])) w := by kernel_rfl
theorem as_implements25 (w : World) : (ReflectliteType.relation "Implements" ReflectliteType.implements_ #[.agg #[.pointer (some ⟨1, 90, none⟩)], .iface 210 (.agg #[.pointer (some ⟨1, 42, none⟩)])]).run Tryz.prog w = .ok (.bool true) w := by kernel_rfl
theorem as_typeOf25 (v : Value) (w : World) : (ReflectliteType.typeOf #[.iface 90 v]).run Tryz.prog w = .ok (.iface 210 (.agg #[.pointer (some ⟨1, 90, none⟩)])) w := by kernel_rfl
theorem as_assignable25 (w : World) : (ReflectliteType.relation "AssignableTo" ReflectliteType.assignableTo #[.agg #[.pointer (some ⟨1, 90, none⟩)], .iface 210 (.agg #[.pointer (some ⟨1, 90, none⟩)])]).run Tryz.prog w = .ok (.bool true) w := by kernel_rfl
theorem as_valueOf25 (e : Addr) (w : World) : (ReflectliteValue.unpack (.iface 90 (.pointer (some e)))).run Tryz.prog w
  = .ok (.agg #[.pointer (some ⟨1, 90, none⟩), .pointer (some ⟨w.heap.size, 0, none⟩), .int .u64 150]) (w.alloc (.cells #[.pointer (some e)] 90)) := by kernel_rfl

theorem as_elemOf27 (w : World) : (Rtype.elem? 92).run Tryz.prog w = .ok (some 90) w := by kernel_rfl
theorem as_mk25 (p : Addr) (w : World) : (ReflectliteValue.mk 90 p ReflectliteValue.flagAddr).run Tryz.prog w = .ok (.agg #[.pointer (some ⟨1, 90, none⟩), .pointer (some p), .int .u64 406]) w := by kernel_rfl
theorem as_elemV27 (a p : Addr) (W : World) (ha : W.cell? a = some (.pointer (some p))) :
  (ReflectliteValue.method (ReflectliteValue.valueError "reflectlite.Value.Elem" 0) ReflectliteValue.elem #[.agg #[.pointer (some ⟨1, 92, none⟩), .pointer (some a), .int .u64 150]]).run Tryz.prog W
   = .ok (.agg #[.pointer (some ⟨1, 90, none⟩), .pointer (some p), .int .u64 406]) W := by
 rw [rlm]
 simp only [Sem.run_bind, as_parts27, Result.andThen]
 simp [ReflectliteValue.elem, loadVar, isAgg, underlying, Tryz.underlying92, ha, Result.andThen, as_elemOf27, as_mk25]
theorem rls (v x : Value) : ReflectliteValue.set #[v, x] = (do
  let (some (dst, a, fl), some (src, b, _)) := (<- ReflectliteValue.parts v, <- ReflectliteValue.parts x)
   | unsupported (.noEntry "extern/(internal/reflectlite.Value).Set.zeroValue")
  if fl / ReflectliteValue.flagAddr % 2 == 0 then unsupported (.noEntry "extern/(internal/reflectlite.Value).Set.unaddressable")
  let val <- loadVar src b
  if <- Rtype.directlyAssignable dst src then storeVar dst a val
  else if <- Rtype.implements dst src then
   if (<- Rtype.kind src) == 20 then
    match val with
    | .nilIface => unsupported (.noEntry "extern/reflectlite: a nil value of one interface type handed on as a value of another")
    | _ => storeVar dst a val
   else storeVar dst a (.iface src val)
  else panicString ("reflectlite.Set: value of type " ++ (<- Rtype.spelt src) ++ " is not assignable to type " ++ (<- Rtype.spelt dst))
  pure (.tuple #[])) := rfl
theorem as_parts25a (a : Addr) (w : World) : (ReflectliteValue.parts (.agg #[.pointer (some ⟨1, 90, none⟩), .pointer (some a), .int .u64 406])).run Tryz.prog w = .ok (some (90, a, 406)) w := by kernel_rfl
theorem as_parts25 (a : Addr) (w : World) : (ReflectliteValue.parts (.agg #[.pointer (some ⟨1, 90, none⟩), .pointer (some a), .int .u64 150])).run Tryz.prog w = .ok (some (90, a, 150)) w := by kernel_rfl
theorem as_direct25 (w : World) : (Rtype.directlyAssignable 90 90).run Tryz.prog w = .ok true w := by kernel_rfl
theorem as_set25 (ta b e : Addr) (old : Value) (W : World) (hb : W.cell? b = some (.pointer (some e))) (ht : W.cell? ta = some old) (hf : W.frozen? ta = false) :
  (ReflectliteValue.set #[.agg #[.pointer (some ⟨1, 90, none⟩), .pointer (some ta), .int .u64 406], .agg #[.pointer (some ⟨1, 90, none⟩), .pointer (some b), .int .u64 150]]).run Tryz.prog W
   = .ok (.tuple #[]) (W.setCell ta (.pointer (some e))) := by
 rw [rls]
 simp only [Sem.run_bind, as_parts25a, as_parts25, Result.andThen]
 simp [ReflectliteValue.flagAddr, loadVar, isAgg, underlying, Tryz.underlying90, hb, Result.andThen, as_direct25, storeVar, Value.cells, storeCells, Addr.add]
 rw [run_store Tryz.prog W ta _ _ (by rfl)]
 simp [ht, hf]

set_option maxHeartbeats 4000000 in
theorem as_hit (e t : Addr) (old : Value) (w : World) (hg : w.cell? ⟨0, 0, none⟩ = some (.iface 210 (.agg #[.pointer (some ⟨1, 42, none⟩)]))) (ht0 : w.cell? t = some old) (hf0 : w.frozen? t = false) :
  Calls Tryz.prog 35 #[.iface 90 (.pointer (some e)), .iface 92 (.pointer (some t))] w fun ev w' => ev = .returned (.bool true) /\ w' = ((((w.alloc (.cells #[.pointer (some t)] 92)).alloc (.cells #[.pointer (some ⟨1, 92, none⟩), .pointer (some ⟨w.heap.size, 0, none⟩), .int .u64 150] 136)).alloc (.cells #[.pointer (some ⟨1, 92, none⟩), .pointer (some ⟨w.heap.size, 0, none⟩), .int .u64 150] 136)).alloc (.cells #[.pointer (some e)] 90)).setCell t (.pointer (some e)) := by
 have h6 := @run_callFunc_extern Tryz.prog 69 _ (fun args => ReflectliteValue.unpack (args.getD 0 (.tuple #[]))) Tryz.func69 (by kernel_rfl) (by kernel_rfl) (by kernel_rfl) (by kernel_rfl)
 have h7 := @run_callFunc_extern Tryz.prog 70 _ (ReflectliteValue.methodAny (ReflectliteValue.valueError "reflectlite.Value.Type" 0) (fun t _ _ _ => ReflectliteType.toType t)) Tryz.func70 (by kernel_rfl) (by kernel_rfl) (by kernel_rfl) (by kernel_rfl)
 have h8 := @run_callFunc_extern Tryz.prog 71 _ (ReflectliteValue.method (ReflectliteValue.valueError "reflectlite.Value.IsNil" 0) ReflectliteValue.isNil) Tryz.func71 (by kernel_rfl) (by kernel_rfl) (by kernel_rfl) (by kernel_rfl)
 have h27 := @run_callFunc_extern Tryz.prog 267 _ (ReflectliteType.abiMethod fun t => do pure (.int .u8 (<- Rtype.kind t))) Tryz.func267 (by kernel_rfl) (by kernel_rfl) (by kernel_rfl) (by kernel_rfl)
 have h37 := @run_callFunc_extern Tryz.prog 283 _ (ReflectliteType.method ReflectliteType.elem) Tryz.func283 (by kernel_rfl) (by kernel_rfl) (by kernel_rfl) (by kernel_rfl)
 have h38 := @run_callFunc_extern Tryz.prog 284 _ (ReflectliteType.relation "Implements" ReflectliteType.implements_) Tryz.func284 (by kernel_rfl) (by kernel_rfl) (by kernel_rfl) (by kernel_rfl)
 have h10 := @run_callFunc_extern Tryz.prog 122 _ ReflectliteType.typeOf Tryz.func122 (by kernel_rfl) (by kernel_rfl) (by kernel_rfl) (by kernel_rfl)
 have h35 := @run_callFunc_extern Tryz.prog 281 _ (ReflectliteType.relation "AssignableTo" ReflectliteType.assignableTo) Tryz.func281 (by kernel_rfl) (by kernel_rfl) (by kernel_rfl) (by kernel_rfl)
 have h11 := @run_callFunc_extern Tryz.prog 123 _ (ReflectliteValue.method (ReflectliteValue.valueError "reflectlite.Value.Elem" 0) ReflectliteValue.elem) Tryz.func123 (by kernel_rfl) (by kernel_rfl) (by kernel_rfl) (by kernel_rfl)
 have h12 := @run_callFunc_extern Tryz.prog 124 _ ReflectliteValue.set Tryz.func124 (by kernel_rfl) (by kernel_rfl) (by kernel_rfl) (by kernel_rfl)
 have tO := as_typeOf25
 have mA := as_methodAssignableTo
 have a25 := as_assignable25
 have v25 := as_valueOf25
 have f6 := as_valueOf27
 have f7 := as_type27
 have mK := as_methodKind
 have mE := as_methodElem
 have mI := as_methodImplements
 have k27 := as_kind27
 have k25 := as_kind25
 have e27 := as_elem27
 have i25 := as_implements25
 have n8 := as_isNil27 ⟨w.heap.size, 0, none⟩ t ((w.alloc (.cells #[.pointer (some t)] 92)).alloc (.cells #[.pointer (some ⟨1, 92, none⟩), .pointer (some ⟨w.heap.size, 0, none⟩), .int .u64 150] 136)) (by simp)
 have hlt : 0 < w.heap.size := by
  rcases Nat.eq_zero_or_pos w.heap.size with h0 | h
  ·simp [World.cell?, h0] at hg
  ·exact h
 have hg2 : ((w.alloc (.cells #[.pointer (some t)] 92)).alloc (.cells #[.pointer (some ⟨1, 92, none⟩), .pointer (some ⟨w.heap.size, 0, none⟩), .int .u64 150] 136)).cell? ⟨0, 0, none⟩ = some (.iface 210 (.agg #[.pointer (some ⟨1, 42, none⟩)])) := by
  rw [World.cell?_alloc_lt _ _ ⟨0, 0, none⟩ (by simp), World.cell?_alloc_lt _ _ ⟨0, 0, none⟩ hlt]; exact hg
 have htl : t.block < w.heap.size := by
  rcases Nat.lt_or_ge t.block w.heap.size with h | h
  ·exact h
  ·simp [World.cell?, Array.getElem?_eq_none h] at ht0
 have el := as_elemV27 ⟨w.heap.size, 0, none⟩ t (((w.alloc (.cells #[.pointer (some t)] 92)).alloc (.cells #[.pointer (some ⟨1, 92, none⟩), .pointer (some ⟨w.heap.size, 0, none⟩), .int .u64 150] 136)).alloc (.cells #[.pointer (some ⟨1, 92, none⟩), .pointer (some ⟨w.heap.size, 0, none⟩), .int .u64 150] 136)) (by rw [World.cell?_alloc_lt _ _ ⟨w.heap.size, 0, none⟩ (by simp; omega)]; simp)
 have st := as_set25 t ⟨w.heap.size + 1 + 1 + 1, 0, none⟩ e old ((((w.alloc (.cells #[.pointer (some t)] 92)).alloc (.cells #[.pointer (some ⟨1, 92, none⟩), .pointer (some ⟨w.heap.size, 0, none⟩), .int .u64 150] 136)).alloc (.cells #[.pointer (some ⟨1, 92, none⟩), .pointer (some ⟨w.heap.size, 0, none⟩), .int .u64 150] 136)).alloc (.cells #[.pointer (some e)] 90))
  (by rw [World.cell?_alloc_at _ _ _ _ (by simp)]; rfl)
  (by rw [World.cell?_alloc_lt _ _ t (by simp; omega), World.cell?_alloc_lt _ _ t (by simp; omega), World.cell?_alloc_lt _ _ t (by simp; omega), World.cell?_alloc_lt _ _ t htl]; exact ht0)
  (by rw [World.frozen?_alloc_old _ _ t (by simp; omega), World.frozen?_alloc_old _ _ t (by simp; omega), World.frozen?_alloc_old _ _ t (by simp; omega), World.frozen?_alloc_old _ _ t (Nat.ne_of_lt htl)]; exact hf0)
 go_enter Tryz.func35, Tryz.ntmps35
 go_wp2
 refine wp_loop_rounds 1 ?_
 rw [rounds_succ]
 go_wp2
 go_ret
 exact ⟨rfl, rfl⟩
end Go.Proofs.YtmdldoolnhpaeaaGreatDoor

set_option maxRecDepth 100000
namespace Go.Proofs.YtmdldoolnhpaeaaGreatDoor
open Go Go.Mh

theorem check1_rest {h : Heap} {K : Exit -> VEnv -> List Nat -> Heap -> Prop} (hk : ∀ e, K .normal e [] h) : compile Tryz.prog 17 false (cR (Tryz.f36.body.getD .skip)) (annG (cR (Tryz.f36.body.getD .skip)) 0 []).1 [(1, .nilIface)] [] h K :=
 Eq.mpr (α := compile Tryz.prog 17 false (cR (Tryz.f36.body.getD .skip)) (annG (cR (Tryz.f36.body.getD .skip)) 0 []).1 [(1, .nilIface)] [] h K)
  (β := K .normal [(6, .bool false), (5, .nilIface), (1, .nilIface)] [] h) (by kernel_rfl) (hk _)

theorem check1_idle {v : Value} {h : Heap} {K : Heap -> Prop} (hk : K h) : DeferS Tryz.prog F_graph_Check_1 #[v] h K := by
 refine ⟨by kernel_rfl, fun w hw => ?_⟩
 subst hw
 refine callsDIn_of_wpSIn Tryz.func36 rfl trivial fun c₀ cs hu => ?_
 apply wpSIn_seq
 generalize hQ : bodyPostS Tryz.prog _ c₀ cs _ = Q
 apply wpSIn_region
 simp [wpOpsSIn, go_sem, recoverD, hu, Tryz.ntmps36, Exit.thenS]
 have hr : ∀ (tm : Array Value), tm[1]? = some Value.nilIface -> tm.size = 17 ->
   Code.wpSIn Fence.wide 0 Tryz.prog (cR (Tryz.f36.body.getD .skip)) Q { tmps := tm, defers := [] } (c₀ :: cs) w := by
  intro tm h1 hs
  subst hQ
  refine wpSIn_of_wpIn rfl ?_
  refine compile_sound _ _ none _ [] w.heap (fun ex _ m h' => ex = .normal /\ m = [] /\ h' = w.heap) (check1_rest fun e => ⟨rfl, rfl, rfl⟩) (by kernel_rfl) [] _ w _ ?_ hs rfl rfl ?_
  ·intro s v hv
   unfold Mh.look at hv
   split at hv
   ·rename_i hb
    have := Nat.eq_of_beq_eq_true hb
    subst this
    rw [h1]; exact hv
   ·cases hv
  ·rintro ex e' m' a' w' hrl _ hd hsm _ _ ⟨rfl, rfl, hh⟩
   have hd0 : a'.defers = [] := hd
   refine ⟨hd0, .returning, ?_, .tuple #[], ?_, _, rfl, rfl, hsm, hh ▸ hk⟩
   ·cases c₀; simp only at hu; subst hu; rfl
   ·have hq : resQ Tryz.prog e' w'.heap Tryz.f36.results.toList (fun l => l = []) := by
     rw [Tryz.results36]; rfl
    obtain ⟨l, hl, rfl⟩ := results_sound hrl hq
    exact rdS_run hl w' rfl
 refine hr _ ?_ ?_
 ·simp
 ·simp

open Go Go.Mh

structure Pl where
 i : Int
 f : Int
 c : Int
 n : Int
 l : Int
 e : Int
def encP (p : Pl) : List Value := [I p.i, I p.f, I p.c, I p.n, I p.l, I p.e]
theorem encP_len (p : Pl) : (encP p).length = 6 := rfl
theorem encP_plain (p : Pl) : ∀ u ∈ encP p, Mh.plainCell u = true := by
 intro u hu; simp [encP] at hu; rcases hu with rfl | rfl | rfl | rfl | rfl | rfl <;> rfl
def Pl.Ok (p : Pl) : Prop := p.l <= p.n /\ p.n < p.e
def PlS (x : List Value) : Prop := ∃ p : Pl, x = [.agg (encP p).toArray] /\ p.Ok

section
variable {h0 h : Heap} {L : List Res} {K : KT} {vs : Value} {ps : List Pl} {b : Nat}

theorem values_place (hl : ps.length < 2 ^ 40) : Iter Tryz.prog (.func (.func F_slices_Values_sl_graph_place_graph_place_1) #[] #[ptr b]) (fun h => h[b]? = some (.cells #[vs] T_sl_graph_place (0, 0)) /\ Vw encP 6 h vs ps) ps.length
  (fun i hi => [.agg (encP ps[i]).toArray]) := by
 rintro yv h0 h Rs K J E ⟨l, rfl⟩ o j0 hQ hY hK
 refine callF_of (l := [yieldV l, ptr b]) rfl (lk_slices_Values_sl_graph_place_graph_place_1 _ _ ?_)
 unfold sh_slices_Values_sl_graph_place_graph_place_1
 obtain ⟨hb, hv⟩ := hQ _ _ _ j0 o
 have hc : hcell h ⟨b, 0, none⟩ = some vs := hcell_of hb rfl
 simp only [pLoad_ptr, hc]
 refine hv.len ?_
 refine LoopH_count ps.length (fun i x h' => x.1 = I i /\ ∃ Rs', J i Rs' /\ Own h0 h' Rs') ⟨rfl, Rs, j0, o⟩ ?_
 rintro i ⟨x, ⟨⟩⟩ h Z hi ⟨hx, Rs', hj, o⟩ hZ
 dsimp only at hx hZ ⊢
 subst hx
 unfold sh_slices_Values_sl_graph_place_graph_place_1_L1
 simp only [pBin_lss, ifV_dec]
 refine ⟨fun hlt => ?_, fun hge => ?_⟩
 ·have hlt : i < ps.length := by omega
  obtain ⟨_, hv⟩ := hQ _ _ _ hj o
  refine hv.atN encP_len hlt ?_
  refine o.box fun v4 h1 o1 => o1.st 0 rfl rfl rfl rfl rfl (encP_plain _) fun h2 o2 => o2.ldN 0 rfl rfl rfl ?_
  refine hY i _ (i + 1) Rs' [] h2 _ ⟨⟨hlt, rfl⟩, rfl⟩ hj o2.tail.nilTail (fun Rs'' h'' hj' o' => ?_) fun Rs'' h'' he o' => ?_
  ·rw [pUn_not, Bool.not_true, ifV_false, pBin_add, wI i (by omega)]
   exact hZ (I (i + 1 : Nat), ()) h'' hlt ⟨rfl, Rs'', hj', o'.toNil⟩
  ·rw [pUn_not, Bool.not_false, ifV_true]
   exact hK _ _ (.inr he) o'.toNil
 ·have : i = ps.length := by omega
  exact hK _ _ (.inl ⟨i, this, hj⟩) o

def Tells (fv : Value) (Q : Heap -> Prop) : Prop := IterS Tryz.prog fv Q PlS

theorem values_ok {h : Heap} {K : KT} {vs : Value} {ps : List Pl} (o : Own h0 h (slR encP 6 T_graph_place vs ps :: L)) (hl : ps.length < 2 ^ 40) (hok : ∀ p ∈ ps, p.Ok)
  (hK : ∀ fv Q (q : Res) h', Own h0 h' (q :: L) -> (∀ h'', Own h0 h'' (q :: L) -> Q h'') -> Tells fv Q -> K fv h') : callS Tryz.prog F_slices_Values_sl_graph_place_graph_place [vs] h K := by
 refine callS_of (lk_slices_Values_sl_graph_place_graph_place _ ?_)
 unfold sh_slices_Values_sl_graph_place_graph_place
 refine o.box fun b h1 o1 => hK _ _ (allR [cellR b vs.cells.toList T_sl_graph_place, slR encP 6 T_graph_place vs ps]) h1 (Own.pack (l := [cellR b vs.cells.toList T_sl_graph_place, slR encP 6 T_graph_place vs ps]) o1) (fun h'' o'' => o''.get 0 rfl) ?_
 refine ((values_place (b := b) (vs := vs) hl).toS (S := PlS) fun i hi => ⟨ps[i], rfl, hok _ (List.getElem_mem hi)⟩).need fun h hq => ?_
 obtain ⟨bl, H⟩ := hq (slR encP 6 T_graph_place vs ps) (by simp)
 have hc := hq (cellR b vs.cells.toList T_sl_graph_place) (by simp)
 have e : vs.cells = #[vs] := (Vw.one ⟨bl, H.view⟩)
 refine ⟨?_, bl, H.view⟩
 have hc' : h[b]? = some (.cells vs.cells.toList.toArray T_sl_graph_place (0, 0)) := hc
 rw [hc', e]

theorem one_ok {c n l e : Int} (o : Own h0 h L) (hok : l <= n /\ n < e) (hK : ∀ fv Q (q : Res) h', Own h0 h' (q :: L) -> (∀ h'', Own h0 h'' (q :: L) -> Q h'') -> Tells fv Q -> K fv h') : callS Tryz.prog F_graph_one [I c, I n, I l, I e] h K := by
 refine callS_of (lk_graph_one _ _ _ _ ?_)
 unfold sh_graph_one
 refine ⟨sizesOk_of rfl, ?_⟩
 refine o.build (enc := encP) (n := 6) [⟨0, 0, c, n, l, e⟩] rfl (sizesOk_of rfl) rfl fun w h1 o1 => ?_
 exact values_ok o1 (by simp) (by simp [Pl.Ok]; exact hok) hK

theorem shapes_ok {g : G} {vx vy va : Value} (o : Own h0 h L) (hR : g.Right) (H : RawL h vx vy va g) (hK : ∀ fv Q (q : Res) h', Own h0 h' (q :: L) -> (∀ h'', Own h0 h'' (q :: L) -> Q h'') -> Tells fv Q -> K fv h') :
  callS Tryz.prog F_graph_shapes [.agg #[I g.n, vx, vy, va]] h K := by
 refine callS_of (lk_graph_shapes _ ?_)
 unfold sh_graph_shapes
 have hm := hR.most
 refine (Own.start h).box fun r h1 o1 => ?_
 simp only [pField_ptr]
 have H1 := H.more o1.ext
 refine o1.load 0 rfl rfl (o1.load 0 rfl rfl (H1.1.len ?_))
 have e1 : IntKind.i64.wrap ((g.n : Int) + 1) = (g.n : Int) + 1 := w64 (by omega) (by omega)
 simp only [pBin_add, e1]
 refine ⟨sizesOk_of rfl, o1.load 0 rfl rfl (H1.2.1.len ⟨sizesOk_of rfl, ?_⟩)⟩
 refine o1.build (enc := encP) (n := 6) [⟨0, 0, 6, g.X.length, g.n, g.n + 1⟩, ⟨0, 1, 6, g.Y.length, g.n, g.n + 1⟩] rfl (sizesOk_of rfl) rfl fun w h2 o2 => ?_
 refine values_ok (L := [] ++ L) (o.frame ((o2.sel [0] (by decide)))) (by simp) ?_ hK
 intro p hp
 simp at hp
 have hx := hR.x
 have hy := hR.y
 rcases hp with rfl | rfl <;> simp only [Pl.Ok] <;> omega

theorem nodes_iter {g : G} {vx vy va : Value} {r : Nat} (hR : g.Right) : Tells (.func (.func F_graph_nodes_1) #[] #[ptr r]) (fun h => h[r]? = some (.cells #[I g.n, vx, vy, va] T_api_Raw (0, 0)) /\ RawL h vx vy va g) := by
 rintro yv h0 h Rs K J E ⟨l, rfl⟩ o j0 hQ hY hK
 refine callF_of (l := [yieldV l, ptr r]) rfl (lk_graph_nodes_1 _ _ ?_)
 unfold sh_graph_nodes_1
 obtain ⟨hb, hv⟩ := hQ _ _ _ j0 o
 have c1 : hcell h ⟨r, 1, none⟩ = some vx := hcell_of hb rfl
 have hm := hR.most
 have hx := hR.x
 have hy := hR.y
 simp only [pField_ptr, pLoad_ptr, Nat.zero_add, c1]
 refine hv.1.len ?_
 refine LoopH_count g.X.length (fun i x h' => x.1 = I i /\ ∃ Rs', J () Rs' /\ Own h0 h' Rs') ⟨rfl, Rs, j0, o⟩ ?_
 rintro i ⟨x, ⟨⟩⟩ h Z hi ⟨hx', Rs', hj, o⟩ hZ
 dsimp only at hx' hZ ⊢
 subst hx'
 unfold sh_graph_nodes_1_L1
 simp only [pBin_lss, ifV_dec]
 refine ⟨fun hlt => ?_, fun hge => hK _ _ (.inl ⟨(), trivial, hj⟩) o⟩
 have hlt : i < g.X.length := by omega
 have hlty : i < g.Y.length := by omega
 obtain ⟨hb, hv⟩ := hQ _ _ _ hj o
 have c1 : hcell h ⟨r, 1, none⟩ = some vx := hcell_of hb rfl
 have c2 : hcell h ⟨r, 2, none⟩ = some vy := hcell_of hb rfl
 simp only [pField_ptr, pLoad_ptr, Nat.zero_add, c1, c2]
 refine hv.1.atI hlt (hv.2.1.atI hlty ?_)
 refine o.build (enc := encJ) (n := 1) [g.X[i], g.Y[i]] rfl (sizesOk_of rfl) rfl fun w h1 o1 => ?_
 refine (o1.vw 0 rfl).len ?_
 refine LoopH_count 2 (fun j x h' => x.1 = I j /\ ∃ Rs', J () Rs' /\ Own h0 h' (Rs' ++ [slR encJ 1 T_int64 w [g.X[i], g.Y[i]]])) ⟨rfl, Rs', hj, o1.rot⟩ ?_
 rintro j ⟨x, ⟨⟩⟩ h2 Z2 hj2 ⟨hx', Rs2, hj', o2⟩ hZ2
 dsimp only at hx' hZ2 ⊢
 subst hx'
 unfold sh_graph_nodes_1_L2
 simp only [pBin_lss, ifV_dec]
 refine ⟨fun hlt2 => ?_, fun hge => ?_⟩
 ·have hw : (Rs2 ++ [slR encJ 1 T_int64 w [g.X[i], g.Y[i]]])[Rs2.length]? = some (slR encJ 1 T_int64 w [g.X[i], g.Y[i]]) := by simp
  have hjl : j < [g.X[i], g.Y[i]].length := by simp at hlt2 ⊢; omega
  refine (o2.vw _ hw).atI hjl ⟨sizesOk_of rfl, ?_⟩
  have hr : -2147483648 <= [g.X[i], g.Y[i]][j] /\ [g.X[i], g.Y[i]][j] < 2147483648 := by
   have h1 := hR.xr _ (List.getElem_mem hlt)
   have h2 := hR.yr _ (List.getElem_mem hlty)
   have : j = 0 \/ j = 1 := by simp at hjl; omega
   rcases this with rfl | rfl
   ·simp only [List.getElem_cons_zero]; omega
   ·simp only [List.getElem_cons_succ, List.getElem_cons_zero]; omega
  refine hY () _ () Rs2 _ h2 _ ⟨⟨i, j, 7, [g.X[i], g.Y[i]][j], -2147483648, 2147483648⟩, rfl, hr⟩ hj' o2 (fun Rs'' h'' hj'' o' => ?_) fun Rs'' h'' he o' => ?_
  ·rw [pUn_not, Bool.not_true, ifV_false, pBin_add, wI j (by omega)]
   exact hZ2 (I (j + 1 : Nat), ()) h'' (by simp at hlt2; omega) ⟨rfl, Rs'', hj'', o'⟩
  ·rw [pUn_not, Bool.not_false, ifV_true]
   exact hK _ _ (.inr he) o'.left
 ·rw [pBin_add, wI i (by omega)]
  exact hZ (I (i + 1 : Nat), ()) h2 hlt ⟨rfl, Rs2, hj', o2.left⟩

theorem arcs_iter {g : G} {vx vy va : Value} {r : Nat} (hR : g.Right) : Tells (.func (.func F_graph_arcs_1) #[] #[ptr r]) (fun h => h[r]? = some (.cells #[I g.n, vx, vy, va] T_api_Raw (0, 0)) /\ RawL h vx vy va g) := by
 rintro yv h0 h Rs K J E ⟨l, rfl⟩ o j0 hQ hY hK
 refine callF_of (l := [yieldV l, ptr r]) rfl (lk_graph_arcs_1 _ _ ?_)
 unfold sh_graph_arcs_1
 obtain ⟨hb, hv⟩ := hQ _ _ _ j0 o
 have c0 : hcell h ⟨r, 0, none⟩ = some (I g.n) := hcell_of hb rfl
 have c3 : hcell h ⟨r, 3, none⟩ = some va := hcell_of hb rfl
 have hm := hR.most
 have hmany := hR.many
 simp only [pField_ptr, pLoad_ptr, Nat.zero_add, c0, c3]
 refine hv.2.2.len ?_
 refine LoopH_count g.arcs.length (fun i x h' => x.1 = I i /\ ∃ Rs', J () Rs' /\ Own h0 h' Rs') ⟨rfl, Rs, j0, o⟩ ?_
 rintro i ⟨x, ⟨⟩⟩ h Z hi ⟨hx', Rs', hj, o⟩ hZ
 dsimp only at hx' hZ ⊢
 subst hx'
 unfold sh_graph_arcs_1_L1
 simp only [pBin_lss, ifV_dec]
 refine ⟨fun hlt => ?_, fun hge => hK _ _ (.inl ⟨(), trivial, hj⟩) o⟩
 have hlt : i < g.arcs.length := by omega
 obtain ⟨hb, hv⟩ := hQ _ _ _ hj o
 refine hv.2.2.atN encA_len hlt ?_
 have he := hR.ends _ (List.getElem_mem hlt)
 generalize g.arcs[i] = a at he
 refine o.box fun a5 h1 o1 => o1.st 0 rfl rfl rfl rfl rfl (encA_plain _) fun h2 o2 => ?_
 simp only [pField_ptr]
 refine o2.load 0 rfl rfl ⟨sizesOk_of rfl, o2.load 0 rfl rfl ⟨sizesOk_of rfl, o2.load 0 rfl rfl ⟨sizesOk_of rfl, ?_⟩⟩⟩
 refine o2.build (enc := encP) (n := 6) [⟨i, 0, 9, a.f, 0, g.n⟩, ⟨i, 1, 9, a.t, 0, g.n⟩, ⟨i, 2, 10, a.w, 0, 2147483648⟩] (by kernel_rfl) (sizesOk_of (by kernel_rfl)) rfl fun w h3 o3 => ?_
 refine (o3.vw 0 rfl).len ?_
 obtain ⟨ps, hps⟩ : ∃ ps : List Pl, ps = [⟨i, 0, 9, a.f, 0, g.n⟩, ⟨i, 1, 9, a.t, 0, g.n⟩, ⟨i, 2, 10, a.w, 0, 2147483648⟩] := ⟨_, rfl⟩
 have hpl : ps.length = 3 := by subst hps; rfl
 have hok : ∀ p ∈ ps, p.Ok := by
  intro p hp; subst hps; simp at hp
  rcases hp with rfl | rfl | rfl <;> simp only [Pl.Ok] <;> omega
 rw [<- hps] at o3 ⊢
 rw [hpl]
 refine LoopH_count 3 (fun j x h' => x.1 = I j /\ ∃ Rs', J () Rs' /\ Own h0 h' (Rs' ++ [slR encP 6 T_graph_place w ps])) ⟨rfl, Rs', hj, (o3.erase 1).rot⟩ ?_
 rintro j ⟨x, ⟨⟩⟩ h2 Z2 hj2 ⟨hx', Rs2, hj', o2⟩ hZ2
 dsimp only at hx' hZ2 ⊢
 subst hx'
 unfold sh_graph_arcs_1_L2
 simp only [pBin_lss, ifV_dec]
 refine ⟨fun hlt2 => ?_, fun hge => ?_⟩
 ·have hw : (Rs2 ++ [slR encP 6 T_graph_place w ps])[Rs2.length]? = some (slR encP 6 T_graph_place w ps) := by simp
  have hjl : j < ps.length := by omega
  refine (o2.vw _ hw).atN encP_len hjl ?_
  refine o2.box fun p7 h3 o3 => o3.st 0 rfl rfl rfl rfl rfl (encP_plain _) fun h4 o4 => o4.ldN 0 rfl rfl rfl ?_
  refine hY () _ () Rs2 _ h4 _ ⟨ps[j], rfl, hok _ (List.getElem_mem hjl)⟩ hj' o4.tail (fun Rs'' h'' hj'' o' => ?_) fun Rs'' h'' he o' => ?_
  ·rw [pUn_not, Bool.not_true, ifV_false, pBin_add, wI j (by omega)]
   exact hZ2 (I (j + 1 : Nat), ()) h'' (by omega) ⟨rfl, Rs'', hj'', o'⟩
  ·rw [pUn_not, Bool.not_false, ifV_true]
   exact hK _ _ (.inr he) o'.left
 ·rw [pBin_add, wI i (by omega)]
  exact hZ (I (i + 1 : Nat), ()) h2 hlt ⟨rfl, Rs2, hj', o2.left⟩

end
open Go Go.Mh

section
variable {h0 h : Heap} {L : List Res} {K : KT} {vs : Value} {ps : List Pl} {b : Nat}

theorem look_range {fv : Value} {Q : Heap -> Prop} {phase : Value} {Kn Kr : Heap -> Prop} (hI : Tells fv Q) (o : Own h0 h L) (hQ : ∀ h', Own h0 h' L -> Q h') (hK : ∀ h', Own h0 h' (markR h.size :: L) -> Kn h') :
  rangeH Tryz.prog fv [19] (h.size + 1) (h.push (.deferred (some []))) (fun M x hh R => sh_graph_look_B2 Tryz.prog h phase M x.1 hh R) Kn Kr [] := by
 refine o.range hI (fun s x s' ⟨p, e, _⟩ => by rw [e]; rfl) (fun _ Rs => Rs = L) (fun _ => False) (fun _ _ => False) rfl (fun _ Rs' h' e o' => hQ h' (e ▸ o')) ?_ (fun _ h' Rs' _ e o' => hK h' (e ▸ o')) (fun _ _ h => h.elim) (fun _ _ _ h => h.elim)
 rintro M ⟨⟩ x ⟨⟩ Rs' Pr h' R ⟨p, rfl, hp⟩ rfl o' hN _ _
 dsimp only [valsOf]
 unfold sh_graph_look_B2
 refine o'.box fun p4 h1 o1 => o1.st 0 rfl rfl rfl rfl rfl (encP_plain _) fun h2 o2 => ?_
 refine o2.begin 1 rfl fun h3 o3 => ?_
 simp only [pField_ptr]
 refine o3.load 0 rfl rfl (o3.load 0 rfl rfl ?_)
 simp only [pBin_lss, ifV_dec]
 refine ⟨fun e => by have := hp.1; omega, fun _ => o3.load 0 rfl rfl (o3.load 0 rfl rfl ?_)⟩
 simp only [pBin_geq, ifV_dec]
 refine ⟨fun e => by have := hp.2; omega, fun _ => ?_⟩
 exact hN _ _ rfl o3.tail

set_option maxHeartbeats 2000000 in
theorem look_ok {g : G} {v : Value} (hR : g.Right) (H : RawV h v g) (hK : ∀ h', Ext h h' -> K (.tuple #[]) h') : callS Tryz.prog F_graph_look [v] h K := by
 obtain ⟨vx, vy, va, rfl, H⟩ := H
 refine callS_of (lk_graph_look _ ?_)
 unfold sh_graph_look
 refine (Own.start h).box fun r h1 o1 => ?_
 refine o1.build (enc := encV) (n := 1) [.func (.func F_graph_look_1) #[] #[ptr r], .func (.func F_graph_look_2) #[] #[ptr r], .func (.func F_graph_look_3) #[] #[ptr r], .func (.func F_graph_look_4) #[] #[ptr r], .func (.func F_graph_look_5) #[] #[ptr r]] rfl (sizesOk_of rfl) rfl fun w h2 o2 => ?_
 refine (o2.vw 0 rfl).len ?_
 have hm := hR.most
 have hp1 := hR.pos
 refine LoopH_count 5 (fun i x h' => ∃ m, x.1 = m /\ x.2.1 = I i /\ Own h h' [marksR m, slR encV 1 T_func_iter_Seq_graph_place w [.func (.func F_graph_look_1) #[] #[ptr r], .func (.func F_graph_look_2) #[] #[ptr r], .func (.func F_graph_look_3) #[] #[ptr r], .func (.func F_graph_look_4) #[] #[ptr r], .func (.func F_graph_look_5) #[] #[ptr r]], cellR r [I g.n, vx, vy, va] T_api_Raw])
  ⟨[], rfl, rfl, o2.noMarks⟩ ?_
 clear o1 o2
 rintro i ⟨m, x, ⟨⟩⟩ h2 Z hi ⟨m', hm', hx, o⟩ hZ
 dsimp only at hx hm' hZ ⊢
 subst hx
 obtain rfl := hm'.symm
 unfold sh_graph_look_L1
 simp only [pBin_lss, ifV_dec]
 refine ⟨fun hlt => ?_, fun hge => o.take 0 rfl fun h' o' => hK h' o'.ext⟩
 have hlt : i < 5 := by simp at hlt; omega
 have rest : ∀ {t16 : Value}, (∀ {h3 : Heap} {phase : Nat} {L : List Res} {K : KT}, Own h h3 (L ++ [cellR r [I g.n, vx, vy, va] T_api_Raw]) -> (∀ fv Q (q : Res) h', Own h h' (q :: (L ++ [cellR r [I g.n, vx, vy, va] T_api_Raw])) -> (∀ h'', Own h h'' (q :: (L ++ [cellR r [I g.n, vx, vy, va] T_api_Raw])) -> Q h'') -> Tells fv Q -> K fv h') -> callV Tryz.prog t16 [].toArray h3 K) ->
   pBox T_int (.int .i64 0) h2 fun phase2 h_4 => pStore 1 phase2 (I i) h_4 fun u h_5 => callV Tryz.prog t16 [].toArray h_5 fun t18 h_6 =>
    rangeH Tryz.prog t18 [19] (h_6.size + 1) (h_6.push (.deferred (some []))) (fun L x hh R => sh_graph_look_B2 Tryz.prog h_6 phase2 L x.1 hh R)
     (fun h_13 => pBin .add (I i) (.int .i64 1) fun t43 => Z (h_6.size :: m', (t43, ())) h_13) (fun h_14 => takeM (h_6.size :: m') h_14 fun h_15 => K (.tuple #[]) h_15) [] := by
  intro t16 hc
  refine o.box fun p h3 o3 => o3.st1 0 rfl rfl rfl rfl rfl fun h4 o4 => ?_
  refine hc (phase := p) (L := [cellR p [I i] T_int, marksR m', slR encV 1 T_func_iter_Seq_graph_place w [.func (.func F_graph_look_1) #[] #[ptr r], .func (.func F_graph_look_2) #[] #[ptr r], .func (.func F_graph_look_3) #[] #[ptr r], .func (.func F_graph_look_4) #[] #[ptr r], .func (.func F_graph_look_5) #[] #[ptr r]]]) o4 fun fv Q q h5 o5 hq ht => ?_
  refine look_range ht o5 hq fun h6 o6 => ?_
  rw [pBin_add, wI i (by omega)]
  have o7 := o6.addMark 2 rfl
  exact hZ (h5.size :: m', (I (i + 1 : Nat), ())) h6 hlt ⟨_, rfl, rfl, o7.tail.tail⟩
 have raw : ∀ {h3 : Heap} {L : List Res}, Own h h3 (L ++ [cellR r [I g.n, vx, vy, va] T_api_Raw]) -> h3[r]? = some (.cells #[I g.n, vx, vy, va] T_api_Raw (0, 0)) /\ RawL h3 vx vy va g := fun {h3 L} o3 =>
  ⟨o3.get (r := cellR r [I g.n, vx, vy, va] T_api_Raw) L.length (by simp), H.more o3.ext⟩
 have hcase : i = 0 \/ i = 1 \/ i = 2 \/ i = 3 \/ i = 4 := by omega
 rcases hcase with rfl | rfl | rfl | rfl | rfl
 ·refine (o.vw 1 rfl).at1 (e := fun x => x) (fun _ => rfl) (by simp) ?_
  refine rest fun {h3 p L K} o3 hc => ?_
  show callV Tryz.prog (.func (.func F_graph_look_1) #[] #[ptr r]) _ _ _
  refine callV_of (l := [ptr r]) rfl (lk_graph_look_1 _ ?_)
  unfold sh_graph_look_1
  have c0 : hcell h3 ⟨r, 0, none⟩ = some (I g.n) := hcell_of (raw o3).1 rfl
  simp only [pField_ptr, pLoad_ptr, c0]
  exact one_ok o3 (by omega) hc
 ·refine (o.vw 1 rfl).at1 (e := fun x => x) (fun _ => rfl) (by simp) ?_
  refine rest fun {h3 p L K} o3 hc => ?_
  show callV Tryz.prog (.func (.func F_graph_look_2) #[] #[ptr r]) _ _ _
  refine callV_of (l := [ptr r]) rfl (lk_graph_look_2 _ ?_)
  unfold sh_graph_look_2
  refine o3.ldN (cs := [I g.n, vx, vy, va]) (T := T_api_Raw) L.length (by simp) rfl rfl ?_
  exact shapes_ok o3 hR (raw o3).2 hc
 ·refine (o.vw 1 rfl).at1 (e := fun x => x) (fun _ => rfl) (by simp) ?_
  refine rest fun {h3 p L K} o3 hc => ?_
  show callV Tryz.prog (.func (.func F_graph_look_3) #[] #[ptr r]) _ _ _
  refine callV_of (l := [ptr r]) rfl (lk_graph_look_3 _ ?_)
  unfold sh_graph_look_3
  refine o3.ldN (cs := [I g.n, vx, vy, va]) (T := T_api_Raw) L.length (by simp) rfl rfl ?_
  refine callS_of (lk_graph_nodes _ ?_)
  unfold sh_graph_nodes
  exact o3.box fun b h4 o4 => hc _ _ _ h4 o4 (fun h'' o'' => ⟨o''.get 0 rfl, H.more o''.ext⟩) (nodes_iter hR)
 ·refine (o.vw 1 rfl).at1 (e := fun x => x) (fun _ => rfl) (by simp) ?_
  refine rest fun {h3 p L K} o3 hc => ?_
  show callV Tryz.prog (.func (.func F_graph_look_4) #[] #[ptr r]) _ _ _
  refine callV_of (l := [ptr r]) rfl (lk_graph_look_4 _ ?_)
  unfold sh_graph_look_4
  have c0 : hcell h3 ⟨r, 3, none⟩ = some va := hcell_of (raw o3).1 rfl
  have hmany := hR.many
  simp only [pField_ptr, pLoad_ptr, Nat.zero_add, c0]
  refine (raw o3).2.2.2.len ?_
  exact one_ok o3 (by omega) hc
 ·refine (o.vw 1 rfl).at1 (e := fun x => x) (fun _ => rfl) (by simp) ?_
  refine rest fun {h3 p L K} o3 hc => ?_
  show callV Tryz.prog (.func (.func F_graph_look_5) #[] #[ptr r]) _ _ _
  refine callV_of (l := [ptr r]) rfl (lk_graph_look_5 _ ?_)
  unfold sh_graph_look_5
  refine o3.ldN (cs := [I g.n, vx, vy, va]) (T := T_api_Raw) L.length (by simp) rfl rfl ?_
  refine callS_of (lk_graph_arcs _ ?_)
  unfold sh_graph_arcs
  exact o3.box fun b h4 o4 => hc _ _ _ h4 o4 (fun h'' o'' => ⟨o''.get 0 rfl, H.more o''.ext⟩) (arcs_iter hR)

end
open Go Go.Mh

section
variable {α : Type} {enc : α -> List Value} {n bytes : Nat} {T : TypeId} {h0 h : Heap} {L : List Res} {K : KT} {s : Value} {xs : List α} {z : List Value}

theorem clone_gen (o : Own h0 h L) (H : Vw enc n h s xs) (he : ∀ a, (enc a).length = n) (hp : ∀ a, ∀ u ∈ enc a, Mh.plainCell u = true) (hz : z.length = n) (hby : 0 < bytes) (hl : xs.length * bytes <= 2 ^ 47)
  (hK : ∀ v' h', Own h0 h' (slR enc n T v' xs :: L) -> K v' h') :
  pEq false .slice s (.slice none 0 0) fun t4 => ifV t4 (K (.slice none 0 0) h) (pBuildSlice T (zerosL z 0) [] 0 h fun t5 h_1 => pAppend T n bytes z t5 s h_1 fun t7 h_2 => K t7 h_2) := by
 obtain ⟨b, c, rfl⟩ := H.isSl
 simp only [pEq_slice_nil]
 rw [ifV_bool]
 refine ⟨fun hb => ?_, fun _ => ?_⟩
 ·obtain ⟨bl, b', c', e, _, H'⟩ := H
  injection e with e1 e2 e3
  subst e1
  cases b with
  | some a => cases hb
  | none =>
   rcases H' with ⟨rfl, _⟩ | ⟨_, _, _, _, _, e, _⟩
   ·exact hK _ _ o.nilS
   ·cases e
 ·refine (Own.start h).build (enc := enc) (n := n) ([] : List α) (by simp [zerosL, spliceAll, row]) (sizesOk_of rfl) rfl fun w h1 o1 => ?_
  exact o1.app 0 rfl he hp hz (H.more o1.ext) hby (by simpa using hl) fun v' h' o' => hK v' h' (o.frame o')

theorem clone_int {xs : List Nat} (o : Own h0 h L) (H : Vw encN 1 h s xs) (hl : xs.length <= 2 ^ 40) (hK : ∀ v' h', Own h0 h' (slR encN 1 T_int v' xs :: L) -> K v' h') : callS Tryz.prog F_slices_Clone_sl_int_int [s] h K :=
 callS_of (lk_slices_Clone_sl_int_int _ (clone_gen o H encN_len encN_plain rfl (by decide) (by omega) hK))
theorem clone_int64 {xs : List Int} (o : Own h0 h L) (H : Vw encJ 1 h s xs) (hl : xs.length <= 2 ^ 40) (hK : ∀ v' h', Own h0 h' (slR encJ 1 T_int64 v' xs :: L) -> K v' h') : callS Tryz.prog F_slices_Clone_sl_int64_int64 [s] h K :=
 callS_of (lk_slices_Clone_sl_int64_int64 _ (clone_gen o H encI_len encI_plain rfl (by decide) (by omega) hK))
theorem clone_arc {xs : List A} (o : Own h0 h L) (H : Vw encA 3 h s xs) (hl : xs.length <= 2 ^ 40) (hK : ∀ v' h', Own h0 h' (slR encA 3 T_api_Arc v' xs :: L) -> K v' h') : callS Tryz.prog F_slices_Clone_sl_api_Arc_api_Arc [s] h K :=
 callS_of (lk_slices_Clone_sl_api_Arc_api_Arc _ (clone_gen o H encA_len encA_plain rfl (by decide) (by omega) hK))

end

theorem and_low {n : Nat} (hn : n < 4294967296) : (BitVec.ofInt 64 (n : Int) &&& BitVec.ofInt 64 4294967295).toNat = n := by
 have e1 : (BitVec.ofInt 64 (n : Int)).toNat = n := by simp [BitVec.toNat_ofInt]; omega
 have e2 : (BitVec.ofInt 64 4294967295).toNat = 4294967295 := rfl
 rw [BitVec.toNat_and, e1, e2, show 4294967295 = 2 ^ 32 - 1 from rfl, Nat.and_two_pow_sub_one_eq_mod]
 omega

theorem u64w {n : Int} (h0 : 0 <= n) (h1 : n <= 18446744073709551615) : IntKind.u64.wrap n = n := wrap_in h0 h1

section
variable {k k' : IntKind} {a b : Int} {K : Value -> Prop}
theorem pBin_and : pBin .and (.int k a) (.int k b) K ↔ K (.int k (k.wrap (BitVec.ofInt k.bits a &&& BitVec.ofInt k.bits b).toNat)) := by simp [pBin]
theorem pBin_shr : pBin .shr (.int k a) (.int k' b) K ↔ 0 <= b /\ K (.int k (a.fdiv (2 ^ (min b.toNat k.bits)))) := by simp [pBin]
end

theorem mul1_ok {h : Heap} {K : KT} {n : Nat} (hn : n < 4294967296) (hK : K (.tuple #[.int .u64 0, .int .u64 n]) h) : callS Tryz.prog F_math_bits_Mul [.int .u64 1, .int .u64 n] h K := by
 refine callS_of (lk_math_bits_Mul _ _ ?_)
 unfold sh_math_bits_Mul
 refine callS_of (lk_math_bits_Mul64 _ _ ?_)
 unfold sh_math_bits_Mul64
 have ea : IntKind.u64.wrap ((BitVec.ofInt IntKind.u64.bits 1 &&& BitVec.ofInt IntKind.u64.bits 4294967295).toNat : Int) = 1 := rfl
 have wn : IntKind.u64.wrap (n : Int) = n := u64w (by omega) (by omega)
 have eb : IntKind.u64.wrap ((BitVec.ofInt IntKind.u64.bits (n : Int) &&& BitVec.ofInt IntKind.u64.bits 4294967295).toNat : Int) = n := by
  show IntKind.u64.wrap ((BitVec.ofInt 64 (n : Int) &&& BitVec.ofInt 64 4294967295).toNat : Int) = n
  rw [and_low hn, wn]
 have ec : ((n : Int).fdiv (2 ^ (min (32 : Int).toNat 64))) = 0 := by
  show (n : Int).fdiv 4294967296 = 0
  rw [Int.fdiv_eq_ediv_of_nonneg _ (by decide)]; omega
 have ed : ((0 : Int).fdiv (2 ^ (min (32 : Int).toNat 64))) = 0 := rfl
 have ee : ((1 : Int).fdiv (2 ^ (min (32 : Int).toNat 64))) = 0 := rfl
 have w0 : IntKind.u64.wrap 0 = 0 := rfl
 have e0 : IntKind.u64.wrap ((BitVec.ofInt IntKind.u64.bits 0 &&& BitVec.ofInt IntKind.u64.bits 4294967295).toNat : Int) = 0 := rfl
 have e64 : ∀ m, min m IntKind.u64.bits = min m 64 := fun _ => rfl
 have h32 : (0 : Int) <= 32 := by decide
 simp only [pBin_and, pBin_shr, pBin_mul, pBin_add, e64, ea, eb, ec, ed, ee, w0, e0, wn, h32, Int.one_mul, Int.mul_one, Int.zero_mul, Int.mul_zero, Int.add_zero, Int.zero_add, true_and, pExt0, pExt1]
 exact hK

theorem repeat_gen {α : Type} {enc : α -> List Value} {bytes : Nat} {T : TypeId} {h0 h : Heap} {L : List Res} {K : KT} {s : Value} {a : α} {z : List Value} {m : Nat} {k1 : Heap -> Prop} {L2 : Value -> (KT) -> Value -> Heap -> (KT) -> Prop}
  (o : Own h0 h L) (H : Vw enc 1 h s [a]) (he : ∀ a, (enc a).length = 1) (hp : ∀ a, ∀ u ∈ enc a, Mh.plainCell u = true) {a0 : α} (hz : z = enc a0) (hby : bytes <= 64) (hm : m <= 16777216)
  (hL2 : ∀ t30 n8 h_5 Z, L2 t30 K n8 h_5 Z = (pLen t30 fun t36 => pBin .lss n8 t36 fun t37 => ifV t37 (pSlice 1 t30 (some n8) none none fun t41 => pSlice 1 t30 none (some n8) none fun t44 => pCopy 1 t41 t44 h_5 fun t45 h_6 => pBin .add n8 t45 fun t46 => Z t46 h_6) (K t30 h_5)))
  (hK : ∀ v' h', Own h0 h' (slR enc 1 T v' (List.replicate m a) :: L) -> K v' h') :
  pBin .lss (I m) (.int .i64 0) fun t10 => ifV t10 False (pLen s fun t14 => pConv .u64 t14 fun t15 => pConv .u64 (I m) fun t17 => callS Tryz.prog F_math_bits_Mul [t15, t17] h fun t18 h_1 =>
   pExt t18 0 fun t19 => pExt t18 1 fun t20 => pBin .gtr t19 (.int .u64 0) fun t22 => ifV t22 (k1 h_1) (pBin .gtr t20 (.int .u64 9223372036854775807) fun t25 => ifV t25 (k1 h_1) (pConv .i64 t20 fun t29 =>
    pMakeSlice T bytes z t29 t29 h_1 fun t30 h_3 => pCopy 1 t30 s h_3 fun t33 h_4 => LoopH (σ := Vals [8]) (fun x hh ZZ => L2 t30 K x.1 hh (fun a0 hz => ZZ (a0, ()) hz)) (t33, ()) h_4))) := by
 simp only [pBin_lss, ifV_dec]
 refine ⟨fun e => by omega, fun _ => H.len ?_⟩
 have e1 : IntKind.u64.wrap (([a].length : Nat) : Int) = 1 := rfl
 have e2 : IntKind.u64.wrap (m : Int) = m := u64w (by omega) (by omega)
 simp only [pConv_int, e1, e2]
 refine mul1_ok (by omega) ?_
 simp only [pExt0, pExt1, pBin_gtr, ifV_dec]
 refine ⟨fun e => by omega, fun _ => ⟨fun e => by omega, fun _ => ?_⟩⟩
 have e3 : IntKind.i64.wrap (m : Int) = m := w64 (by omega) (by omega)
 simp only [pConv_int, e3]
 refine (Own.start h).make (n := 1) hz (by
  have : bytes * m <= 64 * 16777216 := Nat.mul_le_mul hby hm
  omega) (by omega) fun w h1 o1 => ?_
 have own : ∀ {h' : Heap} {xs : List α}, Own h h' [slR enc 1 T w xs] -> xs.length = m -> 0 < m -> ∃ bl cap, w = .slice (some ⟨bl, 0, none⟩) m cap /\ m <= cap /\ SlR enc 1 T h' w bl xs /\ blkOf w bl := by
  intro h' xs o' hl h0
  obtain ⟨bl, H⟩ := o'.get 0 rfl
  obtain ⟨cap, rest, e, hb, hr, hle⟩ := H.full (by omega)
  exact ⟨bl, cap, by rw [e, hl], by omega, H, by rw [e]; rfl⟩
 have loop : ∀ {h' : Heap} {k : Nat}, k <= m -> (0 < m -> 0 < k) -> Own h h' [slR enc 1 T w (List.replicate k a ++ List.replicate (m - k) a0)] ->
   LoopH (σ := Vals [8]) (fun x hh ZZ => L2 w K x.1 hh (fun a0 hz => ZZ (a0, ()) hz)) (I k, ()) h' := by
  intro h' k hk hk0 o'
  refine LoopH_intro (fun x h' => ∃ k : Nat, x.1 = I k /\ k <= m /\ (0 < m -> 0 < k) /\ Own h h' [slR enc 1 T w (List.replicate k a ++ List.replicate (m - k) a0)])
   (fun x _ => match x.1 with | .int _ j => ((m : Int) - j).toNat | _ => 0) ⟨k, rfl, hk, hk0, o'⟩ ?_
  clear hk hk0 o' k h'
  rintro ⟨x, ⟨⟩⟩ h' Z ⟨k, hx, hk, hk0, o'⟩ hZ
  dsimp only at hx hZ ⊢
  subst hx
  rw [hL2]
  refine (o'.vw 0 rfl).len ?_
  have hl : (List.replicate k a ++ List.replicate (m - k) a0).length = m := by simp; omega
  rw [hl]
  simp only [pBin_lss, ifV_dec]
  refine ⟨fun hlt => ?_, fun hge => ?_⟩
  ·have hlt : k < m := by omega
   obtain ⟨bl, cap, e, hcap, H, hbl⟩ := own o' hl (by omega)
   have hv := o'.vw 0 rfl
   subst e
   have hne : ¬ cap = k := by omega
   refine ⟨by simp, by omega, by omega, by omega, Int.le_refl _, ?_⟩
   refine ⟨by simp, by omega, by omega, by omega, Int.le_refl _, ?_⟩
   have hmn : Nat.min ((k : Int).toNat - ((0 : Nat) : Int).toNat) ((m : Int).toNat - (k : Int).toNat) = min k (m - k) := by simp
   have hc : cellsOfSl h' 1 (min k (m - k)) (some ⟨bl, 0, none⟩) = some (row enc (List.replicate (min k (m - k)) a)) := by
    obtain ⟨base, c, e, hc⟩ := hv.cells he
    injection e with e1 _ _
    subst e1
    simp only [cellsOfSl] at hc ⊢
    obtain ⟨cap', rest, _, hb, _⟩ := H.full (by omega)
    have hrl := row_length he (List.replicate k a ++ List.replicate (m - k) a0)
    rw [hl] at hrl
    rw [cellsAt_of (i := 0) hb _ 0 (by rw [List.length_append, hrl]; omega), List.drop_zero, List.take_append_of_le_length (by rw [hrl]; omega), row_take he, List.take_append_of_le_length (by simp; omega), List.take_replicate, show min (min k (m - k)) k = min k (m - k) by omega]
   have hbase1 : slBase 1 (k : Int).toNat (cap : Int).toNat (some ⟨bl, 0, none⟩) = some ⟨bl, k * 1, none⟩ := by simp [slBase, hne]
   have hbase0 : slBase 1 ((0 : Nat) : Int).toNat (cap : Int).toNat (some ⟨bl, 0, none⟩) = some ⟨bl, 0, none⟩ := by simp [slBase]
   rw [hbase1]
   dsimp only
   rw [hbase0]
   unfold pCopy
   simp only [hmn, hc]
   refine o'.storeRow 0 rfl he hp H hbl (j := k) (by simp; omega) fun h2 o2 => ?_
   have e4 : IntKind.i64.wrap ((k : Int) + ((min k (m - k) : Nat) : Int)) = ((k + min k (m - k) : Nat) : Int) := by rw [w64 (by omega) (by omega)]; omega
   rw [pBin_add, e4]
   refine hZ (I (k + min k (m - k) : Nat), ()) h2 ⟨_, rfl, by omega, fun _ => by omega, ?_⟩ (by dsimp only; omega)
   have ex : (List.replicate k a ++ List.replicate (m - k) a0).take k ++ List.replicate (min k (m - k)) a ++ (List.replicate k a ++ List.replicate (m - k) a0).drop (k + (List.replicate (min k (m - k)) a).length) =
     List.replicate (k + min k (m - k)) a ++ List.replicate (m - (k + min k (m - k))) a0 := by
    rw [List.take_left' (by simp), List.length_replicate, <- List.drop_drop, List.drop_left' (by simp), List.drop_replicate, List.replicate_append_replicate, Nat.sub_sub]
   rw [ex] at o2
   exact o2
  ·have : k = m := by omega
   subst this
   rw [Nat.sub_self, List.replicate_zero, List.append_nil] at o'
   exact hK _ _ (o.frame o')
 have hs := H.more o1.ext
 obtain ⟨xb, xc, rfl, hx⟩ := hs.cells he
 by_cases h0 : m = 0
 ·subst h0
  obtain ⟨b, c, e⟩ := (o1.vw 0 rfl).isSl
  have hc : cellsOfSl h1 1 0 xb = some [] := by
   simp only [List.length_singleton] at hx
   cases xb with
   | none => rfl
   | some q =>
    obtain ⟨qb, qo, qs⟩ := q
    cases qs with
    | none => simp [cellsOfSl, cellsAt]
    | some _ => cases hx
  have hfin : LoopH (σ := Vals [8]) (fun x hh ZZ => L2 w K x.1 hh (fun a0 hz => ZZ (a0, ()) hz)) (I (0 : Nat), ()) h1 := loop (Nat.le_refl _) (fun h => absurd h (Nat.lt_irrefl _)) o1
  obtain ⟨bl, Hs⟩ := o1.get 0 rfl
  subst e
  unfold pCopy
  have hmn : Nat.min [a].length (List.replicate 0 a0).length = 0 := by simp
  simp only [hmn, hc]
  rcases Hs with ⟨e, _⟩ | ⟨cap, rest, e, _⟩
  ·injection e with e1 _ _
   subst e1
   exact hfin
  ·injection e with e1 _ _
   subst e1
   exact hfin
 ·obtain ⟨bl, cap, e, hcap, Hw, hbl⟩ := own o1 (by simp) (by omega)
  have hmn : Nat.min [a].length m = 1 := Nat.min_eq_left (by simp; omega)
  have hx1 : cellsOfSl h1 1 1 xb = some (row enc [a]) := hx
  have hst := o1.storeRow (KP := fun h2 => LoopH (σ := Vals [8]) (fun x hh ZZ => L2 w K x.1 hh (fun a0 hz => ZZ (a0, ()) hz)) (I (1 : Nat), ()) h2) 0 rfl he hp Hw hbl (j := 0) (ys := [a]) (by simp; omega) fun h2 o2 => by
   refine loop (by omega) (fun _ => by omega) ?_
   have ex : (List.replicate m a0).take 0 ++ [a] ++ (List.replicate m a0).drop (0 + [a].length) = List.replicate 1 a ++ List.replicate (m - 1) a0 := by simp
   rw [ex] at o2
   exact o2
  rw [Nat.zero_mul] at hst
  clear loop own
  subst e
  unfold pCopy
  simp only [hmn, hx1]
  exact hst

theorem repeat_int {h0 h : Heap} {L : List Res} {K : KT} {s : Value} {a : Int} {m : Nat} (o : Own h0 h L) (H : Vw encJ 1 h s [a]) (hm : m <= 16777216) (hK : ∀ v' h', Own h0 h' (slR encJ 1 T_int v' (List.replicate m a) :: L) -> K v' h') : callS Tryz.prog F_slices_Repeat_sl_int_int [s, I m] h K := by
 refine callS_of (lk_slices_Repeat_sl_int_int _ _ ?_)
 unfold sh_slices_Repeat_sl_int_int
 exact repeat_gen (a0 := (0 : Int)) (L2 := fun t K n8 h5 Z => sh_slices_Repeat_sl_int_int_L2 Tryz.prog t K n8 h5 Z) o H encI_len encI_plain rfl (by decide) hm (fun _ _ _ _ => rfl) hK
theorem repeat_int64 {h0 h : Heap} {L : List Res} {K : KT} {s : Value} {a : Int} {m : Nat} (o : Own h0 h L) (H : Vw encJ 1 h s [a]) (hm : m <= 16777216) (hK : ∀ v' h', Own h0 h' (slR encJ 1 T_int64 v' (List.replicate m a) :: L) -> K v' h') : callS Tryz.prog F_slices_Repeat_sl_int64_int64 [s, I m] h K := by
 refine callS_of (lk_slices_Repeat_sl_int64_int64 _ _ ?_)
 unfold sh_slices_Repeat_sl_int64_int64
 exact repeat_gen (a0 := (0 : Int)) (L2 := fun t K n8 h5 Z => sh_slices_Repeat_sl_int64_int64_L2 Tryz.prog t K n8 h5 Z) o H encI_len encI_plain rfl (by decide) hm (fun _ _ _ _ => rfl) hK

open Go Go.Mh

section
variable {h0 h : Heap} {L : List Res} {K : KT} {d i : Nat} {vb : Value} {bs : List Int} {a : Nat}

theorem next_ok (o : Own h0 h L) (i : Nat) (hi : L[i]? = some (cellR d [vb, I a] T_milestoneref07_Draft)) (hb : Vw encU8 1 h0 vb bs) (ha : a < 2 ^ 40) {n : Nat} (hn : 1 <= n) (hn' : n < 2 ^ 40)
  (hK : ∀ (k a' : Nat) h', k < n -> a' <= a + 1 -> Own h0 h' (L.set i (cellR d [vb, I a'] T_milestoneref07_Draft)) -> K (I k) h') : callS Tryz.prog F_milestoneref07_Draft_Next [ptr d, I n] h K := by
 refine callS_of (lk_milestoneref07_Draft_Next _ _ ?_)
 unfold sh_milestoneref07_Draft_Next sh_milestoneref07_Draft_Next_k1
 have o0 : Own h0 h (L.set i (cellR d [vb, I a] T_milestoneref07_Draft)) := o.conv i hi (o.get i hi) fun b hb => hb
 simp only [pNil_ptr, pField_ptr]
 refine o.load i hi rfl ?_
 refine (hb.more o.ext).len ?_
 simp only [pBin_eql, ifV_beq]
 refine ⟨fun _ => hK 0 a h hn (by omega) o0, fun hlen => ?_⟩
 simp only [pBin_lss, ifV_dec]
 refine ⟨fun e => by omega, fun _ => ?_⟩
 refine o.load i hi rfl ?_
 have e1 : IntKind.i64.wrap ((a : Int) + 1) = ((a + 1 : Nat) : Int) := wI a (by omega)
 simp only [pBin_add, e1]
 refine o.put i hi rfl (by simp) rfl fun h2 o2 => ?_
 have hi2 := set_get (x := cellR d [vb, I (a + 1 : Nat)] T_milestoneref07_Draft) hi
 replace o2 : Own h0 h2 (L.set i (cellR d [vb, I (a + 1 : Nat)] T_milestoneref07_Draft)) := o2
 have hb2 := hb.more o2.ext
 have e2 : IntKind.i64.wrap (((a + 1 : Nat) : Int) - 1) = (a : Int) := by rw [w64 (by omega) (by omega)]; omega
 have e3 : ((a : Int).tmod bs.length) = ((a % bs.length : Nat) : Int) := rfl
 have hlt : a % bs.length < bs.length := Nat.mod_lt _ (by omega)
 refine o2.load i hi2 rfl (o2.load i hi2 rfl ?_)
 simp only [pBin_sub, e2]
 refine o2.load i hi2 rfl (hb2.len ?_)
 simp only [pBin_rem, e3]
 refine ⟨by omega, ?_⟩
 refine hb2.at1 (e := fun x => .int .u8 x) (fun _ => rfl) hlt ?_
 refine o2.load i hi2 rfl ?_
 simp only [pBin_sub, e2]
 refine o2.load i hi2 rfl (hb2.len ?_)
 simp only [pBin_quo, pConv_int, pBin_add, pBin_rem]
 refine ⟨by omega, ?_⟩
 have hw := u8_wrap (bs[a % bs.length] + IntKind.u8.wrap (IntKind.i64.wrap ((a : Int).tdiv bs.length)))
 generalize IntKind.u8.wrap (bs[a % bs.length] + IntKind.u8.wrap (IntKind.i64.wrap ((a : Int).tdiv bs.length))) = w at hw
 have e4 : IntKind.i64.wrap w = w := w64 (by omega) (by omega)
 rw [e4]
 refine ⟨by omega, ?_⟩
 obtain ⟨u, rfl⟩ := Int.eq_ofNat_of_zero_le hw.1
 have e5 : ((u : Int).tmod n) = ((u % n : Nat) : Int) := rfl
 rw [e5]
 exact hK _ (a + 1) h2 (Nat.mod_lt _ (by omega)) (by omega) o2

theorem weight_ok (o : Own h0 h L) (i : Nat) (hi : L[i]? = some (cellR d [vb, I a] T_milestoneref07_Draft)) (hb : Vw encU8 1 h0 vb bs) (ha : a < 2 ^ 39)
  (hK : ∀ (k a' : Nat) h', k <= 2147483647 -> a' <= a + 2 -> Own h0 h' (L.set i (cellR d [vb, I a'] T_milestoneref07_Draft)) -> K (I k) h') : callS Tryz.prog F_milestoneref07_Draft_Weight [ptr d] h K := by
 refine callS_of (lk_milestoneref07_Draft_Weight _ ?_)
 unfold sh_milestoneref07_Draft_Weight
 refine next_ok (n := 12) o i hi hb (by omega) (by decide) (by decide) fun k a1 h1 hk ha1 o1 => ?_
 have hi1 := set_get (x := cellR d [vb, I a1] T_milestoneref07_Draft) hi
 have fin : ∀ {h2 : Heap} {x : Res}, Own h0 h2 ((L.set i (cellR d [vb, I a1] T_milestoneref07_Draft)).set i x) -> Own h0 h2 (L.set i x) := fun o => by rwa [List.set_set] at o
 simp only [pBin_lss, ifV_dec]
 refine ⟨fun _ => hK 0 a1 h1 (by omega) (by omega) o1, fun _ => ⟨fun _ => ?_, fun _ => ⟨fun _ => ?_, fun _ => ?_⟩⟩⟩
 ·refine next_ok (n := 9) o1 i hi1 hb (by omega) (by decide) (by decide) fun k a2 h2 hk ha2 o2 => ?_
  have e : IntKind.i64.wrap (1 + (k : Int)) = ((1 + k : Nat) : Int) := by rw [w64 (by omega) (by omega)]; omega
  rw [pBin_add, e]
  exact hK _ a2 h2 (by omega) (by omega) (fin o2)
 ·refine next_ok (n := 20) o1 i hi1 hb (by omega) (by decide) (by decide) fun k a2 h2 hk ha2 o2 => ?_
  have e : IntKind.i64.wrap (100 * (k : Int)) = ((100 * k : Nat) : Int) := by rw [w64 (by omega) (by omega)]; omega
  rw [pBin_mul, e]
  exact hK _ a2 h2 (by omega) (by omega) (fin o2)
 ·refine next_ok (n := 2) o1 i hi1 hb (by omega) (by decide) (by decide) fun k a2 h2 hk ha2 o2 => ?_
  have e : IntKind.i64.wrap (2147483647 - (k : Int)) = ((2147483647 - k : Nat) : Int) := by rw [w64 (by omega) (by omega)]; omega
  rw [pBin_sub, e]
  exact hK _ a2 h2 (by omega) (by omega) (fin o2)

end
open Go Go.Mh

abbrev dR (d : Nat) (vb : Value) (a : Nat) : Res := cellR d [vb, I a] T_milestoneref07_Draft
abbrev xR (v : Value) (xs : List Int) : Res := slR encJ 1 T_int64 v xs
abbrev aR (v : Value) (xs : List A) : Res := slR encA 3 T_api_Arc v xs
abbrev sl0 : Value := .slice none 0 0

structure Few (g : G) : Prop extends G.Right g where
 few : g.n <= 12
 short : g.arcs.length <= 84

section
variable {h0 h : Heap} {L : List Res} {K : KT} {d n g3 t2 : Nat} {vb vx vy : Value} {bs : List Int} {a : Nat} {xs ys : List Int}

def RawK (h0 : Heap) (L : List Res) (K : KT) (d : Nat) (vb : Value) : Prop :=
 ∀ (g : G) vx vy va a' h', Few g -> Own h0 h' (xR vx g.X :: xR vy g.Y :: aR va g.arcs :: dR d vb a' :: L) -> K (.agg #[I g.n, vx, vy, va]) h'

structure RawI (n : Nat) (xs ys : List Int) (arcs : List A) : Prop where
 n1 : 1 <= n
 n2 : n <= 12
 x : xs.length = n
 y : ys.length = n
 xr : ∀ c ∈ xs, -2147483648 <= c /\ c <= 2147483647
 yr : ∀ c ∈ ys, -2147483648 <= c /\ c <= 2147483647
 e : ∀ a ∈ arcs, a.f < n /\ a.t < n /\ a.w <= 2147483647

theorem RawI.add {arcs : List A} (R : RawI n xs ys arcs) {f t w : Nat} (hf : f < n) (ht : t < n) (hw : w <= 2147483647) : RawI n xs ys (arcs ++ [⟨f, t, w⟩]) :=
 ⟨R.n1, R.n2, R.x, R.y, R.xr, R.yr, fun a ha => (List.mem_append.1 ha).elim (fun h => R.e a h) fun h => by
  simp at h; subst h; exact ⟨hf, ht, hw⟩⟩

theorem rawFin {arcs : List A} {va : Value} {a' : Nat} (hK : RawK h0 L K d vb) (R : RawI n xs ys arcs) (hl : arcs.length <= 84)
  (o : Own h0 h (aR va arcs :: xR vx xs :: xR vy ys :: cellR g3 [I n, vx, vy, va] T_api_Raw :: cellR t2 [I 0, sl0, sl0, sl0] T_api_Raw :: dR d vb a' :: L)) :
  pLoadN 4 h (ptr g3) fun t116 => pStore 4 (ptr t2) t116 h fun u_12 h_53 => pLoadN 4 h_53 (ptr t2) fun res => K res h_53 := by
 refine o.ldN 3 rfl rfl rfl ?_
 refine o.st 4 rfl rfl rfl rfl rfl ?_ fun h2 o2 => ?_
 ·intro u hu
  simp at hu
  rcases hu with rfl | rfl | rfl | rfl
  ·rfl
  ·exact (o.vw 1 rfl).plain
  ·exact (o.vw 2 rfl).plain
  ·exact (o.vw 0 rfl).plain
 refine o2.ldN 4 rfl rfl rfl ?_
 exact hK ⟨n, xs, ys, arcs⟩ vx vy va a' h2 ⟨⟨R.n1, Nat.le_trans R.n2 (by decide), R.x, R.y, R.xr, R.yr, Nat.le_trans hl (by decide), R.e⟩, R.n2, hl⟩ (o2.front 6 [1, 2, 0, 5] (by decide) (by decide))

theorem raw_k4 {arcs : List A} {va : Value} {a' many : Nat} (hK : RawK h0 L K d vb) (hb : Vw encU8 1 h0 vb bs) (R : RawI n xs ys arcs) (hl : arcs.length <= 12) (hm : many <= 36) (ha : a' <= 1000)
  (o : Own h0 h (aR va arcs :: xR vx xs :: xR vy ys :: cellR g3 [I n, vx, vy, va] T_api_Raw :: cellR t2 [I 0, sl0, sl0, sl0] T_api_Raw :: dR d vb a' :: L)) :
  sh_milestoneref07_Draft_Raw_k4 Tryz.prog (I many) (ptr g3) (ptr d) (ptr t2) K h := by
 unfold sh_milestoneref07_Draft_Raw_k4
 refine LoopH_count many (fun i x h' => ∃ arcs va a', x.1 = I i /\ RawI n xs ys arcs /\ arcs.length <= 12 + 2 * i /\ a' <= 1000 + 10 * i /\
  Own h0 h' (aR va arcs :: xR vx xs :: xR vy ys :: cellR g3 [I n, vx, vy, va] T_api_Raw :: cellR t2 [I 0, sl0, sl0, sl0] T_api_Raw :: dR d vb a' :: L)) ⟨arcs, va, a', rfl, R, hl, ha, o⟩ ?_
 rintro i ⟨x, ⟨⟩⟩ h Z hi ⟨arcs, va, a', hx, R, hl, ha, o⟩ hZ
 dsimp only at hx hZ ⊢
 subst hx
 have n2 := R.n2
 unfold sh_milestoneref07_Draft_Raw_L5
 simp only [pBin_lss, ifV_dec]
 refine ⟨fun hlt => ?_, fun hge => rawFin hK R (by omega) o⟩
 have hlt : i < many := by omega
 refine cutP_of (fun v h' => ∃ (b f t w a2 : Nat), v.1 = ptr b /\ f < n /\ t < n /\ w <= 2147483647 /\ a2 <= a' + 4 /\
  Own h0 h' (cellR b [I f, I t, I w] T_api_Arc :: aR va arcs :: xR vx xs :: xR vy ys :: cellR g3 [I n, vx, vy, va] T_api_Raw :: cellR t2 [I 0, sl0, sl0, sl0] T_api_Raw :: dR d vb a2 :: L)) (fun J hJ => ?_) ?_
 ·simp only [pField_ptr]
  refine o.load 3 rfl rfl (o.load 3 rfl rfl ?_)
  refine ⟨?_, ?_⟩
  ·refine next_ok o 5 rfl hb (by omega) R.n1 (by omega) fun f a1 h1 hf ha1 o1 => ⟨o1.load 3 rfl rfl rfl, ?_, ?_⟩
   ·refine next_ok o1 5 rfl hb (by omega) R.n1 (by omega) fun t a2 h2 ht ha2 o2 => ⟨?_, ?_⟩
    ·refine weight_ok o2 5 rfl hb (by omega) fun w a3 h3 hw ha3 o3 => ⟨sizesOk_of rfl, ?_⟩
     refine o3.box fun b h4 o4 => o4.st 0 rfl rfl rfl rfl rfl (by simp [spliceAll]) fun h5 o5 => hJ _ _ ⟨b, f, t, w, a3, rfl, hf, ht, hw, by omega, o5⟩
    ·refine o2.box fun b h4 o4 => weight_ok o4 6 rfl hb (by omega) fun w a3 h3 hw ha3 o3 => ⟨sizesOk_of rfl, ?_⟩
     exact o3.st 0 rfl rfl rfl rfl rfl (by simp [spliceAll]) fun h5 o5 => hJ _ _ ⟨b, f, t, w, a3, rfl, hf, ht, hw, by omega, o5⟩
   ·refine o1.box fun b h4 o4 => next_ok o4 6 rfl hb (by omega) R.n1 (by omega) fun t a2 h2 ht ha2 o2 => ?_
    refine weight_ok o2 6 rfl hb (by omega) fun w a3 h3 hw ha3 o3 => ⟨sizesOk_of rfl, ?_⟩
    exact o3.st 0 rfl rfl rfl rfl rfl (by simp [spliceAll]) fun h5 o5 => hJ _ _ ⟨b, f, t, w, a3, rfl, hf, ht, hw, by omega, o5⟩
  ·refine o.box fun b h4 o4 => next_ok o4 6 rfl hb (by omega) R.n1 (by omega) fun f a1 h1 hf ha1 o1 => ⟨o1.load 4 rfl rfl rfl, ?_⟩
   refine next_ok o1 6 rfl hb (by omega) R.n1 (by omega) fun t a2 h2 ht ha2 o2 => ?_
   refine weight_ok o2 6 rfl hb (by omega) fun w a3 h3 hw ha3 o3 => ⟨sizesOk_of rfl, ?_⟩
   exact o3.st 0 rfl rfl rfl rfl rfl (by simp [spliceAll]) fun h5 o5 => hJ _ _ ⟨b, f, t, w, a3, rfl, hf, ht, hw, by omega, o5⟩
 ·rintro ⟨x, ⟨⟩⟩ h' ⟨b, f, t, w, a2, hv, hf, ht, hw, ha2, o⟩
  dsimp only at hv ⊢
  subst hv
  unfold sh_milestoneref07_Draft_Raw_C6 sh_milestoneref07_Draft_Raw_k7
  simp only [pField_ptr]
  refine o.load 4 rfl rfl (o.ldN 0 rfl rfl rfl ?_)
  refine o.app1 1 ⟨f, t, w⟩ rfl rfl (sizesOk_of rfl) encA_len encA_plain rfl (by decide) (by omega) fun va1 h1 o1 => ?_
  refine o1.st1 4 rfl rfl rfl (o1.vw 1 rfl).one (o1.vw 1 rfl).plain fun h2 o2 => ?_
  refine next_ok (n := 4) o2 6 rfl hb (by omega) (by decide) (by decide) fun k a3 h3 hk ha3 o3 => ?_
  have R1 := R.add hf ht hw
  simp only [pBin_eql, ifV_beq]
  refine ⟨fun _ => ?_, fun _ => ?_⟩
  ·refine o3.load 4 rfl rfl (o3.load 0 rfl rfl (o3.load 0 rfl rfl (o3.load 0 rfl rfl ⟨sizesOk_of rfl, ?_⟩)))
   refine o3.app1 1 ⟨t, f, w⟩ rfl rfl (sizesOk_of rfl) encA_len encA_plain rfl (by decide) (by simp; omega) fun va2 h4 o4 => ?_
   refine o4.st1 4 rfl rfl rfl (o4.vw 1 rfl).one (o4.vw 1 rfl).plain fun h5 o5 => ?_
   rw [pBin_add, wI i (by omega)]
   exact hZ (I (i + 1 : Nat), ()) h5 hlt ⟨_, va2, a3, rfl, R1.add ht hf hw, by simp; omega, by omega, o5.tail⟩
  ·rw [pBin_add, wI i (by omega)]
   exact hZ (I (i + 1 : Nat), ()) h3 hlt ⟨_, va1, a3, rfl, R1, by simp; omega, by omega, o3.tail⟩

theorem raw_k2 {a' : Nat} (hK : RawK h0 L K d vb) (hb : Vw encU8 1 h0 vb bs) (R : RawI n xs ys []) (ha : a' <= 100)
  (o : Own h0 h (xR vx xs :: xR vy ys :: cellR g3 [I n, vx, vy, sl0] T_api_Raw :: cellR t2 [I 0, sl0, sl0, sl0] T_api_Raw :: dR d vb a' :: L)) :
  sh_milestoneref07_Draft_Raw_k2 Tryz.prog (ptr g3) (ptr d) (ptr t2) K h := by
 unfold sh_milestoneref07_Draft_Raw_k2
 have n1 := R.n1
 have n2 := R.n2
 simp only [pField_ptr]
 refine o.load 2 rfl rfl ?_
 have e1 : IntKind.i64.wrap (3 * (n : Int)) = 3 * (n : Int) := w64 (by omega) (by omega)
 have e2 : IntKind.i64.wrap (3 * (n : Int) + 1) = ((3 * n + 1 : Nat) : Int) := by rw [w64 (by omega) (by omega)]; omega
 simp only [pBin_mul, pBin_add, e1, e2]
 refine next_ok o 4 rfl hb (by omega) (by omega) (by omega) fun many a1 h1 hm ha1 o1 => ?_
 refine next_ok (n := 3) o1 4 rfl hb (by omega) (by decide) (by decide) fun k a2 h2 hk ha2 o2 => ?_
 simp only [pBin_gtr]
 refine LoopH_count n (fun i x h' => ∃ arcs va a', x.1 = I i /\ RawI n xs ys arcs /\ arcs.length <= i /\ a' <= 200 + 10 * i /\
  Own h0 h' (aR va arcs :: xR vx xs :: xR vy ys :: cellR g3 [I n, vx, vy, va] T_api_Raw :: cellR t2 [I 0, sl0, sl0, sl0] T_api_Raw :: dR d vb a' :: L)) ⟨[], sl0, a2, rfl, R, Nat.le_refl _, by omega, o2.nilS⟩ ?_
 rintro i ⟨x, ⟨⟩⟩ h Z hi ⟨arcs, va, a', hx, R, hl, ha, o⟩ hZ
 dsimp only at hx hZ ⊢
 subst hx
 unfold sh_milestoneref07_Draft_Raw_L3
 simp only [pField_ptr]
 refine o.load 3 rfl rfl ?_
 have next : sh_milestoneref07_Draft_Raw_k4 Tryz.prog (I many) (ptr g3) (ptr d) (ptr t2) K h := raw_k4 hK hb R (by omega) (by omega) (by omega) o
 simp only [pBin_lss, ifV_dec]
 refine ⟨fun hlt => ⟨fun _ => ?_, fun _ => next⟩, fun _ => next⟩
 have hlt : i < n := by omega
 refine o.load 3 rfl rfl ?_
 rw [pBin_add, wI i (by omega)]
 refine o.load 3 rfl rfl ?_
 have e3 : (((i + 1 : Nat) : Int).tmod n) = (((i + 1) % n : Nat) : Int) := rfl
 rw [pBin_rem, e3]
 refine ⟨by omega, ?_⟩
 refine weight_ok o 5 rfl hb (by omega) fun w a3 h3 hw ha3 o3 => ⟨o3.load 3 rfl rfl rfl, o3.load 3 rfl rfl rfl, sizesOk_of rfl, ?_⟩
 refine o3.app1 0 ⟨i, (i + 1) % n, w⟩ rfl rfl (sizesOk_of rfl) encA_len encA_plain rfl (by decide) (by omega) fun va1 h4 o4 => ?_
 refine o4.st1 3 rfl rfl rfl (o4.vw 0 rfl).one (o4.vw 0 rfl).plain fun h5 o5 => ?_
 rw [pBin_add, wI i (by omega)]
 exact hZ (I (i + 1 : Nat), ()) h5 hlt ⟨_, va1, a3, rfl, R.add hlt (Nat.mod_lt _ (by omega)) hw, by simp; omega, by omega, o5⟩

theorem mem_set_or {α : Type} {l : List α} {i : Nat} {a c : α} (h : c ∈ l.set i a) : c ∈ l \/ c = a := List.mem_or_eq_of_mem_set h

theorem raw_ok (o : Own h0 h (dR d vb 0 :: L)) (hb : Vw encU8 1 h0 vb bs) (hK : RawK h0 L K d vb) : callS Tryz.prog F_milestoneref07_Draft_Raw [ptr d] h K := by
 refine callS_of (lk_milestoneref07_Draft_Raw _ ?_)
 unfold sh_milestoneref07_Draft_Raw
 refine o.box fun t2 h1 o1 => ?_
 refine next_ok (n := 12) o1 1 rfl hb (by decide) (by decide) (by decide) fun k a1 h2 hk ha1 o2 => ?_
 have e1 : IntKind.i64.wrap (1 + (k : Int)) = ((k + 1 : Nat) : Int) := by rw [w64 (by omega) (by omega)]; omega
 simp only [pBin_add, e1]
 refine ⟨sizesOk_of rfl, ?_⟩
 refine o2.box fun g3 h3 o3 => ?_
 refine o3.st 0 rfl rfl rfl rfl rfl (by simp [spliceAll]) fun h4 o4 => ?_
 obtain ⟨n, hn⟩ : ∃ n, n = k + 1 := ⟨_, rfl⟩
 have o5 : Own h0 h4 (xR sl0 [] :: xR sl0 [] :: cellR g3 [I n, sl0, sl0, sl0] T_api_Raw :: cellR t2 [I 0, sl0, sl0, sl0] T_api_Raw :: dR d vb a1 :: L) := by subst hn; exact (o4.nilS).nilS
 clear o4 o3 o2 o1 o e1
 have n1 : 1 <= n := by omega
 have n2 : n <= 12 := by omega
 refine LoopH_count n (fun i x h' => ∃ xs ys vx vy a', x.1 = I i /\ xs.length = i /\ ys.length = i /\ (∀ c ∈ xs, -2147483648 <= c /\ c <= 2147483647) /\ (∀ c ∈ ys, -2147483648 <= c /\ c <= 2147483647) /\ a' <= 1 + 2 * i /\
  Own h0 h' (xR vx xs :: xR vy ys :: cellR g3 [I n, vx, vy, sl0] T_api_Raw :: cellR t2 [I 0, sl0, sl0, sl0] T_api_Raw :: dR d vb a' :: L)) ⟨[], [], sl0, sl0, a1, rfl, rfl, rfl, by simp, by simp, by omega, o5⟩ ?_
 clear o5
 rintro i ⟨x, ⟨⟩⟩ h Z hi ⟨xs, ys, vx, vy, a', hx, hxl, hyl, hxr, hyr, ha, o⟩ hZ
 dsimp only at hx hZ ⊢
 subst hx
 unfold sh_milestoneref07_Draft_Raw_L1
 simp only [pField_ptr]
 refine o.load 2 rfl rfl ?_
 simp only [pBin_lss, ifV_dec]
 refine ⟨fun hlt => ?_, fun hge => ?_⟩
 ·have hlt : i < n := by omega
  refine o.load 2 rfl rfl ?_
  refine next_ok (n := 9) o 4 rfl hb (by omega) (by decide) (by decide) fun k a2 h2 hk ha2 o2 => ⟨o2.load 2 rfl rfl rfl, ?_⟩
  have e2 : IntKind.i64.wrap ((k : Int) - 3) = (k : Int) - 3 := w64 (by omega) (by omega)
  simp only [pBin_sub, e2]
  refine o2.app1 0 ((k : Int) - 3) rfl rfl (sizesOk_of rfl) encI_len encI_plain rfl (by decide) (by omega) fun vx1 h3 o3 => ?_
  refine o3.st1 2 rfl rfl rfl (o3.vw 0 rfl).one (o3.vw 0 rfl).plain fun h4 o4 => ?_
  refine o4.load 2 rfl rfl ?_
  refine next_ok (n := 7) o4 4 rfl hb (by omega) (by decide) (by decide) fun k2 a3 h5 hk2 ha3 o5 => ⟨o5.load 2 rfl rfl rfl, ?_⟩
  refine o5.app1 1 (k2 : Int) rfl rfl (sizesOk_of rfl) encI_len encI_plain rfl (by decide) (by omega) fun vy1 h6 o6 => ?_
  refine o6.st1 2 rfl rfl rfl (o6.vw 1 rfl).one (o6.vw 1 rfl).plain fun h7 o7 => ?_
  rw [pBin_add, wI i (by omega)]
  refine hZ (I (i + 1 : Nat), ()) h7 hlt ⟨_, _, vx1, vy1, a3, rfl, by simp [hxl], by simp [hyl], ?_, ?_, by omega, o7⟩
  ·intro c hc
   rcases List.mem_append.1 hc with h | h
   ·exact hxr c h
   ·simp at h; omega
  ·intro c hc
   rcases List.mem_append.1 hc with h | h
   ·exact hyr c h
   ·simp at h; omega
 ·have hin : i = n := by omega
  refine next_ok (n := 9) o 4 rfl hb (by omega) (by decide) (by decide) fun k a2 h2 hk ha2 o2 => ?_
  simp only [pBin_eql, ifV_beq]
  refine ⟨fun _ => ?_, fun _ => raw_k2 hK hb ⟨n1, n2, hxl.trans hin, hyl.trans hin, hxr, hyr, by simp⟩ (by omega) o2⟩
  refine o2.load 2 rfl rfl ?_
  refine o2.setI 0 (j := 0) rfl (by omega) fun h3 o3 => ?_
  refine o3.load 2 rfl rfl (o3.load 2 rfl rfl ?_)
  have e3 : IntKind.i64.wrap ((n : Int) - 1) = ((n - 1 : Nat) : Int) := by rw [w64 (by omega) (by omega)]; omega
  simp only [pBin_sub, e3]
  refine o3.setI 1 (j := n - 1) rfl (by omega) fun h4 o4 => ?_
  refine raw_k2 hK hb ⟨n1, n2, by simp [hxl, hin], by simp [hyl, hin], fun c hc => ?_, fun c hc => ?_, by simp⟩ (by omega) o4
  ·rcases mem_set_or hc with h | rfl
   ·exact hxr c h
   ·decide
  ·rcases mem_set_or hc with h | rfl
   ·exact hyr c h
   ·decide

end
open Go Go.Mh

section
variable {h0 h : Heap} {L : List Res} {K : KT} {g : G} {v : Value}

theorem check_ok (hR : g.Right) (H : RawV h v g) (hK : ∀ h', Ext h h' -> K .nilIface h') : callS Tryz.prog F_graph_Check [v] h K := by
 obtain ⟨vx, vy, va, rfl, H⟩ := H
 refine callS_of (lk_graph_Check _ ?_)
 unfold sh_graph_Check
 refine (Own.start h).box fun r h1 o1 => o1.box fun e h2 o2 => o2.ldN 1 rfl rfl rfl ?_
 refine look_ok hR ⟨vx, vy, va, rfl, H.more o2.ext⟩ fun h3 x3 => ?_
 have o3 := o2.more x3
 refine o3.st1 0 rfl rfl rfl rfl rfl fun h4 o4 => ?_
 exact check1_idle (o4.load 0 rfl rfl (hK _ o4.ext))

theorem own_ok (o : Own h0 h L) (hR : g.Right) (H : RawV h v g) (hK : ∀ vx vy va h', Own h0 h' (xR vx g.X :: xR vy g.Y :: aR va g.arcs :: L) -> K (.agg #[I g.n, vx, vy, va]) h') : callS Tryz.prog F_net_own [v] h K := by
 obtain ⟨vx, vy, va, rfl, H⟩ := H
 refine callS_of (lk_net_own _ ?_)
 unfold sh_net_own
 have hx := hR.x
 have hy := hR.y
 have hm := hR.most
 have hmany := hR.many
 refine (Own.start h).box fun r h1 o1 => o1.box fun e h2 o2 => ?_
 simp only [pField_ptr]
 refine o2.load 1 rfl rfl (o2.load 1 rfl rfl (o2.load 1 rfl rfl ?_))
 refine clone_int64 o2 (H.more o2.ext).1 (by omega) fun vx1 h3 o3 => ⟨o3.load 2 rfl rfl rfl, o3.load 2 rfl rfl rfl, ?_⟩
 refine clone_int64 o3 (H.more o3.ext).2.1 (by omega) fun vy1 h4 o4 => ⟨o4.load 3 rfl rfl rfl, ?_⟩
 refine clone_arc o4 (H.more o4.ext).2.2 (by omega) fun va1 h5 o5 => ?_
 have p0 := o5.vw 0 rfl
 have p1 := o5.vw 1 rfl
 have p2 := o5.vw 2 rfl
 refine o5.st1 4 rfl rfl rfl p2.one p2.plain fun h6 o6 => ?_
 refine o6.st1 4 rfl rfl rfl p1.one p1.plain fun h7 o7 => ?_
 refine o7.st1 (cs' := [I g.n, vx1, vy1, va1]) 4 rfl rfl rfl p0.one p0.plain fun h8 o8 => ?_
 refine o8.ldN 4 rfl rfl rfl ?_
 refine o8.st 3 rfl rfl rfl rfl rfl ?_ fun h9 o9 => ?_
 ·intro u hu
  simp at hu
  rcases hu with rfl | rfl | rfl | rfl
  ·rfl
  ·exact p2.plain
  ·exact p1.plain
  ·exact p0.plain
 ·refine o9.ldN 3 rfl rfl rfl ?_
  exact hK vx1 vy1 va1 h9 (o.frame (o9.sel [2, 1, 0] (by decide)))

end
open Go Go.Mh

def rowsQ (h : Heap) (vr : Value) (n : Nat) (f : Nat -> List Nat) : Prop :=
 ∃ ls : List Value, ls.length = n /\ Vw encV 1 h vr ls /\ ∀ v (hv : v < ls.length), Vw encN 1 h ls[v] (f v)

theorem rowsQ.more {h h' : Heap} {vr : Value} {n : Nat} {f : Nat -> List Nat} (H : rowsQ h vr n f) (x : Ext h h') : rowsQ h' vr n f := by
 obtain ⟨ls, a, b, c⟩ := H
 exact ⟨ls, a, b.more x, fun v hv => (c v hv).more x⟩

section
variable {p : A -> Nat} {l : List A} {bl : Nat}
open Arcs

def rowV (p : A -> Nat) (l : List A) (bl v len : Nat) : Value := .slice (slBase 1 (off p l v) (off p l v + cnt p l v) (some ⟨bl, 0, none⟩)) len (cnt p l v)

theorem rowV_pos {v len : Nat} (h : 0 < cnt p l v) : rowV p l bl v len = .slice (some ⟨bl, off p l v, none⟩) len (cnt p l v) := by
 have : ¬ off p l v + cnt p l v = off p l v := by omega
 simp only [rowV, slBase, if_neg this]; simp

def RowsC (p : A -> Nat) (l : List A) (n i : Nat) (c : List Nat) : Prop :=
 c.length = l.length /\ ∀ v, v < n -> ∀ j, j < (fill p l i v).length -> c[off p l v + j]? = (fill p l i v)[j]?

theorem RowsC.zero {n : Nat} {c : List Nat} (h : c.length = l.length) : RowsC p l n 0 c := ⟨h, fun v _ j hj => by simp [fill, outsP] at hj⟩

theorem RowsC.succ {n i : Nat} {c : List Nat} (H : RowsC p l n i c) (hi : i < l.length) : RowsC p l n (i + 1) (c.set (off p l (p l[i]) + (fill p l i (p l[i])).length) i) := by
 refine ⟨by simp [H.1], fun v hv j hj => ?_⟩
 rw [fill_succ hi] at hj ⊢
 have hlt := cnt_lt (p := p) hi
 by_cases e : p l[i] = v
 ·rw [if_pos e] at hj ⊢
  rw [e] at hlt ⊢
  simp only [List.length_append, List.length_singleton] at hj
  by_cases hj' : j < (fill p l i v).length
  ·rw [List.getElem?_set_ne (by omega), List.getElem?_append_left hj', H.2 v hv j hj']
  ·have : j = (fill p l i v).length := by omega
   subst this
   have hb : off p l v + (fill p l i v).length < c.length := by
    rw [H.1, fill_length]
    have := off_cnt_le (p := p) (l := l) (v := v)
    omega
   rw [List.getElem?_set_self hb, List.getElem?_append_right (Nat.le_refl _), Nat.sub_self]; rfl
 ·rw [if_neg e, List.append_nil] at hj ⊢
  rw [List.getElem?_set_ne, H.2 v hv j hj]
  rw [fill_length]
  have hjc : j < cnt p l v := Nat.lt_of_lt_of_le hj fill_le
  intro heq
  rcases Nat.lt_or_gt_of_ne e with h | h
  ·have h1 := off_mono (p := p) (l := l) (show p l[i] + 1 <= v from h)
   rw [off_succ] at h1
   omega
  ·have h1 := off_mono (p := p) (l := l) (show v + 1 <= p l[i] from h)
   rw [off_succ] at h1
   omega

theorem row_view {h : Heap} {n i : Nat} {c : List Nat} {v : Nat} {T : TypeId} (H : RowsC p l n i c) (hv : v < n) (hb : h[bl]? = some (.cells (Mh.row encN c).toArray T (0, 0))) : Vw encN 1 h (rowV p l bl v (fill p l i v).length) (fill p l i v) := by
 have hle : (fill p l i v).length <= cnt p l v := fill_le
 have hoc := off_cnt_le (p := p) (l := l) (v := v)
 refine ⟨bl, _, _, rfl, hle, ?_⟩
 by_cases h0 : cnt p l v = 0
 ·have : fill p l i v = [] := List.eq_nil_of_length_eq_zero (by omega)
  rw [this]
  refine .inl ⟨rfl, .inr ⟨bl, 0, ?_⟩⟩
  simp [slBase, h0]
 ·refine .inr ⟨off p l v, Mh.row encN (c.take (off p l v)), Mh.row encN (c.drop (off p l v + (fill p l i v).length)), T, (0, 0), ?_, ?_, ?_⟩
  ·have : ¬ off p l v + cnt p l v = off p l v := by omega
   simp only [slBase, if_neg this]; simp
  ·rw [hb, <- row_append, <- row_append]
   have e : (c.drop (off p l v)).take (fill p l i v).length = fill p l i v := by
    apply List.ext_getElem?
    intro j
    by_cases hj : j < (fill p l i v).length
    ·rw [List.getElem?_take_of_lt hj, List.getElem?_drop, H.2 v hv j hj]
    ·rw [List.getElem?_eq_none (by simp; omega), List.getElem?_eq_none (by omega)]
   have : c = c.take (off p l v) ++ fill p l i v ++ c.drop (off p l v + (fill p l i v).length) := by
    conv => lhs; rw [<- List.take_append_drop (off p l v) c]
    rw [List.append_assoc]; congr 1
    conv => lhs; rw [<- List.take_append_drop (fill p l i v).length (c.drop (off p l v))]
    rw [e, List.drop_drop]
   rw [<- this]
  ·rw [row_length encN_len, Nat.mul_one, List.length_take, H.1]; omega
end

section
variable {h0 h : Heap} {L : List Res} {K : KT} {g : G} {v : Value} {r : Nat} {vx vy va endv : Value} {p : A -> Nat}
open Arcs

def EndF (endv : Value) (p : A -> Nat) : Prop := ∀ (a : A) (h : Heap) (K : KT), (∀ h', Ext h h' -> K (I (p a)) h') -> callV Tryz.prog endv [.agg (encA a).toArray].toArray h K

theorem of2_end : EndF (.func (.func F_net_of_2) #[] #[]) A.f := by
 intro a h K hK
 refine callV_of (l := [.agg (encA a).toArray]) rfl (lk_net_of_2 _ ?_)
 unfold sh_net_of_2
 refine (Own.start h).box fun b h1 o1 => ?_
 simp only [pField_ptr]
 exact o1.load 0 rfl rfl (hK _ o1.ext)
theorem of3_end : EndF (.func (.func F_net_of_3) #[] #[]) A.t := by
 intro a h K hK
 refine callV_of (l := [.agg (encA a).toArray]) rfl (lk_net_of_3 _ ?_)
 unfold sh_net_of_3
 refine (Own.start h).box fun b h1 o1 => ?_
 simp only [pField_ptr]
 exact o1.load 0 rfl rfl (hK _ o1.ext)

abbrev rowsL (p : A -> Nat) (l : List A) (n bl i : Nat) : List Value := (List.range n).map fun v => rowV p l bl v (fill p l i v).length

def ByK (h : Heap) (g : G) (p : A -> Nat) (K : KT) : Prop :=
 ∀ vr (R : Res) h', Own h h' [R] -> (∀ h'', R.Q h'' -> rowsQ h'' vr g.n fun v => outsP (fun a => p a == v) g.arcs 0) -> K vr h'

theorem by_L4 {bl : Nat} {c : List Nat} {vr : Value} {h' : Heap} (hR : g.Right) (hp : ∀ a ∈ g.arcs, p a < g.n) (hE : EndF endv p) (hv : Vw encA 3 h va g.arcs) (hc : c.length = g.arcs.length)
  (o : Own h h' [slR encV 1 T_sl_int vr (rowsL p g.arcs g.n bl 0), cellR bl (Mh.row encN c) T_int]) (hK : ByK h g p K) :
  LoopH (σ := Vals [64]) (fun x hh ZZ => sh_net_of_1_L4 Tryz.prog (I g.arcs.length) va endv vr K x.1 hh (fun a0 hz => ZZ (a0, ()) hz)) ((.int .i64 0), ()) h' := by
 have hmany := hR.many
 refine LoopH_count g.arcs.length (fun i x h' => x.1 = I i /\ ∃ c, RowsC p g.arcs g.n i c /\ Own h h' [slR encV 1 T_sl_int vr (rowsL p g.arcs g.n bl i), cellR bl (Mh.row encN c) T_int]) ⟨rfl, c, .zero hc, o⟩ ?_
 rintro i ⟨x, ⟨⟩⟩ h2 Z hi ⟨hx, c, hC, o⟩ hZ
 dsimp only at hx hZ ⊢
 subst hx
 unfold sh_net_of_1_L4
 simp only [pBin_lss, ifV_dec]
 refine ⟨fun hlt => ?_, fun hge => ?_⟩
 ·have hlt : i < g.arcs.length := by omega
  unfold cutP
  dsimp only
  refine (hv.more o.ext).atN encA_len hlt ?_
  have hpa := hp _ (List.getElem_mem hlt)
  have hcl := cnt_lt (p := p) hlt
  have hoc := off_cnt_le (p := p) (l := g.arcs) (v := p g.arcs[i])
  have hfl : (fill p g.arcs i (p g.arcs[i])).length = cnt p (g.arcs.take i) (p g.arcs[i]) := fill_length
  have hrl : p g.arcs[i] < (rowsL p g.arcs g.n bl i).length := by simpa using hpa
  have hrow : (rowsL p g.arcs g.n bl i)[p g.arcs[i]] = .slice (some ⟨bl, off p g.arcs (p g.arcs[i]), none⟩) (fill p g.arcs i (p g.arcs[i])).length (cnt p g.arcs (p g.arcs[i])) := by
   simp only [List.getElem_map, List.getElem_range]
   exact rowV_pos (by omega)
  -- what is done with the row that was read
  have app : ∀ {h3 : Heap} {w : Value} {b : Nat} {cs : List Value}, Own h h3 [slR encN 1 T_int w [i], cellR b cs T_api_Arc, slR encV 1 T_sl_int vr (rowsL p g.arcs g.n bl i), cellR bl (Mh.row encN c) T_int] ->
    pAppend T_int 1 8 [(.int .i64 0)] (rowsL p g.arcs g.n bl i)[p g.arcs[i]] w h3 fun t81 h4 => pIdx 1 vr (I (p g.arcs[i])) fun t82 => pStore 1 t82 t81 h4 fun u h5 => sh_net_of_1_C5 Tryz.prog (I i) (fun a0 hz => Z (a0, ()) hz) h5 := by
   intro h3 w b cs o3
   rw [hrow]
   refine o3.appIn (e := fun x : Nat => I x) 3 rfl (fun _ => rfl) rfl (o3.vw 0 rfl) (by omega) (by rw [row_length encN_len, hC.1]; omega) fun h4 o4 => ?_
   have hrow' : .slice (some ⟨bl, off p g.arcs (p g.arcs[i]), none⟩) ((fill p g.arcs i (p g.arcs[i])).length + 1) (cnt p g.arcs (p g.arcs[i])) = rowV p g.arcs bl (p g.arcs[i]) (fill p g.arcs (i + 1) (p g.arcs[i])).length := by
    rw [rowV_pos (by omega), fill_succ hlt]; simp
   rw [hrow']
   refine o4.setAt (a := rowV p g.arcs bl (p g.arcs[i]) (fill p g.arcs (i + 1) (p g.arcs[i])).length) 2 rfl encV_len (by intro u hu; simp [encV] at hu; subst hu; rfl) hrl rfl fun h5 o5 => ?_
   unfold sh_net_of_1_C5
   rw [pBin_add, wI i (by omega)]
   refine hZ (I (i + 1 : Nat), ()) h5 hlt ⟨rfl, _, hC.succ hlt, ?_⟩
   have e1 : (rowsL p g.arcs g.n bl i).set (p g.arcs[i]) (rowV p g.arcs bl (p g.arcs[i]) (fill p g.arcs (i + 1) (p g.arcs[i])).length) = rowsL p g.arcs g.n bl (i + 1) := by
    rw [range_set]
    apply List.map_congr_left
    intro v hv
    split <;> rename_i e
    ·rw [e]
    ·rw [fill_succ hlt, if_neg (fun e' => e e'.symm), List.append_nil]
   have e2 : (Mh.row encN c).set (off p g.arcs (p g.arcs[i]) + (fill p g.arcs i (p g.arcs[i])).length) (I i) = Mh.row encN (c.set (off p g.arcs (p g.arcs[i]) + (fill p g.arcs i (p g.arcs[i])).length) i) := by
    have er : ∀ l : List Nat, Mh.row encN l = l.map fun x : Nat => I x := fun l => by induction l <;> simp_all [Mh.row, encN]
    rw [er, er, List.map_set]
   rw [<- e1, <- e2]
   exact o5.tail.tail
  refine o.box fun b h3 o3 => o3.st 0 rfl rfl rfl rfl rfl (encA_plain _) fun h4 o4 => ?_
  refine o4.ldN 0 rfl rfl rfl (o4.ldN 0 rfl rfl rfl ?_)
  have build : ∀ {h5 : Heap} {KH : KT} {R : List Res}, Own h h5 R -> (∀ w h6, Own h h6 (slR encN 1 T_int w [i] :: R) -> KH w h6) -> pBuildSlice T_int (zerosL [(.int .i64 0)] 1) [(0, 1, I i)] 1 h5 KH := fun o5 hk =>
   o5.build (enc := encN) (n := 1) [i] rfl (sizesOk_of rfl) rfl hk
  refine ⟨?_, ?_⟩
  ·refine hE _ _ _ fun h5 x5 => ?_
   have o5 := o4.more x5
   refine ⟨o5.ldN 0 rfl rfl rfl rfl, ?_, ?_⟩
   ·refine hE _ _ _ fun h6 x6 => ?_
    have o6 := o5.more x6
    refine (o6.vw 1 rfl).at1 (e := fun x => x) (fun _ => rfl) hrl ?_
    exact build o6 fun w h7 o7 => app o7
   ·refine build o5 fun w h6 o6 => hE _ _ _ fun h7 x7 => ?_
    have o7 := o6.more x7
    refine (o7.vw 2 rfl).at1 (e := fun x => x) (fun _ => rfl) hrl ?_
    exact app o7
  ·refine build o4 fun w h5 o5 => hE _ _ _ fun h6 x6 => ?_
   have o6 := o5.more x6
   refine ⟨o6.ldN 1 rfl rfl rfl rfl, hE _ _ _ fun h7 x7 => ?_⟩
   have o7 := o6.more x7
   refine (o7.vw 2 rfl).at1 (e := fun x => x) (fun _ => rfl) hrl ?_
   exact app o7
 ·have : i = g.arcs.length := by omega
  subst this
  refine hK vr _ h2 (Own.pack (l := [slR encV 1 T_sl_int vr (rowsL p g.arcs g.n bl g.arcs.length), cellR bl (Mh.row encN c) T_int]) o) fun h'' hq => ?_
  obtain ⟨b2, H⟩ := hq (slR encV 1 T_sl_int vr (rowsL p g.arcs g.n bl g.arcs.length)) (by simp)
  have hb := hq (cellR bl (Mh.row encN c) T_int) (by simp)
  refine ⟨_, by simp, ⟨b2, H.view⟩, fun v hv => ?_⟩
  have hvn : v < g.n := by simpa using hv
  have := row_view hC hvn hb
  simp only [List.getElem_map, List.getElem_range]
  rw [show outsP (fun a => p a == v) g.arcs 0 = fill p g.arcs g.arcs.length v by unfold fill; rw [List.take_of_length_le (Nat.le_refl _)]]
  exact this

end
open Go Go.Mh

section
variable {h0 h : Heap} {L : List Res} {K : KT} {g : G} {v : Value} {r : Nat} {vx vy va endv : Value} {p : A -> Nat}
open Arcs

abbrev cntL (p : A -> Nat) (l : List A) (n i : Nat) : List Nat := (List.range n).map (cnt p (l.take i))
abbrev rowsU (p : A -> Nat) (l : List A) (n bl v : Nat) : List Value := (List.range n).map fun u => if u < v then rowV p l bl u 0 else .slice none 0 0

theorem by_k2 {bl : Nat} {c : List Nat} {vm vr : Value} {h' : Heap} (hR : g.Right) (hp : ∀ a ∈ g.arcs, p a < g.n) (hE : EndF endv p) (hr : h[r]? = some (.cells #[I g.n, vx, vy, va] T_api_Raw (0, 0))) (hv : Vw encA 3 h va g.arcs) (hc : c.length = g.arcs.length)
  (o : Own h h' [slR encN 1 T_int vm (cntL p g.arcs g.n g.arcs.length), slR encV 1 T_sl_int vr (rowsU p g.arcs g.n bl 0), cellR bl (Mh.row encN c) T_int]) (hK : ByK h g p K) :
  sh_net_of_1_C2 Tryz.prog vm (ptr r) endv K (.slice (some ⟨bl, 0, none⟩) g.arcs.length g.arcs.length) vr h' := by
 have hmany := hR.many
 have hmost := hR.most
 unfold sh_net_of_1_C2
 refine (o.vw 0 rfl).len ?_
 have hcl : (cntL p g.arcs g.n g.arcs.length).length = g.n := by simp
 rw [hcl]
 refine LoopH_count g.n (fun i x h' => x.1 = I (off p g.arcs i) /\ x.2.1 = I i /\ Own h h' [slR encN 1 T_int vm (cntL p g.arcs g.n g.arcs.length), slR encV 1 T_sl_int vr (rowsU p g.arcs g.n bl i), cellR bl (Mh.row encN c) T_int])
  ⟨by rw [off_zero]; rfl, rfl, o⟩ ?_
 clear o
 rintro i ⟨x, y, ⟨⟩⟩ h2 Z hi ⟨hx, hy, o⟩ hZ
 dsimp only at hx hy hZ ⊢
 subst hx hy
 unfold sh_net_of_1_L3
 simp only [pBin_lss, ifV_dec]
 refine ⟨fun hlt => ?_, fun hge => ?_⟩
 ·have hlt : i < g.n := by omega
  have hoc := off_cnt_le (p := p) (l := g.arcs) (v := i)
  have hos := off_succ (p := p) (l := g.arcs) (v := i)
  have hci : (cntL p g.arcs g.n g.arcs.length)[i]'(by rw [hcl]; exact hlt) = cnt p g.arcs i := by
   simp only [List.getElem_map, List.getElem_range, List.take_of_length_le (Nat.le_refl _)]
  refine (o.vw 0 rfl).at1 (e := fun x : Nat => I x) (fun _ => rfl) (by rw [hcl]; exact hlt) ?_
  rw [hci]
  have e1 : IntKind.i64.wrap (((off p g.arcs i : Nat) : Int) + ((cnt p g.arcs i : Nat) : Int)) = ((off p g.arcs i + cnt p g.arcs i : Nat) : Int) := by rw [w64 (by omega) (by omega)]; omega
  simp only [pBin_add, e1]
  refine ⟨fun _ => rfl, by omega, Int.le_refl _, by omega, by omega, ?_⟩
  have er : (Value.slice (slBase 1 ((off p g.arcs i : Nat) : Int).toNat ((off p g.arcs i + cnt p g.arcs i : Nat) : Int).toNat (some ⟨bl, 0, none⟩)) (((off p g.arcs i : Nat) : Int).toNat - ((off p g.arcs i : Nat) : Int).toNat) (((off p g.arcs i + cnt p g.arcs i : Nat) : Int).toNat - ((off p g.arcs i : Nat) : Int).toNat)) = rowV p g.arcs bl i 0 := by
   simp only [rowV, Int.toNat_natCast, Nat.sub_self]
   congr 1; omega
  rw [er]
  refine o.setAt (a := rowV p g.arcs bl i 0) 1 rfl encV_len (by intro u hu; simp [encV] at hu; subst hu; rfl) (by simpa using hlt) rfl fun h3 o3 => ?_
  rw [wI i (by omega), <- hos]
  refine hZ (I (off p g.arcs (i + 1) : Nat), (I (i + 1 : Nat), ())) h3 hlt ⟨rfl, rfl, ?_⟩
  have e2 : (rowsU p g.arcs g.n bl i).set i (rowV p g.arcs bl i 0) = rowsU p g.arcs g.n bl (i + 1) := by
   rw [range_set]
   apply List.map_congr_left
   intro u hu
   by_cases h1 : u = i
   ·subst h1; simp
   ·by_cases h2 : u < i
    ·simp [h1, h2, show u < i + 1 by omega]
    ·simp [h1, h2, show ¬ u < i + 1 by omega]
  rw [<- e2]
  exact o3
 ·have : i = g.n := by omega
  subst this
  have hc3 : hcell h2 ⟨r, 3, none⟩ = some va := hcell_of (o.ext.get hr) rfl
  simp only [pField_ptr, pLoad_ptr, Nat.zero_add, hc3]
  refine (hv.more o.ext).len ?_
  refine by_L4 (bl := bl) hR hp hE hv hc ?_ hK
  have e3 : rowsU p g.arcs g.n bl g.n = rowsL p g.arcs g.n bl 0 := by
   apply List.map_congr_left
   intro u hu
   have : u < g.n := by simpa using hu
   simp [this, fill, outsP]
  rw [<- e3]
  exact o.tail

theorem by_ok (hR : g.Right) (hp : ∀ a ∈ g.arcs, p a < g.n) (hE : EndF endv p) (hr : h[r]? = some (.cells #[I g.n, vx, vy, va] T_api_Raw (0, 0))) (hv : Vw encA 3 h va g.arcs) (hK : ByK h g p K) :
  CallsH Tryz.prog F_net_of_1 [endv, ptr r].toArray h K := by
 have hmany := hR.many
 have hmost := hR.most
 refine lk_net_of_1 _ _ ?_
 unfold sh_net_of_1
 have c0 : hcell h ⟨r, 0, none⟩ = some (I g.n) := hcell_of hr rfl
 simp only [pField_ptr, pLoad_ptr, Nat.zero_add, c0]
 refine (Own.start h).make (enc := encN) (n := 1) (a := 0) rfl (by omega) (by omega) fun vm h1 o1 => ?_
 have c3 : hcell h1 ⟨r, 3, none⟩ = some va := hcell_of (o1.ext.get hr) rfl
 simp only [c3]
 refine (hv.more o1.ext).len ?_
 refine LoopH_count g.arcs.length (fun i x h' => x.1 = I i /\ Own h h' [slR encN 1 T_int vm (cntL p g.arcs g.n i)]) ⟨rfl, ?_⟩ ?_
 ·have e : List.replicate g.n 0 = cntL p g.arcs g.n 0 := by
   apply List.ext_getElem
   ·simp
   ·intro j h1 h2; simp [cnt]
  rw [<- e]; exact o1
 clear o1
 rintro i ⟨x, ⟨⟩⟩ h2 Z hi ⟨hx, o⟩ hZ
 dsimp only at hx hZ ⊢
 subst hx
 unfold sh_net_of_1_L1
 simp only [pBin_lss, ifV_dec]
 refine ⟨fun hlt => ?_, fun hge => ?_⟩
 ·have hlt : i < g.arcs.length := by omega
  refine (hv.more o.ext).atN encA_len hlt ?_
  have hpa := hp _ (List.getElem_mem hlt)
  have hcl : p g.arcs[i] < (cntL p g.arcs g.n i).length := by simpa using hpa
  have hle : cnt p (g.arcs.take i) (p g.arcs[i]) <= (g.arcs.take i).length := cnt_le
  simp only [List.length_take] at hle
  refine o.box fun b h3 o3 => o3.st 0 rfl rfl rfl rfl rfl (encA_plain _) fun h4 o4 => ?_
  refine o4.ldN 0 rfl rfl rfl (hE _ _ _ fun h5 x5 => ?_)
  have o5 := o4.more x5
  refine (o5.vw 1 rfl).at1 (e := fun x : Nat => I x) (fun _ => rfl) hcl ?_
  simp only [List.getElem_map, List.getElem_range]
  rw [pBin_add, wI _ (by omega)]
  refine o5.setAt (a := cnt p (g.arcs.take i) (p g.arcs[i]) + 1) 1 rfl encN_len (encN_plain _) hcl rfl fun h6 o6 => ?_
  rw [pBin_add, wI i (by omega)]
  refine hZ (I (i + 1 : Nat), ()) h6 hlt ⟨rfl, ?_⟩
  have e : (cntL p g.arcs g.n i).set (p g.arcs[i]) (cnt p (g.arcs.take i) (p g.arcs[i]) + 1) = cntL p g.arcs g.n (i + 1) := by
   rw [range_set]
   apply List.map_congr_left
   intro u hu
   rw [cnt_succ hlt]
   split <;> rename_i e
   ·rw [e]; simp
   ·simp [show ¬ p g.arcs[i] = u from fun e' => e e'.symm]
  rw [<- e]
  exact o6.tail
 ·have : i = g.arcs.length := by omega
  subst this
  have c0 : hcell h2 ⟨r, 0, none⟩ = some (I g.n) := hcell_of (o.ext.get hr) rfl
  have c3 : hcell h2 ⟨r, 3, none⟩ = some va := hcell_of (o.ext.get hr) rfl
  unfold cutP
  simp only [pField_ptr, pLoad_ptr, Nat.zero_add, c0, c3]
  refine (hv.more o.ext).len ?_
  have e0 : ∀ m, (List.replicate m [Value.int .i64 0]).flatten = Mh.row encN (List.replicate m 0) := fun m => by simp [Mh.row, List.flatMap, encN]
  have eU : ∀ bl, List.replicate g.n (Value.slice none 0 0) = rowsU p g.arcs g.n bl 0 := fun bl => by
   apply List.ext_getElem
   ·simp
   ·intro j h1 h2; simp
  have c0' := c0
  refine ⟨?_, ?_⟩
  ·refine o.makeB (by omega) (by omega) fun bl h3 o3 => ?_
   refine o3.make (enc := encV) (n := 1) (a := .slice none 0 0) rfl (by omega) (by omega) fun vr h4 o4 => ?_
   rw [e0, eU bl] at o4
   exact by_k2 hR hp hE hr hv (by simp) (o4.sel [2, 0, 1] (by decide)) hK
  ·refine o.make (enc := encV) (n := 1) (a := .slice none 0 0) rfl (by omega) (by omega) fun vr h3 o3 => ?_
   refine o3.makeB (by omega) (by omega) fun bl h4 o4 => ?_
   rw [e0, eU bl] at o4
   exact by_k2 hR hp hE hr hv (by simp) (o4.sel [2, 1, 0] (by decide)) hK

def NetR (h : Heap) (r : Nat) (g : G) : Prop :=
 ∃ vx vy va vo vi, h[r]? = some (.cells #[I g.n, vx, vy, va, vo, vi] T_net_Net (0, 0)) /\ RawL h vx vy va g /\ rowsQ h vo g.n g.out /\ rowsQ h vi g.n g.in

theorem NetR.more {h h' : Heap} (H : NetR h r g) (x : Ext h h') : NetR h' r g := by
 obtain ⟨vx, vy, va, vo, vi, a, b, c, d⟩ := H
 exact ⟨vx, vy, va, vo, vi, x.get a, b.more x, c.more x, d.more x⟩

def netR (N : Res) (r : Nat) (g : G) : Prop := ∀ h, N.Q h -> NetR h r g

theorem of_ok (o : Own h0 h (xR vx g.X :: xR vy g.Y :: aR va g.arcs :: L)) (hR : g.Right) (hK : ∀ r N h', netR N r g -> Own h0 h' (N :: L) -> K (ptr r) h') : callS Tryz.prog F_net_of [.agg #[I g.n, vx, vy, va]] h K := by
 have p0 := o.vw 0 rfl
 have p1 := o.vw 1 rfl
 have p2 := o.vw 2 rfl
 refine callS_of (lk_net_of _ ?_)
 unfold sh_net_of
 refine (Own.start h).box fun rb h1 o1 => o1.ldN 0 rfl rfl rfl ⟨sizesOk_of rfl, o1.box fun r h2 o2 => ?_⟩
 refine callV_of (l := [_, ptr rb]) rfl (by_ok hR (fun a ha => (hR.ends a ha).1) of2_end (o2.get 1 rfl) (p2.more o2.ext) fun vo Ro h3 o3 hro => ?_)
 have o3' := o2.frame o3
 refine callV_of (l := [_, ptr rb]) rfl (by_ok hR (fun a ha => (hR.ends a ha).2.1) of3_end (o3'.get 2 rfl) (p2.more o3'.ext) fun vi Ri h4 o4 hri => ?_)
 have o4' := o3'.frame o4
 have plain : ∀ {h : Heap} {vr : Value} {n : Nat} {f : Nat -> List Nat}, rowsQ h vr n f -> vr.cells = #[vr] /\ Mh.plainCell vr = true := fun ⟨_, _, a, _⟩ => ⟨a.one, a.plain⟩
 have hvo := plain (hro _ (o4'.get 1 rfl))
 have hvi := plain (hri _ (o4'.get 0 rfl))
 simp only [pNil_ptr, pField_ptr]
 refine o4'.st1 2 rfl rfl rfl hvo.1 hvo.2 fun h5 o5 => o5.st1 (cs' := [I g.n, vx, vy, va, vo, vi]) 2 rfl rfl rfl hvi.1 hvi.2 fun h6 o6 => ?_
 have o7 := o.frame (o6.sel [2, 1, 0] (by decide))
 refine hK r (allR [cellR r [I g.n, vx, vy, va, vo, vi] T_net_Net, Ro, Ri, xR vx g.X, xR vy g.Y, aR va g.arcs]) h6 (fun h hq => ?_) (Own.pack (l := [cellR r [I g.n, vx, vy, va, vo, vi] T_net_Net, Ro, Ri, xR vx g.X, xR vy g.Y, aR va g.arcs]) o7)
 obtain ⟨b1, q1⟩ := hq (xR vx g.X) (by simp)
 obtain ⟨b2, q2⟩ := hq (xR vy g.Y) (by simp)
 obtain ⟨b3, q3⟩ := hq (aR va g.arcs) (by simp)
 exact ⟨vx, vy, va, vo, vi, hq (cellR r [I g.n, vx, vy, va, vo, vi] T_net_Net) (by simp), ⟨⟨_, q1.view⟩, ⟨_, q2.view⟩, ⟨_, q3.view⟩⟩, hro _ (hq Ro (by simp)), hri _ (hq Ri (by simp))⟩

theorem new_net_ok (o : Own h0 h L) (hR : g.Right) (H : RawV h v g) (hK : ∀ r N h', netR N r g -> Own h0 h' (N :: L) -> K (.tuple #[ptr r, .nilIface]) h') : callS Tryz.prog F_net_New [v] h K := by
 obtain ⟨vx, vy, va, rfl, H⟩ := H
 refine callS_of (lk_net_New _ ?_)
 unfold sh_net_New
 refine (Own.start h).box fun b h1 o1 => o1.ldN 0 rfl rfl rfl ?_
 refine check_ok hR ⟨vx, vy, va, rfl, H.more o1.ext⟩ fun h2 x2 => ?_
 have o2 := o1.more x2
 simp only [pNe_iface_nil, ifV_false]
 refine o2.ldN 0 rfl rfl rfl ?_
 refine own_ok o2 hR ⟨vx, vy, va, rfl, H.more o2.ext⟩ fun vx1 vy1 va1 h3 o3 => ?_
 exact of_ok o3 hR fun r N h4 hN o4 => hK r N h4 hN (o.frame (o4.sel [0] (by decide)))

end
open Go Go.Mh

section
variable {h0 h : Heap} {L : List Res} {K : KT} {g : G} {r i : Nat} {z : Int}

theorem nodes_ok (H : NetR h r g) (hK : K (I g.n) h) : callS Tryz.prog F_net_Net_Nodes [ptr r] h K := by
  obtain ⟨vx, vy, va, vo, vi, hr, HL, ho, hi⟩ := H
  refine callS_of (lk_net_Net_Nodes _ ?_)
  unfold sh_net_Net_Nodes
  have c0 : hcell h ⟨r, 0, none⟩ = some (I g.n) := hcell_of hr rfl
  simp only [pEq_ptr_nil, Option.isNone_some, ifV_false, pNil_ptr, pField_ptr, pLoad_ptr, Nat.zero_add, c0]
  exact hK
theorem arcs_ok (H : NetR h r g) (hK : K (I g.arcs.length) h) : callS Tryz.prog F_net_Net_Arcs [ptr r] h K := by
  obtain ⟨vx, vy, va, vo, vi, hr, HL, ho, hi⟩ := H
  refine callS_of (lk_net_Net_Arcs _ ?_)
  unfold sh_net_Net_Arcs
  have c3 : hcell h ⟨r, 3, none⟩ = some va := hcell_of hr rfl
  simp only [pEq_ptr_nil, Option.isNone_some, ifV_false, pNil_ptr, pField_ptr, pLoad_ptr, Nat.zero_add, c3]
  exact HL.2.2.len hK
theorem oneArc_ok {v : Value} {l : List A} (H : Vw encA 3 h v l) (h1 : ∀ i (hi : i < l.length), z = (i : Int) -> ∀ h', Ext h h' -> K (.tuple #[vA l[i], .bool true]) h')
    (h2 : ¬ (0 <= z /\ z < l.length) -> ∀ h', Ext h h' -> K (.tuple #[vA ⟨0, 0, 0⟩, .bool false]) h') : callS Tryz.prog F_net_one_api_Arc [v, I z] h K := by
  refine callS_of (lk_net_one_api_Arc _ _ ?_)
  unfold sh_net_one_api_Arc sh_net_one_api_Arc_k1
  refine (Own.start h).box fun b h1' o1 => ?_
  have none : ¬ (0 <= z /\ z < l.length) -> pLoadN 3 h1' (ptr b) fun t14 => pStore 3 (ptr b) t14 h1' fun u h_3 => pLoadN 3 h_3 (ptr b) fun res => K (.tuple #[res, (.bool false)]) h_3 := fun hz =>
    o1.ldN 0 rfl rfl rfl (o1.st 0 rfl rfl rfl rfl rfl (encA_plain ⟨0, 0, 0⟩) fun h2' o2 => o2.ldN 0 rfl rfl rfl (h2 hz _ o2.ext))
  simp only [pBin_lss, ifV_dec]
  refine ⟨fun e => none (by omega), fun e => ?_⟩
  refine (H.more o1.ext).len ?_
  simp only [pBin_geq, ifV_dec]
  refine ⟨fun e => none (by omega), fun e' => ?_⟩
  obtain ⟨i, rfl⟩ := Int.eq_ofNat_of_zero_le (show 0 <= z by omega)
  have hi : i < l.length := by omega
  refine (H.more o1.ext).atN encA_len hi ?_
  exact o1.st 0 rfl rfl rfl rfl rfl (encA_plain _) fun h2' o2 => o2.ldN 0 rfl rfl rfl (h1 i hi rfl _ o2.ext)

theorem arcI_ok (H : NetR h r g) (h1 : ∀ i (hi : i < g.arcs.length), z = (i : Int) -> ∀ h', Ext h h' -> K (.tuple #[vA g.arcs[i], .bool true]) h')
    (h2 : ¬ (0 <= z /\ z < g.arcs.length) -> ∀ h', Ext h h' -> K (.tuple #[vA ⟨0, 0, 0⟩, .bool false]) h') : callS Tryz.prog F_net_Net_Arc [ptr r, I z] h K := by
  obtain ⟨vx, vy, va, vo, vi, hr, HL, ho, hi⟩ := H
  refine callS_of (lk_net_Net_Arc _ _ ?_)
  unfold sh_net_Net_Arc
  refine (Own.start h).box fun b h1' o1 => ?_
  have c3 : hcell h1' ⟨r, 3, none⟩ = some va := hcell_of (o1.ext.get hr) rfl
  simp only [pEq_ptr_nil, Option.isNone_some, ifV_false, pNil_ptr, pField_ptr, pLoad_ptr, Nat.zero_add, c3]
  refine oneArc_ok (HL.more o1.ext).2.2 (fun i hi hz h2' x2 => ?_) fun hz h2' x2 => ?_
  · have o2 := o1.more x2
    simp only [pExt0, pExt1]
    exact o2.st 0 rfl rfl rfl rfl rfl (encA_plain _) fun h3 o3 => o3.ldN 0 rfl rfl rfl (h1 i hi hz _ o3.ext)
  · have o2 := o1.more x2
    simp only [pExt0, pExt1]
    exact o2.st 0 rfl rfl rfl rfl rfl (encA_plain ⟨0, 0, 0⟩) fun h3 o3 => o3.ldN 0 rfl rfl rfl (h2 hz _ o3.ext)

theorem arc_ok (H : NetR h r g) (hi : i < g.arcs.length) (hK : ∀ h', Ext h h' -> K (.tuple #[vA g.arcs[i], .bool true]) h') : callS Tryz.prog F_net_Net_Arc [ptr r, I i] h K :=
  arcI_ok H (fun j hj e h' x => by obtain rfl : i = j := by omega
                                   exact hK h' x) fun e => by omega

theorem oneRow_ok {v : Value} {n : Nat} {f : Nat -> List Nat} (H : rowsQ h v n f) (h1 : ∀ i v', i < n -> z = (i : Int) -> Vw encN 1 h v' (f i) -> K (.tuple #[v', .bool true]) h)
    (h2 : ¬ (0 <= z /\ z < n) -> K (.tuple #[.slice none 0 0, .bool false]) h) : callS Tryz.prog F_net_one_sl_int [v, I z] h K := by
  obtain ⟨ls, hl, hv, hls⟩ := H
  refine callS_of (lk_net_one_sl_int _ _ ?_)
  unfold sh_net_one_sl_int sh_net_one_sl_int_k1
  simp only [pBin_lss, ifV_dec]
  refine ⟨fun e => h2 (by omega), fun e => hv.len ?_⟩
  simp only [pBin_geq, ifV_dec]
  refine ⟨fun e => h2 (by omega), fun e' => ?_⟩
  obtain ⟨i, rfl⟩ := Int.eq_ofNat_of_zero_le (show 0 <= z by omega)
  have hi : i < ls.length := by omega
  exact hv.at1 (e := fun x => x) (fun _ => rfl) hi (h1 i _ (by omega) rfl (hls i hi))

theorem outsP_short {q : A -> Bool} {l : List A} {i : Nat} : (outsP q l i).length <= l.length := by rw [outsP_length]; exact List.countP_le_length

theorem outI_ok (o : Own h0 h L) (hR : g.Right) (H : NetR h r g) (hK : ∀ v' h', Own h0 h' (slR encN 1 T_int v' (if 0 <= z /\ z < g.n then g.out z.toNat else []) :: L) -> K v' h') : callS Tryz.prog F_net_Net_Out [ptr r, I z] h K := by
  have hmany := hR.many
  obtain ⟨vx, vy, va, vo, vi, hr, HL, ho, hi⟩ := H
  refine callS_of (lk_net_Net_Out _ _ ?_)
  unfold sh_net_Net_Out
  have c4 : hcell h ⟨r, 4, none⟩ = some vo := hcell_of hr rfl
  simp only [pEq_ptr_nil, Option.isNone_some, ifV_false, pNil_ptr, pField_ptr, pLoad_ptr, Nat.zero_add, c4]
  refine oneRow_ok ho (fun i v' hi hz hv => ?_) fun hz => ?_
  · subst hz
    rw [if_pos (by omega)] at hK
    simp only [pExt0, pExt1]
    exact clone_int o hv (Nat.le_trans outsP_short (by omega)) hK
  · rw [if_neg hz] at hK
    simp only [pExt0, pExt1]
    exact clone_int o Vw.nil (by simp) hK

theorem inI_ok (o : Own h0 h L) (hR : g.Right) (H : NetR h r g) (hK : ∀ v' h', Own h0 h' (slR encN 1 T_int v' (if 0 <= z /\ z < g.n then g.in z.toNat else []) :: L) -> K v' h') : callS Tryz.prog F_net_Net_In [ptr r, I z] h K := by
  have hmany := hR.many
  obtain ⟨vx, vy, va, vo, vi, hr, HL, ho, hi⟩ := H
  refine callS_of (lk_net_Net_In _ _ ?_)
  unfold sh_net_Net_In
  have c5 : hcell h ⟨r, 5, none⟩ = some vi := hcell_of hr rfl
  simp only [pEq_ptr_nil, Option.isNone_some, ifV_false, pNil_ptr, pField_ptr, pLoad_ptr, Nat.zero_add, c5]
  refine oneRow_ok hi (fun i v' hi hz hv => ?_) fun hz => ?_
  · subst hz
    rw [if_pos (by omega)] at hK
    simp only [pExt0, pExt1]
    exact clone_int o hv (Nat.le_trans outsP_short (by omega)) hK
  · rw [if_neg hz] at hK
    simp only [pExt0, pExt1]
    exact clone_int o Vw.nil (by simp) hK

end
open Go Go.Mh

abbrev plC (p : Pl31) (dv : Value) : List Value := [I p.marks, I p.rule, dv, I p.kind, I p.cells]
abbrev planV (p : Pl31) (dv : Value) : Value := .agg (plC p dv).toArray
def fnV (f : Nat) : Value := .func (.func f) #[] #[]
def encRl (p : Nat × Int) : List Value := [fnV p.1, I p.2]
theorem encRl_plain (p : Nat × Int) : ∀ u ∈ encRl p, Mh.plainCell u = true := by intro u hu; simp [encRl] at hu; rcases hu with rfl | rfl <;> rfl

section
variable {h0 h : Heap} {L : List Res} {K : KT} {p : Pl31} {dv : Value}

def chF : Int -> Option Value := fset (fset (fun _ => none) 0 (fnV F_far_Marks)) 1 (fnV F_avoid_Marks)
def prF : Int -> Option Value := fset (fset (fset (fun _ => none) 0 (fnV F_build_parts_1)) 1 (fnV F_grid_Map)) 2 (fnV F_split_Map)

theorem choices_ok (o : Own h0 h L) (hK : ∀ m h', Own h0 h' (mapR m chF :: L) -> K (.map (some m)) h') : callS Tryz.prog F_build_choices [] h K := by
 refine callS_of (lk_build_choices ?_)
 unfold sh_build_choices
 exact o.mkMap fun m h1 o1 => o1.mapPut 0 rfl (f' := fset (fun _ => none) 0 (fnV F_far_Marks)) (fun x => rfl) fun h2 o2 => o2.mapPut 0 rfl (f' := chF) (fun x => rfl) fun h3 o3 => hK m h3 o3
theorem parts31_ok (o : Own h0 h L) (hK : ∀ m h', Own h0 h' (mapR m prF :: L) -> K (.map (some m)) h') : callS Tryz.prog F_build_parts [] h K := by
 refine callS_of (lk_build_parts ?_)
 unfold sh_build_parts
 exact o.mkMap fun m h1 o1 => o1.mapPut 0 rfl (f' := fset (fun _ => none) 0 (fnV F_build_parts_1)) (fun x => rfl) fun h2 o2 => o2.mapPut 0 rfl (f' := fset (fset (fun _ => none) 0 (fnV F_build_parts_1)) 1 (fnV F_grid_Map)) (fun x => rfl) fun h3 o3 => o3.mapPut 0 rfl (f' := prF) (fun x => rfl) fun h4 o4 => hK m h4 o4

theorem chF_some {z : Int} : (z = 0 /\ chF z = some (fnV F_far_Marks)) \/ (z = 1 /\ chF z = some (fnV F_avoid_Marks)) \/ (z ≠ 0 /\ z ≠ 1 /\ chF z = none) := by
 by_cases h0 : z = 0
 ·subst h0; exact .inl ⟨rfl, rfl⟩
 ·by_cases h1 : z = 1
  ·subst h1; exact .inr (.inl ⟨rfl, rfl⟩)
  ·refine .inr (.inr ⟨h0, h1, ?_⟩)
   unfold chF fset
   rw [if_neg h1, if_neg h0]
theorem prF_some {z : Int} : (z = 0 /\ prF z = some (fnV F_build_parts_1)) \/ (z = 1 /\ prF z = some (fnV F_grid_Map)) \/ (z = 2 /\ prF z = some (fnV F_split_Map)) \/ (z ≠ 0 /\ z ≠ 1 /\ z ≠ 2 /\ prF z = none) := by
 by_cases h0 : z = 0
 ·subst h0; exact .inl ⟨rfl, rfl⟩
 ·by_cases h1 : z = 1
  ·subst h1; exact .inr (.inl ⟨rfl, rfl⟩)
  ·by_cases h2 : z = 2
   ·subst h2; exact .inr (.inr (.inl ⟨rfl, rfl⟩))
   ·refine .inr (.inr (.inr ⟨h0, h1, h2, ?_⟩))
    unfold prF fset
    rw [if_neg h2, if_neg h1, if_neg h0]

theorem neFn {f : Nat} {K : Value -> Prop} (hK : K (.bool true)) : pEq true .func (fnV f) .nilFunc K := hK
theorem neFnN {K : Value -> Prop} (hK : K (.bool false)) : pEq true .func .nilFunc .nilFunc K := hK

def ck (p : Pl31) : Nat -> Bool
 | 0 => decide (0 <= p.marks /\ p.marks <= 16)
 | 1 => decide (p.rule = 0 \/ p.rule = 1)
 | 2 => decide (p.kind = 0 \/ p.kind = 1 \/ p.kind = 2)
 | _ => decide (p.kind = 0 \/ (1 <= p.cells /\ p.cells <= 256))

theorem ck1_ok (hK : ∀ h', Ext h h' -> K (.bool (ck p 0)) h') : callV Tryz.prog (fnV F_build_Check_1) [planV p dv].toArray h K := by
 refine callV_of (l := [planV p dv]) rfl (lk_build_Check_1 _ ?_)
 unfold sh_build_Check_1
 refine (Own.start h).box fun b h1 o1 => ?_
 have o1 : Own h h1 [cellR b (plC p dv) T_api_Plan] := o1
 have hk := hK h1 o1.ext
 simp only [pField_ptr, Nat.zero_add]
 refine o1.load 0 rfl rfl ?_
 rw [pBin_geq, ifV_dec]
 refine ⟨fun h1 => o1.load 0 rfl rfl ?_, fun h1 => ?_⟩
 ·rw [pBin_leq]
  rw [show ck p 0 = decide (p.marks <= 16) from decide_eq_decide.2 ⟨fun h => h.2, fun h => ⟨h1, h⟩⟩] at hk
  exact hk
 ·rw [show ck p 0 = false from decide_eq_false fun h => h1 h.1] at hk
  exact hk
theorem ck2_ok (hK : ∀ h', Ext h h' -> K (.bool (ck p 1)) h') : callV Tryz.prog (fnV F_build_Check_2) [planV p dv].toArray h K := by
 refine callV_of (l := [planV p dv]) rfl (lk_build_Check_2 _ ?_)
 unfold sh_build_Check_2
 refine (Own.start h).box fun b h1 o1 => ?_
 have o1 : Own h h1 [cellR b (plC p dv) T_api_Plan] := o1
 simp only [pField_ptr, Nat.zero_add]
 refine o1.load 0 rfl rfl (choices_ok o1 fun m h2 o2 => ⟨o2.load 1 rfl rfl rfl, o2.look 0 rfl ?_⟩)
 simp only [Bool.false_eq_true, if_false]
 have hk := hK h2 o2.ext
 rcases @chF_some p.rule with ⟨e, h⟩ | ⟨e, h⟩ | ⟨e1, e2, h⟩
 ·rw [h, Option.getD_some]; rw [show ck p 1 = true from decide_eq_true (.inl e)] at hk; exact neFn hk
 ·rw [h, Option.getD_some]; rw [show ck p 1 = true from decide_eq_true (.inr e)] at hk; exact neFn hk
 ·rw [h, Option.getD_none]; rw [show ck p 1 = false from decide_eq_false fun h => h.elim e1 e2] at hk; exact neFnN hk
theorem ck3_ok (hK : ∀ h', Ext h h' -> K (.bool (ck p 2)) h') : callV Tryz.prog (fnV F_build_Check_3) [planV p dv].toArray h K := by
 refine callV_of (l := [planV p dv]) rfl (lk_build_Check_3 _ ?_)
 unfold sh_build_Check_3
 refine (Own.start h).box fun b h1 o1 => ?_
 have o1 : Own h h1 [cellR b (plC p dv) T_api_Plan] := o1
 simp only [pField_ptr, Nat.zero_add]
 refine o1.load 0 rfl rfl (parts31_ok o1 fun m h2 o2 => ⟨o2.load 1 rfl rfl rfl, o2.look 0 rfl ?_⟩)
 simp only [Bool.false_eq_true, if_false]
 have hk := hK h2 o2.ext
 rcases @prF_some p.kind with ⟨e, h⟩ | ⟨e, h⟩ | ⟨e, h⟩ | ⟨e1, e2, e3, h⟩
 ·rw [h, Option.getD_some]; rw [show ck p 2 = true from decide_eq_true (.inl e)] at hk; exact neFn hk
 ·rw [h, Option.getD_some]; rw [show ck p 2 = true from decide_eq_true (.inr (.inl e))] at hk; exact neFn hk
 ·rw [h, Option.getD_some]; rw [show ck p 2 = true from decide_eq_true (.inr (.inr e))] at hk; exact neFn hk
 ·rw [h, Option.getD_none]; rw [show ck p 2 = false from decide_eq_false fun h => h.elim e1 fun h => h.elim e2 e3] at hk; exact neFnN hk
theorem ck4_ok (hK : ∀ h', Ext h h' -> K (.bool (ck p 3)) h') : callV Tryz.prog (fnV F_build_Check_4) [planV p dv].toArray h K := by
 refine callV_of (l := [planV p dv]) rfl (lk_build_Check_4 _ ?_)
 unfold sh_build_Check_4
 refine (Own.start h).box fun b h1 o1 => ?_
 have o1 : Own h h1 [cellR b (plC p dv) T_api_Plan] := o1
 have hk := hK h1 o1.ext
 simp only [pField_ptr, Nat.zero_add]
 refine o1.load 0 rfl rfl ?_
 rw [pBin_eql, ifV_beq]
 refine ⟨fun e => ?_, fun e => o1.load 0 rfl rfl ?_⟩
 ·rw [show ck p 3 = true from decide_eq_true (.inl e)] at hk; exact hk
 rw [pBin_geq, ifV_dec]
 refine ⟨fun h1 => o1.load 0 rfl rfl ?_, fun h1 => ?_⟩
 ·rw [pBin_leq]
  rw [show ck p 3 = decide (p.cells <= 256) from decide_eq_decide.2 ⟨fun h => (h.resolve_left e).2, fun h => .inr ⟨h1, h⟩⟩] at hk
  exact hk
 ·rw [show ck p 3 = false from decide_eq_false fun h => h1 (h.resolve_left e).1] at hk
  exact hk

def rules : List (Nat × Int) := [(F_build_Check_1, 11), (F_build_Check_2, 12), (F_build_Check_3, 13), (F_build_Check_4, 14)]

theorem bfirst_ok {lv : Value} (H : Vw encRl 2 h lv rules) (hn : (∀ i, i < 4 -> ck p i = true) -> ∀ h', Ext h h' -> K .nilIface h')
  (hs : ∀ i, i < 4 -> ck p i = false -> (∀ j, j < i -> ck p j = true) -> ∀ b h', Own h h' [cellR b [I (11 + i : Nat), I 0, I 0, I 0] T_api_Fault] -> K (.iface T_p_api_Fault (ptr b)) h') : callS Tryz.prog F_build_first [planV p dv, lv] h K := by
 refine callS_of (lk_build_first _ _ ?_)
 unfold sh_build_first
 refine (Own.start h).box fun p2 h1 o1 => ?_
 have o1 : Own h h1 [cellR p2 (plC p dv) T_api_Plan] := o1
 refine H.len ?_
 refine LoopH_count 4 (fun i x h' => x.1 = I i /\ (∀ j, j < i -> ck p j = true) /\ Own h h' [cellR p2 (plC p dv) T_api_Plan]) ⟨rfl, fun j h => absurd h (by omega), o1⟩ ?_
 clear o1
 rintro i ⟨x, ⟨⟩⟩ h' Z hi ⟨hx, hp, o⟩ hZ
 dsimp only at hx hZ ⊢
 subst hx
 unfold sh_build_first_L1
 rw [pBin_lss, show (rules.length : Int) = 4 from rfl, ifV_dec]
 refine ⟨fun hlt => ?_, fun hge => ?_⟩
 ·have hlt : i < 4 := by omega
  refine (H.more o.ext).atN (fun _ => rfl) (show i < rules.length from hlt) ?_
  refine o.box fun r6 h2 o2 => ?_
  refine o2.st (l := encRl rules[i]) (cs' := encRl rules[i]) 0 rfl rfl rfl rfl rfl (encRl_plain _) fun h3 o3 => ?_
  simp only [pField_ptr, Nat.zero_add]
  refine o3.load 0 rfl rfl (o3.ldN 1 rfl rfl rfl ?_)
  have hcode : rules[i].2 = ((11 + i : Nat) : Int) := by
   have : i = 0 \/ i = 1 \/ i = 2 \/ i = 3 := by omega
   rcases this with rfl | rfl | rfl | rfl <;> rfl
  have hF : ∀ {K' : KT}, (∀ h4, Ext h3 h4 -> K' (.bool (ck p i)) h4) -> callV Tryz.prog (fnV rules[i].1) [planV p dv].toArray h3 K' := fun hk => by
   have : i = 0 \/ i = 1 \/ i = 2 \/ i = 3 := by omega
   rcases this with rfl | rfl | rfl | rfl
   ·exact ck1_ok hk
   ·exact ck2_ok hk
   ·exact ck3_ok hk
   ·exact ck4_ok hk
  refine hF fun h4 x4 => ?_
  have o4 := o3.more x4
  rw [pUn_not]
  cases hc : ck p i with
  | true =>
   rw [Bool.not_true, ifV_false, pBin_add, wI i (by omega)]
   refine hZ (I (i + 1 : Nat), ()) h4 hlt ⟨rfl, fun j hj => ?_, o4.sel [1] (by decide)⟩
   by_cases e : j = i
   ·subst e; exact hc
   ·exact hp j (by omega)
  | false =>
   rw [Bool.not_false, ifV_true]
   refine o4.load 0 rfl rfl ?_
   rw [hcode]
   refine pBuild_ones (cs' := [I (11 + i : Nat), I 0, I 0, I 0]) (by intro p hp; simp at hp; subst hp; rfl) rfl rfl ?_
   exact o4.box fun b h5 o5 => hs i hlt hc hp b h5 (o5.sel [0] (by decide))
 ·exact hn (fun j hj => hp j (by omega)) h' o.ext

theorem wrong_ck : (p.wrong = 0 ↔ ∀ i, i < 4 -> ck p i = true) /\ ∀ i, i < 4 -> ck p i = false -> (∀ j, j < i -> ck p j = true) -> p.wrong = ((11 + i : Nat) : Int) := by
 unfold Pl31.wrong
 constructor
 ·constructor
  ·intro h i hi
   have : i = 0 \/ i = 1 \/ i = 2 \/ i = 3 := by omega
   split at h
   ·cases h
   split at h
   ·cases h
   split at h
   ·cases h
   split at h
   ·cases h
   rename_i a b c d
   rcases this with rfl | rfl | rfl | rfl
   ·exact decide_eq_true (Decidable.not_not.1 a)
   ·exact decide_eq_true (Decidable.not_not.1 b)
   ·exact decide_eq_true (Decidable.not_not.1 c)
   ·exact decide_eq_true (Decidable.not_not.1 d)
  ·intro h
   have a := of_decide_eq_true (h 0 (by decide))
   have b := of_decide_eq_true (h 1 (by decide))
   have c := of_decide_eq_true (h 2 (by decide))
   have d := of_decide_eq_true (h 3 (by decide))
   rw [if_neg (Decidable.not_not.2 a), if_neg (Decidable.not_not.2 b), if_neg (Decidable.not_not.2 c), if_neg (Decidable.not_not.2 d)]
 ·intro i hi hf hp
  have : i = 0 \/ i = 1 \/ i = 2 \/ i = 3 := by omega
  rcases this with rfl | rfl | rfl | rfl
  ·rw [if_pos (of_decide_eq_false hf)]; rfl
  ·rw [if_neg (Decidable.not_not.2 (of_decide_eq_true (hp 0 (by decide)))), if_pos (of_decide_eq_false hf)]; rfl
  ·rw [if_neg (Decidable.not_not.2 (of_decide_eq_true (hp 0 (by decide)))), if_neg (Decidable.not_not.2 (of_decide_eq_true (hp 1 (by decide)))), if_pos (of_decide_eq_false hf)]; rfl
  ·rw [if_neg (Decidable.not_not.2 (of_decide_eq_true (hp 0 (by decide)))), if_neg (Decidable.not_not.2 (of_decide_eq_true (hp 1 (by decide)))), if_neg (Decidable.not_not.2 (of_decide_eq_true (hp 2 (by decide)))), if_pos (of_decide_eq_false hf)]; rfl

theorem bcheck_ok (hn : p.wrong = 0 -> ∀ h', Ext h h' -> K .nilIface h')
  (hs : p.wrong ≠ 0 -> ∀ b h', Own h h' [cellR b [I p.wrong, I 0, I 0, I 0] T_api_Fault] -> K (.iface T_p_api_Fault (ptr b)) h') : callS Tryz.prog F_build_Check [planV p dv] h K := by
 refine callS_of (lk_build_Check _ ?_)
 unfold sh_build_Check
 refine (Own.start h).box fun p1 h1 o1 => ?_
 have o1 : Own h h1 [cellR p1 (plC p dv) T_api_Plan] := o1
 refine o1.ldN 0 rfl rfl rfl ?_
 refine pBuild_ones (cs' := encRl (F_build_Check_1, 11)) (by intro p hp; simp at hp; rcases hp with rfl | rfl <;> rfl) rfl rfl ?_
 refine pBuild_ones (cs' := encRl (F_build_Check_2, 12)) (by intro p hp; simp at hp; rcases hp with rfl | rfl <;> rfl) rfl rfl ?_
 refine pBuild_ones (cs' := encRl (F_build_Check_3, 13)) (by intro p hp; simp at hp; rcases hp with rfl | rfl <;> rfl) rfl rfl ?_
 refine pBuild_ones (cs' := encRl (F_build_Check_4, 14)) (by intro p hp; simp at hp; rcases hp with rfl | rfl <;> rfl) rfl rfl ?_
 refine o1.build (enc := encRl) (n := 2) rules rfl (sizesOk_of rfl) rfl fun lv h2 o2 => ?_
 obtain ⟨w1, w2⟩ := @wrong_ck p
 refine bfirst_ok (p := p) (dv := dv) (o2.vw 0 rfl) (fun hall h' x => hn (w1.2 hall) h' (o2.ext2 x)) fun i hi hf hp b h' o3 => ?_
 have hw := w2 i hi hf hp
 have o4 := o2.frame o3
 rw [<- hw] at o4
 exact hs (by rw [hw]; omega) b h' (o4.sel [0] (by decide))

end
open Go Go.Mh

section
variable {h0 h : Heap} {L : List Res} {K : KT} {e t : Nat} {old : Value} {p : Pl31} {dv : Value} {c : Int}

def Glob (h : Heap) : Prop := hcell h ⟨0, 0, none⟩ = some (.iface T_reflectlite_rtype (.agg #[.pointer (some ⟨1, T_error, none⟩)]))
theorem Glob.more {h' : Heap} (H : Glob h) (x : Ext h h') : Glob h' := hcell_more x H

theorem asFault_ok (o : Own h0 h L) (i : Nat) (hi : L[i]? = some (cellR t [old] T_p_api_Fault)) (hg : Glob h) (hK : ∀ h', Own h0 h' (L.set i (cellR t [ptr e] T_p_api_Fault)) -> K (.bool true) h') :
  callS Tryz.prog F_errors_As [.iface T_p_api_Fault (ptr e), .iface T_p_p_api_Fault (ptr t)] h K := by
 refine callS_of ⟨by kernel_rfl, fun w hw => ?_⟩
 subst hw
 have hb := o.get i hi
 have hb : w.heap[t]? = some (.cells #[old] T_p_api_Fault (0, 0)) := hb
 have ht0 : w.cell? ⟨t, 0, none⟩ = some old := (show hcell w.heap ⟨t, 0, none⟩ = some old from hcell_of hb rfl)
 have hf0 : w.frozen? ⟨t, 0, none⟩ = false := (show hfrozen w.heap ⟨t, 0, none⟩ = false by unfold hfrozen; simp only [hb]; rfl)
 refine (callsIn_wide.2 (as_hit ⟨e, 0, none⟩ ⟨t, 0, none⟩ old w hg ht0 hf0)).mono fun ev w' ⟨he, hw'⟩ => ?_
 subst hw'
 refine ⟨_, he, ⟨rfl, rfl, rfl, Nat.le_refl _⟩, ?_⟩
 rw [setCell_heap]
 have x : ∀ (H : Heap) (o : Obj), Ext H (H.push o) := fun H o => Upd.push _ _ _
 have o4 := (((o.more (x _ (.cells #[.pointer (some ⟨t, 0, none⟩)] 92))).more (x _ (.cells #[.pointer (some ⟨1, 92, none⟩), .pointer (some ⟨w.heap.size, 0, none⟩), .int .u64 150] 136))).more (x _ (.cells #[.pointer (some ⟨1, 92, none⟩), .pointer (some ⟨w.heap.size, 0, none⟩), .int .u64 150] 136))).more (x _ (.cells #[.pointer (some ⟨e, 0, none⟩)] 90))
 have hb4 := o4.get i hi
 have hlt := get_lt hb4
 have e4 := hset_of (v := ptr e) (i := 0) hb4
 show K (.bool true) (hset ((((w.heap.push _).push _).push _).push _) _ _)
 rw [e4]
 refine hK _ (o4.set i hi (r' := cellR t [ptr e] T_p_api_Fault) (Upd.upd (S := (cellR t [old] T_p_api_Fault).F) _ _ rfl) (upd_self hlt) fun d hd => ⟨.inl hd, ?_⟩)
 rw [upd_size]; exact (show d = t from hd) ▸ hlt

theorem apiTold_ok (o : Own h0 h L) (i : Nat) (hi : L[i]? = some (cellR e [I c, I 0, I 0, I 0] T_api_Fault)) (hg : Glob h0) (hK : ∀ h', Own h0 h' L -> K (.agg #[I c, I 0, I 0, I 0]) h') : callS Tryz.prog F_api_Told [.iface T_p_api_Fault (ptr e)] h K := by
 refine callS_of (lk_api_Told _ ?_)
 unfold sh_api_Told
 refine o.box fun t2 h1 o1 => o1.box fun f3 h2 o2 => ?_
 have o2 : Own h0 h2 (cellR f3 [.pointer none] T_p_api_Fault :: cellR t2 [I 0, I 0, I 0, I 0] T_api_Fault :: L) := o2
 refine asFault_ok o2 0 rfl (hg.more o2.ext) fun h3 o3 => ?_
 have o3 : Own h0 h3 ([cellR f3 [ptr e] T_p_api_Fault, cellR t2 [I 0, I 0, I 0, I 0] T_api_Fault] ++ L) := o3
 rw [ifV_true]
 refine o3.load 0 rfl rfl ?_
 simp only [pNe_ptr_nil, Option.isSome_some, ifV_true]
 refine o3.load 0 rfl rfl ?_
 rw [pNil_ptr]
 have hi3 : ([cellR f3 [ptr e] T_p_api_Fault, cellR t2 [I 0, I 0, I 0, I 0] T_api_Fault] ++ L)[2 + i]? = some (cellR e [I c, I 0, I 0, I 0] T_api_Fault) := by
  rw [List.getElem?_append_right (by simp)]; simpa using hi
 refine o3.ldN (cs' := [I c, I 0, I 0, I 0]) (2 + i) hi3 rfl rfl ?_
 refine o3.st (l := [I c, I 0, I 0, I 0]) (cs' := [I c, I 0, I 0, I 0]) 1 rfl rfl rfl rfl rfl ?_ fun h4 o4 => o4.ldN (cs' := [I c, I 0, I 0, I 0]) 1 rfl rfl rfl (hK h4 o4.tail.tail)
 intro u hu
 simp at hu
 rcases hu with rfl | rfl <;> rfl

theorem told31_ok (o : Own h0 h L) (i : Nat) (hi : L[i]? = some (cellR e [I c, I 0, I 0, I 0] T_api_Fault)) (hg : Glob h0) (hc : c ≠ 0) (hK : ∀ h', Own h0 h' L -> K (.bool true) h') : callS Tryz.prog F_milestonelaw31_told [.iface T_p_api_Fault (ptr e), .agg #[I c, I 0, I 0, I 0]] h K := by
 refine callS_of (lk_milestonelaw31_told _ _ ?_)
 unfold sh_milestonelaw31_told
 refine o.box fun f3 h1 o1 => ?_
 have o1 : Own h0 h1 (cellR f3 [I c, I 0, I 0, I 0] T_api_Fault :: L) := o1
 refine cutP_of (fun y h' => y.1 = .bool true /\ Own h0 h' L) (fun J hJ => ?_) ?_
 ·have p1 : ∀ {K : Value -> Prop}, K (.bool true) -> pEq true .iface (.iface T_p_api_Fault (ptr e)) .nilIface K := fun hk => hk
  have p2 : ∀ {K : Value -> Prop}, K (.bool true) -> pEq false .bool (.bool true) (.bool true) K := fun hk => hk
  have p3 : ∀ {K : Value -> Prop}, K (.bool true) -> pEqS .eql 4 (.agg #[I c, I 0, I 0, I 0]) (.agg #[I c, I 0, I 0, I 0]) K := fun hk => by simpa [pEqS, intsL] using hk
  refine p1 ?_
  simp only [pField_ptr, Nat.zero_add]
  refine o1.load 0 rfl rfl ?_
  rw [pBin_neq, show (c != 0) = true by simpa using hc]
  refine p2 ?_
  rw [ifV_true]
  refine o1.ldN (cs' := [I c, I 0, I 0, I 0]) 0 rfl rfl rfl ?_
  refine apiTold_ok o1 (i + 1) (by simpa using hi) hg fun h2 o2 => ⟨o2.ldN (cs' := [I c, I 0, I 0, I 0]) 0 rfl rfl rfl rfl, ?_⟩
  refine p3 ?_
  exact hJ _ _ ⟨rfl, o2.tail⟩
 ·rintro ⟨y, ⟨⟩⟩ h' ⟨hy, o'⟩
  dsimp only at hy ⊢
  subst hy
  unfold sh_milestonelaw31_told_C1
  exact hK h' o'

theorem build_wrong (hw : p.wrong ≠ 0) {raw : Value} (hK : ∀ b h', Own h h' [cellR b [I p.wrong, I 0, I 0, I 0] T_api_Fault] -> K (.tuple #[.pointer none, .iface T_p_api_Fault (ptr b)]) h') : callS Tryz.prog F_build_Build [raw, planV p dv] h K := by
 refine callS_of (lk_build_Build _ _ ?_)
 unfold sh_build_Build
 refine (Own.start h).box fun raw2 h1 o1 => o1.box fun p3 h2 o2 => ?_
 have o2 : Own h h2 (cellR p3 (plC p dv) T_api_Plan :: cellR raw2 raw.cells.toList T_api_Raw :: []) := o2
 refine o2.ldN 0 rfl rfl rfl ?_
 refine bcheck_ok (p := p) (dv := dv) (fun h => absurd h hw) fun _ b h3 o3 => ?_
 have p1 : ∀ {K : Value -> Prop}, K (.bool true) -> pEq true .iface (.iface T_p_api_Fault (ptr b)) .nilIface K := fun hk => hk
 refine p1 ?_
 rw [ifV_true]
 exact hK b h3 ((o2.frame o3).sel [0] (by decide))

theorem fails_ok (hw : p.wrong = c) (hc : c ≠ 0) (hg : Glob h) (hK : ∀ h', Ext h h' -> K (.bool true) h') : callS Tryz.prog F_milestonelaw31_fails [planV p dv, I c] h K := by
 refine callS_of (lk_milestonelaw31_fails _ _ ?_)
 unfold sh_milestonelaw31_fails
 refine (Own.start h).box fun p2 h1 o1 => ?_
 have o1 : Own h h1 [cellR p2 (plC p dv) T_api_Plan] := o1
 refine pBuild_ones (cs' := [I 0, .slice none 0 0, .slice none 0 0, .slice none 0 0]) (by intro p hp; cases hp) rfl rfl ?_
 refine o1.ldN 0 rfl rfl rfl ?_
 refine build_wrong (p := p) (dv := dv) (by rw [hw]; exact hc) fun b h2 o2 => ?_
 rw [hw] at o2
 simp only [pExt0, pExt1, pEq_ptr_nil, Option.isNone_none, ifV_true]
 refine pBuild_ones (cs' := [I c, I 0, I 0, I 0]) (by intro p hp; simp at hp; subst hp; rfl) rfl rfl ?_
 exact told31_ok (o1.frame o2) 0 rfl hg hc fun h3 o3 => hK h3 o3.ext

end
open Go Go.Mh

abbrev tHeap : Nat := T_heap_Heap
abbrev tHeld : Nat := T_heap_held

theorem isNaN64_ok {x : Int} {h : Heap} {K : KT} (hk : K (.bool false) h) : callS Tryz.prog F_cmp_isNaN_int64 [I x] h K :=
 callS_of (lk_cmp_isNaN_int64 _ (by simpa [sh_cmp_isNaN_int64] using hk))
theorem isNaN_ok {x : Int} {h : Heap} {K : KT} (hk : K (.bool false) h) : callS Tryz.prog F_cmp_isNaN_int [I x] h K :=
 callS_of (lk_cmp_isNaN_int _ (by simpa [sh_cmp_isNaN_int] using hk))

def cmpI (x y : Int) : Int := if x < y then -1 else if y < x then 1 else 0

theorem compare64_ok {x y : Int} {h : Heap} {K : KT} (hk : K (I (cmpI x y)) h) : callS Tryz.prog F_cmp_Compare_int64 [I x, I y] h K := by
 refine callS_of (lk_cmp_Compare_int64 _ _ (isNaN64_ok (isNaN64_ok ?_)))
 unfold cmpI at hk
 by_cases h1 : x < y
 ·simpa [h1] using hk
 ·by_cases h2 : y < x
  ·simpa [h1, h2] using hk
  ·simpa [h1, h2] using hk
theorem compare_ok {x y : Int} {h : Heap} {K : KT} (hk : K (I (cmpI x y)) h) : callS Tryz.prog F_cmp_Compare_int [I x, I y] h K := by
 refine callS_of (lk_cmp_Compare_int _ _ (isNaN_ok (isNaN_ok ?_)))
 unfold cmpI at hk
 by_cases h1 : x < y
 ·simpa [h1] using hk
 ·by_cases h2 : y < x
  ·simpa [h1, h2] using hk
  ·simpa [h1, h2] using hk

theorem or2_ok {a b : Int} {c : Nat} {h : Heap} {T : TypeId} {K : KT} (hb : h[c]? = some (.cells #[I a, I b] T (0, 0)))
  (hk : K (I (if a = 0 then b else a)) h) : callS Tryz.prog F_cmp_Or_int [.slice (some ⟨c, 0, none⟩) 2 2] h K := by
 refine callS_of (lk_cmp_Or_int _ ?_)
 have c0 : hcell h ⟨c, 0, none⟩ = some (I a) := hcell_of hb rfl
 have c1 : hcell h ⟨c, 1, none⟩ = some (I b) := hcell_of hb rfl
 unfold sh_cmp_Or_int
 simp only [pLen_sl]
 refine LoopH_intro (fun x h' => h' = h /\ ((x.1 = I 0) \/ (x.1 = I 1 /\ a = 0) \/ (x.1 = I 2 /\ a = 0 /\ b = 0))) (fun x _ => match x.1 with | .int _ n => (2 - n).toNat | _ => 0) ⟨rfl, .inl rfl⟩ ?_
 rintro ⟨x, ⟨⟩⟩ h' Z ⟨rfl, hx⟩ hZ
 dsimp only at hx hZ ⊢
 unfold sh_cmp_Or_int_L1
 rcases hx with rfl | ⟨rfl, rfl⟩ | ⟨rfl, rfl, rfl⟩
 ·simp [c0]
  exact ⟨fun ha => by simpa [ha] using hk, fun ha => hZ _ _ ⟨rfl, .inr (.inl ⟨rfl, ha⟩)⟩ (by decide)⟩
 ·simp [c1]
  exact ⟨fun hb => by simpa using hk, fun hb => hZ _ _ ⟨rfl, .inr (.inr ⟨rfl, rfl, hb⟩)⟩ (by decide)⟩
 ·simpa using hk

abbrev HE := Int × Int
def encH (p : HE) : List Value := [I p.1, I p.2]
theorem encH_len (p : HE) : (encH p).length = 2 := rfl

def pos (l : List HE) (id : Int) : Option Value := (l.findIdx? (fun p => p.1 == id)).map fun i => I i

structure Rep (h : Heap) (r m bl : Nat) (l : List HE) (n : Int) : Prop where
 row : ∃ sl cap rest, h[r]? = some (.cells #[sl, .map (some m), I n] tHeap (0, 0)) /\
  ((sl = .slice none 0 0 /\ l = [] /\ cap = 0) \/ (sl = .slice (some ⟨bl, 0, none⟩) l.length cap /\ h[bl]? = some (.cells (Mh.row encH l ++ rest).toArray tHeld (0, 0)) /\
   rest.length = (cap - l.length) * 2 /\ l.length <= cap))
 map : ∃ es c, h[m]? = some (.map es c) /\ IMap es c (pos l)
 ids : (l.map (·.1)).Nodup
 small : l.length < 2 ^ 40

theorem Rep.upd {h h' : Heap} {r m bl : Nat} {l : List HE} {n : Int} {S : Nat -> Prop} (H : Rep h r m bl l n) (hu : Upd S h h') (h1 : ¬ S r) (h2 : ¬ S m) (h3 : ¬ S bl) : Rep h' r m bl l n := by
 obtain ⟨⟨sl, cap, rest, hr, hs⟩, ⟨es, c, hm, hi⟩, hn, hsm⟩ := H
 refine ⟨⟨sl, cap, rest, hu.get hr h1, ?_⟩, ⟨es, c, hu.get hm h2, hi⟩, hn, hsm⟩
 rcases hs with hs | ⟨a, b, c, d⟩
 ·exact .inl hs
 ·exact .inr ⟨a, hu.get b h3, c, d⟩

theorem Rep.full {h : Heap} {r m bl : Nat} {l : List HE} {n : Int} (H : Rep h r m bl l n) (hl : 0 < l.length) : ∃ cap rest,
  h[r]? = some (.cells #[.slice (some ⟨bl, 0, none⟩) l.length cap, .map (some m), I n] tHeap (0, 0)) /\ h[bl]? = some (.cells (Mh.row encH l ++ rest).toArray tHeld (0, 0)) /\
   rest.length = (cap - l.length) * 2 /\ l.length <= cap := by
 obtain ⟨sl, cap, rest, hr, hs⟩ := H.row
 rcases hs with ⟨_, h0, _⟩ | ⟨rfl, b, c, d⟩
 ·subst h0; simp at hl
 ·exact ⟨cap, rest, hr, b, c, d⟩

theorem Rep.r_ne {h : Heap} {r m bl : Nat} {l : List HE} {n : Int} (H : Rep h r m bl l n) (hl : 0 < l.length) : r ≠ bl /\ r ≠ m /\ bl ≠ m := by
 obtain ⟨cap, rest, hr, hb, _, _⟩ := H.full hl
 obtain ⟨es, c, hm, _⟩ := H.map
 refine ⟨?_, ?_, ?_⟩
 ·rintro rfl; rw [hr] at hb; simp at hb; exact absurd hb.2 (by decide)
 ·rintro rfl; rw [hr] at hm; simp at hm
 ·rintro rfl; rw [hb] at hm; simp at hm

theorem row_cell {h : Heap} {bl : Nat} {l : List HE} {rest : List Value} {T : TypeId} {fz : Nat × Nat} (hb : h[bl]? = some (.cells (Mh.row encH l ++ rest).toArray T fz)) {i j : Nat} (hi : i < l.length) (hj : j < 2) :
  hcell h ⟨bl, i * 2 + j, none⟩ = (encH l[i])[j]? := by
 rw [hcell_of hb (v := (encH l[i])[j]'(by rw [encH_len]; exact hj)) (by
  have := row_get encH_len hi hj rest
  rw [List.getElem?_toArray, this]; simp)]
 simp

theorem row_id {h : Heap} {bl : Nat} {l : List HE} {rest : List Value} {T : TypeId} {fz : Nat × Nat} (hb : h[bl]? = some (.cells (Mh.row encH l ++ rest).toArray T fz)) {i : Nat} (hi : i < l.length) :
  hcell h ⟨bl, i * 2, none⟩ = some (I l[i].1) := row_cell hb hi (j := 0) (by omega)
theorem row_key {h : Heap} {bl : Nat} {l : List HE} {rest : List Value} {T : TypeId} {fz : Nat × Nat} (hb : h[bl]? = some (.cells (Mh.row encH l ++ rest).toArray T fz)) {i : Nat} (hi : i < l.length) :
  hcell h ⟨bl, i * 2 + 1, none⟩ = some (I l[i].2) := row_cell hb hi (j := 1) (by omega)

def hlt (p q : HE) : Bool := decide (p.2 < q.2 \/ p.2 = q.2 /\ p.1 < q.1)

theorem cmp_hlt (p q : HE) : ((if cmpI p.2 q.2 = 0 then cmpI p.1 q.1 else cmpI p.2 q.2) < 0) ↔ hlt p q = true := by
 unfold hlt cmpI
 simp only [decide_eq_true_eq]
 rcases Int.lt_trichotomy p.2 q.2 with h | h | h
 ·simp [h]
 ·simp only [h, Int.lt_irrefl, if_false, if_true, false_or, true_and]
  by_cases h1 : p.1 < q.1
  ·simp [h1]
  ·simp only [h1, if_false, iff_false]; split <;> omega
 ·have h1 : ¬ p.2 < q.2 := by omega
  have h2 : ¬ p.2 = q.2 := by omega
  simp [h, h1, h2]

theorem ahead_ok {h : Heap} {r m bl : Nat} {l : List HE} {n : Int} {i k : Nat} {K : KT} (H : Rep h r m bl l n) (hi : i < l.length) (hk : k < l.length)
  (hK : ∀ h', Ext h h' -> K (.bool (hlt l[i] l[k])) h') : callS Tryz.prog F_heap_row_ahead [ptr r, I i, I k] h K := by
 obtain ⟨cap, rest, hr, hb, _, _⟩ := H.full (by omega)
 refine callS_of (lk_heap_row_ahead _ _ _ ?_)
 have c0 : hcell h ⟨r, 0, none⟩ = some (.slice (some ⟨bl, 0, none⟩) l.length cap) := hcell_of hr rfl
 have ci0 := row_id hb hi
 have ci1 := row_key hb hi
 have ck0 := row_id hb hk
 have ck1 := row_key hb hk
 unfold sh_heap_row_ahead
 simp [c0, hi, hk, ci0, ci1, ck0, ck1]
 refine compare64_ok ?_
 simp [c0, ci0, ck0]
 refine compare_ok ?_
 refine ⟨by simp [sizesOk, Value.cells, zerosL], ?_⟩
 have hnew : (h.push (.cells #[I (cmpI l[i].2 l[k].2), I (cmpI l[i].1 l[k].1)] T_int (0, 0)))[h.size]? = some (.cells #[I (cmpI l[i].2 l[k].2), I (cmpI l[i].1 l[k].1)] T_int (0, 0)) := push_new
 refine or2_ok hnew ?_
 simp only [pBin_lss]
 have := hK (h.push (.cells #[I (cmpI l[i].2 l[k].2), I (cmpI l[i].1 l[k].1)] T_int (0, 0))) (Upd.push _ _ _)
 have e : hlt l[i] l[k] = decide ((if cmpI l[i].2 l[k].2 = 0 then cmpI l[i].1 l[k].1 else cmpI l[i].2 l[k].2) < 0) := by
  rw [Bool.eq_iff_iff, decide_eq_true_eq]; exact (cmp_hlt _ _).symm
 rw [<- e]; exact this

theorem pos_get {l : List HE} (hn : (l.map (·.1)).Nodup) {i : Nat} (hi : i < l.length) : pos l l[i].1 = some (I i) := by
 unfold pos
 have : l.findIdx? (fun p => p.1 == l[i].1) = some i := by
  rw [List.findIdx?_eq_some_iff_getElem]
  refine ⟨hi, by simp, fun j hj => ?_⟩
  have hne : l[j].1 ≠ l[i].1 := by
   have := List.pairwise_iff_getElem.1 hn j i (by simp; omega) (by simpa using hi) hj
   simpa using this
  simpa using hne
 rw [this]; rfl

theorem pos_none {l : List HE} {id : Int} (h : ∀ p ∈ l, p.1 ≠ id) : pos l id = none := by
 unfold pos
 have : l.findIdx? (fun p => p.1 == id) = none := by
  rw [List.findIdx?_eq_none_iff]; intro p hp; simpa using h p hp
 rw [this]; rfl

theorem pos_cases (l : List HE) (id : Int) : (∃ i, ∃ hi : i < l.length, l[i].1 = id) \/ ∀ p ∈ l, p.1 ≠ id := by
 by_cases h : ∃ p ∈ l, p.1 = id
 ·obtain ⟨p, hp, rfl⟩ := h
  obtain ⟨i, hi, rfl⟩ := List.mem_iff_getElem.1 hp
  exact .inl ⟨i, hi, rfl⟩
 ·exact .inr fun p hp e => h ⟨p, hp, e⟩

theorem ids_inj {l : List HE} (hn : (l.map (·.1)).Nodup) {i k : Nat} (hi : i < l.length) (hk : k < l.length) (he : l[i].1 = l[k].1) : i = k := by
 rcases Nat.lt_trichotomy i k with h | h | h
 ·have := List.pairwise_iff_getElem.1 hn i k (by simpa using hi) (by simpa using hk) h
  simp [he] at this
 ·exact h
 ·have := List.pairwise_iff_getElem.1 hn k i (by simpa using hk) (by simpa using hi) h
  simp [he] at this

def swapL (l : List HE) (i k : Nat) (hi : i < l.length) (hk : k < l.length) : List HE := (l.set i l[k]).set k l[i]

theorem swapL_length {l : List HE} {i k : Nat} (hi : i < l.length) (hk : k < l.length) : (swapL l i k hi hk).length = l.length := by simp [swapL]

theorem swapL_get {l : List HE} {i k : Nat} (hi : i < l.length) (hk : k < l.length) {j : Nat} (hj : j < (swapL l i k hi hk).length) :
  (swapL l i k hi hk)[j] = if j = k then l[i] else if j = i then l[k] else l[j]'(by simpa [swapL] using hj) := by
 simp only [swapL, List.getElem_set]
 by_cases h1 : k = j
 ·simp [h1]
 ·by_cases h2 : i = j
  ·simp [h1, h2, show ¬ j = k from fun e => h1 e.symm]
  ·simp [h1, h2, show ¬ j = k from fun e => h1 e.symm, show ¬ j = i from fun e => h2 e.symm]

theorem swapL_perm {l : List HE} {i k : Nat} (hi : i < l.length) (hk : k < l.length) : (swapL l i k hi hk).Perm l := by
 rw [List.perm_iff_count]
 intro a
 unfold swapL
 rw [List.count_set (by simpa using hk), List.count_set hi, List.getElem_set]
 by_cases hik : i = k
 ·subst hik
  simp only [if_true]
  by_cases h : l[i] = a
  ·have : 0 < l.count a := List.count_pos_iff.2 (h ▸ List.getElem_mem hi)
   simp [h]; omega
  ·simp [h]
 ·simp only [hik, if_false]
  by_cases h1 : l[i] = a <;> by_cases h2 : l[k] = a
  ·have : 0 < l.count a := List.count_pos_iff.2 (h1 ▸ List.getElem_mem hi)
   simp [h1, h2]; omega
  ·have : 0 < l.count a := List.count_pos_iff.2 (h1 ▸ List.getElem_mem hi)
   simp [h1, h2]; omega
  ·have : 0 < l.count a := List.count_pos_iff.2 (h2 ▸ List.getElem_mem hk)
   simp [h1, h2]
  ·simp [h1, h2]

theorem swapL_nodup {l : List HE} {i k : Nat} (hi : i < l.length) (hk : k < l.length) (hn : (l.map (·.1)).Nodup) : ((swapL l i k hi hk).map (·.1)).Nodup :=
 ((swapL_perm hi hk).map _).nodup_iff.2 hn

theorem pos_swap {l : List HE} {i k : Nat} (hi : i < l.length) (hk : k < l.length) (hn : (l.map (·.1)).Nodup) (id : Int) :
  fset (fset (pos l) l[k].1 (I i)) l[i].1 (I k) id = pos (swapL l i k hi hk) id := by
 have hn' := swapL_nodup hi hk hn
 rcases pos_cases (swapL l i k hi hk) id with ⟨j, hj, rfl⟩ | h
 ·rw [pos_get hn' hj]
  have hjl : j < l.length := by simpa [swapL] using hj
  rw [swapL_get hi hk hj]
  unfold fset
  by_cases h1 : j = k
  ·simp [h1]
  ·by_cases h2 : j = i
   ·subst h2
    have : l[k].1 ≠ l[j].1 := fun e => h1 (ids_inj hn hk hi e).symm
    simp [h1, this]
   ·have e1 : l[j].1 ≠ l[i].1 := fun e => h2 (ids_inj hn hjl hi e)
    have e2 : l[j].1 ≠ l[k].1 := fun e => h1 (ids_inj hn hjl hk e)
    simp [h1, h2, e1, e2, pos_get hn hjl]
 ·rw [pos_none h]
  have hp := swapL_perm hi hk
  have h' : ∀ p ∈ l, p.1 ≠ id := fun p hp' => h p (hp.mem_iff.2 hp')
  have e1 := h' l[i] (List.getElem_mem hi)
  have e2 := h' l[k] (List.getElem_mem hk)
  unfold fset
  rw [if_neg (fun e => e1 e.symm), if_neg (fun e => e2 e.symm), pos_none h']

theorem swap_ok {h : Heap} {r m bl : Nat} {l : List HE} {n : Int} {i k : Nat} {K : KT} (H : Rep h r m bl l n) (hi : i < l.length) (hk : k < l.length)
  (hK : ∀ h', Rep h' r m bl (swapL l i k hi hk) n -> Upd (fun b => b = m \/ b = bl) h h' -> K (.tuple #[]) h') : callS Tryz.prog F_heap_row_swap [ptr r, I i, I k] h K := by
 obtain ⟨cap, rest, hr, hb, hrest, hcap⟩ := H.full (by omega)
 obtain ⟨hne1, hne2, hne3⟩ := H.r_ne (by omega)
 obtain ⟨es, c, hm, him⟩ := H.map
 refine callS_of (lk_heap_row_swap _ _ _ ?_)
 have c0 : hcell h ⟨r, 0, none⟩ = some (.slice (some ⟨bl, 0, none⟩) l.length cap) := hcell_of hr rfl
 have ci0 := row_id hb hi
 have ci1 := row_key hb hi
 have ck0 := row_id hb hk
 have ck1 := row_key hb hk
 unfold sh_heap_row_swap
 simp [c0, hi, hk, cellsAt, ci0, ci1, ck0, ck1]
 have hlen := row_length encH_len l
 have o1 := row_over encH_len hi l[k] rest
 refine pStore_of rfl hb rfl (by simp [hlen]; omega) (by simp) ?_
 simp only [cells_agg]
 rw [show over (Mh.row encH l ++ rest) (i * 2) [Value.int .i64 l[k].1, Value.int .i64 l[k].2] = Mh.row encH (l.set i l[k]) ++ rest from o1]
 have hb1 : (upd h bl (.cells (Mh.row encH (l.set i l[k]) ++ rest).toArray tHeld (0, 0)))[bl]? = _ := upd_self' hb
 have hk' : k < (l.set i l[k]).length := by simpa using hk
 have o2 := row_over encH_len hk' l[i] rest
 refine pStore_of rfl hb1 rfl (by simp [row_length encH_len]; omega) (by simp) ?_
 simp only [cells_agg]
 rw [show over (Mh.row encH (l.set i l[k]) ++ rest) (k * 2) [Value.int .i64 l[i].1, Value.int .i64 l[i].2] = Mh.row encH (swapL l i k hi hk) ++ rest from o2, upd_upd]
 have hi' : i < (swapL l i k hi hk).length := by simpa [swapL] using hi
 have hk'' : k < (swapL l i k hi hk).length := by simpa [swapL] using hk
 have hb2 : (upd h bl (.cells (Mh.row encH (swapL l i k hi hk) ++ rest).toArray tHeld (0, 0)))[bl]? = _ := upd_self' hb
 have hr2 := (upd_ne (o := .cells (Mh.row encH (swapL l i k hi hk) ++ rest).toArray tHeld (0, 0)) hne1.symm).trans hr
 have hm2 := (upd_ne (o := .cells (Mh.row encH (swapL l i k hi hk) ++ rest).toArray tHeld (0, 0)) hne3).trans hm
 have d0 := hcell_of (i := 0) hr2 rfl
 have d1 := hcell_of (i := 1) hr2 rfl
 have di := row_id hb2 hi'
 have dk := row_id hb2 hk''
 have ei : (swapL l i k hi hk)[i].1 = l[k].1 := by rw [swapL_get]; split <;> simp_all
 have ek : (swapL l i k hi hk)[k].1 = l[i].1 := by rw [swapL_get]; simp
 rw [ei] at di
 rw [ek] at dk
 simp [d0, d1, hi, hk, di, dk]
 refine mapEntry_of hm2 him fun es1 c1 s1 him1 hs1 => ?_
 simp
 refine entryStore_of (upd_self' hm2) him1 hs1 fun es2 him2 => ?_
 rw [upd_upd]
 refine mapEntry_of (upd_self' hm2) him2 fun es3 c3 s3 him3 hs3 => ?_
 simp
 rw [upd_upd]
 refine entryStore_of (upd_self' hm2) him3 hs3 fun es4 him4 => ?_
 rw [upd_upd]
 refine hK _ ⟨⟨_, cap, rest, (upd_ne hne2.symm).trans hr2, .inr ⟨by rw [swapL_length], (upd_ne hne3.symm).trans hb2, by rw [swapL_length]; exact hrest, by rw [swapL_length]; exact hcap⟩⟩,
  ⟨es4, _, upd_self' hm2, him4.congr fun id => ?_⟩, swapL_nodup hi hk H.ids, by rw [swapL_length]; exact H.small⟩ ?_
 ·rw [fset_same, fset_same]; exact pos_swap hi hk H.ids id
 ·exact (Upd.upd h _ (S := fun b => b = m \/ b = bl) (.inr rfl)).trans (Upd.upd (S := fun b => b = m \/ b = bl) _ _ (.inl rfl)) fun _ h _ => h

open Go Go.Mh

theorem hlt_iff {p q : HE} : hlt p q = true ↔ p.2 < q.2 \/ p.2 = q.2 /\ p.1 < q.1 := by simp [hlt]
theorem hlt_asymm {p q : HE} (h : hlt p q = true) : ¬ hlt q p = true := by rw [hlt_iff] at *; omega
theorem hlt_trans {p q s : HE} (h : ¬ hlt p q = true) (h' : ¬ hlt q s = true) : ¬ hlt p s = true := by rw [hlt_iff] at *; omega
theorem hlt_lt {p q s : HE} (h : ¬ hlt p q = true) (h' : hlt s q = true) : ¬ hlt p s = true := by rw [hlt_iff] at *; omega

abbrev gt (l : List HE) (j : Nat) : HE := l.getD j (0, 0)

theorem gt_eq {l : List HE} {j : Nat} (hj : j < l.length) : l[j] = gt l j := by simp [gt, hj]

theorem swapL_gt {l : List HE} {i k : Nat} (hi : i < l.length) (hk : k < l.length) (j : Nat) : gt (swapL l i k hi hk) j = if j = k then gt l i else if j = i then gt l k else gt l j := by
 by_cases hj : j < l.length
 ·have hj' : j < (swapL l i k hi hk).length := by rw [swapL_length]; exact hj
  rw [<- gt_eq hj', swapL_get hi hk hj']
  simp only [gt_eq]
 ·have h1 : ¬ j = k := fun e => hj (e ▸ hk)
  have h2 : ¬ j = i := fun e => hj (e ▸ hi)
  simp only [h1, h2, if_false]
  have hj' : ¬ j < (swapL l i k hi hk).length := by rw [swapL_length]; exact hj
  simp [gt, hj, hj']

def HeapOrd (l : List HE) : Prop := ∀ j, 0 < j -> j < l.length -> ¬ hlt (gt l j) (gt l ((j - 1) / 4)) = true

def UpInv (l : List HE) (i : Nat) : Prop :=
 (∀ j, 0 < j -> j < l.length -> j ≠ i -> ¬ hlt (gt l j) (gt l ((j - 1) / 4)) = true) /\
 (0 < i -> ∀ j, 0 < j -> j < l.length -> (j - 1) / 4 = i -> ¬ hlt (gt l j) (gt l ((i - 1) / 4)) = true)

theorem UpInv.done {l : List HE} {i : Nat} (h : UpInv l i) (hi : 0 < i -> ¬ hlt (gt l i) (gt l ((i - 1) / 4)) = true) : HeapOrd l := by
 intro j h0 h1
 by_cases e : j = i
 ·subst e; exact hi h0
 ·exact h.1 j h0 h1 e

theorem UpInv.step {l : List HE} {i : Nat} (h : UpInv l i) (h0 : 0 < i) (hi : i < l.length) (hp : (i - 1) / 4 < l.length) (hlt' : hlt (gt l i) (gt l ((i - 1) / 4)) = true) :
  UpInv (swapL l i ((i - 1) / 4) hi hp) ((i - 1) / 4) := by
 have hpi : (i - 1) / 4 < i := by omega
 refine ⟨fun j j0 j1 jp => ?_, fun p0 j j0 j1 je => ?_⟩
 ·rw [swapL_length] at j1
  rw [swapL_gt, swapL_gt]
  simp only [jp, if_false]
  by_cases e : j = i
  ·subst e
   simp only [if_true]
   exact hlt_asymm hlt'
  ·simp only [e, if_false]
   by_cases e1 : (j - 1) / 4 = (i - 1) / 4
   ·simp only [e1, if_true]
    have := h.1 j j0 j1 e
    rw [e1] at this
    exact hlt_lt this hlt'
   ·simp only [e1, if_false]
    by_cases e2 : (j - 1) / 4 = i
    ·simp only [e2, if_true]
     exact h.2 h0 j j0 j1 e2
    ·simp only [e2, if_false]
     exact h.1 j j0 j1 e
 ·rw [swapL_length] at j1
  have hg : ((i - 1) / 4 - 1) / 4 < (i - 1) / 4 := by omega
  have e1 : ¬ ((i - 1) / 4 - 1) / 4 = (i - 1) / 4 := by omega
  have e2 : ¬ ((i - 1) / 4 - 1) / 4 = i := by omega
  rw [swapL_gt, swapL_gt]
  simp only [e1, e2, if_false]
  have jp : ¬ j = (i - 1) / 4 := by omega
  simp only [jp, if_false]
  have hgp := h.1 ((i - 1) / 4) p0 hp (by omega)
  by_cases e : j = i
  ·simp only [e, if_true]; exact hgp
  ·simp only [e, if_false]
   have := h.1 j j0 j1 e
   rw [je] at this
   exact hlt_trans this hgp

theorem up_ok {h : Heap} {r m bl : Nat} {l : List HE} {n : Int} {i : Nat} {K : KT} (H : Rep h r m bl l n) (hi : i < l.length) (hu : UpInv l i)
  (hK : ∀ h' l', Rep h' r m bl l' n -> l'.Perm l -> HeapOrd l' -> Upd (fun b => b = m \/ b = bl) h h' -> K (.tuple #[]) h') : callS Tryz.prog F_heap_row_up [ptr r, I i] h K := by
 refine callS_of (lk_heap_row_up _ _ ?_)
 unfold sh_heap_row_up
 refine LoopH_intro (fun x h' => ∃ (j : Nat) (l' : List HE), x.1 = I j /\ j < l'.length /\ Rep h' r m bl l' n /\ l'.Perm l /\ UpInv l' j /\ Upd (fun b => b = m \/ b = bl) h h')
  (fun x _ => match x.1 with | .int _ n => n.toNat | _ => 0) ⟨i, l, rfl, hi, H, .refl _, hu, .refl _ _⟩ ?_
 rintro ⟨x, ⟨⟩⟩ h' Z ⟨j, l', hx, hj, H', hp, hu', hupd⟩ hZ
 dsimp only at hx
 subst hx
 dsimp only at hZ ⊢
 have hsm := H'.small
 unfold sh_heap_row_up_L1
 simp only [pBin_gtr, ifV_dec]
 refine ⟨fun h0 => ?_, fun h0 => ?_⟩
 ·have h0 : 0 < j := by omega
  have epar : (((j : Int) - 1).tdiv 4) = (((j - 1) / 4 : Nat) : Int) := by
   rw [show ((j : Int) - 1) = ((j - 1 : Nat) : Int) by omega]; rfl
  have e1 : IntKind.i64.wrap ((j : Int) - 1) = (j : Int) - 1 := w64 (by omega) (by omega)
  have e2 : IntKind.i64.wrap (((j - 1) / 4 : Nat) : Int) = (((j - 1) / 4 : Nat) : Int) := w64 (by omega) (by omega)
  simp only [pBin_sub, pBin_quo, e1, epar, e2]
  refine ⟨by decide, ?_⟩
  have hpl : (j - 1) / 4 < l'.length := by omega
  refine ahead_ok H' hj hpl fun h1 hx1 => ?_
  obtain ⟨hn1, hn2, hn3⟩ := H'.r_ne (by omega)
  have H1 := H'.upd hx1 id id id
  rw [ifV_bool, gt_eq hj, gt_eq hpl]
  refine ⟨fun hb => ⟨by decide, ?_⟩, fun hb => ?_⟩
  ·refine swap_ok H1 hj hpl fun h2 H2 hx2 => ?_
   refine ⟨by decide, ?_⟩
   refine hZ _ _ ⟨(j - 1) / 4, _, rfl, by rw [swapL_length]; exact hpl, H2, (swapL_perm hj hpl).trans hp, hu'.step h0 hj hpl hb, ?_⟩ ?_
   ·exact (hupd.trans (hx1.upd (S := fun b => b = m \/ b = bl)) fun _ h _ => h).trans hx2 fun _ h _ => h
   ·dsimp only; omega
  ·exact hK _ _ H1 hp (hu'.done fun _ => by rw [hb]; simp) (hupd.trans (hx1.upd (S := fun b => b = m \/ b = bl)) fun _ h _ => h)
 ·have h0 : j = 0 := by omega
  subst h0
  exact hK _ _ H' hp (hu'.done fun h => absurd h (Nat.lt_irrefl 0)) hupd

end Go.Proofs.YtmdldoolnhpaeaaGreatDoor
