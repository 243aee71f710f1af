/- Texts of the proofs of seat YtdbkeklhjjlhbaaGreat, joined: DkD, DkM, DkE, DkF, DkG, DkH, DkI, DkJ, DkK, DkL, DkN, DkP. They have no conditions of their own. -/
import Derived.Test.YtdbkeklhjjlhbaaGreatTa
import Derived.Laws.Externs
import Derived.MapKept
import Derived.WalkKit
import Derived.CallsIn
import Derived.Test.YtdbkeklhjjlhbaaGreatMd
set_option linter.unusedVariables false
set_option linter.unusedSimpArgs false
set_option linter.unusedSectionVars false

namespace Go.Proofs.YtdbkeklhjjlhbaaGreat
open Go Go.Mh
set_option linter.unusedVariables false

/-! ### A thing taken out, and laid back -/

def DC.setT (c : DC) (i : Nat) (x : TC) (dv wv : Value) : DC := { c with tc := c.tc.set i ⟨x.n, x.b, dv, wv⟩ }
def modTh (s : Dk) (n : Nat) (f : Th → Th) : Dk := { s with th := s.th.modify n f }
def dN (d : Nat) (c : DC) (s : Dk) (r : Res) (L : List Res) : List Res :=
  cellR d (dC c s) T_disk_Disk :: kmapR QS c.dm (dirF (dirOf s.cs)) :: kmapR QS c.nm (dirF s.now) :: kmapR QI c.tm (thF c.tc) :: slR encC 1 T_disk_change c.pv c.vs :: r :: L

section
variable {h0 h : Heap} {L : List Res} {K : Value → Heap → Prop} {d i : Nat} {c : DC} {s : Dk} {B : Bx} {x : TC}

theorem ts_get (hx : c.tc[i]? = some x) : (tsR c s)[i]? = some (sepR (tRs s x)) := by
  unfold tsR; rw [List.getElem?_map, hx]; rfl

theorem dL_out (o : Own h0 h (dL d c s L)) (hx : c.tc[i]? = some x) : Own h0 h (tRs s x ++ ((tsR c s).set i nilR ++ dN d c s nilR L)) := by
  have o1 : Own h0 h (tsR c s ++ dN d c s nilR L) := o.out 5 rfl
  have hlt : i < (tsR c s).length := (List.getElem?_eq_some_iff.1 (ts_get (s := s) hx)).1
  have o2 := o1.out i (by rw [List.getElem?_append_left hlt]; exact ts_get hx)
  rwa [List.set_append_left _ _ hlt] at o2

theorem dL_back {l : List Res} (o : Own h0 h (l ++ ((tsR c s).set i nilR ++ dN d c s nilR L))) (hx : c.tc[i]? = some x) : Own h0 h (dN d c s (sepR ((tsR c s).set i (sepR l))) L) := by
  have hlt : i < (tsR c s).length := (List.getElem?_eq_some_iff.1 (ts_get (s := s) hx)).1
  have o1 := o.back i (by rw [List.getElem?_append_left (by rw [List.length_set]; exact hlt), List.getElem?_set_self hlt])
  rw [List.set_append_left _ _ (by rw [List.length_set]; exact hlt), List.set_set] at o1
  exact o1.back 5 rfl

theorem getT_mod {n m : Nat} {f : Th → Th} (hn : n < s.th.length) : (modTh s n f).getT m = if m = n then f (s.getT n) else s.getT m := by
  unfold modTh Dk.getT
  simp only [List.getD_eq_getElem?_getD, List.getElem?_modify]
  by_cases e : m = n
  · subst e; simp [List.getElem?_eq_getElem hn]
  · have e' : ¬ n = m := fun h => e h.symm
    rw [if_neg e]; simp [e']

theorem thF_set {tc : List TC} {i : Nat} {x : TC} {dv wv : Value} (hx : tc[i]? = some x) : thF (tc.set i ⟨x.n, x.b, dv, wv⟩) = thF tc := by
  funext z
  unfold thF
  induction tc generalizing i with
  | nil => rfl
  | cons y tc ih =>
    cases i with
    | zero =>
      simp at hx; subst hx
      simp only [List.set_cons_zero, List.find?_cons]
      by_cases hz : (y.n : Int) = z
      · rw [decide_eq_true hz]; rfl
      · rw [decide_eq_false hz]
    | succ i =>
      simp only [List.set_cons_succ, List.find?_cons]
      split
      · rfl
      · exact ih (by simpa using hx)

theorem nums_set {tc : List TC} {i : Nat} {x : TC} {dv wv : Value} (hx : tc[i]? = some x) : (tc.set i ⟨x.n, x.b, dv, wv⟩).map (·.n) = tc.map (·.n) := by
  rw [List.map_set]
  apply List.ext_getElem?
  intro n
  by_cases e : n = i
  · subst e
    rw [List.getElem?_set_self (by simpa using (List.getElem?_eq_some_iff.1 hx).1), List.getElem?_map, hx]; rfl
  · rw [List.getElem?_set_ne (fun h => e h.symm)]

theorem mem_num {tc tc' : List TC} (h : tc'.map (·.n) = tc.map (·.n)) {n : Nat} : (∃ x ∈ tc', x.n = n) ↔ ∃ x ∈ tc, x.n = n := by
  have : n ∈ tc'.map (·.n) ↔ n ∈ tc.map (·.n) := by rw [h]
  simpa [List.mem_map] using this

theorem DOk.modT {f : Th → Th} {dv wv : Value} (H : DOk B c s) (hx : c.tc[i]? = some x) : DOk B (c.setT i x dv wv) (modTh s x.n f) := by
  have e := nums_set (dv := dv) (wv := wv) hx
  refine ⟨H.lv, H.ch, by unfold DC.setT; dsimp only; rw [e]; exact H.nd, fun y hy => ?_, fun y hy => (mem_num e).2 (H.dir y hy), fun a n hm => (mem_num e).2 (H.num a n hm)⟩
  obtain ⟨y', hy', e'⟩ := (mem_num e).1 ⟨y, hy, rfl⟩
  unfold modTh
  dsimp only
  rw [List.length_modify, ← e']
  exact H.lt y' hy'

theorem dL_mod {f : Th → Th} {dv wv : Value} (H : DOk B c s) (hx : c.tc[i]? = some x)
    (o : Own h0 h (tR3 x.b dv wv (bytesOf (f (s.getT x.n)).syn) (f (s.getT x.n)).pen ++ ((tsR c s).set i nilR ++ dN d c s nilR L))) : Own h0 h (dL d (c.setT i x dv wv) (modTh s x.n f) L) := by
  have o1 := dL_back o hx
  have hlt := H.lt x (List.mem_of_getElem? hx)
  have hi := (List.getElem?_eq_some_iff.1 hx).1
  have e1 : (tsR c s).set i (sepR (tR3 x.b dv wv (bytesOf (f (s.getT x.n)).syn) (f (s.getT x.n)).pen)) = tsR (c.setT i x dv wv) (modTh s x.n f) := by
    unfold tsR DC.setT
    dsimp only
    rw [List.map_set]
    have : sepR (tRs (modTh s x.n f) ⟨x.n, x.b, dv, wv⟩) = sepR (tR3 x.b dv wv (bytesOf (f (s.getT x.n)).syn) (f (s.getT x.n)).pen) := by
      unfold tRs
      dsimp only
      rw [getT_mod hlt, if_pos rfl]
    rw [this]
    apply List.ext_getElem?
    intro n
    by_cases e : n = i
    · subst e
      rw [List.getElem?_set_self (by simpa using hi), List.getElem?_set_self (by simpa using hi)]
    · rw [List.getElem?_set_ne (fun h => e h.symm), List.getElem?_set_ne (fun h => e h.symm), List.getElem?_map, List.getElem?_map]
      cases hy : c.tc[n]? with
      | none => rfl
      | some y =>
        have hne : y.n ≠ x.n := fun e' => e (by
          have hn := (List.getElem?_eq_some_iff.1 hy)
          have hxx := (List.getElem?_eq_some_iff.1 hx)
          exact (List.getElem_inj (i := n) (j := i) (h₀ := by simpa using hn.1) (h₁ := by simpa using hxx.1) H.nd).1 (by simp [hn.2, hxx.2, e']))
        simp only [Option.map_some]
        unfold tRs
        rw [getT_mod hlt, if_neg hne]
  have e2 : dC (c.setT i x dv wv) (modTh s x.n f) = dC c s := by
    unfold dC modTh DC.setT; simp
  unfold dL
  rw [← e1, e2, show (c.setT i x dv wv).tc = c.tc.set i ⟨x.n, x.b, dv, wv⟩ from rfl, thF_set hx]
  exact o1

/-- The facts of a thing. -/
theorem dL_facts (o : Own h0 h (dL d c s L)) (hx : c.tc[i]? = some x) : h[x.b]? = some (.cells #[x.dv, x.wv] T_disk_thing (0, 0)) ∧ Vw encB8 1 h x.dv (bytesOf (s.getT x.n).syn) ∧ Vw encW 2 h x.wv (s.getT x.n).pen := by
  have o1 := dL_out o hx
  exact ⟨o1.get 0 rfl, o1.vw 1 rfl, o1.vw 2 rfl⟩

/-! ### What names point to -/

theorem OkL.right : ∀ {l m : List Ch} {D : Dir}, OkL D (l ++ m) → OkL (l.foldl app D) m
  | [], _, _, h => h
  | c :: l, m, D, h => OkL.right (l := l) (m := m) (D := app D c) h.2

theorem dOk_at (H : DOk B c s) (ho : OkL [] (s.cs ++ s.cp)) {k : Nat} {a : Nm} {n : Nat} (hn : dlook (dirOf (s.cs ++ s.cp.take k)) a = some n) : ∃ (i : Nat) (x : TC), c.tc[i]? = some x ∧ x.n = n := by
  have hm := (dlook_mem (keys_dirOf _)).1 hn
  have e : dirOf (s.cs ++ s.cp.take k) = (s.cp.take k).foldl app (dirOf s.cs) := by simp [dirOf]
  rw [e] at hm
  have hk : OkL (dirOf s.cs) (s.cp.take k) := by
    have := OkL.right ho
    rw [← List.take_append_drop k s.cp] at this
    exact this.left
  have : ∃ x ∈ c.tc, x.n = n := by
    rcases dir_val _ _ _ hm hk with h | ⟨b, h⟩
    · obtain ⟨y, hy, hyn⟩ := List.mem_map.1 h
      obtain ⟨x, hx, e⟩ := H.dir y hy
      exact ⟨x, hx, e.trans hyn⟩
    · exact H.num b n (List.mem_of_mem_take h)
  obtain ⟨x, hx, e⟩ := this
  obtain ⟨i, hi⟩ := List.getElem?_of_mem hx
  exact ⟨i, x, hi, e⟩

theorem dOk_now (H : DOk B c s) (ho : OkL [] (s.cs ++ s.cp)) {a : Nm} {n : Nat} (hn : dlook s.now a = some n) : ∃ (i : Nat) (x : TC), c.tc[i]? = some x ∧ x.n = n :=
  dOk_at (k := s.cp.length) H ho (by rw [List.take_length]; exact hn)

theorem thF_at (H : DOk B c s) (hx : c.tc[i]? = some x) : thF c.tc x.n = some (ptr x.b) := by
  unfold thF
  have : c.tc.find? (fun y => decide ((y.n : Int) = x.n)) = some x := by
    have nd := H.nd
    revert hx nd
    generalize c.tc = tc
    intro hx nd
    induction tc generalizing i with
    | nil => cases hx
    | cons y tc ih =>
      have nd' := List.nodup_cons.1 nd
      cases i with
      | zero => simp at hx; subst hx; simp
      | succ i =>
        have hx' : tc[i]? = some x := by simpa using hx
        rw [List.find?_cons]
        have hne : y.n ≠ x.n := fun e => nd'.1 (List.mem_map.2 ⟨x, List.mem_of_getElem? hx', e.symm⟩)
        rw [decide_eq_false (by omega)]
        exact ih hx' nd'.2
  rw [this]; rfl

/-! ### What is refused; steps -/

theorem refusedB_ok {e : Int} {tv : Value} {ys : List Nm} (o : Own h0 h (dL d c s L)) (H : Vw encS 1 h tv ys) (hl : ys.length < 2 ^ 40) (hK : K (I (refE s e ys)) h) : callS Tryz.prog F_disk_Disk_refused [ptr d, I e, tv] h K := by
  refine callS_of (lk_disk_Disk_refused _ _ _ ?_)
  unfold sh_disk_Disk_refused
  rw [pEq_ptr_nil, Option.isNone_some, ifV_false, pNil_ptr, pField_ptr]
  refine o.load 0 rfl rfl ?_
  unfold refE at hK
  cases hoff : s.off with
  | true => rw [hoff, if_pos rfl] at hK; exact hK
  | false =>
    rw [hoff, if_neg (by simp)] at hK
    rw [ifV_false, pBin_neq, ifV_bne]
    refine ⟨fun he => by rw [if_pos he] at hK; exact hK, fun he => ?_⟩
    rw [if_neg (fun h => h he)] at hK
    refine H.len ?_
    refine LoopH_count ys.length (fun i x h' => x.1 = I i ∧ h' = h ∧ ∀ j (hj : j < ys.length), j < i → (dlook s.now ys[j]).isSome = true) ⟨rfl, rfl, fun j hj h => by omega⟩ ?_
    rintro i ⟨x, ⟨⟩⟩ h' Z hi ⟨hx, rfl, hp⟩ hZ
    dsimp only at hx hZ ⊢
    subst hx
    unfold sh_disk_Disk_refused_L1
    rw [pBin_lss, ifV_dec]
    refine ⟨fun hlt => ?_, fun hge => ?_⟩
    · have hi' : i < ys.length := by omega
      refine H.at1 (e := fun (x : Nm) => Value.string x) (fun _ => rfl) hi' ?_
      rw [pNil_ptr, pField_ptr]
      refine o.load 0 rfl rfl ?_
      refine o.klook (Q := QS) (k := ys[i]) (ok := true) 2 rfl ?_
      rw [if_pos rfl, pExt0, pExt1]
      have : (dirF s.now ys[i]).isSome = (dlook s.now ys[i]).isSome := by unfold dirF; simp
      rw [this]
      cases hc : (dlook s.now ys[i]).isSome with
      | false =>
        rw [notF, ifV_true]
        rw [if_neg (fun h => by rw [List.all_eq_true] at h; rw [h _ (List.getElem_mem hi')] at hc; cases hc)] at hK
        exact hK
      | true =>
        rw [notT, ifV_false, pBin_add, wI i (by omega)]
        refine hZ (_, ()) _ hi' ⟨rfl, rfl, fun j hj hji => ?_⟩
        by_cases e : j = i
        · subst e; exact hc
        · exact hp j hj (by omega)
    · rw [if_pos (by
        rw [List.all_eq_true]
        intro a ha
        obtain ⟨j, hj, rfl⟩ := List.mem_iff_getElem.1 ha
        exact hp j hj (by omega))] at hK
      exact hK

theorem stepB_ok {e : Int} {dv : Value} (o : Own h0 h (dL d c s L)) (hoff : e = 0 → s.off = false) (ha : s.armed < 2 ^ 63) (hne : e ≠ 0 → K (I e) h)
    (h1 : e = 0 → s.armed = 1 → ∀ h', Own h0 h' (dL d c { s with armed := 0, off := true } L) → K (I 22) h')
    (hgo : e = 0 → s.armed ≠ 1 → ∀ h', Own h0 h' (dL d c { s with armed := s.armed - 1 } L) → callV Tryz.prog dv [].toArray h' fun _ h'' => K (I 0) h'') : callS Tryz.prog F_disk_Disk_step [ptr d, I e, dv] h K := by
  refine callS_of (lk_disk_Disk_step _ _ _ ?_)
  unfold sh_disk_Disk_step
  rw [pBin_neq, ifV_bne]
  refine ⟨hne, fun he => ?_⟩
  have hof := hoff he
  rw [pNil_ptr, pField_ptr]
  refine o.load 0 rfl rfl ?_
  rw [pBin_gtr, ifV_dec]
  refine ⟨fun hpos => ?_, fun hz => ?_⟩
  · rw [pNil_ptr, pField_ptr]
    refine o.load 0 rfl rfl ?_
    rw [pBin_sub, w64 (by omega) (by omega), show (s.armed : Int) - 1 = ((s.armed - 1 : Nat) : Int) by omega, pNil_ptr, pField_ptr]
    refine o.st1 0 (cs' := dC c { s with armed := s.armed - 1 }) rfl rfl rfl rfl rfl fun h2 o2 => ?_
    have o2 : Own h0 h2 (dL d c { s with armed := s.armed - 1 } L) := o2
    rw [pNil_ptr, pField_ptr]
    refine o2.load 0 rfl rfl ?_
    rw [pBin_eql, ifV_beq]
    dsimp only
    refine ⟨fun hz => ?_, fun hz => ?_⟩
    · have e1 : s.armed = 1 := by omega
      rw [pNil_ptr, pField_ptr]
      refine o2.st1 0 (cs' := dC c { s with armed := s.armed - 1, off := true }) rfl rfl rfl rfl rfl fun h3 o3 => ?_
      refine h1 he e1 h3 ?_
      have : s.armed - 1 = 0 := by omega
      rw [this] at o3
      exact o3
    · exact hgo he (by omega) h2 o2
  · have e0 : s.armed = 0 := by omega
    have := hgo he (by omega) h (by
      have : ({ s with armed := s.armed - 1 } : Dk) = s := by rw [e0]; cases s; simp at e0; subst e0; rfl
      rw [this]; exact o)
    exact this

end
end Go.Proofs.YtdbkeklhjjlhbaaGreat

namespace Go.Proofs.YtdbkeklhjjlhbaaGreat
open Go Go.Mh Go.RowKit
set_option linter.unusedVariables false

section
variable {P : Program} (w : World)
theorem runEqIn (d : Nat) (t k e : TypeId) (p : Option Nat) (h : P.underlying t = some (.map k e)) : (Op.equalIn (d + 1) t (.map p) (.map none)).run P w = .ok p.isNone w := by
  cases p <;> simp [Op.equalIn, run_underlying h]
theorem runEqMap (t k e : TypeId) (p : Option Nat) (h : P.underlying t = some (.map k e)) : (binOp .eql t (.map p) (.map none)).run P w = .ok (.bool p.isNone) w := by
  simp only [binOp]
  simp [show Op.equal t (.map p) (.map none) = Op.equalIn (9999 + 1) t (.map p) (.map none) from rfl, runEqIn w 9999 t k e p h]
theorem runAssMap (t xT k e : TypeId) (v : Value) (h : P.underlying t = some (.map k e)) : (Instr.typeAssert (.iface t v) xT t false).run P w = .ok v w := by
  simp [Instr.typeAssert, run_underlying h, go_sem, Result.andThen]
theorem runClone {r : Nat} {es : Array MapEntry} {clock : Nat} (t : TypeId) (hb : w.heap[r]? = some (.map es clock)) :
    (Extern.MapsClone.clone #[.iface t (.map (some r))]).run P w = .ok (.iface t (.map (some w.heap.size))) (w.alloc (.map es clock)) := by
  have e : Extern.MapsClone.clone #[.iface t (.map (some r))] = (getObj r >>= fun o => match o with
      | .map entries clock => (newObj (.map entries clock) >>= fun n => pure (.iface t (.map (some n))))
      | _ => stuck "maps.clone: a map expected") := rfl
  rw [e]
  simp [MapKept.run_getObj_map hb, Result.andThen, go_sem]
end

set_option maxHeartbeats 4000000 in
set_option maxRecDepth 100000 in
theorem mclone_calls (b : Nat) (es : Array MapEntry) (clock : Nat) (w : World) (hb : w.heap[b]? = some (.map es clock)) :
    Calls Tryz.prog F_maps_Clone_disk_directory_string_int #[.map (some b)] w fun e w' => e = .returned (.map (some w.heap.size)) ∧ w' = w.alloc (.map es clock) := by
  have mixed : Tryz.prog.follows .mixedOrders = true := by kernel_rfl
  have td : Tryz.prog.underlying T_disk_directory = some (.map T_string T_int) := by kernel_rfl
  have tb : Tryz.prog.underlying T_bool = some .bool := by kernel_rfl
  have hq := fun w => runEqMap (P := Tryz.prog) w T_disk_directory _ _ (some b) td
  go_enter Tryz.func41, (show Tryz.f41.ntmps = 9 by kernel_rfl)
  go_wp2
  rw [run_callFunc_extern Tryz.func74 (by kernel_rfl) (by kernel_rfl) (by kernel_rfl) (e := Extern.MapsClone.clone) (by kernel_rfl), runClone w _ hb]
  simp only [Result.andThen]
  rw [Oper.upon_value]
  go_wp2
  rw [runAssMap _ _ _ _ _ _ td]
  simp only [Result.andThen]
  rw [Oper.upon_value]
  go_wp2
  go_ret
  exact ⟨rfl, rfl⟩

section
variable {h0 h : Heap} {L : List Res} {K : Value → Heap → Prop} {m i : Nat} {f : Nm → Option Value}

/-- maps.Clone of a directory. -/
theorem mcloneB_ok (o : Own h0 h L) (hi : L[i]? = some (kmapR QS m f)) (hK : ∀ m' h', Own h0 h' (kmapR QS m' f :: L) → K (.map (some m')) h') : callS Tryz.prog F_maps_Clone_disk_directory_string_int [.map (some m)] h K := by
  obtain ⟨es, clock, hm, him⟩ := o.get i hi
  refine callS_of ⟨by kernel_rfl, fun w hw => ?_⟩
  subst hw
  refine (callsIn_wide.2 (mclone_calls m es clock w hm)).mono fun e w' ⟨he, hw'⟩ => ?_
  subst hw'
  refine ⟨_, he, ?_, ?_⟩
  · exact ⟨rfl, rfl, rfl⟩
  · exact hK _ _ (o.new (r := kmapR QS w.heap.size f) ⟨es, clock, push_new, him⟩ fun b hb => hb)

end
end Go.Proofs.YtdbkeklhjjlhbaaGreat

namespace Go.Proofs.YtdbkeklhjjlhbaaGreat
open Go Go.Mh
set_option linter.unusedVariables false

section
variable {h0 h : Heap} {L : List Res} {K : Value → Heap → Prop} {d i : Nat} {c : DC} {s : Dk} {B : Bx} {x : TC} {U : List Nm} {N : Nat} {a b : Nm}

/-- How a call ends whose answer is v, and behind which the disk is s. -/
def PostD (h0 : Heap) (L : List Res) (d : Nat) (B : Bx) (K : Value → Heap → Prop) (v : Value) (s : Dk) : Prop :=
  ∀ c' B' h', (∀ y ∈ B, y ∈ B') → DOk B' c' s → Own h0 h' (dL d c' s (roR B' :: L)) → K v h'

theorem PostD.mono {B2 : Bx} {v : Value} (H : PostD h0 L d B K v s) (hB : ∀ y ∈ B, y ∈ B2) : PostD h0 L d B2 K v s :=
  fun c' B' h' h1 h2 h3 => H c' B' h' (fun y hy => h1 y (hB y hy)) h2 h3

theorem sub1 {z : Nat × List Value × TypeId} : ∀ y ∈ B, y ∈ z :: B := fun _ h => List.mem_cons_of_mem _ h

theorem DOk.ar (H : DOk B c s) (n : Nat) (f : Bool) : DOk B c { s with armed := n, off := f } := ⟨H.lv, H.ch, H.nd, H.lt, H.dir, H.num⟩

theorem changeB_ok {e : Int} {x : Ch} {g : Dk → Dk} {cf : Nat} {caps : Array Value} (o : Own h0 h (dL d c s (roR B :: L))) (H : DOk B c s) (hoff : e = 0 → s.off = false) (ha : s.armed < 2 ^ 63) (hl : s.cp.length < 2 ^ 40)
    (hg : ∀ s1, (g s1).cs = s1.cs ∧ (g s1).cp = s1.cp)
    (hc : e = 0 → s.armed ≠ 1 → ∀ B1 h' K', (∀ y ∈ B, y ∈ B1) → DOk B1 c { s with armed := s.armed - 1 } → Own h0 h' (dL d c { s with armed := s.armed - 1 } (roR B1 :: L)) →
      (∀ v c2 B2 h'', (∀ y ∈ B1, y ∈ B2) → Own h0 h'' (dL d c2 (g { s with armed := s.armed - 1 }) (roR B2 :: L)) → chV B2 v x → DOk B2 c2 (g { s with armed := s.armed - 1 }) → (∀ a n, x = .mk a n → ∃ y ∈ c2.tc, y.n = n) → K' (.agg #[clv v]) h'') →
      callV Tryz.prog (.func (.func cf) #[] caps) [].toArray h' K')
    (hK : PostD h0 L d B K (I (stepD s e fun s => chD x (g s)).1) (stepD s e fun s => chD x (g s)).2) : callS Tryz.prog F_disk_Disk_change [ptr d, I e, .func (.func cf) #[] caps] h K := by
  refine callS_of (lk_disk_Disk_change _ _ _ ?_)
  unfold sh_disk_Disk_change
  refine o.box fun d3 h1 o1 => ?_
  have o1 : Own h0 h1 (dL d c s (roR ((d3, [ptr d], T_p_disk_Disk) :: B) :: L)) := o1.ro 6 rfl
  refine o1.box fun c5 h2 o2 => ?_
  have o2 : Own h0 h2 (dL d c s (roR ((c5, [.func (.func cf) #[] caps], T_func_disk_change) :: (d3, [ptr d], T_p_disk_Disk) :: B) :: L)) := o2.ro 6 rfl
  have hs2 : ∀ y ∈ B, y ∈ (c5, [.func (.func cf) #[] caps], T_func_disk_change) :: (d3, [ptr d], T_p_disk_Disk) :: B := fun y hy => List.mem_cons_of_mem _ (List.mem_cons_of_mem _ hy)
  have m5 : (c5, [.func (.func cf) #[] caps], T_func_disk_change) ∈ (c5, [.func (.func cf) #[] caps], T_func_disk_change) :: (d3, [ptr d], T_p_disk_Disk) :: B := List.mem_cons_self
  have m3 : (d3, [ptr d], T_p_disk_Disk) ∈ (c5, [.func (.func cf) #[] caps], T_func_disk_change) :: (d3, [ptr d], T_p_disk_Disk) :: B := List.mem_cons_of_mem _ List.mem_cons_self
  have H2 := H.mono hs2
  replace hK := hK.mono hs2
  generalize (c5, [.func (.func cf) #[] caps], T_func_disk_change) :: (d3, [ptr d], T_p_disk_Disk) :: B = B2 at o2 hs2 m5 m3 H2 hK
  refine o2.roLoad 6 rfl m3 rfl ?_
  unfold stepD at hK
  refine stepB_ok o2 hoff ha (fun hne => ?_) (fun he h1 h' o' => ?_) fun he hn1 h' o' => ?_
  · rw [if_pos hne] at hK
    exact hK c B2 h2 (fun _ h => h) H2 o2
  · rw [if_neg (fun h => h he), if_pos h1] at hK
    exact hK c B2 h' (fun _ h => h) (H2.ar 0 true) o'
  · rw [if_neg (fun h => h he), if_neg hn1] at hK
    dsimp only at hK
    refine callV_of (l := [ptr c5, ptr d3]) rfl (lk_disk_Disk_change_1 _ _ ?_)
    unfold sh_disk_Disk_change_1
    refine o'.roLoad 6 rfl m5 rfl ?_
    refine hc he hn1 B2 h' _ hs2 (H2.ar (s.armed - 1) s.off) o' fun v c3 B3 h3 hs3 o3 hv H3 hn => ?_
    obtain ⟨g1, g2⟩ := hg { s with armed := s.armed - 1 }
    generalize hs1 : g { s with armed := s.armed - 1 } = s1 at o3 H3 hK g1 g2
    refine o3.box fun x2 h4 o4 => ?_
    have o4 : Own h0 h4 (cellR x2 [.nilFunc] T_disk_change :: dL d c3 s1 (roR B3 :: L)) := o4
    refine o4.st (l := [clv v]) (cs' := [clv v]) 0 rfl rfl rfl rfl rfl (fun u hu => by simp at hu; subst hu; exact clv_plain v) fun h5 o5 => ?_
    have o5 : Own h0 h5 (cellR x2 [clv v] T_disk_change :: dL d c3 s1 (roR B3 :: L)) := o5
    have m3' := hs3 _ m3
    refine o5.roLoad 7 rfl m3' rfl (o5.roLoad 7 rfl m3' rfl ?_)
    rw [pNil_ptr, pField_ptr]
    refine o5.load 1 rfl rfl ?_
    refine o5.ldN (cs' := [clv v]) 0 rfl rfl rfl ?_
    have hlv : c3.vs.length = s.cp.length := H3.lv.trans (by rw [g2])
    refine o5.app1 (enc := encC) (n := 1) (T := T_disk_change) (xs := c3.vs) 5 v rfl rfl (sizesOk_of rfl) (fun _ => rfl) encC_plain rfl (by decide) (by omega) fun v' h6 o6 => ?_
    have hv' := o6.vw 5 rfl
    refine ⟨o6.roLoad 7 rfl m3' rfl rfl, ?_⟩
    rw [pNil_ptr, pField_ptr]
    refine o6.st1 1 (cs' := dC { c3 with pv := v', vs := c3.vs ++ [v] } s1) rfl rfl rfl hv'.one hv'.plain fun h7 o7 => ?_
    have o7 : Own h0 h7 (cellR x2 [clv v] T_disk_change :: cellR d (dC { c3 with pv := v', vs := c3.vs ++ [v] } s1) T_disk_Disk :: kmapR QS c3.dm (dirF (dirOf s1.cs)) :: kmapR QS c3.nm (dirF s1.now) :: kmapR QI c3.tm (thF c3.tc) :: slR encC 1 T_disk_change v' (c3.vs ++ [v]) :: sepR (tsR c3 s1) :: roR B3 :: L) := o7
    rw [pField_ptr]
    refine o7.load 0 rfl rfl ?_
    refine o7.roLoad 7 rfl m3' rfl ?_
    rw [pNil_ptr, pField_ptr]
    refine o7.load 1 rfl rfl ?_
    refine chDo o7 (i := 3) (j := 7) rfl rfl (by decide) hv fun h8 o8 => ?_
    refine hK { c3 with pv := v', vs := c3.vs ++ [v] } B3 h8 hs3 ?_ ?_
    · refine ⟨?_, fun i w y hw hy => ?_, H3.nd, H3.lt, H3.dir, fun a n hm => ?_⟩
      · show (c3.vs ++ [v]).length = (s1.cp ++ [x]).length
        rw [List.length_append, List.length_append, H3.lv]; rfl
      · have hw' : (c3.vs ++ [v])[i]? = some w := hw
        have hy' : (s1.cp ++ [x])[i]? = some y := hy
        by_cases hi : i < c3.vs.length
        · rw [List.getElem?_append_left hi] at hw'
          rw [List.getElem?_append_left (by rw [← H3.lv]; exact hi)] at hy'
          exact H3.ch i w y hw' hy'
        · rw [List.getElem?_append_right (by omega)] at hw'
          rw [List.getElem?_append_right (by rw [← H3.lv]; omega)] at hy'
          rw [List.getElem?_singleton] at hw' hy'
          split at hw' <;> split at hy' <;> simp at hw' hy'
          subst hw' hy'
          exact hv
      · rcases List.mem_append.1 (show Ch.mk a n ∈ s1.cp ++ [x] from hm) with hm | hm
        · exact H3.num a n hm
        · exact hn a n (List.mem_singleton.1 hm).symm
    · have e : (chD x s1).now = app s1.now x := by
        unfold Dk.now chD
        rw [← List.append_assoc, dirOf_snoc]
      unfold dL
      rw [e]
      exact o8.tail

theorem names1 {h : Heap} {w : Value} (o : Own h0 h (slR encS 1 T_string w [a] :: L)) (hK : K (I (namesE [a])) h) : callS Tryz.prog F_disk_names [w] h K :=
  namesB_ok (o.vw 0 rfl) (Nat.lt_of_lt_of_le (Nat.lt_succ_self 1) (by decide)) hK

theorem ref_off {e : Int} {l : List Nm} (h : refE s e l = 0) : s.off = false ∧ e = 0 ∧ ∀ a ∈ l, (dlook s.now a).isSome = true := by
  unfold refE at h
  split at h
  · exact absurd h (by decide)
  · rename_i ho
    split at h
    · rename_i he; exact absurd h he
    · rename_i he
      split at h
      · rename_i ha
        exact ⟨by simpa using ho, by omega, fun a hm => List.all_eq_true.1 ha a hm⟩
      · exact absurd h (by decide)

theorem makeB_ok (o : Own h0 h (dL d c s (roR B :: L))) (H : DOk B c s) (hI : s.Inv U N) (hN : N ≤ 1048576) (hK : PostD h0 L d B K (I (mMake s a).1) (mMake s a).2) : callS Tryz.prog F_disk_Disk_Make [ptr d, .string a] h K := by
  refine callS_of (lk_disk_Disk_Make _ _ ?_)
  unfold sh_disk_Disk_Make
  refine o.box fun d2 h1 o1 => ?_
  have o1 : Own h0 h1 (dL d c s (roR ((d2, [ptr d], T_p_disk_Disk) :: B) :: L)) := o1.ro 6 rfl
  refine o1.box fun n3 h2 o2 => ?_
  have o2 : Own h0 h2 (dL d c s (roR ((n3, [.string a], T_string) :: (d2, [ptr d], T_p_disk_Disk) :: B) :: L)) := o2.ro 6 rfl
  have hs2 : ∀ y ∈ B, y ∈ (n3, [.string a], T_string) :: (d2, [ptr d], T_p_disk_Disk) :: B := fun y hy => List.mem_cons_of_mem _ (List.mem_cons_of_mem _ hy)
  have mn : (n3, [.string a], T_string) ∈ (n3, [.string a], T_string) :: (d2, [ptr d], T_p_disk_Disk) :: B := List.mem_cons_self
  have md : (d2, [ptr d], T_p_disk_Disk) ∈ (n3, [.string a], T_string) :: (d2, [ptr d], T_p_disk_Disk) :: B := List.mem_cons_of_mem _ List.mem_cons_self
  replace H := H.mono hs2
  replace hK := hK.mono hs2
  generalize (n3, [.string a], T_string) :: (d2, [ptr d], T_p_disk_Disk) :: B = B2 at o2 hs2 mn md H hK
  refine o2.roLoad 6 rfl md rfl (o2.roLoad 6 rfl md rfl (o2.roLoad 6 rfl mn rfl ?_))
  refine o2.build (enc := encS) (n := 1) [a] rfl (sizesOk_of rfl) rfl fun w h3 o3 => ?_
  refine names1 o3 ?_
  refine ⟨o3.roLoad 7 rfl md rfl rfl, o3.roLoad 7 rfl md rfl rfl, ?_⟩
  have o3 := o3.tail
  refine refusedB_ok o3 (ys := []) Vw.nil (by decide) ?_
  refine ⟨o3.roLoad 6 rfl md rfl rfl, ?_⟩
  have hlc := hI.lc
  rw [List.length_append] at hlc
  refine changeB_ok (x := .mk a s.th.length) (g := fun s => { s with th := s.th ++ [⟨[], []⟩] }) o3 H (fun he => (ref_off he).1) hI.ar (by omega) (fun s1 => ⟨rfl, rfl⟩) (fun he hn B3 h4 K' hs3 H3 o4 hk => ?_) ?_
  · refine callV_of (l := [ptr d2, ptr n3]) rfl (lk_disk_Disk_Make_1 _ _ ?_)
    unfold sh_disk_Disk_Make_1
    refine o4.box fun t2 h5 o5 => ?_
    have o5 : Own h0 h5 (cellR t2 [.nilFunc] T_disk_change :: dL d c { s with armed := s.armed - 1 } (roR B3 :: L)) := o5
    have md3 := hs3 _ md
    have mn3 := hs3 _ mn
    refine o5.roLoad 7 rfl md3 rfl ?_
    rw [pNil_ptr, pField_ptr]
    refine o5.load 1 rfl rfl ?_
    refine o5.box fun n5 h6 o6 => ?_
    have o6 : Own h0 h6 (cellR n5 [I 0] T_int :: cellR t2 [.nilFunc] T_disk_change :: dL d c { s with armed := s.armed - 1 } (roR B3 :: L)) := o6
    refine o6.st1 0 (cs' := [I s.th.length]) rfl rfl rfl rfl rfl fun h7 o7 => ?_
    have o7 : Own h0 h7 (cellR n5 [I s.th.length] T_int :: cellR t2 [.nilFunc] T_disk_change :: dL d c { s with armed := s.armed - 1 } (roR B3 :: L)) := o7
    have o7 : Own h0 h7 (cellR t2 [.nilFunc] T_disk_change :: dL d c { s with armed := s.armed - 1 } (roR ((n5, [I s.th.length], T_int) :: B3) :: L)) := o7.ro 7 rfl
    have mn5 : (n5, [I s.th.length], T_int) ∈ (n5, [I s.th.length], T_int) :: B3 := List.mem_cons_self
    have hs4 : ∀ y ∈ B3, y ∈ (n5, [I s.th.length], T_int) :: B3 := sub1
    generalize (n5, [I s.th.length], T_int) :: B3 = B4 at o7 mn5 hs4
    have md4 := hs4 _ md3
    have mn4 := hs4 _ mn3
    refine o7.roLoad 7 rfl md4 rfl ?_
    rw [pNil_ptr, pField_ptr]
    refine o7.load 1 rfl rfl ?_
    have hlt := hI.lt
    rw [pBin_add, wI s.th.length (by omega), pNil_ptr, pField_ptr]
    refine o7.st1 1 (cs' := [.map (some c.dm), .map (some c.nm), .map (some c.tm), c.pv, I ((s.th.length + 1 : Nat) : Int), I ((s.armed - 1 : Nat) : Int), .bool s.off]) rfl rfl rfl rfl rfl fun h8 o8 => ?_
    have o8 : Own h0 h8 (cellR t2 [.nilFunc] T_disk_change :: cellR d [.map (some c.dm), .map (some c.nm), .map (some c.tm), c.pv, I ((s.th.length + 1 : Nat) : Int), I ((s.armed - 1 : Nat) : Int), .bool s.off] T_disk_Disk :: kmapR QS c.dm (dirF (dirOf s.cs)) :: kmapR QS c.nm (dirF s.now) :: kmapR QI c.tm (thF c.tc) :: slR encC 1 T_disk_change c.pv c.vs :: sepR (tsR c s) :: roR B4 :: L) := o8
    refine o8.roLoad 7 rfl md4 rfl ?_
    rw [pNil_ptr, pField_ptr]
    refine o8.load 1 rfl rfl ?_
    refine o8.roLoad 7 rfl mn5 rfl ?_
    refine ⟨sizesOk_of rfl, ?_⟩
    refine o8.box fun t9 h9 o9 => ?_
    have o9 : Own h0 h9 (cellR t9 [.slice none 0 0, .slice none 0 0] T_disk_thing :: cellR t2 [.nilFunc] T_disk_change :: cellR d [.map (some c.dm), .map (some c.nm), .map (some c.tm), c.pv, I ((s.th.length + 1 : Nat) : Int), I ((s.armed - 1 : Nat) : Int), .bool s.off] T_disk_Disk :: kmapR QS c.dm (dirF (dirOf s.cs)) :: kmapR QS c.nm (dirF s.now) :: kmapR QI c.tm (thF c.tc) :: slR encC 1 T_disk_change c.pv c.vs :: sepR (tsR c s) :: roR B4 :: L) := o9
    refine o9.kput (Q := QI) (k := (s.th.length : Int)) (f' := thF (c.tc ++ [⟨s.th.length, t9, .slice none 0 0, .slice none 0 0⟩])) 5 rfl (fun y => ?_) fun h10 o10 => ?_
    · unfold KM.fset thF
      rw [List.find?_append]
      by_cases e : y = (s.th.length : Int)
      · subst e
        rw [if_pos rfl]
        have : c.tc.find? (fun x => decide ((x.n : Int) = (s.th.length : Int))) = none := by
          rw [List.find?_eq_none]
          intro x hx
          have := H.lt x hx
          simp; omega
        rw [this]
        simp
      · rw [if_neg e]
        have : List.find? (fun x : TC => decide ((x.n : Int) = y)) [⟨s.th.length, t9, .slice none 0 0, .slice none 0 0⟩] = none := by
          rw [List.find?_eq_none]
          intro x hx
          rw [List.mem_singleton.1 hx]
          simpa using fun h => e h.symm
        rw [this, Option.or_none]
    · refine ⟨sizesOk_of rfl, ?_⟩
      refine o10.st (l := [clv (.mk n5 n3)]) (cs' := [clv (.mk n5 n3)]) 1 rfl rfl rfl rfl rfl (fun u hu => by simp at hu; subst hu; rfl) fun h11 o11 => ?_
      refine o11.ldN (cs' := [clv (.mk n5 n3)]) 1 rfl rfl rfl ?_
      have o11 : Own h0 h11 (cellR t9 [.slice none 0 0, .slice none 0 0] T_disk_thing :: cellR t2 [clv (.mk n5 n3)] T_disk_change :: cellR d [.map (some c.dm), .map (some c.nm), .map (some c.tm), c.pv, I ((s.th.length + 1 : Nat) : Int), I ((s.armed - 1 : Nat) : Int), .bool s.off] T_disk_Disk :: kmapR QS c.dm (dirF (dirOf s.cs)) :: kmapR QS c.nm (dirF s.now) :: kmapR QI c.tm (thF (c.tc ++ [⟨s.th.length, t9, .slice none 0 0, .slice none 0 0⟩])) :: slR encC 1 T_disk_change c.pv c.vs :: sepR (tsR c s) :: roR B4 :: L) := o11
      refine hk (.mk n5 n3) { c with tc := c.tc ++ [⟨s.th.length, t9, .slice none 0 0, .slice none 0 0⟩] } B4 h11 hs4 ?_ ⟨n5, n3, rfl, mn5, mn4⟩ ?_ ?_
      · have a1 : Own h0 h11 (sepR [cellR t9 [.slice none 0 0, .slice none 0 0] T_disk_thing, slR encB8 1 T_uint8 (.slice none 0 0) [], slR encW 2 T_disk_write (.slice none 0 0) []] :: _) :=
          Own.sep (l := [_, _, _]) (Own.nilS (enc := encB8) (n := 1) (T := T_uint8) (Own.nilS (enc := encW) (n := 2) (T := T_disk_write) o11.swap.tail).swap).swap
        have a2 : Own h0 h11 ((tsR c s ++ [sepR [cellR t9 [.slice none 0 0, .slice none 0 0] T_disk_thing, slR encB8 1 T_uint8 (.slice none 0 0) [], slR encW 2 T_disk_write (.slice none 0 0) []]]) ++ (cellR d [.map (some c.dm), .map (some c.nm), .map (some c.tm), c.pv, I ((s.th.length + 1 : Nat) : Int), I ((s.armed - 1 : Nat) : Int), .bool s.off] T_disk_Disk :: kmapR QS c.dm (dirF (dirOf s.cs)) :: kmapR QS c.nm (dirF s.now) :: kmapR QI c.tm (thF (c.tc ++ [⟨s.th.length, t9, .slice none 0 0, .slice none 0 0⟩])) :: slR encC 1 T_disk_change c.pv c.vs :: nilR :: roR B4 :: L)) := by
          have := a1.out 6 rfl
          rw [List.append_assoc]; exact this
        have a3 := a2.back 5 rfl
        have e1 : tsR { c with tc := c.tc ++ [⟨s.th.length, t9, .slice none 0 0, .slice none 0 0⟩] } { s with armed := s.armed - 1, th := s.th ++ [⟨[], []⟩] } = tsR c s ++ [sepR [cellR t9 [.slice none 0 0, .slice none 0 0] T_disk_thing, slR encB8 1 T_uint8 (.slice none 0 0) [], slR encW 2 T_disk_write (.slice none 0 0) []]] := by
          unfold tsR
          dsimp only
          rw [List.map_append]
          congr 1
          · refine List.map_congr_left fun y hy => ?_
            have := H.lt y hy
            have eg : ({ s with armed := s.armed - 1, th := s.th ++ [⟨[], []⟩] } : Dk).getT y.n = s.getT y.n := by
              unfold Dk.getT
              simp only [List.getD_eq_getElem?_getD]
              rw [List.getElem?_append_left this]
            unfold tRs
            rw [eg]
          · have eg : ({ s with armed := s.armed - 1, th := s.th ++ [⟨[], []⟩] } : Dk).getT s.th.length = ⟨[], []⟩ := by
              unfold Dk.getT
              simp only [List.getD_eq_getElem?_getD]
              rw [List.getElem?_append_right (Nat.le_refl _), Nat.sub_self]; rfl
            simp only [List.map_cons, List.map_nil]
            unfold tRs
            dsimp only
            rw [eg]
            rfl
        have e2 : dC { c with tc := c.tc ++ [⟨s.th.length, t9, .slice none 0 0, .slice none 0 0⟩] } { s with armed := s.armed - 1, th := s.th ++ [⟨[], []⟩] } = [.map (some c.dm), .map (some c.nm), .map (some c.tm), c.pv, I ((s.th.length + 1 : Nat) : Int), I ((s.armed - 1 : Nat) : Int), .bool s.off] := by
          unfold dC; simp
        unfold dL
        rw [e1, e2]
        exact a3
      · refine ⟨H.lv, (H.mono hs3 |>.mono hs4).ch, ?_, fun y hy => ?_, fun y hy => ?_, fun a' n' hm => ?_⟩
        · show (List.map TC.n (c.tc ++ [_])).Nodup
          rw [List.map_append, List.nodup_append]
          refine ⟨H.nd, by simp, fun p hp q hq e => ?_⟩
          obtain ⟨y, hy, rfl⟩ := List.mem_map.1 hp
          have := H.lt y hy
          simp at hq
          omega
        · show y.n < (s.th ++ [_]).length
          rw [List.length_append]
          rcases List.mem_append.1 hy with hy | hy
          · have := H.lt y hy; simp; omega
          · rw [List.mem_singleton.1 hy]; simp
        · obtain ⟨x, hx, e⟩ := H.dir y hy; exact ⟨x, List.mem_append_left _ hx, e⟩
        · obtain ⟨x, hx, e⟩ := H.num a' n' hm; exact ⟨x, List.mem_append_left _ hx, e⟩
      · rintro a' n' e
        cases e
        exact ⟨_, List.mem_append_right _ (List.mem_singleton.2 rfl), rfl⟩
  · exact hK

end
end Go.Proofs.YtdbkeklhjjlhbaaGreat

namespace Go.Proofs.YtdbkeklhjjlhbaaGreat
open Go Go.Mh
set_option linter.unusedVariables false

section
variable {h0 h : Heap} {L : List Res} {K : Value → Heap → Prop} {d i : Nat} {c : DC} {s : Dk} {B : Bx} {x : TC} {U : List Nm} {N : Nat} {a b : Nm}

theorem renameB_ok (o : Own h0 h (dL d c s (roR B :: L))) (H : DOk B c s) (hI : s.Inv U N) (hN : N ≤ 1048576) (hK : PostD h0 L d B K (I (mRename s a b).1) (mRename s a b).2) : callS Tryz.prog F_disk_Disk_Rename [ptr d, .string a, .string b] h K := by
  refine callS_of (lk_disk_Disk_Rename _ _ _ ?_)
  unfold sh_disk_Disk_Rename
  refine o.box fun f4 h1 o1 => ?_
  have o1 : Own h0 h1 (dL d c s (roR ((f4, [.string a], T_string) :: B) :: L)) := o1.ro 6 rfl
  refine o1.box fun n5 h2 o2 => ?_
  have o2 : Own h0 h2 (dL d c s (roR ((n5, [.string b], T_string) :: (f4, [.string a], T_string) :: B) :: L)) := o2.ro 6 rfl
  have hs2 : ∀ y ∈ B, y ∈ (n5, [.string b], T_string) :: (f4, [.string a], T_string) :: B := fun y hy => List.mem_cons_of_mem _ (List.mem_cons_of_mem _ hy)
  have mb : (n5, [.string b], T_string) ∈ (n5, [.string b], T_string) :: (f4, [.string a], T_string) :: B := List.mem_cons_self
  have ma : (f4, [.string a], T_string) ∈ (n5, [.string b], T_string) :: (f4, [.string a], T_string) :: B := List.mem_cons_of_mem _ List.mem_cons_self
  replace H := H.mono hs2
  replace hK := hK.mono hs2
  generalize (n5, [.string b], T_string) :: (f4, [.string a], T_string) :: B = B2 at o2 hs2 ma mb H hK
  refine cutP_of (fun y h' => K y.1 h') (fun J hJ => ?_) (fun y h' hk => hk)
  have hKJ : PostD h0 L d B2 (fun v h' => J (v, ()) h') (I (mRename s a b).1) (mRename s a b).2 := fun c' B' h' h1 h2 h3 => hJ _ _ (hK c' B' h' h1 h2 h3)
  have hlc := hI.lc
  rw [List.length_append] at hlc
  have tail : ∀ (h' : Heap) (w : Value), Own h0 h' (dL d c s (roR B2 :: L)) → Vw encS 1 h' w [a] →
      callS Tryz.prog F_disk_Disk_refused [ptr d, I (namesE [a, b]), w] h' fun t15 h_6 => callS Tryz.prog F_disk_Disk_change [ptr d, t15, .func (.func F_disk_Disk_Rename_1) #[] #[ptr f4, ptr n5]] h_6 fun t17 h_7 => J (t17, ()) h_7 := by
    intro h' w o' hw
    refine refusedB_ok o' hw (by simp) ?_
    refine changeB_ok (x := .ren a b) (g := fun s => s) o' H (fun he => (ref_off he).1) hI.ar (by omega) (fun s1 => ⟨rfl, rfl⟩) (fun he hn B3 h4 K' hs3 H3 o4 hk => ?_) hKJ
    refine callV_of (l := [ptr f4, ptr n5]) rfl (lk_disk_Disk_Rename_1 _ _ ?_)
    unfold sh_disk_Disk_Rename_1
    refine o4.box fun t2 h5 o5 => ?_
    have o5 : Own h0 h5 (cellR t2 [.nilFunc] T_disk_change :: dL d c { s with armed := s.armed - 1 } (roR B3 :: L)) := o5
    refine ⟨sizesOk_of rfl, ?_⟩
    refine o5.st (l := [clv (.ren f4 n5)]) (cs' := [clv (.ren f4 n5)]) 0 rfl rfl rfl rfl rfl (fun u hu => by simp at hu; subst hu; rfl) fun h11 o11 => ?_
    refine o11.ldN (cs' := [clv (.ren f4 n5)]) 0 rfl rfl rfl ?_
    exact hk (.ren f4 n5) c B3 h11 (fun _ h => h) o11.tail ⟨f4, n5, rfl, hs3 _ ma, hs3 _ mb⟩ H3 (fun _ _ e => by cases e)
  refine o2.roLoad 6 rfl ma rfl (o2.roLoad 6 rfl mb rfl (o2.roLoad 6 rfl ma rfl ?_))
  refine ⟨?_, ?_⟩
  · refine o2.build (enc := encS) (n := 1) [a, b] rfl (sizesOk_of rfl) rfl fun w h3 o3 => ⟨?_, ?_⟩
    · refine namesB_ok (o3.vw 0 rfl) (by simp) ⟨o3.roLoad 7 rfl ma rfl rfl, ?_⟩
      refine o3.build (enc := encS) (n := 1) [a] rfl (sizesOk_of rfl) rfl fun w' h4 o4 => ?_
      exact tail h4 w' o4.tail.tail (o4.vw 0 rfl)
    · refine o3.build (enc := encS) (n := 1) [a] rfl (sizesOk_of rfl) rfl fun w' h4 o4 => ?_
      exact namesB_ok (o4.vw 1 rfl) (by simp) (tail h4 w' o4.tail.tail (o4.vw 0 rfl))
  · refine o2.build (enc := encS) (n := 1) [a] rfl (sizesOk_of rfl) rfl fun w' h3 o3 => ?_
    refine o3.build (enc := encS) (n := 1) [a, b] rfl (sizesOk_of rfl) rfl fun w h4 o4 => ?_
    exact namesB_ok (o4.vw 0 rfl) (by simp) (tail h4 w' o4.tail.tail (o4.vw 1 rfl))

theorem removeB_ok (o : Own h0 h (dL d c s (roR B :: L))) (H : DOk B c s) (hI : s.Inv U N) (hN : N ≤ 1048576) (hK : PostD h0 L d B K (I (mRemove s a).1) (mRemove s a).2) : callS Tryz.prog F_disk_Disk_Remove [ptr d, .string a] h K := by
  refine callS_of (lk_disk_Disk_Remove _ _ ?_)
  unfold sh_disk_Disk_Remove
  refine o.box fun f4 h1 o1 => ?_
  have o2 : Own h0 h1 (dL d c s (roR ((f4, [.string a], T_string) :: B) :: L)) := o1.ro 6 rfl
  have hs2 : ∀ y ∈ B, y ∈ (f4, [.string a], T_string) :: B := sub1
  have ma : (f4, [.string a], T_string) ∈ (f4, [.string a], T_string) :: B := List.mem_cons_self
  replace H := H.mono hs2
  replace hK := hK.mono hs2
  generalize (f4, [.string a], T_string) :: B = B2 at o2 hs2 ma H hK
  refine cutP_of (fun y h' => K y.1 h') (fun J hJ => ?_) (fun y h' hk => hk)
  have hKJ : PostD h0 L d B2 (fun v h' => J (v, ()) h') (I (mRemove s a).1) (mRemove s a).2 := fun c' B' h' h1 h2 h3 => hJ _ _ (hK c' B' h' h1 h2 h3)
  have hlc := hI.lc
  rw [List.length_append] at hlc
  have tail : ∀ (h' : Heap) (w : Value), Own h0 h' (dL d c s (roR B2 :: L)) → Vw encS 1 h' w [a] →
      callS Tryz.prog F_disk_Disk_refused [ptr d, I (namesE [a]), w] h' fun t15 h_6 => callS Tryz.prog F_disk_Disk_change [ptr d, t15, .func (.func F_disk_Disk_Remove_1) #[] #[ptr f4]] h_6 fun t17 h_7 => J (t17, ()) h_7 := by
    intro h' w o' hw
    refine refusedB_ok o' hw (by simp) ?_
    refine changeB_ok (x := .rem a) (g := fun s => s) o' H (fun he => (ref_off he).1) hI.ar (by omega) (fun s1 => ⟨rfl, rfl⟩) (fun he hn B3 h4 K' hs3 H3 o4 hk => ?_) hKJ
    refine callV_of (l := [ptr f4]) rfl (lk_disk_Disk_Remove_1 _ ?_)
    unfold sh_disk_Disk_Remove_1
    refine o4.box fun t2 h5 o5 => ?_
    have o5 : Own h0 h5 (cellR t2 [.nilFunc] T_disk_change :: dL d c { s with armed := s.armed - 1 } (roR B3 :: L)) := o5
    refine ⟨sizesOk_of rfl, ?_⟩
    refine o5.st (l := [clv (.rem f4)]) (cs' := [clv (.rem f4)]) 0 rfl rfl rfl rfl rfl (fun u hu => by simp at hu; subst hu; rfl) fun h11 o11 => ?_
    refine o11.ldN (cs' := [clv (.rem f4)]) 0 rfl rfl rfl ?_
    exact hk (.rem f4) c B3 h11 (fun _ h => h) o11.tail ⟨f4, rfl, hs3 _ ma⟩ H3 (fun _ _ e => by cases e)
  refine o2.roLoad 6 rfl ma rfl (o2.roLoad 6 rfl ma rfl ?_)
  refine ⟨?_, ?_⟩
  · refine o2.build (enc := encS) (n := 1) [a] rfl (sizesOk_of rfl) rfl fun w h3 o3 => ⟨?_, ?_⟩
    · refine namesB_ok (o3.vw 0 rfl) (by simp) ⟨o3.roLoad 7 rfl ma rfl rfl, ?_⟩
      refine o3.build (enc := encS) (n := 1) [a] rfl (sizesOk_of rfl) rfl fun w' h4 o4 => ?_
      exact tail h4 w' o4.tail.tail (o4.vw 0 rfl)
    · refine o3.build (enc := encS) (n := 1) [a] rfl (sizesOk_of rfl) rfl fun w' h4 o4 => ?_
      exact namesB_ok (o4.vw 1 rfl) (by simp) (tail h4 w' o4.tail.tail (o4.vw 0 rfl))
  · refine o2.build (enc := encS) (n := 1) [a] rfl (sizesOk_of rfl) rfl fun w' h3 o3 => ?_
    refine o3.build (enc := encS) (n := 1) [a] rfl (sizesOk_of rfl) rfl fun w h4 o4 => ?_
    exact namesB_ok (o4.vw 0 rfl) (by simp) (tail h4 w' o4.tail.tail (o4.vw 1 rfl))

/-- What a name points to, as the program asks. -/
theorem look_now {n : Nat} {z : Value} {K : Value → Prop} (o : Own h0 h (dL d c s L)) (hn : dlook s.now a = some n) (hK : K (I n)) : pLook .string z false h (.map (some c.nm)) (.string a) K := by
  refine o.klook (Q := QS) (k := a) (ok := false) 2 rfl ?_
  have : dirF s.now a = some (I n) := by unfold dirF; rw [hn]; rfl
  rw [this]; exact hK

theorem look_th {z : Value} {K : Value → Prop} (o : Own h0 h (dL d c s L)) (H : DOk B c s) (hx : c.tc[i]? = some x) (hK : K (ptr x.b)) : pLook (.int .i64) z false h (.map (some c.tm)) (I x.n) K := by
  refine o.klook (Q := QI) (k := (x.n : Int)) (ok := false) 3 rfl ?_
  rw [thF_at H hx]; exact hK

theorem th_mem {n : Nat} (hn : n < s.th.length) : s.getT n ∈ s.th := by
  unfold Dk.getT
  rw [List.getD_eq_getElem?_getD, List.getElem?_eq_getElem hn]
  exact List.getElem_mem hn

theorem bytes_len {l : List Wr} (hw : ∀ w ∈ l, w.off + w.s.size ≤ 1048576) : (bytesOf l).length ≤ 1048576 := by
  have bnd : ∀ (l : List Wr) (b : List UInt8), b.length ≤ 1048576 → (∀ w ∈ l, w.off + w.s.size ≤ 1048576) → (l.foldl putW b).length ≤ 1048576 := by
    intro l
    induction l with
    | nil => intro b hb _; exact hb
    | cons w l ih =>
      intro b hb hw
      refine ih _ ?_ fun x hx => hw x (List.mem_cons_of_mem _ hx)
      have := hw w List.mem_cons_self
      rw [putW_len]; omega
  exact bnd l [] (by simp) hw

/-- All bytes of a thing of a disk. -/
theorem seenD_ok {L' : List Res} (o : Own h0 h (dL d c s L)) (H : DOk B c s) (hI : s.Inv U N) (hN : N ≤ 1048576) (hx : c.tc[i]? = some x) (hK : ∀ v h', Own h h' [slR encB8 1 T_uint8 v (bytesOf (s.getT x.n).all)] → K v h') : callS Tryz.prog F_disk_thing_seen [ptr x.b] h K := by
  obtain ⟨f1, f2, f3⟩ := dL_facts o hx
  have hm := th_mem (s := s) (H.lt x (List.mem_of_getElem? hx))
  have hw := hI.wr _ hm
  have hl := hI.lw _ hm
  unfold Th.all at hw hl
  rw [List.length_append] at hl
  refine seenB_ok f1 f2 f3 (bytes_len fun w hw' => hw w (List.mem_append_left _ hw')) (by omega) (fun w hw' => hw w (List.mem_append_right _ hw')) fun v h' o' => hK v h' ?_
  unfold Th.all bytesOf
  rw [List.foldl_append]
  exact o'

theorem syncB_ok (o : Own h0 h (dL d c s (roR B :: L))) (H : DOk B c s) (hI : s.Inv U N) (hN : N ≤ 1048576) (hK : PostD h0 L d B K (I (mSync s a).1) (mSync s a).2) : callS Tryz.prog F_disk_Disk_Sync [ptr d, .string a] h K := by
  refine callS_of (lk_disk_Disk_Sync _ _ ?_)
  unfold sh_disk_Disk_Sync
  refine o.box fun d2 h1 o1 => ?_
  have o1 : Own h0 h1 (dL d c s (roR ((d2, [ptr d], T_p_disk_Disk) :: B) :: L)) := o1.ro 6 rfl
  refine o1.box fun n3 h2 o2 => ?_
  have o2 : Own h0 h2 (dL d c s (roR ((n3, [.string a], T_string) :: (d2, [ptr d], T_p_disk_Disk) :: B) :: L)) := o2.ro 6 rfl
  have hs2 : ∀ y ∈ B, y ∈ (n3, [.string a], T_string) :: (d2, [ptr d], T_p_disk_Disk) :: B := fun y hy => List.mem_cons_of_mem _ (List.mem_cons_of_mem _ hy)
  have mn : (n3, [.string a], T_string) ∈ (n3, [.string a], T_string) :: (d2, [ptr d], T_p_disk_Disk) :: B := List.mem_cons_self
  have md : (d2, [ptr d], T_p_disk_Disk) ∈ (n3, [.string a], T_string) :: (d2, [ptr d], T_p_disk_Disk) :: B := List.mem_cons_of_mem _ List.mem_cons_self
  replace H := H.mono hs2
  replace hK := hK.mono hs2
  generalize (n3, [.string a], T_string) :: (d2, [ptr d], T_p_disk_Disk) :: B = B2 at o2 hs2 mn md H hK
  refine cutP_of (fun y h' => K y.1 h') (fun J hJ => ?_) (fun y h' hk => hk)
  have hKJ : PostD h0 L d B2 (fun v h' => J (v, ()) h') (I (mSync s a).1) (mSync s a).2 := fun c' B' h' h1 h2 h3 => hJ _ _ (hK c' B' h' h1 h2 h3)
  have tail : ∀ (h' : Heap) (w : Value), Own h0 h' (dL d c s (roR B2 :: L)) → Vw encS 1 h' w [a] →
      callS Tryz.prog F_disk_Disk_refused [ptr d, I (namesE [a]), w] h' fun t12 h_6 => (pLoad h_6 (ptr d2) fun t5_2 => t5_2 = ptr d) ∧ (callS Tryz.prog F_disk_Disk_step [ptr d, t12, .func (.func F_disk_Disk_Sync_1) #[] #[ptr d2, ptr n3]] h_6 fun t14 h_7 => J (t14, ()) h_7) := by
    intro h' w o' hw
    refine refusedB_ok o' hw (by simp) ⟨o'.roLoad 6 rfl md rfl rfl, ?_⟩
    unfold mSync stepD at hKJ
    refine stepB_ok o' (fun he => (ref_off he).1) hI.ar (fun hne => ?_) (fun he h1 h3 o3 => ?_) fun he hn1 h3 o3 => ?_
    · rw [if_pos hne] at hKJ
      exact hKJ c B2 h' (fun _ h => h) H o'
    · rw [if_neg (fun h => h he), if_pos h1] at hKJ
      exact hKJ c B2 h3 (fun _ h => h) (H.ar 0 true) o3
    · rw [if_neg (fun h => h he), if_neg hn1] at hKJ
      dsimp only at hKJ
      obtain ⟨_, _, ht⟩ := ref_off he
      obtain ⟨n, hn⟩ := Option.isSome_iff_exists.1 (ht a List.mem_cons_self)
      obtain ⟨i, x, hx, rfl⟩ := dOk_now H hI.ok hn
      have hn' : dlook ({ s with armed := s.armed - 1 } : Dk).now a = some x.n := hn
      unfold upT at hKJ
      rw [hn'] at hKJ
      dsimp only at hKJ
      have H3 := H.ar (s.armed - 1) s.off
      refine callV_of (l := [ptr d2, ptr n3]) rfl (lk_disk_Disk_Sync_1 _ _ ?_)
      unfold sh_disk_Disk_Sync_1
      refine o3.roLoad 6 rfl md rfl ?_
      rw [pNil_ptr, pField_ptr]
      refine o3.load 0 rfl rfl (o3.roLoad 6 rfl md rfl ?_)
      rw [pNil_ptr, pField_ptr]
      refine o3.load 0 rfl rfl (o3.roLoad 6 rfl mn rfl ?_)
      refine look_now o3 hn' (look_th o3 H3 hx ?_)
      have hI3 : ({ s with armed := s.armed - 1 } : Dk).Inv U N := ⟨hI.nm, hI.num, hI.ok, hI.inj, by have := hI.ar; show s.armed - 1 < _; omega, hI.lc, hI.lt, hI.lw, hI.wr⟩
      refine seenD_ok (L' := L) o3 H3 hI3 hN hx fun v h4 o4 => ?_
      have o5 := (dL_out o3 hx).frame o4
      have o5 : Own h0 h4 (slR encB8 1 T_uint8 v (bytesOf (({ s with armed := s.armed - 1 } : Dk).getT x.n).all) :: cellR x.b [x.dv, x.wv] T_disk_thing :: slR encB8 1 T_uint8 x.dv (bytesOf (s.getT x.n).syn) :: slR encW 2 T_disk_write x.wv (s.getT x.n).pen :: ((tsR c { s with armed := s.armed - 1 }).set i nilR ++ dN d c { s with armed := s.armed - 1 } nilR (roR B2 :: L))) := o5
      have hv := o5.vw 0 rfl
      rw [pNil_ptr, pField_ptr]
      refine o5.st1 1 (cs' := [v, x.wv]) rfl rfl rfl hv.one hv.plain fun h6 o6 => ?_
      rw [pNil_ptr, pField_ptr]
      refine o6.st1 1 (cs' := [v, .slice none 0 0]) rfl rfl rfl rfl rfl fun h7 o7 => ?_
      have o7 : Own h0 h7 (slR encB8 1 T_uint8 v (bytesOf (({ s with armed := s.armed - 1 } : Dk).getT x.n).all) :: cellR x.b [v, .slice none 0 0] T_disk_thing :: slR encB8 1 T_uint8 x.dv (bytesOf (s.getT x.n).syn) :: slR encW 2 T_disk_write x.wv (s.getT x.n).pen :: ((tsR c { s with armed := s.armed - 1 }).set i nilR ++ dN d c { s with armed := s.armed - 1 } nilR (roR B2 :: L))) := o7
      have o8 := Own.nilS (enc := encW) (n := 2) (T := T_disk_write) (o7.front 4 [1, 0] (by decide) (by decide))
      have o9 : Own h0 h7 (cellR x.b [v, .slice none 0 0] T_disk_thing :: slR encB8 1 T_uint8 v (bytesOf (({ s with armed := s.armed - 1 } : Dk).getT x.n).all) :: slR encW 2 T_disk_write (.slice none 0 0) [] :: ((tsR c { s with armed := s.armed - 1 }).set i nilR ++ dN d c { s with armed := s.armed - 1 } nilR (roR B2 :: L))) := o8.front 3 [1, 2, 0] (by decide) (by decide)
      have o10 := dL_mod (f := fun t => ⟨t.all, []⟩) H3 hx o9
      exact hKJ _ B2 h7 (fun _ h => h) (H3.modT hx) o10
  refine o2.roLoad 6 rfl md rfl (o2.roLoad 6 rfl md rfl (o2.roLoad 6 rfl mn rfl (o2.roLoad 6 rfl mn rfl ?_)))
  refine ⟨?_, ?_⟩
  · refine o2.build (enc := encS) (n := 1) [a] rfl (sizesOk_of rfl) rfl fun w h3 o3 => ⟨?_, ?_⟩
    · refine namesB_ok (o3.vw 0 rfl) (by simp) ⟨o3.roLoad 7 rfl md rfl rfl, o3.roLoad 7 rfl md rfl rfl, o3.roLoad 7 rfl mn rfl rfl, ?_⟩
      refine o3.build (enc := encS) (n := 1) [a] rfl (sizesOk_of rfl) rfl fun w' h4 o4 => ?_
      exact tail h4 w' o4.tail.tail (o4.vw 0 rfl)
    · refine o3.build (enc := encS) (n := 1) [a] rfl (sizesOk_of rfl) rfl fun w' h4 o4 => ?_
      exact namesB_ok (o4.vw 1 rfl) (by simp) ⟨o4.roLoad 8 rfl md rfl rfl, o4.roLoad 8 rfl md rfl rfl, tail h4 w' o4.tail.tail (o4.vw 0 rfl)⟩
  · refine o2.build (enc := encS) (n := 1) [a] rfl (sizesOk_of rfl) rfl fun w' h3 o3 => ?_
    refine o3.build (enc := encS) (n := 1) [a] rfl (sizesOk_of rfl) rfl fun w h4 o4 => ?_
    exact namesB_ok (o4.vw 0 rfl) (by simp) ⟨o4.roLoad 8 rfl md rfl rfl, o4.roLoad 8 rfl md rfl rfl, tail h4 w' o4.tail.tail (o4.vw 1 rfl)⟩

end
end Go.Proofs.YtdbkeklhjjlhbaaGreat

namespace Go.Proofs.YtdbkeklhjjlhbaaGreat
open Go Go.Mh
set_option linter.unusedVariables false

section
variable {h0 h : Heap} {L : List Res} {K : Value → Heap → Prop} {d i : Nat} {c : DC} {s : Dk} {B : Bx} {x : TC} {U : List Nm} {N : Nat} {a b : Nm}

theorem Dk.Inv.arm (hI : s.Inv U N) : ({ s with armed := s.armed - 1 } : Dk).Inv U N :=
  ⟨hI.nm, hI.num, hI.ok, hI.inj, by have := hI.ar; show s.armed - 1 < _; omega, hI.lc, hI.lt, hI.lw, hI.wr⟩

theorem writeB_ok {z : Int} {w : ByteArray} (o : Own h0 h (dL d c s (roR B :: L))) (H : DOk B c s) (hI : s.Inv U N) (hN : N ≤ 1048576) (hz : -9223372036854775808 ≤ z ∧ z ≤ 9223372036854775807) (hw : w.size ≤ 1048576) (hK : PostD h0 L d B K (I (mWrite s a z w).1) (mWrite s a z w).2) : callS Tryz.prog F_disk_Disk_Write [ptr d, .string a, I z, .string w] h K := by
  refine callS_of (lk_disk_Disk_Write _ _ _ _ ?_)
  unfold sh_disk_Disk_Write
  refine o.box fun d2 h1 o1 => ?_
  have o1 : Own h0 h1 (dL d c s (roR ((d2, [ptr d], T_p_disk_Disk) :: B) :: L)) := o1.ro 6 rfl
  refine o1.box fun n3 h2 o2 => ?_
  have o2 : Own h0 h2 (dL d c s (roR ((n3, [.string a], T_string) :: (d2, [ptr d], T_p_disk_Disk) :: B) :: L)) := o2.ro 6 rfl
  refine o2.box fun a6 h3 o3 => ?_
  have o3 : Own h0 h3 (dL d c s (roR ((a6, [I z], T_int) :: (n3, [.string a], T_string) :: (d2, [ptr d], T_p_disk_Disk) :: B) :: L)) := o3.ro 6 rfl
  refine o3.box fun s7 h4 o4 => ?_
  have o4 : Own h0 h4 (dL d c s (roR ((s7, [.string w], T_string) :: (a6, [I z], T_int) :: (n3, [.string a], T_string) :: (d2, [ptr d], T_p_disk_Disk) :: B) :: L)) := o4.ro 6 rfl
  have hs2 : ∀ y ∈ B, y ∈ (s7, [.string w], T_string) :: (a6, [I z], T_int) :: (n3, [.string a], T_string) :: (d2, [ptr d], T_p_disk_Disk) :: B := fun y hy => List.mem_cons_of_mem _ (List.mem_cons_of_mem _ (List.mem_cons_of_mem _ (List.mem_cons_of_mem _ hy)))
  have ms : (s7, [.string w], T_string) ∈ (s7, [.string w], T_string) :: (a6, [I z], T_int) :: (n3, [.string a], T_string) :: (d2, [ptr d], T_p_disk_Disk) :: B := List.mem_cons_self
  have ma : (a6, [I z], T_int) ∈ (s7, [.string w], T_string) :: (a6, [I z], T_int) :: (n3, [.string a], T_string) :: (d2, [ptr d], T_p_disk_Disk) :: B := List.mem_cons_of_mem _ List.mem_cons_self
  have mn : (n3, [.string a], T_string) ∈ (s7, [.string w], T_string) :: (a6, [I z], T_int) :: (n3, [.string a], T_string) :: (d2, [ptr d], T_p_disk_Disk) :: B := List.mem_cons_of_mem _ (List.mem_cons_of_mem _ List.mem_cons_self)
  have md : (d2, [ptr d], T_p_disk_Disk) ∈ (s7, [.string w], T_string) :: (a6, [I z], T_int) :: (n3, [.string a], T_string) :: (d2, [ptr d], T_p_disk_Disk) :: B := List.mem_cons_of_mem _ (List.mem_cons_of_mem _ (List.mem_cons_of_mem _ List.mem_cons_self))
  replace H := H.mono hs2
  replace hK := hK.mono hs2
  generalize (s7, [.string w], T_string) :: (a6, [I z], T_int) :: (n3, [.string a], T_string) :: (d2, [ptr d], T_p_disk_Disk) :: B = B2 at o4 hs2 ms ma mn md H hK
  clear o o1 o2 o3
  have k2 : ∀ h', Own h0 h' (dL d c s (roR B2 :: L)) → sh_disk_Disk_Write_k2 Tryz.prog (ptr d2) (ptr n3) (ptr a6) (ptr s7) K (I (wrE a z w)) h' := by
    intro h' o'
    unfold sh_disk_Disk_Write_k2
    refine o'.roLoad 6 rfl md rfl (o'.roLoad 6 rfl md rfl (o'.roLoad 6 rfl mn rfl ?_))
    refine o'.build (enc := encS) (n := 1) [a] rfl (sizesOk_of rfl) rfl fun v h5 o5 => ?_
    have o5' := o5.tail
    refine refusedB_ok o5' (o5.vw 0 rfl) (by simp) ⟨o5'.roLoad 6 rfl md rfl rfl, ?_⟩
    unfold mWrite stepD at hK
    refine stepB_ok o5' (fun he => (ref_off he).1) hI.ar (fun hne => ?_) (fun he h1 h3 o3 => ?_) fun he hn1 h3 o3 => ?_
    · rw [if_pos hne] at hK
      exact hK c B2 h5 (fun _ h => h) H o5'
    · rw [if_neg (fun h => h he), if_pos h1] at hK
      exact hK c B2 h3 (fun _ h => h) (H.ar 0 true) o3
    · rw [if_neg (fun h => h he), if_neg hn1] at hK
      dsimp only at hK
      obtain ⟨_, hwr, ht⟩ := ref_off he
      have hz0 : 0 ≤ z := by
        unfold wrE at hwr
        split at hwr
        · cases hwr
        · rename_i hc
          refine Classical.byContradiction fun hneg => hc ⟨hwr, .inl (by omega)⟩
      obtain ⟨n, hn⟩ := Option.isSome_iff_exists.1 (ht a List.mem_cons_self)
      obtain ⟨i, x, hx, rfl⟩ := dOk_now H hI.ok hn
      have hn' : dlook ({ s with armed := s.armed - 1 } : Dk).now a = some x.n := hn
      unfold upT at hK
      rw [hn'] at hK
      dsimp only at hK
      have H3 := H.ar (s.armed - 1) s.off
      have hm := th_mem (s := s) (H.lt x (List.mem_of_getElem? hx))
      have hl := hI.lw _ hm
      unfold Th.all at hl
      rw [List.length_append] at hl
      refine callV_of (l := [ptr d2, ptr n3, ptr a6, ptr s7]) rfl (lk_disk_Disk_Write_1 _ _ _ _ ?_)
      unfold sh_disk_Disk_Write_1
      refine o3.roLoad 6 rfl md rfl ?_
      rw [pNil_ptr, pField_ptr]
      refine o3.load 0 rfl rfl (o3.roLoad 6 rfl md rfl ?_)
      rw [pNil_ptr, pField_ptr]
      refine o3.load 0 rfl rfl (o3.roLoad 6 rfl mn rfl ?_)
      refine look_now o3 hn' (look_th o3 H3 hx ?_)
      rw [pNil_ptr, pField_ptr]
      have o5 := dL_out o3 hx
      have o5 : Own h0 h3 (cellR x.b [x.dv, x.wv] T_disk_thing :: slR encB8 1 T_uint8 x.dv (bytesOf (s.getT x.n).syn) :: slR encW 2 T_disk_write x.wv (s.getT x.n).pen :: ((tsR c { s with armed := s.armed - 1 }).set i nilR ++ dN d c { s with armed := s.armed - 1 } nilR (roR B2 :: L))) := o5
      refine o5.load 0 rfl rfl (o3.roLoad 6 rfl ma rfl (o3.roLoad 6 rfl ms rfl ?_))
      refine ⟨sizesOk_of rfl, ?_⟩
      have ez : z = ((z.toNat : Nat) : Int) := by omega
      refine o5.app1 (enc := encW) (n := 2) (T := T_disk_write) (xs := (s.getT x.n).pen) 2 ⟨z.toNat, w⟩ rfl ?_ (sizesOk_of rfl) (fun _ => rfl) encW_plain rfl (by decide) (by omega) fun v' h6 o6 => ?_
      · unfold encW; dsimp only; rw [← ez]; rfl
      have hv := o6.vw 2 rfl
      rw [pNil_ptr, pField_ptr]
      refine o6.st1 0 (cs' := [x.dv, v']) rfl rfl rfl hv.one hv.plain fun h7 o7 => ?_
      have o7 : Own h0 h7 (cellR x.b [x.dv, v'] T_disk_thing :: slR encB8 1 T_uint8 x.dv (bytesOf (s.getT x.n).syn) :: slR encW 2 T_disk_write v' ((s.getT x.n).pen ++ [⟨z.toNat, w⟩]) :: ((tsR c { s with armed := s.armed - 1 }).set i nilR ++ dN d c { s with armed := s.armed - 1 } nilR (roR B2 :: L))) := o7
      have o10 := dL_mod (f := fun t => { t with pen := t.pen ++ [⟨z.toNat, w⟩] }) H3 hx o7
      exact hK _ B2 h7 (fun _ h => h) (H3.modT hx) o10
  refine o4.roLoad 6 rfl mn rfl ?_
  refine o4.build (enc := encS) (n := 1) [a] rfl (sizesOk_of rfl) rfl fun v h5 o5 => ?_
  refine names1 o5 ?_
  have o6 := o5.tail
  rw [pBin_eql, ifV_beq]
  refine ⟨fun he => ?_, fun hne => ?_⟩
  · refine o6.roLoad 6 rfl ma rfl ?_
    rw [pBin_lss, ifV_dec]
    refine ⟨fun hneg => ?_, fun hpos => ?_⟩
    · have := k2 h5 o6
      rwa [show wrE a z w = 2 from if_pos ⟨he, .inl hneg⟩] at this
    · refine o6.roLoad 6 rfl ma rfl (o6.roLoad 6 rfl ms rfl ?_)
      rw [pLenS_str, pBin_sub, w64 (by omega) (by omega), pBin_gtr, ifV_dec]
      refine ⟨fun hgt => ?_, fun hle => ?_⟩
      · have := k2 h5 o6
        rwa [show wrE a z w = 2 from if_pos ⟨he, .inr hgt⟩] at this
      · have := k2 h5 o6
        rwa [show wrE a z w = namesE [a] from if_neg fun h => h.2.elim hpos hle] at this
  · have := k2 h5 o6
    rwa [show wrE a z w = namesE [a] from if_neg fun h => hne h.1] at this

theorem syncDirB_ok (o : Own h0 h (dL d c s (roR B :: L))) (H : DOk B c s) (hI : s.Inv U N) (hK : PostD h0 L d B K (I (mSyncDir s).1) (mSyncDir s).2) : callS Tryz.prog F_disk_Disk_SyncDir [ptr d] h K := by
  refine callS_of (lk_disk_Disk_SyncDir _ ?_)
  unfold sh_disk_Disk_SyncDir
  refine o.box fun d2 h1 o1 => ?_
  have o1 : Own h0 h1 (dL d c s (roR ((d2, [ptr d], T_p_disk_Disk) :: B) :: L)) := o1.ro 6 rfl
  have hs2 : ∀ y ∈ B, y ∈ (d2, [ptr d], T_p_disk_Disk) :: B := sub1
  have md : (d2, [ptr d], T_p_disk_Disk) ∈ (d2, [ptr d], T_p_disk_Disk) :: B := List.mem_cons_self
  replace H := H.mono hs2
  replace hK := hK.mono hs2
  generalize (d2, [ptr d], T_p_disk_Disk) :: B = B2 at o1 hs2 md H hK
  refine o1.roLoad 6 rfl md rfl (o1.roLoad 6 rfl md rfl ?_)
  refine refusedB_ok o1 (ys := []) (e := 0) Vw.nil (by decide) ⟨o1.roLoad 6 rfl md rfl rfl, ?_⟩
  unfold mSyncDir stepD at hK
  refine stepB_ok o1 (fun he => (ref_off he).1) hI.ar (fun hne => ?_) (fun he h2 h3 o3 => ?_) fun he hn1 h3 o3 => ?_
  · rw [if_pos hne] at hK
    exact hK c B2 h1 (fun _ h => h) H o1
  · rw [if_neg (fun h => h he), if_pos h2] at hK
    exact hK c B2 h3 (fun _ h => h) (H.ar 0 true) o3
  · rw [if_neg (fun h => h he), if_neg hn1] at hK
    dsimp only at hK
    refine callV_of (l := [ptr d2]) rfl (lk_disk_Disk_SyncDir_1 _ ?_)
    unfold sh_disk_Disk_SyncDir_1
    refine o3.roLoad 6 rfl md rfl (o3.roLoad 6 rfl md rfl (o3.roLoad 6 rfl md rfl ?_))
    rw [pNil_ptr, pField_ptr]
    refine o3.load 0 rfl rfl ?_
    refine mcloneB_ok o3 (i := 2) rfl fun m' h4 o4 => ?_
    refine ⟨o4.roLoad 7 rfl md rfl rfl, o4.roLoad 7 rfl md rfl rfl, ?_⟩
    rw [pNil_ptr, pField_ptr]
    refine o4.st1 1 (cs' := dC { c with dm := m' } { s with armed := s.armed - 1 }) rfl rfl rfl rfl rfl fun h5 o5 => ?_
    refine ⟨o5.roLoad 7 rfl md rfl rfl, ?_⟩
    rw [pNil_ptr, pField_ptr]
    refine o5.st1 1 (cs' := dC { c with dm := m', pv := .slice none 0 0, vs := [] } { s with armed := s.armed - 1 }) rfl rfl rfl rfl rfl fun h6 o6 => ?_
    have o6 : Own h0 h6 (kmapR QS m' (dirF s.now) :: cellR d (dC { c with dm := m', pv := .slice none 0 0, vs := [] } { s with armed := s.armed - 1 }) T_disk_Disk :: kmapR QS c.dm (dirF (dirOf s.cs)) :: kmapR QS c.nm (dirF s.now) :: kmapR QI c.tm (thF c.tc) :: slR encC 1 T_disk_change c.pv c.vs :: sepR (tsR c { s with armed := s.armed - 1 }) :: roR B2 :: L) := o6
    have o7 := Own.nilS (enc := encC) (n := 1) (T := T_disk_change) o6
    have o8 := o7.front 8 [2, 1, 4, 5, 0, 7] (by decide) (by decide)
    refine hK { c with dm := m', pv := .slice none 0 0, vs := [] } B2 h6 (fun _ h => h) ?_ ?_
    · refine ⟨rfl, fun i v y hv _ => by simp at hv, H.nd, H.lt, fun y hy => ?_, fun a n hm => by cases hm⟩
      have hn := (dlook_mem (keys_dirOf _)).2 (show (y.1, y.2) ∈ dirOf (s.cs ++ s.cp) from hy)
      obtain ⟨i, x, hx, e⟩ := dOk_now H hI.ok hn
      exact ⟨x, List.mem_of_getElem? hx, e⟩
    · unfold dL
      rw [show (({ s with armed := s.armed - 1 } : Dk).cs ++ ({ s with armed := s.armed - 1 } : Dk).cp) = s.cs ++ s.cp from rfl]
      rw [show Dk.now { cs := s.cs ++ s.cp, cp := [], th := s.th, armed := s.armed - 1, off := s.off } = s.now by unfold Dk.now; simp]
      exact o8

theorem armB_ok {z : Int} (o : Own h0 h (dL d c s L)) (hK : ∀ h', Own h0 h' (dL d c (mArm s z) L) → K (.tuple #[]) h') : callS Tryz.prog F_disk_Disk_Arm [ptr d, I z] h K := by
  refine callS_of (lk_disk_Disk_Arm _ _ ?_)
  unfold sh_disk_Disk_Arm
  rw [pNe_ptr_nil, Option.isSome_some, ifV_true, pMax_int, pNil_ptr, pField_ptr]
  have e : (if z > 0 then z else 0) = ((z.toNat : Nat) : Int) := by split <;> omega
  rw [e]
  refine o.st1 0 (cs' := dC c (mArm s z)) rfl rfl rfl rfl rfl fun h6 o6 => hK h6 o6

theorem onB_ok (o : Own h0 h (dL d c s L)) (hK : K (.bool (!s.off)) h) : callS Tryz.prog F_disk_Disk_On [ptr d] h K := by
  refine callS_of (lk_disk_Disk_On _ ?_)
  unfold sh_disk_Disk_On
  rw [pNe_ptr_nil, Option.isSome_some, ifV_true, pNil_ptr, pField_ptr]
  refine o.load 0 rfl rfl ?_
  exact hK

theorem readB_ok (o : Own h0 h (dL d c s L)) (H : DOk B c s) (hI : s.Inv U N) (hN : N ≤ 1048576) (hK : ∀ h', Own h0 h' (dL d c s L) → K (.tuple #[.string (mRead s a).1, I (mRead s a).2]) h') : callS Tryz.prog F_disk_Disk_Read [ptr d, .string a] h K := by
  refine callS_of (lk_disk_Disk_Read _ _ ?_)
  unfold sh_disk_Disk_Read
  refine o.build (enc := encS) (n := 1) [a] rfl (sizesOk_of rfl) rfl fun v h1 o1 => ?_
  refine names1 o1 ?_
  refine o1.tail.build (enc := encS) (n := 1) [a] rfl (sizesOk_of rfl) rfl fun v h2 o2 => ?_
  have o3 := o2.tail
  refine refusedB_ok o3 (o2.vw 0 rfl) (by simp) ?_
  unfold mRead at hK
  rw [pBin_neq, ifV_bne]
  refine ⟨fun hne => ?_, fun he => ?_⟩
  · rw [if_pos hne] at hK
    exact hK h2 o3
  · rw [if_neg (fun h => h he)] at hK
    obtain ⟨_, _, ht⟩ := ref_off he
    obtain ⟨n, hn⟩ := Option.isSome_iff_exists.1 (ht a List.mem_cons_self)
    obtain ⟨i, x, hx, rfl⟩ := dOk_now H hI.ok hn
    rw [hn] at hK
    rw [pNil_ptr, pField_ptr]
    refine o3.load 0 rfl rfl ?_
    rw [pNil_ptr, pField_ptr]
    refine o3.load 0 rfl rfl ?_
    refine look_now o3 hn (look_th o3 H hx ?_)
    refine seenD_ok (L' := L) o3 H hI hN hx fun v h4 o4 => ?_
    refine (o4.vw 0 rfl).str ?_
    exact hK h4 (o3.frame o4).tail

theorem newB_ok (o : Own h0 h L) (hK : ∀ d c h', DOk [] c Dk.new → Own h0 h' (dL d c Dk.new (roR [] :: L)) → K (ptr d) h') : callS Tryz.prog F_disk_New [] h K := by
  refine callS_of (lk_disk_New ?_)
  unfold sh_disk_New
  refine o.noRo.kmk QS fun m1 h1 o1 => o1.kmk QS fun m2 h2 o2 => o2.kmk QI fun m3 h3 o3 => ?_
  refine ⟨sizesOk_of rfl, ?_⟩
  refine o3.box fun d h4 o4 => ?_
  have o5 : Own h0 h4 (sepR [] :: cellR d [.map (some m1), .map (some m2), .map (some m3), .slice none 0 0, I 0, I 0, .bool false] T_disk_Disk :: kmapR QI m3 (fun _ => none) :: kmapR QS m2 (fun _ => none) :: kmapR QS m1 (fun _ => none) :: roR [] :: L) := Own.sep (l := []) o4
  have o6 := (Own.nilS (enc := encC) (n := 1) (T := T_disk_change) o5).front 7 [2, 5, 4, 3, 0, 1, 6] (by decide) (by decide)
  exact hK d ⟨m1, m2, m3, .slice none 0 0, [], []⟩ h4 ⟨rfl, fun i v y hv _ => (by simp at hv), (by simp), fun y hy => (by cases hy), fun y hy => (by cases hy), fun a n hm => (by cases hm)⟩ o6

end
end Go.Proofs.YtdbkeklhjjlhbaaGreat

namespace Go.Proofs.YtdbkeklhjjlhbaaGreat
open Go Go.Mh
set_option linter.unusedVariables false

/-! ### Entries of a directory -/

theorem nodupMap {α β : Type} {f : α → β} : ∀ {l : List α}, l.Nodup → (∀ x ∈ l, ∀ y ∈ l, f x = f y → x = y) → (l.map f).Nodup
  | [], _, _ => .nil
  | a :: l, hn, h => by
    have hn' := List.nodup_cons.1 hn
    rw [List.map_cons, List.nodup_cons]
    refine ⟨fun hm => ?_, nodupMap hn'.2 fun x hx y hy => h x (List.mem_cons_of_mem _ hx) y (List.mem_cons_of_mem _ hy)⟩
    obtain ⟨y, hy, e⟩ := List.mem_map.1 hm
    have := h y (List.mem_cons_of_mem _ hy) a List.mem_cons_self e
    exact hn'.1 (this ▸ hy)

theorem insO_len {α : Type} {lt : α → α → Bool} {x : α} : ∀ l : List α, (insO lt x l).length ≤ l.length + 1
  | [] => Nat.le_refl _
  | y :: r => by
    unfold insO
    split
    · simp
    · split
      · have := insO_len (lt := lt) (x := x) r; simp only [List.length_cons]; omega
      · simp
theorem sortO_len {α : Type} {lt : α → α → Bool} : ∀ l : List α, (sortO lt l).length ≤ l.length
  | [] => Nat.le_refl _
  | x :: l => by
    have h1 := insO_len (lt := lt) (x := x) (sortO lt l)
    have h2 := sortO_len (lt := lt) l
    show (insO lt x (sortO lt l)).length ≤ _
    simp only [List.length_cons]; omega

theorem entMem {t : List (KM.Ent Nm)} {k : Nm} {v : Value} : KM.lk k t = some v → ∃ e ∈ t, e.1 = k ∧ e.2.1 = v := by
  induction t with
  | nil => intro h; cases h
  | cons x t ih =>
    intro h
    rw [KM.lk] at h
    split at h
    · rename_i e
      exact ⟨x, List.mem_cons_self, e, Option.some.inj h⟩
    · obtain ⟨e, he, h'⟩ := ih h
      exact ⟨e, List.mem_cons_of_mem _ he, h'⟩

theorem entOf {t : List (KM.Ent Nm)} (hn : (t.map (·.1)).Nodup) {e : KM.Ent Nm} (he : e ∈ t) : KM.lk e.1 t = some e.2.1 := by
  induction t with
  | nil => cases he
  | cons x t ih =>
    have hn' := List.nodup_cons.1 hn
    rw [KM.lk]
    rcases List.mem_cons.1 he with rfl | he
    · rw [if_pos rfl]
    · rw [if_neg (fun h : x.1 = e.1 => hn'.1 (List.mem_map.2 ⟨e, he, h.symm⟩))]
      exact ih hn'.2 he

section
variable {es : Array MapEntry} {clock : Nat} {t : List (KM.Ent Nm)} {D : Dir}

theorem ent_val (ht : KM.IMapL QS es clock t) (hf : ∀ k, dirF D k = KM.lk k t) {e : KM.Ent Nm} (he : e ∈ t) : ∃ n : Nat, e.2.1 = I n ∧ dlook D e.1 = some n := by
  have h := entOf ht.keys he
  rw [← hf] at h
  unfold dirF at h
  cases hd : dlook D e.1 with
  | none => rw [hd] at h; cases h
  | some n => rw [hd] at h; exact ⟨n, (Option.some.inj h).symm, rfl⟩

theorem ent_of (hf : ∀ k, dirF D k = KM.lk k t) {a : Nm} {n : Nat} (hd : dlook D a = some n) : ∃ e ∈ t, e.1 = a ∧ e.2.1 = I n := by
  have : dirF D a = some (I n) := by unfold dirF; rw [hd]; rfl
  rw [hf] at this
  exact entMem this

theorem ent_len {U : List Nm} (ht : KM.IMapL QS es clock t) (hf : ∀ k, dirF D k = KM.lk k t) (hU : ∀ a ∈ keysOf D, a ∈ U) : t.length ≤ U.length := by
  have : (t.map (·.1)).length ≤ U.length := len_of_sub ht.keys fun a ha => by
    obtain ⟨e, he, rfl⟩ := List.mem_map.1 ha
    obtain ⟨n, _, hn⟩ := ent_val ht hf he
    exact hU _ (dlook_key.1 (by rw [hn]; rfl))
  simpa using this
end

def valI : Value → Int
  | .int _ z => z
  | _ => 0

section
variable {h0 h : Heap} {L : List Res} {K : Value → Heap → Prop} {d i : Nat} {c : DC} {s : Dk} {B : Bx} {x : TC} {U : List Nm} {N : Nat} {a b : Nm}

/-- slices.Compact of a row without two alike. -/
theorem compactB_ok {v : Value} {ys : List Int} (H : Vw encI 1 h v ys) (hs : SSrt ltI ys) (hl : ys.length < 2 ^ 40) (hK : K v h) : callS Tryz.prog F_slices_Compact_sl_int_int [v] h K := by
  refine callS_of (lk_slices_Compact_sl_int_int _ ?_)
  unfold sh_slices_Compact_sl_int_int
  refine H.len ?_
  rw [pBin_lss, ifV_dec]
  refine ⟨fun _ => hK, fun hge => ?_⟩
  refine LoopH_count (ys.length - 1) (fun i x h' => x.1 = I (i + 1 : Nat) ∧ h' = h) ⟨rfl, rfl⟩ ?_
  rintro i ⟨x, ⟨⟩⟩ h' Z hi ⟨hx, rfl⟩ hZ
  dsimp only at hx hZ ⊢
  subst hx
  unfold sh_slices_Compact_sl_int_int_L1
  refine H.len ?_
  rw [pBin_lss, ifV_dec]
  refine ⟨fun hlt => ?_, fun _ => hK⟩
  have h1 : i + 1 < ys.length := by omega
  refine H.atI h1 ?_
  rw [pBin_sub, w64 (by omega) (by omega), show ((i + 1 : Nat) : Int) - 1 = (i : Int) by omega]
  refine H.atI (show i < ys.length by omega) ?_
  rw [pBin_eql]
  have hlt2 : ys[i] < ys[i + 1] := by
    have := List.pairwise_iff_getElem.1 hs i (i + 1) (by omega) h1 (by omega)
    simpa [ltI] using this
  rw [show (ys[i + 1] == ys[i]) = false from beq_eq_false_iff_ne.2 (by omega), ifV_false, pBin_add, wI (i + 1) (by omega)]
  exact hZ (_, ()) _ (by omega) ⟨rfl, rfl⟩

/-- A directory's names, rising. -/
theorem rising_iter {es : Array MapEntry} {clock m b : Nat} {t : List (KM.Ent Nm)} {D : Dir} (ht : KM.IMapL QS es clock t) (hf : ∀ k, dirF D k = KM.lk k t) (hU : ∀ a ∈ keysOf D, a ∈ U) (hl : U.length ≤ 12) :
    IterG Tryz.prog (.func (.func F_disk_directory_rising_1) #[] #[ptr b]) (fun h => hcell h ⟨b, 0, none⟩ = some (.map (some m)) ∧ h[m]? = some (.map es clock)) (σ := Nat) 0
      (fun i x i' => i < (sortO ltS (keysOf D)).length ∧ i' = i + 1 ∧ x = [.string ((sortO ltS (keysOf D)).getD i (bstr []))]) (fun i => i = (sortO ltS (keysOf D)).length) := by
  rintro yv h0 h Rs K J E ⟨l, rfl⟩ o hj hQ hY hK
  have hlen := ent_len ht hf hU
  refine callF_of (l := [yieldV l, ptr b]) rfl (lk_disk_directory_rising_1 _ _ ?_)
  unfold sh_disk_directory_rising_1
  simp only [pLoad_ptr, (hQ _ _ _ hj o).1]
  refine callS_of (lk_maps_Keys_disk_directory_string_int _ ?_)
  unfold sh_maps_Keys_disk_directory_string_int
  refine o.box fun b2 h1 o1 => ?_
  have o1 : Own h0 h1 (cellR b2 [.map (some m)] T_disk_directory :: Rs) := o1
  refine sortedB_string o1 (Keys_iter (m := m) (b := b2) ht) (fun s => s.map (·.1)) rfl ?_ ?_ ?_ ?_
  · rintro s x s' ⟨e, he, hne, rfl, rfl, hl'⟩
    exact ⟨e.1, rfl, by simp, by rw [List.length_map]; omega⟩
  · intro Rs' h' o'
    have o2 := o'.comm
    have oRs : Own h0 h' (Rs ++ Rs') := (show Own h0 h' (cellR b2 [.map (some m)] T_disk_directory :: (Rs ++ Rs')) from o2).tail
    refine ⟨hcell_of ((show Own h0 h' (cellR b2 [.map (some m)] T_disk_directory :: (Rs ++ Rs')) from o2).get 0 rfl) rfl, (hQ _ _ _ hj oRs.left).2⟩
  · rintro s ⟨hall, hs, hn⟩
    have : s.length ≤ t.length := by classical exact len_of_sub hn hs
    rw [List.length_map]; omega
  · rintro w h2 s ys ⟨hall, hs, hn⟩ hp hsr o2
    have hnd : ys.Nodup := by
      refine (hp.nodup_iff).2 ?_
      refine nodupMap hn fun x hx y hy e => ?_
      have := ht.keys
      obtain ⟨i, hi, rfl⟩ := List.mem_iff_getElem.1 (hs x hx)
      obtain ⟨j, hj, rfl⟩ := List.mem_iff_getElem.1 (hs y hy)
      have := (List.getElem_inj (i := i) (j := j) (h₀ := by simpa using hi) (h₁ := by simpa using hj) this).1 (by simpa using e)
      subst this; rfl
    have hys : ys = sortO ltS (keysOf D) := SSrt.ext ltS_ok (Srt.strict ltS_ok hsr hnd) (sortO_srt ltS_ok _) fun z => by
      rw [sortO_mem ltS_ok, hp.mem_iff, List.mem_map, ← dlook_key]
      constructor
      · rintro ⟨e, he, rfl⟩
        obtain ⟨n, _, hn'⟩ := ent_val ht hf (hs e he)
        rw [hn']; rfl
      · intro hz
        obtain ⟨n, hn'⟩ := Option.isSome_iff_exists.1 hz
        obtain ⟨e, he, e1, _⟩ := ent_of hf hn'
        exact ⟨e, hall e he, e1⟩
    subst hys
    have hyl : (sortO ltS (keysOf D)).length ≤ 12 := by
      have h1 : s.length ≤ t.length := by classical exact len_of_sub hn hs
      have h2 := hp.length_eq
      rw [List.length_map] at h2; omega
    refine (o2.vw 0 rfl).len ?_
    have o3 : Own h0 h2 (slR encS 1 T_string w (sortO ltS (keysOf D)) :: Rs) := o2.front 2 [0] (by decide) (by decide)
    generalize sortO ltS (keysOf D) = ys at o3 hyl hY hK
    refine LoopH_count ys.length (fun i x h' => x.1 = I i ∧ ∃ Rs', J i Rs' ∧ Own h0 h' (slR encS 1 T_string w ys :: Rs')) ⟨rfl, Rs, hj, o3⟩ ?_
    rintro i ⟨x, ⟨⟩⟩ h3 Z hi ⟨hx, Rs', hj', o'⟩ hZ
    dsimp only at hx hZ ⊢
    subst hx
    unfold sh_disk_directory_rising_1_L1
    rw [pBin_lss, ifV_dec]
    refine ⟨fun hlt => ?_, fun hge => ?_⟩
    · have hi' : i < ys.length := by omega
      refine (o'.vw 0 rfl).at1 (e := fun (x : Nm) => Value.string x) (fun _ => rfl) hi' ?_
      have e : ys[i] = ys.getD i (bstr []) := by rw [List.getD_eq_getElem?_getD, List.getElem?_eq_getElem hi']; rfl
      rw [e]
      refine hY i _ (i + 1) Rs' [_] h3 _ ⟨hi', rfl, rfl⟩ hj' o'.rot (fun Rs'' h'' hj'' o'' => ?_) fun Rs'' h'' he o'' => ?_
      · rw [notT, ifV_false, pBin_add, wI i (by omega)]
        exact hZ (_, ()) h'' hi' ⟨rfl, Rs'', hj'', o''.comm⟩
      · rw [notF, ifV_true]
        exact hK _ _ (.inr he) o''.left
    · have : i = ys.length := by omega
      exact hK _ _ (.inl ⟨i, this, hj'⟩) o'.tail

/-- The names of a disk. -/
theorem namesD_ok (o : Own h0 h (dL d c s L)) (hI : s.Inv U N) (hl : U.length ≤ 12) (hK : ∀ w h', Own h0 h' (slR encS 1 T_string w (mNames s) :: dL d c s L) → K w h') : callS Tryz.prog F_disk_Disk_Names [ptr d] h K := by
  refine callS_of (lk_disk_Disk_Names _ ?_)
  unfold sh_disk_Disk_Names
  refine onB_ok o ?_
  unfold mNames at hK
  cases hoff : s.off with
  | true =>
    rw [hoff, if_pos rfl] at hK
    rw [Bool.not_true, notF, ifV_true]
    exact hK _ _ (Own.nilS o)
  | false =>
    rw [hoff, if_neg (by simp)] at hK
    rw [Bool.not_false, notT, ifV_false, pNil_ptr, pField_ptr]
    refine o.load 0 rfl rfl ?_
    refine callS_of (lk_disk_directory_rising _ ?_)
    unfold sh_disk_directory_rising
    refine o.box fun b1 h1 o1 => ?_
    have o1 : Own h0 h1 (cellR b1 [.map (some c.nm)] T_disk_directory :: dL d c s L) := o1
    obtain ⟨es, clock, hm, t, ht, hf⟩ := o1.get 3 rfl
    have hU : ∀ a ∈ keysOf s.now, a ∈ U := dir_nm (U := U) _ [] (fun a h => by cases h) hI.nm
    have hk12 : (sortO ltS (keysOf s.now)).length ≤ 12 := by
      have h1 := sortO_len (lt := ltS) (keysOf s.now)
      have h2 := len_of_sub (keys_dirOf (s.cs ++ s.cp)) hU
      have h3 : (keysOf (dirOf (s.cs ++ s.cp))).length = (keysOf s.now).length := rfl
      omega
    have o2 : Own h0 h1 (cellR b1 [.map (some c.nm)] T_disk_directory :: cellR d (dC c s) T_disk_Disk :: kmapR QS c.dm (dirF (dirOf s.cs)) :: objR c.nm (.map es clock) :: kmapR QI c.tm (thF c.tc) :: slR encC 1 T_disk_change c.pv c.vs :: sepR (tsR c s) :: L) :=
      o1.conv 3 (r' := objR c.nm (.map es clock)) rfl hm fun b hb => hb
    refine collectB_string o2 (rising_iter (m := c.nm) (b := b1) ht hf hU hl) (fun i => (sortO ltS (keysOf s.now)).take i) rfl ?_ ?_ ?_
    · rintro i y i' ⟨hi, rfl, rfl⟩
      refine ⟨_, rfl, ?_, ?_⟩
      · rw [List.take_succ_eq_append_getElem hi, List.getD_eq_getElem?_getD, List.getElem?_eq_getElem hi]; rfl
      · rw [List.length_take]; omega
    · intro Rs h' o'
      have o3 := o'.comm
      exact ⟨hcell_of (o3.get 0 rfl) rfl, o3.get 3 rfl⟩
    · rintro w h2 i rfl o3
      rw [List.take_length] at o3
      have o4 := o3.conv 4 (r' := kmapR QS c.nm (dirF s.now)) rfl ⟨es, clock, o3.get 4 rfl, t, ht, hf⟩ fun b hb => hb
      exact hK w h2 (o4.front 2 [0] (by decide) (by decide))

/-! ### Things that are named -/

theorem namedL_srt (D : Dir) (n : Nat) : SSrt ltI ((namedL D n).map fun (i : Nat) => (i : Int)) := by
  unfold SSrt namedL
  rw [List.pairwise_map]
  refine List.Pairwise.filter _ ?_
  refine List.Pairwise.imp ?_ List.pairwise_lt_range
  intro a b h
  simp only [ltI, decide_eq_true_eq]; omega

theorem namedL_mem {D : Dir} {n i : Nat} : i ∈ namedL D n ↔ i < n ∧ ∃ y ∈ D, y.2 = i := by
  unfold namedL
  rw [List.mem_filter, List.mem_range, List.any_eq_true]
  simp

/-- What a directory holds is not twice. -/
theorem dir_inj : ∀ (l : List Ch) (D : Dir), (keysOf D).Nodup → (D.map (·.2)).Nodup → (l.filterMap mkNo).Nodup → (∀ n ∈ D.map (·.2), n ∉ l.filterMap mkNo) → OkL D l → ((l.foldl app D).map (·.2)).Nodup := by
  intro l
  induction l with
  | nil => intro D _ h _ _ _; exact h
  | cons c l ih =>
    intro D hk hv hn hd ho
    have del : ∀ {D : Dir} (a : Nm), (D.map (·.2)).Nodup → ((ddel D a).map (·.2)).Nodup := fun a h => h.sublist (List.filter_sublist.map _)
    have dmem : ∀ {D : Dir} {a : Nm} {n : Nat}, n ∈ (ddel D a).map (·.2) → n ∈ D.map (·.2) := fun h => by
      obtain ⟨y, hy, rfl⟩ := List.mem_map.1 h
      exact List.mem_map.2 ⟨y, (List.mem_filter.1 hy).1, rfl⟩
    refine ih _ (keys_app hk) ?_ ?_ ?_ ho.2
    · cases c with
      | mk a n =>
        refine List.nodup_cons.2 ⟨fun h => ?_, del a hv⟩
        exact hd n (dmem h) (show n ∈ n :: l.filterMap mkNo from List.mem_cons_self)
      | ren a b =>
        have ht : (dlook D a).isSome = true := ho.1
        obtain ⟨n, hn'⟩ := Option.isSome_iff_exists.1 ht
        show (((dlook D a).getD 0) :: (ddel (ddel D a) b).map (·.2)).Nodup
        rw [hn']
        refine List.nodup_cons.2 ⟨fun h => ?_, del b (del a hv)⟩
        have h1 := dmem h
        obtain ⟨y, hy, e⟩ := List.mem_map.1 h1
        have hy1 := (List.mem_filter.1 hy)
        have hm := (dlook_mem hk).1 hn'
        obtain ⟨i, hi, ei⟩ := List.mem_iff_getElem.1 hy1.1
        obtain ⟨j, hj, ej⟩ := List.mem_iff_getElem.1 hm
        have hij := (List.getElem_inj (i := i) (j := j) (h₀ := by simpa using hi) (h₁ := by simpa using hj) hv).1 (by simp [ei, ej]; simpa using e)
        subst hij
        rw [ei] at ej
        have : y.1 = a := by rw [ej]
        have h2 := hy1.2
        rw [decide_eq_true this] at h2; cases h2
      | rem a => exact del a hv
    · cases c with
      | mk a n => exact (List.nodup_cons.1 (show (n :: l.filterMap mkNo).Nodup from hn)).2
      | ren a b => exact hn
      | rem a => exact hn
    · intro n hm
      cases c with
      | mk a m =>
        have hn' : (m :: l.filterMap mkNo).Nodup := hn
        rcases List.mem_cons.1 (show n ∈ m :: (ddel D a).map (·.2) from hm) with rfl | h
        · exact (List.nodup_cons.1 hn').1
        · exact fun h' => hd n (dmem h) (show n ∈ m :: l.filterMap mkNo from List.mem_cons_of_mem _ h')
      | ren a b =>
        have hd' : ∀ n ∈ D.map (·.2), n ∉ l.filterMap mkNo := fun n hm h => hd n hm h
        have ht : (dlook D a).isSome = true := ho.1
        obtain ⟨k, hk'⟩ := Option.isSome_iff_exists.1 ht
        rcases List.mem_cons.1 (show n ∈ ((dlook D a).getD 0) :: (ddel (ddel D a) b).map (·.2) from hm) with rfl | h
        · rw [hk']
          exact hd' _ (List.mem_map.2 ⟨_, (dlook_mem hk).1 hk', rfl⟩)
        · exact hd' n (dmem (dmem h))
      | rem a =>
        have hd' : ∀ n ∈ D.map (·.2), n ∉ l.filterMap mkNo := fun n hm h => hd n hm h
        exact hd' n (dmem hm)

end
end Go.Proofs.YtdbkeklhjjlhbaaGreat

namespace Go.Proofs.YtdbkeklhjjlhbaaGreat
open Go Go.Mh
set_option linter.unusedVariables false

section
variable {h0 h : Heap} {L : List Res} {K : Value → Heap → Prop} {d i : Nat} {c : DC} {s : Dk} {B : Bx} {x : TC} {U : List Nm} {N : Nat} {a b : Nm}

def namedQ (b d nm tm : Nat) (es : Array MapEntry) (clock : Nat) (tc : List TC) (h : Heap) : Prop :=
  hcell h ⟨b, 0, none⟩ = some (ptr d) ∧ hcell h ⟨d, 1, none⟩ = some (.map (some nm)) ∧ hcell h ⟨d, 2, none⟩ = some (.map (some tm)) ∧ h[nm]? = some (.map es clock) ∧ (kmapR QI tm (thF tc)).Q h

def namedX (D : Dir) (n : Nat) (tc : List TC) (i : Nat) (x : List Value) (i' : Nat) : Prop :=
  i < (namedL D n).length ∧ i' = i + 1 ∧ x = [I ((namedL D n).getD i 0), (thF tc ((namedL D n).getD i 0)).getD (.pointer none)]

theorem named_iter {es : Array MapEntry} {clock nm tm b d n : Nat} {t : List (KM.Ent Nm)} {D : Dir} {tc : List TC} (ht : KM.IMapL QS es clock t) (hf : ∀ k, dirF D k = KM.lk k t) (hU : ∀ a ∈ keysOf D, a ∈ U) (hl : U.length ≤ 12)
    (hk : (keysOf D).Nodup) (hv : (D.map (·.2)).Nodup) (hn : ∀ y ∈ D, y.2 < n) :
    IterG Tryz.prog (.func (.func F_disk_Disk_named_1) #[] #[ptr b]) (namedQ b d nm tm es clock tc) (σ := Nat) 0 (namedX D n tc) (fun i => i = (namedL D n).length) := by
  rintro yv h0 h Rs K J E ⟨l, rfl⟩ o hj hQ hY hK
  have hlen := ent_len ht hf hU
  refine callF_of (l := [yieldV l, ptr b]) rfl (lk_disk_Disk_named_1 _ _ ?_)
  unfold sh_disk_Disk_named_1
  obtain ⟨q1, q2, q3, q4, q5⟩ := hQ _ _ _ hj o
  simp only [pLoad_ptr, q1]
  rw [pNil_ptr, pField_ptr]
  simp only [Nat.zero_add, pLoad_ptr, q2]
  refine callS_of (lk_maps_Values_disk_directory_string_int _ ?_)
  unfold sh_maps_Values_disk_directory_string_int
  refine o.box fun b2 h1 o1 => ?_
  have o1 : Own h0 h1 (cellR b2 [.map (some nm)] T_disk_directory :: Rs) := o1
  refine sortedB_int o1 (Values_iter (m := nm) (b := b2) ht) (fun s => s.map fun e => valI e.2.1) rfl ?_ ?_ ?_ ?_
  · rintro s x s' ⟨e, he, hne, rfl, rfl, hl'⟩
    obtain ⟨m, hm, _⟩ := ent_val ht hf he
    exact ⟨valI e.2.1, by rw [hm]; rfl, by simp, by rw [List.length_map]; omega⟩
  · intro Rs' h' o'
    have o2 := o'.comm
    have oRs : Own h0 h' (Rs ++ Rs') := (show Own h0 h' (cellR b2 [.map (some nm)] T_disk_directory :: (Rs ++ Rs')) from o2).tail
    exact ⟨hcell_of ((show Own h0 h' (cellR b2 [.map (some nm)] T_disk_directory :: (Rs ++ Rs')) from o2).get 0 rfl) rfl, (hQ _ _ _ hj oRs.left).2.2.2.1⟩
  · rintro s ⟨hall, hs, hnd⟩
    have : s.length ≤ t.length := by classical exact len_of_sub hnd hs
    rw [List.length_map]; omega
  · rintro w h2 s ys ⟨hall, hs, hnd⟩ hp hsr o2
    have vals : ∀ x ∈ s, ∃ m : Nat, x.2.1 = I m ∧ dlook D x.1 = some m := fun x hx => ent_val ht hf (hs x hx)
    have hnd' : ys.Nodup := by
      refine (hp.nodup_iff).2 (nodupMap hnd fun x hx y hy e => ?_)
      obtain ⟨m, hm, hmd⟩ := vals x hx
      obtain ⟨m', hm', hmd'⟩ := vals y hy
      rw [hm, hm'] at e
      have em : m = m' := by have : (m : Int) = m' := e; omega
      subst em
      have h1 := (dlook_mem hk).1 hmd
      have h2 := (dlook_mem hk).1 hmd'
      obtain ⟨i, hi, ei⟩ := List.mem_iff_getElem.1 h1
      obtain ⟨j, hj, ej⟩ := List.mem_iff_getElem.1 h2
      have := (List.getElem_inj (i := i) (j := j) (h₀ := by simpa using hi) (h₁ := by simpa using hj) hv).1 (by simp [ei, ej])
      subst this
      rw [ei] at ej
      have ek : x.1 = y.1 := by injection ej
      obtain ⟨i, hi, ei⟩ := List.mem_iff_getElem.1 (hs x hx)
      obtain ⟨j, hj, ej⟩ := List.mem_iff_getElem.1 (hs y hy)
      have := (List.getElem_inj (i := i) (j := j) (h₀ := by simpa using hi) (h₁ := by simpa using hj) ht.keys).1 (by simp [ei, ej, ek])
      subst this
      rw [← ei, ej]
    have hys : ys = (namedL D n).map fun (i : Nat) => (i : Int) := SSrt.ext ltI_ok (Srt.strict ltI_ok hsr hnd') (namedL_srt D n) fun z => by
      rw [hp.mem_iff, List.mem_map, List.mem_map]
      constructor
      · rintro ⟨e, he, rfl⟩
        obtain ⟨m, hm, hmd⟩ := vals e he
        have h1 := (dlook_mem hk).1 hmd
        exact ⟨m, namedL_mem.2 ⟨hn _ h1, _, h1, rfl⟩, by rw [hm]; rfl⟩
      · rintro ⟨m, hm, rfl⟩
        obtain ⟨_, ⟨a, m'⟩, hy, rfl⟩ := namedL_mem.1 hm
        obtain ⟨e, he, e1, e2⟩ := ent_of hf ((dlook_mem hk).2 hy)
        exact ⟨e, hall e he, by rw [e2]; rfl⟩
    have hyl : ys.length ≤ 12 := by
      have h1 : s.length ≤ t.length := by classical exact len_of_sub hnd hs
      have h2 := hp.length_eq
      rw [List.length_map] at h2; omega
    have o3 : Own h0 h2 (slR encI 1 T_int w ys :: Rs) := o2.front 2 [0] (by decide) (by decide)
    refine compactB_ok (o3.vw 0 rfl) (by rw [hys]; exact namedL_srt D n) (by omega) ?_
    refine (o3.vw 0 rfl).len ?_
    have hlen2 : ys.length = (namedL D n).length := by rw [hys, List.length_map]
    refine LoopH_count ys.length (fun i x h' => x.1 = I i ∧ ∃ Rs', J i Rs' ∧ Own h0 h' (slR encI 1 T_int w ys :: Rs')) ⟨rfl, Rs, hj, o3⟩ ?_
    rintro i ⟨x, ⟨⟩⟩ h3 Z hi ⟨hx, Rs', hj', o'⟩ hZ
    dsimp only at hx hZ ⊢
    subst hx
    unfold sh_disk_Disk_named_1_L1
    rw [pBin_lss, ifV_dec]
    refine ⟨fun hlt => ?_, fun hge => ?_⟩
    · have hi' : i < ys.length := by omega
      refine (o'.vw 0 rfl).atI hi' ?_
      have e : ys[i] = (((namedL D n).getD i 0 : Nat) : Int) := by
        rw [List.getD_eq_getElem?_getD, List.getElem?_eq_getElem (by omega)]
        simp [hys]
      rw [e]
      obtain ⟨q1, q2, q3, q4, q5⟩ := hQ _ _ _ hj' o'.tail
      simp only [pLoad_ptr, q1]
      rw [pNil_ptr, pField_ptr]
      simp only [Nat.zero_add, pLoad_ptr, q3]
      obtain ⟨es', c', hm', him'⟩ := q5
      refine KM.look_of (Q := QI) (ok := false) (k := (((namedL D n).getD i 0 : Nat) : Int)) hm' him' ?_
      rw [if_neg (by decide)]
      refine hY i _ (i + 1) Rs' [_] h3 _ ⟨by omega, rfl, rfl⟩ hj' o'.rot (fun Rs'' h'' hj'' o'' => ?_) fun Rs'' h'' he o'' => ?_
      · rw [notT, ifV_false, pBin_add, wI i (by omega)]
        exact hZ (_, ()) h'' hi' ⟨rfl, Rs'', hj'', o''.comm⟩
      · rw [notF, ifV_true]
        exact hK _ _ (.inr he) o''.left
    · have : i = (namedL D n).length := by omega
      exact hK _ _ (.inl ⟨i, this, hj'⟩) o'.tail

theorem ts_fact (q : (sepR (tsR c s)).Q h) (hx : c.tc[i]? = some x) : h[x.b]? = some (.cells #[x.dv, x.wv] T_disk_thing (0, 0)) ∧ Vw encB8 1 h x.dv (bytesOf (s.getT x.n).syn) ∧ Vw encW 2 h x.wv (s.getT x.n).pen := by
  have q1 := q.1 _ (List.mem_of_getElem? (ts_get (s := s) hx))
  have r0 := q1.1 _ (List.mem_cons_self)
  obtain ⟨b1, r1⟩ := q1.1 _ (List.mem_cons_of_mem _ List.mem_cons_self)
  obtain ⟨b2, r2⟩ := q1.1 _ (List.mem_cons_of_mem _ (List.mem_cons_of_mem _ List.mem_cons_self))
  exact ⟨r0, ⟨b1, r1.view⟩, ⟨b2, r2.view⟩⟩

/-- What a thing that is named is. -/
theorem named_tc (H : DOk B c s) (hI : s.Inv U N) {m : Nat} (hm : m ∈ namedL s.now s.th.length) : ∃ (i : Nat) (x : TC), c.tc[i]? = some x ∧ x.n = m ∧ thF c.tc m = some (ptr x.b) := by
  obtain ⟨_, ⟨a, m'⟩, hy, rfl⟩ := namedL_mem.1 hm
  obtain ⟨i, x, hx, e⟩ := dOk_now H hI.ok ((dlook_mem (keys_dirOf _)).2 hy)
  exact ⟨i, x, hx, e, by rw [← e]; exact thF_at H hx⟩

theorem now_val (hI : s.Inv U N) : ∀ y ∈ s.now, y.2 < s.th.length := by
  intro y hy
  rcases dir_val _ [] _ hy hI.ok with h | ⟨a, h⟩
  · cases h
  · exact hI.num a _ h

theorem sum_le {l : List Nat} {m : Nat} (h : ∀ x ∈ l, x ≤ m) : l.sum ≤ l.length * m := by
  induction l with
  | nil => simp
  | cons a l ih =>
    have h1 := h a List.mem_cons_self
    have h2 := ih fun x hx => h x (List.mem_cons_of_mem _ hx)
    rw [List.sum_cons, List.length_cons, Nat.succ_mul]; omega

theorem named_len (hI : s.Inv U N) (hl : U.length ≤ 12) : (namedL s.now s.th.length).length ≤ 12 := by
  have h1 : (namedL s.now s.th.length).length ≤ (s.now.map (·.2)).length := len_of_sub (List.Nodup.sublist List.filter_sublist List.nodup_range) fun i hi => by
    obtain ⟨_, y, hy, e⟩ := namedL_mem.1 hi
    exact List.mem_map.2 ⟨y, hy, e⟩
  have h2 := len_of_sub (keys_dirOf (s.cs ++ s.cp)) (dir_nm (U := U) _ [] (fun a h => by cases h) hI.nm)
  have h3 : (keysOf (dirOf (s.cs ++ s.cp))).length = s.now.length := by unfold keysOf; rw [List.length_map]; rfl
  rw [List.length_map] at h1
  omega

theorem pendingB_ok (o : Own h0 h (dL d c s L)) (H : DOk B c s) (hI : s.Inv U N) (hN : N ≤ 1048576) (hl : U.length ≤ 12) (hK : ∀ h', Own h0 h' (dL d c s L) → K (.tuple #[I (mPending s).1, I (mPending s).2]) h') : callS Tryz.prog F_disk_Disk_Pending [ptr d] h K := by
  refine callS_of (lk_disk_Disk_Pending _ ?_)
  unfold sh_disk_Disk_Pending
  refine o.box fun w3 h1 o1 => ?_
  rw [pEq_ptr_nil, Option.isNone_some, ifV_false]
  refine callS_of (lk_disk_Disk_named _ ?_)
  unfold sh_disk_Disk_named
  refine o1.box fun b1 h2 o2 => ?_
  have o2 : Own h0 h2 (cellR b1 [ptr d] T_p_disk_Disk :: cellR w3 [I 0] T_int :: dL d c s L) := o2
  obtain ⟨es, clock, hm, t, ht, hf⟩ := o2.get 4 rfl
  have hU : ∀ a ∈ keysOf s.now, a ∈ U := dir_nm (U := U) _ [] (fun a h => by cases h) hI.nm
  have hinj : (s.now.map (·.2)).Nodup := dir_inj (s.cs ++ s.cp) [] .nil .nil hI.inj (fun n h => by cases h) hI.ok
  have hnl := named_len hI hl
  have pl : ∀ n, n < s.th.length → (s.getT n).pen.length ≤ 1048576 := fun n hn => by
    have := hI.lw _ (th_mem hn)
    unfold Th.all at this
    rw [List.length_append] at this; omega
  have o3 : Own h0 h2 (cellR b1 [ptr d] T_p_disk_Disk :: cellR w3 [I (((((namedL s.now s.th.length).take 0).map fun n => (s.getT n).pen.length).sum : Nat) : Int)] T_int :: cellR d (dC c s) T_disk_Disk :: kmapR QS c.dm (dirF (dirOf s.cs)) :: objR c.nm (.map es clock) :: kmapR QI c.tm (thF c.tc) :: slR encC 1 T_disk_change c.pv c.vs :: sepR (tsR c s) :: L) :=
    o2.conv 4 (r' := objR c.nm (.map es clock)) rfl hm fun b hb => hb
  refine o3.range (named_iter (b := b1) (d := d) (nm := c.nm) (tm := c.tm) (tc := c.tc) ht hf hU hl (keys_dirOf _) hinj (now_val hI)) (by rintro i y i' ⟨_, _, rfl⟩; rfl)
    (fun i Rs => i ≤ (namedL s.now s.th.length).length ∧ Rs = cellR b1 [ptr d] T_p_disk_Disk :: cellR w3 [I (((((namedL s.now s.th.length).take i).map fun n => (s.getT n).pen.length).sum : Nat) : Int)] T_int :: cellR d (dC c s) T_disk_Disk :: kmapR QS c.dm (dirF (dirOf s.cs)) :: objR c.nm (.map es clock) :: kmapR QI c.tm (thF c.tc) :: slR encC 1 T_disk_change c.pv c.vs :: sepR (tsR c s) :: L)
    (fun _ => False) (fun _ _ => False) ⟨Nat.zero_le _, rfl⟩ ?_ ?_ ?_ (fun _ _ h => h.elim) (fun _ _ _ h => h.elim)
  · rintro i Rs h' ⟨_, rfl⟩ o'
    exact ⟨hcell_of (o'.get 0 rfl) rfl, hcell_of (o'.get 2 rfl) rfl, hcell_of (o'.get 2 rfl) rfl, o'.get 4 rfl, o'.get 5 rfl⟩
  · rintro M i y i' Rs Pr h' R ⟨hi, rfl, rfl⟩ ⟨_, rfl⟩ o' hN' _ _
    have hmem : (namedL s.now s.th.length).getD i 0 ∈ namedL s.now s.th.length := by
      rw [List.getD_eq_getElem?_getD, List.getElem?_eq_getElem hi]; exact List.getElem_mem hi
    obtain ⟨j, x, hx, en, eth⟩ := named_tc H hI hmem
    dsimp only [valsOf]
    rw [eth]
    unfold sh_disk_Disk_Pending_B1
    refine o'.begin 0 rfl fun h4 o4 => ?_
    refine o4.load 3 rfl rfl ?_
    obtain ⟨f1, _, f3⟩ := ts_fact (o4.get 9 rfl) hx
    have hc1 : hcell h4 ⟨x.b, 1, none⟩ = some x.wv := hcell_of f1 rfl
    rw [show (Option.some (ptr x.b)).getD (Value.pointer none) = ptr x.b from rfl, pNil_ptr, pField_ptr]
    simp only [Nat.zero_add, pLoad_ptr, hc1]
    refine f3.len ?_
    have hb := sum_le (l := ((namedL s.now s.th.length).take i).map fun n => (s.getT n).pen.length) (m := 1048576) fun z hz => by
      obtain ⟨n, hn, rfl⟩ := List.mem_map.1 hz
      exact pl n (namedL_mem.1 (List.mem_of_mem_take hn)).1
    rw [List.length_map, List.length_take] at hb
    have hb2 : min i (namedL s.now s.th.length).length * 1048576 ≤ 12 * 1048576 := Nat.mul_le_mul_right _ (by omega)
    have hpx := pl x.n (H.lt x (List.mem_of_getElem? hx))
    rw [pBin_add, w64 (by omega) (by omega)]
    have es' : (((((namedL s.now s.th.length).take i).map fun n => (s.getT n).pen.length).sum : Nat) : Int) + ((s.getT x.n).pen.length : Int) = (((((namedL s.now s.th.length).take (i + 1)).map fun n => (s.getT n).pen.length).sum : Nat) : Int) := by
      rw [List.take_succ_eq_append_getElem hi, List.map_append, List.sum_append]
      have : (namedL s.now s.th.length)[i] = x.n := by
        rw [en, List.getD_eq_getElem?_getD, List.getElem?_eq_getElem hi]; rfl
      simp [this]
    rw [es']
    refine o4.st1 3 (cs' := [I (((((namedL s.now s.th.length).take (i + 1)).map fun n => (s.getT n).pen.length).sum : Nat) : Int)]) rfl rfl rfl rfl rfl fun h5 o5 => ?_
    exact hN' _ h5 ⟨by omega, rfl⟩ o5
  · rintro i h' Rs rfl ⟨_, rfl⟩ o'
    rw [List.take_length] at o'
    rw [pNil_ptr, pField_ptr]
    refine o'.load 3 rfl rfl ?_
    refine (o'.vw 7 rfl).len ?_
    refine o'.load 2 rfl rfl ?_
    refine o'.st1 2 (cs' := [I ((((namedL s.now s.th.length).map fun n => (s.getT n).pen.length).sum : Nat) : Int)]) rfl rfl rfl rfl rfl fun h5 o5 => ?_
    refine o5.take1 0 rfl fun h6 o6 => ?_
    refine o6.load 2 rfl rfl ?_
    rw [H.lv]
    have o7 := o6.conv 5 (r' := kmapR QS c.nm (dirF s.now)) rfl ⟨es, clock, o6.get 5 rfl, t, ht, hf⟩ fun b hb => hb
    exact hK h6 o7.tail.tail.tail

end
end Go.Proofs.YtdbkeklhjjlhbaaGreat

namespace Go.Proofs.YtdbkeklhjjlhbaaGreat
open Go Go.Mh
set_option linter.unusedVariables false

section
variable {h0 h : Heap} {L M ts l3 : List Res} {K : Value → Heap → Prop} {k d i : Nat} {c : DC} {s : Dk} {B : Bx} {x : TC} {U : List Nm} {N : Nat} {a b : Nm}

theorem out2 (o : Own h0 h M) (hk : M[k]? = some (sepR ts)) (hi : ts[i]? = some (sepR l3)) : Own h0 h (l3 ++ M.set k (sepR (ts.set i nilR))) := by
  have hkl := (List.getElem?_eq_some_iff.1 hk).1
  have hil := (List.getElem?_eq_some_iff.1 hi).1
  have o2 := (o.out k hk).out i (by rw [List.getElem?_append_left hil]; exact hi)
  rw [List.set_append_left _ _ hil] at o2
  have o3 : Own h0 h (ts.set i nilR ++ (M.set k nilR ++ l3)) := by rw [← List.append_assoc]; exact o2.comm
  have o4 := o3.back k (by rw [List.getElem?_append_left (by rw [List.length_set]; exact hkl), List.getElem?_set_self hkl])
  rw [List.set_append_left _ _ (by rw [List.length_set]; exact hkl), List.set_set] at o4
  exact o4.comm

theorem back2 (o : Own h0 h (l3 ++ M)) (hk : M[k]? = some (sepR ts)) (hi : ts[i]? = some nilR) : Own h0 h (M.set k (sepR (ts.set i (sepR l3)))) := by
  have hkl := (List.getElem?_eq_some_iff.1 hk).1
  have hil := (List.getElem?_eq_some_iff.1 hi).1
  have o1 := (o.comm).out k (by rw [List.getElem?_append_left hkl]; exact hk)
  rw [List.set_append_left _ _ hkl] at o1
  have o2 : Own h0 h (l3 ++ (ts ++ M.set k nilR)) := by
    have := o1.comm
    rw [List.append_assoc] at this
    have := this.comm
    rw [List.append_assoc] at this
    exact this
  have o3 := o2.back i (by rw [List.getElem?_append_left hil]; exact hi)
  rw [List.set_append_left _ _ hil] at o3
  have o4 := o3.back k (by rw [List.getElem?_set_self hkl])
  rwa [List.set_set] at o4

theorem sep_sub {l l' : List Res} (hs : l'.Sublist l) (q : (sepR l).Q h) : (sepR l').Q h := by
  have key : ∀ {l l' : List Res}, l'.Sublist l → (∀ {i j : Nat} {r s : Res}, l[i]? = some r → l[j]? = some s → i ≠ j → ∀ b, r.F b → ¬ s.F b) → ∀ {i j : Nat} {r s : Res}, l'[i]? = some r → l'[j]? = some s → i ≠ j → ∀ b, r.F b → ¬ s.F b := by
    intro l l' hs
    induction hs with
    | slnil => intro H; exact H
    | cons a hs ih => intro H; exact ih fun {i j r s} hi hj hne => H (i := i + 1) (j := j + 1) hi hj (by omega)
    | cons_cons a hs ih =>
      intro H i j r s hi hj hne
      have ih' : ∀ {i j : Nat} {r s : Res}, _ → _ → _ → ∀ b, r.F b → ¬ s.F b := @ih fun {i j r s} hi hj hne => H (i := i + 1) (j := j + 1) hi hj (by omega)
      cases i with
      | zero =>
        cases j with
        | zero => exact absurd rfl hne
        | succ j =>
          obtain ⟨q, hq⟩ := List.getElem?_of_mem (hs.mem (List.mem_of_getElem? (i := j) (a := s) (by simpa using hj)))
          exact H (i := 0) (j := q + 1) hi hq (by omega)
      | succ i =>
        cases j with
        | zero =>
          obtain ⟨q, hq⟩ := List.getElem?_of_mem (hs.mem (List.mem_of_getElem? (i := i) (a := r) (by simpa using hi)))
          exact H (i := q + 1) (j := 0) hq hj (by omega)
        | succ j => exact ih' hi hj (by omega)
  exact ⟨fun r hr => q.1 r (hs.mem hr), key hs q.2⟩

/-! ### Fates -/

/-- A row; an empty one may begin anywhere. -/
def VwE (h : Heap) (v : Value) (fs : List Int) : Prop := Vw encU8 1 h v fs ∨ (fs = [] ∧ ∃ a, v = .slice (some a) 0 0)

theorem VwE.len {v : Value} {fs : List Int} {K : Value → Prop} (H : VwE h v fs) (hK : K (I fs.length)) : pLen v K := by
  rcases H with H | ⟨rfl, a, rfl⟩
  · exact H.len hK
  · exact hK
theorem VwE.one {v : Value} {fs : List Int} (H : VwE h v fs) : v.cells = #[v] := by
  rcases H with H | ⟨rfl, a, rfl⟩
  · exact H.one
  · rfl

/-- A row of fates, as long as there is L. -/
def FV (h0 : Heap) (L : List Res) (v : Value) (fs : List Int) : Prop := ∀ Rs h', Own h0 h' (Rs ++ L) → VwE h' v fs

def FA (fv0 : Value) (fs0 : List Int) (fv : Value) (fs : List Int) : Prop := ∀ h', VwE h' fv0 fs0 → VwE h' fv fs

theorem nextF_ok {f : Nat} {fv0 fv : Value} {fs0 fs : List Int} {Rs : List Res} (o : Own h0 h (Rs ++ L)) (hi : (Rs ++ L)[i]? = some (cellR f [fv] T_sl_uint8)) (hf : FV h0 L fv0 fs0) (hA : FA fv0 fs0 fv fs) (hr : ∀ z ∈ fs, 0 ≤ z ∧ z ≤ 255) (hl : fs.length < 2 ^ 40)
    (hK : ∀ fv' h', FA fv0 fs0 fv' fs.tail → Own h0 h' ((Rs ++ L).set i (cellR f [fv'] T_sl_uint8)) → K (I (fateOf fs)) h') : callV Tryz.prog (.func (.func F_disk_Disk_Crash_1) #[] #[ptr f]) [].toArray h K := by
  refine callV_of (l := [ptr f]) rfl (lk_disk_Disk_Crash_1 _ ?_)
  unfold sh_disk_Disk_Crash_1
  refine o.load i hi rfl ?_
  have H := hA _ (hf _ _ o)
  refine H.len ?_
  rw [pBin_eql, ifV_beq]
  refine ⟨fun he => ?_, fun hne => ?_⟩
  · have : fs = [] := List.eq_nil_of_length_eq_zero (by omega)
    subst this
    exact hK fv h hA (by rw [setSame hi]; exact o)
  · obtain ⟨z, r, rfl⟩ : ∃ z r, fs = z :: r := by
      cases fs with
      | nil => simp at hne
      | cons z r => exact ⟨z, r, rfl⟩
    have H := H.resolve_right fun h => by cases h.1
    refine o.load i hi rfl ?_
    refine H.at1 (e := fun (z : Int) => Value.int .u8 z) (i := 0) (fun _ => rfl) (by simp) ?_
    have hz := hr z List.mem_cons_self
    show pConv .i64 (.int .u8 z) _
    rw [pConv_int, w64 (by omega) (by omega)]
    refine o.load i hi rfl ?_
    refine H.subA (a := 1) (j := (z :: r).length) (fun _ => rfl) rfl rfl (by simp) (Nat.le_refl _) fun v' hv' => ?_
    have hv1 : ∀ h', Vw encU8 1 h' fv (z :: r) → Vw encU8 1 h' v' r := fun h' hh => by
      have := hv' h' hh
      simpa using this
    have hvh := hv1 h H
    refine o.st1 i (cs' := [v']) hi rfl rfl hvh.one hvh.plain fun h2 o2 => ?_
    have e : ((fateOf (z :: r) : Nat) : Int) = z := by show ((z.toNat : Nat) : Int) = z; omega
    rw [e] at hK
    exact hK v' h2 (fun h' o' => .inl (hv1 h' ((hA h' o').resolve_right fun h => by cases h.1))) o2

/-- The first of a thing's writes. -/
theorem crW_step {w : Wr} {r acc : List Wr} {f : List Int} : (acc ++ (crW (w :: r) f).1, (crW (w :: r) f).2) = ((if fateOf f % 2 = 1 then acc ++ [w] else acc) ++ (crW r f.tail).1, (crW r f.tail).2) := by
  rw [crW]
  split <;> simp

end
end Go.Proofs.YtdbkeklhjjlhbaaGreat

namespace Go.Proofs.YtdbkeklhjjlhbaaGreat
open Go Go.Mh
set_option linter.unusedVariables false

section
variable {h0 h : Heap} {L M ts l3 : List Res} {K : Value → Heap → Prop} {k d i : Nat} {c : DC} {s : Dk} {B : Bx} {x : TC} {U : List Nm} {N : Nat} {a b : Nm}

/-- What lies there while a crash goes through the things. -/
def crL (b1 k8 km nx f3 d m' : Nat) (fv : Value) (es : Array MapEntry) (clock : Nat) (kept : List Nat) (cd : List Value) (dm tm : Nat) (D' : Dir) (tc0 tc : List TC) (s : Dk) (R : List Res) : List Res :=
  cellR b1 [ptr d] T_p_disk_Disk :: cellR k8 [.map (some km)] T_map_int_p_disk_thing :: kmapR QI km (fun z => if ∃ m ∈ kept, (m : Int) = z then thF tc0 z else none) :: cellR nx [.func (.func F_disk_Disk_Crash_1) #[] #[ptr f3]] T_func_int_v2 ::
    cellR f3 [fv] T_sl_uint8 :: cellR d cd T_disk_Disk :: kmapR QS dm (dirF D') :: objR m' (.map es clock) :: kmapR QI tm (thF tc0) :: sepR (tc.map fun x => sepR (tRs s x)) :: R

/-- A thing gone through. -/
theorem crThing_ok {b1 k8 km nx f3 m' lp mk : Nat} {fv0 fv : Value} {fs0 fs : List Int} {es : Array MapEntry} {clock : Nat} {kept : List Nat} {cd : List Value} {dm tm : Nat} {D' : Dir} {tc0 tc : List TC} {R Pr : List Res} {Lo : Loop} {KP : Exit → Heap → Prop}
    (o : Own h0 h (loopR lp (lo Lo .busy none) :: markR mk :: (crL b1 k8 km nx f3 d m' fv es clock kept cd dm tm D' tc0 tc s (R ++ L) ++ Pr)))
    (hx : tc[i]? = some x) (hnd : (tc.map (·.n)).Nodup) (hlt : x.n < s.th.length) (hth : thF tc0 x.n = some (ptr x.b))
    (hf : FV h0 (L ++ Pr) fv0 fs0) (hA : FA fv0 fs0 fv fs) (hr : ∀ z ∈ fs, 0 ≤ z ∧ z ≤ 255) (hl : fs.length < 2 ^ 40) (hw : ∀ w ∈ (s.getT x.n).all, w.off + w.s.size ≤ 1048576) (hN : (s.getT x.n).all.length ≤ 1048576)
    (hK : ∀ fv' dv' wv' h', FA fv0 fs0 fv' (crW (s.getT x.n).pen fs).2 →
      Own h0 h' (loopR lp (lo Lo .busy none) :: markR mk :: (crL b1 k8 km nx f3 d m' fv' es clock (kept ++ [x.n]) cd dm tm D' tc0 (tc.set i ⟨x.n, x.b, dv', wv'⟩) (modTh s x.n fun t => ⟨t.syn ++ (crW t.pen fs).1, []⟩) (R ++ L) ++ Pr)) → KP .normal h') :
    pNil (ptr x.b) fun t61 => pField 1 t61 fun t62 => pLoad h t62 fun t63 => pLen t63 fun t64 =>
      LoopH (σ := Vals [65]) (fun y hh ZZ => sh_disk_Disk_Crash_L3 Tryz.prog t64 t63 (ptr nx) (ptr x.b) (ptr k8) (I x.n) KP y.1 hh (fun a0 hz => ZZ (a0, ()) hz)) ((.int .i64 0), ()) h := by
  have hil : i < tc.length := (List.getElem?_eq_some_iff.1 hx).1
  have hts : (tc.map fun x => sepR (tRs s x))[i]? = some (sepR (tRs s x)) := by rw [List.getElem?_map, hx]; rfl
  have o1 := out2 o (k := 11) rfl hts
  generalize hE : (tc.map fun x => sepR (tRs s x)).set i nilR = tsn at o1
  have hpl : (s.getT x.n).syn.length + (s.getT x.n).pen.length ≤ 1048576 := by
    unfold Th.all at hN; rw [List.length_append] at hN; exact hN
  -- the list with the thing open
  let M : Value → List Res := fun fv => loopR lp (lo Lo .busy none) :: markR mk :: cellR b1 [ptr d] T_p_disk_Disk :: cellR k8 [.map (some km)] T_map_int_p_disk_thing :: kmapR QI km (fun z => if ∃ m ∈ kept, (m : Int) = z then thF tc0 z else none) :: cellR nx [.func (.func F_disk_Disk_Crash_1) #[] #[ptr f3]] T_func_int_v2 ::
    cellR f3 [fv] T_sl_uint8 :: cellR d cd T_disk_Disk :: kmapR QS dm (dirF D') :: objR m' (.map es clock) :: kmapR QI tm (thF tc0) :: sepR tsn :: (R ++ (L ++ Pr))
  have o2 : Own h0 h (cellR x.b [x.dv, x.wv] T_disk_thing :: slR encB8 1 T_uint8 x.dv (bytesOf (s.getT x.n).syn) :: slR encW 2 T_disk_write x.wv (s.getT x.n).pen :: M fv) := by
    have : Own h0 h (tRs s x ++ (loopR lp (lo Lo .busy none) :: markR mk :: cellR b1 [ptr d] T_p_disk_Disk :: cellR k8 [.map (some km)] T_map_int_p_disk_thing :: kmapR QI km (fun z => if ∃ m ∈ kept, (m : Int) = z then thF tc0 z else none) :: cellR nx [.func (.func F_disk_Disk_Crash_1) #[] #[ptr f3]] T_func_int_v2 ::
      cellR f3 [fv] T_sl_uint8 :: cellR d cd T_disk_Disk :: kmapR QS dm (dirF D') :: objR m' (.map es clock) :: kmapR QI tm (thF tc0) :: sepR tsn :: ((R ++ L) ++ Pr))) := o1
    rw [List.append_assoc R L Pr] at this
    exact this
  clear o o1
  rw [pNil_ptr, pField_ptr]
  refine o2.load 0 rfl rfl ?_
  refine (o2.vw 2 rfl).len ?_
  have Hw0 := o2.vw 2 rfl
  refine LoopH_count (s.getT x.n).pen.length (fun j y h' => y.1 = I j ∧ ∃ dv fvj fj acc, FA fv0 fs0 fvj fj ∧ (∀ z ∈ fj, 0 ≤ z ∧ z ≤ 255) ∧ fj.length < 2 ^ 40 ∧ (∀ w ∈ acc, w ∈ (s.getT x.n).pen) ∧ acc.length ≤ j ∧ crW (s.getT x.n).pen fs = (acc ++ (crW ((s.getT x.n).pen.drop j) fj).1, (crW ((s.getT x.n).pen.drop j) fj).2) ∧
    Own h0 h' (cellR x.b [dv, x.wv] T_disk_thing :: slR encB8 1 T_uint8 dv (bytesOf ((s.getT x.n).syn ++ acc)) :: slR encW 2 T_disk_write x.wv (s.getT x.n).pen :: M fvj)) ⟨rfl, x.dv, fv, fs, [], hA, hr, hl, fun _ h => (by cases h), Nat.le_refl _, by simp, by rw [List.append_nil]; exact o2⟩ ?_
  clear o2
  rintro j ⟨y, ⟨⟩⟩ h1 Z hj ⟨hy, dv, fvj, fj, acc, hfj, hrj, hlj, hacc, hal, hcr, o⟩ hZ
  dsimp only at hy hZ ⊢
  subst hy
  unfold sh_disk_Disk_Crash_L3
  rw [pBin_lss, ifV_dec]
  refine ⟨fun hlt => ?_, fun hge => ?_⟩
  · have hj' : j < (s.getT x.n).pen.length := by omega
    have hdr : (s.getT x.n).pen.drop j = (s.getT x.n).pen[j] :: (s.getT x.n).pen.drop (j + 1) := List.drop_eq_getElem_cons hj'
    rw [hdr, crW_step] at hcr
    have hwj := List.getElem_mem hj'
    generalize (s.getT x.n).pen[j] = w at hdr hcr hwj
    have hgw : (s.getT x.n).pen[j]'hj' = (s.getT x.n).pen[j]'hj' := rfl
    refine (o.vw 2 rfl).atN (fun _ => rfl) hj' ?_
    have hwe : (s.getT x.n).pen[j]'hj' = w := by
      have := congrArg List.head? hdr
      rw [List.head?_drop, List.getElem?_eq_getElem hj'] at this
      exact Option.some.inj this
    rw [hwe]
    refine o.box fun w12 h2 o2 => ?_
    refine o2.st (l := encW w) (cs' := encW w) 0 rfl rfl rfl rfl rfl (fun u hu => encW_plain _ u hu) fun h3 o3 => ?_
    have o3 : Own h0 h3 (cellR w12 (encW w) T_disk_write :: cellR x.b [dv, x.wv] T_disk_thing :: slR encB8 1 T_uint8 dv (bytesOf ((s.getT x.n).syn ++ acc)) :: slR encW 2 T_disk_write x.wv (s.getT x.n).pen :: M fvj) := o3
    refine o3.load 9 rfl rfl ?_
    have hwb := hw w (List.mem_append_right _ hwj)
    refine nextF_ok (L := L ++ Pr) (Rs := cellR w12 (encW w) T_disk_write :: cellR x.b [dv, x.wv] T_disk_thing :: slR encB8 1 T_uint8 dv (bytesOf ((s.getT x.n).syn ++ acc)) :: slR encW 2 T_disk_write x.wv (s.getT x.n).pen :: loopR lp (lo Lo .busy none) :: markR mk :: cellR b1 [ptr d] T_p_disk_Disk :: cellR k8 [.map (some km)] T_map_int_p_disk_thing :: kmapR QI km (fun z => if ∃ m ∈ kept, (m : Int) = z then thF tc0 z else none) :: cellR nx [.func (.func F_disk_Disk_Crash_1) #[] #[ptr f3]] T_func_int_v2 ::
      cellR f3 [fvj] T_sl_uint8 :: cellR d cd T_disk_Disk :: kmapR QS dm (dirF D') :: objR m' (.map es clock) :: kmapR QI tm (thF tc0) :: sepR tsn :: R) (i := 10) o3 rfl hf hfj hrj hlj fun fv' h4 hf4 o4 => ?_
    have o4 : Own h0 h4 (cellR w12 (encW w) T_disk_write :: cellR x.b [dv, x.wv] T_disk_thing :: slR encB8 1 T_uint8 dv (bytesOf ((s.getT x.n).syn ++ acc)) :: slR encW 2 T_disk_write x.wv (s.getT x.n).pen :: M fv') := o4
    have hr4 : ∀ z ∈ fj.tail, 0 ≤ z ∧ z ≤ 255 := fun z hz => hrj z (List.mem_of_mem_tail hz)
    have hl4 : fj.tail.length < 2 ^ 40 := by rw [List.length_tail]; omega
    rw [pBin_rem]
    refine ⟨by decide, ?_⟩
    rw [show ((fateOf fj : Nat) : Int).tmod 2 = ((fateOf fj % 2 : Nat) : Int) by rw [Int.tmod_eq_emod_of_nonneg (by omega)]; omega, pBin_eql, ifV_beq]
    refine ⟨fun h1' => ?_, fun h0' => ?_⟩
    · have hodd : fateOf fj % 2 = 1 := by omega
      rw [if_pos hodd] at hcr
      rw [pNil_ptr, pField_ptr]
      refine o4.load 1 rfl rfl ?_
      refine o4.ldN (cs' := encW w) 0 rfl rfl rfl ?_
      have hsub : ∀ y ∈ (s.getT x.n).syn ++ acc, y.off + y.s.size ≤ 1048576 := fun y hy => by
        rcases List.mem_append.1 hy with hy | hy
        · exact hw y (List.mem_append_left _ hy)
        · exact hw y (List.mem_append_right _ (hacc y hy))
      refine putB_ok (w := w) o4 2 rfl (bytes_len hsub) hwb fun v' h5 o5 => ?_
      rw [pNil_ptr, pField_ptr]
      have hv := o5.vw 2 rfl
      refine o5.st1 1 (cs' := [v', x.wv]) rfl rfl rfl hv.one hv.plain fun h6 o6 => ?_
      unfold sh_disk_Disk_Crash_k4
      rw [pBin_add, wI j (by omega)]
      refine hZ (_, ()) h6 hj' ⟨rfl, v', fv', fj.tail, acc ++ [w], hf4, hr4, hl4, fun y hy => ?_, by rw [List.length_append]; simp; omega, hcr, ?_⟩
      · rcases List.mem_append.1 hy with hy | hy
        · exact hacc y hy
        · rw [List.mem_singleton.1 hy]; exact hwj
      · have e : bytesOf ((s.getT x.n).syn ++ (acc ++ [w])) = putW (bytesOf ((s.getT x.n).syn ++ acc)) w := by
          unfold bytesOf; rw [← List.append_assoc, List.foldl_append]; rfl
        rw [e]
        exact o6.tail
    · have heven : ¬ fateOf fj % 2 = 1 := by omega
      rw [if_neg heven] at hcr
      unfold sh_disk_Disk_Crash_k4
      rw [pBin_add, wI j (by omega)]
      exact hZ (_, ()) h4 hj' ⟨rfl, dv, fv', fj.tail, acc, hf4, hr4, hl4, hacc, by omega, hcr, o4.tail⟩
  · have hd : (s.getT x.n).pen.drop j = [] := List.drop_eq_nil_of_le (by omega)
    rw [hd] at hcr
    simp only [crW, List.append_nil] at hcr
    rw [pNil_ptr, pField_ptr]
    refine o.st1 0 (cs' := [dv, .slice none 0 0]) rfl rfl rfl rfl rfl fun h2 o2 => ?_
    have o2 : Own h0 h2 (cellR x.b [dv, .slice none 0 0] T_disk_thing :: slR encB8 1 T_uint8 dv (bytesOf ((s.getT x.n).syn ++ acc)) :: slR encW 2 T_disk_write x.wv (s.getT x.n).pen :: M fvj) := o2
    refine o2.load 6 rfl rfl ?_
    refine o2.kput (Q := QI) (k := (x.n : Int)) (f' := fun z => if ∃ m ∈ kept ++ [x.n], (m : Int) = z then thF tc0 z else none) 7 rfl (fun z => ?_) fun h3 o3 => ?_
    · unfold KM.fset
      by_cases e : z = (x.n : Int)
      · subst e
        rw [if_pos ⟨x.n, by simp, rfl⟩, if_pos rfl, hth]
      · rw [if_neg e]
        congr 1
        simp only [List.mem_append, List.mem_singleton, eq_iff_iff]
        constructor
        · rintro ⟨m, hm | hm, e'⟩
          · exact ⟨m, hm, e'⟩
          · subst hm; exact absurd e'.symm e
        · rintro ⟨m, hm, e'⟩; exact ⟨m, .inl hm, e'⟩
    · have o4 := Own.nilS (enc := encW) (n := 2) (T := T_disk_write) o3
      have o5 := o4.front 4 [1, 2, 0] (by decide) (by decide)
      have o6 : Own h0 h3 ([cellR x.b [dv, .slice none 0 0] T_disk_thing, slR encB8 1 T_uint8 dv (bytesOf ((s.getT x.n).syn ++ acc)), slR encW 2 T_disk_write (.slice none 0 0) []] ++ (loopR lp (lo Lo .busy none) :: markR mk :: cellR b1 [ptr d] T_p_disk_Disk :: cellR k8 [.map (some km)] T_map_int_p_disk_thing :: kmapR QI km (fun z => if ∃ m ∈ kept ++ [x.n], (m : Int) = z then thF tc0 z else none) :: cellR nx [.func (.func F_disk_Disk_Crash_1) #[] #[ptr f3]] T_func_int_v2 ::
        cellR f3 [fvj] T_sl_uint8 :: cellR d cd T_disk_Disk :: kmapR QS dm (dirF D') :: objR m' (.map es clock) :: kmapR QI tm (thF tc0) :: sepR tsn :: (R ++ (L ++ Pr)))) := o5
      have hni : tsn[i]? = some nilR := by rw [← hE, List.getElem?_set_self (by simpa using hil)]
      have o7 := back2 o6 (k := 11) rfl hni
      have e1 : tsn.set i (sepR [cellR x.b [dv, .slice none 0 0] T_disk_thing, slR encB8 1 T_uint8 dv (bytesOf ((s.getT x.n).syn ++ acc)), slR encW 2 T_disk_write (.slice none 0 0) []]) =
          (tc.set i ⟨x.n, x.b, dv, .slice none 0 0⟩).map fun y => sepR (tRs (modTh s x.n fun t => ⟨t.syn ++ (crW t.pen fs).1, []⟩) y) := by
        rw [← hE, List.set_set]
        apply List.ext_getElem?
        intro n
        by_cases e : n = i
        · subst e
          rw [List.getElem?_set_self (by simpa using hil), List.getElem?_map, List.getElem?_set_self hil]
          simp only [Option.map_some]
          unfold tRs
          dsimp only
          rw [getT_mod hlt, if_pos rfl, hcr]
          rfl
        · rw [List.getElem?_set_ne (fun h => e h.symm), List.getElem?_map, List.getElem?_map, List.getElem?_set_ne (fun h => e h.symm)]
          cases hy : tc[n]? with
          | none => rfl
          | some y =>
            have hne : y.n ≠ x.n := fun e' => e (by
              have hn := (List.getElem?_eq_some_iff.1 hy)
              have hxx := (List.getElem?_eq_some_iff.1 hx)
              exact (List.getElem_inj (i := n) (j := i) (h₀ := by simpa using hn.1) (h₁ := by simpa using hxx.1) hnd).1 (by simp [hn.2, hxx.2, e']))
            simp only [Option.map_some]
            unfold tRs
            rw [getT_mod hlt, if_neg hne]
      have o8 : Own h0 h3 (loopR lp (lo Lo .busy none) :: markR mk :: cellR b1 [ptr d] T_p_disk_Disk :: cellR k8 [.map (some km)] T_map_int_p_disk_thing :: kmapR QI km (fun z => if ∃ m ∈ kept ++ [x.n], (m : Int) = z then thF tc0 z else none) :: cellR nx [.func (.func F_disk_Disk_Crash_1) #[] #[ptr f3]] T_func_int_v2 ::
        cellR f3 [fvj] T_sl_uint8 :: cellR d cd T_disk_Disk :: kmapR QS dm (dirF D') :: objR m' (.map es clock) :: kmapR QI tm (thF tc0) :: sepR (tsn.set i (sepR [cellR x.b [dv, .slice none 0 0] T_disk_thing, slR encB8 1 T_uint8 dv (bytesOf ((s.getT x.n).syn ++ acc)), slR encW 2 T_disk_write (.slice none 0 0) []])) :: (R ++ (L ++ Pr))) := o7
      rw [e1, ← List.append_assoc] at o8
      refine hK fvj dv (.slice none 0 0) h3 (by rw [hcr]; exact hfj) ?_
      exact o8

end
end Go.Proofs.YtdbkeklhjjlhbaaGreat

namespace Go.Proofs.YtdbkeklhjjlhbaaGreat
open Go Go.Mh
set_option linter.unusedVariables false

section
variable {h0 h : Heap} {L M ts l3 : List Res} {K : Value → Heap → Prop} {k d i : Nat} {c : DC} {s : Dk} {B : Bx} {x : TC} {U : List Nm} {N : Nat} {a b : Nm}

theorem FV.more {v : Value} {fs : List Int} (H : FV h0 L v fs) (P : List Res) : FV h0 (L ++ P) v fs := fun Rs h' o => by
  rw [← List.append_assoc] at o
  exact H Rs h' o.left
theorem FV.cons {v : Value} {fs : List Int} {r : Res} (H : FV h0 L v fs) : FV h0 (r :: L) v fs := fun Rs h' o => by
  refine H (Rs ++ [r]) h' ?_
  rw [List.append_assoc]; exact o

/-- The state behind the first things. -/
def crS (s : Dk) (ns : List Nat) (f : List Int) : List Th × List Int := ns.foldl crT (s.th, f)

theorem crS_snoc {ns : List Nat} {n : Nat} {f : List Int} : crS s (ns ++ [n]) f = crT (crS s ns f) n := by simp [crS]

theorem crT_len {y : List Th × List Int} {n : Nat} : (crT y n).1.length = y.1.length := by unfold crT; simp
theorem crS_len {ns : List Nat} {f : List Int} : (crS s ns f).1.length = s.th.length := by
  unfold crS
  have : ∀ (ns : List Nat) (y : List Th × List Int), (ns.foldl crT y).1.length = y.1.length := by
    intro ns
    induction ns with
    | nil => intro y; rfl
    | cons n ns ih => intro y; rw [List.foldl_cons, ih, crT_len]
  exact this ns _

theorem crW_sub : ∀ {l : List Wr} {f : List Int} {w : Wr}, w ∈ (crW l f).1 → w ∈ l
  | [], _, _, h => by simp [crW] at h
  | v :: l, f, w, h => by
    rw [crW] at h
    split at h
    · rcases List.mem_cons.1 h with rfl | h
      · exact List.mem_cons_self
      · exact List.mem_cons_of_mem _ (crW_sub h)
    · exact List.mem_cons_of_mem _ (crW_sub h)
theorem crW_len : ∀ {l : List Wr} {f : List Int}, (crW l f).1.length ≤ l.length
  | [], _ => Nat.le_refl _
  | v :: l, f => by
    have := crW_len (l := l) (f := f.tail)
    rw [crW]
    split
    · simp only [List.length_cons]; omega
    · simp only [List.length_cons]; omega
theorem crW_fs : ∀ {l : List Wr} {f : List Int}, (∀ z ∈ (crW l f).2, z ∈ f) ∧ (crW l f).2.length ≤ f.length
  | [], f => ⟨fun _ h => h, Nat.le_refl _⟩
  | v :: l, f => by
    have ih := crW_fs (l := l) (f := f.tail)
    have ht : f.tail.length ≤ f.length := by rw [List.length_tail]; omega
    rw [crW]
    split
    · exact ⟨fun z hz => List.mem_of_mem_tail (ih.1 z hz), by dsimp only; omega⟩
    · exact ⟨fun z hz => List.mem_of_mem_tail (ih.1 z hz), by omega⟩

/-- What is known of things holds of them while they are gone through. -/
theorem crS_inv (hl : ∀ t ∈ s.th, t.all.length ≤ N) (hw : ∀ t ∈ s.th, ∀ w ∈ t.all, w.off + w.s.size ≤ 1048576) (ns : List Nat) (f : List Int) :
    (∀ t ∈ (crS s ns f).1, t.all.length ≤ N ∧ ∀ w ∈ t.all, w.off + w.s.size ≤ 1048576) ∧ (∀ z ∈ (crS s ns f).2, z ∈ f) ∧ (crS s ns f).2.length ≤ f.length := by
  unfold crS
  have : ∀ (ns : List Nat) (y : List Th × List Int), (∀ t ∈ y.1, t.all.length ≤ N ∧ ∀ w ∈ t.all, w.off + w.s.size ≤ 1048576) →
      (∀ t ∈ (ns.foldl crT y).1, t.all.length ≤ N ∧ ∀ w ∈ t.all, w.off + w.s.size ≤ 1048576) ∧ (∀ z ∈ (ns.foldl crT y).2, z ∈ y.2) ∧ (ns.foldl crT y).2.length ≤ y.2.length := by
    intro ns
    induction ns with
    | nil => intro y hy; exact ⟨hy, fun _ h => h, Nat.le_refl _⟩
    | cons n ns ih =>
      intro y hy
      have hf := crW_fs (l := (y.1.getD n default).pen) (f := y.2)
      obtain ⟨h1, h2, h3⟩ := ih (crT y n) fun t ht => by
        unfold crT at ht
        obtain ⟨j, hj, rfl⟩ := List.mem_iff_getElem.1 ht
        rw [List.getElem_modify]
        have hj' : j < y.1.length := by simpa using hj
        have hm := hy _ (List.getElem_mem hj')
        split
        · obtain ⟨m1, m2⟩ := hm
          unfold Th.all at m1 m2 ⊢
          dsimp only
          rw [List.append_nil]
          refine ⟨?_, fun w hw' => ?_⟩
          · have := crW_len (l := y.1[j].pen) (f := y.2)
            rw [List.length_append] at m1 ⊢; omega
          · rcases List.mem_append.1 hw' with hw' | hw'
            · exact m2 w (List.mem_append_left _ hw')
            · exact m2 w (List.mem_append_right _ (crW_sub hw'))
        · exact hm
      exact ⟨h1, fun z hz => hf.1 z (h2 z hz), Nat.le_trans h3 hf.2⟩
  exact this ns (s.th, f) fun t ht => ⟨hl t ht, hw t ht⟩

theorem getD_mod {l : List Th} {n m : Nat} {f : Th → Th} (hn : m ≠ n) : (l.modify n f).getD m default = l.getD m default := by
  simp only [List.getD_eq_getElem?_getD, List.getElem?_modify]
  have e' : ¬ n = m := fun h => hn h.symm
  simp [e']

/-- A thing that was not gone through yet is as it was. -/
theorem crS_get {ns : List Nat} {n : Nat} {f : List Int} (hn : n ∉ ns) : (crS s ns f).1.getD n default = s.getT n := by
  unfold crS
  have : ∀ (ns : List Nat) (y : List Th × List Int), n ∉ ns → (ns.foldl crT y).1.getD n default = y.1.getD n default := by
    intro ns
    induction ns with
    | nil => intro y _; rfl
    | cons m ns ih =>
      intro y hn
      rw [List.foldl_cons, ih _ (fun h => hn (List.mem_cons_of_mem _ h))]
      unfold crT
      exact getD_mod fun e => hn (by rw [e]; exact List.mem_cons_self)
  exact this ns _ hn

theorem crT_mod {y : List Th × List Int} {n : Nat} {s' : Dk} (h : s'.th = y.1) : (modTh s' n fun t => ⟨t.syn ++ (crW t.pen y.2).1, []⟩) = { s' with th := (crT y n).1 } := by
  unfold modTh crT; rw [h]

end
end Go.Proofs.YtdbkeklhjjlhbaaGreat

namespace Go.Proofs.YtdbkeklhjjlhbaaGreat
open Go Go.Mh
set_option linter.unusedVariables false

section
variable {h0 h : Heap} {L M ts l3 : List Res} {K : Value → Heap → Prop} {k d i : Nat} {c : DC} {s : Dk} {B : Bx} {x : TC} {U : List Nm} {N : Nat} {a b : Nm}

theorem nb_get {tc tc' : List TC} (h : tc'.map (fun x => (x.n, x.b)) = tc.map (fun x => (x.n, x.b))) {i : Nat} {x : TC} (hx : tc[i]? = some x) : ∃ x', tc'[i]? = some x' ∧ x'.n = x.n ∧ x'.b = x.b := by
  have h1 := congrArg (·[i]?) h
  simp only [List.getElem?_map, hx, Option.map_some] at h1
  cases hy : tc'[i]? with
  | none => rw [hy] at h1; cases h1
  | some y => rw [hy] at h1; injection h1 with h1; injection h1 with h2 h3; exact ⟨y, rfl, h2, h3⟩

theorem nb_nums {tc tc' : List TC} (h : tc'.map (fun x => (x.n, x.b)) = tc.map (fun x => (x.n, x.b))) : tc'.map (·.n) = tc.map (·.n) := by
  have := congrArg (List.map Prod.fst) h
  simpa [List.map_map, Function.comp_def] using this

theorem nb_thF {tc tc' : List TC} (h : tc'.map (fun x => (x.n, x.b)) = tc.map (fun x => (x.n, x.b))) : thF tc' = thF tc := by
  funext z
  unfold thF
  induction tc generalizing tc' with
  | nil => rw [List.map_eq_nil_iff.1 h]
  | cons y tc ih =>
    cases tc' with
    | nil => cases h
    | cons y' tc' =>
      simp only [List.map_cons, List.cons.injEq] at h
      obtain ⟨h1, h2⟩ := h
      injection h1 with h3 h4
      simp only [List.find?_cons, h3]
      split
      · simp [h4]
      · exact ih h2

theorem nb_set {tc tc' : List TC} (h : tc'.map (fun x => (x.n, x.b)) = tc.map (fun x => (x.n, x.b))) {i : Nat} {x : TC} (hx : tc'[i]? = some x) (dv wv : Value) : (tc'.set i ⟨x.n, x.b, dv, wv⟩).map (fun x => (x.n, x.b)) = tc.map (fun x => (x.n, x.b)) := by
  rw [List.map_set, ← h]
  apply List.ext_getElem?
  intro n
  by_cases e : n = i
  · subst e
    rw [List.getElem?_set_self (by simpa using (List.getElem?_eq_some_iff.1 hx).1), List.getElem?_map, hx]; rfl
  · rw [List.getElem?_set_ne (fun h => e h.symm)]

theorem thF_filter {tc : List TC} {ns : List Nat} : thF (tc.filter fun x => decide (x.n ∈ ns)) = fun z => if ∃ m ∈ ns, (m : Int) = z then thF tc z else none := by
  funext z
  unfold thF
  induction tc with
  | nil => simp
  | cons y tc ih =>
    rw [List.filter_cons]
    by_cases hy : y.n ∈ ns
    · rw [decide_eq_true hy]
      simp only [if_true, List.find?_cons]
      by_cases e : (y.n : Int) = z
      · rw [decide_eq_true e, if_pos ⟨y.n, hy, e⟩]
      · rw [decide_eq_false e]; exact ih
    · rw [decide_eq_false hy]
      simp only [Bool.false_eq_true, if_false, List.find?_cons]
      rw [ih]
      by_cases hz : ∃ m ∈ ns, (m : Int) = z
      · rw [if_pos hz, if_pos hz]
        have e : ¬ (y.n : Int) = z := fun e => by
          obtain ⟨m, hm, e'⟩ := hz
          have : m = y.n := by omega
          exact hy (this ▸ hm)
        rw [decide_eq_false e]
      · rw [if_neg hz, if_neg hz]

/-- Behind the changes that stay. -/
theorem crashT_ok {nx f3 : Nat} {fv0 fv : Value} {fs0 fs : List Int} {k : Nat} (hk : k ≤ s.cp.length)
    (o : Own h0 h (cellR nx [.func (.func F_disk_Disk_Crash_1) #[] #[ptr f3]] T_func_int_v2 :: cellR f3 [fv] T_sl_uint8 :: cellR d (dC c s) T_disk_Disk :: kmapR QS c.dm (dirF (dirOf (s.cs ++ s.cp.take k))) :: kmapR QS c.nm (dirF s.now) :: kmapR QI c.tm (thF c.tc) :: slR encC 1 T_disk_change c.pv c.vs :: sepR (tsR c s) :: roR B :: L))
    (H : DOk B c s) (hI : s.Inv U N) (hN : N ≤ 1048576) (hl : U.length ≤ 12) (hf : FV h0 L fv0 fs0) (hA : FA fv0 fs0 fv fs) (hr : ∀ z ∈ fs, 0 ≤ z ∧ z ≤ 255) (hfl : fs.length < 2 ^ 40)
    (hK : PostD h0 L d B K (.tuple #[]) { cs := s.cs ++ s.cp.take k, cp := [], th := (crS s (namedL (dirOf (s.cs ++ s.cp.take k)) s.th.length) fs).1, armed := 0, off := false }) :
    pNil (ptr d) fun t47 => pField 0 t47 fun t48 => pLoad h t48 fun t49 => callS Tryz.prog F_maps_Clone_disk_directory_string_int [t49] h fun t50 h_9 =>
    pNil (ptr d) fun t51 => pField 1 t51 fun t52 => pStore 1 t52 t50 h_9 fun u_2 h_10 => pNil (ptr d) fun t53 => pField 3 t53 fun t54 => pStore 1 t54 (.slice none 0 0) h_10 fun u_3 h_11 =>
    pMakeMap h_11 fun t55 h_12 => pBox T_map_int_p_disk_thing (.map none) h_12 fun kept8 h_13 => pStore 1 kept8 t55 h_13 fun u_4 h_14 => callS Tryz.prog F_disk_Disk_named [ptr d] h_14 fun t57 h_15 =>
    rangeH Tryz.prog t57 [58, 59] (h_15.size + 1) (h_15.push (.deferred (some []))) (fun L x hh R => sh_disk_Disk_Crash_B2 Tryz.prog h_15 (ptr nx) kept8 L x.1 x.2.1 hh R)
    (fun h_27 => pLoad h_27 kept8 fun t92 => pNil (ptr d) fun t93 => pField 2 t93 fun t94 => pStore 1 t94 t92 h_27 fun u_9 h_28 => pNil (ptr d) fun t95 => pField 6 t95 fun t96 => pStore 1 t96 (.bool false) h_28 fun u_10 h_29 =>
      pNil (ptr d) fun t97 => pField 5 t97 fun t98 => pStore 1 t98 (.int .i64 0) h_29 fun u_11 h_30 => takeM (h_15.size :: []) h_30 fun h_31 => K (.tuple #[]) h_31)
    (fun h_32 => takeM (h_15.size :: []) h_32 fun h_33 => K (.tuple #[]) h_33) [] := by
  have hsub : ∀ c ∈ s.cs ++ s.cp.take k, c ∈ s.cs ++ s.cp := fun c hc => by
    rcases List.mem_append.1 hc with hc | hc
    · exact List.mem_append_left _ hc
    · exact List.mem_append_right _ (List.mem_of_mem_take hc)
  have hsl : (s.cs ++ s.cp.take k).Sublist (s.cs ++ s.cp) := List.Sublist.append (List.Sublist.refl _) (List.take_sublist _ _)
  have hok : OkL [] (s.cs ++ s.cp.take k) := by
    have := hI.ok
    rw [← List.take_append_drop k s.cp, ← List.append_assoc] at this
    exact this.left
  have hU : ∀ a ∈ keysOf (dirOf (s.cs ++ s.cp.take k)), a ∈ U := dir_nm (U := U) _ [] (fun a h => by cases h) fun c hc => hI.nm c (hsub c hc)
  have hinj : ((dirOf (s.cs ++ s.cp.take k)).map (·.2)).Nodup := dir_inj _ [] .nil .nil (hI.inj.sublist (hsl.filterMap _)) (fun n h => by cases h) hok
  have hval : ∀ y ∈ dirOf (s.cs ++ s.cp.take k), y.2 < s.th.length := fun y hy => by
    rcases dir_val _ [] _ hy hok with h | ⟨a, h⟩
    · cases h
    · exact hI.num a _ (hsub _ h)
  have hnk : ∀ m ∈ namedL (dirOf (s.cs ++ s.cp.take k)) s.th.length, ∃ (i : Nat) (x : TC), c.tc[i]? = some x ∧ x.n = m ∧ thF c.tc m = some (ptr x.b) := fun m hm => by
    obtain ⟨_, ⟨a, m'⟩, hy, rfl⟩ := namedL_mem.1 hm
    obtain ⟨i, x, hx, e⟩ := dOk_at H hI.ok ((dlook_mem (keys_dirOf _)).2 hy)
    exact ⟨i, x, hx, e, by rw [← e]; exact thF_at H hx⟩
  generalize hD : dirOf (s.cs ++ s.cp.take k) = D' at o hU hinj hval hnk hK
  have hkD : (keysOf D').Nodup := by rw [← hD]; exact keys_dirOf _
  rw [pNil_ptr, pField_ptr]
  refine o.load 2 rfl rfl ?_
  refine mcloneB_ok o (i := 3) rfl fun m' h1 o1 => ?_
  rw [pNil_ptr, pField_ptr]
  refine o1.st1 3 (cs' := [.map (some c.dm), .map (some m'), .map (some c.tm), c.pv, I s.th.length, I s.armed, .bool s.off]) rfl rfl rfl rfl rfl fun h2 o2 => ?_
  rw [pNil_ptr, pField_ptr]
  refine o2.st1 3 (cs' := [.map (some c.dm), .map (some m'), .map (some c.tm), .slice none 0 0, I s.th.length, I s.armed, .bool s.off]) rfl rfl rfl rfl rfl fun h3 o3 => ?_
  have o3 : Own h0 h3 (kmapR QS m' (dirF D') :: cellR nx [.func (.func F_disk_Disk_Crash_1) #[] #[ptr f3]] T_func_int_v2 :: cellR f3 [fv] T_sl_uint8 :: cellR d [.map (some c.dm), .map (some m'), .map (some c.tm), .slice none 0 0, I s.th.length, I s.armed, .bool s.off] T_disk_Disk :: kmapR QS c.dm (dirF D') :: kmapR QS c.nm (dirF s.now) :: kmapR QI c.tm (thF c.tc) :: slR encC 1 T_disk_change c.pv c.vs :: sepR (tsR c s) :: roR B :: L) := o3
  refine o3.kmk QI fun km h4 o4 => ?_
  refine o4.box fun k8 h5 o5 => ?_
  refine o5.st1 0 (cs' := [.map (some km)]) rfl rfl rfl rfl rfl fun h6 o6 => ?_
  refine callS_of (lk_disk_Disk_named _ ?_)
  unfold sh_disk_Disk_named
  refine o6.box fun b1 h7 o7 => ?_
  have o7 : Own h0 h7 (cellR b1 [ptr d] T_p_disk_Disk :: cellR k8 [.map (some km)] T_map_int_p_disk_thing :: kmapR QI km (fun _ => none) :: kmapR QS m' (dirF D') :: cellR nx [.func (.func F_disk_Disk_Crash_1) #[] #[ptr f3]] T_func_int_v2 :: cellR f3 [fv] T_sl_uint8 :: cellR d [.map (some c.dm), .map (some m'), .map (some c.tm), .slice none 0 0, I s.th.length, I s.armed, .bool s.off] T_disk_Disk :: kmapR QS c.dm (dirF D') :: kmapR QS c.nm (dirF s.now) :: kmapR QI c.tm (thF c.tc) :: slR encC 1 T_disk_change c.pv c.vs :: sepR (tsR c s) :: roR B :: L) := o7
  obtain ⟨es, clock, hm, t, ht, hfm⟩ := o7.get 3 rfl
  have o8 := o7.conv 3 (r' := objR m' (.map es clock)) rfl hm fun b hb => hb
  have o9 := o8.front 12 [0, 1, 2, 4, 5, 6, 7, 3, 9, 11] (by decide) (by decide)
  have ek : (fun z => if ∃ m ∈ (namedL D' s.th.length).take 0, (m : Int) = z then thF c.tc z else none) = fun _ => none := by funext z; simp
  have o10 : Own h0 h7 (crL b1 k8 km nx f3 d m' fv es clock ((namedL D' s.th.length).take 0) [.map (some c.dm), .map (some m'), .map (some c.tm), .slice none 0 0, I s.th.length, I s.armed, .bool s.off] c.dm c.tm D' c.tc c.tc s ([roR B] ++ L)) := by
    unfold crL; rw [ek]; exact o9
  have inv := crS_inv (s := s) (N := N) hI.lw hI.wr
  refine o10.range (named_iter (n := s.th.length) (b := b1) (d := d) (nm := m') (tm := c.tm) (tc := c.tc) ht hfm hU hl hkD hinj hval) (by rintro i y i' ⟨_, _, rfl⟩; rfl)
    (fun i Rs => ∃ fvi tci, i ≤ (namedL D' s.th.length).length ∧ tci.map (fun x => (x.n, x.b)) = c.tc.map (fun x => (x.n, x.b)) ∧ FA fv0 fs0 fvi (crS s ((namedL D' s.th.length).take i) fs).2 ∧
      Rs = crL b1 k8 km nx f3 d m' fvi es clock ((namedL D' s.th.length).take i) [.map (some c.dm), .map (some m'), .map (some c.tm), .slice none 0 0, I s.th.length, I s.armed, .bool s.off] c.dm c.tm D' c.tc tci { s with th := (crS s ((namedL D' s.th.length).take i) fs).1 } ([roR B] ++ L))
    (fun _ => False) (fun _ _ => False) ⟨fv, c.tc, Nat.zero_le _, rfl, hA, rfl⟩ ?_ ?_ ?_ (fun _ _ h => h.elim) (fun _ _ _ h => h.elim)
  · rintro i Rs h' ⟨fvi, tci, _, _, _, rfl⟩ o'
    exact ⟨hcell_of (o'.get 0 rfl) rfl, hcell_of (o'.get 5 rfl) rfl, hcell_of (o'.get 5 rfl) rfl, o'.get 7 rfl, o'.get 8 rfl⟩
  · rintro M i y i' Rs Pr h' R ⟨hi, rfl, rfl⟩ ⟨fvi, tci, _, hnb, hAi, rfl⟩ o' hN' _ _
    have hget : (namedL D' s.th.length).getD i 0 = (namedL D' s.th.length)[i] := by rw [List.getD_eq_getElem?_getD, List.getElem?_eq_getElem hi]; rfl
    have hmem : (namedL D' s.th.length)[i] ∈ namedL D' s.th.length := List.getElem_mem hi
    obtain ⟨j, x, hx, en, eth⟩ := hnk _ hmem
    obtain ⟨x', hx', en', eb'⟩ := nb_get hnb hx
    dsimp only [valsOf]
    rw [hget, eth]
    unfold sh_disk_Disk_Crash_B2
    refine o'.begin 0 rfl fun h4 o4 => ?_
    have hnot : x'.n ∉ (namedL D' s.th.length).take i := by
      rw [en', en]
      intro hm
      have hnd : (namedL D' s.th.length).Nodup := List.Nodup.sublist List.filter_sublist List.nodup_range
      obtain ⟨q, hq, e⟩ := List.mem_iff_getElem.1 hm
      rw [List.getElem_take] at e
      have hq' : q < i := by rw [List.length_take] at hq; omega
      have := (List.getElem_inj (i := q) (j := i) (h₀ := by omega) (h₁ := hi) hnd).1 e
      omega
    have hgt : ({ s with th := (crS s ((namedL D' s.th.length).take i) fs).1 } : Dk).getT x'.n = s.getT x'.n := crS_get hnot
    obtain ⟨i1, i2, i3⟩ := inv ((namedL D' s.th.length).take i) fs
    have hlen := crS_len (s := s) (ns := (namedL D' s.th.length).take i) (f := fs)
    have hltx : x'.n < s.th.length := by rw [en']; exact H.lt x (List.mem_of_getElem? hx)
    have hmx := th_mem hltx
    have hgl := hI.lw _ hmx
    have hgw := hI.wr _ hmx
    have e0 : (Option.some (ptr x.b)).getD (Value.pointer none) = ptr x'.b := by rw [eb']; rfl
    have e1 : I (((namedL D' s.th.length)[i] : Nat) : Int) = I (x'.n : Int) := by rw [en', en]
    rw [e0, e1]
    refine crThing_ok (s := { s with th := (crS s ((namedL D' s.th.length).take i) fs).1 }) (R := [roR B]) (L := L) (Pr := Pr) (x := x') (i := j) (fs := (crS s ((namedL D' s.th.length).take i) fs).2) (fv0 := fv0) (fs0 := fs0) o4 hx' (by rw [nb_nums hnb]; exact H.nd) (by show _ < (crS s _ fs).1.length; rw [hlen]; exact hltx)
      (by rw [en', eb', en]; exact eth) (hf.more Pr) hAi (fun z hz => hr z (i2 z hz)) (by omega) (by rw [hgt]; exact hgw) (by rw [hgt]; omega) fun fv' dv' wv' h5 hA5 o5 => ?_
    refine hN' _ h5 ⟨fv', tci.set j ⟨x'.n, x'.b, dv', wv'⟩, by omega, nb_set hnb hx' dv' wv', ?_, rfl⟩ ?_
    · rw [List.take_succ_eq_append_getElem hi, crS_snoc, ← en, ← en']
      exact hA5
    · rw [List.take_succ_eq_append_getElem hi, crS_snoc, ← en, ← en']
      rw [crT_mod (y := crS s ((namedL D' s.th.length).take i) fs) rfl] at o5
      exact o5
  · rintro i h' Rs rfl ⟨fvi, tci, _, hnb, _, rfl⟩ o'
    rw [List.take_length] at o'
    refine o'.load 2 rfl rfl ?_
    rw [pNil_ptr, pField_ptr]
    refine o'.st1 6 (cs' := [.map (some c.dm), .map (some m'), .map (some km), .slice none 0 0, I s.th.length, I s.armed, .bool s.off]) rfl rfl rfl rfl rfl fun h8 p8 => ?_
    rw [pNil_ptr, pField_ptr]
    refine p8.st1 6 (cs' := [.map (some c.dm), .map (some m'), .map (some km), .slice none 0 0, I s.th.length, I s.armed, .bool false]) rfl rfl rfl rfl rfl fun h9 p9 => ?_
    rw [pNil_ptr, pField_ptr]
    refine p9.st1 6 (cs' := [.map (some c.dm), .map (some m'), .map (some km), .slice none 0 0, I s.th.length, I 0, .bool false]) rfl rfl rfl rfl rfl fun h10 p10 => ?_
    refine p10.take1 0 rfl fun h11 p11 => ?_
    have hlen := crS_len (s := s) (ns := namedL D' s.th.length) (f := fs)
    have p12 := p11.conv 8 (r' := kmapR QS m' (dirF D')) rfl ⟨es, clock, p11.get 8 rfl, t, ht, hfm⟩ fun b hb => hb
    have hsq : (tci.filter fun x => decide (x.n ∈ namedL D' s.th.length)).Sublist tci := List.filter_sublist
    have p13 := p12.conv 10 (r' := sepR ((tci.filter fun x => decide (x.n ∈ namedL D' s.th.length)).map fun x => sepR (tRs { s with th := (crS s (namedL D' s.th.length) fs).1 } x))) rfl (sep_sub (hsq.map _) (p12.get 10 rfl)) fun b hb => by
      obtain ⟨r, hr', hb⟩ := hb
      exact ⟨r, (hsq.map _).mem hr', hb⟩
    have p14 := Own.nilS (enc := encC) (n := 1) (T := T_disk_change) p13
    have p15 := p14.front 13 [7, 8, 9, 4, 0, 11, 12] (by decide) (by decide)
    refine hK { dm := c.dm, nm := m', tm := km, pv := .slice none 0 0, vs := [], tc := tci.filter fun x => decide (x.n ∈ namedL D' s.th.length) } B h11 (fun _ h => h) ?_ ?_
    · have hmemn : ∀ n, n ∈ namedL D' s.th.length → ∃ x ∈ tci.filter (fun x => decide (x.n ∈ namedL D' s.th.length)), x.n = n := fun n hn => by
        obtain ⟨j, x, hx, en, _⟩ := hnk n hn
        obtain ⟨x', hx', en', _⟩ := nb_get hnb hx
        exact ⟨x', List.mem_filter.2 ⟨List.mem_of_getElem? hx', decide_eq_true (by rw [en', en]; exact hn)⟩, en'.trans en⟩
      refine ⟨rfl, fun i v y hv _ => (by simp at hv), ?_, fun y hy => ?_, fun y hy => ?_, fun a n hm' => (by cases hm')⟩
      · have hnn : (tci.map (·.n)).Nodup := by rw [nb_nums hnb]; exact H.nd
        exact hnn.sublist (hsq.map _)
      · show y.n < (crS s _ fs).1.length
        rw [hlen]
        have := List.mem_filter.1 hy
        exact (namedL_mem.1 (of_decide_eq_true this.2)).1
      · have hy' : y ∈ D' := by rw [← hD]; exact hy
        exact hmemn y.2 (namedL_mem.2 ⟨hval y hy', y, hy', rfl⟩)
    · unfold dL dC
      dsimp only
      rw [hD]
      have e1 : Dk.now { cs := s.cs ++ s.cp.take k, cp := [], th := (crS s (namedL D' s.th.length) fs).1, armed := 0, off := false } = D' := by
        unfold Dk.now; dsimp only; rw [List.append_nil, hD]
      have e2 : (fun z => if ∃ m ∈ namedL D' s.th.length, (m : Int) = z then thF c.tc z else none) = thF (tci.filter fun x => decide (x.n ∈ namedL D' s.th.length)) := by
        rw [thF_filter, nb_thF hnb]
      rw [e1, ← e2, hlen]
      exact p15

theorem crashB_ok {fv : Value} {fs : List Int} (o : Own h0 h (dL d c s (roR B :: L))) (H : DOk B c s) (hI : s.Inv U N) (hN : N ≤ 1048576) (hl : U.length ≤ 12) (hf : FV h0 L fv fs) (hr : ∀ z ∈ fs, 0 ≤ z ∧ z ≤ 255) (hfl : fs.length < 2 ^ 40)
    (hfv : fv.cells = #[fv]) (hK : PostD h0 L d B K (.tuple #[]) (mCrash s fs)) : callS Tryz.prog F_disk_Disk_Crash [ptr d, fv] h K := by
  refine callS_of (lk_disk_Disk_Crash _ _ ?_)
  unfold sh_disk_Disk_Crash
  refine o.box fun f3 h1 o1 => ?_
  have o1 : Own h0 h1 (cellR f3 [fv] T_sl_uint8 :: dL d c s (roR B :: L)) := by
    have : (Value.cells fv).toList = [fv] := by rw [hfv]
    rw [this] at o1; exact o1
  rw [pEq_ptr_nil, Option.isNone_some, ifV_false]
  refine o1.box fun nx h2 o2 => ?_
  refine o2.st1 0 (cs' := [.func (.func F_disk_Disk_Crash_1) #[] #[ptr f3]]) rfl rfl rfl rfl rfl fun h3 o3 => ?_
  refine o3.load 0 rfl rfl ?_
  have o3 : Own h0 h3 ((cellR nx [.func (.func F_disk_Disk_Crash_1) #[] #[ptr f3]] T_func_int_v2 :: cellR f3 [fv] T_sl_uint8 :: cellR d (dC c s) T_disk_Disk :: kmapR QS c.dm (dirF (dirOf s.cs)) :: kmapR QS c.nm (dirF s.now) :: kmapR QI c.tm (thF c.tc) :: slR encC 1 T_disk_change c.pv c.vs :: sepR (tsR c s) :: [roR B]) ++ L) := o3
  rw [pNil_ptr, pField_ptr]
  refine o3.load 2 rfl rfl ?_
  refine (o3.vw 6 rfl).len ?_
  have hlc := hI.lc
  rw [List.length_append] at hlc
  rw [H.lv, pBin_add, wI s.cp.length (by omega)]
  refine nextF_ok (L := L) (i := 1) o3 rfl hf (fun _ h => h) hr hfl fun fv' h4 hA4 o4 => ?_
  refine ⟨o4.load 2 rfl rfl rfl, ?_⟩
  rw [pBin_rem]
  refine ⟨by omega, ?_⟩
  rw [show ((fateOf fs : Nat) : Int).tmod ((s.cp.length + 1 : Nat) : Int) = ((fateOf fs % (s.cp.length + 1) : Nat) : Int) by rw [Int.tmod_eq_emod_of_nonneg (by omega)]; rfl]
  have hkl : fateOf fs % (s.cp.length + 1) ≤ s.cp.length := by
    have := Nat.mod_lt (fateOf fs) (show 0 < s.cp.length + 1 by omega)
    omega
  unfold mCrash at hK
  dsimp only at hK
  generalize fateOf fs % (s.cp.length + 1) = k at hkl hK
  rw [pNil_ptr, pField_ptr]
  refine o4.load 2 rfl rfl ?_
  refine (o4.vw 6 rfl).subA (a := 0) (j := k) (fun _ => rfl) rfl rfl (Nat.zero_le _) (by rw [H.lv]; exact hkl) fun v' hv' => ?_
  have hlt : (((c.vs.drop 0).take (k - 0))).length = k := by rw [List.drop_zero, List.length_take, Nat.sub_zero, H.lv]; omega
  refine (hv' h4 (o4.vw 6 rfl)).len ?_
  rw [hlt]
  have hrt : ∀ z ∈ fs.tail, 0 ≤ z ∧ z ≤ 255 := fun z hz => hr z (List.mem_of_mem_tail hz)
  refine LoopH_count k (fun i y h' => y.1 = I i ∧ Own h0 h' (cellR nx [.func (.func F_disk_Disk_Crash_1) #[] #[ptr f3]] T_func_int_v2 :: cellR f3 [fv'] T_sl_uint8 :: cellR d (dC c s) T_disk_Disk :: kmapR QS c.dm (dirF (dirOf (s.cs ++ s.cp.take i))) :: kmapR QS c.nm (dirF s.now) :: kmapR QI c.tm (thF c.tc) :: slR encC 1 T_disk_change c.pv c.vs :: sepR (tsR c s) :: roR B :: L)) ⟨rfl, by rw [List.take_zero, List.append_nil]; exact o4⟩ ?_
  rintro i ⟨y, ⟨⟩⟩ h5 Z hi ⟨hy, o5⟩ hZ
  dsimp only at hy hZ ⊢
  subst hy
  unfold sh_disk_Disk_Crash_L1
  rw [pBin_lss, ifV_dec]
  refine ⟨fun hlt' => ?_, fun hge => ?_⟩
  · have hi' : i < k := by omega
    have hiv : i < c.vs.length := by rw [H.lv]; omega
    have hip : i < s.cp.length := by omega
    refine (hv' h5 (o5.vw 6 rfl)).atN (fun _ => rfl) (by rw [hlt]; exact hi') ?_
    have ee : ((c.vs.drop 0).take (k - 0))[i]'(by rw [hlt]; exact hi') = c.vs[i] := by simp
    rw [ee]
    refine o5.box fun c7 h6 o6 => ?_
    refine o6.st (l := [clv c.vs[i]]) (cs' := [clv c.vs[i]]) 0 rfl rfl rfl rfl rfl (fun u hu => by simp at hu; subst hu; exact clv_plain _) fun h7 o7 => ?_
    rw [pField_ptr]
    refine o7.load 0 rfl rfl ?_
    rw [pNil_ptr, pField_ptr]
    refine o7.load 3 rfl rfl ?_
    refine chDo o7 (i := 4) (j := 9) rfl rfl (by decide) (H.ch i _ s.cp[i] (List.getElem?_eq_getElem hiv) (List.getElem?_eq_getElem hip)) fun h8 o8 => ?_
    rw [pBin_add, wI i (by omega)]
    refine hZ (_, ()) h8 hi' ⟨rfl, ?_⟩
    rw [List.take_succ_eq_append_getElem hip, ← List.append_assoc, dirOf_snoc]
    exact o8.tail
  · have hik : i = k := by omega
    subst hik
    exact crashT_ok hkl o5 H hI hN hl hf hA4 hrt (by rw [List.length_tail]; omega) hK

end
end Go.Proofs.YtdbkeklhjjlhbaaGreat

namespace Go.Proofs.YtdbkeklhjjlhbaaGreat
open Go Go.Mh
set_option linter.unusedVariables false

section
variable {h0 h : Heap} {L M ts l3 : List Res} {K : Value → Heap → Prop} {k d i : Nat} {c : DC} {s : Dk} {B : Bx} {x : TC} {U : List Nm} {N : Nat} {a b : Nm}

theorem cloneB_change {xs : List Clo} {v : Value} (o : Own h0 h L) (H : Vw encC 1 h v xs) (hl : xs.length ≤ 2 ^ 40) (hK : ∀ v' h', Own h0 h' (slR encC 1 T_disk_change v' xs :: L) → K v' h') : callS Tryz.prog F_slices_Clone_sl_disk_change_disk_change [v] h K :=
  callS_of (lk_slices_Clone_sl_disk_change_disk_change _ (clone_gen o H (fun _ => rfl) encC_plain rfl (by decide) (by omega) hK))

/-- The loop of a copy: the things. -/
theorem copyT_ok {e m1 m2 m3 : Nat} {pv : Value}
    (o : Own h0 h (cellR e [.map (some m1), .map (some m2), .map (some m3), pv, I s.th.length, I s.armed, .bool s.off] T_disk_Disk :: kmapR QS m1 (dirF (dirOf s.cs)) :: kmapR QS m2 (dirF s.now) :: kmapR QI m3 (fun _ => none) :: slR encC 1 T_disk_change pv c.vs :: dL d c s (roR B :: L)))
    (H : DOk B c s) (hI : s.Inv U N) (hN : N ≤ 1048576) (hK : ∀ e c' h', DOk B c' s → Own h0 h' (dL e c' s (dL d c s (roR B :: L))) → K (ptr e) h') : sh_disk_Disk_Copy_C1 Tryz.prog (ptr d) K (ptr e) h := by
  unfold sh_disk_Disk_Copy_C1
  rw [pNil_ptr, pField_ptr]
  refine o.load 5 rfl rfl ?_
  obtain ⟨es, clock, hm, t, ht, hf⟩ := o.get 8 rfl
  have o1 : Own h0 h (sepR [] :: cellR e [.map (some m1), .map (some m2), .map (some m3), pv, I s.th.length, I s.armed, .bool s.off] T_disk_Disk :: kmapR QS m1 (dirF (dirOf s.cs)) :: kmapR QS m2 (dirF s.now) :: kmapR QI m3 (fun _ => none) :: slR encC 1 T_disk_change pv c.vs :: dL d c s (roR B :: L)) := Own.sep (l := []) o
  have o2 := o1.conv 9 (r' := objR c.tm (.map es clock)) rfl hm fun b hb => hb
  have o3 : Own h0 h (cellR e [.map (some m1), .map (some m2), .map (some m3), pv, I s.th.length, I s.armed, .bool s.off] T_disk_Disk :: kmapR QS m1 (dirF (dirOf s.cs)) :: kmapR QS m2 (dirF s.now) :: kmapR QI m3 (fun _ => none) :: slR encC 1 T_disk_change pv c.vs :: sepR [] :: cellR d (dC c s) T_disk_Disk :: kmapR QS c.dm (dirF (dirOf s.cs)) :: kmapR QS c.nm (dirF s.now) :: objR c.tm (.map es clock) :: slR encC 1 T_disk_change c.pv c.vs :: sepR (tsR c s) :: roR B :: L) := o2.front 6 [1, 2, 3, 4, 5, 0] (by decide) (by decide)
  have hle : ∀ y ∈ t, ∃ (i : Nat) (x : TC), c.tc[i]? = some x ∧ y.1 = (x.n : Int) ∧ y.2.1 = ptr x.b := fun y hy => by
    have hlk : KM.lk y.1 t = some y.2.1 := by
      have : ∀ (t : List (KM.Ent Int)), (t.map (·.1)).Nodup → y ∈ t → KM.lk y.1 t = some y.2.1 := by
        intro t
        induction t with
        | nil => intro _ h; cases h
        | cons z t ih =>
          intro hn he
          have hn' := List.nodup_cons.1 hn
          rw [KM.lk]
          rcases List.mem_cons.1 he with rfl | he
          · rw [if_pos rfl]
          · rw [if_neg (fun h : z.1 = y.1 => hn'.1 (List.mem_map.2 ⟨y, he, h.symm⟩))]
            exact ih hn'.2 he
      exact this t ht.keys hy
    rw [← hf] at hlk
    unfold thF at hlk
    cases hfd : c.tc.find? fun x => decide ((x.n : Int) = y.1) with
    | none => rw [hfd] at hlk; cases hlk
    | some x =>
      rw [hfd] at hlk
      obtain ⟨i, hi⟩ := List.getElem?_of_mem (List.mem_of_find?_eq_some hfd)
      have := List.find?_some hfd
      simp only [decide_eq_true_eq] at this
      exact ⟨i, x, hi, this.symm, (Option.some.inj hlk).symm⟩
  refine o3.rangeM (κ := Int) (o3.get 9 rfl) fun r h1 o4 => ?_
  refine LoopH_down (fun k y h' => ∃ (se : List (KM.Ent Int)) (tc : List TC), k = t.length - se.length ∧ (∀ e ∈ se, e ∈ t) ∧ se.Nodup ∧ tc.map (fun x => (x.n : Int)) = se.map (·.1) ∧
    Own h0 h' (itR r c.tm clock se :: cellR e [.map (some m1), .map (some m2), .map (some m3), pv, I s.th.length, I s.armed, .bool s.off] T_disk_Disk :: kmapR QS m1 (dirF (dirOf s.cs)) :: kmapR QS m2 (dirF s.now) :: kmapR QI m3 (thF tc) :: slR encC 1 T_disk_change pv c.vs :: sepR (tc.map fun x => sepR (tRs s x)) ::
      cellR d (dC c s) T_disk_Disk :: kmapR QS c.dm (dirF (dirOf s.cs)) :: kmapR QS c.nm (dirF s.now) :: objR c.tm (.map es clock) :: slR encC 1 T_disk_change c.pv c.vs :: sepR (tsR c s) :: roR B :: L)) (k0 := t.length) ⟨[], [], rfl, fun _ h => (by cases h), .nil, rfl, o4⟩ ?_
  clear o o1 o2 o3 o4
  rintro k ⟨⟩ h2 Z ⟨se, tc, rfl, hs, hn, htc, o⟩ hZ
  unfold sh_disk_Disk_Copy_L2
  refine o.nextM 0 rfl (o.get 10 rfl) ht hs (fun y hy hne h3 o3 => ?_) fun hall => ?_
  · rw [pExt0, ifV_true]
    refine o3.entryM 0 rfl (o3.get 10 rfl) ht hy ?_
    obtain ⟨i, x, hx, e1, e2⟩ := hle y hy
    have hn' : (se ++ [y]).Nodup := by
      rw [List.nodup_append]
      exact ⟨hn, by simp, fun a ha b hb hab => by rw [List.mem_singleton.1 hb] at hab; exact hne (hab ▸ ha)⟩
    have hs' : ∀ x ∈ se ++ [y], x ∈ t := fun x hx => by
      rcases List.mem_append.1 hx with hx | hx
      · exact hs x hx
      · rw [List.mem_singleton.1 hx]; exact hy
    have hlen : (se ++ [y]).length ≤ t.length := by classical exact len_of_sub hn' hs'
    rw [pExt0, pExt1, pNil_ptr, pField_ptr]
    refine o3.load 1 rfl rfl ?_
    rw [e2]
    obtain ⟨f1, f2, f3⟩ := ts_fact (o3.get 12 rfl) hx
    have c0 : hcell h3 ⟨x.b, 0, none⟩ = some x.dv := hcell_of f1 rfl
    have c1 : hcell h3 ⟨x.b, 1, none⟩ = some x.wv := hcell_of f1 rfl
    rw [pNil_ptr, pField_ptr]
    simp only [Nat.add_zero, pLoad_ptr, c0]
    rw [pNil_ptr, pField_ptr]
    simp only [Nat.zero_add, pLoad_ptr, c1]
    have hm := th_mem (s := s) (H.lt x (List.mem_of_getElem? hx))
    have hw := hI.wr _ hm
    have hl := hI.lw _ hm
    unfold Th.all at hw hl
    rw [List.length_append] at hl
    have hbl := bytes_len fun w hw' => hw w (List.mem_append_left (s.getT x.n).pen hw')
    refine cloneB_byte o3 f2 (by omega) fun dv' h4 o4 => ?_
    refine ⟨o4.load 2 rfl rfl rfl, ?_⟩
    obtain ⟨g1, g2, g3⟩ := ts_fact (o4.get 13 rfl) hx
    have c1' : hcell h4 ⟨x.b, 1, none⟩ = some x.wv := hcell_of g1 rfl
    refine ⟨by simp only [pLoad_ptr, c1'], ?_⟩
    refine cloneB_write o4 g3 (by omega) fun wv' h5 o5 => ?_
    refine ⟨o5.load 3 rfl rfl rfl, ?_⟩
    have hdv := o5.vw 1 rfl
    have hwv := o5.vw 0 rfl
    refine ⟨?_, ?_⟩
    · obtain ⟨b1, c1, rfl⟩ := hdv.isSl
      obtain ⟨b2, c2, rfl⟩ := hwv.isSl
      exact sizesOk_of rfl
    refine o5.box fun q h6 o6 => ?_
    have o6 : Own h0 h6 (cellR q [dv', wv'] T_disk_thing :: slR encW 2 T_disk_write wv' (s.getT x.n).pen :: slR encB8 1 T_uint8 dv' (bytesOf (s.getT x.n).syn) :: itR r c.tm clock (se ++ [y]) :: cellR e [.map (some m1), .map (some m2), .map (some m3), pv, I s.th.length, I s.armed, .bool s.off] T_disk_Disk :: kmapR QS m1 (dirF (dirOf s.cs)) :: kmapR QS m2 (dirF s.now) :: kmapR QI m3 (thF tc) :: slR encC 1 T_disk_change pv c.vs :: sepR (tc.map fun x => sepR (tRs s x)) ::
      cellR d (dC c s) T_disk_Disk :: kmapR QS c.dm (dirF (dirOf s.cs)) :: kmapR QS c.nm (dirF s.now) :: objR c.tm (.map es clock) :: slR encC 1 T_disk_change c.pv c.vs :: sepR (tsR c s) :: roR B :: L) := by
      have ec : (spliceAll [Value.slice none 0 0, Value.slice none 0 0] [(0, 1, dv'), (1, 1, wv')]) = [dv', wv'] := by
        obtain ⟨b1, c1, rfl⟩ := hdv.isSl
        obtain ⟨b2, c2, rfl⟩ := hwv.isSl
        rfl
      rw [ec] at o6
      exact o6
    rw [show QI.ke y.1 = I (x.n : Int) by rw [e1]; rfl]
    refine o6.kput (Q := QI) (k := (x.n : Int)) (f' := thF (tc ++ [⟨x.n, q, dv', wv'⟩])) 7 rfl (fun z => ?_) fun h7 o7 => ?_
    · unfold KM.fset thF
      rw [List.find?_append]
      by_cases e : z = (x.n : Int)
      · subst e
        rw [if_pos rfl]
        have : tc.find? (fun y => decide ((y.n : Int) = (x.n : Int))) = none := by
          rw [List.find?_eq_none]
          intro w hw' hd
          have : (w.n : Int) ∈ tc.map (fun x => (x.n : Int)) := List.mem_map.2 ⟨w, hw', rfl⟩
          rw [htc] at this
          obtain ⟨e', he', e3⟩ := List.mem_map.1 this
          have hkey : e' = y := by
            obtain ⟨i1, hi1, ei⟩ := List.mem_iff_getElem.1 (hs e' he')
            obtain ⟨j1, hj1, ej⟩ := List.mem_iff_getElem.1 hy
            have := (List.getElem_inj (i := i1) (j := j1) (h₀ := by simpa using hi1) (h₁ := by simpa using hj1) ht.keys).1 (by simp only [List.getElem_map, ei, ej, e3, e1]; simpa using hd)
            subst this
            rw [← ei, ej]
          exact hne (hkey ▸ he')
        rw [this]
        simp
      · rw [if_neg e]
        have : List.find? (fun y : TC => decide ((y.n : Int) = z)) [⟨x.n, q, dv', wv'⟩] = none := by
          rw [List.find?_eq_none]
          intro w hw'
          rw [List.mem_singleton.1 hw']
          simpa using fun h => e h.symm
        rw [this, Option.or_none]
    · have a1 := Own.sep (l := [cellR q [dv', wv'] T_disk_thing, slR encB8 1 T_uint8 dv' (bytesOf (s.getT x.n).syn), slR encW 2 T_disk_write wv' (s.getT x.n).pen]) (o7.front 3 [0, 2, 1] (by decide) (by decide))
      have a2 := a1.out 7 rfl
      have a5 : Own h0 h7 ((tc.map fun x => sepR (tRs s x)) ++ ([sepR (tR3 q dv' wv' (bytesOf (s.getT x.n).syn) (s.getT x.n).pen)] ++ _)) := a2
      rw [← List.append_assoc] at a5
      have a6 := a5.back 6 rfl
      have e3 : (tc.map fun x => sepR (tRs s x)) ++ [sepR (tR3 q dv' wv' (bytesOf (s.getT x.n).syn) (s.getT x.n).pen)] = (tc ++ [(⟨x.n, q, dv', wv'⟩ : TC)]).map fun x => sepR (tRs s x) := by
        rw [List.map_append]; rfl
      rw [e3] at a6
      have hl2 : (se ++ [y]).length = se.length + 1 := by simp
      refine hZ (show Vals [] from ()) h7 (t.length - (se ++ [y]).length) (by omega) ⟨se ++ [y], tc ++ [(⟨x.n, q, dv', wv'⟩ : TC)], rfl, hs', hn', by rw [List.map_append, htc, List.map_append]; simp [e1], by exact a6⟩
  · rw [pExt0, ifV_false]
    have o5 := (o.conv 10 (r' := kmapR QI c.tm (thF c.tc)) rfl ⟨es, clock, o.get 10 rfl, t, ht, hf⟩ fun b hb => hb).tail
    refine hK e { dm := m1, nm := m2, tm := m3, pv := pv, vs := c.vs, tc := tc } h2 ?_ o5
    have hnum : ∀ n : Nat, (∃ x ∈ c.tc, x.n = n) → ∃ x ∈ tc, x.n = n := fun n ⟨x, hx, e⟩ => by
      obtain ⟨i, hi⟩ := List.getElem?_of_mem hx
      have h1 := thF_at H hi
      rw [hf] at h1
      have lkm : ∀ (t : List (KM.Ent Int)) (v : Value), KM.lk (x.n : Int) t = some v → ∃ e ∈ t, e.1 = (x.n : Int) := by
        intro t
        induction t with
        | nil => intro v h; cases h
        | cons z t ih =>
          intro v h
          rw [KM.lk] at h
          split at h
          · rename_i e; exact ⟨z, List.mem_cons_self, e⟩
          · obtain ⟨e, he, h'⟩ := ih v h
            exact ⟨e, List.mem_cons_of_mem _ he, h'⟩
      obtain ⟨y, hy, ey⟩ := lkm t _ h1
      have : y.1 ∈ tc.map (fun x => (x.n : Int)) := by rw [htc]; exact List.mem_map.2 ⟨y, hall y hy, rfl⟩
      obtain ⟨x', hx', e'⟩ := List.mem_map.1 this
      exact ⟨x', hx', by omega⟩
    refine ⟨H.lv, H.ch, ?_, fun x' hx' => ?_, fun y hy => hnum _ (H.dir y hy), fun a n hm' => hnum n (H.num a n hm')⟩
    · have hk : (se.map (·.1)).Nodup := nodupMap hn fun y hy z hz e => by
        obtain ⟨i1, hi1, ei⟩ := List.mem_iff_getElem.1 (hs y hy)
        obtain ⟨j1, hj1, ej⟩ := List.mem_iff_getElem.1 (hs z hz)
        have := (List.getElem_inj (i := i1) (j := j1) (h₀ := by simpa using hi1) (h₁ := by simpa using hj1) ht.keys).1 (by simp [ei, ej, e])
        subst this
        rw [← ei, ej]
      rw [← htc] at hk
      have : (tc.map (fun x => (x.n : Int))) = (tc.map (·.n)).map fun (n : Nat) => (n : Int) := by rw [List.map_map]; rfl
      rw [this] at hk
      exact (List.pairwise_map.1 hk).imp fun h e => h (by rw [e])
    · have : (x'.n : Int) ∈ tc.map (fun x => (x.n : Int)) := List.mem_map.2 ⟨x', hx', rfl⟩
      rw [htc] at this
      obtain ⟨y, hy, e⟩ := List.mem_map.1 this
      obtain ⟨i, x, hx, e1, _⟩ := hle y (hs y hy)
      have := H.lt x (List.mem_of_getElem? hx)
      omega

end
end Go.Proofs.YtdbkeklhjjlhbaaGreat
