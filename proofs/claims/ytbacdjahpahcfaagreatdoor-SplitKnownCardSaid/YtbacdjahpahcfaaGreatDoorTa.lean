/- Texts of the proofs of seat YtbacdjahpahcfaaGreatDoor, joined: ChA, ChB, ChC, LiA, DrA, DrB, NtA, NtB, NtC, NtD, SpA, VaA, SpB, DfA, SpC, SpD, Md22, Ro22, F22A, F22K. They have no conditions of their own. -/
import Derived.Test.YtbacdjahpahcfaaGreatDoorGa
import Derived.Test.YtbacdjahpahcfaaGreatDoorMc
import Derived.Tactics
import Derived.Tactics2
import Derived.Test.YtbacdjahpahcfaaGreatDoorMd
set_option linter.unusedVariables false
set_option linter.unusedSimpArgs false

namespace Go.Proofs.YtbacdjahpahcfaaGreatDoor
open Go Go.Mh

set_option maxRecDepth 100000 in
theorem check1_rest {h : Heap} {K : Exit → VEnv → List Nat → Heap → Prop} (hk : ∀ e, K .normal e [] h) : compile Tryz.prog 17 false (cR (Tryz.f46.body.getD .skip)) (annG (cR (Tryz.f46.body.getD .skip)) 0 []).1 [(1, .nilIface)] [] h K :=
  Eq.mpr (α := compile Tryz.prog 17 false (cR (Tryz.f46.body.getD .skip)) (annG (cR (Tryz.f46.body.getD .skip)) 0 []).1 [(1, .nilIface)] [] h K)
    (β := K .normal [(6, .bool false), (5, .nilIface), (1, .nilIface)] [] h) (by kernel_rfl) (hk _)

set_option maxRecDepth 100000 in
theorem check1_idle {v : Value} {h : Heap} {K : Heap → Prop} (hk : K h) : DeferS Tryz.prog F_graph_Check_1 #[v] h K := by
  refine ⟨by kernel_rfl, fun w hw => ?_⟩
  subst hw
  refine callsDIn_of_wpSIn Tryz.func46 rfl trivial fun c₀ cs hu => ?_
  apply wpSIn_seq
  generalize hQ : bodyPostS Tryz.prog _ c₀ cs _ = Q
  apply wpSIn_region
  simp [wpOpsSIn, go_sem, recoverD, hu, Tryz.ntmps46, Exit.thenS]
  have hr : ∀ (tm : Array Value), tm[1]? = some Value.nilIface → tm.size = 17 →
      Code.wpSIn Fence.wide 0 Tryz.prog (cR (Tryz.f46.body.getD .skip)) Q { tmps := tm, defers := [] } (c₀ :: cs) w := by
    intro tm h1 hs
    subst hQ
    refine wpSIn_of_wpIn rfl ?_
    refine compile_sound _ _ none _ [] w.heap (fun ex _ m h' => ex = .normal ∧ m = [] ∧ h' = w.heap) (check1_rest fun e => ⟨rfl, rfl, rfl⟩) (by kernel_rfl) [] _ w _ ?_ hs rfl rfl ?_
    · intro s v hv
      unfold Mh.look at hv
      split at hv
      · rename_i hb
        have := Nat.eq_of_beq_eq_true hb
        subst this
        rw [h1]; exact hv
      · cases hv
    · rintro ex e' m' a' w' hrl _ hd hsm _ _ ⟨rfl, rfl, hh⟩
      have hd0 : a'.defers = [] := hd
      refine ⟨hd0, .returning, ?_, .tuple #[], ?_, _, rfl, rfl, hsm, hh ▸ hk⟩
      · cases c₀; simp only at hu; subst hu; rfl
      · have hq : resQ Tryz.prog e' w'.heap Tryz.f46.results.toList (fun l => l = []) := by
          rw [Tryz.results46]; rfl
        obtain ⟨l, hl, rfl⟩ := results_sound hrl hq
        exact rdS_run hl w' rfl
  refine hr _ ?_ ?_
  · simp
  · simp

end Go.Proofs.YtbacdjahpahcfaaGreatDoor

namespace Go.Proofs.YtbacdjahpahcfaaGreatDoor
open Go Go.Mh
set_option linter.unusedVariables false

/-- A place: index, field, code, number, least, end. -/
structure Pl where
  i : Int
  f : Int
  c : Int
  n : Int
  l : Int
  e : Int
def encP (p : Pl) : List Value := [I p.i, I p.f, I p.c, I p.n, I p.l, I p.e]
theorem encP_len (p : Pl) : (encP p).length = 6 := rfl
theorem encP_plain (p : Pl) : ∀ u ∈ encP p, Mh.plainCell u = true := by
  intro u hu; simp [encP] at hu; rcases hu with rfl | rfl | rfl | rfl | rfl | rfl <;> rfl
def Pl.Ok (p : Pl) : Prop := p.l ≤ p.n ∧ p.n < p.e
def PlS (x : List Value) : Prop := ∃ p : Pl, x = [.agg (encP p).toArray] ∧ p.Ok

section
variable {h0 h : Heap} {L : List Res} {K : Value → Heap → Prop} {vs : Value} {ps : List Pl} {b : Nat}

theorem values_place (hl : ps.length < 2 ^ 40) : Iter Tryz.prog (.func (.func F_slices_Values_sl_graph_place_graph_place_1) #[] #[ptr b]) (fun h => h[b]? = some (.cells #[vs] T_sl_graph_place (0, 0)) ∧ Vw encP 6 h vs ps) ps.length
    (fun i hi => [.agg (encP ps[i]).toArray]) := by
  rintro yv h0 h Rs K J E ⟨l, rfl⟩ o j0 hQ hY hK
  refine callF_of (l := [yieldV l, ptr b]) rfl (lk_slices_Values_sl_graph_place_graph_place_1 _ _ ?_)
  unfold sh_slices_Values_sl_graph_place_graph_place_1
  obtain ⟨hb, hv⟩ := hQ _ _ _ j0 o
  have hc : hcell h ⟨b, 0, none⟩ = some vs := hcell_of hb rfl
  simp only [pLoad_ptr, hc]
  refine hv.len ?_
  refine LoopH_count ps.length (fun i x h' => x.1 = I i ∧ ∃ Rs', J i Rs' ∧ Own h0 h' Rs') ⟨rfl, Rs, j0, o⟩ ?_
  rintro i ⟨x, ⟨⟩⟩ h Z hi ⟨hx, Rs', hj, o⟩ hZ
  dsimp only at hx hZ ⊢
  subst hx
  unfold sh_slices_Values_sl_graph_place_graph_place_1_L1
  simp only [pBin_lss, ifV_dec]
  refine ⟨fun hlt => ?_, fun hge => ?_⟩
  · have hlt : i < ps.length := by omega
    obtain ⟨_, hv⟩ := hQ _ _ _ hj o
    refine hv.atN encP_len hlt ?_
    refine o.box fun v4 h1 o1 => o1.st 0 rfl rfl rfl rfl rfl (encP_plain _) fun h2 o2 => o2.ldN 0 rfl rfl rfl ?_
    refine hY i _ (i + 1) Rs' [] h2 _ ⟨⟨hlt, rfl⟩, rfl⟩ hj o2.tail.nilTail (fun Rs'' h'' hj' o' => ?_) fun Rs'' h'' he o' => ?_
    · rw [pUn_not, Bool.not_true, ifV_false, pBin_add, wI i (by omega)]
      exact hZ (I (i + 1 : Nat), ()) h'' hlt ⟨rfl, Rs'', hj', o'.toNil⟩
    · rw [pUn_not, Bool.not_false, ifV_true]
      exact hK _ _ (.inr he) o'.toNil
  · have : i = ps.length := by omega
    exact hK _ _ (.inl ⟨i, this, hj⟩) o


/-- What look asks of each phase. -/
def Tells (fv : Value) (Q : Heap → Prop) : Prop := IterS Tryz.prog fv Q PlS

theorem values_ok {h : Heap} {K : Value → Heap → Prop} {vs : Value} {ps : List Pl} (o : Own h0 h (slR encP 6 T_graph_place vs ps :: L)) (hl : ps.length < 2 ^ 40) (hok : ∀ p ∈ ps, p.Ok)
    (hK : ∀ fv Q (q : Res) h', Own h0 h' (q :: L) → (∀ h'', Own h0 h'' (q :: L) → Q h'') → Tells fv Q → K fv h') : callS Tryz.prog F_slices_Values_sl_graph_place_graph_place [vs] h K := by
  refine callS_of (lk_slices_Values_sl_graph_place_graph_place _ ?_)
  unfold sh_slices_Values_sl_graph_place_graph_place
  refine o.box fun b h1 o1 => hK _ _ (allR [cellR b vs.cells.toList T_sl_graph_place, slR encP 6 T_graph_place vs ps]) h1 (Own.pack (l := [cellR b vs.cells.toList T_sl_graph_place, slR encP 6 T_graph_place vs ps]) o1) (fun h'' o'' => o''.get 0 rfl) ?_
  refine ((values_place (b := b) (vs := vs) hl).toS (S := PlS) fun i hi => ⟨ps[i], rfl, hok _ (List.getElem_mem hi)⟩).need fun h hq => ?_
  obtain ⟨bl, H⟩ := hq (slR encP 6 T_graph_place vs ps) (by simp)
  have hc := hq (cellR b vs.cells.toList T_sl_graph_place) (by simp)
  have e : vs.cells = #[vs] := (Vw.one ⟨bl, H.view⟩)
  refine ⟨?_, bl, H.view⟩
  have hc' : h[b]? = some (.cells vs.cells.toList.toArray T_sl_graph_place (0, 0)) := hc
  rw [hc', e]

theorem one_ok {c n l e : Int} (o : Own h0 h L) (hok : l ≤ n ∧ n < e) (hK : ∀ fv Q (q : Res) h', Own h0 h' (q :: L) → (∀ h'', Own h0 h'' (q :: L) → Q h'') → Tells fv Q → K fv h') : callS Tryz.prog F_graph_one [I c, I n, I l, I e] h K := by
  refine callS_of (lk_graph_one _ _ _ _ ?_)
  unfold sh_graph_one
  refine ⟨sizesOk_of rfl, ?_⟩
  refine o.build (enc := encP) (n := 6) [⟨0, 0, c, n, l, e⟩] rfl (sizesOk_of rfl) rfl fun w h1 o1 => ?_
  exact values_ok o1 (by simp) (by simp [Pl.Ok]; exact hok) hK

theorem shapes_ok {g : G} {vx vy va : Value} (o : Own h0 h L) (hR : g.Right) (H : RawL h vx vy va g) (hK : ∀ fv Q (q : Res) h', Own h0 h' (q :: L) → (∀ h'', Own h0 h'' (q :: L) → Q h'') → Tells fv Q → K fv h') :
    callS Tryz.prog F_graph_shapes [.agg #[I g.n, vx, vy, va]] h K := by
  refine callS_of (lk_graph_shapes _ ?_)
  unfold sh_graph_shapes
  have hm := hR.most
  refine (Own.start h).box fun r h1 o1 => ?_
  simp only [pField_ptr]
  have H1 := H.more o1.ext
  refine o1.load 0 rfl rfl (o1.load 0 rfl rfl (H1.1.len ?_))
  have e1 : IntKind.i64.wrap ((g.n : Int) + 1) = (g.n : Int) + 1 := w64 (by omega) (by omega)
  simp only [pBin_add, e1]
  refine ⟨sizesOk_of rfl, o1.load 0 rfl rfl (H1.2.1.len ⟨sizesOk_of rfl, ?_⟩)⟩
  refine o1.build (enc := encP) (n := 6) [⟨0, 0, 6, g.X.length, g.n, g.n + 1⟩, ⟨0, 1, 6, g.Y.length, g.n, g.n + 1⟩] rfl (sizesOk_of rfl) rfl fun w h2 o2 => ?_
  refine values_ok (L := [] ++ L) (o.frame ((o2.sel [0] (by decide)))) (by simp) ?_ hK
  intro p hp
  simp at hp
  have hx := hR.x
  have hy := hR.y
  rcases hp with rfl | rfl <;> simp only [Pl.Ok] <;> omega

theorem nodes_iter {g : G} {vx vy va : Value} {r : Nat} (hR : g.Right) : Tells (.func (.func F_graph_nodes_1) #[] #[ptr r]) (fun h => h[r]? = some (.cells #[I g.n, vx, vy, va] T_api_Raw (0, 0)) ∧ RawL h vx vy va g) := by
  rintro yv h0 h Rs K J E ⟨l, rfl⟩ o j0 hQ hY hK
  refine callF_of (l := [yieldV l, ptr r]) rfl (lk_graph_nodes_1 _ _ ?_)
  unfold sh_graph_nodes_1
  obtain ⟨hb, hv⟩ := hQ _ _ _ j0 o
  have c1 : hcell h ⟨r, 1, none⟩ = some vx := hcell_of hb rfl
  have hm := hR.most
  have hx := hR.x
  have hy := hR.y
  simp only [pField_ptr, pLoad_ptr, Nat.zero_add, c1]
  refine hv.1.len ?_
  refine LoopH_count g.X.length (fun i x h' => x.1 = I i ∧ ∃ Rs', J () Rs' ∧ Own h0 h' Rs') ⟨rfl, Rs, j0, o⟩ ?_
  rintro i ⟨x, ⟨⟩⟩ h Z hi ⟨hx', Rs', hj, o⟩ hZ
  dsimp only at hx' hZ ⊢
  subst hx'
  unfold sh_graph_nodes_1_L1
  simp only [pBin_lss, ifV_dec]
  refine ⟨fun hlt => ?_, fun hge => hK _ _ (.inl ⟨(), trivial, hj⟩) o⟩
  have hlt : i < g.X.length := by omega
  have hlty : i < g.Y.length := by omega
  obtain ⟨hb, hv⟩ := hQ _ _ _ hj o
  have c1 : hcell h ⟨r, 1, none⟩ = some vx := hcell_of hb rfl
  have c2 : hcell h ⟨r, 2, none⟩ = some vy := hcell_of hb rfl
  simp only [pField_ptr, pLoad_ptr, Nat.zero_add, c1, c2]
  refine hv.1.atI hlt (hv.2.1.atI hlty ?_)
  refine o.build (enc := encI) (n := 1) [g.X[i], g.Y[i]] rfl (sizesOk_of rfl) rfl fun w h1 o1 => ?_
  refine (o1.vw 0 rfl).len ?_
  refine LoopH_count 2 (fun j x h' => x.1 = I j ∧ ∃ Rs', J () Rs' ∧ Own h0 h' (Rs' ++ [slR encI 1 T_int64 w [g.X[i], g.Y[i]]])) ⟨rfl, Rs', hj, o1.rot⟩ ?_
  rintro j ⟨x, ⟨⟩⟩ h2 Z2 hj2 ⟨hx', Rs2, hj', o2⟩ hZ2
  dsimp only at hx' hZ2 ⊢
  subst hx'
  unfold sh_graph_nodes_1_L2
  simp only [pBin_lss, ifV_dec]
  refine ⟨fun hlt2 => ?_, fun hge => ?_⟩
  · have hw : (Rs2 ++ [slR encI 1 T_int64 w [g.X[i], g.Y[i]]])[Rs2.length]? = some (slR encI 1 T_int64 w [g.X[i], g.Y[i]]) := by simp
    have hjl : j < [g.X[i], g.Y[i]].length := by simp at hlt2 ⊢; omega
    refine (o2.vw _ hw).atI hjl ⟨sizesOk_of rfl, ?_⟩
    have hr : -2147483648 ≤ [g.X[i], g.Y[i]][j] ∧ [g.X[i], g.Y[i]][j] < 2147483648 := by
      have h1 := hR.xr _ (List.getElem_mem hlt)
      have h2 := hR.yr _ (List.getElem_mem hlty)
      have : j = 0 ∨ j = 1 := by simp at hjl; omega
      rcases this with rfl | rfl
      · simp only [List.getElem_cons_zero]; omega
      · simp only [List.getElem_cons_succ, List.getElem_cons_zero]; omega
    refine hY () _ () Rs2 _ h2 _ ⟨⟨i, j, 7, [g.X[i], g.Y[i]][j], -2147483648, 2147483648⟩, rfl, hr⟩ hj' o2 (fun Rs'' h'' hj'' o' => ?_) fun Rs'' h'' he o' => ?_
    · rw [pUn_not, Bool.not_true, ifV_false, pBin_add, wI j (by omega)]
      exact hZ2 (I (j + 1 : Nat), ()) h'' (by simp at hlt2; omega) ⟨rfl, Rs'', hj'', o'⟩
    · rw [pUn_not, Bool.not_false, ifV_true]
      exact hK _ _ (.inr he) o'.left
  · rw [pBin_add, wI i (by omega)]
    exact hZ (I (i + 1 : Nat), ()) h2 hlt ⟨rfl, Rs2, hj', o2.left⟩


theorem arcs_iter {g : G} {vx vy va : Value} {r : Nat} (hR : g.Right) : Tells (.func (.func F_graph_arcs_1) #[] #[ptr r]) (fun h => h[r]? = some (.cells #[I g.n, vx, vy, va] T_api_Raw (0, 0)) ∧ RawL h vx vy va g) := by
  rintro yv h0 h Rs K J E ⟨l, rfl⟩ o j0 hQ hY hK
  refine callF_of (l := [yieldV l, ptr r]) rfl (lk_graph_arcs_1 _ _ ?_)
  unfold sh_graph_arcs_1
  obtain ⟨hb, hv⟩ := hQ _ _ _ j0 o
  have c0 : hcell h ⟨r, 0, none⟩ = some (I g.n) := hcell_of hb rfl
  have c3 : hcell h ⟨r, 3, none⟩ = some va := hcell_of hb rfl
  have hm := hR.most
  have hmany := hR.many
  simp only [pField_ptr, pLoad_ptr, Nat.zero_add, c0, c3]
  refine hv.2.2.len ?_
  refine LoopH_count g.arcs.length (fun i x h' => x.1 = I i ∧ ∃ Rs', J () Rs' ∧ Own h0 h' Rs') ⟨rfl, Rs, j0, o⟩ ?_
  rintro i ⟨x, ⟨⟩⟩ h Z hi ⟨hx', Rs', hj, o⟩ hZ
  dsimp only at hx' hZ ⊢
  subst hx'
  unfold sh_graph_arcs_1_L1
  simp only [pBin_lss, ifV_dec]
  refine ⟨fun hlt => ?_, fun hge => hK _ _ (.inl ⟨(), trivial, hj⟩) o⟩
  have hlt : i < g.arcs.length := by omega
  obtain ⟨hb, hv⟩ := hQ _ _ _ hj o
  refine hv.2.2.atN encA_len hlt ?_
  have he := hR.ends _ (List.getElem_mem hlt)
  generalize g.arcs[i] = a at he
  refine o.box fun a5 h1 o1 => o1.st 0 rfl rfl rfl rfl rfl (encA_plain _) fun h2 o2 => ?_
  simp only [pField_ptr]
  refine o2.load 0 rfl rfl ⟨sizesOk_of rfl, o2.load 0 rfl rfl ⟨sizesOk_of rfl, o2.load 0 rfl rfl ⟨sizesOk_of rfl, ?_⟩⟩⟩
  refine o2.build (enc := encP) (n := 6) [⟨i, 0, 9, a.f, 0, g.n⟩, ⟨i, 1, 9, a.t, 0, g.n⟩, ⟨i, 2, 10, a.w, 0, 2147483648⟩] (by kernel_rfl) (sizesOk_of (by kernel_rfl)) rfl fun w h3 o3 => ?_
  refine (o3.vw 0 rfl).len ?_
  obtain ⟨ps, hps⟩ : ∃ ps : List Pl, ps = [⟨i, 0, 9, a.f, 0, g.n⟩, ⟨i, 1, 9, a.t, 0, g.n⟩, ⟨i, 2, 10, a.w, 0, 2147483648⟩] := ⟨_, rfl⟩
  have hpl : ps.length = 3 := by subst hps; rfl
  have hok : ∀ p ∈ ps, p.Ok := by
    intro p hp; subst hps; simp at hp
    rcases hp with rfl | rfl | rfl <;> simp only [Pl.Ok] <;> omega
  rw [← hps] at o3 ⊢
  rw [hpl]
  refine LoopH_count 3 (fun j x h' => x.1 = I j ∧ ∃ Rs', J () Rs' ∧ Own h0 h' (Rs' ++ [slR encP 6 T_graph_place w ps])) ⟨rfl, Rs', hj, (o3.erase 1).rot⟩ ?_
  rintro j ⟨x, ⟨⟩⟩ h2 Z2 hj2 ⟨hx', Rs2, hj', o2⟩ hZ2
  dsimp only at hx' hZ2 ⊢
  subst hx'
  unfold sh_graph_arcs_1_L2
  simp only [pBin_lss, ifV_dec]
  refine ⟨fun hlt2 => ?_, fun hge => ?_⟩
  · have hw : (Rs2 ++ [slR encP 6 T_graph_place w ps])[Rs2.length]? = some (slR encP 6 T_graph_place w ps) := by simp
    have hjl : j < ps.length := by omega
    refine (o2.vw _ hw).atN encP_len hjl ?_
    refine o2.box fun p7 h3 o3 => o3.st 0 rfl rfl rfl rfl rfl (encP_plain _) fun h4 o4 => o4.ldN 0 rfl rfl rfl ?_
    refine hY () _ () Rs2 _ h4 _ ⟨ps[j], rfl, hok _ (List.getElem_mem hjl)⟩ hj' o4.tail (fun Rs'' h'' hj'' o' => ?_) fun Rs'' h'' he o' => ?_
    · rw [pUn_not, Bool.not_true, ifV_false, pBin_add, wI j (by omega)]
      exact hZ2 (I (j + 1 : Nat), ()) h'' (by omega) ⟨rfl, Rs'', hj'', o'⟩
    · rw [pUn_not, Bool.not_false, ifV_true]
      exact hK _ _ (.inr he) o'.left
  · rw [pBin_add, wI i (by omega)]
    exact hZ (I (i + 1 : Nat), ()) h2 hlt ⟨rfl, Rs2, hj', o2.left⟩

end
end Go.Proofs.YtbacdjahpahcfaaGreatDoor

namespace Go.Proofs.YtbacdjahpahcfaaGreatDoor
open Go Go.Mh
set_option linter.unusedVariables false

section
variable {h0 h : Heap} {L : List Res} {K : Value → Heap → Prop} {vs : Value} {ps : List Pl} {b : Nat}

/-- A phase in which all is right. -/
theorem look_range {fv : Value} {Q : Heap → Prop} {phase : Value} {Kn Kr : Heap → Prop} (hI : Tells fv Q) (o : Own h0 h L) (hQ : ∀ h', Own h0 h' L → Q h') (hK : ∀ h', Own h0 h' (markR h.size :: L) → Kn h') :
    rangeH Tryz.prog fv [19] (h.size + 1) (h.push (.deferred (some []))) (fun M x hh R => sh_graph_look_B2 Tryz.prog h phase M x.1 hh R) Kn Kr [] := by
  refine o.range hI (fun s x s' ⟨p, e, _⟩ => by rw [e]; rfl) (fun _ Rs => Rs = L) (fun _ => False) (fun _ _ => False) rfl (fun _ Rs' h' e o' => hQ h' (e ▸ o')) ?_ (fun _ h' Rs' _ e o' => hK h' (e ▸ o')) (fun _ _ h => h.elim) (fun _ _ _ h => h.elim)
  rintro M ⟨⟩ x ⟨⟩ Rs' Pr h' R ⟨p, rfl, hp⟩ rfl o' hN _ _
  dsimp only [valsOf]
  unfold sh_graph_look_B2
  refine o'.box fun p4 h1 o1 => o1.st 0 rfl rfl rfl rfl rfl (encP_plain _) fun h2 o2 => ?_
  refine o2.begin 1 rfl fun h3 o3 => ?_
  simp only [pField_ptr]
  refine o3.load 0 rfl rfl (o3.load 0 rfl rfl ?_)
  simp only [pBin_lss, ifV_dec]
  refine ⟨fun e => by have := hp.1; omega, fun _ => o3.load 0 rfl rfl (o3.load 0 rfl rfl ?_)⟩
  simp only [pBin_geq, ifV_dec]
  refine ⟨fun e => by have := hp.2; omega, fun _ => ?_⟩
  exact hN _ _ rfl o3.tail

set_option maxHeartbeats 2000000 in
theorem look_ok {g : G} {v : Value} (hR : g.Right) (H : RawV h v g) (hK : ∀ h', Ext h h' → K (.tuple #[]) h') : callS Tryz.prog F_graph_look [v] h K := by
  obtain ⟨vx, vy, va, rfl, H⟩ := H
  refine callS_of (lk_graph_look _ ?_)
  unfold sh_graph_look
  refine (Own.start h).box fun r h1 o1 => ?_
  refine o1.build (enc := encV) (n := 1) [.func (.func F_graph_look_1) #[] #[ptr r], .func (.func F_graph_look_2) #[] #[ptr r], .func (.func F_graph_look_3) #[] #[ptr r], .func (.func F_graph_look_4) #[] #[ptr r], .func (.func F_graph_look_5) #[] #[ptr r]] rfl (sizesOk_of rfl) rfl fun w h2 o2 => ?_
  refine (o2.vw 0 rfl).len ?_
  have hm := hR.most
  have hp1 := hR.pos
  refine LoopH_count 5 (fun i x h' => ∃ m, x.1 = m ∧ x.2.1 = I i ∧ Own h h' [marksR m, slR encV 1 T_func_iter_Seq_graph_place w [.func (.func F_graph_look_1) #[] #[ptr r], .func (.func F_graph_look_2) #[] #[ptr r], .func (.func F_graph_look_3) #[] #[ptr r], .func (.func F_graph_look_4) #[] #[ptr r], .func (.func F_graph_look_5) #[] #[ptr r]], cellR r [I g.n, vx, vy, va] T_api_Raw])
    ⟨[], rfl, rfl, o2.noMarks⟩ ?_
  clear o1 o2
  rintro i ⟨m, x, ⟨⟩⟩ h2 Z hi ⟨m', hm', hx, o⟩ hZ
  dsimp only at hx hm' hZ ⊢
  subst hx
  obtain rfl := hm'.symm
  unfold sh_graph_look_L1
  simp only [pBin_lss, ifV_dec]
  refine ⟨fun hlt => ?_, fun hge => o.take 0 rfl fun h' o' => hK h' o'.ext⟩
  have hlt : i < 5 := by simp at hlt; omega
  have rest : ∀ {t16 : Value}, (∀ {h3 : Heap} {phase : Nat} {L : List Res} {K : Value → Heap → Prop}, Own h h3 (L ++ [cellR r [I g.n, vx, vy, va] T_api_Raw]) → (∀ fv Q (q : Res) h', Own h h' (q :: (L ++ [cellR r [I g.n, vx, vy, va] T_api_Raw])) → (∀ h'', Own h h'' (q :: (L ++ [cellR r [I g.n, vx, vy, va] T_api_Raw])) → Q h'') → Tells fv Q → K fv h') → callV Tryz.prog t16 [].toArray h3 K) →
      pBox T_int (.int .i64 0) h2 fun phase2 h_4 => pStore 1 phase2 (I i) h_4 fun u h_5 => callV Tryz.prog t16 [].toArray h_5 fun t18 h_6 =>
        rangeH Tryz.prog t18 [19] (h_6.size + 1) (h_6.push (.deferred (some []))) (fun L x hh R => sh_graph_look_B2 Tryz.prog h_6 phase2 L x.1 hh R)
          (fun h_13 => pBin .add (I i) (.int .i64 1) fun t43 => Z (h_6.size :: m', (t43, ())) h_13) (fun h_14 => takeM (h_6.size :: m') h_14 fun h_15 => K (.tuple #[]) h_15) [] := by
    intro t16 hc
    refine o.box fun p h3 o3 => o3.st1 0 rfl rfl rfl rfl rfl fun h4 o4 => ?_
    refine hc (phase := p) (L := [cellR p [I i] T_int, marksR m', slR encV 1 T_func_iter_Seq_graph_place w [.func (.func F_graph_look_1) #[] #[ptr r], .func (.func F_graph_look_2) #[] #[ptr r], .func (.func F_graph_look_3) #[] #[ptr r], .func (.func F_graph_look_4) #[] #[ptr r], .func (.func F_graph_look_5) #[] #[ptr r]]]) o4 fun fv Q q h5 o5 hq ht => ?_
    refine look_range ht o5 hq fun h6 o6 => ?_
    rw [pBin_add, wI i (by omega)]
    have o7 := o6.addMark 2 rfl
    exact hZ (h5.size :: m', (I (i + 1 : Nat), ())) h6 hlt ⟨_, rfl, rfl, o7.tail.tail⟩
  have raw : ∀ {h3 : Heap} {L : List Res}, Own h h3 (L ++ [cellR r [I g.n, vx, vy, va] T_api_Raw]) → h3[r]? = some (.cells #[I g.n, vx, vy, va] T_api_Raw (0, 0)) ∧ RawL h3 vx vy va g := fun {h3 L} o3 =>
    ⟨o3.get (r := cellR r [I g.n, vx, vy, va] T_api_Raw) L.length (by simp), H.more o3.ext⟩
  have hcase : i = 0 ∨ i = 1 ∨ i = 2 ∨ i = 3 ∨ i = 4 := by omega
  rcases hcase with rfl | rfl | rfl | rfl | rfl
  · refine (o.vw 1 rfl).at1 (e := fun x => x) (fun _ => rfl) (by simp) ?_
    refine rest fun {h3 p L K} o3 hc => ?_
    show callV Tryz.prog (.func (.func F_graph_look_1) #[] #[ptr r]) _ _ _
    refine callV_of (l := [ptr r]) rfl (lk_graph_look_1 _ ?_)
    unfold sh_graph_look_1
    have c0 : hcell h3 ⟨r, 0, none⟩ = some (I g.n) := hcell_of (raw o3).1 rfl
    simp only [pField_ptr, pLoad_ptr, c0]
    exact one_ok o3 (by omega) hc
  · refine (o.vw 1 rfl).at1 (e := fun x => x) (fun _ => rfl) (by simp) ?_
    refine rest fun {h3 p L K} o3 hc => ?_
    show callV Tryz.prog (.func (.func F_graph_look_2) #[] #[ptr r]) _ _ _
    refine callV_of (l := [ptr r]) rfl (lk_graph_look_2 _ ?_)
    unfold sh_graph_look_2
    refine o3.ldN (cs := [I g.n, vx, vy, va]) (T := T_api_Raw) L.length (by simp) rfl rfl ?_
    exact shapes_ok o3 hR (raw o3).2 hc
  · refine (o.vw 1 rfl).at1 (e := fun x => x) (fun _ => rfl) (by simp) ?_
    refine rest fun {h3 p L K} o3 hc => ?_
    show callV Tryz.prog (.func (.func F_graph_look_3) #[] #[ptr r]) _ _ _
    refine callV_of (l := [ptr r]) rfl (lk_graph_look_3 _ ?_)
    unfold sh_graph_look_3
    refine o3.ldN (cs := [I g.n, vx, vy, va]) (T := T_api_Raw) L.length (by simp) rfl rfl ?_
    refine callS_of (lk_graph_nodes _ ?_)
    unfold sh_graph_nodes
    exact o3.box fun b h4 o4 => hc _ _ _ h4 o4 (fun h'' o'' => ⟨o''.get 0 rfl, H.more o''.ext⟩) (nodes_iter hR)
  · refine (o.vw 1 rfl).at1 (e := fun x => x) (fun _ => rfl) (by simp) ?_
    refine rest fun {h3 p L K} o3 hc => ?_
    show callV Tryz.prog (.func (.func F_graph_look_4) #[] #[ptr r]) _ _ _
    refine callV_of (l := [ptr r]) rfl (lk_graph_look_4 _ ?_)
    unfold sh_graph_look_4
    have c0 : hcell h3 ⟨r, 3, none⟩ = some va := hcell_of (raw o3).1 rfl
    have hmany := hR.many
    simp only [pField_ptr, pLoad_ptr, Nat.zero_add, c0]
    refine (raw o3).2.2.2.len ?_
    exact one_ok o3 (by omega) hc
  · refine (o.vw 1 rfl).at1 (e := fun x => x) (fun _ => rfl) (by simp) ?_
    refine rest fun {h3 p L K} o3 hc => ?_
    show callV Tryz.prog (.func (.func F_graph_look_5) #[] #[ptr r]) _ _ _
    refine callV_of (l := [ptr r]) rfl (lk_graph_look_5 _ ?_)
    unfold sh_graph_look_5
    refine o3.ldN (cs := [I g.n, vx, vy, va]) (T := T_api_Raw) L.length (by simp) rfl rfl ?_
    refine callS_of (lk_graph_arcs _ ?_)
    unfold sh_graph_arcs
    exact o3.box fun b h4 o4 => hc _ _ _ h4 o4 (fun h'' o'' => ⟨o''.get 0 rfl, H.more o''.ext⟩) (arcs_iter hR)

end
end Go.Proofs.YtbacdjahpahcfaaGreatDoor

namespace Go.Proofs.YtbacdjahpahcfaaGreatDoor
open Go Go.Mh
set_option linter.unusedVariables false

section
variable {α : Type} {enc : α → List Value} {n bytes : Nat} {T : TypeId} {h0 h : Heap} {L : List Res} {K : Value → Heap → Prop} {s : Value} {xs : List α} {z : List Value}

theorem clone_gen (o : Own h0 h L) (H : Vw enc n h s xs) (he : ∀ a, (enc a).length = n) (hp : ∀ a, ∀ u ∈ enc a, Mh.plainCell u = true) (hz : z.length = n) (hby : 0 < bytes) (hl : xs.length * bytes ≤ 2 ^ 47)
    (hK : ∀ v' h', Own h0 h' (slR enc n T v' xs :: L) → K v' h') :
    pEq false .slice s (.slice none 0 0) fun t4 => ifV t4 (K (.slice none 0 0) h) (pBuildSlice T (zerosL z 0) [] 0 h fun t5 h_1 => pAppend T n bytes z t5 s h_1 fun t7 h_2 => K t7 h_2) := by
  obtain ⟨b, c, rfl⟩ := H.isSl
  simp only [pEq_slice_nil]
  rw [ifV_bool]
  refine ⟨fun hb => ?_, fun _ => ?_⟩
  · obtain ⟨bl, b', c', e, _, H'⟩ := H
    injection e with e1 e2 e3
    subst e1
    cases b with
    | some a => cases hb
    | none =>
      rcases H' with ⟨rfl, _⟩ | ⟨_, _, _, _, _, e, _⟩
      · exact hK _ _ o.nilS
      · cases e
  · refine (Own.start h).build (enc := enc) (n := n) ([] : List α) (by simp [zerosL, spliceAll, row]) (sizesOk_of rfl) rfl fun w h1 o1 => ?_
    exact o1.app 0 rfl he hp hz (H.more o1.ext) hby (by simpa using hl) fun v' h' o' => hK v' h' (o.frame o')

theorem clone_int {xs : List Nat} (o : Own h0 h L) (H : Vw encN 1 h s xs) (hl : xs.length ≤ 2 ^ 40) (hK : ∀ v' h', Own h0 h' (slR encN 1 T_int v' xs :: L) → K v' h') : callS Tryz.prog F_slices_Clone_sl_int_int [s] h K :=
  callS_of (lk_slices_Clone_sl_int_int _ (clone_gen o H encN_len encN_plain rfl (by decide) (by omega) hK))
theorem clone_int64 {xs : List Int} (o : Own h0 h L) (H : Vw encI 1 h s xs) (hl : xs.length ≤ 2 ^ 40) (hK : ∀ v' h', Own h0 h' (slR encI 1 T_int64 v' xs :: L) → K v' h') : callS Tryz.prog F_slices_Clone_sl_int64_int64 [s] h K :=
  callS_of (lk_slices_Clone_sl_int64_int64 _ (clone_gen o H encI_len encI_plain rfl (by decide) (by omega) hK))
theorem clone_arc {xs : List A} (o : Own h0 h L) (H : Vw encA 3 h s xs) (hl : xs.length ≤ 2 ^ 40) (hK : ∀ v' h', Own h0 h' (slR encA 3 T_api_Arc v' xs :: L) → K v' h') : callS Tryz.prog F_slices_Clone_sl_api_Arc_api_Arc [s] h K :=
  callS_of (lk_slices_Clone_sl_api_Arc_api_Arc _ (clone_gen o H encA_len encA_plain rfl (by decide) (by omega) hK))

end

/-! ### slices.Repeat of one element -/

theorem and_low {n : Nat} (hn : n < 4294967296) : (BitVec.ofInt 64 (n : Int) &&& BitVec.ofInt 64 4294967295).toNat = n := by
  have e1 : (BitVec.ofInt 64 (n : Int)).toNat = n := by simp [BitVec.toNat_ofInt]; omega
  have e2 : (BitVec.ofInt 64 4294967295).toNat = 4294967295 := rfl
  rw [BitVec.toNat_and, e1, e2, show 4294967295 = 2 ^ 32 - 1 from rfl, Nat.and_two_pow_sub_one_eq_mod]
  omega

theorem u64w {n : Int} (h0 : 0 ≤ n) (h1 : n ≤ 18446744073709551615) : IntKind.u64.wrap n = n := wrap_in h0 h1

section
variable {k k' : IntKind} {a b : Int} {K : Value → Prop}
theorem pBin_and : pBin .and (.int k a) (.int k b) K ↔ K (.int k (k.wrap (BitVec.ofInt k.bits a &&& BitVec.ofInt k.bits b).toNat)) := by simp [pBin]
theorem pBin_shr : pBin .shr (.int k a) (.int k' b) K ↔ 0 ≤ b ∧ K (.int k (a.fdiv (2 ^ (min b.toNat k.bits)))) := by simp [pBin]
end

end Go.Proofs.YtbacdjahpahcfaaGreatDoor

namespace Go.Proofs.YtbacdjahpahcfaaGreatDoor
open Go Go.Mh
set_option linter.unusedVariables false

section
variable {h0 h : Heap} {L : List Res} {K : Value → Heap → Prop} {d i : Nat} {vb : Value} {bs : List Int} {a : Nat}

/-- A draw: some number below n. -/
theorem next_ok (o : Own h0 h L) (i : Nat) (hi : L[i]? = some (cellR d [vb, I a] T_milestoneref07_Draft)) (hb : Vw encU8 1 h0 vb bs) (ha : a < 2 ^ 40) {n : Nat} (hn : 1 ≤ n) (hn' : n < 2 ^ 40)
    (hK : ∀ (k a' : Nat) h', k < n → a' ≤ a + 1 → Own h0 h' (L.set i (cellR d [vb, I a'] T_milestoneref07_Draft)) → K (I k) h') : callS Tryz.prog F_milestoneref07_Draft_Next [ptr d, I n] h K := by
  refine callS_of (lk_milestoneref07_Draft_Next _ _ ?_)
  unfold sh_milestoneref07_Draft_Next sh_milestoneref07_Draft_Next_k1
  have o0 : Own h0 h (L.set i (cellR d [vb, I a] T_milestoneref07_Draft)) := o.conv i hi (o.get i hi) fun b hb => hb
  simp only [pNil_ptr, pField_ptr]
  refine o.load i hi rfl ?_
  refine (hb.more o.ext).len ?_
  simp only [pBin_eql, ifV_beq]
  refine ⟨fun _ => hK 0 a h hn (by omega) o0, fun hlen => ?_⟩
  simp only [pBin_lss, ifV_dec]
  refine ⟨fun e => by omega, fun _ => ?_⟩
  refine o.load i hi rfl ?_
  have e1 : IntKind.i64.wrap ((a : Int) + 1) = ((a + 1 : Nat) : Int) := wI a (by omega)
  simp only [pBin_add, e1]
  refine o.put i hi rfl (by simp) rfl fun h2 o2 => ?_
  have hi2 := set_get (x := cellR d [vb, I (a + 1 : Nat)] T_milestoneref07_Draft) hi
  replace o2 : Own h0 h2 (L.set i (cellR d [vb, I (a + 1 : Nat)] T_milestoneref07_Draft)) := o2
  have hb2 := hb.more o2.ext
  have e2 : IntKind.i64.wrap (((a + 1 : Nat) : Int) - 1) = (a : Int) := by rw [w64 (by omega) (by omega)]; omega
  have e3 : ((a : Int).tmod bs.length) = ((a % bs.length : Nat) : Int) := rfl
  have hlt : a % bs.length < bs.length := Nat.mod_lt _ (by omega)
  refine o2.load i hi2 rfl (o2.load i hi2 rfl ?_)
  simp only [pBin_sub, e2]
  refine o2.load i hi2 rfl (hb2.len ?_)
  simp only [pBin_rem, e3]
  refine ⟨by omega, ?_⟩
  refine hb2.at1 (e := fun x => .int .u8 x) (fun _ => rfl) hlt ?_
  refine o2.load i hi2 rfl ?_
  simp only [pBin_sub, e2]
  refine o2.load i hi2 rfl (hb2.len ?_)
  simp only [pBin_quo, pConv_int, pBin_add, pBin_rem]
  refine ⟨by omega, ?_⟩
  have hw := u8_wrap (bs[a % bs.length] + IntKind.u8.wrap (IntKind.i64.wrap ((a : Int).tdiv bs.length)))
  generalize IntKind.u8.wrap (bs[a % bs.length] + IntKind.u8.wrap (IntKind.i64.wrap ((a : Int).tdiv bs.length))) = w at hw
  have e4 : IntKind.i64.wrap w = w := w64 (by omega) (by omega)
  rw [e4]
  refine ⟨by omega, ?_⟩
  obtain ⟨u, rfl⟩ := Int.eq_ofNat_of_zero_le hw.1
  have e5 : ((u : Int).tmod n) = ((u % n : Nat) : Int) := rfl
  rw [e5]
  exact hK _ (a + 1) h2 (Nat.mod_lt _ (by omega)) (by omega) o2

/-- A weight. -/
theorem weight_ok (o : Own h0 h L) (i : Nat) (hi : L[i]? = some (cellR d [vb, I a] T_milestoneref07_Draft)) (hb : Vw encU8 1 h0 vb bs) (ha : a < 2 ^ 39)
    (hK : ∀ (k a' : Nat) h', k ≤ 2147483647 → a' ≤ a + 2 → Own h0 h' (L.set i (cellR d [vb, I a'] T_milestoneref07_Draft)) → K (I k) h') : callS Tryz.prog F_milestoneref07_Draft_Weight [ptr d] h K := by
  refine callS_of (lk_milestoneref07_Draft_Weight _ ?_)
  unfold sh_milestoneref07_Draft_Weight
  refine next_ok (n := 12) o i hi hb (by omega) (by decide) (by decide) fun k a1 h1 hk ha1 o1 => ?_
  have hi1 := set_get (x := cellR d [vb, I a1] T_milestoneref07_Draft) hi
  have fin : ∀ {h2 : Heap} {x : Res}, Own h0 h2 ((L.set i (cellR d [vb, I a1] T_milestoneref07_Draft)).set i x) → Own h0 h2 (L.set i x) := fun o => by rwa [List.set_set] at o
  simp only [pBin_lss, ifV_dec]
  refine ⟨fun _ => hK 0 a1 h1 (by omega) (by omega) o1, fun _ => ⟨fun _ => ?_, fun _ => ⟨fun _ => ?_, fun _ => ?_⟩⟩⟩
  · refine next_ok (n := 9) o1 i hi1 hb (by omega) (by decide) (by decide) fun k a2 h2 hk ha2 o2 => ?_
    have e : IntKind.i64.wrap (1 + (k : Int)) = ((1 + k : Nat) : Int) := by rw [w64 (by omega) (by omega)]; omega
    rw [pBin_add, e]
    exact hK _ a2 h2 (by omega) (by omega) (fin o2)
  · refine next_ok (n := 20) o1 i hi1 hb (by omega) (by decide) (by decide) fun k a2 h2 hk ha2 o2 => ?_
    have e : IntKind.i64.wrap (100 * (k : Int)) = ((100 * k : Nat) : Int) := by rw [w64 (by omega) (by omega)]; omega
    rw [pBin_mul, e]
    exact hK _ a2 h2 (by omega) (by omega) (fin o2)
  · refine next_ok (n := 2) o1 i hi1 hb (by omega) (by decide) (by decide) fun k a2 h2 hk ha2 o2 => ?_
    have e : IntKind.i64.wrap (2147483647 - (k : Int)) = ((2147483647 - k : Nat) : Int) := by rw [w64 (by omega) (by omega)]; omega
    rw [pBin_sub, e]
    exact hK _ a2 h2 (by omega) (by omega) (fin o2)

end
end Go.Proofs.YtbacdjahpahcfaaGreatDoor

namespace Go.Proofs.YtbacdjahpahcfaaGreatDoor
open Go Go.Mh
set_option linter.unusedVariables false

abbrev dR (d : Nat) (vb : Value) (a : Nat) : Res := cellR d [vb, I a] T_milestoneref07_Draft
abbrev xR (v : Value) (xs : List Int) : Res := slR encI 1 T_int64 v xs
abbrev aR (v : Value) (xs : List A) : Res := slR encA 3 T_api_Arc v xs
abbrev sl0 : Value := .slice none 0 0

/-- What a draft becomes: a graph that is right, of few nodes. -/
structure Few (g : G) : Prop extends G.Right g where
  few : g.n ≤ 12
  short : g.arcs.length ≤ 84

section
variable {h0 h : Heap} {L : List Res} {K : Value → Heap → Prop} {d n g3 t2 : Nat} {vb vx vy : Value} {bs : List Int} {a : Nat} {xs ys : List Int}

def RawK (h0 : Heap) (L : List Res) (K : Value → Heap → Prop) (d : Nat) (vb : Value) : Prop :=
  ∀ (g : G) vx vy va a' h', Few g → Own h0 h' (xR vx g.X :: xR vy g.Y :: aR va g.arcs :: dR d vb a' :: L) → K (.agg #[I g.n, vx, vy, va]) h'

structure RawI (n : Nat) (xs ys : List Int) (arcs : List A) : Prop where
  n1 : 1 ≤ n
  n2 : n ≤ 12
  x : xs.length = n
  y : ys.length = n
  xr : ∀ c ∈ xs, -2147483648 ≤ c ∧ c ≤ 2147483647
  yr : ∀ c ∈ ys, -2147483648 ≤ c ∧ c ≤ 2147483647
  e : ∀ a ∈ arcs, a.f < n ∧ a.t < n ∧ a.w ≤ 2147483647

theorem RawI.add {arcs : List A} (R : RawI n xs ys arcs) {f t w : Nat} (hf : f < n) (ht : t < n) (hw : w ≤ 2147483647) : RawI n xs ys (arcs ++ [⟨f, t, w⟩]) :=
  ⟨R.n1, R.n2, R.x, R.y, R.xr, R.yr, fun a ha => (List.mem_append.1 ha).elim (fun h => R.e a h) fun h => by
    simp at h; subst h; exact ⟨hf, ht, hw⟩⟩

theorem rawFin {arcs : List A} {va : Value} {a' : Nat} (hK : RawK h0 L K d vb) (R : RawI n xs ys arcs) (hl : arcs.length ≤ 84)
    (o : Own h0 h (aR va arcs :: xR vx xs :: xR vy ys :: cellR g3 [I n, vx, vy, va] T_api_Raw :: cellR t2 [I 0, sl0, sl0, sl0] T_api_Raw :: dR d vb a' :: L)) :
    pLoadN 4 h (ptr g3) fun t116 => pStore 4 (ptr t2) t116 h fun u_12 h_53 => pLoadN 4 h_53 (ptr t2) fun res => K res h_53 := by
  refine o.ldN 3 rfl rfl rfl ?_
  refine o.st 4 rfl rfl rfl rfl rfl ?_ fun h2 o2 => ?_
  · intro u hu
    simp at hu
    rcases hu with rfl | rfl | rfl | rfl
    · rfl
    · exact (o.vw 1 rfl).plain
    · exact (o.vw 2 rfl).plain
    · exact (o.vw 0 rfl).plain
  refine o2.ldN 4 rfl rfl rfl ?_
  exact hK ⟨n, xs, ys, arcs⟩ vx vy va a' h2 ⟨⟨R.n1, Nat.le_trans R.n2 (by decide), R.x, R.y, R.xr, R.yr, Nat.le_trans hl (by decide), R.e⟩, R.n2, hl⟩ (o2.front 6 [1, 2, 0, 5] (by decide) (by decide))

theorem raw_k4 {arcs : List A} {va : Value} {a' many : Nat} (hK : RawK h0 L K d vb) (hb : Vw encU8 1 h0 vb bs) (R : RawI n xs ys arcs) (hl : arcs.length ≤ 12) (hm : many ≤ 36) (ha : a' ≤ 1000)
    (o : Own h0 h (aR va arcs :: xR vx xs :: xR vy ys :: cellR g3 [I n, vx, vy, va] T_api_Raw :: cellR t2 [I 0, sl0, sl0, sl0] T_api_Raw :: dR d vb a' :: L)) :
    sh_milestoneref07_Draft_Raw_k4 Tryz.prog (I many) (ptr g3) (ptr d) (ptr t2) K h := by
  unfold sh_milestoneref07_Draft_Raw_k4
  refine LoopH_count many (fun i x h' => ∃ arcs va a', x.1 = I i ∧ RawI n xs ys arcs ∧ arcs.length ≤ 12 + 2 * i ∧ a' ≤ 1000 + 10 * i ∧
    Own h0 h' (aR va arcs :: xR vx xs :: xR vy ys :: cellR g3 [I n, vx, vy, va] T_api_Raw :: cellR t2 [I 0, sl0, sl0, sl0] T_api_Raw :: dR d vb a' :: L)) ⟨arcs, va, a', rfl, R, hl, ha, o⟩ ?_
  rintro i ⟨x, ⟨⟩⟩ h Z hi ⟨arcs, va, a', hx, R, hl, ha, o⟩ hZ
  dsimp only at hx hZ ⊢
  subst hx
  have n2 := R.n2
  unfold sh_milestoneref07_Draft_Raw_L5
  simp only [pBin_lss, ifV_dec]
  refine ⟨fun hlt => ?_, fun hge => rawFin hK R (by omega) o⟩
  have hlt : i < many := by omega
  refine cutP_of (fun v h' => ∃ (b f t w a2 : Nat), v.1 = ptr b ∧ f < n ∧ t < n ∧ w ≤ 2147483647 ∧ a2 ≤ a' + 4 ∧
    Own h0 h' (cellR b [I f, I t, I w] T_api_Arc :: aR va arcs :: xR vx xs :: xR vy ys :: cellR g3 [I n, vx, vy, va] T_api_Raw :: cellR t2 [I 0, sl0, sl0, sl0] T_api_Raw :: dR d vb a2 :: L)) (fun J hJ => ?_) ?_
  · simp only [pField_ptr]
    refine o.load 3 rfl rfl (o.load 3 rfl rfl ?_)
    refine ⟨?_, ?_⟩
    · refine next_ok o 5 rfl hb (by omega) R.n1 (by omega) fun f a1 h1 hf ha1 o1 => ⟨o1.load 3 rfl rfl rfl, ?_, ?_⟩
      · refine next_ok o1 5 rfl hb (by omega) R.n1 (by omega) fun t a2 h2 ht ha2 o2 => ⟨?_, ?_⟩
        · refine weight_ok o2 5 rfl hb (by omega) fun w a3 h3 hw ha3 o3 => ⟨sizesOk_of rfl, ?_⟩
          refine o3.box fun b h4 o4 => o4.st 0 rfl rfl rfl rfl rfl (by simp [spliceAll]) fun h5 o5 => hJ _ _ ⟨b, f, t, w, a3, rfl, hf, ht, hw, by omega, o5⟩
        · refine o2.box fun b h4 o4 => weight_ok o4 6 rfl hb (by omega) fun w a3 h3 hw ha3 o3 => ⟨sizesOk_of rfl, ?_⟩
          exact o3.st 0 rfl rfl rfl rfl rfl (by simp [spliceAll]) fun h5 o5 => hJ _ _ ⟨b, f, t, w, a3, rfl, hf, ht, hw, by omega, o5⟩
      · refine o1.box fun b h4 o4 => next_ok o4 6 rfl hb (by omega) R.n1 (by omega) fun t a2 h2 ht ha2 o2 => ?_
        refine weight_ok o2 6 rfl hb (by omega) fun w a3 h3 hw ha3 o3 => ⟨sizesOk_of rfl, ?_⟩
        exact o3.st 0 rfl rfl rfl rfl rfl (by simp [spliceAll]) fun h5 o5 => hJ _ _ ⟨b, f, t, w, a3, rfl, hf, ht, hw, by omega, o5⟩
    · refine o.box fun b h4 o4 => next_ok o4 6 rfl hb (by omega) R.n1 (by omega) fun f a1 h1 hf ha1 o1 => ⟨o1.load 4 rfl rfl rfl, ?_⟩
      refine next_ok o1 6 rfl hb (by omega) R.n1 (by omega) fun t a2 h2 ht ha2 o2 => ?_
      refine weight_ok o2 6 rfl hb (by omega) fun w a3 h3 hw ha3 o3 => ⟨sizesOk_of rfl, ?_⟩
      exact o3.st 0 rfl rfl rfl rfl rfl (by simp [spliceAll]) fun h5 o5 => hJ _ _ ⟨b, f, t, w, a3, rfl, hf, ht, hw, by omega, o5⟩
  · rintro ⟨x, ⟨⟩⟩ h' ⟨b, f, t, w, a2, hv, hf, ht, hw, ha2, o⟩
    dsimp only at hv ⊢
    subst hv
    unfold sh_milestoneref07_Draft_Raw_C6 sh_milestoneref07_Draft_Raw_k7
    simp only [pField_ptr]
    refine o.load 4 rfl rfl (o.ldN 0 rfl rfl rfl ?_)
    refine o.app1 1 ⟨f, t, w⟩ rfl rfl (sizesOk_of rfl) encA_len encA_plain rfl (by decide) (by omega) fun va1 h1 o1 => ?_
    refine o1.st1 4 rfl rfl rfl (o1.vw 1 rfl).one (o1.vw 1 rfl).plain fun h2 o2 => ?_
    refine next_ok (n := 4) o2 6 rfl hb (by omega) (by decide) (by decide) fun k a3 h3 hk ha3 o3 => ?_
    have R1 := R.add hf ht hw
    simp only [pBin_eql, ifV_beq]
    refine ⟨fun _ => ?_, fun _ => ?_⟩
    · refine o3.load 4 rfl rfl (o3.load 0 rfl rfl (o3.load 0 rfl rfl (o3.load 0 rfl rfl ⟨sizesOk_of rfl, ?_⟩)))
      refine o3.app1 1 ⟨t, f, w⟩ rfl rfl (sizesOk_of rfl) encA_len encA_plain rfl (by decide) (by simp; omega) fun va2 h4 o4 => ?_
      refine o4.st1 4 rfl rfl rfl (o4.vw 1 rfl).one (o4.vw 1 rfl).plain fun h5 o5 => ?_
      rw [pBin_add, wI i (by omega)]
      exact hZ (I (i + 1 : Nat), ()) h5 hlt ⟨_, va2, a3, rfl, R1.add ht hf hw, by simp; omega, by omega, o5.tail⟩
    · rw [pBin_add, wI i (by omega)]
      exact hZ (I (i + 1 : Nat), ()) h3 hlt ⟨_, va1, a3, rfl, R1, by simp; omega, by omega, o3.tail⟩

theorem raw_k2 {a' : Nat} (hK : RawK h0 L K d vb) (hb : Vw encU8 1 h0 vb bs) (R : RawI n xs ys []) (ha : a' ≤ 100)
    (o : Own h0 h (xR vx xs :: xR vy ys :: cellR g3 [I n, vx, vy, sl0] T_api_Raw :: cellR t2 [I 0, sl0, sl0, sl0] T_api_Raw :: dR d vb a' :: L)) :
    sh_milestoneref07_Draft_Raw_k2 Tryz.prog (ptr g3) (ptr d) (ptr t2) K h := by
  unfold sh_milestoneref07_Draft_Raw_k2
  have n1 := R.n1
  have n2 := R.n2
  simp only [pField_ptr]
  refine o.load 2 rfl rfl ?_
  have e1 : IntKind.i64.wrap (3 * (n : Int)) = 3 * (n : Int) := w64 (by omega) (by omega)
  have e2 : IntKind.i64.wrap (3 * (n : Int) + 1) = ((3 * n + 1 : Nat) : Int) := by rw [w64 (by omega) (by omega)]; omega
  simp only [pBin_mul, pBin_add, e1, e2]
  refine next_ok o 4 rfl hb (by omega) (by omega) (by omega) fun many a1 h1 hm ha1 o1 => ?_
  refine next_ok (n := 3) o1 4 rfl hb (by omega) (by decide) (by decide) fun k a2 h2 hk ha2 o2 => ?_
  simp only [pBin_gtr]
  refine LoopH_count n (fun i x h' => ∃ arcs va a', x.1 = I i ∧ RawI n xs ys arcs ∧ arcs.length ≤ i ∧ a' ≤ 200 + 10 * i ∧
    Own h0 h' (aR va arcs :: xR vx xs :: xR vy ys :: cellR g3 [I n, vx, vy, va] T_api_Raw :: cellR t2 [I 0, sl0, sl0, sl0] T_api_Raw :: dR d vb a' :: L)) ⟨[], sl0, a2, rfl, R, Nat.le_refl _, by omega, o2.nilS⟩ ?_
  rintro i ⟨x, ⟨⟩⟩ h Z hi ⟨arcs, va, a', hx, R, hl, ha, o⟩ hZ
  dsimp only at hx hZ ⊢
  subst hx
  unfold sh_milestoneref07_Draft_Raw_L3
  simp only [pField_ptr]
  refine o.load 3 rfl rfl ?_
  have next : sh_milestoneref07_Draft_Raw_k4 Tryz.prog (I many) (ptr g3) (ptr d) (ptr t2) K h := raw_k4 hK hb R (by omega) (by omega) (by omega) o
  simp only [pBin_lss, ifV_dec]
  refine ⟨fun hlt => ⟨fun _ => ?_, fun _ => next⟩, fun _ => next⟩
  have hlt : i < n := by omega
  refine o.load 3 rfl rfl ?_
  rw [pBin_add, wI i (by omega)]
  refine o.load 3 rfl rfl ?_
  have e3 : (((i + 1 : Nat) : Int).tmod n) = (((i + 1) % n : Nat) : Int) := rfl
  rw [pBin_rem, e3]
  refine ⟨by omega, ?_⟩
  refine weight_ok o 5 rfl hb (by omega) fun w a3 h3 hw ha3 o3 => ⟨o3.load 3 rfl rfl rfl, o3.load 3 rfl rfl rfl, sizesOk_of rfl, ?_⟩
  refine o3.app1 0 ⟨i, (i + 1) % n, w⟩ rfl rfl (sizesOk_of rfl) encA_len encA_plain rfl (by decide) (by omega) fun va1 h4 o4 => ?_
  refine o4.st1 3 rfl rfl rfl (o4.vw 0 rfl).one (o4.vw 0 rfl).plain fun h5 o5 => ?_
  rw [pBin_add, wI i (by omega)]
  exact hZ (I (i + 1 : Nat), ()) h5 hlt ⟨_, va1, a3, rfl, R.add hlt (Nat.mod_lt _ (by omega)) hw, by simp; omega, by omega, o5⟩

theorem mem_set_or {α : Type} {l : List α} {i : Nat} {a c : α} (h : c ∈ l.set i a) : c ∈ l ∨ c = a := List.mem_or_eq_of_mem_set h

theorem raw_ok (o : Own h0 h (dR d vb 0 :: L)) (hb : Vw encU8 1 h0 vb bs) (hK : RawK h0 L K d vb) : callS Tryz.prog F_milestoneref07_Draft_Raw [ptr d] h K := by
  refine callS_of (lk_milestoneref07_Draft_Raw _ ?_)
  unfold sh_milestoneref07_Draft_Raw
  refine o.box fun t2 h1 o1 => ?_
  refine next_ok (n := 12) o1 1 rfl hb (by decide) (by decide) (by decide) fun k a1 h2 hk ha1 o2 => ?_
  have e1 : IntKind.i64.wrap (1 + (k : Int)) = ((k + 1 : Nat) : Int) := by rw [w64 (by omega) (by omega)]; omega
  simp only [pBin_add, e1]
  refine ⟨sizesOk_of rfl, ?_⟩
  refine o2.box fun g3 h3 o3 => ?_
  refine o3.st 0 rfl rfl rfl rfl rfl (by simp [spliceAll]) fun h4 o4 => ?_
  obtain ⟨n, hn⟩ : ∃ n, n = k + 1 := ⟨_, rfl⟩
  have o5 : Own h0 h4 (xR sl0 [] :: xR sl0 [] :: cellR g3 [I n, sl0, sl0, sl0] T_api_Raw :: cellR t2 [I 0, sl0, sl0, sl0] T_api_Raw :: dR d vb a1 :: L) := by subst hn; exact (o4.nilS).nilS
  clear o4 o3 o2 o1 o e1
  have n1 : 1 ≤ n := by omega
  have n2 : n ≤ 12 := by omega
  refine LoopH_count n (fun i x h' => ∃ xs ys vx vy a', x.1 = I i ∧ xs.length = i ∧ ys.length = i ∧ (∀ c ∈ xs, -2147483648 ≤ c ∧ c ≤ 2147483647) ∧ (∀ c ∈ ys, -2147483648 ≤ c ∧ c ≤ 2147483647) ∧ a' ≤ 1 + 2 * i ∧
    Own h0 h' (xR vx xs :: xR vy ys :: cellR g3 [I n, vx, vy, sl0] T_api_Raw :: cellR t2 [I 0, sl0, sl0, sl0] T_api_Raw :: dR d vb a' :: L)) ⟨[], [], sl0, sl0, a1, rfl, rfl, rfl, by simp, by simp, by omega, o5⟩ ?_
  clear o5
  rintro i ⟨x, ⟨⟩⟩ h Z hi ⟨xs, ys, vx, vy, a', hx, hxl, hyl, hxr, hyr, ha, o⟩ hZ
  dsimp only at hx hZ ⊢
  subst hx
  unfold sh_milestoneref07_Draft_Raw_L1
  simp only [pField_ptr]
  refine o.load 2 rfl rfl ?_
  simp only [pBin_lss, ifV_dec]
  refine ⟨fun hlt => ?_, fun hge => ?_⟩
  · have hlt : i < n := by omega
    refine o.load 2 rfl rfl ?_
    refine next_ok (n := 9) o 4 rfl hb (by omega) (by decide) (by decide) fun k a2 h2 hk ha2 o2 => ⟨o2.load 2 rfl rfl rfl, ?_⟩
    have e2 : IntKind.i64.wrap ((k : Int) - 3) = (k : Int) - 3 := w64 (by omega) (by omega)
    simp only [pBin_sub, e2]
    refine o2.app1 0 ((k : Int) - 3) rfl rfl (sizesOk_of rfl) encI_len encI_plain rfl (by decide) (by omega) fun vx1 h3 o3 => ?_
    refine o3.st1 2 rfl rfl rfl (o3.vw 0 rfl).one (o3.vw 0 rfl).plain fun h4 o4 => ?_
    refine o4.load 2 rfl rfl ?_
    refine next_ok (n := 7) o4 4 rfl hb (by omega) (by decide) (by decide) fun k2 a3 h5 hk2 ha3 o5 => ⟨o5.load 2 rfl rfl rfl, ?_⟩
    refine o5.app1 1 (k2 : Int) rfl rfl (sizesOk_of rfl) encI_len encI_plain rfl (by decide) (by omega) fun vy1 h6 o6 => ?_
    refine o6.st1 2 rfl rfl rfl (o6.vw 1 rfl).one (o6.vw 1 rfl).plain fun h7 o7 => ?_
    rw [pBin_add, wI i (by omega)]
    refine hZ (I (i + 1 : Nat), ()) h7 hlt ⟨_, _, vx1, vy1, a3, rfl, by simp [hxl], by simp [hyl], ?_, ?_, by omega, o7⟩
    · intro c hc
      rcases List.mem_append.1 hc with h | h
      · exact hxr c h
      · simp at h; omega
    · intro c hc
      rcases List.mem_append.1 hc with h | h
      · exact hyr c h
      · simp at h; omega
  · have hin : i = n := by omega
    refine next_ok (n := 9) o 4 rfl hb (by omega) (by decide) (by decide) fun k a2 h2 hk ha2 o2 => ?_
    simp only [pBin_eql, ifV_beq]
    refine ⟨fun _ => ?_, fun _ => raw_k2 hK hb ⟨n1, n2, hxl.trans hin, hyl.trans hin, hxr, hyr, by simp⟩ (by omega) o2⟩
    refine o2.load 2 rfl rfl ?_
    refine o2.setI 0 (j := 0) rfl (by omega) fun h3 o3 => ?_
    refine o3.load 2 rfl rfl (o3.load 2 rfl rfl ?_)
    have e3 : IntKind.i64.wrap ((n : Int) - 1) = ((n - 1 : Nat) : Int) := by rw [w64 (by omega) (by omega)]; omega
    simp only [pBin_sub, e3]
    refine o3.setI 1 (j := n - 1) rfl (by omega) fun h4 o4 => ?_
    refine raw_k2 hK hb ⟨n1, n2, by simp [hxl, hin], by simp [hyl, hin], fun c hc => ?_, fun c hc => ?_, by simp⟩ (by omega) o4
    · rcases mem_set_or hc with h | rfl
      · exact hxr c h
      · decide
    · rcases mem_set_or hc with h | rfl
      · exact hyr c h
      · decide

end
end Go.Proofs.YtbacdjahpahcfaaGreatDoor

namespace Go.Proofs.YtbacdjahpahcfaaGreatDoor
open Go Go.Mh
set_option linter.unusedVariables false

section
variable {h0 h : Heap} {L : List Res} {K : Value → Heap → Prop} {g : G} {v : Value}

theorem check_ok (hR : g.Right) (H : RawV h v g) (hK : ∀ h', Ext h h' → K .nilIface h') : callS Tryz.prog F_graph_Check [v] h K := by
  obtain ⟨vx, vy, va, rfl, H⟩ := H
  refine callS_of (lk_graph_Check _ ?_)
  unfold sh_graph_Check
  refine (Own.start h).box fun r h1 o1 => o1.box fun e h2 o2 => o2.ldN 1 rfl rfl rfl ?_
  refine look_ok hR ⟨vx, vy, va, rfl, H.more o2.ext⟩ fun h3 x3 => ?_
  have o3 := o2.more x3
  refine o3.st1 0 rfl rfl rfl rfl rfl fun h4 o4 => ?_
  exact check1_idle (o4.load 0 rfl rfl (hK _ o4.ext))

theorem own_ok (o : Own h0 h L) (hR : g.Right) (H : RawV h v g) (hK : ∀ vx vy va h', Own h0 h' (xR vx g.X :: xR vy g.Y :: aR va g.arcs :: L) → K (.agg #[I g.n, vx, vy, va]) h') : callS Tryz.prog F_net_own [v] h K := by
  obtain ⟨vx, vy, va, rfl, H⟩ := H
  refine callS_of (lk_net_own _ ?_)
  unfold sh_net_own
  have hx := hR.x
  have hy := hR.y
  have hm := hR.most
  have hmany := hR.many
  refine (Own.start h).box fun r h1 o1 => o1.box fun e h2 o2 => ?_
  simp only [pField_ptr]
  refine o2.load 1 rfl rfl (o2.load 1 rfl rfl (o2.load 1 rfl rfl ?_))
  refine clone_int64 o2 (H.more o2.ext).1 (by omega) fun vx1 h3 o3 => ⟨o3.load 2 rfl rfl rfl, o3.load 2 rfl rfl rfl, ?_⟩
  refine clone_int64 o3 (H.more o3.ext).2.1 (by omega) fun vy1 h4 o4 => ⟨o4.load 3 rfl rfl rfl, ?_⟩
  refine clone_arc o4 (H.more o4.ext).2.2 (by omega) fun va1 h5 o5 => ?_
  have p0 := o5.vw 0 rfl
  have p1 := o5.vw 1 rfl
  have p2 := o5.vw 2 rfl
  refine o5.st1 4 rfl rfl rfl p2.one p2.plain fun h6 o6 => ?_
  refine o6.st1 4 rfl rfl rfl p1.one p1.plain fun h7 o7 => ?_
  refine o7.st1 (cs' := [I g.n, vx1, vy1, va1]) 4 rfl rfl rfl p0.one p0.plain fun h8 o8 => ?_
  refine o8.ldN 4 rfl rfl rfl ?_
  refine o8.st 3 rfl rfl rfl rfl rfl ?_ fun h9 o9 => ?_
  · intro u hu
    simp at hu
    rcases hu with rfl | rfl | rfl | rfl
    · rfl
    · exact p2.plain
    · exact p1.plain
    · exact p0.plain
  · refine o9.ldN 3 rfl rfl rfl ?_
    exact hK vx1 vy1 va1 h9 (o.frame (o9.sel [2, 1, 0] (by decide)))

end
end Go.Proofs.YtbacdjahpahcfaaGreatDoor

namespace Go.Proofs.YtbacdjahpahcfaaGreatDoor
open Go Go.Mh
set_option linter.unusedVariables false

/-- Rows of numbers, one for each node. -/
def rowsQ (h : Heap) (vr : Value) (n : Nat) (f : Nat → List Nat) : Prop :=
  ∃ ls : List Value, ls.length = n ∧ Vw encV 1 h vr ls ∧ ∀ v (hv : v < ls.length), Vw encN 1 h ls[v] (f v)

theorem rowsQ.more {h h' : Heap} {vr : Value} {n : Nat} {f : Nat → List Nat} (H : rowsQ h vr n f) (x : Ext h h') : rowsQ h' vr n f := by
  obtain ⟨ls, a, b, c⟩ := H
  exact ⟨ls, a, b.more x, fun v hv => (c v hv).more x⟩

section
variable {p : A → Nat} {l : List A} {bl : Nat}
open Arcs

def rowV (p : A → Nat) (l : List A) (bl v len : Nat) : Value := .slice (slBase 1 (off p l v) (off p l v + cnt p l v) (some ⟨bl, 0, none⟩)) len (cnt p l v)

theorem rowV_pos {v len : Nat} (h : 0 < cnt p l v) : rowV p l bl v len = .slice (some ⟨bl, off p l v, none⟩) len (cnt p l v) := by
  have : ¬ off p l v + cnt p l v = off p l v := by omega
  simp only [rowV, slBase, if_neg this]; simp

theorem rowV_plain {v len : Nat} : Mh.plainCell (rowV p l bl v len) = true := rfl

/-- What stands in the rows so far. -/
def RowsC (p : A → Nat) (l : List A) (n i : Nat) (c : List Nat) : Prop :=
  c.length = l.length ∧ ∀ v, v < n → ∀ j, j < (fill p l i v).length → c[off p l v + j]? = (fill p l i v)[j]?

theorem RowsC.zero {n : Nat} {c : List Nat} (h : c.length = l.length) : RowsC p l n 0 c := ⟨h, fun v _ j hj => by simp [fill, outsP] at hj⟩

theorem RowsC.succ {n i : Nat} {c : List Nat} (H : RowsC p l n i c) (hi : i < l.length) : RowsC p l n (i + 1) (c.set (off p l (p l[i]) + (fill p l i (p l[i])).length) i) := by
  refine ⟨by simp [H.1], fun v hv j hj => ?_⟩
  rw [fill_succ hi] at hj ⊢
  have hlt := cnt_lt (p := p) hi
  by_cases e : p l[i] = v
  · rw [if_pos e] at hj ⊢
    rw [e] at hlt ⊢
    simp only [List.length_append, List.length_singleton] at hj
    by_cases hj' : j < (fill p l i v).length
    · rw [List.getElem?_set_ne (by omega), List.getElem?_append_left hj', H.2 v hv j hj']
    · have : j = (fill p l i v).length := by omega
      subst this
      have hb : off p l v + (fill p l i v).length < c.length := by
        rw [H.1, fill_length]
        have := off_cnt_le (p := p) (l := l) (v := v)
        omega
      rw [List.getElem?_set_self hb, List.getElem?_append_right (Nat.le_refl _), Nat.sub_self]; rfl
  · rw [if_neg e, List.append_nil] at hj ⊢
    rw [List.getElem?_set_ne, H.2 v hv j hj]
    rw [fill_length]
    have hjc : j < cnt p l v := Nat.lt_of_lt_of_le hj fill_le
    intro heq
    rcases Nat.lt_or_gt_of_ne e with h | h
    · have h1 := off_mono (p := p) (l := l) (show p l[i] + 1 ≤ v from h)
      rw [off_succ] at h1
      omega
    · have h1 := off_mono (p := p) (l := l) (show v + 1 ≤ p l[i] from h)
      rw [off_succ] at h1
      omega

theorem row_view {h : Heap} {n i : Nat} {c : List Nat} {v : Nat} {T : TypeId} (H : RowsC p l n i c) (hv : v < n) (hb : h[bl]? = some (.cells (Mh.row encN c).toArray T (0, 0))) : Vw encN 1 h (rowV p l bl v (fill p l i v).length) (fill p l i v) := by
  have hle : (fill p l i v).length ≤ cnt p l v := fill_le
  have hoc := off_cnt_le (p := p) (l := l) (v := v)
  refine ⟨bl, _, _, rfl, hle, ?_⟩
  by_cases h0 : cnt p l v = 0
  · have : fill p l i v = [] := List.eq_nil_of_length_eq_zero (by omega)
    rw [this]
    refine .inl ⟨rfl, .inr ⟨bl, 0, ?_⟩⟩
    simp [slBase, h0]
  · refine .inr ⟨off p l v, Mh.row encN (c.take (off p l v)), Mh.row encN (c.drop (off p l v + (fill p l i v).length)), T, (0, 0), ?_, ?_, ?_⟩
    · have : ¬ off p l v + cnt p l v = off p l v := by omega
      simp only [slBase, if_neg this]; simp
    · rw [hb, ← row_append, ← row_append]
      have e : (c.drop (off p l v)).take (fill p l i v).length = fill p l i v := by
        apply List.ext_getElem?
        intro j
        by_cases hj : j < (fill p l i v).length
        · rw [List.getElem?_take_of_lt hj, List.getElem?_drop, H.2 v hv j hj]
        · rw [List.getElem?_eq_none (by simp; omega), List.getElem?_eq_none (by omega)]
      have : c = c.take (off p l v) ++ fill p l i v ++ c.drop (off p l v + (fill p l i v).length) := by
        conv => lhs; rw [← List.take_append_drop (off p l v) c]
        rw [List.append_assoc]; congr 1
        conv => lhs; rw [← List.take_append_drop (fill p l i v).length (c.drop (off p l v))]
        rw [e, List.drop_drop]
      rw [← this]
    · rw [row_length encN_len, Nat.mul_one, List.length_take, H.1]; omega
end

section
variable {h0 h : Heap} {L : List Res} {K : Value → Heap → Prop} {g : G} {v : Value} {r : Nat} {vx vy va endv : Value} {p : A → Nat}
open Arcs

/-- A closure that tells an end of an arc. -/
def EndF (endv : Value) (p : A → Nat) : Prop := ∀ (a : A) (h : Heap) (K : Value → Heap → Prop), (∀ h', Ext h h' → K (I (p a)) h') → callV Tryz.prog endv [.agg (encA a).toArray].toArray h K

theorem of2_end : EndF (.func (.func F_net_of_2) #[] #[]) A.f := by
  intro a h K hK
  refine callV_of (l := [.agg (encA a).toArray]) rfl (lk_net_of_2 _ ?_)
  unfold sh_net_of_2
  refine (Own.start h).box fun b h1 o1 => ?_
  simp only [pField_ptr]
  exact o1.load 0 rfl rfl (hK _ o1.ext)
theorem of3_end : EndF (.func (.func F_net_of_3) #[] #[]) A.t := by
  intro a h K hK
  refine callV_of (l := [.agg (encA a).toArray]) rfl (lk_net_of_3 _ ?_)
  unfold sh_net_of_3
  refine (Own.start h).box fun b h1 o1 => ?_
  simp only [pField_ptr]
  exact o1.load 0 rfl rfl (hK _ o1.ext)

abbrev rowsL (p : A → Nat) (l : List A) (n bl i : Nat) : List Value := (List.range n).map fun v => rowV p l bl v (fill p l i v).length

def ByK (h : Heap) (g : G) (p : A → Nat) (K : Value → Heap → Prop) : Prop :=
  ∀ vr (R : Res) h', Own h h' [R] → (∀ h'', R.Q h'' → rowsQ h'' vr g.n fun v => outsP (fun a => p a == v) g.arcs 0) → K vr h'

theorem by_L4 {bl : Nat} {c : List Nat} {vr : Value} {h' : Heap} (hR : g.Right) (hp : ∀ a ∈ g.arcs, p a < g.n) (hE : EndF endv p) (hv : Vw encA 3 h va g.arcs) (hc : c.length = g.arcs.length)
    (o : Own h h' [slR encV 1 T_sl_int vr (rowsL p g.arcs g.n bl 0), cellR bl (Mh.row encN c) T_int]) (hK : ByK h g p K) :
    LoopH (σ := Vals [64]) (fun x hh ZZ => sh_net_of_1_L4 Tryz.prog (I g.arcs.length) va endv vr K x.1 hh (fun a0 hz => ZZ (a0, ()) hz)) ((.int .i64 0), ()) h' := by
  have hmany := hR.many
  refine LoopH_count g.arcs.length (fun i x h' => x.1 = I i ∧ ∃ c, RowsC p g.arcs g.n i c ∧ Own h h' [slR encV 1 T_sl_int vr (rowsL p g.arcs g.n bl i), cellR bl (Mh.row encN c) T_int]) ⟨rfl, c, .zero hc, o⟩ ?_
  rintro i ⟨x, ⟨⟩⟩ h2 Z hi ⟨hx, c, hC, o⟩ hZ
  dsimp only at hx hZ ⊢
  subst hx
  unfold sh_net_of_1_L4
  simp only [pBin_lss, ifV_dec]
  refine ⟨fun hlt => ?_, fun hge => ?_⟩
  · have hlt : i < g.arcs.length := by omega
    unfold cutP
    dsimp only
    refine (hv.more o.ext).atN encA_len hlt ?_
    have hpa := hp _ (List.getElem_mem hlt)
    have hcl := cnt_lt (p := p) hlt
    have hoc := off_cnt_le (p := p) (l := g.arcs) (v := p g.arcs[i])
    have hfl : (fill p g.arcs i (p g.arcs[i])).length = cnt p (g.arcs.take i) (p g.arcs[i]) := fill_length
    have hrl : p g.arcs[i] < (rowsL p g.arcs g.n bl i).length := by simpa using hpa
    have hrow : (rowsL p g.arcs g.n bl i)[p g.arcs[i]] = .slice (some ⟨bl, off p g.arcs (p g.arcs[i]), none⟩) (fill p g.arcs i (p g.arcs[i])).length (cnt p g.arcs (p g.arcs[i])) := by
      simp only [List.getElem_map, List.getElem_range]
      exact rowV_pos (by omega)
    -- what is done with the row that was read
    have app : ∀ {h3 : Heap} {w : Value} {b : Nat} {cs : List Value}, Own h h3 [slR encN 1 T_int w [i], cellR b cs T_api_Arc, slR encV 1 T_sl_int vr (rowsL p g.arcs g.n bl i), cellR bl (Mh.row encN c) T_int] →
        pAppend T_int 1 8 [(.int .i64 0)] (rowsL p g.arcs g.n bl i)[p g.arcs[i]] w h3 fun t81 h4 => pIdx 1 vr (I (p g.arcs[i])) fun t82 => pStore 1 t82 t81 h4 fun u h5 => sh_net_of_1_C5 Tryz.prog (I i) (fun a0 hz => Z (a0, ()) hz) h5 := by
      intro h3 w b cs o3
      rw [hrow]
      refine o3.appIn (e := fun x : Nat => I x) 3 rfl (fun _ => rfl) rfl (o3.vw 0 rfl) (by omega) (by rw [row_length encN_len, hC.1]; omega) fun h4 o4 => ?_
      have hrow' : .slice (some ⟨bl, off p g.arcs (p g.arcs[i]), none⟩) ((fill p g.arcs i (p g.arcs[i])).length + 1) (cnt p g.arcs (p g.arcs[i])) = rowV p g.arcs bl (p g.arcs[i]) (fill p g.arcs (i + 1) (p g.arcs[i])).length := by
        rw [rowV_pos (by omega), fill_succ hlt]; simp
      rw [hrow']
      refine o4.setAt (a := rowV p g.arcs bl (p g.arcs[i]) (fill p g.arcs (i + 1) (p g.arcs[i])).length) 2 rfl encV_len (by intro u hu; simp [encV] at hu; subst hu; rfl) hrl rfl fun h5 o5 => ?_
      unfold sh_net_of_1_C5
      rw [pBin_add, wI i (by omega)]
      refine hZ (I (i + 1 : Nat), ()) h5 hlt ⟨rfl, _, hC.succ hlt, ?_⟩
      have e1 : (rowsL p g.arcs g.n bl i).set (p g.arcs[i]) (rowV p g.arcs bl (p g.arcs[i]) (fill p g.arcs (i + 1) (p g.arcs[i])).length) = rowsL p g.arcs g.n bl (i + 1) := by
        rw [range_set]
        apply List.map_congr_left
        intro v hv
        split <;> rename_i e
        · rw [e]
        · rw [fill_succ hlt, if_neg (fun e' => e e'.symm), List.append_nil]
      have e2 : (Mh.row encN c).set (off p g.arcs (p g.arcs[i]) + (fill p g.arcs i (p g.arcs[i])).length) (I i) = Mh.row encN (c.set (off p g.arcs (p g.arcs[i]) + (fill p g.arcs i (p g.arcs[i])).length) i) := by
        have er : ∀ l : List Nat, Mh.row encN l = l.map fun x : Nat => I x := fun l => by induction l <;> simp_all [Mh.row, encN]
        rw [er, er, List.map_set]
      rw [← e1, ← e2]
      exact o5.tail.tail
    refine o.box fun b h3 o3 => o3.st 0 rfl rfl rfl rfl rfl (encA_plain _) fun h4 o4 => ?_
    refine o4.ldN 0 rfl rfl rfl (o4.ldN 0 rfl rfl rfl ?_)
    have build : ∀ {h5 : Heap} {KH : Value → Heap → Prop} {R : List Res}, Own h h5 R → (∀ w h6, Own h h6 (slR encN 1 T_int w [i] :: R) → KH w h6) → pBuildSlice T_int (zerosL [(.int .i64 0)] 1) [(0, 1, I i)] 1 h5 KH := fun o5 hk =>
      o5.build (enc := encN) (n := 1) [i] rfl (sizesOk_of rfl) rfl hk
    refine ⟨?_, ?_⟩
    · refine hE _ _ _ fun h5 x5 => ?_
      have o5 := o4.more x5
      refine ⟨o5.ldN 0 rfl rfl rfl rfl, ?_, ?_⟩
      · refine hE _ _ _ fun h6 x6 => ?_
        have o6 := o5.more x6
        refine (o6.vw 1 rfl).at1 (e := fun x => x) (fun _ => rfl) hrl ?_
        exact build o6 fun w h7 o7 => app o7
      · refine build o5 fun w h6 o6 => hE _ _ _ fun h7 x7 => ?_
        have o7 := o6.more x7
        refine (o7.vw 2 rfl).at1 (e := fun x => x) (fun _ => rfl) hrl ?_
        exact app o7
    · refine build o4 fun w h5 o5 => hE _ _ _ fun h6 x6 => ?_
      have o6 := o5.more x6
      refine ⟨o6.ldN 1 rfl rfl rfl rfl, hE _ _ _ fun h7 x7 => ?_⟩
      have o7 := o6.more x7
      refine (o7.vw 2 rfl).at1 (e := fun x => x) (fun _ => rfl) hrl ?_
      exact app o7
  · have : i = g.arcs.length := by omega
    subst this
    refine hK vr _ h2 (Own.pack (l := [slR encV 1 T_sl_int vr (rowsL p g.arcs g.n bl g.arcs.length), cellR bl (Mh.row encN c) T_int]) o) fun h'' hq => ?_
    obtain ⟨b2, H⟩ := hq (slR encV 1 T_sl_int vr (rowsL p g.arcs g.n bl g.arcs.length)) (by simp)
    have hb := hq (cellR bl (Mh.row encN c) T_int) (by simp)
    refine ⟨_, by simp, ⟨b2, H.view⟩, fun v hv => ?_⟩
    have hvn : v < g.n := by simpa using hv
    have := row_view hC hvn hb
    simp only [List.getElem_map, List.getElem_range]
    rw [show outsP (fun a => p a == v) g.arcs 0 = fill p g.arcs g.arcs.length v by unfold fill; rw [List.take_of_length_le (Nat.le_refl _)]]
    exact this

end
end Go.Proofs.YtbacdjahpahcfaaGreatDoor

namespace Go.Proofs.YtbacdjahpahcfaaGreatDoor
open Go Go.Mh
set_option linter.unusedVariables false

section
variable {h0 h : Heap} {L : List Res} {K : Value → Heap → Prop} {g : G} {v : Value} {r : Nat} {vx vy va endv : Value} {p : A → Nat}
open Arcs

abbrev cntL (p : A → Nat) (l : List A) (n i : Nat) : List Nat := (List.range n).map (cnt p (l.take i))
abbrev rowsU (p : A → Nat) (l : List A) (n bl v : Nat) : List Value := (List.range n).map fun u => if u < v then rowV p l bl u 0 else .slice none 0 0

theorem by_k2 {bl : Nat} {c : List Nat} {vm vr : Value} {h' : Heap} (hR : g.Right) (hp : ∀ a ∈ g.arcs, p a < g.n) (hE : EndF endv p) (hr : h[r]? = some (.cells #[I g.n, vx, vy, va] T_api_Raw (0, 0))) (hv : Vw encA 3 h va g.arcs) (hc : c.length = g.arcs.length)
    (o : Own h h' [slR encN 1 T_int vm (cntL p g.arcs g.n g.arcs.length), slR encV 1 T_sl_int vr (rowsU p g.arcs g.n bl 0), cellR bl (Mh.row encN c) T_int]) (hK : ByK h g p K) :
    sh_net_of_1_C2 Tryz.prog vm (ptr r) endv K (.slice (some ⟨bl, 0, none⟩) g.arcs.length g.arcs.length) vr h' := by
  have hmany := hR.many
  have hmost := hR.most
  unfold sh_net_of_1_C2
  refine (o.vw 0 rfl).len ?_
  have hcl : (cntL p g.arcs g.n g.arcs.length).length = g.n := by simp
  rw [hcl]
  refine LoopH_count g.n (fun i x h' => x.1 = I (off p g.arcs i) ∧ x.2.1 = I i ∧ Own h h' [slR encN 1 T_int vm (cntL p g.arcs g.n g.arcs.length), slR encV 1 T_sl_int vr (rowsU p g.arcs g.n bl i), cellR bl (Mh.row encN c) T_int])
    ⟨by rw [off_zero]; rfl, rfl, o⟩ ?_
  clear o
  rintro i ⟨x, y, ⟨⟩⟩ h2 Z hi ⟨hx, hy, o⟩ hZ
  dsimp only at hx hy hZ ⊢
  subst hx hy
  unfold sh_net_of_1_L3
  simp only [pBin_lss, ifV_dec]
  refine ⟨fun hlt => ?_, fun hge => ?_⟩
  · have hlt : i < g.n := by omega
    have hoc := off_cnt_le (p := p) (l := g.arcs) (v := i)
    have hos := off_succ (p := p) (l := g.arcs) (v := i)
    have hci : (cntL p g.arcs g.n g.arcs.length)[i]'(by rw [hcl]; exact hlt) = cnt p g.arcs i := by
      simp only [List.getElem_map, List.getElem_range, List.take_of_length_le (Nat.le_refl _)]
    refine (o.vw 0 rfl).at1 (e := fun x : Nat => I x) (fun _ => rfl) (by rw [hcl]; exact hlt) ?_
    rw [hci]
    have e1 : IntKind.i64.wrap (((off p g.arcs i : Nat) : Int) + ((cnt p g.arcs i : Nat) : Int)) = ((off p g.arcs i + cnt p g.arcs i : Nat) : Int) := by rw [w64 (by omega) (by omega)]; omega
    simp only [pBin_add, e1]
    refine ⟨fun _ => rfl, by omega, Int.le_refl _, by omega, by omega, ?_⟩
    have er : (Value.slice (slBase 1 ((off p g.arcs i : Nat) : Int).toNat ((off p g.arcs i + cnt p g.arcs i : Nat) : Int).toNat (some ⟨bl, 0, none⟩)) (((off p g.arcs i : Nat) : Int).toNat - ((off p g.arcs i : Nat) : Int).toNat) (((off p g.arcs i + cnt p g.arcs i : Nat) : Int).toNat - ((off p g.arcs i : Nat) : Int).toNat)) = rowV p g.arcs bl i 0 := by
      simp only [rowV, Int.toNat_natCast, Nat.sub_self]
      congr 1; omega
    rw [er]
    refine o.setAt (a := rowV p g.arcs bl i 0) 1 rfl encV_len (by intro u hu; simp [encV] at hu; subst hu; rfl) (by simpa using hlt) rfl fun h3 o3 => ?_
    rw [wI i (by omega), ← hos]
    refine hZ (I (off p g.arcs (i + 1) : Nat), (I (i + 1 : Nat), ())) h3 hlt ⟨rfl, rfl, ?_⟩
    have e2 : (rowsU p g.arcs g.n bl i).set i (rowV p g.arcs bl i 0) = rowsU p g.arcs g.n bl (i + 1) := by
      rw [range_set]
      apply List.map_congr_left
      intro u hu
      by_cases h1 : u = i
      · subst h1; simp
      · by_cases h2 : u < i
        · simp [h1, h2, show u < i + 1 by omega]
        · simp [h1, h2, show ¬ u < i + 1 by omega]
    rw [← e2]
    exact o3
  · have : i = g.n := by omega
    subst this
    have hc3 : hcell h2 ⟨r, 3, none⟩ = some va := hcell_of (o.ext.get hr) rfl
    simp only [pField_ptr, pLoad_ptr, Nat.zero_add, hc3]
    refine (hv.more o.ext).len ?_
    refine by_L4 (bl := bl) hR hp hE hv hc ?_ hK
    have e3 : rowsU p g.arcs g.n bl g.n = rowsL p g.arcs g.n bl 0 := by
      apply List.map_congr_left
      intro u hu
      have : u < g.n := by simpa using hu
      simp [this, fill, outsP]
    rw [← e3]
    exact o.tail

theorem by_ok (hR : g.Right) (hp : ∀ a ∈ g.arcs, p a < g.n) (hE : EndF endv p) (hr : h[r]? = some (.cells #[I g.n, vx, vy, va] T_api_Raw (0, 0))) (hv : Vw encA 3 h va g.arcs) (hK : ByK h g p K) :
    CallsH Tryz.prog F_net_of_1 [endv, ptr r].toArray h K := by
  have hmany := hR.many
  have hmost := hR.most
  refine lk_net_of_1 _ _ ?_
  unfold sh_net_of_1
  have c0 : hcell h ⟨r, 0, none⟩ = some (I g.n) := hcell_of hr rfl
  simp only [pField_ptr, pLoad_ptr, Nat.zero_add, c0]
  refine (Own.start h).make (enc := encN) (n := 1) (a := 0) rfl (by omega) (by omega) fun vm h1 o1 => ?_
  have c3 : hcell h1 ⟨r, 3, none⟩ = some va := hcell_of (o1.ext.get hr) rfl
  simp only [c3]
  refine (hv.more o1.ext).len ?_
  refine LoopH_count g.arcs.length (fun i x h' => x.1 = I i ∧ Own h h' [slR encN 1 T_int vm (cntL p g.arcs g.n i)]) ⟨rfl, ?_⟩ ?_
  · have e : List.replicate g.n 0 = cntL p g.arcs g.n 0 := by
      apply List.ext_getElem
      · simp
      · intro j h1 h2; simp [cnt]
    rw [← e]; exact o1
  clear o1
  rintro i ⟨x, ⟨⟩⟩ h2 Z hi ⟨hx, o⟩ hZ
  dsimp only at hx hZ ⊢
  subst hx
  unfold sh_net_of_1_L1
  simp only [pBin_lss, ifV_dec]
  refine ⟨fun hlt => ?_, fun hge => ?_⟩
  · have hlt : i < g.arcs.length := by omega
    refine (hv.more o.ext).atN encA_len hlt ?_
    have hpa := hp _ (List.getElem_mem hlt)
    have hcl : p g.arcs[i] < (cntL p g.arcs g.n i).length := by simpa using hpa
    have hle : cnt p (g.arcs.take i) (p g.arcs[i]) ≤ (g.arcs.take i).length := cnt_le
    simp only [List.length_take] at hle
    refine o.box fun b h3 o3 => o3.st 0 rfl rfl rfl rfl rfl (encA_plain _) fun h4 o4 => ?_
    refine o4.ldN 0 rfl rfl rfl (hE _ _ _ fun h5 x5 => ?_)
    have o5 := o4.more x5
    refine (o5.vw 1 rfl).at1 (e := fun x : Nat => I x) (fun _ => rfl) hcl ?_
    simp only [List.getElem_map, List.getElem_range]
    rw [pBin_add, wI _ (by omega)]
    refine o5.setAt (a := cnt p (g.arcs.take i) (p g.arcs[i]) + 1) 1 rfl encN_len (encN_plain _) hcl rfl fun h6 o6 => ?_
    rw [pBin_add, wI i (by omega)]
    refine hZ (I (i + 1 : Nat), ()) h6 hlt ⟨rfl, ?_⟩
    have e : (cntL p g.arcs g.n i).set (p g.arcs[i]) (cnt p (g.arcs.take i) (p g.arcs[i]) + 1) = cntL p g.arcs g.n (i + 1) := by
      rw [range_set]
      apply List.map_congr_left
      intro u hu
      rw [cnt_succ hlt]
      split <;> rename_i e
      · rw [e]; simp
      · simp [show ¬ p g.arcs[i] = u from fun e' => e e'.symm]
    rw [← e]
    exact o6.tail
  · have : i = g.arcs.length := by omega
    subst this
    have c0 : hcell h2 ⟨r, 0, none⟩ = some (I g.n) := hcell_of (o.ext.get hr) rfl
    have c3 : hcell h2 ⟨r, 3, none⟩ = some va := hcell_of (o.ext.get hr) rfl
    unfold cutP
    simp only [pField_ptr, pLoad_ptr, Nat.zero_add, c0, c3]
    refine (hv.more o.ext).len ?_
    have e0 : ∀ m, (List.replicate m [Value.int .i64 0]).flatten = Mh.row encN (List.replicate m 0) := fun m => by simp [Mh.row, List.flatMap, encN]
    have eU : ∀ bl, List.replicate g.n (Value.slice none 0 0) = rowsU p g.arcs g.n bl 0 := fun bl => by
      apply List.ext_getElem
      · simp
      · intro j h1 h2; simp
    have c0' := c0
    refine ⟨?_, ?_⟩
    · refine o.makeB (by omega) (by omega) fun bl h3 o3 => ?_
      refine o3.make (enc := encV) (n := 1) (a := .slice none 0 0) rfl (by omega) (by omega) fun vr h4 o4 => ?_
      rw [e0, eU bl] at o4
      exact by_k2 hR hp hE hr hv (by simp) (o4.sel [2, 0, 1] (by decide)) hK
    · refine o.make (enc := encV) (n := 1) (a := .slice none 0 0) rfl (by omega) (by omega) fun vr h3 o3 => ?_
      refine o3.makeB (by omega) (by omega) fun bl h4 o4 => ?_
      rw [e0, eU bl] at o4
      exact by_k2 hR hp hE hr hv (by simp) (o4.sel [2, 1, 0] (by decide)) hK

/-! ### A net -/

/-- A net in memory. -/
def NetR (h : Heap) (r : Nat) (g : G) : Prop :=
  ∃ vx vy va vo vi, h[r]? = some (.cells #[I g.n, vx, vy, va, vo, vi] T_net_Net (0, 0)) ∧ RawL h vx vy va g ∧ rowsQ h vo g.n g.out ∧ rowsQ h vi g.n g.in

theorem NetR.more {h h' : Heap} (H : NetR h r g) (x : Ext h h') : NetR h' r g := by
  obtain ⟨vx, vy, va, vo, vi, a, b, c, d⟩ := H
  exact ⟨vx, vy, va, vo, vi, x.get a, b.more x, c.more x, d.more x⟩

/-- What a net needs of memory. -/
def netR (N : Res) (r : Nat) (g : G) : Prop := ∀ h, N.Q h → NetR h r g

theorem of_ok (o : Own h0 h (xR vx g.X :: xR vy g.Y :: aR va g.arcs :: L)) (hR : g.Right) (hK : ∀ r N h', netR N r g → Own h0 h' (N :: L) → K (ptr r) h') : callS Tryz.prog F_net_of [.agg #[I g.n, vx, vy, va]] h K := by
  have p0 := o.vw 0 rfl
  have p1 := o.vw 1 rfl
  have p2 := o.vw 2 rfl
  refine callS_of (lk_net_of _ ?_)
  unfold sh_net_of
  refine (Own.start h).box fun rb h1 o1 => o1.ldN 0 rfl rfl rfl ⟨sizesOk_of rfl, o1.box fun r h2 o2 => ?_⟩
  refine callV_of (l := [_, ptr rb]) rfl (by_ok hR (fun a ha => (hR.ends a ha).1) of2_end (o2.get 1 rfl) (p2.more o2.ext) fun vo Ro h3 o3 hro => ?_)
  have o3' := o2.frame o3
  refine callV_of (l := [_, ptr rb]) rfl (by_ok hR (fun a ha => (hR.ends a ha).2.1) of3_end (o3'.get 2 rfl) (p2.more o3'.ext) fun vi Ri h4 o4 hri => ?_)
  have o4' := o3'.frame o4
  have plain : ∀ {h : Heap} {vr : Value} {n : Nat} {f : Nat → List Nat}, rowsQ h vr n f → vr.cells = #[vr] ∧ Mh.plainCell vr = true := fun ⟨_, _, a, _⟩ => ⟨a.one, a.plain⟩
  have hvo := plain (hro _ (o4'.get 1 rfl))
  have hvi := plain (hri _ (o4'.get 0 rfl))
  simp only [pNil_ptr, pField_ptr]
  refine o4'.st1 2 rfl rfl rfl hvo.1 hvo.2 fun h5 o5 => o5.st1 (cs' := [I g.n, vx, vy, va, vo, vi]) 2 rfl rfl rfl hvi.1 hvi.2 fun h6 o6 => ?_
  have o7 := o.frame (o6.sel [2, 1, 0] (by decide))
  refine hK r (allR [cellR r [I g.n, vx, vy, va, vo, vi] T_net_Net, Ro, Ri, xR vx g.X, xR vy g.Y, aR va g.arcs]) h6 (fun h hq => ?_) (Own.pack (l := [cellR r [I g.n, vx, vy, va, vo, vi] T_net_Net, Ro, Ri, xR vx g.X, xR vy g.Y, aR va g.arcs]) o7)
  obtain ⟨b1, q1⟩ := hq (xR vx g.X) (by simp)
  obtain ⟨b2, q2⟩ := hq (xR vy g.Y) (by simp)
  obtain ⟨b3, q3⟩ := hq (aR va g.arcs) (by simp)
  exact ⟨vx, vy, va, vo, vi, hq (cellR r [I g.n, vx, vy, va, vo, vi] T_net_Net) (by simp), ⟨⟨_, q1.view⟩, ⟨_, q2.view⟩, ⟨_, q3.view⟩⟩, hro _ (hq Ro (by simp)), hri _ (hq Ri (by simp))⟩

theorem new_net_ok (o : Own h0 h L) (hR : g.Right) (H : RawV h v g) (hK : ∀ r N h', netR N r g → Own h0 h' (N :: L) → K (.tuple #[ptr r, .nilIface]) h') : callS Tryz.prog F_net_New [v] h K := by
  obtain ⟨vx, vy, va, rfl, H⟩ := H
  refine callS_of (lk_net_New _ ?_)
  unfold sh_net_New
  refine (Own.start h).box fun b h1 o1 => o1.ldN 0 rfl rfl rfl ?_
  refine check_ok hR ⟨vx, vy, va, rfl, H.more o1.ext⟩ fun h2 x2 => ?_
  have o2 := o1.more x2
  simp only [pNe_iface_nil, ifV_false]
  refine o2.ldN 0 rfl rfl rfl ?_
  refine own_ok o2 hR ⟨vx, vy, va, rfl, H.more o2.ext⟩ fun vx1 vy1 va1 h3 o3 => ?_
  exact of_ok o3 hR fun r N h4 hN o4 => hK r N h4 hN (o.frame (o4.sel [0] (by decide)))

end
end Go.Proofs.YtbacdjahpahcfaaGreatDoor

namespace Go.Proofs.YtbacdjahpahcfaaGreatDoor
open Go Go.Mh
set_option linter.unusedVariables false

section
variable {h0 h : Heap} {L : List Res} {K : Value → Heap → Prop} {g : G} {r i : Nat} {z : Int}

theorem nodes_ok (H : NetR h r g) (hK : K (I g.n) h) : callS Tryz.prog F_net_Net_Nodes [ptr r] h K := by
  obtain ⟨vx, vy, va, vo, vi, hr, HL, ho, hi⟩ := H
  refine callS_of (lk_net_Net_Nodes _ ?_)
  unfold sh_net_Net_Nodes
  have c0 : hcell h ⟨r, 0, none⟩ = some (I g.n) := hcell_of hr rfl
  simp only [pEq_ptr_nil, Option.isNone_some, ifV_false, pNil_ptr, pField_ptr, pLoad_ptr, Nat.zero_add, c0]
  exact hK
theorem nodes_nil (hK : K (I 0) h) : callS Tryz.prog F_net_Net_Nodes [.pointer none] h K := by
  refine callS_of (lk_net_Net_Nodes _ ?_)
  unfold sh_net_Net_Nodes
  simp only [pEq_ptr_nil, Option.isNone_none, ifV_true]
  exact hK

theorem outsP_short {q : A → Bool} {l : List A} {i : Nat} : (outsP q l i).length ≤ l.length := by rw [outsP_length]; exact List.countP_le_length

end
end Go.Proofs.YtbacdjahpahcfaaGreatDoor

namespace Go.Proofs.YtbacdjahpahcfaaGreatDoor
open Go Go.Mh
set_option linter.unusedVariables false

section
variable {h0 h : Heap} {L : List Res} {K : Value → Heap → Prop} {g : G} {r v d : Nat} {vl : Value}

theorem getD_at {α : Type} {l : List α} {i : Nat} {a : α} (h : i < l.length) : l.getD i a = l[i] := by
  rw [List.getD_eq_getElem?_getD, List.getElem?_eq_getElem h]; rfl

theorem one64_ok {l : List Int} (H : Vw encI 1 h vl l) (hv : v < l.length) (hK : K (.tuple #[I (l.getD v 0), .bool true]) h) : callS Tryz.prog F_net_one_int64 [vl, I v] h K := by
  refine callS_of (lk_net_one_int64 _ _ ?_)
  unfold sh_net_one_int64
  rw [pBin_lss, decide_eq_false (by omega), ifV_false]
  refine H.len ?_
  rw [pBin_geq, decide_eq_false (by omega), ifV_false]
  refine H.atI hv ?_
  rw [getD_at hv] at hK
  exact hK

theorem place_ok (hR : g.Right) (H : NetR h r g) (hv : v < g.n) (hK : K (.tuple #[I (g.X.getD v 0), I (g.Y.getD v 0), .bool true]) h) : callS Tryz.prog F_net_Net_Place [ptr r, I v] h K := by
  obtain ⟨vx, vy, va, vo, vi, hr, HL, ho, hi⟩ := H
  refine callS_of (lk_net_Net_Place _ _ ?_)
  unfold sh_net_Net_Place
  have c1 : hcell h ⟨r, 1, none⟩ = some vx := hcell_of hr rfl
  have c2 : hcell h ⟨r, 2, none⟩ = some vy := hcell_of hr rfl
  simp only [pEq_ptr_nil, Option.isNone_some, ifV_false, pNil_ptr, pField_ptr]
  refine pLoad_of rfl c1 (one64_ok HL.1 (by rw [hR.x]; exact hv) ?_)
  simp only [pExt0, pExt1]
  refine pLoad_of rfl c2 (one64_ok HL.2.1 (by rw [hR.y]; exact hv) ?_)
  simp only [pExt0, pExt1]
  exact hK

/-! ### Directions -/

def dirF : Nat → Value
  | 0 => .func (.func F_split_directions_1) #[] #[]
  | 1 => .func (.func F_split_directions_2) #[] #[]
  | 2 => .func (.func F_split_directions_3) #[] #[]
  | _ => .func (.func F_split_directions_4) #[] #[]
theorem dirF_one : (dirF d).cells = #[dirF d] := by
  unfold dirF; split <;> rfl
theorem dirF_plain : Mh.plainCell (dirF d) = true := by
  unfold dirF; split <;> rfl

theorem directions_ok (hK : ∀ h', Ext h h' → K (.agg #[dirF 0, dirF 1, dirF 2, dirF 3]) h') : callS Tryz.prog F_split_directions [] h K := by
  refine callS_of (lk_split_directions ?_)
  unfold sh_split_directions
  refine (Own.start h).box fun t0 h1 o1 => ?_
  refine pBuild_ones (cs' := [dirF 0, dirF 1, dirF 2, dirF 3]) (fun p hp => by
    simp at hp
    rcases hp with rfl | rfl | rfl | rfl <;> rfl) rfl rfl ?_
  refine o1.st (l := [dirF 0, dirF 1, dirF 2, dirF 3]) (cs' := [dirF 0, dirF 1, dirF 2, dirF 3]) 0 rfl rfl rfl rfl rfl ?_ fun h2 o2 => o2.ldN (cs' := [dirF 0, dirF 1, dirF 2, dirF 3]) 0 rfl rfl rfl (hK h2 o2.ext)
  intro u hu
  simp at hu
  rcases hu with rfl | rfl | rfl | rfl <;> exact dirF_plain

theorem dirF_ok {x y : Int} (hd : d < 4) (hx : -2147483648 ≤ x ∧ x ≤ 2147483647) (hy : -2147483648 ≤ y ∧ y ≤ 2147483647) (hK : K (I (if d = 0 then x else if d = 1 then y else if d = 2 then x + y else x - y)) h) : callV Tryz.prog (dirF d) [I x, I y].toArray h K := by
  rcases (show d = 0 ∨ d = 1 ∨ d = 2 ∨ d = 3 by omega) with rfl | rfl | rfl | rfl
  · refine callV_of (l := [I x, I y]) rfl (lk_split_directions_1 _ _ ?_)
    exact hK
  · refine callV_of (l := [I x, I y]) rfl (lk_split_directions_2 _ _ ?_)
    exact hK
  · refine callV_of (l := [I x, I y]) rfl (lk_split_directions_3 _ _ ?_)
    unfold sh_split_directions_3
    rw [pBin_add, w64 (by omega) (by omega)]
    exact hK
  · refine callV_of (l := [I x, I y]) rfl (lk_split_directions_4 _ _ ?_)
    unfold sh_split_directions_4
    rw [pBin_sub, w64 (by omega) (by omega)]
    exact hK

theorem rng_get {l : List Int} {n : Nat} (h : ∀ c ∈ l, -2147483648 ≤ c ∧ c ≤ 2147483647) : -2147483648 ≤ l.getD n 0 ∧ l.getD n 0 ≤ 2147483647 := by
  rw [List.getD_eq_getElem?_getD]
  cases e : l[n]? with
  | none => exact ⟨by decide, by decide⟩
  | some c => exact h c (List.mem_of_getElem? e)
theorem valG_rng (hR : g.Right) : -4294967296 ≤ valG g d v ∧ valG g d v ≤ 4294967296 := by
  have hx := rng_get (n := v) hR.xr
  have hy := rng_get (n := v) hR.yr
  unfold valG
  split
  · omega
  · split
    · omega
    · split <;> omega

/-- What along answers: a value in a direction. -/
def alV (p2 tl : Nat) : Value := .func (.func F_split_parter_along_1) #[] #[ptr p2, ptr tl]

theorem along_ok {p : Nat} (o : Own h0 h L) (hd : d < 4) (hK : ∀ p2 tl h', Own h0 h' (cellR tl [dirF d] T_func_int64_int64_int64 :: cellR p2 [ptr p] T_p_split_parter :: L) → Ext h h' → K (alV p2 tl) h') : callS Tryz.prog F_split_parter_along [ptr p, I d] h K := by
  refine callS_of (lk_split_parter_along _ _ ?_)
  unfold sh_split_parter_along
  refine (Own.start h).box fun p2 h1 o1 => ?_
  have o1 : Own h h1 [cellR p2 [ptr p] T_p_split_parter] := o1
  refine directions_ok fun h2 x2 => ?_
  have o2 := o1.more x2
  refine ⟨by omega, by omega, ?_⟩
  have e : (#[dirF 0, dirF 1, dirF 2, dirF 3] : Array Value)[(d : Int).toNat]? = some (dirF d) := by
    rcases (show d = 0 ∨ d = 1 ∨ d = 2 ∨ d = 3 by omega) with rfl | rfl | rfl | rfl <;> rfl
  rw [e]
  refine o2.box fun tl h3 o3 => o3.st1 0 (cs' := [dirF d]) rfl rfl rfl dirF_one dirF_plain fun h4 o4 => ?_
  exact hK p2 tl h4 (o.frame o4) o4.ext

theorem alongF_ok {p p2 tl : Nat} {pc : List Value} (o : Own h0 h L) (i j k : Nat) (hi : L[i]? = some (cellR tl [dirF d] T_func_int64_int64_int64)) (hj : L[j]? = some (cellR p2 [ptr p] T_p_split_parter)) (hk : L[k]? = some (cellR p (ptr r :: pc) T_split_parter)) (hR : g.Right) (hN : NetR h r g) (hd : d < 4) (hv : v < g.n)
    (hK : K (I (valG g d v)) h) : callV Tryz.prog (alV p2 tl) [I v].toArray h K := by
  refine callV_of (l := [I v, ptr p2, ptr tl]) rfl (lk_split_parter_along_1 _ _ _ ?_)
  unfold sh_split_parter_along_1
  refine o.load j hj rfl ?_
  simp only [pNil_ptr, pField_ptr]
  refine o.load k hk rfl ?_
  refine place_ok hR hN hv ?_
  simp only [pExt0, pExt1, pExt2]
  refine o.load i hi rfl ?_
  exact dirF_ok hd (rng_get hR.xr) (rng_get hR.yr) hK

/-! ### Spreads, ways -/

theorem maxE {a b : Int} : (if b > a then b else a) = max a b := by split <;> omega
theorem minE2 {a b : Int} : (if b < a then b else a) = min a b := by split <;> omega

theorem spread_ok {fv : Value} {f : Nat → Int} {l : List Nat} (Hl : Vw encN 1 h vl l) (hl : l.length < 2 ^ 40) (hr : ∀ x, -4294967296 ≤ f x ∧ f x ≤ 4294967296) (hT : ∀ x ∈ l, ∀ K' : Value → Heap → Prop, K' (I (f x)) h → callV Tryz.prog fv [I x].toArray h K') (hK : K (I (sprd f l)) h) :
    callS Tryz.prog F_split_spread_int [vl, fv] h K := by
  refine callS_of (lk_split_spread_int _ _ ?_)
  unfold sh_split_spread_int
  refine Hl.len ?_
  rw [pBin_eql, ifV_beq]
  refine ⟨fun e => ?_, fun e => ?_⟩
  · have : l = [] := List.eq_nil_of_length_eq_zero (by omega)
    subst this
    exact hK
  · have hpos : 0 < l.length := by omega
    refine Hl.at1 (e := fun (x : Nat) => I x) (fun _ => rfl) (i := 0) hpos ?_
    refine hT _ (List.getElem_mem hpos) _ (Hl.len ?_)
    refine LoopH_count l.length (fun i x h' => x.1 = I (leaF f (l.take i) (f l[0])) ∧ x.2.1 = I (mosF f (l.take i) (f l[0])) ∧ x.2.2.1 = I i ∧ h' = h) ⟨rfl, rfl, rfl, rfl⟩ ?_
    rintro i ⟨x, y, z, ⟨⟩⟩ h' Z hi ⟨hx, hy, hz, rfl⟩ hZ
    dsimp only at hx hy hz hZ ⊢
    subst hx hy hz
    unfold sh_split_spread_int_L1
    rw [pBin_lss, ifV_dec]
    refine ⟨fun hlt => ?_, fun hge => ?_⟩
    · have hlt : i < l.length := by omega
      have tk : l.take (i + 1) = l.take i ++ [l[i]] := List.take_succ_eq_append_getElem hlt
      refine Hl.at1 (e := fun (x : Nat) => I x) (fun _ => rfl) hlt ?_
      refine hT _ (List.getElem_mem hlt) _ ?_
      rw [pMin_int, minE2]
      refine hT _ (List.getElem_mem hlt) _ ?_
      rw [pMax_int, maxE, pBin_add, wI i (by omega)]
      exact hZ (_, _, _, ()) _ hlt ⟨by rw [tk, leaF_snoc], by rw [tk, mosF_snoc], rfl, rfl⟩
    · have : i = l.length := by omega
      subst this
      rw [List.take_length]
      have e1 := (@leaF_le f l (f l[0])).1
      have e2 := (@mosF_ge f l (f l[0])).1
      have e3 := @leaF_ge f (-4294967296) l (f l[0]) (hr _).1 fun x _ => (hr x).1
      have e4 := @mosF_le f 4294967296 l (f l[0]) (hr _).2 fun x _ => (hr x).2
      rw [pBin_sub, w64 (by omega) (by omega)]
      have : sprd f l = mosF f l (f l[0]) - leaF f l (f l[0]) := by
        match l, hpos with
        | a :: l, _ => rfl
      rw [this] at hK
      exact hK

theorem pway_ok {p : Nat} {pc : List Value} {l : List Nat} (o : Own h0 h L) (k : Nat) (hk : L[k]? = some (cellR p (ptr r :: pc) T_split_parter)) (hR : g.Right) (hN : ∀ h', Ext h h' → NetR h' r g) (Hl : Vw encN 1 h vl l) (hl : l.length < 2 ^ 40) (hln : ∀ x ∈ l, x < g.n)
    (hK : ∀ h', Own h0 h' L → Ext h h' → K (.tuple #[I (wayG g l).1, I (wayG g l).2]) h') : callS Tryz.prog F_split_parter_way [ptr p, vl] h K := by
  refine callS_of (lk_split_parter_way _ _ ?_)
  unfold sh_split_parter_way
  refine directions_ok fun h1 x1 => ?_
  refine LoopH_count 4 (fun i x h' => x.1 = I (wayB (fun d => sprd (valG g d) l) i).1 ∧ x.2.1 = I (wayB (fun d => sprd (valG g d) l) i).2 ∧ x.2.2.1 = I i ∧ Own h0 h' L ∧ Ext h h') ⟨rfl, rfl, rfl, o.more x1, x1⟩ ?_
  clear o
  rintro i ⟨x, y, z, ⟨⟩⟩ h2 Z hi ⟨hx, hy, hz, o, x2⟩ hZ
  dsimp only at hx hy hz hZ ⊢
  subst hx hy hz
  unfold sh_split_parter_way_L1
  rw [pBin_lss, ifV_dec]
  refine ⟨fun hlt => ?_, fun hge => ?_⟩
  · have hlt : i < 4 := by omega
    refine along_ok o hlt fun p2 tl h3 o3 x3' => ?_
    have x3 : Ext h h3 := x2.trans x3' fun _ h _ => h
    refine spread_ok (f := valG g i) (Hl.more x3) hl (fun x => valG_rng hR) (fun x hx K' hk' => alongF_ok o3 0 1 (k + 2) rfl rfl hk hR (hN _ x3) hlt (hln x hx) hk') ?_
    have st : wayB (fun d => sprd (valG g d) l) (i + 1) = if (wayB (fun d => sprd (valG g d) l) i).2 < sprd (valG g i) l then (i, sprd (valG g i) l) else wayB (fun d => sprd (valG g d) l) i := rfl
    unfold sh_split_parter_way_k2
    rw [pBin_gtr, ifV_dec]
    refine ⟨fun c => ?_, fun c => ?_⟩
    · rw [pBin_add, wI i (by omega)]
      exact hZ (_, _, _, ()) _ hlt ⟨by rw [st, if_pos c], by rw [st, if_pos c], rfl, o3.tail.tail, x3⟩
    · rw [pBin_add, wI i (by omega)]
      exact hZ (_, _, _, ()) _ hlt ⟨by rw [st, if_neg c], by rw [st, if_neg c], rfl, o3.tail.tail, x3⟩
  · have : i = 4 := by omega
    subst this
    exact hK h2 o x2

end
end Go.Proofs.YtbacdjahpahcfaaGreatDoor

namespace Go.Proofs.YtbacdjahpahcfaaGreatDoor
open Go Go.Mh
set_option linter.unusedVariables false

section
variable {h0 h : Heap} {L : List Res} {K : Value → Heap → Prop} {vo : Value} {O : List Nat}

def fwdN (O : List Nat) (i : Nat) (x : List Value) (i' : Nat) : Prop := i < O.length ∧ i' = i + 1 ∧ x = [I (O.getD i 0 : Nat)]

theorem valsN_iter {b : Nat} {T : TypeId} (hl : O.length < 2 ^ 40) : IterG Tryz.prog (.func (.func F_slices_Values_sl_int_int_1) #[] #[ptr b]) (fun h => h[b]? = some (.cells #[vo] T (0, 0)) ∧ Vw encN 1 h vo O) (σ := Nat) 0 (fwdN O) (fun i => i = O.length) := by
  rintro yv h0 h Rs K J E ⟨l, rfl⟩ o j0 hQ hY hK
  refine callF_of (l := [yieldV l, ptr b]) rfl (lk_slices_Values_sl_int_int_1 _ _ ?_)
  unfold sh_slices_Values_sl_int_int_1
  obtain ⟨hb, hv⟩ := hQ _ _ _ j0 o
  have hc : hcell h ⟨b, 0, none⟩ = some vo := hcell_of hb rfl
  refine pLoad_of rfl hc (hv.len ?_)
  refine LoopH_count O.length (fun i x h' => x.1 = I i ∧ ∃ Rs', J i Rs' ∧ Own h0 h' Rs') ⟨rfl, Rs, j0, o⟩ ?_
  clear o j0 hc hb
  have hv0 := hv
  rintro i ⟨x, ⟨⟩⟩ h Z hi ⟨hx, Rs', hj, o⟩ hZ
  dsimp only at hx hZ ⊢
  subst hx
  unfold sh_slices_Values_sl_int_int_1_L1
  rw [pBin_lss, ifV_dec]
  refine ⟨fun hlt => ?_, fun hge => ?_⟩
  · have hlt : i < O.length := by omega
    obtain ⟨_, hv⟩ := hQ _ _ _ hj o
    refine hv.at1 (e := fun (x : Nat) => I x) (fun _ => rfl) hlt ?_
    have e : O[i] = O.getD i 0 := by rw [List.getD_eq_getElem?_getD, List.getElem?_eq_getElem hlt]; rfl
    rw [e]
    refine hY i _ (i + 1) Rs' [] h _ ⟨hlt, rfl, rfl⟩ hj o.nilTail (fun Rs'' h'' hj' o' => ?_) fun Rs'' h'' he o' => ?_
    · rw [pUn_not, Bool.not_true, ifV_false, pBin_add, wI i (by omega)]
      exact hZ (_, ()) h'' hlt ⟨rfl, Rs'', hj', o'.toNil⟩
    · rw [pUn_not, Bool.not_false, ifV_true]
      exact hK _ _ (.inr he) o'.toNil
  · have : i = O.length := by omega
    exact hK _ _ (.inl ⟨i, this, hj⟩) o

theorem valuesN_ok {vo : Value} {O : List Nat} (o : Own h0 h L) (Ho : Vw encN 1 h vo O) (hK : ∀ s h', Own h0 h' (cellR s [vo] T_sl_int :: L) → K (.func (.func F_slices_Values_sl_int_int_1) #[] #[ptr s]) h') : callS Tryz.prog F_slices_Values_sl_int_int [vo] h K := by
  refine callS_of (lk_slices_Values_sl_int_int _ ?_)
  unfold sh_slices_Values_sl_int_int
  refine o.box fun s h1 o1 => ?_
  rw [show (Value.cells vo).toList = [vo] by rw [Ho.one]] at o1
  exact hK s h1 o1

end
end Go.Proofs.YtbacdjahpahcfaaGreatDoor

namespace Go.Proofs.YtbacdjahpahcfaaGreatDoor
open Go Go.Mh
set_option linter.unusedVariables false

theorem insAt_at {v k : Nat} {S : List Nat} (hk : k ≤ S.length) : (insAt v S k)[k]? = some v := by
  unfold insAt
  rw [List.getElem?_append_right (by rw [List.length_take]; omega), List.length_take, show k - min k S.length = 0 by omega]; rfl
theorem insAt_pre {v k : Nat} {S : List Nat} (hk : k + 1 ≤ S.length) : (insAt v S (k + 1))[k]? = some (S.getD k 0) := by
  unfold insAt
  rw [List.getElem?_append_left (by rw [List.length_take]; omega), List.getElem?_take_of_lt (by omega), List.getD_eq_getElem?_getD, List.getElem?_eq_getElem (by omega)]; rfl
theorem insAt_swap {v k : Nat} {S R : List Nat} (hk : k + 1 ≤ S.length) : (((insAt v S (k + 1)) ++ R).set (k + 1) (S.getD k 0)).set k v = insAt v S k ++ R := by
  have e : S.drop k = S.getD k 0 :: S.drop (k + 1) := by
    rw [List.getD_eq_getElem?_getD, List.getElem?_eq_getElem (by omega)]
    exact List.drop_eq_getElem_cons (by omega)
  have e2 : S.take (k + 1) = S.take k ++ [S.getD k 0] := by
    rw [List.getD_eq_getElem?_getD, List.getElem?_eq_getElem (by omega)]
    exact List.take_succ_eq_append_getElem (by omega)
  have hl : (S.take k).length = k := by rw [List.length_take]; omega
  unfold insAt
  rw [e2, e]
  generalize S.getD k 0 = a
  generalize S.take k = T at hl
  generalize S.drop (k + 1) = D
  subst hl
  rw [show T ++ [a] ++ v :: D ++ R = T ++ (a :: v :: (D ++ R)) by simp, show T ++ v :: (a :: D) ++ R = T ++ (v :: a :: (D ++ R)) by simp]
  rw [List.set_append_right _ _ (by omega), show T.length + 1 - T.length = 1 by omega, List.set_append_right _ _ (Nat.le_refl _), Nat.sub_self]
  rfl

section
variable {h0 h : Heap} {L : List Res} {K : Value → Heap → Prop} {vd cv : Value} {f : Nat → Int} {xs : List Nat}

/-- A comparison: below 0 if the first one stands ahead. -/
def CmpF (P : Program) (h0 : Heap) (L : Nat → List Nat → List Res) (cv : Value) (f : Nat → Int) (n : Nat) : Prop := ∀ (i : Nat) (ys : List Nat) (h' : Heap) (v w : Nat) (K' : Value → Heap → Prop), v < n → w < n → Own h0 h' (L i ys) → (∀ (z : Int) h'', Own h0 h'' (L i ys) → (z < 0 ↔ gtV f w v = true) → K' (I z) h'') → callV P cv [I v, I w].toArray h' K'

theorem insSort_ok {n q : Nat} (o : Own h0 h L) (hq : L[q]? = some (slR encN 1 T_int vd xs)) (hn : ∀ x ∈ xs, x < n) (hl : xs.length < 2 ^ 40)
    (hC : ∀ (ys : List Nat) (h' : Heap) (v w : Nat) (K' : Value → Heap → Prop), v < n → w < n → Own h0 h' (L.set q (slR encN 1 T_int vd ys)) → (∀ (z : Int) h'', Own h0 h'' (L.set q (slR encN 1 T_int vd ys)) → (z < 0 ↔ gtV f w v = true) → K' (I z) h'') → callV Tryz.prog cv [I v, I w].toArray h' K')
    (hK : ∀ h', Own h0 h' (L.set q (slR encN 1 T_int vd (ordV f xs))) → K (.tuple #[]) h') : callS Tryz.prog F_slices_insertionSortCmpFunc_int [vd, I (0 : Nat), I xs.length, cv] h K := by
  refine callS_of (lk_slices_insertionSortCmpFunc_int _ _ _ _ ?_)
  unfold sh_slices_insertionSortCmpFunc_int
  rw [pBin_add, wI 0 (by decide)]
  have e0 : ordV f (xs.take 1) ++ xs.drop 1 = xs := by
    cases xs with
    | nil => rfl
    | cons a l => rfl
  refine LoopH_count (xs.length - 1) (fun i x h' => x.1 = I (i + 1 : Nat) ∧ Own h0 h' (L.set q (slR encN 1 T_int vd (ordV f (xs.take (i + 1)) ++ xs.drop (i + 1))))) ⟨rfl, by rw [e0, set_same hq]; exact o⟩ ?_
  clear o
  rintro i ⟨x, ⟨⟩⟩ h1 Z hi ⟨hx, o⟩ hZ
  dsimp only at hx hZ ⊢
  subst hx
  unfold sh_slices_insertionSortCmpFunc_int_L1
  rw [pBin_lss, ifV_dec]
  refine ⟨fun hlt => ?_, fun hge => ?_⟩
  case refine_2 =>
    rw [List.take_of_length_le (by omega), List.drop_eq_nil_of_le (by omega), List.append_nil] at o
    exact hK h1 o
  have hlt : i + 1 < xs.length := by omega
  have hSl : (ordV f (xs.take (i + 1))).length = i + 1 := by rw [ordV_len, List.length_take]; omega
  have hdr : xs.drop (i + 1) = xs[i + 1] :: xs.drop (i + 2) := List.drop_eq_getElem_cons hlt
  have htk : xs.take (i + 2) = xs.take (i + 1) ++ [xs[i + 1]] := List.take_succ_eq_append_getElem hlt
  have hvn : xs[i + 1] < n := hn _ (List.getElem_mem hlt)
  have hSn : ∀ x ∈ ordV f (xs.take (i + 1)), x < n := fun x hx => hn x (List.mem_of_mem_take (ordV_perm.mem_iff.1 hx))
  rw [htk, ordV_snoc] at hZ
  rw [hdr] at o
  generalize ordV f (xs.take (i + 1)) = S at o hSl hSn hZ
  generalize xs[i + 1] = v at o hvn hZ
  generalize xs.drop (i + 2) = R at o hZ
  have ep : posB f v S S.length = posB f v S (i + 1) := by rw [hSl]
  refine LoopH_down (fun j x h' => x.1 = I j ∧ j ≤ i + 1 ∧ posB f v S j = posB f v S S.length ∧ Own h0 h' (L.set q (slR encN 1 T_int vd (insAt v S j ++ R)))) (k0 := i + 1) ⟨rfl, Nat.le_refl _, ep.symm, ?_⟩ ?_
  · have : insAt v S (i + 1) ++ R = S ++ v :: R := by
      unfold insAt
      rw [List.take_of_length_le (by omega), List.drop_eq_nil_of_le (by omega)]; simp
    rw [this]; exact o
  clear o
  rintro j ⟨x, ⟨⟩⟩ h2 Z1 ⟨hx, hj, hp, o⟩ hZ1
  dsimp only at hx hZ1 ⊢
  subst hx
  unfold sh_slices_insertionSortCmpFunc_int_L2
  have hil : ∀ k, (insAt v S k).length = i + 2 := fun k => by rw [insAt_len, hSl]
  have hsq : ∀ {ys : List Nat}, (L.set q (slR encN 1 T_int vd ys))[q]? = some (slR encN 1 T_int vd ys) := set_get hq
  have out : ∀ h', posB f v S S.length = j → Own h0 h' (L.set q (slR encN 1 T_int vd (insAt v S j ++ R))) → pBin .add (I (i + 1 : Nat)) (.int .i64 1) fun t16 => Z (t16, ()) h' := fun h' hpj o' => by
    rw [pBin_add, wI (i + 1) (by omega)]
    refine hZ (_, ()) h' (by omega) ⟨rfl, ?_⟩
    unfold insV
    rw [hpj]; exact o'
  refine cutP_of (fun y h' => y.1 = .bool (decide (0 < j ∧ gtV f (S.getD (j - 1) 0) v = true)) ∧ Own h0 h' (L.set q (slR encN 1 T_int vd (insAt v S j ++ R)))) (fun J hJ => ?_) ?_
  · rw [pBin_gtr, ifV_dec]
    refine ⟨fun hpos => ?_, fun hz => hJ _ _ ⟨by rw [decide_eq_false fun h => hz (by omega)], o⟩⟩
    obtain ⟨k, rfl⟩ : ∃ k, j = k + 1 := ⟨j - 1, by omega⟩
    have hkS : k < S.length := by omega
    have l1 : k + 1 < (insAt v S (k + 1) ++ R).length := by rw [List.length_append, hil]; omega
    have l0 : k < (insAt v S (k + 1) ++ R).length := by omega
    have g1 : (insAt v S (k + 1) ++ R)[k + 1] = v := by
      have := insAt_at (v := v) (S := S) (k := k + 1) (by omega)
      rw [List.getElem_append_left (by rw [hil]; omega)]
      rw [List.getElem?_eq_getElem (by rw [hil]; omega)] at this
      exact Option.some.inj this
    have g0 : (insAt v S (k + 1) ++ R)[k] = S.getD k 0 := by
      have := insAt_pre (v := v) (S := S) (k := k) (by omega)
      rw [List.getElem_append_left (by rw [hil]; omega)]
      rw [List.getElem?_eq_getElem (by rw [hil]; omega)] at this
      exact Option.some.inj this
    refine (o.vw q hsq).at1 (e := fun (x : Nat) => I x) (fun _ => rfl) l1 ?_
    rw [g1, pBin_sub, w64 (by omega) (by omega), show ((k + 1 : Nat) : Int) - 1 = (k : Int) by omega]
    refine (o.vw q hsq).at1 (e := fun (x : Nat) => I x) (fun _ => rfl) l0 ?_
    rw [g0]
    have hSk : S.getD k 0 < n := by rw [getD_at hkS]; exact hSn _ (List.getElem_mem hkS)
    refine hC _ _ _ _ _ hvn hSk o fun z h3 o3 hz => ?_
    rw [pBin_lss]
    refine hJ _ _ ⟨?_, o3⟩
    refine congrArg Value.bool ?_
    rw [decide_eq_decide, hz]
    exact ⟨fun h => ⟨by omega, h⟩, fun h => h.2⟩
  · rintro ⟨y, ⟨⟩⟩ h3 ⟨hy, o3⟩
    dsimp only at hy ⊢
    subst hy
    clear o
    unfold sh_slices_insertionSortCmpFunc_int_C3
    rw [ifV_dec]
    refine ⟨fun hc => ?_, fun hc => ?_⟩
    · obtain ⟨k, rfl⟩ : ∃ k, j = k + 1 := ⟨j - 1, by omega⟩
      have hgt : gtV f (S.getD k 0) v = true := hc.2
      have hkS : k < S.length := by omega
      have l1 : k + 1 < (insAt v S (k + 1) ++ R).length := by rw [List.length_append, hil]; omega
      have l0 : k < (insAt v S (k + 1) ++ R).length := by omega
      have g1 : (insAt v S (k + 1) ++ R)[k + 1] = v := by
        have := insAt_at (v := v) (S := S) (k := k + 1) (by omega)
        rw [List.getElem_append_left (by rw [hil]; omega)]
        rw [List.getElem?_eq_getElem (by rw [hil]; omega)] at this
        exact Option.some.inj this
      have g0 : (insAt v S (k + 1) ++ R)[k] = S.getD k 0 := by
        have := insAt_pre (v := v) (S := S) (k := k) (by omega)
        rw [List.getElem_append_left (by rw [hil]; omega)]
        rw [List.getElem?_eq_getElem (by rw [hil]; omega)] at this
        exact Option.some.inj this
      rw [pBin_sub, w64 (by omega) (by omega), show ((k + 1 : Nat) : Int) - 1 = (k : Int) by omega]
      rw [pBin_sub, w64 (by omega) (by omega), show ((k + 1 : Nat) : Int) - 1 = (k : Int) by omega]
      refine (o3.vw q hsq).at1 (e := fun (x : Nat) => I x) (fun _ => rfl) l0 ?_
      refine (o3.vw q hsq).at1 (e := fun (x : Nat) => I x) (fun _ => rfl) l1 ?_
      rw [g0, g1]
      refine o3.setAt (a := S.getD k 0) q hsq (fun _ => rfl) (encN_plain _) l1 rfl fun h4 o4 => ?_
      rw [List.set_set] at o4
      refine o4.setAt (a := v) q hsq (fun _ => rfl) (encN_plain _) (by rw [List.length_set]; exact l0) rfl fun h5 o5 => ?_
      rw [List.set_set, insAt_swap (by omega)] at o5
      rw [pBin_sub, w64 (by omega) (by omega), show ((k + 1 : Nat) : Int) - 1 = (k : Int) by omega]
      refine hZ1 (_, ()) h5 k (by omega) ⟨rfl, by omega, ?_, o5⟩
      rw [← hp]
      conv => rhs; unfold posB
      rw [if_pos hgt]
    · refine out h3 ?_ o3
      rw [← hp]
      cases j with
      | zero => rfl
      | succ k =>
        unfold posB
        have hc' : ¬ gtV f (S.getD k 0) v = true := fun h => hc ⟨by omega, h⟩
        rw [if_neg hc']

end
end Go.Proofs.YtbacdjahpahcfaaGreatDoor

namespace Go.Proofs.YtbacdjahpahcfaaGreatDoor
open Go Go.Mh
set_option linter.unusedVariables false

section
variable {h0 h : Heap} {L : List Res} {K : Value → Heap → Prop} {vl dv : Value} {xs : List Int} {bad : Int → Bool}

/-- slices.IndexFunc, of a function that turns nothing. -/
theorem indexF_ok (Hl : Vw encI 1 h vl xs) (hl : xs.length < 2 ^ 40) (hB : ∀ (z : Int) (K' : Value → Heap → Prop), K' (.bool (bad z)) h → callV Tryz.prog dv [I z].toArray h K')
    (hK : (∀ x ∈ xs, bad x = false) → K (I (-1)) h) (hI : ∀ i (hi : i < xs.length), bad xs[i] = true → (∀ x ∈ xs.take i, bad x = false) → K (I i) h) : callS Tryz.prog F_slices_IndexFunc_sl_int_int [vl, dv] h K := by
  refine callS_of (lk_slices_IndexFunc_sl_int_int _ _ ?_)
  unfold sh_slices_IndexFunc_sl_int_int
  refine Hl.len ?_
  refine LoopH_count xs.length (fun i x h' => x.1 = I i ∧ h' = h ∧ ∀ x ∈ xs.take i, bad x = false) ⟨rfl, rfl, by simp⟩ ?_
  rintro i ⟨x, ⟨⟩⟩ h' Z hi ⟨hx, rfl, hno⟩ hZ
  dsimp only at hx hZ ⊢
  subst hx
  unfold sh_slices_IndexFunc_sl_int_int_L1
  rw [pBin_lss, ifV_dec]
  refine ⟨fun hlt => ?_, fun hge => ?_⟩
  · have hlt : i < xs.length := by omega
    refine Hl.atI hlt (hB _ _ ?_)
    cases hb : bad xs[i] with
    | true => rw [ifV_true]; exact hI i hlt hb hno
    | false =>
      rw [ifV_false, pBin_add, wI i (by omega)]
      refine hZ (_, ()) _ hlt ⟨rfl, rfl, fun x hx => ?_⟩
      rw [List.take_succ_eq_append_getElem hlt] at hx
      rcases List.mem_append.1 hx with hx | hx
      · exact hno x hx
      · rw [List.mem_singleton.1 hx]; exact hb
  · have : i = xs.length := by omega
    subst this
    rw [List.take_length] at hno
    exact hK hno

theorem filter_all {l : List Int} (h : ∀ x ∈ l, bad x = false) : l.filter (fun z => !bad z) = l := List.filter_eq_self.2 fun x hx => by rw [h x hx]; rfl

/-- slices.DeleteFunc, of a function that turns nothing. -/
theorem deleteF_ok {p : Nat} (o : Own h0 h L) (hp : L[p]? = some (slR encI 1 T_int vl xs)) (hl : xs.length < 2 ^ 40)
    (hB : ∀ (ys : List Int) (h' : Heap) (z : Int) (K' : Value → Heap → Prop), Own h0 h' (L.set p (slR encI 1 T_int vl ys)) → K' (.bool (bad z)) h' → callV Tryz.prog dv [I z].toArray h' K')
    (hK : ∀ v' h', Own h0 h' (L.set p (slR encI 1 T_int v' (xs.filter fun z => !bad z))) → K v' h') : callS Tryz.prog F_slices_DeleteFunc_sl_int_int [vl, dv] h K := by
  refine callS_of (lk_slices_DeleteFunc_sl_int_int _ _ ?_)
  unfold sh_slices_DeleteFunc_sl_int_int
  have hset : ∀ {ys : List Int}, (L.set p (slR encI 1 T_int vl ys))[p]? = some (slR encI 1 T_int vl ys) := set_get hp
  have o' : Own h0 h (L.set p (slR encI 1 T_int vl xs)) := by rw [set_same hp]; exact o
  refine indexF_ok (bad := bad) (o.vw p hp) hl (fun z K' hk => hB xs h z K' o' hk) (fun hall => ?_) fun i0 hi0 e0 n0 => ?_
  · rw [pBin_eql, show ((-1 : Int) == -1) = true from rfl, ifV_true]
    refine hK vl h ?_
    rw [filter_all hall]; exact o'
  rw [pBin_eql, show ((i0 : Int) == -1) = false by simp, ifV_false, pBin_add, wI i0 (by omega)]
  have f0 : (xs.take (i0 + 1)).filter (fun z => !bad z) = xs.take i0 := by
    rw [List.take_succ_eq_append_getElem hi0, List.filter_append, filter_all n0]
    simp [e0]
  refine LoopH_count (xs.length - (i0 + 1)) (fun k x h' => ∃ (ys : List Int) (a : Nat), x.1 = I a ∧ x.2.1 = I ((i0 + 1 + k : Nat) : Int) ∧ a < i0 + 1 + k ∧ ys.length = xs.length ∧ ys.take a = (xs.take (i0 + 1 + k)).filter (fun z => !bad z) ∧ ys.drop (i0 + 1 + k) = xs.drop (i0 + 1 + k) ∧ Own h0 h' (L.set p (slR encI 1 T_int vl ys)))
    ⟨xs, i0, rfl, rfl, by omega, rfl, by rw [Nat.add_zero, f0], rfl, o'⟩ ?_
  clear o o'
  rintro k ⟨x, y, ⟨⟩⟩ h' Z hk ⟨ys, a, hx, hy, haj, hyl, hta, hdr, o⟩ hZ
  dsimp only at hx hy hZ ⊢
  subst hx hy
  generalize hj : i0 + 1 + k = j at haj hta hdr hZ
  unfold sh_slices_DeleteFunc_sl_int_int_L1
  refine (o.vw p hset).len ?_
  rw [hyl]
  simp only [pBin_lss, ifV_dec]
  refine ⟨fun hlt => ?_, fun hge => ?_⟩
  · have hlt : j < xs.length := by omega
    have hyq : ys[j]? = some xs[j] := by
      have := congrArg (fun l : List Int => l[0]?) hdr
      simp only [List.getElem?_drop, Nat.add_zero] at this
      rw [this]; simp [hlt]
    have htk : xs.take (j + 1) = xs.take j ++ [xs[j]] := List.take_succ_eq_append_getElem hlt
    refine (o.vw p hset).atQ hyq (hB ys _ _ _ o ?_)
    generalize xs[j] = v at hyq htk
    have next : ∀ (zs : List Int) (b : Nat) h2, b < j + 1 → zs.length = xs.length → zs.take b = (xs.take (j + 1)).filter (fun z => !bad z) → zs.drop (j + 1) = xs.drop (j + 1) → Own h0 h2 (L.set p (slR encI 1 T_int vl zs)) → sh_slices_DeleteFunc_sl_int_int_k2 Tryz.prog (I j) (fun a0 a1 hz => Z (a0, (a1, ())) hz) (I b) h2 := by
      intro zs b h2 hb hzl hzt hzd oz
      unfold sh_slices_DeleteFunc_sl_int_int_k2
      rw [pBin_add, wI j (by omega)]
      have ej : i0 + 1 + (k + 1) = j + 1 := by omega
      exact hZ (I b, I (j + 1 : Nat), ()) h2 (by omega) ⟨zs, b, rfl, by rw [ej], by omega, hzl, by rw [ej]; exact hzt, by rw [ej]; exact hzd, oz⟩
    have dropS : ys.drop (j + 1) = xs.drop (j + 1) := by
      have := congrArg (List.drop 1) hdr
      simpa [List.drop_drop, Nat.add_comm] using this
    rw [pUn_not]
    cases hv : bad v with
    | true =>
      rw [Bool.not_true, ifV_false]
      refine next ys a h' (by omega) hyl ?_ dropS o
      rw [htk, List.filter_append, hta]; simp [hv]
    | false =>
      rw [Bool.not_false, ifV_true]
      refine o.setI p hset (by omega) fun h2 o2 => ?_
      rw [List.set_set] at o2
      rw [pBin_add, wI a (by omega)]
      refine next (ys.set a v) (a + 1) h2 (by omega) (by rw [List.length_set]; exact hyl) ?_ ?_ o2
      · rw [htk, List.filter_append]
        have : [v].filter (fun z => !bad z) = [v] := by simp [hv]
        rw [this]
        have e1 : (ys.set a v).take (a + 1) = ys.take a ++ [v] := by
          rw [List.take_succ_eq_append_getElem (by rw [List.length_set]; omega), List.getElem_set_self, List.take_set_of_le (Nat.le_refl _)]
        rw [e1, hta]
      · rw [List.drop_set_of_lt (by omega)]; exact dropS
  · have hjl : j = xs.length := by omega
    subst hjl
    have hal : a ≤ ys.length := by omega
    refine o.clearTail p hset hal fun h2 o2 => ?_
    rw [List.set_set] at o2
    refine o2.pre encI_len p (set_get hp) (by simp; omega) fun v' o3 => ?_
    rw [List.set_set] at o3
    rw [List.take_length] at hta
    have e : (ys.take a ++ List.replicate (ys.length - a) (0 : Int)).take a = xs.filter fun z => !bad z := by
      rw [List.take_append_of_le_length (by simp; omega), List.take_take, Nat.min_self]
      exact hta
    rw [e] at o3
    exact hK v' h2 o3

end
end Go.Proofs.YtbacdjahpahcfaaGreatDoor

namespace Go.Proofs.YtbacdjahpahcfaaGreatDoor
open Go Go.Mh
set_option linter.unusedVariables false

section
variable {h0 h : Heap} {L : List Res} {K : Value → Heap → Prop} {g : G} {vd cv : Value} {f : Nat → Int} {xs : List Nat}

theorem pIdxS_any {s : ByteArray} {i : Nat} {k : IntKind} {K : Value → Prop} (hi : i < s.size) (hK : ∀ b : Int, K (.int .u8 b)) : pIdxS (.string s) (.int k i) K := by
  refine ⟨by omega, ?_⟩
  rw [Int.toNat_natCast, getElem?_pos s i hi]
  exact hK _

set_option maxRecDepth 100000 in
theorem lenAny_ok {n : Nat} (hn : n < 256) (hK : ∀ z : Int, K (I z) h) : callS Tryz.prog F_math_bits_Len [.int .u64 n] h K := by
  refine callS_of (lk_math_bits_Len _ ?_)
  unfold sh_math_bits_Len
  refine callS_of (lk_math_bits_Len64 _ ?_)
  unfold sh_math_bits_Len64 sh_math_bits_Len64_k1 sh_math_bits_Len64_k2 sh_math_bits_Len64_k3
  rw [pBin_geq, decide_eq_false (by omega), ifV_false, pBin_geq, decide_eq_false (by omega), ifV_false, pBin_geq, decide_eq_false (by omega), ifV_false]
  rw [pConv_int, show IntKind.u8.wrap (n : Int) = (n : Int) from wrap_in (show (0 : Int) ≤ n by omega) (show (n : Int) ≤ 255 by omega)]
  refine pIdxS_any ?_ fun b => ?_
  · refine Nat.lt_of_lt_of_eq hn (Eq.symm ?_)
    kernel_rfl
  · rw [pConv_int, pBin_add]
    exact hK _

theorem pdq_ok {n q : Nat} {lim : Value} (o : Own h0 h L) (hq : L[q]? = some (slR encN 1 T_int vd xs)) (hn : ∀ x ∈ xs, x < n) (hl : xs.length ≤ 12)
    (hC : ∀ (ys : List Nat) (h' : Heap) (v w : Nat) (K' : Value → Heap → Prop), v < n → w < n → Own h0 h' (L.set q (slR encN 1 T_int vd ys)) → (∀ (z : Int) h'', Own h0 h'' (L.set q (slR encN 1 T_int vd ys)) → (z < 0 ↔ gtV f w v = true) → K' (I z) h'') → callV Tryz.prog cv [I v, I w].toArray h' K')
    (hK : ∀ h', Own h0 h' (L.set q (slR encN 1 T_int vd (ordV f xs))) → K (.tuple #[]) h') : callS Tryz.prog F_slices_pdqsortCmpFunc_int [vd, I (0 : Nat), I xs.length, lim, cv] h K := by
  refine callS_of (lk_slices_pdqsortCmpFunc_int _ _ _ _ _ ?_)
  unfold sh_slices_pdqsortCmpFunc_int
  refine LoopH_count 0 (fun _ x h' => x.1 = I (0 : Nat) ∧ x.2.1 = I xs.length ∧ h' = h) ⟨rfl, rfl, rfl⟩ ?_
  rintro i ⟨x, y, z, b1, b2, ⟨⟩⟩ h' Z hi ⟨hx, hy, rfl⟩ hZ
  dsimp only at hx hy ⊢
  subst hx hy
  unfold sh_slices_pdqsortCmpFunc_int_L1
  rw [pBin_sub, w64 (by omega) (by omega), pBin_leq, decide_eq_true (by omega), ifV_true]
  exact insSort_ok o hq hn (by omega) hC hK

theorem sortFunc_ok {n q : Nat} (o : Own h0 h L) (hq : L[q]? = some (slR encN 1 T_int vd xs)) (hn : ∀ x ∈ xs, x < n) (hl : xs.length ≤ 12)
    (hC : ∀ (ys : List Nat) (h' : Heap) (v w : Nat) (K' : Value → Heap → Prop), v < n → w < n → Own h0 h' (L.set q (slR encN 1 T_int vd ys)) → (∀ (z : Int) h'', Own h0 h'' (L.set q (slR encN 1 T_int vd ys)) → (z < 0 ↔ gtV f w v = true) → K' (I z) h'') → callV Tryz.prog cv [I v, I w].toArray h' K')
    (hK : ∀ h', Own h0 h' (L.set q (slR encN 1 T_int vd (ordV f xs))) → K (.tuple #[]) h') : callS Tryz.prog F_slices_SortFunc_sl_int_int [vd, cv] h K := by
  refine callS_of (lk_slices_SortFunc_sl_int_int _ _ ?_)
  unfold sh_slices_SortFunc_sl_int_int
  refine (o.vw q hq).len ?_
  rw [pConv_int, u64w (by omega) (by omega)]
  refine lenAny_ok (by omega) fun z => ?_
  exact pdq_ok o hq hn hl hC hK

theorem collect_ok {s : Nat} {vo : Value} {l : List Nat} (o : Own h0 h L) (i : Nat) (hi : L[i]? = some (cellR s [vo] T_sl_int)) (hv : ∀ h', Own h0 h' L → Vw encN 1 h' vo l) (hl : l.length < 2 ^ 40)
    (hK : ∀ w h', Own h0 h' (slR encN 1 T_int w l :: L) → K w h') : callS Tryz.prog F_slices_Collect_int [.func (.func F_slices_Values_sl_int_int_1) #[] #[ptr s]] h K := by
  refine callS_of (lk_slices_Collect_int _ ?_)
  unfold sh_slices_Collect_int
  refine callS_of (lk_slices_AppendSeq_sl_int_int _ _ ?_)
  unfold sh_slices_AppendSeq_sl_int_int
  refine o.box fun s2 h1 o1 => ?_
  have o2 : Own h0 h1 (slR encN 1 T_int (.slice none 0 0) (l.take 0) :: cellR s2 [.slice none 0 0] T_sl_int :: L) := Own.nilS (enc := encN) (n := 1) (T := T_int) o1
  refine o2.range (valsN_iter (O := l) (vo := vo) (b := s) (T := T_sl_int) hl) (by rintro i x i' ⟨_, _, rfl⟩; rfl)
    (fun j Rs => j ≤ l.length ∧ ∃ w, Rs = slR encN 1 T_int w (l.take j) :: cellR s2 [w] T_sl_int :: L) (fun _ => False) (fun _ _ => False) ⟨Nat.zero_le _, _, rfl⟩ ?_ ?_ ?_ (fun _ _ h => h.elim) (fun _ _ _ h => h.elim)
  · rintro j Rs h' ⟨_, w, rfl⟩ o'
    exact ⟨o'.get (i + 2) hi, hv _ o'.tail.tail⟩
  · rintro M j x j' Rs Pr h' R ⟨h1', rfl, rfl⟩ ⟨_, w, rfl⟩ o' hN _ _
    dsimp only [valsOf]
    unfold sh_slices_AppendSeq_sl_int_int_B1
    refine o'.begin 0 rfl fun h4 o4 => ?_
    have o4 : Own h0 h4 (loopR _ _ :: markR _ :: slR encN 1 T_int w (l.take j) :: cellR s2 [w] T_sl_int :: (L ++ Pr)) := o4
    refine o4.load 3 rfl rfl ?_
    refine o4.app1 2 (l.getD j 0) rfl rfl (sizesOk_of rfl) (fun _ => rfl) encN_plain rfl (by decide) (by rw [List.length_take]; omega) fun w' h5 o5 => ?_
    have hw' := o5.vw 2 rfl
    refine o5.st1 3 (cs' := [w']) rfl rfl rfl hw'.one hw'.plain fun h6 o6 => ?_
    refine hN _ h6 ⟨h1', w', rfl⟩ ?_
    rw [List.take_succ_eq_append_getElem h1', ← getD_at (a := 0) h1']
    exact o6
  · rintro j h' Rs rfl ⟨_, w, rfl⟩ o'
    rw [List.take_length] at o'
    refine o'.load 2 rfl rfl (o'.take1 0 rfl fun h10 o10 => hK w h10 ?_)
    exact o10.tail.front 2 [0] (by decide) (by decide)

/-- slices.SortedFunc(slices.Values(l), cmp). -/
theorem sortedFunc_ok {n s : Nat} {vo : Value} {l : List Nat} (o : Own h0 h L) (i : Nat) (hi : L[i]? = some (cellR s [vo] T_sl_int)) (hv : ∀ h', Own h0 h' L → Vw encN 1 h' vo l) (hl : l.length ≤ 12) (hn : ∀ x ∈ l, x < n)
    (hC : ∀ (R : Res) (h' : Heap) (v w : Nat) (K' : Value → Heap → Prop), v < n → w < n → Own h0 h' (R :: L) → (∀ (z : Int) h'', Own h0 h'' (R :: L) → (z < 0 ↔ gtV f w v = true) → K' (I z) h'') → callV Tryz.prog cv [I v, I w].toArray h' K')
    (hK : ∀ w h', Own h0 h' (slR encN 1 T_int w (ordV f l) :: L) → K w h') : callS Tryz.prog F_slices_SortedFunc_int [.func (.func F_slices_Values_sl_int_int_1) #[] #[ptr s], cv] h K := by
  refine callS_of (lk_slices_SortedFunc_int _ _ ?_)
  unfold sh_slices_SortedFunc_int
  refine collect_ok o i hi hv (by omega) fun w h1 o1 => ?_
  refine sortFunc_ok (f := f) (n := n) (q := 0) o1 rfl hn hl (fun ys h' v w' K' hv hw o' hk => hC _ h' v w' K' hv hw o' hk) fun h2 o2 => ?_
  exact hK w h2 o2

/-! ### The order of nodes -/

def cmpZ (a b : Int) : Int := if a < b then -1 else if b < a then 1 else 0

theorem cmpI64_ok {a b : Int} (hK : K (I (cmpZ a b)) h) : callS Tryz.prog F_cmp_Compare_int64 [I a, I b] h K := by
  refine callS_of (lk_cmp_Compare_int64 _ _ ?_)
  unfold sh_cmp_Compare_int64
  refine callS_of (lk_cmp_isNaN_int64 _ ?_)
  unfold sh_cmp_isNaN_int64
  rw [pBin_neq, bne_self_eq_false]
  refine callS_of (lk_cmp_isNaN_int64 _ ?_)
  unfold sh_cmp_isNaN_int64
  rw [pBin_neq, bne_self_eq_false]
  dsimp only
  rw [ifV_false, ifV_false]
  unfold cmpZ at hK
  rw [pBin_lss, ifV_dec]
  refine ⟨fun c => by rw [if_pos c] at hK; exact hK, fun c => ?_⟩
  rw [if_neg c] at hK
  rw [pBin_gtr, ifV_dec]
  exact ⟨fun c => by rw [if_pos c] at hK; exact hK, fun c => by rw [if_neg c] at hK; exact hK⟩

theorem cmpInt_ok {a b : Int} (hK : K (I (cmpZ a b)) h) : callS Tryz.prog F_cmp_Compare_int [I a, I b] h K := by
  refine callS_of (lk_cmp_Compare_int _ _ ?_)
  unfold sh_cmp_Compare_int
  refine callS_of (lk_cmp_isNaN_int _ ?_)
  unfold sh_cmp_isNaN_int
  rw [pBin_neq, bne_self_eq_false]
  refine callS_of (lk_cmp_isNaN_int _ ?_)
  unfold sh_cmp_isNaN_int
  rw [pBin_neq, bne_self_eq_false]
  dsimp only
  rw [ifV_false, ifV_false]
  unfold cmpZ at hK
  rw [pBin_lss, ifV_dec]
  refine ⟨fun c => by rw [if_pos c] at hK; exact hK, fun c => ?_⟩
  rw [if_neg c] at hK
  rw [pBin_gtr, ifV_dec]
  exact ⟨fun c => by rw [if_pos c] at hK; exact hK, fun c => by rw [if_neg c] at hK; exact hK⟩

theorem or2_ok {a b : Int} {vs : Value} (Hs : Vw encI 1 h vs [a, b]) (hK : K (I (if a ≠ 0 then a else b)) h) : callS Tryz.prog F_cmp_Or_int [vs] h K := by
  refine callS_of (lk_cmp_Or_int _ ?_)
  unfold sh_cmp_Or_int
  refine Hs.len ?_
  refine LoopH_count 2 (fun i x h' => x.1 = I i ∧ h' = h ∧ (1 ≤ i → a = 0) ∧ (2 ≤ i → b = 0)) ⟨rfl, rfl, fun h => by omega, fun h => by omega⟩ ?_
  rintro i ⟨x, ⟨⟩⟩ h' Z hi ⟨hx, rfl, h1, h2⟩ hZ
  dsimp only at hx hZ ⊢
  subst hx
  unfold sh_cmp_Or_int_L1
  rw [pBin_lss, ifV_dec]
  have hl2 : ([a, b] : List Int).length = 2 := rfl
  refine ⟨fun hlt => ?_, fun hge => ?_⟩
  · rcases (show i = 0 ∨ i = 1 by omega) with rfl | rfl
    · refine Hs.atI (i := 0) (Nat.zero_lt_succ _) ?_
      show pBin .neq (I a) _ _
      rw [pBin_neq]
      by_cases ha : a = 0
      · rw [show (a != 0) = false by simpa using ha, ifV_false, pBin_add, wI 0 (by decide)]
        exact hZ (_, ()) _ (by decide) ⟨rfl, rfl, fun _ => ha, fun h => by omega⟩
      · rw [show (a != 0) = true by simpa using ha, ifV_true]
        rw [if_pos ha] at hK
        exact hK
    · refine Hs.atI (i := 1) (Nat.lt_succ_self 1) ?_
      show pBin .neq (I b) _ _
      rw [pBin_neq]
      have ha := h1 (Nat.le_refl _)
      rw [if_neg (fun h => h ha)] at hK
      by_cases hb : b = 0
      · rw [show (b != 0) = false by simpa using hb, ifV_false, pBin_add, wI 1 (by decide)]
        exact hZ (_, ()) _ (by decide) ⟨rfl, rfl, fun _ => ha, fun _ => hb⟩
      · rw [show (b != 0) = true by simpa using hb, ifV_true]
        exact hK
  · have ha := h1 (by omega)
    have hb := h2 (by omega)
    rw [if_neg (fun h => h ha), hb] at hK
    exact hK

theorem cmp_gt {x y : Int} {v w : Nat} : (if cmpZ x y ≠ 0 then cmpZ x y else cmpZ (v : Int) (w : Int)) < 0 ↔ x < y ∨ (y = x ∧ v < w) := by
  unfold cmpZ
  rcases Int.lt_trichotomy x y with h | h | h
  · rw [if_pos h, if_pos (by decide)]
    exact ⟨fun _ => .inl h, fun _ => by decide⟩
  · subst h
    rw [if_neg (Int.lt_irrefl _), if_neg (Int.lt_irrefl _), if_neg (fun h => h rfl)]
    split
    · exact ⟨fun _ => .inr ⟨rfl, by omega⟩, fun _ => by decide⟩
    · split
      · exact ⟨fun h => absurd h (by decide), fun h => by omega⟩
      · exact ⟨fun h => absurd h (by decide), fun h => by omega⟩
  · have hn : ¬ x < y := by omega
    rw [if_neg hn, if_pos h, if_pos (by decide)]
    exact ⟨fun h => absurd h (by decide), fun h => by omega⟩

theorem cmpP_ok {p p2 tl vb r d v w : Nat} {pc : List Value} (o : Own h0 h L) (a i j k : Nat) (ha : L[a]? = some (cellR vb [alV p2 tl] T_func_int_int64)) (hi : L[i]? = some (cellR tl [dirF d] T_func_int64_int64_int64)) (hj : L[j]? = some (cellR p2 [ptr p] T_p_split_parter)) (hk : L[k]? = some (cellR p (ptr r :: pc) T_split_parter))
    (hR : g.Right) (hN : NetR h r g) (hd : d < 4) (hv : v < g.n) (hw : w < g.n) (hK : ∀ (z : Int) h', Own h0 h' L → (z < 0 ↔ gtV (valG g d) w v = true) → K (I z) h') : callV Tryz.prog (.func (.func F_split_parter_part_2) #[] #[ptr vb]) [I v, I w].toArray h K := by
  refine callV_of (l := [I v, I w, ptr vb]) rfl (lk_split_parter_part_2 _ _ _ ?_)
  unfold sh_split_parter_part_2
  refine o.load a ha rfl (o.load a ha rfl ?_)
  refine alongF_ok o i j k hi hj hk hR hN hd hv ⟨o.load a ha rfl rfl, ?_⟩
  refine alongF_ok o i j k hi hj hk hR hN hd hw ?_
  refine cmpI64_ok (cmpInt_ok ?_)
  refine o.build (enc := encI) (n := 1) [cmpZ (valG g d v) (valG g d w), cmpZ v w] rfl (sizesOk_of rfl) rfl fun vs h1 o1 => ?_
  refine or2_ok (o1.vw 0 rfl) ?_
  refine hK _ h1 o1.tail ?_
  unfold gtV
  rw [decide_eq_true_eq]
  exact cmp_gt

end
end Go.Proofs.YtbacdjahpahcfaaGreatDoor

namespace Go.Proofs.YtbacdjahpahcfaaGreatDoor
open Go Go.Mh
set_option linter.unusedVariables false

theorem tdivN {a b : Nat} : ((a : Int)).tdiv (b : Int) = ((a / b : Nat) : Int) := rfl
theorem setL_snoc {c : Int} {l : List Nat} {v : Nat} {out : List Int} : setL c (l ++ [v]) out = (setL c l out).set v c := by simp [setL]

section
variable {g : G} {r : Nat}

theorem part_ok {N : Res} (hR : g.Right) (hN : netR N r g) : ∀ {k c nx p q nq : Nat} {h0 h : Heap} {L : List Res} {K : Value → Heap → Prop} {vl vc vp : Value} {l ys : List Nat} {out : List Int},
    Own h0 h (cellR p [ptr r, vc, I nx] T_split_parter :: slR encI 1 T_int vc out :: L) → L[nq]? = some N → L[q]? = some (slR encN 1 T_int vp ys) → (∀ h', Vw encN 1 h' vp ys → Vw encN 1 h' vl l) →
    (∀ x ∈ l, x < g.n) → l.length ≤ 12 → out.length = g.n → 1 ≤ c → c ≤ k → c ≤ 256 → nx + c ≤ 2 ^ 40 →
    (∀ h', Own h0 h' (cellR p [ptr r, vc, I (nx + c : Nat)] T_split_parter :: slR encI 1 T_int vc (asgF (partF g k c l) nx out) :: L) → K (.tuple #[]) h') → callS Tryz.prog F_split_parter_part [ptr p, vl, I c] h K
  | 0, c, nx, p, q, nq, h0, h, L, K, vl, vc, vp, l, ys, out, o, hnq, hq, hsub, hln, hl, hol, hc1, hck, hc, hnx, hK => by omega
  | k + 1, c, nx, p, q, nq, h0, h, L, K, vl, vc, vp, l, ys, out, o, hnq, hq, hsub, hln, hl, hol, hc1, hck, hc, hnx, hK => by
    refine callS_of (lk_split_parter_part _ _ _ ?_)
    unfold sh_split_parter_part
    refine o.box fun p3 h1 o1 => ?_
    have o1 : Own h0 h1 (cellR p3 [ptr p] T_p_split_parter :: cellR p [ptr r, vc, I nx] T_split_parter :: slR encI 1 T_int vc out :: L) := o1
    rw [pBin_eql, ifV_beq]
    refine ⟨fun e => ?_, fun e => ?_⟩
    · have e1 : c = 1 := by omega
      subst e1
      have ep : asgF (partF g (k + 1) 1 l) nx out = setL nx l out := by unfold partF; rw [if_pos rfl]; rfl
      rw [ep] at hK
      refine (hsub _ (o1.vw (q + 3) hq)).len ?_
      refine LoopH_count l.length (fun i x h' => x.1 = I i ∧ Own h0 h' (cellR p3 [ptr p] T_p_split_parter :: cellR p [ptr r, vc, I nx] T_split_parter :: slR encI 1 T_int vc (setL nx (l.take i) out) :: L)) ⟨rfl, o1⟩ ?_
      clear o1 o
      rintro i ⟨x, ⟨⟩⟩ h2 Z hi ⟨hx, o⟩ hZ
      dsimp only at hx hZ ⊢
      subst hx
      unfold sh_split_parter_part_L1
      rw [pBin_lss, ifV_dec]
      refine ⟨fun hlt => ?_, fun hge => ?_⟩
      · have hlt : i < l.length := by omega
        refine (hsub _ (o.vw (q + 3) hq)).at1 (e := fun (x : Nat) => I x) (fun _ => rfl) hlt ?_
        refine o.load 0 rfl rfl ?_
        simp only [pNil_ptr, pField_ptr]
        refine o.load 1 rfl rfl (o.load 0 rfl rfl ?_)
        simp only [pNil_ptr, pField_ptr]
        refine o.load 1 rfl rfl ?_
        refine o.setI 2 rfl (by rw [setL_len, hol]; exact hln _ (List.getElem_mem hlt)) fun h3 o3 => ?_
        rw [pBin_add, wI i (by omega)]
        refine hZ (_, ()) h3 hlt ⟨rfl, ?_⟩
        rw [List.take_succ_eq_append_getElem hlt, setL_snoc]
        exact o3
      · have : i = l.length := by omega
        subst this
        rw [List.take_length] at o
        refine ld_split_parter_part_1 (ptr p3) ?_
        unfold sh_split_parter_part_1
        refine o.load 0 rfl rfl ?_
        simp only [pNil_ptr, pField_ptr]
        refine o.load 1 rfl rfl ?_
        rw [pBin_add, wI nx (by omega)]
        refine o.st1 1 (cs' := [ptr r, vc, I (nx + 1 : Nat)]) rfl rfl rfl rfl rfl fun h3 o3 => ?_
        exact hK h3 o3.tail
    · have hc2 : 2 ≤ c := by omega
      obtain ⟨hd, _, _⟩ := @wayG_spec g l
      have ep : partF g (k + 1) c l = partF g k (c / 2) ((ordV (valG g (wayG g l).1) l).take (l.length * (c / 2) / c)) ++ partF g k (c - c / 2) ((ordV (valG g (wayG g l).1) l).drop (l.length * (c / 2) / c)) := by
        conv => lhs; unfold partF
        rw [if_neg (by omega)]
      refine o1.load 0 rfl rfl ?_
      refine pway_ok o1 1 rfl hR (fun h' x => hN _ ((o1.more x).get (nq + 3) hnq)) (hsub _ (o1.vw (q + 3) hq)) (by omega) hln fun h2 o2 _ => ?_
      clear o1 o
      simp only [pExt0, pExt1]
      refine o2.load 0 rfl rfl ?_
      refine along_ok o2 hd fun p2 tl h3 o3 _ => ?_
      generalize (wayG g l).1 = d at hd ep o3
      refine o3.box fun vb h4 o4 => o4.st1 0 (cs' := [alV p2 tl]) rfl rfl rfl rfl rfl fun h5 o5 => ?_
      have o5 : Own h0 h5 (cellR vb [alV p2 tl] T_func_int_int64 :: cellR tl [dirF d] T_func_int64_int64_int64 :: cellR p2 [ptr p] T_p_split_parter :: cellR p3 [ptr p] T_p_split_parter :: cellR p [ptr r, vc, I nx] T_split_parter :: slR encI 1 T_int vc out :: L) := o5
      clear o4 o3 o2
      refine valuesN_ok o5 (hsub _ (o5.vw (q + 6) hq)) fun s h6 o6 => ?_
      refine sortedFunc_ok (f := valG g d) (n := g.n) o6 0 rfl (fun h' o' => hsub _ (o'.vw (q + 7) hq)) hl hln (fun R h' v w K' hv hw o' hk => cmpP_ok o' 2 3 4 6 rfl rfl rfl rfl hR (hN _ (o'.get (nq + 8) hnq)) hd hv hw hk) fun w h7 o7 => ?_
      have ol : (ordV (valG g d) l).length = l.length := ordV_len
      have oln : ∀ x ∈ ordV (valG g d) l, x < g.n := fun x hx => hln x (ordV_perm.mem_iff.1 hx)
      have hh := half_le (m := l.length) hc2
      generalize ordV (valG g d) l = O at o7 ol oln ep
      have o8 : Own h0 h7 (cellR p [ptr r, vc, I nx] T_split_parter :: slR encI 1 T_int vc out :: slR encN 1 T_int w O :: cellR p3 [ptr p] T_p_split_parter :: L) := o7.front 8 [6, 7, 0, 5] (by decide) (by decide)
      clear o7 o6 o5
      refine (o8.vw 2 rfl).len ?_
      rw [ol]
      have q2 : ((c : Int)).tdiv 2 = ((c / 2 : Nat) : Int) := tdivN (b := 2)
      have hmul : l.length * (c / 2) ≤ 12 * 128 := Nat.mul_le_mul hl (by omega)
      rw [pBin_quo]
      refine ⟨by decide, ?_⟩
      rw [q2, w64 (by omega) (by omega), pBin_mul, show ((l.length : Int) * ((c / 2 : Nat) : Int)) = ((l.length * (c / 2) : Nat) : Int) by simp, w64 (by omega) (by omega), pBin_quo]
      refine ⟨by omega, ?_⟩
      rw [tdivN]
      generalize l.length * (c / 2) / c = H at hh ep ⊢
      rw [w64 (by omega) (by omega)]
      refine o8.load 3 rfl rfl ?_
      refine (o8.vw 2 rfl).subA (a := 0) (j := H) encN_len rfl rfl (by omega) (by omega) fun w1 hw1 => ?_
      rw [pBin_quo]
      refine ⟨by decide, ?_⟩
      rw [q2, w64 (by omega) (by omega)]
      rw [ep, asgF_append, partF_len (by omega) (by omega)] at hK
      refine part_ok hR hN (k := k) (c := c / 2) (q := 0) (nq := nq + 2) (L := slR encN 1 T_int w O :: cellR p3 [ptr p] T_p_split_parter :: L) (l := O.take H) o8 hnq rfl (fun h' H' => by have := hw1 h' H'; rwa [List.drop_zero, Nat.sub_zero] at this) (fun x hx => oln x (List.mem_of_mem_take hx)) (by rw [List.length_take]; omega) hol (by omega) (by omega) (by omega) (by omega) fun h8 o9 => ?_
      clear o8
      refine o9.load 3 rfl rfl ?_
      refine (o9.vw 2 rfl).subA (a := H) (j := O.length) encN_len rfl rfl (by omega) (Nat.le_refl _) fun w2 hw2 => ?_
      rw [pBin_quo]
      refine ⟨by decide, ?_⟩
      rw [q2, w64 (by omega) (by omega), pBin_sub, show (c : Int) - ((c / 2 : Nat) : Int) = ((c - c / 2 : Nat) : Int) by omega, w64 (by omega) (by omega)]
      refine part_ok hR hN (k := k) (c := c - c / 2) (q := 0) (nq := nq + 2) (L := slR encN 1 T_int w O :: cellR p3 [ptr p] T_p_split_parter :: L) (l := O.drop H) o9 hnq rfl (fun h' H' => by have := hw2 h' H'; rwa [List.take_of_length_le (by rw [List.length_drop]; exact Nat.le_refl _)] at this) (fun x hx => oln x (List.mem_of_mem_drop hx)) (by rw [List.length_drop]; omega) (by rw [asgF_len]; exact hol) (by omega) (by omega) (by omega) (by omega) fun h9 o10 => ?_
      refine hK h9 ?_
      rw [show nx + c = nx + c / 2 + (c - c / 2) by omega]
      exact o10.front 4 [0, 1] (by decide) (by decide)

variable {h0 h : Heap} {L : List Res} {K : Value → Heap → Prop} {N : Res} {vl : Value}

/-- Cells of a number that may be any. -/
def mapZ (g : G) (z : Int) : List Int := if 1 ≤ z ∧ z ≤ 256 then mapG g z.toNat else []

theorem smap_ok {z : Int} {nq : Nat} (o : Own h0 h L) (hq : L[nq]? = some N) (hN : netR N r g) (hR : g.Right) (hn : g.n ≤ 12) (hK : ∀ w h', Own h0 h' (slR encI 1 T_int w (mapZ g z) :: L) → K w h') : callS Tryz.prog F_split_Map [ptr r, I z] h K := by
  refine callS_of (lk_split_Map _ _ ?_)
  unfold sh_split_Map sh_split_Map_k1
  simp only [pEq_ptr_nil, Option.isNone_some, ifV_false]
  unfold mapZ at hK
  rw [pBin_lss, ifV_dec]
  refine ⟨fun c => ?_, fun c1 => ?_⟩
  · rw [if_neg (by omega)] at hK
    exact hK _ h o.nilS
  rw [pBin_gtr, ifV_dec]
  refine ⟨fun c => ?_, fun c2 => ?_⟩
  · rw [if_neg (by omega)] at hK
    exact hK _ h o.nilS
  rw [if_pos (by omega)] at hK
  obtain ⟨c, rfl⟩ : ∃ c : Nat, z = c := Int.eq_ofNat_of_zero_le (by omega)
  rw [Int.toNat_natCast] at hK
  refine nodes_ok (hN _ (o.get nq hq)) ?_
  refine o.make (enc := encI) (n := 1) (a := 0) (m := g.n) rfl (by omega) (by omega) fun w21 h1 o1 => ?_
  have hw := o1.vw 0 rfl
  refine pBuild_ones (cs' := [ptr r, w21, I (0 : Nat)]) (fun p hp => by
    simp at hp
    rcases hp with rfl | rfl
    · rfl
    · exact hw.one) rfl rfl ?_
  refine o1.box fun p h2 o2 => ?_
  rw [show (Value.cells (.agg [ptr r, w21, I (0 : Nat)].toArray)).toList = [ptr r, w21, I (0 : Nat)] by simp [Value.cells, hw.one]] at o2
  refine nodes_ok (hN _ (o2.get (nq + 2) hq)) ?_
  refine o2.make (enc := encN) (n := 1) (a := (0 : Nat)) (m := g.n) rfl (by omega) (by omega) fun w26 h3 o3 => ?_
  clear o2 o1
  refine (o3.vw 0 rfl).len ?_
  rw [List.length_replicate]
  have hul : ∀ i, i ≤ g.n → (List.range i ++ List.replicate (g.n - i) 0).length = g.n := fun i hi => by rw [List.length_append, List.length_range, List.length_replicate]; omega
  refine LoopH_count g.n (fun i x h' => x.1 = I i ∧ Own h0 h' (slR encN 1 T_int w26 (List.range i ++ List.replicate (g.n - i) 0) :: cellR p [ptr r, w21, I (0 : Nat)] T_split_parter :: slR encI 1 T_int w21 (List.replicate g.n 0) :: L)) ⟨rfl, o3⟩ ?_
  clear o3
  rintro i ⟨x, ⟨⟩⟩ h4 Z hi ⟨hx, o3⟩ hZ
  dsimp only at hx hZ ⊢
  subst hx
  unfold sh_split_Map_L2
  rw [pBin_lss, ifV_dec]
  refine ⟨fun hlt => ?_, fun hge => ?_⟩
  · have hlt : i < g.n := by omega
    refine o3.setAt (a := i) 0 rfl (fun _ => rfl) (encN_plain _) (by rw [hul i hi]; exact hlt) rfl fun h5 o5 => ?_
    rw [pBin_add, wI i (by omega)]
    refine hZ (_, ()) h5 hlt ⟨rfl, ?_⟩
    have : (List.range i ++ List.replicate (g.n - i) 0).set i i = List.range (i + 1) ++ List.replicate (g.n - (i + 1)) 0 := by
      rw [List.set_append_right _ _ (by rw [List.length_range]; exact Nat.le_refl _), List.length_range, Nat.sub_self, show g.n - i = (g.n - (i + 1)) + 1 by omega, List.replicate_succ, List.set_cons_zero, List.range_succ]
      simp
    rw [← this]
    exact o5
  · have : i = g.n := by omega
    subst this
    rw [Nat.sub_self, List.replicate_zero, List.append_nil] at o3
    refine part_ok hR hN (k := c) (c := c) (nx := 0) (q := 0) (nq := nq + 1) (L := slR encN 1 T_int w26 (List.range g.n) :: L) (o3.front 3 [1, 2, 0] (by decide) (by decide)) hq rfl (fun h' H' => H') (fun x hx => List.mem_range.1 hx) (by rw [List.length_range]; exact hn) (by rw [List.length_replicate]) (by omega) (Nat.le_refl _) (by omega) (by omega) fun h5 o5 => ?_
    simp only [pNil_ptr, pField_ptr]
    refine o5.load 0 rfl rfl ?_
    exact hK w21 h5 (o5.front 3 [1] (by decide) (by decide))

theorem smap_nil {z : Value} (hK : K (.slice none 0 0) h) : callS Tryz.prog F_split_Map [.pointer none, z] h K := by
  refine callS_of (lk_split_Map _ _ ?_)
  unfold sh_split_Map sh_split_Map_k1
  simp only [pEq_ptr_nil, Option.isNone_none, ifV_true]
  exact hK

theorem clone_intZ {xs : List Int} {s : Value} (o : Own h0 h L) (H : Vw encI 1 h s xs) (hl : xs.length ≤ 2 ^ 40) (hK : ∀ v' h', Own h0 h' (slR encI 1 T_int v' xs :: L) → K v' h') : callS Tryz.prog F_slices_Clone_sl_int_int [s] h K :=
  callS_of (lk_slices_Clone_sl_int_int _ (clone_gen o H (fun _ => rfl) encI_plain rfl (by decide) (by omega) hK))

theorem sway_ok {xs : List Int} {nq : Nat} (o : Own h0 h L) (hq : L[nq]? = some N) (hN : netR N r g) (hR : g.Right) (Hl : Vw encI 1 h vl xs) (hl : xs.length ≤ 2 ^ 20)
    (hK : ∀ h', Own h0 h' L → K (.tuple #[I (wayG g (mksZ g.n xs)).1, I (wayG g (mksZ g.n xs)).2]) h') : callS Tryz.prog F_split_Way [ptr r, vl] h K := by
  refine callS_of (lk_split_Way _ _ ?_)
  unfold sh_split_Way
  refine (Own.start h).box fun n2 h1 o1 => ?_
  have o1 : Own h h1 [cellR n2 [ptr r] T_p_net_Net] := o1
  refine o1.load 0 rfl rfl ?_
  simp only [pEq_ptr_nil, Option.isNone_some, ifV_false]
  refine clone_intZ o1 (Hl.more o1.ext) (by omega) fun w h2 o2 => ?_
  refine deleteF_ok (bad := fun z => decide (¬ (0 ≤ z ∧ z < (g.n : Int)))) (p := 0) o2 rfl (by omega) (fun ys h' z K' o' hk => ?_) fun w' h3 o3 => ?_
  · refine callV_of (l := [I z, ptr n2]) rfl (lk_split_Way_1 _ _ ?_)
    unfold sh_split_Way_1
    have o' : Own h h' [slR encI 1 T_int w ys, cellR n2 [ptr r] T_p_net_Net] := o'
    rw [pBin_lss, ifV_dec]
    refine ⟨fun c => ?_, fun c => o'.load 1 rfl rfl (nodes_ok (hN _ ((o.more o'.ext).get nq hq)) ?_)⟩
    · rw [decide_eq_true (show ¬ (0 ≤ z ∧ z < (g.n : Int)) by omega)] at hk
      exact hk
    · rw [pBin_geq, show decide ((g.n : Int) ≤ z) = decide (¬ (0 ≤ z ∧ z < (g.n : Int))) by rw [decide_eq_decide]; omega]
      exact hk
  have ef : (xs.filter fun z => !decide (¬ (0 ≤ z ∧ z < (g.n : Int)))) = nI (mksZ g.n xs) := by
    rw [nI_mksZ]
    congr 1
    funext z
    rw [Bool.eq_iff_iff, Bool.not_eq_true', decide_eq_false_iff_not, decide_eq_true_eq]
    exact Decidable.not_not
  rw [ef] at o3
  have o3 : Own h h3 [slR encI 1 T_int w' (nI (mksZ g.n xs)), cellR n2 [ptr r] T_p_net_Net] := o3
  refine o3.load 1 rfl rfl ?_
  refine pBuild_ones (cs' := [ptr r, .slice none 0 0, I 0]) (fun p hp => by simp at hp; subst hp; rfl) rfl rfl ?_
  refine o3.box fun p h4 o4 => ?_
  have o4 : Own h h4 [cellR p [ptr r, .slice none 0 0, I 0] T_split_parter, slR encI 1 T_int w' (nI (mksZ g.n xs)), cellR n2 [ptr r] T_p_net_Net] := o4
  have hml : (mksZ g.n xs).length ≤ xs.length := by
    unfold mksZ
    rw [List.length_map]
    exact List.length_filter_le _ _
  refine pway_ok o4 0 rfl hR (fun h' x => hN _ ((o.more (o4.more x).ext).get nq hq)) (vw_nN (o4.vw 1 rfl)) (by omega) mksZ_lt fun h5 o5 _ => ?_
  simp only [pExt0, pExt1]
  exact hK h5 (o.more o5.ext)

end
end Go.Proofs.YtbacdjahpahcfaaGreatDoor

namespace Go.Proofs.YtbacdjahpahcfaaGreatDoor
open Go Go.Mh
set_option linter.unusedVariables false

section
variable {h0 h : Heap} {L : List Res} {K : Value → Heap → Prop} {g : G} {vb v : Value} {bs : List Int}

theorem made22_ok (o : Own h0 h L) (hR : g.Right) (H : RawV h v g) (hK : ∀ r N h', netR N r g → Own h0 h' (N :: L) → K (ptr r) h') : callS Tryz.prog F_milestonelaw22_made [v] h K := by
  obtain ⟨vx, vy, va, rfl, H⟩ := H
  refine callS_of (lk_milestonelaw22_made _ ?_)
  unfold sh_milestonelaw22_made
  refine (Own.start h).box fun b h1 o1 => o1.ldN 0 rfl rfl rfl ?_
  refine new_net_ok o1 hR ⟨vx, vy, va, rfl, H.more o1.ext⟩ fun r N h2 hN o2 => ?_
  simp only [pExt0, pExt1, pNe_iface_nil, ifV_false]
  exact hK r N h2 hN (o.frame (o2.sel [0] (by decide)))

end
end Go.Proofs.YtbacdjahpahcfaaGreatDoor

namespace Go.Proofs.YtbacdjahpahcfaaGreatDoor
open Go Go.Mh
set_option linter.unusedVariables false

section
variable {h : Heap} {K : Value → Heap → Prop}

/-- Rows that are alike. -/
theorem rows22_ok {α : Type} {enc : α → List Value} {e : α → Int} {xs : List α} {va vb : Value} (he : ∀ a, enc a = [I (e a)]) (Ha : Vw enc 1 h va xs) (Hb : Vw enc 1 h vb xs) (hl : xs.length < 2 ^ 40) (hK : K (.bool true) h) : callS Tryz.prog F_milestonelaw22_rows [va, vb] h K := by
  refine callS_of (lk_milestonelaw22_rows _ _ ?_)
  unfold sh_milestonelaw22_rows
  refine Ha.len (Hb.len ?_)
  rw [pBin_neq, bne_self_eq_false, ifV_false]
  refine LoopH_count xs.length (fun i x h' => x.1 = I i ∧ h' = h) ⟨rfl, rfl⟩ ?_
  rintro i ⟨x, ⟨⟩⟩ h' Z hi ⟨hx, rfl⟩ hZ
  dsimp only at hx hZ ⊢
  subst hx
  unfold sh_milestonelaw22_rows_L1
  refine Ha.len ?_
  rw [pBin_lss, ifV_dec]
  refine ⟨fun hlt => ?_, fun hge => hK⟩
  have hlt : i < xs.length := by omega
  refine Ha.at1 (e := fun a => I (e a)) he hlt (Hb.at1 (e := fun a => I (e a)) he hlt ?_)
  rw [pBin_neq, bne_self_eq_false, ifV_false, pBin_add, wI i (by omega)]
  exact hZ (I (i + 1 : Nat), ()) _ hlt ⟨rfl, rfl⟩

end
end Go.Proofs.YtbacdjahpahcfaaGreatDoor

namespace Go.Proofs.YtbacdjahpahcfaaGreatDoor
open Go Go.Mh
set_option linter.unusedVariables false

theorem gS_zm : mapZ gS 1 = [0, 0, 0, 0] ∧ mapZ gS 2 = [0, 0, 1, 1] ∧ mapZ gS 4 = [0, 1, 2, 3] := by decide +kernel
theorem gS_zw : wayG gS (mksZ gS.n [0, 1, 2, 3]) = (2, 22) := by decide +kernel

section
variable {h0 h : Heap} {L : List Res} {K : Value → Heap → Prop} {vb vxy : Value} {bs cs : List Int}

theorem eqT22 {a : Int} {A B : Prop} (h : A) : pBin .eql (I a) (I a) fun t => ifV t A B := by
  rw [pBin_eql, beq_self_eq_true, ifV_true]; exact h

theorem works22_ok (hK : ∀ h', Ext h h' → K (.bool true) h') : callS Tryz.prog F_milestonelaw22_works [] h K := by
  refine callS_of (lk_milestonelaw22_works ?_)
  unfold sh_milestonelaw22_works
  refine (Own.start h).build (enc := encI) (n := 1) [0, 10, 2, 11] rfl (sizesOk_of rfl) rfl fun w4 h1 o => ?_
  refine o.build (enc := encI) (n := 1) [0, 1, 9, 11] rfl (sizesOk_of rfl) rfl fun w5 h2 o => ?_
  refine pBuild_ones (cs' := [I gS.n, w4, w5, .slice none 0 0]) (fun p hp => by
    simp at hp
    rcases hp with rfl | rfl | rfl
    · rfl
    · exact (o.vw 1 rfl).one
    · exact (o.vw 0 rfl).one) rfl rfl ?_
  refine made22_ok o gS_right ⟨w4, w5, .slice none 0 0, rfl, o.vw 1 rfl, o.vw 0 rfl, .nil⟩ fun r N h3 hN o => ?_
  simp only [pEq_ptr_nil, Option.isNone_some, ifV_false]
  replace o := o.sel [0] (by decide)
  refine o.build (enc := encI) (n := 1) [0, 1, 2, 3] rfl (sizesOk_of rfl) rfl fun w2 h4 o => ?_
  refine sway_ok (nq := 1) (xs := [0, 1, 2, 3]) o rfl hN gS_right (o.vw 0 rfl) (by decide) fun h5 o => ?_
  rw [gS_zw]
  simp only [pExt0, pExt1]
  refine eqT22 (eqT22 ?_)
  obtain ⟨m1, m2, m4⟩ := gS_zm
  refine smap_ok (nq := 1) (z := 1) o rfl hN gS_right (by decide) fun w h6 o => ?_
  rw [m1] at o
  refine o.build (enc := encI) (n := 1) [0, 0, 0, 0] rfl (sizesOk_of rfl) rfl fun w2 h7 o => ?_
  refine rows22_ok (e := fun x => x) (fun _ => rfl) (o.vw 1 rfl) (o.vw 0 rfl) (by decide) ?_
  rw [ifV_true]
  refine smap_ok (nq := 3) (z := 2) o rfl hN gS_right (by decide) fun w h6 o => ?_
  rw [m2] at o
  refine o.build (enc := encI) (n := 1) [0, 0, 1, 1] rfl (sizesOk_of rfl) rfl fun w2 h7 o => ?_
  refine rows22_ok (e := fun x => x) (fun _ => rfl) (o.vw 1 rfl) (o.vw 0 rfl) (by decide) ?_
  rw [ifV_true]
  refine smap_ok (nq := 5) (z := 4) o rfl hN gS_right (by decide) fun w h6 o => ?_
  rw [m4] at o
  refine o.build (enc := encI) (n := 1) [0, 1, 2, 3] rfl (sizesOk_of rfl) rfl fun w2 h7 o => ?_
  exact rows22_ok (e := fun x => x) (fun _ => rfl) (o.vw 1 rfl) (o.vw 0 rfl) (by decide) (hK _ o.ext)

theorem agg4_plain22 {g : G} {vx vy va : Value} {n : Int} {h' : Heap} {i j k : Nat} {L : List Res} (o : Own h0 h' L) (hi : L[i]? = some (xR vx g.X)) (hj : L[j]? = some (xR vy g.Y)) (hk : L[k]? = some (aR va g.arcs)) : ∀ u ∈ [I n, vx, vy, va], Mh.plainCell u = true := by
  intro u hu
  simp at hu
  rcases hu with rfl | rfl | rfl | rfl
  · rfl
  · exact (o.vw i hi).plain
  · exact (o.vw j hj).plain
  · exact (o.vw k hk).plain

/-- A graph drawn, with other coordinates. -/
theorem drawn22_ok (H : Vw encU8 1 h vb bs) (Hx : Vw (encK .i32) 1 h vxy cs) (hcr : ∀ x ∈ cs, -2147483648 ≤ x ∧ x ≤ 2147483647) (hK : ∀ (g : G) vx vy va h', Few g → Own h h' [xR vx g.X, xR vy g.Y, aR va g.arcs] → K (.agg #[I g.n, vx, vy, va]) h') : callS Tryz.prog F_milestonelaw22_drawn [vb, vxy] h K := by
  refine callS_of (lk_milestonelaw22_drawn _ _ ?_)
  unfold sh_milestonelaw22_drawn
  refine (Own.start h).box fun t4 h1 o1 => H.len ?_
  have e : (if (80 : Int) < bs.length then 80 else (bs.length : Int)) = ((min bs.length 80 : Nat) : Int) := by split <;> omega
  rw [pMin_int, e]
  refine H.sub (a := 0) (j := min bs.length 80) encU8_len rfl rfl (by omega) (by omega) fun vb' hb => ⟨sizesOk_of (by obtain ⟨b, c, e⟩ := hb.isSl; subst e; rfl), ?_⟩
  refine o1.box fun d h2 o2 => ?_
  have o3 : Own h h2 (dR d vb' 0 :: [cellR t4 [I 0, sl0, sl0, sl0] T_api_Raw]) := by obtain ⟨b, c, e⟩ := hb.isSl; subst e; exact o2
  refine raw_ok o3 hb fun g vx vy va a' h4 hg o4 => ?_
  refine o4.box fun g6 h5 o5 => o5.st (cs' := [I g.n, vx, vy, va]) 0 rfl rfl rfl rfl rfl (agg4_plain22 o5 (i := 1) (j := 2) (k := 3) rfl rfl rfl) fun h6 o6 => ?_
  have hR := hg.toRight
  have hpos := hR.pos
  have hfew := hg.few
  have o7 : Own h h6 [cellR g6 [I g.n, vx, vy, va] T_api_Raw, xR vx g.X, xR vy g.Y, aR va g.arcs, cellR t4 [I 0, sl0, sl0, sl0] T_api_Raw] := o6.sel [0, 1, 2, 3, 5] (by decide)
  clear o6 o5 o4 o3 o2 o1
  have fin : ∀ (X Y : List Int) (h' : Heap), X.length = g.n → Y.length = g.n → (∀ c ∈ X, -2147483648 ≤ c ∧ c ≤ 2147483647) → (∀ c ∈ Y, -2147483648 ≤ c ∧ c ≤ 2147483647) → Own h h' [cellR g6 [I g.n, vx, vy, va] T_api_Raw, xR vx X, xR vy Y, aR va g.arcs, cellR t4 [I 0, sl0, sl0, sl0] T_api_Raw] → sh_milestonelaw22_drawn_k3 Tryz.prog (ptr g6) (ptr t4) K h' := by
    intro X Y h' hX hY rX rY o
    unfold sh_milestonelaw22_drawn_k3
    refine o.ldN (cs' := [I g.n, vx, vy, va]) 0 rfl rfl rfl ?_
    refine o.st (cs' := [I g.n, vx, vy, va]) 4 rfl rfl rfl rfl rfl (agg4_plain22 (g := ⟨g.n, X, Y, g.arcs⟩) o (i := 1) (j := 2) (k := 3) rfl rfl rfl) fun h8 o8 => o8.ldN (cs' := [I g.n, vx, vy, va]) 4 rfl rfl rfl ?_
    exact hK ⟨g.n, X, Y, g.arcs⟩ vx vy va h8 ⟨⟨hR.pos, hR.most, hX, hY, rX, rY, hR.many, hR.ends⟩, hg.few, hg.short⟩ (o8.sel [1, 2, 3] (by decide))
  refine LoopH_count (min cs.length (2 * g.n)) (fun i x h' => x.1 = I i ∧ ∃ X Y : List Int, X.length = g.n ∧ Y.length = g.n ∧ (∀ c ∈ X, -2147483648 ≤ c ∧ c ≤ 2147483647) ∧ (∀ c ∈ Y, -2147483648 ≤ c ∧ c ≤ 2147483647) ∧ Own h h' [cellR g6 [I g.n, vx, vy, va] T_api_Raw, xR vx X, xR vy Y, aR va g.arcs, cellR t4 [I 0, sl0, sl0, sl0] T_api_Raw]) ⟨rfl, g.X, g.Y, hR.x, hR.y, hR.xr, hR.yr, o7⟩ ?_
  clear o7
  rintro i ⟨x, ⟨⟩⟩ h7 Z hi ⟨hx, X, Y, hX, hY, rX, rY, o⟩ hZ
  dsimp only at hx hZ ⊢
  subst hx
  unfold sh_milestonelaw22_drawn_L1
  refine (Hx.more o.ext).len ?_
  rw [pBin_lss, ifV_dec]
  refine ⟨fun c1 => ?_, fun c1 => fin X Y h7 hX hY rX rY o⟩
  simp only [pField_ptr]
  refine o.load 0 rfl rfl ?_
  rw [pBin_mul, w64 (by omega) (by omega), pBin_lss, ifV_dec]
  refine ⟨fun c2 => ?_, fun c2 => fin X Y h7 hX hY rX rY o⟩
  have hil : i < cs.length := by omega
  have hrx := hcr _ (List.getElem_mem hil)
  have q2 : ((i : Int)).tdiv 2 = ((i / 2 : Nat) : Int) := tdivN (b := 2)
  have m2 : ((i : Int)).tmod 2 = ((i % 2 : Nat) : Int) := rfl
  have hset : ∀ {X' : List Int}, (∀ c ∈ X', -2147483648 ≤ c ∧ c ≤ 2147483647) → ∀ c ∈ X'.set (i / 2) cs[i], -2147483648 ≤ c ∧ c ≤ 2147483647 := fun h c hc => by
    rcases List.mem_or_eq_of_mem_set hc with hc | rfl
    · exact h c hc
    · exact hrx
  have k2 : ∀ (X Y : List Int) (h' : Heap), X.length = g.n → Y.length = g.n → (∀ c ∈ X, -2147483648 ≤ c ∧ c ≤ 2147483647) → (∀ c ∈ Y, -2147483648 ≤ c ∧ c ≤ 2147483647) → Own h h' [cellR g6 [I g.n, vx, vy, va] T_api_Raw, xR vx X, xR vy Y, aR va g.arcs, cellR t4 [I 0, sl0, sl0, sl0] T_api_Raw] → sh_milestonelaw22_drawn_k2 Tryz.prog (I i) (fun a0 hz => Z (a0, ()) hz) h' := by
    intro X Y h' hX hY rX rY o'
    unfold sh_milestonelaw22_drawn_k2
    rw [pBin_add, wI i (by omega)]
    exact hZ (_, ()) h' (by omega) ⟨rfl, X, Y, hX, hY, rX, rY, o'⟩
  rw [pBin_rem]
  refine ⟨by decide, ?_⟩
  rw [m2, pBin_eql, ifV_beq]
  refine ⟨fun c3 => ?_, fun c3 => ?_⟩
  · refine o.load 0 rfl rfl ?_
    rw [pBin_quo]
    refine ⟨by decide, ?_⟩
    rw [q2, w64 (by omega) (by omega)]
    refine (Hx.more o.ext).at1 (e := fun x : Int => .int .i32 x) (fun _ => rfl) hil ?_
    rw [pConv_int, w64 (by omega) (by omega)]
    refine o.setI 1 rfl (by omega) fun h8 o8 => ?_
    exact k2 _ Y h8 (by rw [List.length_set]; exact hX) hY (hset rX) rY o8
  · refine o.load 0 rfl rfl ?_
    rw [pBin_quo]
    refine ⟨by decide, ?_⟩
    rw [q2, w64 (by omega) (by omega)]
    refine (Hx.more o.ext).at1 (e := fun x : Int => .int .i32 x) (fun _ => rfl) hil ?_
    rw [pConv_int, w64 (by omega) (by omega)]
    refine o.setI 2 rfl (by omega) fun h8 o8 => ?_
    exact k2 X _ h8 hX (by rw [List.length_set]; exact hY) rX (hset rY) o8

end
end Go.Proofs.YtbacdjahpahcfaaGreatDoor

namespace Go.Proofs.YtbacdjahpahcfaaGreatDoor
open Go Go.Mh
set_option linter.unusedVariables false

theorem gS3_k : wayG gS3 (mksZ gS3.n [0, 1, 2]) = (0, 0) ∧ mapZ gS3 2 = [0, 1, 1] ∧ mapZ gS3 5 = [1, 3, 4] := by decide +kernel
theorem gS4_k : wayG gS4 (mksZ gS4.n [0, 1, 2, 3]) = (2, 8589934590) ∧ wayG gS4 (mksZ gS4.n [-1, 3, 4]) = (0, 0) := by decide +kernel

section
variable {h : Heap} {K : Value → Heap → Prop}

theorem splitKnown_ok (hK : ∀ h', Ext h h' → K (.bool true) h') : CallsH Tryz.prog F_milestonelaw22_SplitKnown #[] h K := by
  refine lk_milestonelaw22_SplitKnown ?_
  unfold sh_milestonelaw22_SplitKnown
  obtain ⟨a1, a2, a3⟩ := gS3_k
  obtain ⟨b1, b2⟩ := gS4_k
  refine (Own.start h).build (enc := encI) (n := 1) [5, 5, 5] rfl (sizesOk_of rfl) rfl fun w4 h1 o => ?_
  refine o.build (enc := encI) (n := 1) [7, 7, 7] rfl (sizesOk_of rfl) rfl fun w5 h2 o => ?_
  refine pBuild_ones (cs' := [I gS3.n, w4, w5, .slice none 0 0]) (fun p hp => by
    simp at hp
    rcases hp with rfl | rfl | rfl
    · rfl
    · exact (o.vw 1 rfl).one
    · exact (o.vw 0 rfl).one) rfl rfl ?_
  refine made22_ok o gS3_right ⟨w4, w5, .slice none 0 0, rfl, o.vw 1 rfl, o.vw 0 rfl, .nil⟩ fun r N h3 hN o => ?_
  refine o.build (enc := encI) (n := 1) [2147483647, -2147483648, 2147483647, -2147483648] rfl (sizesOk_of rfl) rfl fun w4 h1 o => ?_
  refine o.build (enc := encI) (n := 1) [2147483647, -2147483648, -2147483648, 2147483647] rfl (sizesOk_of rfl) rfl fun w5 h2 o => ?_
  refine pBuild_ones (cs' := [I gS4.n, w4, w5, .slice none 0 0]) (fun p hp => by
    simp at hp
    rcases hp with rfl | rfl | rfl
    · rfl
    · exact (o.vw 1 rfl).one
    · exact (o.vw 0 rfl).one) rfl rfl ?_
  refine made22_ok o gS4_right ⟨w4, w5, .slice none 0 0, rfl, o.vw 1 rfl, o.vw 0 rfl, .nil⟩ fun rm M h3 hM o => ?_
  simp only [pEq_ptr_nil, Option.isNone_some, ifV_false]
  replace o := o.sel [3, 0] (by decide)
  refine o.build (enc := encI) (n := 1) [0, 1, 2] rfl (sizesOk_of rfl) rfl fun w2 h4 o => ?_
  refine sway_ok (nq := 1) (xs := [0, 1, 2]) o rfl hN gS3_right (o.vw 0 rfl) (by decide) fun h5 o => ?_
  rw [a1]
  simp only [pExt0, pExt1]
  replace o := o.tail
  refine o.build (enc := encI) (n := 1) [0, 1, 2, 3] rfl (sizesOk_of rfl) rfl fun w2 h4 o => ?_
  refine sway_ok (nq := 2) (xs := [0, 1, 2, 3]) o rfl hM gS4_right (o.vw 0 rfl) (by decide) fun h5 o => ?_
  rw [b1]
  simp only [pExt0, pExt1]
  replace o := o.tail
  refine o.build (enc := encI) (n := 1) [-1, 3, 4] rfl (sizesOk_of rfl) rfl fun w2 h4 o => ?_
  refine sway_ok (nq := 2) (xs := [-1, 3, 4]) o rfl hM gS4_right (o.vw 0 rfl) (by decide) fun h5 o => ?_
  rw [b2]
  simp only [pExt0, pExt1]
  replace o := o.tail
  refine works22_ok fun h6 x6 => ?_
  rw [ifV_true]
  replace o := o.more x6
  refine eqT22 (eqT22 ?_)
  refine smap_ok (nq := 0) (z := 2) o rfl hN gS3_right (by decide) fun w h6 o => ?_
  rw [a2] at o
  refine o.build (enc := encI) (n := 1) [0, 1, 1] rfl (sizesOk_of rfl) rfl fun w2 h7 o => ?_
  refine rows22_ok (e := fun x => x) (fun _ => rfl) (o.vw 1 rfl) (o.vw 0 rfl) (by decide) ?_
  rw [ifV_true]
  replace o := o.tail.tail
  refine smap_ok (nq := 0) (z := 5) o rfl hN gS3_right (by decide) fun w h6 o => ?_
  rw [a3] at o
  refine o.build (enc := encI) (n := 1) [1, 3, 4] rfl (sizesOk_of rfl) rfl fun w2 h7 o => ?_
  refine rows22_ok (e := fun x => x) (fun _ => rfl) (o.vw 1 rfl) (o.vw 0 rfl) (by decide) ?_
  rw [ifV_true]
  replace o := o.tail.tail
  refine eqT22 (eqT22 (eqT22 (eqT22 ?_)))
  have m0 : mapZ gS3 0 = [] := rfl
  have m1 : mapZ gS3 257 = [] := rfl
  have m2 : mapZ gS3 (-5) = [] := rfl
  have m3 : (mapZ gS3 256).length = 3 := by unfold mapZ; rw [if_pos (by decide), mapG_len]; rfl
  refine smap_ok (nq := 0) (z := 0) o rfl hN gS3_right (by decide) fun w h6 o => ?_
  rw [m0] at o
  refine (o.vw 0 rfl).len (eqT22 ?_)
  replace o := o.tail
  refine smap_ok (nq := 0) (z := 257) o rfl hN gS3_right (by decide) fun w h6 o => ?_
  rw [m1] at o
  refine (o.vw 0 rfl).len (eqT22 ?_)
  replace o := o.tail
  refine smap_ok (nq := 0) (z := 256) o rfl hN gS3_right (by decide) fun w h6 o => ?_
  refine (o.vw 0 rfl).len ?_
  rw [m3]
  refine eqT22 ?_
  replace o := o.tail
  refine smap_nil ((Vw.nil (enc := encI) (n := 1) (h := #[])).len (eqT22 ?_))
  refine smap_ok (nq := 0) (z := -5) o rfl hN gS3_right (by decide) fun w h6 o => ?_
  rw [m2] at o
  refine (o.vw 0 rfl).len ?_
  show pBin .eql (I 0) (I 0) _
  rw [pBin_eql, beq_self_eq_true]
  exact hK _ o.ext

end
end Go.Proofs.YtbacdjahpahcfaaGreatDoor
