/- Texts of the proofs of seat YtgefabaobhendaaGreatDoor, joined: ChA, ChB, ChC, LiA, DrA, DrB, NtA, NtB, NtC, NtD, TrA, TrB, TrC, Lw12, F12A, HpB. They have no conditions of their own. -/
import Derived.Test.YtgefabaobhendaaGreatDoorGa
import Derived.Test.YtgefabaobhendaaGreatDoorMc
import Derived.Tactics
import Derived.Tactics2
set_option linter.unusedVariables false
set_option linter.unusedSimpArgs false

namespace Go.Proofs.YtgefabaobhendaaGreatDoor
open Go Go.Mh

set_option maxRecDepth 100000 in
theorem check1_rest {h : Heap} {K : Exit → VEnv → List Nat → Heap → Prop} (hk : ∀ e, K .normal e [] h) : compile Tryz.prog 17 false (cR (Tryz.f56.body.getD .skip)) (annG (cR (Tryz.f56.body.getD .skip)) 0 []).1 [(1, .nilIface)] [] h K :=
  Eq.mpr (α := compile Tryz.prog 17 false (cR (Tryz.f56.body.getD .skip)) (annG (cR (Tryz.f56.body.getD .skip)) 0 []).1 [(1, .nilIface)] [] h K)
    (β := K .normal [(6, .bool false), (5, .nilIface), (1, .nilIface)] [] h) (by kernel_rfl) (hk _)

set_option maxRecDepth 100000 in
theorem check1_idle {v : Value} {h : Heap} {K : Heap → Prop} (hk : K h) : DeferS Tryz.prog F_graph_Check_1 #[v] h K := by
  refine ⟨by kernel_rfl, fun w hw => ?_⟩
  subst hw
  refine callsDIn_of_wpSIn Tryz.func56 rfl trivial fun c₀ cs hu => ?_
  apply wpSIn_seq
  generalize hQ : bodyPostS Tryz.prog _ c₀ cs _ = Q
  apply wpSIn_region
  simp [wpOpsSIn, go_sem, recoverD, hu, Tryz.ntmps56, Exit.thenS]
  have hr : ∀ (tm : Array Value), tm[1]? = some Value.nilIface → tm.size = 17 →
      Code.wpSIn Fence.wide 0 Tryz.prog (cR (Tryz.f56.body.getD .skip)) Q { tmps := tm, defers := [] } (c₀ :: cs) w := by
    intro tm h1 hs
    subst hQ
    refine wpSIn_of_wpIn rfl ?_
    refine compile_sound _ _ none _ [] w.heap (fun ex _ m h' => ex = .normal ∧ m = [] ∧ h' = w.heap) (check1_rest fun e => ⟨rfl, rfl, rfl⟩) (by kernel_rfl) [] _ w _ ?_ hs rfl rfl ?_
    · intro s v hv
      unfold Mh.look at hv
      split at hv
      · rename_i hb
        have := Nat.eq_of_beq_eq_true hb
        subst this
        rw [h1]; exact hv
      · cases hv
    · rintro ex e' m' a' w' hrl _ hd hsm _ _ ⟨rfl, rfl, hh⟩
      have hd0 : a'.defers = [] := hd
      refine ⟨hd0, .returning, ?_, .tuple #[], ?_, _, rfl, rfl, hsm, hh ▸ hk⟩
      · cases c₀; simp only at hu; subst hu; rfl
      · have hq : resQ Tryz.prog e' w'.heap Tryz.f56.results.toList (fun l => l = []) := by
          rw [Tryz.results56]; rfl
        obtain ⟨l, hl, rfl⟩ := results_sound hrl hq
        exact rdS_run hl w' rfl
  refine hr _ ?_ ?_
  · simp
  · simp

end Go.Proofs.YtgefabaobhendaaGreatDoor

namespace Go.Proofs.YtgefabaobhendaaGreatDoor
open Go Go.Mh
set_option linter.unusedVariables false

/-- A place: index, field, code, number, least, end. -/
structure Pl where
  i : Int
  f : Int
  c : Int
  n : Int
  l : Int
  e : Int
def encP (p : Pl) : List Value := [I p.i, I p.f, I p.c, I p.n, I p.l, I p.e]
theorem encP_len (p : Pl) : (encP p).length = 6 := rfl
theorem encP_plain (p : Pl) : ∀ u ∈ encP p, Mh.plainCell u = true := by
  intro u hu; simp [encP] at hu; rcases hu with rfl | rfl | rfl | rfl | rfl | rfl <;> rfl
def Pl.Ok (p : Pl) : Prop := p.l ≤ p.n ∧ p.n < p.e
def PlS (x : List Value) : Prop := ∃ p : Pl, x = [.agg (encP p).toArray] ∧ p.Ok

section
variable {h0 h : Heap} {L : List Res} {K : Value → Heap → Prop} {vs : Value} {ps : List Pl} {b : Nat}

theorem values_place (hl : ps.length < 2 ^ 40) : Iter Tryz.prog (.func (.func F_slices_Values_sl_graph_place_graph_place_1) #[] #[ptr b]) (fun h => h[b]? = some (.cells #[vs] T_sl_graph_place (0, 0)) ∧ Vw encP 6 h vs ps) ps.length
    (fun i hi => [.agg (encP ps[i]).toArray]) := by
  rintro yv h0 h Rs K J E ⟨l, rfl⟩ o j0 hQ hY hK
  refine callF_of (l := [yieldV l, ptr b]) rfl (lk_slices_Values_sl_graph_place_graph_place_1 _ _ ?_)
  unfold sh_slices_Values_sl_graph_place_graph_place_1
  obtain ⟨hb, hv⟩ := hQ _ _ _ j0 o
  have hc : hcell h ⟨b, 0, none⟩ = some vs := hcell_of hb rfl
  simp only [pLoad_ptr, hc]
  refine hv.len ?_
  refine LoopH_count ps.length (fun i x h' => x.1 = I i ∧ ∃ Rs', J i Rs' ∧ Own h0 h' Rs') ⟨rfl, Rs, j0, o⟩ ?_
  rintro i ⟨x, ⟨⟩⟩ h Z hi ⟨hx, Rs', hj, o⟩ hZ
  dsimp only at hx hZ ⊢
  subst hx
  unfold sh_slices_Values_sl_graph_place_graph_place_1_L1
  simp only [pBin_lss, ifV_dec]
  refine ⟨fun hlt => ?_, fun hge => ?_⟩
  · have hlt : i < ps.length := by omega
    obtain ⟨_, hv⟩ := hQ _ _ _ hj o
    refine hv.atN encP_len hlt ?_
    refine o.box fun v4 h1 o1 => o1.st 0 rfl rfl rfl rfl rfl (encP_plain _) fun h2 o2 => o2.ldN 0 rfl rfl rfl ?_
    refine hY i _ (i + 1) Rs' [] h2 _ ⟨⟨hlt, rfl⟩, rfl⟩ hj o2.tail.nilTail (fun Rs'' h'' hj' o' => ?_) fun Rs'' h'' he o' => ?_
    · rw [pUn_not, Bool.not_true, ifV_false, pBin_add, wI i (by omega)]
      exact hZ (I (i + 1 : Nat), ()) h'' hlt ⟨rfl, Rs'', hj', o'.toNil⟩
    · rw [pUn_not, Bool.not_false, ifV_true]
      exact hK _ _ (.inr he) o'.toNil
  · have : i = ps.length := by omega
    exact hK _ _ (.inl ⟨i, this, hj⟩) o


/-- What look asks of each phase. -/
def Tells (fv : Value) (Q : Heap → Prop) : Prop := IterS Tryz.prog fv Q PlS

theorem values_ok {h : Heap} {K : Value → Heap → Prop} {vs : Value} {ps : List Pl} (o : Own h0 h (slR encP 6 T_graph_place vs ps :: L)) (hl : ps.length < 2 ^ 40) (hok : ∀ p ∈ ps, p.Ok)
    (hK : ∀ fv Q (q : Res) h', Own h0 h' (q :: L) → (∀ h'', Own h0 h'' (q :: L) → Q h'') → Tells fv Q → K fv h') : callS Tryz.prog F_slices_Values_sl_graph_place_graph_place [vs] h K := by
  refine callS_of (lk_slices_Values_sl_graph_place_graph_place _ ?_)
  unfold sh_slices_Values_sl_graph_place_graph_place
  refine o.box fun b h1 o1 => hK _ _ (allR [cellR b vs.cells.toList T_sl_graph_place, slR encP 6 T_graph_place vs ps]) h1 (Own.pack (l := [cellR b vs.cells.toList T_sl_graph_place, slR encP 6 T_graph_place vs ps]) o1) (fun h'' o'' => o''.get 0 rfl) ?_
  refine ((values_place (b := b) (vs := vs) hl).toS (S := PlS) fun i hi => ⟨ps[i], rfl, hok _ (List.getElem_mem hi)⟩).need fun h hq => ?_
  obtain ⟨bl, H⟩ := hq (slR encP 6 T_graph_place vs ps) (by simp)
  have hc := hq (cellR b vs.cells.toList T_sl_graph_place) (by simp)
  have e : vs.cells = #[vs] := (Vw.one ⟨bl, H.view⟩)
  refine ⟨?_, bl, H.view⟩
  have hc' : h[b]? = some (.cells vs.cells.toList.toArray T_sl_graph_place (0, 0)) := hc
  rw [hc', e]

theorem one_ok {c n l e : Int} (o : Own h0 h L) (hok : l ≤ n ∧ n < e) (hK : ∀ fv Q (q : Res) h', Own h0 h' (q :: L) → (∀ h'', Own h0 h'' (q :: L) → Q h'') → Tells fv Q → K fv h') : callS Tryz.prog F_graph_one [I c, I n, I l, I e] h K := by
  refine callS_of (lk_graph_one _ _ _ _ ?_)
  unfold sh_graph_one
  refine ⟨sizesOk_of rfl, ?_⟩
  refine o.build (enc := encP) (n := 6) [⟨0, 0, c, n, l, e⟩] rfl (sizesOk_of rfl) rfl fun w h1 o1 => ?_
  exact values_ok o1 (by simp) (by simp [Pl.Ok]; exact hok) hK

theorem shapes_ok {g : G} {vx vy va : Value} (o : Own h0 h L) (hR : g.Right) (H : RawL h vx vy va g) (hK : ∀ fv Q (q : Res) h', Own h0 h' (q :: L) → (∀ h'', Own h0 h'' (q :: L) → Q h'') → Tells fv Q → K fv h') :
    callS Tryz.prog F_graph_shapes [.agg #[I g.n, vx, vy, va]] h K := by
  refine callS_of (lk_graph_shapes _ ?_)
  unfold sh_graph_shapes
  have hm := hR.most
  refine (Own.start h).box fun r h1 o1 => ?_
  simp only [pField_ptr]
  have H1 := H.more o1.ext
  refine o1.load 0 rfl rfl (o1.load 0 rfl rfl (H1.1.len ?_))
  have e1 : IntKind.i64.wrap ((g.n : Int) + 1) = (g.n : Int) + 1 := w64 (by omega) (by omega)
  simp only [pBin_add, e1]
  refine ⟨sizesOk_of rfl, o1.load 0 rfl rfl (H1.2.1.len ⟨sizesOk_of rfl, ?_⟩)⟩
  refine o1.build (enc := encP) (n := 6) [⟨0, 0, 6, g.X.length, g.n, g.n + 1⟩, ⟨0, 1, 6, g.Y.length, g.n, g.n + 1⟩] rfl (sizesOk_of rfl) rfl fun w h2 o2 => ?_
  refine values_ok (L := [] ++ L) (o.frame ((o2.sel [0] (by decide)))) (by simp) ?_ hK
  intro p hp
  simp at hp
  have hx := hR.x
  have hy := hR.y
  rcases hp with rfl | rfl <;> simp only [Pl.Ok] <;> omega

theorem nodes_iter {g : G} {vx vy va : Value} {r : Nat} (hR : g.Right) : Tells (.func (.func F_graph_nodes_1) #[] #[ptr r]) (fun h => h[r]? = some (.cells #[I g.n, vx, vy, va] T_api_Raw (0, 0)) ∧ RawL h vx vy va g) := by
  rintro yv h0 h Rs K J E ⟨l, rfl⟩ o j0 hQ hY hK
  refine callF_of (l := [yieldV l, ptr r]) rfl (lk_graph_nodes_1 _ _ ?_)
  unfold sh_graph_nodes_1
  obtain ⟨hb, hv⟩ := hQ _ _ _ j0 o
  have c1 : hcell h ⟨r, 1, none⟩ = some vx := hcell_of hb rfl
  have hm := hR.most
  have hx := hR.x
  have hy := hR.y
  simp only [pField_ptr, pLoad_ptr, Nat.zero_add, c1]
  refine hv.1.len ?_
  refine LoopH_count g.X.length (fun i x h' => x.1 = I i ∧ ∃ Rs', J () Rs' ∧ Own h0 h' Rs') ⟨rfl, Rs, j0, o⟩ ?_
  rintro i ⟨x, ⟨⟩⟩ h Z hi ⟨hx', Rs', hj, o⟩ hZ
  dsimp only at hx' hZ ⊢
  subst hx'
  unfold sh_graph_nodes_1_L1
  simp only [pBin_lss, ifV_dec]
  refine ⟨fun hlt => ?_, fun hge => hK _ _ (.inl ⟨(), trivial, hj⟩) o⟩
  have hlt : i < g.X.length := by omega
  have hlty : i < g.Y.length := by omega
  obtain ⟨hb, hv⟩ := hQ _ _ _ hj o
  have c1 : hcell h ⟨r, 1, none⟩ = some vx := hcell_of hb rfl
  have c2 : hcell h ⟨r, 2, none⟩ = some vy := hcell_of hb rfl
  simp only [pField_ptr, pLoad_ptr, Nat.zero_add, c1, c2]
  refine hv.1.atI hlt (hv.2.1.atI hlty ?_)
  refine o.build (enc := encI) (n := 1) [g.X[i], g.Y[i]] rfl (sizesOk_of rfl) rfl fun w h1 o1 => ?_
  refine (o1.vw 0 rfl).len ?_
  refine LoopH_count 2 (fun j x h' => x.1 = I j ∧ ∃ Rs', J () Rs' ∧ Own h0 h' (Rs' ++ [slR encI 1 T_int64 w [g.X[i], g.Y[i]]])) ⟨rfl, Rs', hj, o1.rot⟩ ?_
  rintro j ⟨x, ⟨⟩⟩ h2 Z2 hj2 ⟨hx', Rs2, hj', o2⟩ hZ2
  dsimp only at hx' hZ2 ⊢
  subst hx'
  unfold sh_graph_nodes_1_L2
  simp only [pBin_lss, ifV_dec]
  refine ⟨fun hlt2 => ?_, fun hge => ?_⟩
  · have hw : (Rs2 ++ [slR encI 1 T_int64 w [g.X[i], g.Y[i]]])[Rs2.length]? = some (slR encI 1 T_int64 w [g.X[i], g.Y[i]]) := by simp
    have hjl : j < [g.X[i], g.Y[i]].length := by simp at hlt2 ⊢; omega
    refine (o2.vw _ hw).atI hjl ⟨sizesOk_of rfl, ?_⟩
    have hr : -2147483648 ≤ [g.X[i], g.Y[i]][j] ∧ [g.X[i], g.Y[i]][j] < 2147483648 := by
      have h1 := hR.xr _ (List.getElem_mem hlt)
      have h2 := hR.yr _ (List.getElem_mem hlty)
      have : j = 0 ∨ j = 1 := by simp at hjl; omega
      rcases this with rfl | rfl
      · simp only [List.getElem_cons_zero]; omega
      · simp only [List.getElem_cons_succ, List.getElem_cons_zero]; omega
    refine hY () _ () Rs2 _ h2 _ ⟨⟨i, j, 7, [g.X[i], g.Y[i]][j], -2147483648, 2147483648⟩, rfl, hr⟩ hj' o2 (fun Rs'' h'' hj'' o' => ?_) fun Rs'' h'' he o' => ?_
    · rw [pUn_not, Bool.not_true, ifV_false, pBin_add, wI j (by omega)]
      exact hZ2 (I (j + 1 : Nat), ()) h'' (by simp at hlt2; omega) ⟨rfl, Rs'', hj'', o'⟩
    · rw [pUn_not, Bool.not_false, ifV_true]
      exact hK _ _ (.inr he) o'.left
  · rw [pBin_add, wI i (by omega)]
    exact hZ (I (i + 1 : Nat), ()) h2 hlt ⟨rfl, Rs2, hj', o2.left⟩


theorem arcs_iter {g : G} {vx vy va : Value} {r : Nat} (hR : g.Right) : Tells (.func (.func F_graph_arcs_1) #[] #[ptr r]) (fun h => h[r]? = some (.cells #[I g.n, vx, vy, va] T_api_Raw (0, 0)) ∧ RawL h vx vy va g) := by
  rintro yv h0 h Rs K J E ⟨l, rfl⟩ o j0 hQ hY hK
  refine callF_of (l := [yieldV l, ptr r]) rfl (lk_graph_arcs_1 _ _ ?_)
  unfold sh_graph_arcs_1
  obtain ⟨hb, hv⟩ := hQ _ _ _ j0 o
  have c0 : hcell h ⟨r, 0, none⟩ = some (I g.n) := hcell_of hb rfl
  have c3 : hcell h ⟨r, 3, none⟩ = some va := hcell_of hb rfl
  have hm := hR.most
  have hmany := hR.many
  simp only [pField_ptr, pLoad_ptr, Nat.zero_add, c0, c3]
  refine hv.2.2.len ?_
  refine LoopH_count g.arcs.length (fun i x h' => x.1 = I i ∧ ∃ Rs', J () Rs' ∧ Own h0 h' Rs') ⟨rfl, Rs, j0, o⟩ ?_
  rintro i ⟨x, ⟨⟩⟩ h Z hi ⟨hx', Rs', hj, o⟩ hZ
  dsimp only at hx' hZ ⊢
  subst hx'
  unfold sh_graph_arcs_1_L1
  simp only [pBin_lss, ifV_dec]
  refine ⟨fun hlt => ?_, fun hge => hK _ _ (.inl ⟨(), trivial, hj⟩) o⟩
  have hlt : i < g.arcs.length := by omega
  obtain ⟨hb, hv⟩ := hQ _ _ _ hj o
  refine hv.2.2.atN encA_len hlt ?_
  have he := hR.ends _ (List.getElem_mem hlt)
  generalize g.arcs[i] = a at he
  refine o.box fun a5 h1 o1 => o1.st 0 rfl rfl rfl rfl rfl (encA_plain _) fun h2 o2 => ?_
  simp only [pField_ptr]
  refine o2.load 0 rfl rfl ⟨sizesOk_of rfl, o2.load 0 rfl rfl ⟨sizesOk_of rfl, o2.load 0 rfl rfl ⟨sizesOk_of rfl, ?_⟩⟩⟩
  refine o2.build (enc := encP) (n := 6) [⟨i, 0, 9, a.f, 0, g.n⟩, ⟨i, 1, 9, a.t, 0, g.n⟩, ⟨i, 2, 10, a.w, 0, 2147483648⟩] (by kernel_rfl) (sizesOk_of (by kernel_rfl)) rfl fun w h3 o3 => ?_
  refine (o3.vw 0 rfl).len ?_
  obtain ⟨ps, hps⟩ : ∃ ps : List Pl, ps = [⟨i, 0, 9, a.f, 0, g.n⟩, ⟨i, 1, 9, a.t, 0, g.n⟩, ⟨i, 2, 10, a.w, 0, 2147483648⟩] := ⟨_, rfl⟩
  have hpl : ps.length = 3 := by subst hps; rfl
  have hok : ∀ p ∈ ps, p.Ok := by
    intro p hp; subst hps; simp at hp
    rcases hp with rfl | rfl | rfl <;> simp only [Pl.Ok] <;> omega
  rw [← hps] at o3 ⊢
  rw [hpl]
  refine LoopH_count 3 (fun j x h' => x.1 = I j ∧ ∃ Rs', J () Rs' ∧ Own h0 h' (Rs' ++ [slR encP 6 T_graph_place w ps])) ⟨rfl, Rs', hj, (o3.erase 1).rot⟩ ?_
  rintro j ⟨x, ⟨⟩⟩ h2 Z2 hj2 ⟨hx', Rs2, hj', o2⟩ hZ2
  dsimp only at hx' hZ2 ⊢
  subst hx'
  unfold sh_graph_arcs_1_L2
  simp only [pBin_lss, ifV_dec]
  refine ⟨fun hlt2 => ?_, fun hge => ?_⟩
  · have hw : (Rs2 ++ [slR encP 6 T_graph_place w ps])[Rs2.length]? = some (slR encP 6 T_graph_place w ps) := by simp
    have hjl : j < ps.length := by omega
    refine (o2.vw _ hw).atN encP_len hjl ?_
    refine o2.box fun p7 h3 o3 => o3.st 0 rfl rfl rfl rfl rfl (encP_plain _) fun h4 o4 => o4.ldN 0 rfl rfl rfl ?_
    refine hY () _ () Rs2 _ h4 _ ⟨ps[j], rfl, hok _ (List.getElem_mem hjl)⟩ hj' o4.tail (fun Rs'' h'' hj'' o' => ?_) fun Rs'' h'' he o' => ?_
    · rw [pUn_not, Bool.not_true, ifV_false, pBin_add, wI j (by omega)]
      exact hZ2 (I (j + 1 : Nat), ()) h'' (by omega) ⟨rfl, Rs'', hj'', o'⟩
    · rw [pUn_not, Bool.not_false, ifV_true]
      exact hK _ _ (.inr he) o'.left
  · rw [pBin_add, wI i (by omega)]
    exact hZ (I (i + 1 : Nat), ()) h2 hlt ⟨rfl, Rs2, hj', o2.left⟩

end
end Go.Proofs.YtgefabaobhendaaGreatDoor

namespace Go.Proofs.YtgefabaobhendaaGreatDoor
open Go Go.Mh
set_option linter.unusedVariables false

section
variable {h0 h : Heap} {L : List Res} {K : Value → Heap → Prop} {vs : Value} {ps : List Pl} {b : Nat}

/-- A phase in which all is right. -/
theorem look_range {fv : Value} {Q : Heap → Prop} {phase : Value} {Kn Kr : Heap → Prop} (hI : Tells fv Q) (o : Own h0 h L) (hQ : ∀ h', Own h0 h' L → Q h') (hK : ∀ h', Own h0 h' (markR h.size :: L) → Kn h') :
    rangeH Tryz.prog fv [19] (h.size + 1) (h.push (.deferred (some []))) (fun M x hh R => sh_graph_look_B2 Tryz.prog h phase M x.1 hh R) Kn Kr [] := by
  refine o.range hI (fun s x s' ⟨p, e, _⟩ => by rw [e]; rfl) (fun _ Rs => Rs = L) (fun _ => False) (fun _ _ => False) rfl (fun _ Rs' h' e o' => hQ h' (e ▸ o')) ?_ (fun _ h' Rs' _ e o' => hK h' (e ▸ o')) (fun _ _ h => h.elim) (fun _ _ _ h => h.elim)
  rintro M ⟨⟩ x ⟨⟩ Rs' Pr h' R ⟨p, rfl, hp⟩ rfl o' hN _ _
  dsimp only [valsOf]
  unfold sh_graph_look_B2
  refine o'.box fun p4 h1 o1 => o1.st 0 rfl rfl rfl rfl rfl (encP_plain _) fun h2 o2 => ?_
  refine o2.begin 1 rfl fun h3 o3 => ?_
  simp only [pField_ptr]
  refine o3.load 0 rfl rfl (o3.load 0 rfl rfl ?_)
  simp only [pBin_lss, ifV_dec]
  refine ⟨fun e => by have := hp.1; omega, fun _ => o3.load 0 rfl rfl (o3.load 0 rfl rfl ?_)⟩
  simp only [pBin_geq, ifV_dec]
  refine ⟨fun e => by have := hp.2; omega, fun _ => ?_⟩
  exact hN _ _ rfl o3.tail

set_option maxHeartbeats 2000000 in
theorem look_ok {g : G} {v : Value} (hR : g.Right) (H : RawV h v g) (hK : ∀ h', Ext h h' → K (.tuple #[]) h') : callS Tryz.prog F_graph_look [v] h K := by
  obtain ⟨vx, vy, va, rfl, H⟩ := H
  refine callS_of (lk_graph_look _ ?_)
  unfold sh_graph_look
  refine (Own.start h).box fun r h1 o1 => ?_
  refine o1.build (enc := encV) (n := 1) [.func (.func F_graph_look_1) #[] #[ptr r], .func (.func F_graph_look_2) #[] #[ptr r], .func (.func F_graph_look_3) #[] #[ptr r], .func (.func F_graph_look_4) #[] #[ptr r], .func (.func F_graph_look_5) #[] #[ptr r]] rfl (sizesOk_of rfl) rfl fun w h2 o2 => ?_
  refine (o2.vw 0 rfl).len ?_
  have hm := hR.most
  have hp1 := hR.pos
  refine LoopH_count 5 (fun i x h' => ∃ m, x.1 = m ∧ x.2.1 = I i ∧ Own h h' [marksR m, slR encV 1 T_func_iter_Seq_graph_place w [.func (.func F_graph_look_1) #[] #[ptr r], .func (.func F_graph_look_2) #[] #[ptr r], .func (.func F_graph_look_3) #[] #[ptr r], .func (.func F_graph_look_4) #[] #[ptr r], .func (.func F_graph_look_5) #[] #[ptr r]], cellR r [I g.n, vx, vy, va] T_api_Raw])
    ⟨[], rfl, rfl, o2.noMarks⟩ ?_
  clear o1 o2
  rintro i ⟨m, x, ⟨⟩⟩ h2 Z hi ⟨m', hm', hx, o⟩ hZ
  dsimp only at hx hm' hZ ⊢
  subst hx
  obtain rfl := hm'.symm
  unfold sh_graph_look_L1
  simp only [pBin_lss, ifV_dec]
  refine ⟨fun hlt => ?_, fun hge => o.take 0 rfl fun h' o' => hK h' o'.ext⟩
  have hlt : i < 5 := by simp at hlt; omega
  have rest : ∀ {t16 : Value}, (∀ {h3 : Heap} {phase : Nat} {L : List Res} {K : Value → Heap → Prop}, Own h h3 (L ++ [cellR r [I g.n, vx, vy, va] T_api_Raw]) → (∀ fv Q (q : Res) h', Own h h' (q :: (L ++ [cellR r [I g.n, vx, vy, va] T_api_Raw])) → (∀ h'', Own h h'' (q :: (L ++ [cellR r [I g.n, vx, vy, va] T_api_Raw])) → Q h'') → Tells fv Q → K fv h') → callV Tryz.prog t16 [].toArray h3 K) →
      pBox T_int (.int .i64 0) h2 fun phase2 h_4 => pStore 1 phase2 (I i) h_4 fun u h_5 => callV Tryz.prog t16 [].toArray h_5 fun t18 h_6 =>
        rangeH Tryz.prog t18 [19] (h_6.size + 1) (h_6.push (.deferred (some []))) (fun L x hh R => sh_graph_look_B2 Tryz.prog h_6 phase2 L x.1 hh R)
          (fun h_13 => pBin .add (I i) (.int .i64 1) fun t43 => Z (h_6.size :: m', (t43, ())) h_13) (fun h_14 => takeM (h_6.size :: m') h_14 fun h_15 => K (.tuple #[]) h_15) [] := by
    intro t16 hc
    refine o.box fun p h3 o3 => o3.st1 0 rfl rfl rfl rfl rfl fun h4 o4 => ?_
    refine hc (phase := p) (L := [cellR p [I i] T_int, marksR m', slR encV 1 T_func_iter_Seq_graph_place w [.func (.func F_graph_look_1) #[] #[ptr r], .func (.func F_graph_look_2) #[] #[ptr r], .func (.func F_graph_look_3) #[] #[ptr r], .func (.func F_graph_look_4) #[] #[ptr r], .func (.func F_graph_look_5) #[] #[ptr r]]]) o4 fun fv Q q h5 o5 hq ht => ?_
    refine look_range ht o5 hq fun h6 o6 => ?_
    rw [pBin_add, wI i (by omega)]
    have o7 := o6.addMark 2 rfl
    exact hZ (h5.size :: m', (I (i + 1 : Nat), ())) h6 hlt ⟨_, rfl, rfl, o7.tail.tail⟩
  have raw : ∀ {h3 : Heap} {L : List Res}, Own h h3 (L ++ [cellR r [I g.n, vx, vy, va] T_api_Raw]) → h3[r]? = some (.cells #[I g.n, vx, vy, va] T_api_Raw (0, 0)) ∧ RawL h3 vx vy va g := fun {h3 L} o3 =>
    ⟨o3.get (r := cellR r [I g.n, vx, vy, va] T_api_Raw) L.length (by simp), H.more o3.ext⟩
  have hcase : i = 0 ∨ i = 1 ∨ i = 2 ∨ i = 3 ∨ i = 4 := by omega
  rcases hcase with rfl | rfl | rfl | rfl | rfl
  · refine (o.vw 1 rfl).at1 (e := fun x => x) (fun _ => rfl) (by simp) ?_
    refine rest fun {h3 p L K} o3 hc => ?_
    show callV Tryz.prog (.func (.func F_graph_look_1) #[] #[ptr r]) _ _ _
    refine callV_of (l := [ptr r]) rfl (lk_graph_look_1 _ ?_)
    unfold sh_graph_look_1
    have c0 : hcell h3 ⟨r, 0, none⟩ = some (I g.n) := hcell_of (raw o3).1 rfl
    simp only [pField_ptr, pLoad_ptr, c0]
    exact one_ok o3 (by omega) hc
  · refine (o.vw 1 rfl).at1 (e := fun x => x) (fun _ => rfl) (by simp) ?_
    refine rest fun {h3 p L K} o3 hc => ?_
    show callV Tryz.prog (.func (.func F_graph_look_2) #[] #[ptr r]) _ _ _
    refine callV_of (l := [ptr r]) rfl (lk_graph_look_2 _ ?_)
    unfold sh_graph_look_2
    refine o3.ldN (cs := [I g.n, vx, vy, va]) (T := T_api_Raw) L.length (by simp) rfl rfl ?_
    exact shapes_ok o3 hR (raw o3).2 hc
  · refine (o.vw 1 rfl).at1 (e := fun x => x) (fun _ => rfl) (by simp) ?_
    refine rest fun {h3 p L K} o3 hc => ?_
    show callV Tryz.prog (.func (.func F_graph_look_3) #[] #[ptr r]) _ _ _
    refine callV_of (l := [ptr r]) rfl (lk_graph_look_3 _ ?_)
    unfold sh_graph_look_3
    refine o3.ldN (cs := [I g.n, vx, vy, va]) (T := T_api_Raw) L.length (by simp) rfl rfl ?_
    refine callS_of (lk_graph_nodes _ ?_)
    unfold sh_graph_nodes
    exact o3.box fun b h4 o4 => hc _ _ _ h4 o4 (fun h'' o'' => ⟨o''.get 0 rfl, H.more o''.ext⟩) (nodes_iter hR)
  · refine (o.vw 1 rfl).at1 (e := fun x => x) (fun _ => rfl) (by simp) ?_
    refine rest fun {h3 p L K} o3 hc => ?_
    show callV Tryz.prog (.func (.func F_graph_look_4) #[] #[ptr r]) _ _ _
    refine callV_of (l := [ptr r]) rfl (lk_graph_look_4 _ ?_)
    unfold sh_graph_look_4
    have c0 : hcell h3 ⟨r, 3, none⟩ = some va := hcell_of (raw o3).1 rfl
    have hmany := hR.many
    simp only [pField_ptr, pLoad_ptr, Nat.zero_add, c0]
    refine (raw o3).2.2.2.len ?_
    exact one_ok o3 (by omega) hc
  · refine (o.vw 1 rfl).at1 (e := fun x => x) (fun _ => rfl) (by simp) ?_
    refine rest fun {h3 p L K} o3 hc => ?_
    show callV Tryz.prog (.func (.func F_graph_look_5) #[] #[ptr r]) _ _ _
    refine callV_of (l := [ptr r]) rfl (lk_graph_look_5 _ ?_)
    unfold sh_graph_look_5
    refine o3.ldN (cs := [I g.n, vx, vy, va]) (T := T_api_Raw) L.length (by simp) rfl rfl ?_
    refine callS_of (lk_graph_arcs _ ?_)
    unfold sh_graph_arcs
    exact o3.box fun b h4 o4 => hc _ _ _ h4 o4 (fun h'' o'' => ⟨o''.get 0 rfl, H.more o''.ext⟩) (arcs_iter hR)

end
end Go.Proofs.YtgefabaobhendaaGreatDoor

namespace Go.Proofs.YtgefabaobhendaaGreatDoor
open Go Go.Mh
set_option linter.unusedVariables false

section
variable {α : Type} {enc : α → List Value} {n bytes : Nat} {T : TypeId} {h0 h : Heap} {L : List Res} {K : Value → Heap → Prop} {s : Value} {xs : List α} {z : List Value}

theorem clone_gen (o : Own h0 h L) (H : Vw enc n h s xs) (he : ∀ a, (enc a).length = n) (hp : ∀ a, ∀ u ∈ enc a, Mh.plainCell u = true) (hz : z.length = n) (hby : 0 < bytes) (hl : xs.length * bytes ≤ 2 ^ 47)
    (hK : ∀ v' h', Own h0 h' (slR enc n T v' xs :: L) → K v' h') :
    pEq false .slice s (.slice none 0 0) fun t4 => ifV t4 (K (.slice none 0 0) h) (pBuildSlice T (zerosL z 0) [] 0 h fun t5 h_1 => pAppend T n bytes z t5 s h_1 fun t7 h_2 => K t7 h_2) := by
  obtain ⟨b, c, rfl⟩ := H.isSl
  simp only [pEq_slice_nil]
  rw [ifV_bool]
  refine ⟨fun hb => ?_, fun _ => ?_⟩
  · obtain ⟨bl, b', c', e, _, H'⟩ := H
    injection e with e1 e2 e3
    subst e1
    cases b with
    | some a => cases hb
    | none =>
      rcases H' with ⟨rfl, _⟩ | ⟨_, _, _, _, _, e, _⟩
      · exact hK _ _ o.nilS
      · cases e
  · refine (Own.start h).build (enc := enc) (n := n) ([] : List α) (by simp [zerosL, spliceAll, row]) (sizesOk_of rfl) rfl fun w h1 o1 => ?_
    exact o1.app 0 rfl he hp hz (H.more o1.ext) hby (by simpa using hl) fun v' h' o' => hK v' h' (o.frame o')

theorem clone_int {xs : List Nat} (o : Own h0 h L) (H : Vw encN 1 h s xs) (hl : xs.length ≤ 2 ^ 40) (hK : ∀ v' h', Own h0 h' (slR encN 1 T_int v' xs :: L) → K v' h') : callS Tryz.prog F_slices_Clone_sl_int_int [s] h K :=
  callS_of (lk_slices_Clone_sl_int_int _ (clone_gen o H encN_len encN_plain rfl (by decide) (by omega) hK))
theorem clone_int64 {xs : List Int} (o : Own h0 h L) (H : Vw encI 1 h s xs) (hl : xs.length ≤ 2 ^ 40) (hK : ∀ v' h', Own h0 h' (slR encI 1 T_int64 v' xs :: L) → K v' h') : callS Tryz.prog F_slices_Clone_sl_int64_int64 [s] h K :=
  callS_of (lk_slices_Clone_sl_int64_int64 _ (clone_gen o H encI_len encI_plain rfl (by decide) (by omega) hK))
theorem clone_arc {xs : List A} (o : Own h0 h L) (H : Vw encA 3 h s xs) (hl : xs.length ≤ 2 ^ 40) (hK : ∀ v' h', Own h0 h' (slR encA 3 T_api_Arc v' xs :: L) → K v' h') : callS Tryz.prog F_slices_Clone_sl_api_Arc_api_Arc [s] h K :=
  callS_of (lk_slices_Clone_sl_api_Arc_api_Arc _ (clone_gen o H encA_len encA_plain rfl (by decide) (by omega) hK))

end

/-! ### slices.Repeat of one element -/

theorem and_low {n : Nat} (hn : n < 4294967296) : (BitVec.ofInt 64 (n : Int) &&& BitVec.ofInt 64 4294967295).toNat = n := by
  have e1 : (BitVec.ofInt 64 (n : Int)).toNat = n := by simp [BitVec.toNat_ofInt]; omega
  have e2 : (BitVec.ofInt 64 4294967295).toNat = 4294967295 := rfl
  rw [BitVec.toNat_and, e1, e2, show 4294967295 = 2 ^ 32 - 1 from rfl, Nat.and_two_pow_sub_one_eq_mod]
  omega

theorem u64w {n : Int} (h0 : 0 ≤ n) (h1 : n ≤ 18446744073709551615) : IntKind.u64.wrap n = n := wrap_in h0 h1

section
variable {k k' : IntKind} {a b : Int} {K : Value → Prop}
theorem pBin_and : pBin .and (.int k a) (.int k b) K ↔ K (.int k (k.wrap (BitVec.ofInt k.bits a &&& BitVec.ofInt k.bits b).toNat)) := by simp [pBin]
theorem pBin_shr : pBin .shr (.int k a) (.int k' b) K ↔ 0 ≤ b ∧ K (.int k (a.fdiv (2 ^ (min b.toNat k.bits)))) := by simp [pBin]
end

theorem mul1_ok {h : Heap} {K : Value → Heap → Prop} {n : Nat} (hn : n < 4294967296) (hK : K (.tuple #[.int .u64 0, .int .u64 n]) h) : callS Tryz.prog F_math_bits_Mul [.int .u64 1, .int .u64 n] h K := by
  refine callS_of (lk_math_bits_Mul _ _ ?_)
  unfold sh_math_bits_Mul
  refine callS_of (lk_math_bits_Mul64 _ _ ?_)
  unfold sh_math_bits_Mul64
  have ea : IntKind.u64.wrap ((BitVec.ofInt IntKind.u64.bits 1 &&& BitVec.ofInt IntKind.u64.bits 4294967295).toNat : Int) = 1 := rfl
  have wn : IntKind.u64.wrap (n : Int) = n := u64w (by omega) (by omega)
  have eb : IntKind.u64.wrap ((BitVec.ofInt IntKind.u64.bits (n : Int) &&& BitVec.ofInt IntKind.u64.bits 4294967295).toNat : Int) = n := by
    show IntKind.u64.wrap ((BitVec.ofInt 64 (n : Int) &&& BitVec.ofInt 64 4294967295).toNat : Int) = n
    rw [and_low hn, wn]
  have ec : ((n : Int).fdiv (2 ^ (min (32 : Int).toNat 64))) = 0 := by
    show (n : Int).fdiv 4294967296 = 0
    rw [Int.fdiv_eq_ediv_of_nonneg _ (by decide)]; omega
  have ed : ((0 : Int).fdiv (2 ^ (min (32 : Int).toNat 64))) = 0 := rfl
  have ee : ((1 : Int).fdiv (2 ^ (min (32 : Int).toNat 64))) = 0 := rfl
  have w0 : IntKind.u64.wrap 0 = 0 := rfl
  have e0 : IntKind.u64.wrap ((BitVec.ofInt IntKind.u64.bits 0 &&& BitVec.ofInt IntKind.u64.bits 4294967295).toNat : Int) = 0 := rfl
  have e64 : ∀ m, min m IntKind.u64.bits = min m 64 := fun _ => rfl
  have h32 : (0 : Int) ≤ 32 := by decide
  simp only [pBin_and, pBin_shr, pBin_mul, pBin_add, e64, ea, eb, ec, ed, ee, w0, e0, wn, h32, Int.one_mul, Int.mul_one, Int.zero_mul, Int.mul_zero, Int.add_zero, Int.zero_add, true_and, pExt0, pExt1]
  exact hK

/-- A list of one thing, so many times. -/
theorem repeat_gen {α : Type} {enc : α → List Value} {bytes : Nat} {T : TypeId} {h0 h : Heap} {L : List Res} {K : Value → Heap → Prop} {s : Value} {a : α} {z : List Value} {m : Nat} {k1 : Heap → Prop} {L2 : Value → (Value → Heap → Prop) → Value → Heap → (Value → Heap → Prop) → Prop}
    (o : Own h0 h L) (H : Vw enc 1 h s [a]) (he : ∀ a, (enc a).length = 1) (hp : ∀ a, ∀ u ∈ enc a, Mh.plainCell u = true) {a0 : α} (hz : z = enc a0) (hby : bytes ≤ 64) (hm : m ≤ 16777216)
    (hL2 : ∀ t30 n8 h_5 Z, L2 t30 K n8 h_5 Z = (pLen t30 fun t36 => pBin .lss n8 t36 fun t37 => ifV t37 (pSlice 1 t30 (some n8) none none fun t41 => pSlice 1 t30 none (some n8) none fun t44 => pCopy 1 t41 t44 h_5 fun t45 h_6 => pBin .add n8 t45 fun t46 => Z t46 h_6) (K t30 h_5)))
    (hK : ∀ v' h', Own h0 h' (slR enc 1 T v' (List.replicate m a) :: L) → K v' h') :
    pBin .lss (I m) (.int .i64 0) fun t10 => ifV t10 False (pLen s fun t14 => pConv .u64 t14 fun t15 => pConv .u64 (I m) fun t17 => callS Tryz.prog F_math_bits_Mul [t15, t17] h fun t18 h_1 =>
      pExt t18 0 fun t19 => pExt t18 1 fun t20 => pBin .gtr t19 (.int .u64 0) fun t22 => ifV t22 (k1 h_1) (pBin .gtr t20 (.int .u64 9223372036854775807) fun t25 => ifV t25 (k1 h_1) (pConv .i64 t20 fun t29 =>
        pMakeSlice T bytes z t29 t29 h_1 fun t30 h_3 => pCopy 1 t30 s h_3 fun t33 h_4 => LoopH (σ := Vals [8]) (fun x hh ZZ => L2 t30 K x.1 hh (fun a0 hz => ZZ (a0, ()) hz)) (t33, ()) h_4))) := by
  simp only [pBin_lss, ifV_dec]
  refine ⟨fun e => by omega, fun _ => H.len ?_⟩
  have e1 : IntKind.u64.wrap (([a].length : Nat) : Int) = 1 := rfl
  have e2 : IntKind.u64.wrap (m : Int) = m := u64w (by omega) (by omega)
  simp only [pConv_int, e1, e2]
  refine mul1_ok (by omega) ?_
  simp only [pExt0, pExt1, pBin_gtr, ifV_dec]
  refine ⟨fun e => by omega, fun _ => ⟨fun e => by omega, fun _ => ?_⟩⟩
  have e3 : IntKind.i64.wrap (m : Int) = m := w64 (by omega) (by omega)
  simp only [pConv_int, e3]
  refine (Own.start h).make (n := 1) hz (by
    have : bytes * m ≤ 64 * 16777216 := Nat.mul_le_mul hby hm
    omega) (by omega) fun w h1 o1 => ?_
  have own : ∀ {h' : Heap} {xs : List α}, Own h h' [slR enc 1 T w xs] → xs.length = m → 0 < m → ∃ bl cap, w = .slice (some ⟨bl, 0, none⟩) m cap ∧ m ≤ cap ∧ SlR enc 1 T h' w bl xs ∧ blkOf w bl := by
    intro h' xs o' hl h0
    obtain ⟨bl, H⟩ := o'.get 0 rfl
    obtain ⟨cap, rest, e, hb, hr, hle⟩ := H.full (by omega)
    exact ⟨bl, cap, by rw [e, hl], by omega, H, by rw [e]; rfl⟩
  have loop : ∀ {h' : Heap} {k : Nat}, k ≤ m → (0 < m → 0 < k) → Own h h' [slR enc 1 T w (List.replicate k a ++ List.replicate (m - k) a0)] →
      LoopH (σ := Vals [8]) (fun x hh ZZ => L2 w K x.1 hh (fun a0 hz => ZZ (a0, ()) hz)) (I k, ()) h' := by
    intro h' k hk hk0 o'
    refine LoopH_intro (fun x h' => ∃ k : Nat, x.1 = I k ∧ k ≤ m ∧ (0 < m → 0 < k) ∧ Own h h' [slR enc 1 T w (List.replicate k a ++ List.replicate (m - k) a0)])
      (fun x _ => match x.1 with | .int _ j => ((m : Int) - j).toNat | _ => 0) ⟨k, rfl, hk, hk0, o'⟩ ?_
    clear hk hk0 o' k h'
    rintro ⟨x, ⟨⟩⟩ h' Z ⟨k, hx, hk, hk0, o'⟩ hZ
    dsimp only at hx hZ ⊢
    subst hx
    rw [hL2]
    refine (o'.vw 0 rfl).len ?_
    have hl : (List.replicate k a ++ List.replicate (m - k) a0).length = m := by simp; omega
    rw [hl]
    simp only [pBin_lss, ifV_dec]
    refine ⟨fun hlt => ?_, fun hge => ?_⟩
    · have hlt : k < m := by omega
      obtain ⟨bl, cap, e, hcap, H, hbl⟩ := own o' hl (by omega)
      have hv := o'.vw 0 rfl
      subst e
      have hne : ¬ cap = k := by omega
      refine ⟨by simp, by omega, by omega, by omega, Int.le_refl _, ?_⟩
      refine ⟨by simp, by omega, by omega, by omega, Int.le_refl _, ?_⟩
      have hmn : Nat.min ((k : Int).toNat - ((0 : Nat) : Int).toNat) ((m : Int).toNat - (k : Int).toNat) = min k (m - k) := by simp
      have hc : cellsOfSl h' 1 (min k (m - k)) (some ⟨bl, 0, none⟩) = some (row enc (List.replicate (min k (m - k)) a)) := by
        obtain ⟨base, c, e, hc⟩ := hv.cells he
        injection e with e1 _ _
        subst e1
        simp only [cellsOfSl] at hc ⊢
        obtain ⟨cap', rest, _, hb, _⟩ := H.full (by omega)
        have hrl := row_length he (List.replicate k a ++ List.replicate (m - k) a0)
        rw [hl] at hrl
        rw [cellsAt_of (i := 0) hb _ 0 (by rw [List.length_append, hrl]; omega), List.drop_zero, List.take_append_of_le_length (by rw [hrl]; omega), row_take he, List.take_append_of_le_length (by simp; omega), List.take_replicate, show min (min k (m - k)) k = min k (m - k) by omega]
      have hbase1 : slBase 1 (k : Int).toNat (cap : Int).toNat (some ⟨bl, 0, none⟩) = some ⟨bl, k * 1, none⟩ := by simp [slBase, hne]
      have hbase0 : slBase 1 ((0 : Nat) : Int).toNat (cap : Int).toNat (some ⟨bl, 0, none⟩) = some ⟨bl, 0, none⟩ := by simp [slBase]
      rw [hbase1]
      dsimp only
      rw [hbase0]
      unfold pCopy
      simp only [hmn, hc]
      refine o'.storeRow 0 rfl he hp H hbl (j := k) (by simp; omega) fun h2 o2 => ?_
      have e4 : IntKind.i64.wrap ((k : Int) + ((min k (m - k) : Nat) : Int)) = ((k + min k (m - k) : Nat) : Int) := by rw [w64 (by omega) (by omega)]; omega
      rw [pBin_add, e4]
      refine hZ (I (k + min k (m - k) : Nat), ()) h2 ⟨_, rfl, by omega, fun _ => by omega, ?_⟩ (by dsimp only; omega)
      have ex : (List.replicate k a ++ List.replicate (m - k) a0).take k ++ List.replicate (min k (m - k)) a ++ (List.replicate k a ++ List.replicate (m - k) a0).drop (k + (List.replicate (min k (m - k)) a).length) =
          List.replicate (k + min k (m - k)) a ++ List.replicate (m - (k + min k (m - k))) a0 := by
        rw [List.take_left' (by simp), List.length_replicate, ← List.drop_drop, List.drop_left' (by simp), List.drop_replicate, List.replicate_append_replicate, Nat.sub_sub]
      rw [ex] at o2
      exact o2
    · have : k = m := by omega
      subst this
      rw [Nat.sub_self, List.replicate_zero, List.append_nil] at o'
      exact hK _ _ (o.frame o')
  have hs := H.more o1.ext
  obtain ⟨xb, xc, rfl, hx⟩ := hs.cells he
  by_cases h0 : m = 0
  · subst h0
    obtain ⟨b, c, e⟩ := (o1.vw 0 rfl).isSl
    have hc : cellsOfSl h1 1 0 xb = some [] := by
      simp only [List.length_singleton] at hx
      cases xb with
      | none => rfl
      | some q =>
        obtain ⟨qb, qo, qs⟩ := q
        cases qs with
        | none => simp [cellsOfSl, cellsAt]
        | some _ => cases hx
    have hfin : LoopH (σ := Vals [8]) (fun x hh ZZ => L2 w K x.1 hh (fun a0 hz => ZZ (a0, ()) hz)) (I (0 : Nat), ()) h1 := loop (Nat.le_refl _) (fun h => absurd h (Nat.lt_irrefl _)) o1
    obtain ⟨bl, Hs⟩ := o1.get 0 rfl
    subst e
    unfold pCopy
    have hmn : Nat.min [a].length (List.replicate 0 a0).length = 0 := by simp
    simp only [hmn, hc]
    rcases Hs with ⟨e, _⟩ | ⟨cap, rest, e, _⟩
    · injection e with e1 _ _
      subst e1
      exact hfin
    · injection e with e1 _ _
      subst e1
      exact hfin
  · obtain ⟨bl, cap, e, hcap, Hw, hbl⟩ := own o1 (by simp) (by omega)
    have hmn : Nat.min [a].length m = 1 := Nat.min_eq_left (by simp; omega)
    have hx1 : cellsOfSl h1 1 1 xb = some (row enc [a]) := hx
    have hst := o1.storeRow (KP := fun h2 => LoopH (σ := Vals [8]) (fun x hh ZZ => L2 w K x.1 hh (fun a0 hz => ZZ (a0, ()) hz)) (I (1 : Nat), ()) h2) 0 rfl he hp Hw hbl (j := 0) (ys := [a]) (by simp; omega) fun h2 o2 => by
      refine loop (by omega) (fun _ => by omega) ?_
      have ex : (List.replicate m a0).take 0 ++ [a] ++ (List.replicate m a0).drop (0 + [a].length) = List.replicate 1 a ++ List.replicate (m - 1) a0 := by simp
      rw [ex] at o2
      exact o2
    rw [Nat.zero_mul] at hst
    clear loop own
    subst e
    unfold pCopy
    simp only [hmn, hx1]
    exact hst

theorem repeat_int {h0 h : Heap} {L : List Res} {K : Value → Heap → Prop} {s : Value} {a : Int} {m : Nat} (o : Own h0 h L) (H : Vw encI 1 h s [a]) (hm : m ≤ 16777216) (hK : ∀ v' h', Own h0 h' (slR encI 1 T_int v' (List.replicate m a) :: L) → K v' h') : callS Tryz.prog F_slices_Repeat_sl_int_int [s, I m] h K := by
  refine callS_of (lk_slices_Repeat_sl_int_int _ _ ?_)
  unfold sh_slices_Repeat_sl_int_int
  exact repeat_gen (a0 := (0 : Int)) (L2 := fun t K n8 h5 Z => sh_slices_Repeat_sl_int_int_L2 Tryz.prog t K n8 h5 Z) o H encI_len encI_plain rfl (by decide) hm (fun _ _ _ _ => rfl) hK
theorem repeat_int64 {h0 h : Heap} {L : List Res} {K : Value → Heap → Prop} {s : Value} {a : Int} {m : Nat} (o : Own h0 h L) (H : Vw encI 1 h s [a]) (hm : m ≤ 16777216) (hK : ∀ v' h', Own h0 h' (slR encI 1 T_int64 v' (List.replicate m a) :: L) → K v' h') : callS Tryz.prog F_slices_Repeat_sl_int64_int64 [s, I m] h K := by
  refine callS_of (lk_slices_Repeat_sl_int64_int64 _ _ ?_)
  unfold sh_slices_Repeat_sl_int64_int64
  exact repeat_gen (a0 := (0 : Int)) (L2 := fun t K n8 h5 Z => sh_slices_Repeat_sl_int64_int64_L2 Tryz.prog t K n8 h5 Z) o H encI_len encI_plain rfl (by decide) hm (fun _ _ _ _ => rfl) hK

end Go.Proofs.YtgefabaobhendaaGreatDoor

namespace Go.Proofs.YtgefabaobhendaaGreatDoor
open Go Go.Mh
set_option linter.unusedVariables false

section
variable {h0 h : Heap} {L : List Res} {K : Value → Heap → Prop} {d i : Nat} {vb : Value} {bs : List Int} {a : Nat}

/-- A draw: some number below n. -/
theorem next_ok (o : Own h0 h L) (i : Nat) (hi : L[i]? = some (cellR d [vb, I a] T_milestoneref07_Draft)) (hb : Vw encU8 1 h0 vb bs) (ha : a < 2 ^ 40) {n : Nat} (hn : 1 ≤ n) (hn' : n < 2 ^ 40)
    (hK : ∀ (k a' : Nat) h', k < n → a' ≤ a + 1 → Own h0 h' (L.set i (cellR d [vb, I a'] T_milestoneref07_Draft)) → K (I k) h') : callS Tryz.prog F_milestoneref07_Draft_Next [ptr d, I n] h K := by
  refine callS_of (lk_milestoneref07_Draft_Next _ _ ?_)
  unfold sh_milestoneref07_Draft_Next sh_milestoneref07_Draft_Next_k1
  have o0 : Own h0 h (L.set i (cellR d [vb, I a] T_milestoneref07_Draft)) := o.conv i hi (o.get i hi) fun b hb => hb
  simp only [pNil_ptr, pField_ptr]
  refine o.load i hi rfl ?_
  refine (hb.more o.ext).len ?_
  simp only [pBin_eql, ifV_beq]
  refine ⟨fun _ => hK 0 a h hn (by omega) o0, fun hlen => ?_⟩
  simp only [pBin_lss, ifV_dec]
  refine ⟨fun e => by omega, fun _ => ?_⟩
  refine o.load i hi rfl ?_
  have e1 : IntKind.i64.wrap ((a : Int) + 1) = ((a + 1 : Nat) : Int) := wI a (by omega)
  simp only [pBin_add, e1]
  refine o.put i hi rfl (by simp) rfl fun h2 o2 => ?_
  have hi2 := set_get (x := cellR d [vb, I (a + 1 : Nat)] T_milestoneref07_Draft) hi
  replace o2 : Own h0 h2 (L.set i (cellR d [vb, I (a + 1 : Nat)] T_milestoneref07_Draft)) := o2
  have hb2 := hb.more o2.ext
  have e2 : IntKind.i64.wrap (((a + 1 : Nat) : Int) - 1) = (a : Int) := by rw [w64 (by omega) (by omega)]; omega
  have e3 : ((a : Int).tmod bs.length) = ((a % bs.length : Nat) : Int) := rfl
  have hlt : a % bs.length < bs.length := Nat.mod_lt _ (by omega)
  refine o2.load i hi2 rfl (o2.load i hi2 rfl ?_)
  simp only [pBin_sub, e2]
  refine o2.load i hi2 rfl (hb2.len ?_)
  simp only [pBin_rem, e3]
  refine ⟨by omega, ?_⟩
  refine hb2.at1 (e := fun x => .int .u8 x) (fun _ => rfl) hlt ?_
  refine o2.load i hi2 rfl ?_
  simp only [pBin_sub, e2]
  refine o2.load i hi2 rfl (hb2.len ?_)
  simp only [pBin_quo, pConv_int, pBin_add, pBin_rem]
  refine ⟨by omega, ?_⟩
  have hw := u8_wrap (bs[a % bs.length] + IntKind.u8.wrap (IntKind.i64.wrap ((a : Int).tdiv bs.length)))
  generalize IntKind.u8.wrap (bs[a % bs.length] + IntKind.u8.wrap (IntKind.i64.wrap ((a : Int).tdiv bs.length))) = w at hw
  have e4 : IntKind.i64.wrap w = w := w64 (by omega) (by omega)
  rw [e4]
  refine ⟨by omega, ?_⟩
  obtain ⟨u, rfl⟩ := Int.eq_ofNat_of_zero_le hw.1
  have e5 : ((u : Int).tmod n) = ((u % n : Nat) : Int) := rfl
  rw [e5]
  exact hK _ (a + 1) h2 (Nat.mod_lt _ (by omega)) (by omega) o2

/-- A weight. -/
theorem weight_ok (o : Own h0 h L) (i : Nat) (hi : L[i]? = some (cellR d [vb, I a] T_milestoneref07_Draft)) (hb : Vw encU8 1 h0 vb bs) (ha : a < 2 ^ 39)
    (hK : ∀ (k a' : Nat) h', k ≤ 2147483647 → a' ≤ a + 2 → Own h0 h' (L.set i (cellR d [vb, I a'] T_milestoneref07_Draft)) → K (I k) h') : callS Tryz.prog F_milestoneref07_Draft_Weight [ptr d] h K := by
  refine callS_of (lk_milestoneref07_Draft_Weight _ ?_)
  unfold sh_milestoneref07_Draft_Weight
  refine next_ok (n := 12) o i hi hb (by omega) (by decide) (by decide) fun k a1 h1 hk ha1 o1 => ?_
  have hi1 := set_get (x := cellR d [vb, I a1] T_milestoneref07_Draft) hi
  have fin : ∀ {h2 : Heap} {x : Res}, Own h0 h2 ((L.set i (cellR d [vb, I a1] T_milestoneref07_Draft)).set i x) → Own h0 h2 (L.set i x) := fun o => by rwa [List.set_set] at o
  simp only [pBin_lss, ifV_dec]
  refine ⟨fun _ => hK 0 a1 h1 (by omega) (by omega) o1, fun _ => ⟨fun _ => ?_, fun _ => ⟨fun _ => ?_, fun _ => ?_⟩⟩⟩
  · refine next_ok (n := 9) o1 i hi1 hb (by omega) (by decide) (by decide) fun k a2 h2 hk ha2 o2 => ?_
    have e : IntKind.i64.wrap (1 + (k : Int)) = ((1 + k : Nat) : Int) := by rw [w64 (by omega) (by omega)]; omega
    rw [pBin_add, e]
    exact hK _ a2 h2 (by omega) (by omega) (fin o2)
  · refine next_ok (n := 20) o1 i hi1 hb (by omega) (by decide) (by decide) fun k a2 h2 hk ha2 o2 => ?_
    have e : IntKind.i64.wrap (100 * (k : Int)) = ((100 * k : Nat) : Int) := by rw [w64 (by omega) (by omega)]; omega
    rw [pBin_mul, e]
    exact hK _ a2 h2 (by omega) (by omega) (fin o2)
  · refine next_ok (n := 2) o1 i hi1 hb (by omega) (by decide) (by decide) fun k a2 h2 hk ha2 o2 => ?_
    have e : IntKind.i64.wrap (2147483647 - (k : Int)) = ((2147483647 - k : Nat) : Int) := by rw [w64 (by omega) (by omega)]; omega
    rw [pBin_sub, e]
    exact hK _ a2 h2 (by omega) (by omega) (fin o2)

end
end Go.Proofs.YtgefabaobhendaaGreatDoor

namespace Go.Proofs.YtgefabaobhendaaGreatDoor
open Go Go.Mh
set_option linter.unusedVariables false

abbrev dR (d : Nat) (vb : Value) (a : Nat) : Res := cellR d [vb, I a] T_milestoneref07_Draft
abbrev xR (v : Value) (xs : List Int) : Res := slR encI 1 T_int64 v xs
abbrev aR (v : Value) (xs : List A) : Res := slR encA 3 T_api_Arc v xs
abbrev sl0 : Value := .slice none 0 0

/-- What a draft becomes: a graph that is right, of few nodes. -/
structure Few (g : G) : Prop extends G.Right g where
  few : g.n ≤ 12
  short : g.arcs.length ≤ 84

section
variable {h0 h : Heap} {L : List Res} {K : Value → Heap → Prop} {d n g3 t2 : Nat} {vb vx vy : Value} {bs : List Int} {a : Nat} {xs ys : List Int}

def RawK (h0 : Heap) (L : List Res) (K : Value → Heap → Prop) (d : Nat) (vb : Value) : Prop :=
  ∀ (g : G) vx vy va a' h', Few g → Own h0 h' (xR vx g.X :: xR vy g.Y :: aR va g.arcs :: dR d vb a' :: L) → K (.agg #[I g.n, vx, vy, va]) h'

structure RawI (n : Nat) (xs ys : List Int) (arcs : List A) : Prop where
  n1 : 1 ≤ n
  n2 : n ≤ 12
  x : xs.length = n
  y : ys.length = n
  xr : ∀ c ∈ xs, -2147483648 ≤ c ∧ c ≤ 2147483647
  yr : ∀ c ∈ ys, -2147483648 ≤ c ∧ c ≤ 2147483647
  e : ∀ a ∈ arcs, a.f < n ∧ a.t < n ∧ a.w ≤ 2147483647

theorem RawI.add {arcs : List A} (R : RawI n xs ys arcs) {f t w : Nat} (hf : f < n) (ht : t < n) (hw : w ≤ 2147483647) : RawI n xs ys (arcs ++ [⟨f, t, w⟩]) :=
  ⟨R.n1, R.n2, R.x, R.y, R.xr, R.yr, fun a ha => (List.mem_append.1 ha).elim (fun h => R.e a h) fun h => by
    simp at h; subst h; exact ⟨hf, ht, hw⟩⟩

theorem rawFin {arcs : List A} {va : Value} {a' : Nat} (hK : RawK h0 L K d vb) (R : RawI n xs ys arcs) (hl : arcs.length ≤ 84)
    (o : Own h0 h (aR va arcs :: xR vx xs :: xR vy ys :: cellR g3 [I n, vx, vy, va] T_api_Raw :: cellR t2 [I 0, sl0, sl0, sl0] T_api_Raw :: dR d vb a' :: L)) :
    pLoadN 4 h (ptr g3) fun t116 => pStore 4 (ptr t2) t116 h fun u_12 h_53 => pLoadN 4 h_53 (ptr t2) fun res => K res h_53 := by
  refine o.ldN 3 rfl rfl rfl ?_
  refine o.st 4 rfl rfl rfl rfl rfl ?_ fun h2 o2 => ?_
  · intro u hu
    simp at hu
    rcases hu with rfl | rfl | rfl | rfl
    · rfl
    · exact (o.vw 1 rfl).plain
    · exact (o.vw 2 rfl).plain
    · exact (o.vw 0 rfl).plain
  refine o2.ldN 4 rfl rfl rfl ?_
  exact hK ⟨n, xs, ys, arcs⟩ vx vy va a' h2 ⟨⟨R.n1, Nat.le_trans R.n2 (by decide), R.x, R.y, R.xr, R.yr, Nat.le_trans hl (by decide), R.e⟩, R.n2, hl⟩ (o2.front 6 [1, 2, 0, 5] (by decide) (by decide))

theorem raw_k4 {arcs : List A} {va : Value} {a' many : Nat} (hK : RawK h0 L K d vb) (hb : Vw encU8 1 h0 vb bs) (R : RawI n xs ys arcs) (hl : arcs.length ≤ 12) (hm : many ≤ 36) (ha : a' ≤ 1000)
    (o : Own h0 h (aR va arcs :: xR vx xs :: xR vy ys :: cellR g3 [I n, vx, vy, va] T_api_Raw :: cellR t2 [I 0, sl0, sl0, sl0] T_api_Raw :: dR d vb a' :: L)) :
    sh_milestoneref07_Draft_Raw_k4 Tryz.prog (I many) (ptr g3) (ptr d) (ptr t2) K h := by
  unfold sh_milestoneref07_Draft_Raw_k4
  refine LoopH_count many (fun i x h' => ∃ arcs va a', x.1 = I i ∧ RawI n xs ys arcs ∧ arcs.length ≤ 12 + 2 * i ∧ a' ≤ 1000 + 10 * i ∧
    Own h0 h' (aR va arcs :: xR vx xs :: xR vy ys :: cellR g3 [I n, vx, vy, va] T_api_Raw :: cellR t2 [I 0, sl0, sl0, sl0] T_api_Raw :: dR d vb a' :: L)) ⟨arcs, va, a', rfl, R, hl, ha, o⟩ ?_
  rintro i ⟨x, ⟨⟩⟩ h Z hi ⟨arcs, va, a', hx, R, hl, ha, o⟩ hZ
  dsimp only at hx hZ ⊢
  subst hx
  have n2 := R.n2
  unfold sh_milestoneref07_Draft_Raw_L5
  simp only [pBin_lss, ifV_dec]
  refine ⟨fun hlt => ?_, fun hge => rawFin hK R (by omega) o⟩
  have hlt : i < many := by omega
  refine cutP_of (fun v h' => ∃ (b f t w a2 : Nat), v.1 = ptr b ∧ f < n ∧ t < n ∧ w ≤ 2147483647 ∧ a2 ≤ a' + 4 ∧
    Own h0 h' (cellR b [I f, I t, I w] T_api_Arc :: aR va arcs :: xR vx xs :: xR vy ys :: cellR g3 [I n, vx, vy, va] T_api_Raw :: cellR t2 [I 0, sl0, sl0, sl0] T_api_Raw :: dR d vb a2 :: L)) (fun J hJ => ?_) ?_
  · simp only [pField_ptr]
    refine o.load 3 rfl rfl (o.load 3 rfl rfl ?_)
    refine ⟨?_, ?_⟩
    · refine next_ok o 5 rfl hb (by omega) R.n1 (by omega) fun f a1 h1 hf ha1 o1 => ⟨o1.load 3 rfl rfl rfl, ?_, ?_⟩
      · refine next_ok o1 5 rfl hb (by omega) R.n1 (by omega) fun t a2 h2 ht ha2 o2 => ⟨?_, ?_⟩
        · refine weight_ok o2 5 rfl hb (by omega) fun w a3 h3 hw ha3 o3 => ⟨sizesOk_of rfl, ?_⟩
          refine o3.box fun b h4 o4 => o4.st 0 rfl rfl rfl rfl rfl (by simp [spliceAll]) fun h5 o5 => hJ _ _ ⟨b, f, t, w, a3, rfl, hf, ht, hw, by omega, o5⟩
        · refine o2.box fun b h4 o4 => weight_ok o4 6 rfl hb (by omega) fun w a3 h3 hw ha3 o3 => ⟨sizesOk_of rfl, ?_⟩
          exact o3.st 0 rfl rfl rfl rfl rfl (by simp [spliceAll]) fun h5 o5 => hJ _ _ ⟨b, f, t, w, a3, rfl, hf, ht, hw, by omega, o5⟩
      · refine o1.box fun b h4 o4 => next_ok o4 6 rfl hb (by omega) R.n1 (by omega) fun t a2 h2 ht ha2 o2 => ?_
        refine weight_ok o2 6 rfl hb (by omega) fun w a3 h3 hw ha3 o3 => ⟨sizesOk_of rfl, ?_⟩
        exact o3.st 0 rfl rfl rfl rfl rfl (by simp [spliceAll]) fun h5 o5 => hJ _ _ ⟨b, f, t, w, a3, rfl, hf, ht, hw, by omega, o5⟩
    · refine o.box fun b h4 o4 => next_ok o4 6 rfl hb (by omega) R.n1 (by omega) fun f a1 h1 hf ha1 o1 => ⟨o1.load 4 rfl rfl rfl, ?_⟩
      refine next_ok o1 6 rfl hb (by omega) R.n1 (by omega) fun t a2 h2 ht ha2 o2 => ?_
      refine weight_ok o2 6 rfl hb (by omega) fun w a3 h3 hw ha3 o3 => ⟨sizesOk_of rfl, ?_⟩
      exact o3.st 0 rfl rfl rfl rfl rfl (by simp [spliceAll]) fun h5 o5 => hJ _ _ ⟨b, f, t, w, a3, rfl, hf, ht, hw, by omega, o5⟩
  · rintro ⟨x, ⟨⟩⟩ h' ⟨b, f, t, w, a2, hv, hf, ht, hw, ha2, o⟩
    dsimp only at hv ⊢
    subst hv
    unfold sh_milestoneref07_Draft_Raw_C6 sh_milestoneref07_Draft_Raw_k7
    simp only [pField_ptr]
    refine o.load 4 rfl rfl (o.ldN 0 rfl rfl rfl ?_)
    refine o.app1 1 ⟨f, t, w⟩ rfl rfl (sizesOk_of rfl) encA_len encA_plain rfl (by decide) (by omega) fun va1 h1 o1 => ?_
    refine o1.st1 4 rfl rfl rfl (o1.vw 1 rfl).one (o1.vw 1 rfl).plain fun h2 o2 => ?_
    refine next_ok (n := 4) o2 6 rfl hb (by omega) (by decide) (by decide) fun k a3 h3 hk ha3 o3 => ?_
    have R1 := R.add hf ht hw
    simp only [pBin_eql, ifV_beq]
    refine ⟨fun _ => ?_, fun _ => ?_⟩
    · refine o3.load 4 rfl rfl (o3.load 0 rfl rfl (o3.load 0 rfl rfl (o3.load 0 rfl rfl ⟨sizesOk_of rfl, ?_⟩)))
      refine o3.app1 1 ⟨t, f, w⟩ rfl rfl (sizesOk_of rfl) encA_len encA_plain rfl (by decide) (by simp; omega) fun va2 h4 o4 => ?_
      refine o4.st1 4 rfl rfl rfl (o4.vw 1 rfl).one (o4.vw 1 rfl).plain fun h5 o5 => ?_
      rw [pBin_add, wI i (by omega)]
      exact hZ (I (i + 1 : Nat), ()) h5 hlt ⟨_, va2, a3, rfl, R1.add ht hf hw, by simp; omega, by omega, o5.tail⟩
    · rw [pBin_add, wI i (by omega)]
      exact hZ (I (i + 1 : Nat), ()) h3 hlt ⟨_, va1, a3, rfl, R1, by simp; omega, by omega, o3.tail⟩

theorem raw_k2 {a' : Nat} (hK : RawK h0 L K d vb) (hb : Vw encU8 1 h0 vb bs) (R : RawI n xs ys []) (ha : a' ≤ 100)
    (o : Own h0 h (xR vx xs :: xR vy ys :: cellR g3 [I n, vx, vy, sl0] T_api_Raw :: cellR t2 [I 0, sl0, sl0, sl0] T_api_Raw :: dR d vb a' :: L)) :
    sh_milestoneref07_Draft_Raw_k2 Tryz.prog (ptr g3) (ptr d) (ptr t2) K h := by
  unfold sh_milestoneref07_Draft_Raw_k2
  have n1 := R.n1
  have n2 := R.n2
  simp only [pField_ptr]
  refine o.load 2 rfl rfl ?_
  have e1 : IntKind.i64.wrap (3 * (n : Int)) = 3 * (n : Int) := w64 (by omega) (by omega)
  have e2 : IntKind.i64.wrap (3 * (n : Int) + 1) = ((3 * n + 1 : Nat) : Int) := by rw [w64 (by omega) (by omega)]; omega
  simp only [pBin_mul, pBin_add, e1, e2]
  refine next_ok o 4 rfl hb (by omega) (by omega) (by omega) fun many a1 h1 hm ha1 o1 => ?_
  refine next_ok (n := 3) o1 4 rfl hb (by omega) (by decide) (by decide) fun k a2 h2 hk ha2 o2 => ?_
  simp only [pBin_gtr]
  refine LoopH_count n (fun i x h' => ∃ arcs va a', x.1 = I i ∧ RawI n xs ys arcs ∧ arcs.length ≤ i ∧ a' ≤ 200 + 10 * i ∧
    Own h0 h' (aR va arcs :: xR vx xs :: xR vy ys :: cellR g3 [I n, vx, vy, va] T_api_Raw :: cellR t2 [I 0, sl0, sl0, sl0] T_api_Raw :: dR d vb a' :: L)) ⟨[], sl0, a2, rfl, R, Nat.le_refl _, by omega, o2.nilS⟩ ?_
  rintro i ⟨x, ⟨⟩⟩ h Z hi ⟨arcs, va, a', hx, R, hl, ha, o⟩ hZ
  dsimp only at hx hZ ⊢
  subst hx
  unfold sh_milestoneref07_Draft_Raw_L3
  simp only [pField_ptr]
  refine o.load 3 rfl rfl ?_
  have next : sh_milestoneref07_Draft_Raw_k4 Tryz.prog (I many) (ptr g3) (ptr d) (ptr t2) K h := raw_k4 hK hb R (by omega) (by omega) (by omega) o
  simp only [pBin_lss, ifV_dec]
  refine ⟨fun hlt => ⟨fun _ => ?_, fun _ => next⟩, fun _ => next⟩
  have hlt : i < n := by omega
  refine o.load 3 rfl rfl ?_
  rw [pBin_add, wI i (by omega)]
  refine o.load 3 rfl rfl ?_
  have e3 : (((i + 1 : Nat) : Int).tmod n) = (((i + 1) % n : Nat) : Int) := rfl
  rw [pBin_rem, e3]
  refine ⟨by omega, ?_⟩
  refine weight_ok o 5 rfl hb (by omega) fun w a3 h3 hw ha3 o3 => ⟨o3.load 3 rfl rfl rfl, o3.load 3 rfl rfl rfl, sizesOk_of rfl, ?_⟩
  refine o3.app1 0 ⟨i, (i + 1) % n, w⟩ rfl rfl (sizesOk_of rfl) encA_len encA_plain rfl (by decide) (by omega) fun va1 h4 o4 => ?_
  refine o4.st1 3 rfl rfl rfl (o4.vw 0 rfl).one (o4.vw 0 rfl).plain fun h5 o5 => ?_
  rw [pBin_add, wI i (by omega)]
  exact hZ (I (i + 1 : Nat), ()) h5 hlt ⟨_, va1, a3, rfl, R.add hlt (Nat.mod_lt _ (by omega)) hw, by simp; omega, by omega, o5⟩

theorem mem_set_or {α : Type} {l : List α} {i : Nat} {a c : α} (h : c ∈ l.set i a) : c ∈ l ∨ c = a := List.mem_or_eq_of_mem_set h

theorem raw_ok (o : Own h0 h (dR d vb 0 :: L)) (hb : Vw encU8 1 h0 vb bs) (hK : RawK h0 L K d vb) : callS Tryz.prog F_milestoneref07_Draft_Raw [ptr d] h K := by
  refine callS_of (lk_milestoneref07_Draft_Raw _ ?_)
  unfold sh_milestoneref07_Draft_Raw
  refine o.box fun t2 h1 o1 => ?_
  refine next_ok (n := 12) o1 1 rfl hb (by decide) (by decide) (by decide) fun k a1 h2 hk ha1 o2 => ?_
  have e1 : IntKind.i64.wrap (1 + (k : Int)) = ((k + 1 : Nat) : Int) := by rw [w64 (by omega) (by omega)]; omega
  simp only [pBin_add, e1]
  refine ⟨sizesOk_of rfl, ?_⟩
  refine o2.box fun g3 h3 o3 => ?_
  refine o3.st 0 rfl rfl rfl rfl rfl (by simp [spliceAll]) fun h4 o4 => ?_
  obtain ⟨n, hn⟩ : ∃ n, n = k + 1 := ⟨_, rfl⟩
  have o5 : Own h0 h4 (xR sl0 [] :: xR sl0 [] :: cellR g3 [I n, sl0, sl0, sl0] T_api_Raw :: cellR t2 [I 0, sl0, sl0, sl0] T_api_Raw :: dR d vb a1 :: L) := by subst hn; exact (o4.nilS).nilS
  clear o4 o3 o2 o1 o e1
  have n1 : 1 ≤ n := by omega
  have n2 : n ≤ 12 := by omega
  refine LoopH_count n (fun i x h' => ∃ xs ys vx vy a', x.1 = I i ∧ xs.length = i ∧ ys.length = i ∧ (∀ c ∈ xs, -2147483648 ≤ c ∧ c ≤ 2147483647) ∧ (∀ c ∈ ys, -2147483648 ≤ c ∧ c ≤ 2147483647) ∧ a' ≤ 1 + 2 * i ∧
    Own h0 h' (xR vx xs :: xR vy ys :: cellR g3 [I n, vx, vy, sl0] T_api_Raw :: cellR t2 [I 0, sl0, sl0, sl0] T_api_Raw :: dR d vb a' :: L)) ⟨[], [], sl0, sl0, a1, rfl, rfl, rfl, by simp, by simp, by omega, o5⟩ ?_
  clear o5
  rintro i ⟨x, ⟨⟩⟩ h Z hi ⟨xs, ys, vx, vy, a', hx, hxl, hyl, hxr, hyr, ha, o⟩ hZ
  dsimp only at hx hZ ⊢
  subst hx
  unfold sh_milestoneref07_Draft_Raw_L1
  simp only [pField_ptr]
  refine o.load 2 rfl rfl ?_
  simp only [pBin_lss, ifV_dec]
  refine ⟨fun hlt => ?_, fun hge => ?_⟩
  · have hlt : i < n := by omega
    refine o.load 2 rfl rfl ?_
    refine next_ok (n := 9) o 4 rfl hb (by omega) (by decide) (by decide) fun k a2 h2 hk ha2 o2 => ⟨o2.load 2 rfl rfl rfl, ?_⟩
    have e2 : IntKind.i64.wrap ((k : Int) - 3) = (k : Int) - 3 := w64 (by omega) (by omega)
    simp only [pBin_sub, e2]
    refine o2.app1 0 ((k : Int) - 3) rfl rfl (sizesOk_of rfl) encI_len encI_plain rfl (by decide) (by omega) fun vx1 h3 o3 => ?_
    refine o3.st1 2 rfl rfl rfl (o3.vw 0 rfl).one (o3.vw 0 rfl).plain fun h4 o4 => ?_
    refine o4.load 2 rfl rfl ?_
    refine next_ok (n := 7) o4 4 rfl hb (by omega) (by decide) (by decide) fun k2 a3 h5 hk2 ha3 o5 => ⟨o5.load 2 rfl rfl rfl, ?_⟩
    refine o5.app1 1 (k2 : Int) rfl rfl (sizesOk_of rfl) encI_len encI_plain rfl (by decide) (by omega) fun vy1 h6 o6 => ?_
    refine o6.st1 2 rfl rfl rfl (o6.vw 1 rfl).one (o6.vw 1 rfl).plain fun h7 o7 => ?_
    rw [pBin_add, wI i (by omega)]
    refine hZ (I (i + 1 : Nat), ()) h7 hlt ⟨_, _, vx1, vy1, a3, rfl, by simp [hxl], by simp [hyl], ?_, ?_, by omega, o7⟩
    · intro c hc
      rcases List.mem_append.1 hc with h | h
      · exact hxr c h
      · simp at h; omega
    · intro c hc
      rcases List.mem_append.1 hc with h | h
      · exact hyr c h
      · simp at h; omega
  · have hin : i = n := by omega
    refine next_ok (n := 9) o 4 rfl hb (by omega) (by decide) (by decide) fun k a2 h2 hk ha2 o2 => ?_
    simp only [pBin_eql, ifV_beq]
    refine ⟨fun _ => ?_, fun _ => raw_k2 hK hb ⟨n1, n2, hxl.trans hin, hyl.trans hin, hxr, hyr, by simp⟩ (by omega) o2⟩
    refine o2.load 2 rfl rfl ?_
    refine o2.setI 0 (j := 0) rfl (by omega) fun h3 o3 => ?_
    refine o3.load 2 rfl rfl (o3.load 2 rfl rfl ?_)
    have e3 : IntKind.i64.wrap ((n : Int) - 1) = ((n - 1 : Nat) : Int) := by rw [w64 (by omega) (by omega)]; omega
    simp only [pBin_sub, e3]
    refine o3.setI 1 (j := n - 1) rfl (by omega) fun h4 o4 => ?_
    refine raw_k2 hK hb ⟨n1, n2, by simp [hxl, hin], by simp [hyl, hin], fun c hc => ?_, fun c hc => ?_, by simp⟩ (by omega) o4
    · rcases mem_set_or hc with h | rfl
      · exact hxr c h
      · decide
    · rcases mem_set_or hc with h | rfl
      · exact hyr c h
      · decide

end
end Go.Proofs.YtgefabaobhendaaGreatDoor

namespace Go.Proofs.YtgefabaobhendaaGreatDoor
open Go Go.Mh
set_option linter.unusedVariables false

section
variable {h0 h : Heap} {L : List Res} {K : Value → Heap → Prop} {g : G} {v : Value}

theorem check_ok (hR : g.Right) (H : RawV h v g) (hK : ∀ h', Ext h h' → K .nilIface h') : callS Tryz.prog F_graph_Check [v] h K := by
  obtain ⟨vx, vy, va, rfl, H⟩ := H
  refine callS_of (lk_graph_Check _ ?_)
  unfold sh_graph_Check
  refine (Own.start h).box fun r h1 o1 => o1.box fun e h2 o2 => o2.ldN 1 rfl rfl rfl ?_
  refine look_ok hR ⟨vx, vy, va, rfl, H.more o2.ext⟩ fun h3 x3 => ?_
  have o3 := o2.more x3
  refine o3.st1 0 rfl rfl rfl rfl rfl fun h4 o4 => ?_
  exact check1_idle (o4.load 0 rfl rfl (hK _ o4.ext))

theorem own_ok (o : Own h0 h L) (hR : g.Right) (H : RawV h v g) (hK : ∀ vx vy va h', Own h0 h' (xR vx g.X :: xR vy g.Y :: aR va g.arcs :: L) → K (.agg #[I g.n, vx, vy, va]) h') : callS Tryz.prog F_net_own [v] h K := by
  obtain ⟨vx, vy, va, rfl, H⟩ := H
  refine callS_of (lk_net_own _ ?_)
  unfold sh_net_own
  have hx := hR.x
  have hy := hR.y
  have hm := hR.most
  have hmany := hR.many
  refine (Own.start h).box fun r h1 o1 => o1.box fun e h2 o2 => ?_
  simp only [pField_ptr]
  refine o2.load 1 rfl rfl (o2.load 1 rfl rfl (o2.load 1 rfl rfl ?_))
  refine clone_int64 o2 (H.more o2.ext).1 (by omega) fun vx1 h3 o3 => ⟨o3.load 2 rfl rfl rfl, o3.load 2 rfl rfl rfl, ?_⟩
  refine clone_int64 o3 (H.more o3.ext).2.1 (by omega) fun vy1 h4 o4 => ⟨o4.load 3 rfl rfl rfl, ?_⟩
  refine clone_arc o4 (H.more o4.ext).2.2 (by omega) fun va1 h5 o5 => ?_
  have p0 := o5.vw 0 rfl
  have p1 := o5.vw 1 rfl
  have p2 := o5.vw 2 rfl
  refine o5.st1 4 rfl rfl rfl p2.one p2.plain fun h6 o6 => ?_
  refine o6.st1 4 rfl rfl rfl p1.one p1.plain fun h7 o7 => ?_
  refine o7.st1 (cs' := [I g.n, vx1, vy1, va1]) 4 rfl rfl rfl p0.one p0.plain fun h8 o8 => ?_
  refine o8.ldN 4 rfl rfl rfl ?_
  refine o8.st 3 rfl rfl rfl rfl rfl ?_ fun h9 o9 => ?_
  · intro u hu
    simp at hu
    rcases hu with rfl | rfl | rfl | rfl
    · rfl
    · exact p2.plain
    · exact p1.plain
    · exact p0.plain
  · refine o9.ldN 3 rfl rfl rfl ?_
    exact hK vx1 vy1 va1 h9 (o.frame (o9.sel [2, 1, 0] (by decide)))

end
end Go.Proofs.YtgefabaobhendaaGreatDoor

namespace Go.Proofs.YtgefabaobhendaaGreatDoor
open Go Go.Mh
set_option linter.unusedVariables false

/-- Rows of numbers, one for each node. -/
def rowsQ (h : Heap) (vr : Value) (n : Nat) (f : Nat → List Nat) : Prop :=
  ∃ ls : List Value, ls.length = n ∧ Vw encV 1 h vr ls ∧ ∀ v (hv : v < ls.length), Vw encN 1 h ls[v] (f v)

theorem rowsQ.more {h h' : Heap} {vr : Value} {n : Nat} {f : Nat → List Nat} (H : rowsQ h vr n f) (x : Ext h h') : rowsQ h' vr n f := by
  obtain ⟨ls, a, b, c⟩ := H
  exact ⟨ls, a, b.more x, fun v hv => (c v hv).more x⟩

section
variable {p : A → Nat} {l : List A} {bl : Nat}
open Arcs

def rowV (p : A → Nat) (l : List A) (bl v len : Nat) : Value := .slice (slBase 1 (off p l v) (off p l v + cnt p l v) (some ⟨bl, 0, none⟩)) len (cnt p l v)

theorem rowV_pos {v len : Nat} (h : 0 < cnt p l v) : rowV p l bl v len = .slice (some ⟨bl, off p l v, none⟩) len (cnt p l v) := by
  have : ¬ off p l v + cnt p l v = off p l v := by omega
  simp only [rowV, slBase, if_neg this]; simp

theorem rowV_plain {v len : Nat} : Mh.plainCell (rowV p l bl v len) = true := rfl

/-- What stands in the rows so far. -/
def RowsC (p : A → Nat) (l : List A) (n i : Nat) (c : List Nat) : Prop :=
  c.length = l.length ∧ ∀ v, v < n → ∀ j, j < (fill p l i v).length → c[off p l v + j]? = (fill p l i v)[j]?

theorem RowsC.zero {n : Nat} {c : List Nat} (h : c.length = l.length) : RowsC p l n 0 c := ⟨h, fun v _ j hj => by simp [fill, outsP] at hj⟩

theorem RowsC.succ {n i : Nat} {c : List Nat} (H : RowsC p l n i c) (hi : i < l.length) : RowsC p l n (i + 1) (c.set (off p l (p l[i]) + (fill p l i (p l[i])).length) i) := by
  refine ⟨by simp [H.1], fun v hv j hj => ?_⟩
  rw [fill_succ hi] at hj ⊢
  have hlt := cnt_lt (p := p) hi
  by_cases e : p l[i] = v
  · rw [if_pos e] at hj ⊢
    rw [e] at hlt ⊢
    simp only [List.length_append, List.length_singleton] at hj
    by_cases hj' : j < (fill p l i v).length
    · rw [List.getElem?_set_ne (by omega), List.getElem?_append_left hj', H.2 v hv j hj']
    · have : j = (fill p l i v).length := by omega
      subst this
      have hb : off p l v + (fill p l i v).length < c.length := by
        rw [H.1, fill_length]
        have := off_cnt_le (p := p) (l := l) (v := v)
        omega
      rw [List.getElem?_set_self hb, List.getElem?_append_right (Nat.le_refl _), Nat.sub_self]; rfl
  · rw [if_neg e, List.append_nil] at hj ⊢
    rw [List.getElem?_set_ne, H.2 v hv j hj]
    rw [fill_length]
    have hjc : j < cnt p l v := Nat.lt_of_lt_of_le hj fill_le
    intro heq
    rcases Nat.lt_or_gt_of_ne e with h | h
    · have h1 := off_mono (p := p) (l := l) (show p l[i] + 1 ≤ v from h)
      rw [off_succ] at h1
      omega
    · have h1 := off_mono (p := p) (l := l) (show v + 1 ≤ p l[i] from h)
      rw [off_succ] at h1
      omega

theorem row_view {h : Heap} {n i : Nat} {c : List Nat} {v : Nat} {T : TypeId} (H : RowsC p l n i c) (hv : v < n) (hb : h[bl]? = some (.cells (Mh.row encN c).toArray T (0, 0))) : Vw encN 1 h (rowV p l bl v (fill p l i v).length) (fill p l i v) := by
  have hle : (fill p l i v).length ≤ cnt p l v := fill_le
  have hoc := off_cnt_le (p := p) (l := l) (v := v)
  refine ⟨bl, _, _, rfl, hle, ?_⟩
  by_cases h0 : cnt p l v = 0
  · have : fill p l i v = [] := List.eq_nil_of_length_eq_zero (by omega)
    rw [this]
    refine .inl ⟨rfl, .inr ⟨bl, 0, ?_⟩⟩
    simp [slBase, h0]
  · refine .inr ⟨off p l v, Mh.row encN (c.take (off p l v)), Mh.row encN (c.drop (off p l v + (fill p l i v).length)), T, (0, 0), ?_, ?_, ?_⟩
    · have : ¬ off p l v + cnt p l v = off p l v := by omega
      simp only [slBase, if_neg this]; simp
    · rw [hb, ← row_append, ← row_append]
      have e : (c.drop (off p l v)).take (fill p l i v).length = fill p l i v := by
        apply List.ext_getElem?
        intro j
        by_cases hj : j < (fill p l i v).length
        · rw [List.getElem?_take_of_lt hj, List.getElem?_drop, H.2 v hv j hj]
        · rw [List.getElem?_eq_none (by simp; omega), List.getElem?_eq_none (by omega)]
      have : c = c.take (off p l v) ++ fill p l i v ++ c.drop (off p l v + (fill p l i v).length) := by
        conv => lhs; rw [← List.take_append_drop (off p l v) c]
        rw [List.append_assoc]; congr 1
        conv => lhs; rw [← List.take_append_drop (fill p l i v).length (c.drop (off p l v))]
        rw [e, List.drop_drop]
      rw [← this]
    · rw [row_length encN_len, Nat.mul_one, List.length_take, H.1]; omega
end

section
variable {h0 h : Heap} {L : List Res} {K : Value → Heap → Prop} {g : G} {v : Value} {r : Nat} {vx vy va endv : Value} {p : A → Nat}
open Arcs

/-- A closure that tells an end of an arc. -/
def EndF (endv : Value) (p : A → Nat) : Prop := ∀ (a : A) (h : Heap) (K : Value → Heap → Prop), (∀ h', Ext h h' → K (I (p a)) h') → callV Tryz.prog endv [.agg (encA a).toArray].toArray h K

theorem of2_end : EndF (.func (.func F_net_of_2) #[] #[]) A.f := by
  intro a h K hK
  refine callV_of (l := [.agg (encA a).toArray]) rfl (lk_net_of_2 _ ?_)
  unfold sh_net_of_2
  refine (Own.start h).box fun b h1 o1 => ?_
  simp only [pField_ptr]
  exact o1.load 0 rfl rfl (hK _ o1.ext)
theorem of3_end : EndF (.func (.func F_net_of_3) #[] #[]) A.t := by
  intro a h K hK
  refine callV_of (l := [.agg (encA a).toArray]) rfl (lk_net_of_3 _ ?_)
  unfold sh_net_of_3
  refine (Own.start h).box fun b h1 o1 => ?_
  simp only [pField_ptr]
  exact o1.load 0 rfl rfl (hK _ o1.ext)

abbrev rowsL (p : A → Nat) (l : List A) (n bl i : Nat) : List Value := (List.range n).map fun v => rowV p l bl v (fill p l i v).length

def ByK (h : Heap) (g : G) (p : A → Nat) (K : Value → Heap → Prop) : Prop :=
  ∀ vr (R : Res) h', Own h h' [R] → (∀ h'', R.Q h'' → rowsQ h'' vr g.n fun v => outsP (fun a => p a == v) g.arcs 0) → K vr h'

theorem by_L4 {bl : Nat} {c : List Nat} {vr : Value} {h' : Heap} (hR : g.Right) (hp : ∀ a ∈ g.arcs, p a < g.n) (hE : EndF endv p) (hv : Vw encA 3 h va g.arcs) (hc : c.length = g.arcs.length)
    (o : Own h h' [slR encV 1 T_sl_int vr (rowsL p g.arcs g.n bl 0), cellR bl (Mh.row encN c) T_int]) (hK : ByK h g p K) :
    LoopH (σ := Vals [64]) (fun x hh ZZ => sh_net_of_1_L4 Tryz.prog (I g.arcs.length) va endv vr K x.1 hh (fun a0 hz => ZZ (a0, ()) hz)) ((.int .i64 0), ()) h' := by
  have hmany := hR.many
  refine LoopH_count g.arcs.length (fun i x h' => x.1 = I i ∧ ∃ c, RowsC p g.arcs g.n i c ∧ Own h h' [slR encV 1 T_sl_int vr (rowsL p g.arcs g.n bl i), cellR bl (Mh.row encN c) T_int]) ⟨rfl, c, .zero hc, o⟩ ?_
  rintro i ⟨x, ⟨⟩⟩ h2 Z hi ⟨hx, c, hC, o⟩ hZ
  dsimp only at hx hZ ⊢
  subst hx
  unfold sh_net_of_1_L4
  simp only [pBin_lss, ifV_dec]
  refine ⟨fun hlt => ?_, fun hge => ?_⟩
  · have hlt : i < g.arcs.length := by omega
    unfold cutP
    dsimp only
    refine (hv.more o.ext).atN encA_len hlt ?_
    have hpa := hp _ (List.getElem_mem hlt)
    have hcl := cnt_lt (p := p) hlt
    have hoc := off_cnt_le (p := p) (l := g.arcs) (v := p g.arcs[i])
    have hfl : (fill p g.arcs i (p g.arcs[i])).length = cnt p (g.arcs.take i) (p g.arcs[i]) := fill_length
    have hrl : p g.arcs[i] < (rowsL p g.arcs g.n bl i).length := by simpa using hpa
    have hrow : (rowsL p g.arcs g.n bl i)[p g.arcs[i]] = .slice (some ⟨bl, off p g.arcs (p g.arcs[i]), none⟩) (fill p g.arcs i (p g.arcs[i])).length (cnt p g.arcs (p g.arcs[i])) := by
      simp only [List.getElem_map, List.getElem_range]
      exact rowV_pos (by omega)
    -- what is done with the row that was read
    have app : ∀ {h3 : Heap} {w : Value} {b : Nat} {cs : List Value}, Own h h3 [slR encN 1 T_int w [i], cellR b cs T_api_Arc, slR encV 1 T_sl_int vr (rowsL p g.arcs g.n bl i), cellR bl (Mh.row encN c) T_int] →
        pAppend T_int 1 8 [(.int .i64 0)] (rowsL p g.arcs g.n bl i)[p g.arcs[i]] w h3 fun t81 h4 => pIdx 1 vr (I (p g.arcs[i])) fun t82 => pStore 1 t82 t81 h4 fun u h5 => sh_net_of_1_C5 Tryz.prog (I i) (fun a0 hz => Z (a0, ()) hz) h5 := by
      intro h3 w b cs o3
      rw [hrow]
      refine o3.appIn (e := fun x : Nat => I x) 3 rfl (fun _ => rfl) rfl (o3.vw 0 rfl) (by omega) (by rw [row_length encN_len, hC.1]; omega) fun h4 o4 => ?_
      have hrow' : .slice (some ⟨bl, off p g.arcs (p g.arcs[i]), none⟩) ((fill p g.arcs i (p g.arcs[i])).length + 1) (cnt p g.arcs (p g.arcs[i])) = rowV p g.arcs bl (p g.arcs[i]) (fill p g.arcs (i + 1) (p g.arcs[i])).length := by
        rw [rowV_pos (by omega), fill_succ hlt]; simp
      rw [hrow']
      refine o4.setAt (a := rowV p g.arcs bl (p g.arcs[i]) (fill p g.arcs (i + 1) (p g.arcs[i])).length) 2 rfl encV_len (by intro u hu; simp [encV] at hu; subst hu; rfl) hrl rfl fun h5 o5 => ?_
      unfold sh_net_of_1_C5
      rw [pBin_add, wI i (by omega)]
      refine hZ (I (i + 1 : Nat), ()) h5 hlt ⟨rfl, _, hC.succ hlt, ?_⟩
      have e1 : (rowsL p g.arcs g.n bl i).set (p g.arcs[i]) (rowV p g.arcs bl (p g.arcs[i]) (fill p g.arcs (i + 1) (p g.arcs[i])).length) = rowsL p g.arcs g.n bl (i + 1) := by
        rw [range_set]
        apply List.map_congr_left
        intro v hv
        split <;> rename_i e
        · rw [e]
        · rw [fill_succ hlt, if_neg (fun e' => e e'.symm), List.append_nil]
      have e2 : (Mh.row encN c).set (off p g.arcs (p g.arcs[i]) + (fill p g.arcs i (p g.arcs[i])).length) (I i) = Mh.row encN (c.set (off p g.arcs (p g.arcs[i]) + (fill p g.arcs i (p g.arcs[i])).length) i) := by
        have er : ∀ l : List Nat, Mh.row encN l = l.map fun x : Nat => I x := fun l => by induction l <;> simp_all [Mh.row, encN]
        rw [er, er, List.map_set]
      rw [← e1, ← e2]
      exact o5.tail.tail
    refine o.box fun b h3 o3 => o3.st 0 rfl rfl rfl rfl rfl (encA_plain _) fun h4 o4 => ?_
    refine o4.ldN 0 rfl rfl rfl (o4.ldN 0 rfl rfl rfl ?_)
    have build : ∀ {h5 : Heap} {KH : Value → Heap → Prop} {R : List Res}, Own h h5 R → (∀ w h6, Own h h6 (slR encN 1 T_int w [i] :: R) → KH w h6) → pBuildSlice T_int (zerosL [(.int .i64 0)] 1) [(0, 1, I i)] 1 h5 KH := fun o5 hk =>
      o5.build (enc := encN) (n := 1) [i] rfl (sizesOk_of rfl) rfl hk
    refine ⟨?_, ?_⟩
    · refine hE _ _ _ fun h5 x5 => ?_
      have o5 := o4.more x5
      refine ⟨o5.ldN 0 rfl rfl rfl rfl, ?_, ?_⟩
      · refine hE _ _ _ fun h6 x6 => ?_
        have o6 := o5.more x6
        refine (o6.vw 1 rfl).at1 (e := fun x => x) (fun _ => rfl) hrl ?_
        exact build o6 fun w h7 o7 => app o7
      · refine build o5 fun w h6 o6 => hE _ _ _ fun h7 x7 => ?_
        have o7 := o6.more x7
        refine (o7.vw 2 rfl).at1 (e := fun x => x) (fun _ => rfl) hrl ?_
        exact app o7
    · refine build o4 fun w h5 o5 => hE _ _ _ fun h6 x6 => ?_
      have o6 := o5.more x6
      refine ⟨o6.ldN 1 rfl rfl rfl rfl, hE _ _ _ fun h7 x7 => ?_⟩
      have o7 := o6.more x7
      refine (o7.vw 2 rfl).at1 (e := fun x => x) (fun _ => rfl) hrl ?_
      exact app o7
  · have : i = g.arcs.length := by omega
    subst this
    refine hK vr _ h2 (Own.pack (l := [slR encV 1 T_sl_int vr (rowsL p g.arcs g.n bl g.arcs.length), cellR bl (Mh.row encN c) T_int]) o) fun h'' hq => ?_
    obtain ⟨b2, H⟩ := hq (slR encV 1 T_sl_int vr (rowsL p g.arcs g.n bl g.arcs.length)) (by simp)
    have hb := hq (cellR bl (Mh.row encN c) T_int) (by simp)
    refine ⟨_, by simp, ⟨b2, H.view⟩, fun v hv => ?_⟩
    have hvn : v < g.n := by simpa using hv
    have := row_view hC hvn hb
    simp only [List.getElem_map, List.getElem_range]
    rw [show outsP (fun a => p a == v) g.arcs 0 = fill p g.arcs g.arcs.length v by unfold fill; rw [List.take_of_length_le (Nat.le_refl _)]]
    exact this

end
end Go.Proofs.YtgefabaobhendaaGreatDoor

namespace Go.Proofs.YtgefabaobhendaaGreatDoor
open Go Go.Mh
set_option linter.unusedVariables false

section
variable {h0 h : Heap} {L : List Res} {K : Value → Heap → Prop} {g : G} {v : Value} {r : Nat} {vx vy va endv : Value} {p : A → Nat}
open Arcs

abbrev cntL (p : A → Nat) (l : List A) (n i : Nat) : List Nat := (List.range n).map (cnt p (l.take i))
abbrev rowsU (p : A → Nat) (l : List A) (n bl v : Nat) : List Value := (List.range n).map fun u => if u < v then rowV p l bl u 0 else .slice none 0 0

theorem by_k2 {bl : Nat} {c : List Nat} {vm vr : Value} {h' : Heap} (hR : g.Right) (hp : ∀ a ∈ g.arcs, p a < g.n) (hE : EndF endv p) (hr : h[r]? = some (.cells #[I g.n, vx, vy, va] T_api_Raw (0, 0))) (hv : Vw encA 3 h va g.arcs) (hc : c.length = g.arcs.length)
    (o : Own h h' [slR encN 1 T_int vm (cntL p g.arcs g.n g.arcs.length), slR encV 1 T_sl_int vr (rowsU p g.arcs g.n bl 0), cellR bl (Mh.row encN c) T_int]) (hK : ByK h g p K) :
    sh_net_of_1_C2 Tryz.prog vm (ptr r) endv K (.slice (some ⟨bl, 0, none⟩) g.arcs.length g.arcs.length) vr h' := by
  have hmany := hR.many
  have hmost := hR.most
  unfold sh_net_of_1_C2
  refine (o.vw 0 rfl).len ?_
  have hcl : (cntL p g.arcs g.n g.arcs.length).length = g.n := by simp
  rw [hcl]
  refine LoopH_count g.n (fun i x h' => x.1 = I (off p g.arcs i) ∧ x.2.1 = I i ∧ Own h h' [slR encN 1 T_int vm (cntL p g.arcs g.n g.arcs.length), slR encV 1 T_sl_int vr (rowsU p g.arcs g.n bl i), cellR bl (Mh.row encN c) T_int])
    ⟨by rw [off_zero]; rfl, rfl, o⟩ ?_
  clear o
  rintro i ⟨x, y, ⟨⟩⟩ h2 Z hi ⟨hx, hy, o⟩ hZ
  dsimp only at hx hy hZ ⊢
  subst hx hy
  unfold sh_net_of_1_L3
  simp only [pBin_lss, ifV_dec]
  refine ⟨fun hlt => ?_, fun hge => ?_⟩
  · have hlt : i < g.n := by omega
    have hoc := off_cnt_le (p := p) (l := g.arcs) (v := i)
    have hos := off_succ (p := p) (l := g.arcs) (v := i)
    have hci : (cntL p g.arcs g.n g.arcs.length)[i]'(by rw [hcl]; exact hlt) = cnt p g.arcs i := by
      simp only [List.getElem_map, List.getElem_range, List.take_of_length_le (Nat.le_refl _)]
    refine (o.vw 0 rfl).at1 (e := fun x : Nat => I x) (fun _ => rfl) (by rw [hcl]; exact hlt) ?_
    rw [hci]
    have e1 : IntKind.i64.wrap (((off p g.arcs i : Nat) : Int) + ((cnt p g.arcs i : Nat) : Int)) = ((off p g.arcs i + cnt p g.arcs i : Nat) : Int) := by rw [w64 (by omega) (by omega)]; omega
    simp only [pBin_add, e1]
    refine ⟨fun _ => rfl, by omega, Int.le_refl _, by omega, by omega, ?_⟩
    have er : (Value.slice (slBase 1 ((off p g.arcs i : Nat) : Int).toNat ((off p g.arcs i + cnt p g.arcs i : Nat) : Int).toNat (some ⟨bl, 0, none⟩)) (((off p g.arcs i : Nat) : Int).toNat - ((off p g.arcs i : Nat) : Int).toNat) (((off p g.arcs i + cnt p g.arcs i : Nat) : Int).toNat - ((off p g.arcs i : Nat) : Int).toNat)) = rowV p g.arcs bl i 0 := by
      simp only [rowV, Int.toNat_natCast, Nat.sub_self]
      congr 1; omega
    rw [er]
    refine o.setAt (a := rowV p g.arcs bl i 0) 1 rfl encV_len (by intro u hu; simp [encV] at hu; subst hu; rfl) (by simpa using hlt) rfl fun h3 o3 => ?_
    rw [wI i (by omega), ← hos]
    refine hZ (I (off p g.arcs (i + 1) : Nat), (I (i + 1 : Nat), ())) h3 hlt ⟨rfl, rfl, ?_⟩
    have e2 : (rowsU p g.arcs g.n bl i).set i (rowV p g.arcs bl i 0) = rowsU p g.arcs g.n bl (i + 1) := by
      rw [range_set]
      apply List.map_congr_left
      intro u hu
      by_cases h1 : u = i
      · subst h1; simp
      · by_cases h2 : u < i
        · simp [h1, h2, show u < i + 1 by omega]
        · simp [h1, h2, show ¬ u < i + 1 by omega]
    rw [← e2]
    exact o3
  · have : i = g.n := by omega
    subst this
    have hc3 : hcell h2 ⟨r, 3, none⟩ = some va := hcell_of (o.ext.get hr) rfl
    simp only [pField_ptr, pLoad_ptr, Nat.zero_add, hc3]
    refine (hv.more o.ext).len ?_
    refine by_L4 (bl := bl) hR hp hE hv hc ?_ hK
    have e3 : rowsU p g.arcs g.n bl g.n = rowsL p g.arcs g.n bl 0 := by
      apply List.map_congr_left
      intro u hu
      have : u < g.n := by simpa using hu
      simp [this, fill, outsP]
    rw [← e3]
    exact o.tail

theorem by_ok (hR : g.Right) (hp : ∀ a ∈ g.arcs, p a < g.n) (hE : EndF endv p) (hr : h[r]? = some (.cells #[I g.n, vx, vy, va] T_api_Raw (0, 0))) (hv : Vw encA 3 h va g.arcs) (hK : ByK h g p K) :
    CallsH Tryz.prog F_net_of_1 [endv, ptr r].toArray h K := by
  have hmany := hR.many
  have hmost := hR.most
  refine lk_net_of_1 _ _ ?_
  unfold sh_net_of_1
  have c0 : hcell h ⟨r, 0, none⟩ = some (I g.n) := hcell_of hr rfl
  simp only [pField_ptr, pLoad_ptr, Nat.zero_add, c0]
  refine (Own.start h).make (enc := encN) (n := 1) (a := 0) rfl (by omega) (by omega) fun vm h1 o1 => ?_
  have c3 : hcell h1 ⟨r, 3, none⟩ = some va := hcell_of (o1.ext.get hr) rfl
  simp only [c3]
  refine (hv.more o1.ext).len ?_
  refine LoopH_count g.arcs.length (fun i x h' => x.1 = I i ∧ Own h h' [slR encN 1 T_int vm (cntL p g.arcs g.n i)]) ⟨rfl, ?_⟩ ?_
  · have e : List.replicate g.n 0 = cntL p g.arcs g.n 0 := by
      apply List.ext_getElem
      · simp
      · intro j h1 h2; simp [cnt]
    rw [← e]; exact o1
  clear o1
  rintro i ⟨x, ⟨⟩⟩ h2 Z hi ⟨hx, o⟩ hZ
  dsimp only at hx hZ ⊢
  subst hx
  unfold sh_net_of_1_L1
  simp only [pBin_lss, ifV_dec]
  refine ⟨fun hlt => ?_, fun hge => ?_⟩
  · have hlt : i < g.arcs.length := by omega
    refine (hv.more o.ext).atN encA_len hlt ?_
    have hpa := hp _ (List.getElem_mem hlt)
    have hcl : p g.arcs[i] < (cntL p g.arcs g.n i).length := by simpa using hpa
    have hle : cnt p (g.arcs.take i) (p g.arcs[i]) ≤ (g.arcs.take i).length := cnt_le
    simp only [List.length_take] at hle
    refine o.box fun b h3 o3 => o3.st 0 rfl rfl rfl rfl rfl (encA_plain _) fun h4 o4 => ?_
    refine o4.ldN 0 rfl rfl rfl (hE _ _ _ fun h5 x5 => ?_)
    have o5 := o4.more x5
    refine (o5.vw 1 rfl).at1 (e := fun x : Nat => I x) (fun _ => rfl) hcl ?_
    simp only [List.getElem_map, List.getElem_range]
    rw [pBin_add, wI _ (by omega)]
    refine o5.setAt (a := cnt p (g.arcs.take i) (p g.arcs[i]) + 1) 1 rfl encN_len (encN_plain _) hcl rfl fun h6 o6 => ?_
    rw [pBin_add, wI i (by omega)]
    refine hZ (I (i + 1 : Nat), ()) h6 hlt ⟨rfl, ?_⟩
    have e : (cntL p g.arcs g.n i).set (p g.arcs[i]) (cnt p (g.arcs.take i) (p g.arcs[i]) + 1) = cntL p g.arcs g.n (i + 1) := by
      rw [range_set]
      apply List.map_congr_left
      intro u hu
      rw [cnt_succ hlt]
      split <;> rename_i e
      · rw [e]; simp
      · simp [show ¬ p g.arcs[i] = u from fun e' => e e'.symm]
    rw [← e]
    exact o6.tail
  · have : i = g.arcs.length := by omega
    subst this
    have c0 : hcell h2 ⟨r, 0, none⟩ = some (I g.n) := hcell_of (o.ext.get hr) rfl
    have c3 : hcell h2 ⟨r, 3, none⟩ = some va := hcell_of (o.ext.get hr) rfl
    unfold cutP
    simp only [pField_ptr, pLoad_ptr, Nat.zero_add, c0, c3]
    refine (hv.more o.ext).len ?_
    have e0 : ∀ m, (List.replicate m [Value.int .i64 0]).flatten = Mh.row encN (List.replicate m 0) := fun m => by simp [Mh.row, List.flatMap, encN]
    have eU : ∀ bl, List.replicate g.n (Value.slice none 0 0) = rowsU p g.arcs g.n bl 0 := fun bl => by
      apply List.ext_getElem
      · simp
      · intro j h1 h2; simp
    have c0' := c0
    refine ⟨?_, ?_⟩
    · refine o.makeB (by omega) (by omega) fun bl h3 o3 => ?_
      refine o3.make (enc := encV) (n := 1) (a := .slice none 0 0) rfl (by omega) (by omega) fun vr h4 o4 => ?_
      rw [e0, eU bl] at o4
      exact by_k2 hR hp hE hr hv (by simp) (o4.sel [2, 0, 1] (by decide)) hK
    · refine o.make (enc := encV) (n := 1) (a := .slice none 0 0) rfl (by omega) (by omega) fun vr h3 o3 => ?_
      refine o3.makeB (by omega) (by omega) fun bl h4 o4 => ?_
      rw [e0, eU bl] at o4
      exact by_k2 hR hp hE hr hv (by simp) (o4.sel [2, 1, 0] (by decide)) hK

/-! ### A net -/

/-- A net in memory. -/
def NetR (h : Heap) (r : Nat) (g : G) : Prop :=
  ∃ vx vy va vo vi, h[r]? = some (.cells #[I g.n, vx, vy, va, vo, vi] T_net_Net (0, 0)) ∧ RawL h vx vy va g ∧ rowsQ h vo g.n g.out ∧ rowsQ h vi g.n g.in

theorem NetR.more {h h' : Heap} (H : NetR h r g) (x : Ext h h') : NetR h' r g := by
  obtain ⟨vx, vy, va, vo, vi, a, b, c, d⟩ := H
  exact ⟨vx, vy, va, vo, vi, x.get a, b.more x, c.more x, d.more x⟩

/-- What a net needs of memory. -/
def netR (N : Res) (r : Nat) (g : G) : Prop := ∀ h, N.Q h → NetR h r g

theorem of_ok (o : Own h0 h (xR vx g.X :: xR vy g.Y :: aR va g.arcs :: L)) (hR : g.Right) (hK : ∀ r N h', netR N r g → Own h0 h' (N :: L) → K (ptr r) h') : callS Tryz.prog F_net_of [.agg #[I g.n, vx, vy, va]] h K := by
  have p0 := o.vw 0 rfl
  have p1 := o.vw 1 rfl
  have p2 := o.vw 2 rfl
  refine callS_of (lk_net_of _ ?_)
  unfold sh_net_of
  refine (Own.start h).box fun rb h1 o1 => o1.ldN 0 rfl rfl rfl ⟨sizesOk_of rfl, o1.box fun r h2 o2 => ?_⟩
  refine callV_of (l := [_, ptr rb]) rfl (by_ok hR (fun a ha => (hR.ends a ha).1) of2_end (o2.get 1 rfl) (p2.more o2.ext) fun vo Ro h3 o3 hro => ?_)
  have o3' := o2.frame o3
  refine callV_of (l := [_, ptr rb]) rfl (by_ok hR (fun a ha => (hR.ends a ha).2.1) of3_end (o3'.get 2 rfl) (p2.more o3'.ext) fun vi Ri h4 o4 hri => ?_)
  have o4' := o3'.frame o4
  have plain : ∀ {h : Heap} {vr : Value} {n : Nat} {f : Nat → List Nat}, rowsQ h vr n f → vr.cells = #[vr] ∧ Mh.plainCell vr = true := fun ⟨_, _, a, _⟩ => ⟨a.one, a.plain⟩
  have hvo := plain (hro _ (o4'.get 1 rfl))
  have hvi := plain (hri _ (o4'.get 0 rfl))
  simp only [pNil_ptr, pField_ptr]
  refine o4'.st1 2 rfl rfl rfl hvo.1 hvo.2 fun h5 o5 => o5.st1 (cs' := [I g.n, vx, vy, va, vo, vi]) 2 rfl rfl rfl hvi.1 hvi.2 fun h6 o6 => ?_
  have o7 := o.frame (o6.sel [2, 1, 0] (by decide))
  refine hK r (allR [cellR r [I g.n, vx, vy, va, vo, vi] T_net_Net, Ro, Ri, xR vx g.X, xR vy g.Y, aR va g.arcs]) h6 (fun h hq => ?_) (Own.pack (l := [cellR r [I g.n, vx, vy, va, vo, vi] T_net_Net, Ro, Ri, xR vx g.X, xR vy g.Y, aR va g.arcs]) o7)
  obtain ⟨b1, q1⟩ := hq (xR vx g.X) (by simp)
  obtain ⟨b2, q2⟩ := hq (xR vy g.Y) (by simp)
  obtain ⟨b3, q3⟩ := hq (aR va g.arcs) (by simp)
  exact ⟨vx, vy, va, vo, vi, hq (cellR r [I g.n, vx, vy, va, vo, vi] T_net_Net) (by simp), ⟨⟨_, q1.view⟩, ⟨_, q2.view⟩, ⟨_, q3.view⟩⟩, hro _ (hq Ro (by simp)), hri _ (hq Ri (by simp))⟩

theorem new_net_ok (o : Own h0 h L) (hR : g.Right) (H : RawV h v g) (hK : ∀ r N h', netR N r g → Own h0 h' (N :: L) → K (.tuple #[ptr r, .nilIface]) h') : callS Tryz.prog F_net_New [v] h K := by
  obtain ⟨vx, vy, va, rfl, H⟩ := H
  refine callS_of (lk_net_New _ ?_)
  unfold sh_net_New
  refine (Own.start h).box fun b h1 o1 => o1.ldN 0 rfl rfl rfl ?_
  refine check_ok hR ⟨vx, vy, va, rfl, H.more o1.ext⟩ fun h2 x2 => ?_
  have o2 := o1.more x2
  simp only [pNe_iface_nil, ifV_false]
  refine o2.ldN 0 rfl rfl rfl ?_
  refine own_ok o2 hR ⟨vx, vy, va, rfl, H.more o2.ext⟩ fun vx1 vy1 va1 h3 o3 => ?_
  exact of_ok o3 hR fun r N h4 hN o4 => hK r N h4 hN (o.frame (o4.sel [0] (by decide)))

end
end Go.Proofs.YtgefabaobhendaaGreatDoor

namespace Go.Proofs.YtgefabaobhendaaGreatDoor
open Go Go.Mh
set_option linter.unusedVariables false

section
variable {h0 h : Heap} {L : List Res} {K : Value → Heap → Prop} {g : G} {r i : Nat} {z : Int}

theorem nodes_ok (H : NetR h r g) (hK : K (I g.n) h) : callS Tryz.prog F_net_Net_Nodes [ptr r] h K := by
  obtain ⟨vx, vy, va, vo, vi, hr, HL, ho, hi⟩ := H
  refine callS_of (lk_net_Net_Nodes _ ?_)
  unfold sh_net_Net_Nodes
  have c0 : hcell h ⟨r, 0, none⟩ = some (I g.n) := hcell_of hr rfl
  simp only [pEq_ptr_nil, Option.isNone_some, ifV_false, pNil_ptr, pField_ptr, pLoad_ptr, Nat.zero_add, c0]
  exact hK
theorem nodes_nil (hK : K (I 0) h) : callS Tryz.prog F_net_Net_Nodes [.pointer none] h K := by
  refine callS_of (lk_net_Net_Nodes _ ?_)
  unfold sh_net_Net_Nodes
  simp only [pEq_ptr_nil, Option.isNone_none, ifV_true]
  exact hK

theorem arcs_ok (H : NetR h r g) (hK : K (I g.arcs.length) h) : callS Tryz.prog F_net_Net_Arcs [ptr r] h K := by
  obtain ⟨vx, vy, va, vo, vi, hr, HL, ho, hi⟩ := H
  refine callS_of (lk_net_Net_Arcs _ ?_)
  unfold sh_net_Net_Arcs
  have c3 : hcell h ⟨r, 3, none⟩ = some va := hcell_of hr rfl
  simp only [pEq_ptr_nil, Option.isNone_some, ifV_false, pNil_ptr, pField_ptr, pLoad_ptr, Nat.zero_add, c3]
  exact HL.2.2.len hK
theorem arcs_nil (hK : K (I 0) h) : callS Tryz.prog F_net_Net_Arcs [.pointer none] h K := by
  refine callS_of (lk_net_Net_Arcs _ ?_)
  unfold sh_net_Net_Arcs
  simp only [pEq_ptr_nil, Option.isNone_none, ifV_true]
  exact hK

theorem oneArc_ok {v : Value} {l : List A} (H : Vw encA 3 h v l) (h1 : ∀ i (hi : i < l.length), z = (i : Int) → ∀ h', Ext h h' → K (.tuple #[vA l[i], .bool true]) h')
    (h2 : ¬ (0 ≤ z ∧ z < l.length) → ∀ h', Ext h h' → K (.tuple #[vA ⟨0, 0, 0⟩, .bool false]) h') : callS Tryz.prog F_net_one_api_Arc [v, I z] h K := by
  refine callS_of (lk_net_one_api_Arc _ _ ?_)
  unfold sh_net_one_api_Arc sh_net_one_api_Arc_k1
  refine (Own.start h).box fun b h1' o1 => ?_
  have none : ¬ (0 ≤ z ∧ z < l.length) → pLoadN 3 h1' (ptr b) fun t14 => pStore 3 (ptr b) t14 h1' fun u h_3 => pLoadN 3 h_3 (ptr b) fun res => K (.tuple #[res, (.bool false)]) h_3 := fun hz =>
    o1.ldN 0 rfl rfl rfl (o1.st 0 rfl rfl rfl rfl rfl (encA_plain ⟨0, 0, 0⟩) fun h2' o2 => o2.ldN 0 rfl rfl rfl (h2 hz _ o2.ext))
  simp only [pBin_lss, ifV_dec]
  refine ⟨fun e => none (by omega), fun e => ?_⟩
  refine (H.more o1.ext).len ?_
  simp only [pBin_geq, ifV_dec]
  refine ⟨fun e => none (by omega), fun e' => ?_⟩
  obtain ⟨i, rfl⟩ := Int.eq_ofNat_of_zero_le (show 0 ≤ z by omega)
  have hi : i < l.length := by omega
  refine (H.more o1.ext).atN encA_len hi ?_
  exact o1.st 0 rfl rfl rfl rfl rfl (encA_plain _) fun h2' o2 => o2.ldN 0 rfl rfl rfl (h1 i hi rfl _ o2.ext)

/-- An arc of a net: that, or none. -/
theorem arcI_ok (H : NetR h r g) (h1 : ∀ i (hi : i < g.arcs.length), z = (i : Int) → ∀ h', Ext h h' → K (.tuple #[vA g.arcs[i], .bool true]) h')
    (h2 : ¬ (0 ≤ z ∧ z < g.arcs.length) → ∀ h', Ext h h' → K (.tuple #[vA ⟨0, 0, 0⟩, .bool false]) h') : callS Tryz.prog F_net_Net_Arc [ptr r, I z] h K := by
  obtain ⟨vx, vy, va, vo, vi, hr, HL, ho, hi⟩ := H
  refine callS_of (lk_net_Net_Arc _ _ ?_)
  unfold sh_net_Net_Arc
  refine (Own.start h).box fun b h1' o1 => ?_
  have c3 : hcell h1' ⟨r, 3, none⟩ = some va := hcell_of (o1.ext.get hr) rfl
  simp only [pEq_ptr_nil, Option.isNone_some, ifV_false, pNil_ptr, pField_ptr, pLoad_ptr, Nat.zero_add, c3]
  refine oneArc_ok (HL.more o1.ext).2.2 (fun i hi hz h2' x2 => ?_) fun hz h2' x2 => ?_
  · have o2 := o1.more x2
    simp only [pExt0, pExt1]
    exact o2.st 0 rfl rfl rfl rfl rfl (encA_plain _) fun h3 o3 => o3.ldN 0 rfl rfl rfl (h1 i hi hz _ o3.ext)
  · have o2 := o1.more x2
    simp only [pExt0, pExt1]
    exact o2.st 0 rfl rfl rfl rfl rfl (encA_plain ⟨0, 0, 0⟩) fun h3 o3 => o3.ldN 0 rfl rfl rfl (h2 hz _ o3.ext)

theorem arc_ok (H : NetR h r g) (hi : i < g.arcs.length) (hK : ∀ h', Ext h h' → K (.tuple #[vA g.arcs[i], .bool true]) h') : callS Tryz.prog F_net_Net_Arc [ptr r, I i] h K :=
  arcI_ok H (fun j hj e h' x => by obtain rfl : i = j := by omega
                                   exact hK h' x) fun e => by omega

theorem oneRow_ok {v : Value} {n : Nat} {f : Nat → List Nat} (H : rowsQ h v n f) (h1 : ∀ i v', i < n → z = (i : Int) → Vw encN 1 h v' (f i) → K (.tuple #[v', .bool true]) h)
    (h2 : ¬ (0 ≤ z ∧ z < n) → K (.tuple #[.slice none 0 0, .bool false]) h) : callS Tryz.prog F_net_one_sl_int [v, I z] h K := by
  obtain ⟨ls, hl, hv, hls⟩ := H
  refine callS_of (lk_net_one_sl_int _ _ ?_)
  unfold sh_net_one_sl_int sh_net_one_sl_int_k1
  simp only [pBin_lss, ifV_dec]
  refine ⟨fun e => h2 (by omega), fun e => hv.len ?_⟩
  simp only [pBin_geq, ifV_dec]
  refine ⟨fun e => h2 (by omega), fun e' => ?_⟩
  obtain ⟨i, rfl⟩ := Int.eq_ofNat_of_zero_le (show 0 ≤ z by omega)
  have hi : i < ls.length := by omega
  exact hv.at1 (e := fun x => x) (fun _ => rfl) hi (h1 i _ (by omega) rfl (hls i hi))

theorem outsP_short {q : A → Bool} {l : List A} {i : Nat} : (outsP q l i).length ≤ l.length := by rw [outsP_length]; exact List.countP_le_length

/-- The arcs that go out of a node. -/
theorem outI_ok (o : Own h0 h L) (hR : g.Right) (H : NetR h r g) (hK : ∀ v' h', Own h0 h' (slR encN 1 T_int v' (if 0 ≤ z ∧ z < g.n then g.out z.toNat else []) :: L) → K v' h') : callS Tryz.prog F_net_Net_Out [ptr r, I z] h K := by
  have hmany := hR.many
  obtain ⟨vx, vy, va, vo, vi, hr, HL, ho, hi⟩ := H
  refine callS_of (lk_net_Net_Out _ _ ?_)
  unfold sh_net_Net_Out
  have c4 : hcell h ⟨r, 4, none⟩ = some vo := hcell_of hr rfl
  simp only [pEq_ptr_nil, Option.isNone_some, ifV_false, pNil_ptr, pField_ptr, pLoad_ptr, Nat.zero_add, c4]
  refine oneRow_ok ho (fun i v' hi hz hv => ?_) fun hz => ?_
  · subst hz
    rw [if_pos (by omega)] at hK
    simp only [pExt0, pExt1]
    exact clone_int o hv (Nat.le_trans outsP_short (by omega)) hK
  · rw [if_neg hz] at hK
    simp only [pExt0, pExt1]
    exact clone_int o Vw.nil (by simp) hK

theorem inI_ok (o : Own h0 h L) (hR : g.Right) (H : NetR h r g) (hK : ∀ v' h', Own h0 h' (slR encN 1 T_int v' (if 0 ≤ z ∧ z < g.n then g.in z.toNat else []) :: L) → K v' h') : callS Tryz.prog F_net_Net_In [ptr r, I z] h K := by
  have hmany := hR.many
  obtain ⟨vx, vy, va, vo, vi, hr, HL, ho, hi⟩ := H
  refine callS_of (lk_net_Net_In _ _ ?_)
  unfold sh_net_Net_In
  have c5 : hcell h ⟨r, 5, none⟩ = some vi := hcell_of hr rfl
  simp only [pEq_ptr_nil, Option.isNone_some, ifV_false, pNil_ptr, pField_ptr, pLoad_ptr, Nat.zero_add, c5]
  refine oneRow_ok hi (fun i v' hi hz hv => ?_) fun hz => ?_
  · subst hz
    rw [if_pos (by omega)] at hK
    simp only [pExt0, pExt1]
    exact clone_int o hv (Nat.le_trans outsP_short (by omega)) hK
  · rw [if_neg hz] at hK
    simp only [pExt0, pExt1]
    exact clone_int o Vw.nil (by simp) hK

end
end Go.Proofs.YtgefabaobhendaaGreatDoor

namespace Go.Proofs.YtgefabaobhendaaGreatDoor
open Go Go.Mh
set_option linter.unusedVariables false

section
variable {h0 h hb : Heap} {L : List Res} {K : Value → Heap → Prop} {g : G} {r : Nat} {e : Ev} {l : List Ev} {vl : Value}

theorem may1_ok {n1 : Nat} (H : NetR h r g) (cn : hcell h ⟨n1, 0, none⟩ = some (ptr r)) (hK : ∀ h', Ext h h' → K (.bool (mayE g.n g.arcs.length e)) h') :
    callV Tryz.prog (.func (.func F_trace_may_1) #[] #[ptr n1]) [.agg (encE e).toArray].toArray h K := by
  refine callV_of (l := [.agg (encE e).toArray, ptr n1]) rfl (lk_trace_may_1 _ _ ?_)
  unfold sh_trace_may_1
  refine (Own.start h).box fun e2 h1 o => ?_
  rw [encE_cells] at o
  refine cutP_of (fun y h' => y.1 = I (mostE g.n g.arcs.length e.kind) ∧ Own h h' [cellR e2 (encE e) T_api_Event]) (fun J hJ => ?_) ?_
  · simp only [pField_ptr]
    refine pLoad_of rfl (hcell_more o.ext cn) (pLoad_of rfl (hcell_more o.ext cn) (o.load 0 rfl rfl ?_))
    have f1 : ∀ x, x = I (mostE g.n g.arcs.length e.kind) → ∀ h', Own h h' [cellR e2 (encE e) T_api_Event] → J (x, ()) h' := fun x hx h' o => hJ _ _ ⟨hx, o⟩
    have v1 : ((fset (fset (fun _ => none) 0 (I g.n)) 1 (I g.arcs.length)) e.kind).getD (I 0) = I (mostE g.n g.arcs.length e.kind) := by
      unfold fset mostE
      by_cases h1 : e.kind = 1
      · simp [h1]
      · by_cases h0 : e.kind = 0
        · simp [h0]
        · simp [h1, h0]
    have v2 : ((fset (fset (fun _ => none) 1 (I g.arcs.length)) 0 (I g.n)) e.kind).getD (I 0) = I (mostE g.n g.arcs.length e.kind) := by
      unfold fset mostE
      by_cases h1 : e.kind = 1
      · simp [h1]
      · by_cases h0 : e.kind = 0
        · simp [h0]
        · simp [h1, h0]
    repeat' (first
      | with_reducible apply And.intro
      | (with_reducible show pMakeMap _ _); refine o.mkMap fun m hh o => ?_
      | (with_reducible show pMapSet _ _ _ _ _ _); refine o.mapPut (f' := fset _ _ _) 0 rfl (fun x => rfl) fun hh o => ?_
      | (with_reducible show callS _ F_net_Net_Nodes _ _ _); refine nodes_ok (H.more o.ext) ?_
      | (with_reducible show callS _ F_net_Net_Arcs _ _ _); refine arcs_ok (H.more o.ext) ?_
      | exact pLoad_of rfl (hcell_more o.ext cn) rfl
      | exact o.load 0 rfl rfl rfl
      | exact o.load 1 rfl rfl rfl
      | exact o.look 0 rfl (f1 _ v1 _ o.tail)
      | exact o.look 0 rfl (f1 _ v2 _ o.tail))
  · rintro ⟨y, ⟨⟩⟩ h2 ⟨hy, o⟩
    dsimp only at hy ⊢
    subst hy
    unfold sh_trace_may_1_C1
    simp only [pField_ptr]
    have fin : ∀ b : Bool, (b = true ↔ mayP g.n g.arcs.length e) → K (.bool b) h2 := fun b hb => by
      have : b = mayE g.n g.arcs.length e := by
        unfold mayE
        rw [Bool.eq_iff_iff, decide_eq_true_eq]; exact hb
      rw [this]; exact hK _ o.ext
    have ff : ¬ mayP g.n g.arcs.length e → K (.bool false) h2 := fun hn => fin false ⟨fun h => (by cases h), fun h => absurd h hn⟩
    refine o.load 0 rfl rfl ?_
    simp only [pBin_geq, ifV_dec]
    refine ⟨fun h1 => o.load 0 rfl rfl ?_, fun h1 => ff fun h => h1 h.1⟩
    simp only [pBin_lss, ifV_dec]
    refine ⟨fun h3 => o.load 0 rfl rfl ?_, fun h3 => ff fun h => h3 h.2.1⟩
    have tl : e.side = 0 ∨ e.side = 1 → (pLoad h2 (.pointer (some ⟨e2, 0, none⟩)) fun t35 => pBin .eql t35 (I 0) fun t36 => ifV t36 (K (.bool true) h2) (pLoad h2 (.pointer (some ⟨e2, 0 + 3, none⟩)) fun t39 => pBin .eql t39 (I 0) fun t40 => K t40 h2)) := fun hs => by
      refine o.load 0 rfl rfl ?_
      rw [pBin_eql]
      by_cases hk : e.kind = 0
      · rw [show (e.kind == 0) = true by simpa using hk, ifV_true]
        exact fin true ⟨fun _ => ⟨h1, h3, hs, .inl hk⟩, fun _ => rfl⟩
      · rw [show (e.kind == 0) = false by simpa using hk, ifV_false]
        refine o.load 0 rfl rfl ?_
        rw [pBin_eql]
        refine fin _ ?_
        rw [beq_iff_eq]
        exact ⟨fun h => ⟨h1, h3, hs, Or.inr h⟩, fun h => h.2.2.2.resolve_left hk⟩
    rw [pBin_eql]
    by_cases h0 : e.side = 0
    · rw [show (e.side == 0) = true by simpa using h0, ifV_true]
      exact tl (.inl h0)
    · rw [show (e.side == 0) = false by simpa using h0, ifV_false]
      refine o.load 0 rfl rfl ?_
      rw [pBin_eql]
      by_cases h1' : e.side = 1
      · rw [show (e.side == 1) = true by simpa using h1', ifV_true]
        exact tl (.inr h1')
      · rw [show (e.side == 1) = false by simpa using h1', ifV_false]
        exact ff fun h => by rcases h.2.2.1 with h | h
                             · exact h0 h
                             · exact h1' h

/-- The first of which a function holds. -/
theorem indexE_ok {f : Value} (Hl : Vw encE 4 hb vl l) (hll : l.length < 2 ^ 40) (J : Nat → Heap → Prop) (p : Nat → Bool) (j0 : J 0 h) (hJ : ∀ i h', J i h' → Ext hb h')
    (hf : ∀ i (hi : i < l.length) h' (K' : Value → Heap → Prop), J i h' → (∀ h'', Ext hb h'' → (p i = false → J (i + 1) h'') → K' (.bool (p i)) h'') → callV Tryz.prog f [.agg (encE l[i]).toArray].toArray h' K')
    (hK : ∀ r' h', Ext hb h' → Fst p l.length r' → K (I r') h') : callS Tryz.prog F_slices_IndexFunc_sl_api_Event_api_Event [vl, f] h K := by
  refine callS_of (lk_slices_IndexFunc_sl_api_Event_api_Event _ _ ?_)
  unfold sh_slices_IndexFunc_sl_api_Event_api_Event
  refine (Hl.more (hJ _ _ j0)).len ?_
  refine LoopH_count l.length (fun i x h' => x.1 = I i ∧ J i h' ∧ ∀ k, k < i → p k = false) ⟨rfl, j0, fun k hk => by omega⟩ ?_
  rintro i ⟨x, ⟨⟩⟩ h' Z hi ⟨hx, hj, hp⟩ hZ
  dsimp only at hx hZ ⊢
  subst hx
  unfold sh_slices_IndexFunc_sl_api_Event_api_Event_L1
  simp only [pBin_lss, ifV_dec]
  refine ⟨fun hlt => ?_, fun hge => ?_⟩
  · have hlt : i < l.length := by omega
    refine (Hl.more (hJ _ _ hj)).atN encE_len hlt ?_
    refine hf i hlt h' _ hj fun h2 x2 hj2 => ?_
    cases hpi : p i with
    | true => rw [ifV_true]; exact hK _ _ x2 (.inr ⟨i, rfl, hlt, hpi, hp⟩)
    | false =>
      rw [ifV_false, pBin_add, wI i (by omega)]
      exact hZ (I (i + 1 : Nat), ()) h2 hlt ⟨rfl, hj2 hpi, fun k hk => by
        rcases Nat.lt_succ_iff_lt_or_eq.1 hk with h | rfl
        · exact hp k h
        · exact hpi⟩
  · have : i = l.length := by omega
    subst this
    exact hK _ _ (hJ _ _ hj) (.inl ⟨rfl, hp⟩)

theorem containsE_ok {f : Value} (Hl : Vw encE 4 hb vl l) (hll : l.length < 2 ^ 40) (J : Nat → Heap → Prop) (p : Nat → Bool) (j0 : J 0 h) (hJ : ∀ i h', J i h' → Ext hb h')
    (hf : ∀ i (hi : i < l.length) h' (K' : Value → Heap → Prop), J i h' → (∀ h'', Ext hb h'' → (p i = false → J (i + 1) h'') → K' (.bool (p i)) h'') → callV Tryz.prog f [.agg (encE l[i]).toArray].toArray h' K')
    (hK : ∀ b h', Ext hb h' → (b = true ↔ ∃ k, k < l.length ∧ p k = true) → K (.bool b) h') : callS Tryz.prog F_slices_ContainsFunc_sl_api_Event_api_Event [vl, f] h K := by
  refine callS_of (lk_slices_ContainsFunc_sl_api_Event_api_Event _ _ ?_)
  unfold sh_slices_ContainsFunc_sl_api_Event_api_Event
  refine indexE_ok Hl hll J p j0 hJ hf fun r' h' x hr => ?_
  rw [pBin_geq]
  exact hK _ _ x hr.any

end
end Go.Proofs.YtgefabaobhendaaGreatDoor

namespace Go.Proofs.YtgefabaobhendaaGreatDoor
open Go Go.Mh
set_option linter.unusedVariables false

section
variable {h0 h hb : Heap} {L : List Res} {K : Value → Heap → Prop} {g : G} {r : Nat} {e : Ev} {l : List Ev} {vl : Value}

/-- How often each key was seen. -/
def CntM (f : Key3 → Option Value) (l : List Ev) : Prop := ∀ k, (k ∉ l.map Ev.key → f k = none) ∧ (k ∈ l.map Ev.key → ∃ c : Nat, f k = some (I c) ∧ 1 ≤ c ∧ c ≤ l.length)

theorem CntM.next {f : Key3 → Option Value} {l : List Ev} {e : Ev} (H : CntM f l) :
    ∃ c : Nat, (f e.key).getD (I 0) = I c ∧ c ≤ l.length ∧ (1 ≤ c ↔ e.key ∈ l.map Ev.key) ∧ CntM (KM.fset f e.key (I (c + 1 : Nat))) (l ++ [e]) := by
  have key : ∀ c : Nat, c ≤ l.length → CntM (KM.fset f e.key (I (c + 1 : Nat))) (l ++ [e]) := fun c hc k => by
    obtain ⟨h1, h2⟩ := H k
    unfold KM.fset
    by_cases hk : k = e.key
    · subst hk
      rw [if_pos rfl]
      exact ⟨fun h => absurd (by simp) h, fun _ => ⟨c + 1, rfl, by omega, by simp; omega⟩⟩
    · rw [if_neg hk]
      have : k ∈ (l ++ [e]).map Ev.key ↔ k ∈ l.map Ev.key := by simp [hk]
      rw [this]
      refine ⟨h1, fun h => ?_⟩
      obtain ⟨c', h3, h4, h5⟩ := h2 h
      exact ⟨c', h3, h4, by simp; omega⟩
  obtain ⟨h1, h2⟩ := H e.key
  by_cases hm : e.key ∈ l.map Ev.key
  · obtain ⟨c, h3, h4, h5⟩ := h2 hm
    exact ⟨c, by rw [h3]; rfl, h5, ⟨fun _ => hm, fun _ => h4⟩, key c h5⟩
  · exact ⟨0, by rw [h1 hm]; rfl, by omega, ⟨fun h => by omega, fun h => absurd h hm⟩, key 0 (by omega)⟩

/-- What is wrong at a place. -/
def badO (n m : Nat) (l : List Ev) (i : Nat) : Bool := match l[i]? with
  | some e => !mayE n m e || decide (e.key ∈ (l.take i).map Ev.key)
  | none => false

theorem badO_iff {n m : Nat} {l : List Ev} : (¬ ∃ k, k < l.length ∧ badO n m l k = true) ↔ OnceE n m l := by
  constructor
  · intro h i e he
    have hi : i < l.length := (List.getElem?_eq_some_iff.1 he).1
    have : badO n m l i ≠ true := fun hb => h ⟨i, hi, hb⟩
    unfold badO at this
    rw [he] at this
    simp at this
    exact ⟨this.1, by simpa using this.2⟩
  · rintro h ⟨k, hk, hb⟩
    have he : l[k]? = some l[k] := List.getElem?_eq_getElem hk
    obtain ⟨h1, h2⟩ := h k _ he
    unfold badO at hb
    rw [he] at hb
    simp only [h1, Bool.not_true, Bool.false_or, decide_eq_true_eq] at hb
    exact h2 hb

theorem once_ok (H : NetR h r g) (Hl : Vw encE 4 h vl l) (hll : l.length < 2 ^ 40) (hK : ∀ b h', Ext h h' → (b = true ↔ OnceE g.n g.arcs.length l) → K (.bool b) h') : callS Tryz.prog F_trace_Once [ptr r, vl] h K := by
  refine callS_of (lk_trace_Once _ _ ?_)
  unfold sh_trace_Once
  simp only [pEq_ptr_nil, Option.isNone_some, ifV_false]
  refine callS_of (lk_trace_may _ ?_)
  unfold sh_trace_may
  refine (Own.start h).box fun n1 h1 o1 => o1.box fun p5 h2 o2 => o2.st1 0 (cs' := [.func (.func F_trace_may_1) #[] #[ptr n1]]) rfl rfl rfl rfl rfl fun h3 o3 => ?_
  refine o3.kmk (Q3 3 T_int) fun m h4 o4 => o4.box fun p6 h5 o5 => o5.st1 0 (cs' := [.map (some m)]) rfl rfl rfl rfl rfl fun h6 o6 => ?_
  clear o5 o4 o3 o2 o1
  refine containsE_ok (hb := h) Hl hll (fun i h' => ∃ f, CntM f (l.take i) ∧ Own h h' [cellR p6 [.map (some m)] T_map_3_int_int, kmapR (Q3 3 T_int) m f, cellR p5 [.func (.func F_trace_may_1) #[] #[ptr n1]] T_func_api_Event_bool, cellR n1 [ptr r] T_p_net_Net])
    (badO g.n g.arcs.length l) ⟨_, fun k => ⟨fun _ => rfl, fun h => by simp at h⟩, o6⟩ (fun i h' ⟨_, _, o⟩ => o.ext) ?_ ?_
  · rintro i hi h' K' ⟨f, hc, o⟩ hK'
    have he : l[i]? = some l[i] := List.getElem?_eq_getElem hi
    have htk : l.take (i + 1) = l.take i ++ [l[i]] := List.take_succ_eq_append_getElem hi
    have hb : badO g.n g.arcs.length l i = (!mayE g.n g.arcs.length l[i] || decide (l[i].key ∈ (l.take i).map Ev.key)) := by unfold badO; rw [he]
    rw [htk] at hK'
    rw [hb] at hK'
    have htl : (l.take i).length < 2 ^ 40 := by rw [List.length_take]; omega
    generalize l[i] = e at hK'
    refine callV_of (l := [.agg (encE e).toArray, ptr p6, ptr p5]) rfl (lk_trace_Once_1 _ _ _ ?_)
    unfold sh_trace_Once_1
    refine o.box fun e3 h1 o1 => ?_
    rw [encE_cells] at o1
    simp only [pField_ptr]
    refine o1.load 0 rfl rfl (o1.load 0 rfl rfl (o1.load 0 rfl rfl ?_))
    refine pBuild_ones (cs' := [I e.kind, I e.side, I e.id]) (fun p hp => by simp at hp; rcases hp with rfl | rfl | rfl <;> rfl) rfl rfl ?_
    refine o1.box fun p7 h2 o2 => o2.st (cs' := [I e.kind, I e.side, I e.id]) 0 rfl rfl rfl rfl rfl (by intro u hu; simp at hu; rcases hu with rfl | rfl | rfl <;> rfl) fun h3 o3 => ?_
    refine o3.load 2 rfl rfl (o3.ldN (cs' := [I e.kind, I e.side, I e.id]) 0 rfl rfl rfl ?_)
    obtain ⟨c, c1, c2, c3, c4⟩ := hc.next (e := e)
    refine o3.klook (Q := Q3 3 T_int) (k := e.key) 3 rfl ?_
    rw [if_neg (by decide), c1, pBin_add, wI c (by omega)]
    refine o3.kentry (Q := Q3 3 T_int) (k := e.key) 3 rfl fun h4 s o4 hst => ⟨?_, ?_⟩
    · refine o4.klook (Q := Q3 3 T_int) (k := e.key) 3 rfl ?_
      rw [if_neg (by decide), ← c1]
      simp [KM.fset]
    · rw [pExt1]
      refine hst _ _ fun h5 o5 => ?_
      refine o5.load 4 rfl rfl (o5.ldN (cs' := encE e) 1 rfl rfl rfl ?_)
      have cn : hcell h5 ⟨n1, 0, none⟩ = some (ptr r) := hcell_of (o5.get 5 rfl) rfl
      refine may1_ok (H.more o5.ext) cn fun h6 x6 => ?_
      have o6 := o5.more x6
      rw [pUn_not]
      cases hmay : mayE g.n g.arcs.length e with
      | false =>
        rw [Bool.not_false, ifV_true]
        rw [hmay] at hK'
        exact hK' h6 o6.ext fun h => by simp at h
      | true =>
        rw [Bool.not_true, ifV_false]
        refine o6.load 2 rfl rfl (o6.ldN (cs' := [I e.kind, I e.side, I e.id]) 0 rfl rfl rfl ?_)
        refine o6.klook (Q := Q3 3 T_int) (k := e.key) 3 rfl ?_
        rw [if_neg (by decide)]
        have : ((KM.fset f e.key (I (c + 1 : Nat))) e.key).getD (I 0) = I (c + 1 : Nat) := by simp [KM.fset]
        rw [this, pBin_gtr]
        have e2 : decide ((1 : Int) < ((c + 1 : Nat) : Int)) = (!mayE g.n g.arcs.length e || decide (e.key ∈ (l.take i).map Ev.key)) := by
          rw [hmay, Bool.not_true, Bool.false_or]
          exact decide_eq_decide.2 ⟨fun h => c3.1 (by omega), fun h => by have := c3.2 h; omega⟩
        rw [e2]
        exact hK' h6 o6.ext fun _ => ⟨_, c4, o6.sel [2, 3, 4, 5] (by decide)⟩
  · intro b h' x hbi
    rw [pUn_not]
    refine hK _ _ x ?_
    rw [Bool.not_eq_true', ← badO_iff, ← hbi]
    simp

theorem onceN_ok (hK : K (.bool false) h) : callS Tryz.prog F_trace_Once [.pointer none, vl] h K := by
  refine callS_of (lk_trace_Once _ _ ?_)
  unfold sh_trace_Once
  simp only [pEq_ptr_nil, Option.isNone_none, ifV_true]
  exact hK

theorem ttail_ok (H : NetR h r g) (hm : mayE g.n g.arcs.length e = true) (hk : e.kind ≠ 0) (hK : ∀ h', Ext h h' → K (I (tailE g e)) h') : callS Tryz.prog F_trace_tail [ptr r, I e.id, I e.side] h K := by
  refine callS_of (lk_trace_tail _ _ _ ?_)
  unfold sh_trace_tail
  obtain ⟨m1, m2, m3, m4⟩ := of_decide_eq_true hm
  have hk1 : e.kind = 1 := by
    unfold mostE at m2
    rw [if_neg hk] at m2
    by_cases h1 : e.kind = 1
    · exact h1
    · rw [if_neg h1] at m2; omega
  have hid : e.id < g.arcs.length := by
    unfold mostE at m2
    rw [if_neg hk, if_pos hk1] at m2; exact m2
  obtain ⟨i, hi⟩ := Int.eq_ofNat_of_zero_le m1
  have hil : i < g.arcs.length := by omega
  have ht : tailE g e = if e.side = 1 then (g.arcs[i].t : Int) else (g.arcs[i].f : Int) := by
    unfold tailE
    rw [hi, Int.toNat_natCast, List.getElem?_eq_getElem hil]
  rw [hi]
  refine arc_ok H hil fun h1 x1 => ?_
  simp only [pExt0, pExt1]
  have o1 := (Own.start h).more x1
  refine o1.box fun b h2 o2 => o2.st 0 rfl rfl rfl rfl rfl (encA_plain _) fun h3 o3 => ?_
  simp only [pField_ptr]
  rw [pBin_eql]
  by_cases hs : e.side = 1
  · rw [show (e.side == 1) = true by simpa using hs, ifV_true]
    refine o3.load 0 rfl rfl ?_
    rw [if_pos hs] at ht
    rw [ht] at hK
    exact hK _ o3.ext
  · rw [show (e.side == 1) = false by simpa using hs, ifV_false]
    refine o3.load 0 rfl rfl ?_
    rw [if_neg hs] at ht
    rw [ht] at hK
    exact hK _ o3.ext

def badH (g : G) (l : List Ev) (i : Nat) : Bool := match l[i]? with
  | some e => !mayE g.n g.arcs.length e || decide (e.kind ≠ 0 ∧ lastE (l.take i) e.side ≠ tailE g e)
  | none => false

theorem badH_iff {l : List Ev} : (¬ ∃ k, k < l.length ∧ badH g l k = true) ↔ HeadsE g l := by
  constructor
  · intro h i e he
    have hi : i < l.length := (List.getElem?_eq_some_iff.1 he).1
    have : badH g l i ≠ true := fun hb => h ⟨i, hi, hb⟩
    unfold badH at this
    rw [he] at this
    have this := Bool.eq_false_iff.2 this
    simp only [Bool.or_eq_false_iff, Bool.not_eq_false', decide_eq_false_iff_not] at this
    exact ⟨this.1, fun hk => Decidable.not_not.1 fun hn => this.2 ⟨hk, hn⟩⟩
  · rintro h ⟨k, hk, hb⟩
    have he : l[k]? = some l[k] := List.getElem?_eq_getElem hk
    obtain ⟨h1, h2⟩ := h k _ he
    unfold badH at hb
    rw [he] at hb
    simp only [h1, Bool.not_true, Bool.false_or, decide_eq_true_eq] at hb
    exact hb.2 (h2 hb.1)

theorem heads_ok (H : NetR h r g) (Hl : Vw encE 4 h vl l) (hll : l.length < 2 ^ 40) (hK : ∀ b h', Ext h h' → (b = true ↔ HeadsE g l) → K (.bool b) h') : callS Tryz.prog F_trace_Heads [ptr r, vl] h K := by
  refine callS_of (lk_trace_Heads _ _ ?_)
  unfold sh_trace_Heads
  refine (Own.start h).box fun n2 h1 o1 => o1.load 0 rfl rfl ?_
  simp only [pEq_ptr_nil, Option.isNone_some, ifV_false]
  refine o1.load 0 rfl rfl ?_
  refine callS_of (lk_trace_may _ ?_)
  unfold sh_trace_may
  refine o1.box fun n1 h2 o2 => o2.box fun p5 h3 o3 => o3.st1 0 (cs' := [.func (.func F_trace_may_1) #[] #[ptr n1]]) rfl rfl rfl rfl rfl fun h4 o4 => ?_
  refine pBuild_ones (cs' := [I (-1), I (-1)]) (fun p hp => by simp at hp; rcases hp with rfl | rfl <;> rfl) rfl rfl ?_
  refine o4.box fun p6 h5 o5 => o5.st (cs' := [I (-1), I (-1)]) 0 rfl rfl rfl rfl rfl (by intro u hu; simp at hu; rcases hu with rfl | rfl <;> rfl) fun h6 o6 => ?_
  clear o5 o4 o3 o2 o1
  refine containsE_ok (hb := h) Hl hll (fun i h' => Own h h' [cellR p6 [I (lastE (l.take i) 0), I (lastE (l.take i) 1)] T_2_int, cellR p5 [.func (.func F_trace_may_1) #[] #[ptr n1]] T_func_api_Event_bool, cellR n1 [ptr r] T_p_net_Net, cellR n2 [ptr r] T_p_net_Net])
    (badH g l) o6 (fun i h' o => o.ext) ?_ ?_
  · intro i hi h' K' o hK'
    have he : l[i]? = some l[i] := List.getElem?_eq_getElem hi
    have htk : l.take (i + 1) = l.take i ++ [l[i]] := List.take_succ_eq_append_getElem hi
    have hb : badH g l i = (!mayE g.n g.arcs.length l[i] || decide (l[i].kind ≠ 0 ∧ lastE (l.take i) l[i].side ≠ tailE g l[i])) := by unfold badH; rw [he]
    rw [htk, hb, lastE_snoc, lastE_snoc] at hK'
    generalize l[i] = e at hK'
    generalize l.take i = lt at hK' o
    refine callV_of (l := [.agg (encE e).toArray, ptr p5, ptr p6, ptr n2]) rfl (lk_trace_Heads_1 _ _ _ _ ?_)
    unfold sh_trace_Heads_1
    refine o.box fun e4 h1 o1 => ?_
    rw [encE_cells] at o1
    refine o1.load 2 rfl rfl (o1.ldN (cs' := encE e) 0 rfl rfl rfl ?_)
    have cn : hcell h1 ⟨n1, 0, none⟩ = some (ptr r) := hcell_of (o1.get 3 rfl) rfl
    refine may1_ok (H.more o1.ext) cn fun h2 x2 => ?_
    have o2 := o1.more x2
    rw [pUn_not]
    cases hmay : mayE g.n g.arcs.length e with
    | false =>
      rw [Bool.not_false, ifV_true]
      rw [hmay] at hK'
      exact hK' h2 o2.ext fun h => by simp at h
    | true =>
      rw [Bool.not_true, ifV_false]
      rw [hmay, Bool.not_true, Bool.false_or] at hK'
      obtain ⟨m1, m2, m3, m4⟩ := of_decide_eq_true hmay
      simp only [pField_ptr]
      refine o2.load 0 rfl rfl ?_
      rw [pBin_eql]
      by_cases hk : e.kind = 0
      · rw [show (e.kind == 0) = true by simpa using hk, ifV_true]
        refine o2.load 0 rfl rfl (o2.load 0 rfl rfl ?_)
        rw [decide_eq_false (fun h => h.1 hk)] at hK'
        rw [pIdxA_ptr]
        refine ⟨by omega, ?_⟩
        rcases m3 with hs | hs
        · rw [hs] at hK' ⊢
          rw [if_pos ⟨hk, rfl⟩, if_neg (by rintro ⟨_, h⟩; cases h)] at hK'
          refine o2.st1 1 (cs' := [I e.id, I (lastE lt 1)]) rfl rfl rfl rfl rfl fun h3 o3 => ?_
          exact hK' h3 o3.ext fun _ => o3.sel [1, 2, 3, 4] (by decide)
        · rw [hs] at hK' ⊢
          rw [if_neg (by rintro ⟨_, h⟩; cases h), if_pos ⟨hk, rfl⟩] at hK'
          refine o2.st1 1 (cs' := [I (lastE lt 0), I e.id]) rfl rfl rfl rfl rfl fun h3 o3 => ?_
          exact hK' h3 o3.ext fun _ => o3.sel [1, 2, 3, 4] (by decide)
      · rw [show (e.kind == 0) = false by simpa using hk, ifV_false]
        refine o2.load 0 rfl rfl ?_
        rw [pIdxA_ptr]
        refine ⟨by omega, ?_⟩
        have ld : ∀ {hh : Heap} {K2 : Value → Prop}, Own h hh [cellR e4 (encE e) T_api_Event, cellR p6 [I (lastE lt 0), I (lastE lt 1)] T_2_int, cellR p5 [.func (.func F_trace_may_1) #[] #[ptr n1]] T_func_api_Event_bool, cellR n1 [ptr r] T_p_net_Net, cellR n2 [ptr r] T_p_net_Net] →
            K2 (I (lastE lt e.side)) → pLoad hh (.pointer (some ⟨p6, 0 + e.side.toNat * 1, none⟩)) K2 := fun o hk2 => by
          rcases m3 with hs | hs
          · rw [hs] at hk2 ⊢; exact o.load 1 rfl rfl hk2
          · rw [hs] at hk2 ⊢; exact o.load 1 rfl rfl hk2
        refine ld o2 (o2.load 4 rfl rfl (o2.load 0 rfl rfl (o2.load 0 rfl rfl ?_)))
        refine ttail_ok (H.more o2.ext) hmay hk fun h3 x3 => ?_
        have o3 := o2.more x3
        refine ⟨o3.load 0 rfl rfl rfl, ld o3 rfl, ?_⟩
        rw [pBin_neq]
        have e1 : (lastE lt e.side != tailE g e) = decide (e.kind ≠ 0 ∧ lastE lt e.side ≠ tailE g e) := by
          rw [Bool.eq_iff_iff, bne_iff_ne, decide_eq_true_eq]
          exact ⟨fun h => ⟨hk, h⟩, fun h => h.2⟩
        rw [e1]
        rw [if_neg (fun h => hk h.1), if_neg (fun h => hk h.1)] at hK'
        exact hK' h3 o3.ext fun _ => o3.tail
  · intro b h' x hbi
    rw [pUn_not]
    refine hK _ _ x ?_
    rw [Bool.not_eq_true', ← badH_iff, ← hbi]
    simp

theorem headsN_ok (hK : ∀ h', Ext h h' → K (.bool false) h') : callS Tryz.prog F_trace_Heads [.pointer none, vl] h K := by
  refine callS_of (lk_trace_Heads _ _ ?_)
  unfold sh_trace_Heads
  refine (Own.start h).box fun n2 h1 o1 => o1.load 0 rfl rfl ?_
  simp only [pEq_ptr_nil, Option.isNone_none, ifV_true]
  exact hK _ o1.ext

end
end Go.Proofs.YtgefabaobhendaaGreatDoor

namespace Go.Proofs.YtgefabaobhendaaGreatDoor
open Go Go.Mh
set_option linter.unusedVariables false

section
variable {h0 h hb : Heap} {L : List Res} {K : Value → Heap → Prop} {g : G} {r : Nat} {e : Ev} {l : List Ev} {vl : Value} {k s : Int}

theorem of_iter {l3 k4 s5 : Nat} {T1 T2 T3 : TypeId} (hll : l.length < 2 ^ 40) :
    IterG Tryz.prog (.func (.func F_trace_of_1) #[] #[ptr l3, ptr k4, ptr s5])
      (fun h => h[l3]? = some (.cells #[vl] T1 (0, 0)) ∧ h[k4]? = some (.cells #[I k] T2 (0, 0)) ∧ h[s5]? = some (.cells #[I s] T3 (0, 0)) ∧ Vw encE 4 h vl l) (σ := Nat)
      0 (NextE k s l) (fun i => GapE k s l i l.length) := by
  rintro yv h0 h Rs K J E ⟨w, rfl⟩ o j0 hQ hY hK
  refine callF_of (l := [yieldV w, ptr l3, ptr k4, ptr s5]) rfl (lk_trace_of_1 _ _ _ _ ?_)
  unfold sh_trace_of_1
  obtain ⟨hb, _, _, hv⟩ := hQ _ _ _ j0 o
  have hc : hcell h ⟨l3, 0, none⟩ = some vl := hcell_of hb rfl
  refine pLoad_of rfl hc (hv.len ?_)
  refine LoopH_count l.length (fun q x h' => x.1 = I q ∧ ∃ i Rs', i ≤ q ∧ GapE k s l i q ∧ J i Rs' ∧ Own h0 h' Rs') ⟨rfl, 0, Rs, Nat.le_refl _, fun q e h1 h2 => by omega, j0, o⟩ ?_
  clear j0 o hb hc hv
  rintro q ⟨x, ⟨⟩⟩ h Z hq ⟨hx, i, Rs', hiq, hg, hj, o⟩ hZ
  dsimp only at hx hZ ⊢
  subst hx
  unfold sh_trace_of_1_L1
  simp only [pBin_lss, ifV_dec]
  refine ⟨fun hlt => ?_, fun hge => ?_⟩
  · have hlt : q < l.length := by omega
    obtain ⟨_, hk, hs, hv⟩ := hQ _ _ _ hj o
    have hq2 : l[q]? = some l[q] := List.getElem?_eq_getElem hlt
    refine hv.atN encE_len hlt ?_
    generalize l[q] = e at hq2
    refine o.box fun e6 h1 o1 => o1.st (cs' := encE e) 0 rfl rfl rfl rfl rfl (encE_plain e) fun h2 o2 => ?_
    obtain ⟨_, hk2, hs2, _⟩ := hQ _ _ _ hj o2.tail
    have ck : hcell h2 ⟨k4, 0, none⟩ = some (I k) := hcell_of hk2 rfl
    have cs : hcell h2 ⟨s5, 0, none⟩ = some (I s) := hcell_of hs2 rfl
    have skip : isE k s e = false → sh_trace_of_1_k2 Tryz.prog (I q) (fun a0 hz => Z (a0, ()) hz) h2 := fun he => by
      unfold sh_trace_of_1_k2
      rw [pBin_add, wI q (by omega)]
      refine hZ (I (q + 1 : Nat), ()) h2 hlt ⟨rfl, i, Rs', by omega, fun q' e' h1 h2 h3 => ?_, hj, o2.tail⟩
      rcases Nat.lt_succ_iff_lt_or_eq.1 h2 with h | rfl
      · exact hg q' e' h1 h h3
      · rw [hq2] at h3
        obtain rfl := Option.some.inj h3
        exact he
    simp only [pField_ptr]
    refine o2.load 0 rfl rfl (pLoad_of rfl ck ?_)
    rw [pBin_eql]
    by_cases e1 : e.kind = k
    · rw [show (e.kind == k) = true by simpa using e1, ifV_true]
      refine o2.load 0 rfl rfl (pLoad_of rfl cs ?_)
      rw [pBin_eql]
      by_cases e2 : e.side = s
      · rw [show (e.side == s) = true by simpa using e2, ifV_true]
        have he : isE k s e = true := decide_eq_true ⟨e1, e2⟩
        refine o2.ldN (cs' := encE e) 0 rfl rfl rfl ?_
        refine hY i _ (q + 1) Rs' [] h2 _ ⟨q, e, hq2, hiq, he, hg, rfl, rfl⟩ hj o2.tail.nilTail (fun Rs'' h'' hj' o' => ?_) fun Rs'' h'' he o' => ?_
        · rw [pUn_not, Bool.not_true, ifV_false]
          unfold sh_trace_of_1_k2
          rw [pBin_add, wI q (by omega)]
          exact hZ (I (q + 1 : Nat), ()) h'' hlt ⟨rfl, q + 1, Rs'', Nat.le_refl _, fun q e h1 h2 => by omega, hj', o'.toNil⟩
        · rw [pUn_not, Bool.not_false, ifV_true]
          exact hK _ _ (.inr he) o'.toNil
      · rw [show (e.side == s) = false by simpa using e2, ifV_false]
        exact skip (decide_eq_false fun h => e2 h.2)
    · rw [show (e.kind == k) = false by simpa using e1, ifV_false]
      exact skip (decide_eq_false fun h => e1 h.1)
  · have : q = l.length := by omega
    subst this
    exact hK _ _ (.inl ⟨i, hg, hj⟩) o

theorem told_ok (o : Own h0 h L) (Hl : Vw encE 4 h vl l) (hll : l.length < 2 ^ 40) (hK : ∀ w h', Own h0 h' (slR encI 1 T_int w (ofE k s l) :: L) → K w h') :
    callS Tryz.prog F_trace_of [vl, I k, I s] h fun t7 h_1 => callS Tryz.prog F_trace_told_int [t7, (.func (.func F_trace_id) #[] #[])] h_1 fun t8 h_2 => K t8 h_2 := by
  refine callS_of (lk_trace_of _ _ _ ?_)
  unfold sh_trace_of
  refine (Own.start h).box fun l3 h1 o1 => o1.box fun k4 h2 o2 => o2.box fun s5 h3 o3 => ?_
  rw [show (Value.cells vl).toList = [vl] by rw [Hl.one]] at o3
  refine callS_of (lk_trace_told_int _ _ ?_)
  unfold sh_trace_told_int
  refine o3.box fun t3 h4 o4 => o4.box fun p4 h5 o5 => ?_
  have o6 : Own h h5 [slR encI 1 T_int (.slice none 0 0) (ofE k s (l.take 0)), cellR p4 [.slice none 0 0] T_sl_int, cellR t3 [.func (.func F_trace_id) #[] #[]] T_func_api_Event_int, cellR s5 [I s] T_int, cellR k4 [I k] T_int, cellR l3 [vl] T_sl_api_Event] :=
    (o5.nilS (enc := encI) (n := 1) (T := T_int)).sel [0, 1, 2, 3, 4, 5] (by decide)
  clear o5 o4 o3 o2 o1
  refine o6.range (of_iter (l := l) (vl := vl) (k := k) (s := s) (T1 := T_sl_api_Event) (T2 := T_int) (T3 := T_int) hll) (by rintro i x i' ⟨j, e, _, _, _, _, rfl, _⟩; rfl)
    (fun i Rs => ∃ w, Rs = [slR encI 1 T_int w (ofE k s (l.take i)), cellR p4 [w] T_sl_int, cellR t3 [.func (.func F_trace_id) #[] #[]] T_func_api_Event_int, cellR s5 [I s] T_int, cellR k4 [I k] T_int, cellR l3 [vl] T_sl_api_Event])
    (fun _ => False) (fun _ _ => False) ⟨_, rfl⟩ ?_ ?_ ?_ (fun _ _ h => h.elim) (fun _ _ _ h => h.elim)
  · rintro i Rs' h' ⟨w, rfl⟩ o'
    exact ⟨o'.get 5 rfl, o'.get 4 rfl, o'.get 3 rfl, Hl.more o'.ext⟩
  · rintro M i x i' Rs' Pr h' R ⟨j, e, hj, hij, he, hg, rfl, rfl⟩ ⟨w, rfl⟩ o' hN _ _
    dsimp only [valsOf]
    unfold sh_trace_told_int_B1
    have hjl : j < l.length := (List.getElem?_eq_some_iff.1 hj).1
    have hofl : (ofE k s (l.take i)).length < 2 ^ 40 := by
      unfold ofE
      rw [List.length_map]
      have h1 := List.length_filter_le (isE k s) (l.take i)
      rw [List.length_take] at h1
      omega
    have eof : ofE k s (l.take (j + 1)) = ofE k s (l.take i) ++ [e.id] := by
      unfold ofE
      rw [next_filter hj hij he hg, List.map_append]; rfl
    refine o'.box fun e6 h7 o7 => o7.st (cs' := encE e) 0 rfl rfl rfl rfl rfl (encE_plain e) fun h8 o8 => ?_
    refine o8.begin 1 rfl fun h9 o9 => ?_
    have o9 : Own h h9 (cellR e6 (encE e) T_api_Event :: loopR _ _ :: markR _ :: slR encI 1 T_int w (ofE k s (l.take i)) :: cellR p4 [w] T_sl_int :: cellR t3 [.func (.func F_trace_id) #[] #[]] T_func_api_Event_int :: cellR s5 [I s] T_int :: cellR k4 [I k] T_int :: cellR l3 [vl] T_sl_api_Event :: Pr) := o9
    refine o9.load 4 rfl rfl (o9.load 5 rfl rfl (o9.ldN (cs' := encE e) 0 rfl rfl rfl ?_))
    refine callV_of (l := [.agg (encE e).toArray]) rfl (lk_trace_id _ ?_)
    unfold sh_trace_id
    refine (Own.start h9).box fun e1 h10 o10 => ?_
    rw [encE_cells] at o10
    simp only [pField_ptr]
    refine o10.load 0 rfl rfl ?_
    have o11 := o9.more o10.ext
    refine ⟨o11.load 4 rfl rfl rfl, ?_⟩
    refine o11.app1 3 e.id rfl rfl (sizesOk_of rfl) encI_len encI_plain rfl (by decide) (by omega) fun w' h12 o12 => ?_
    rw [← eof] at o12
    have hv' := o12.vw 3 rfl
    refine o12.st1 4 (cs' := [w']) rfl rfl rfl hv'.one hv'.plain fun h13 o13 => ?_
    exact hN _ h13 ⟨w', rfl⟩ o13.tail
  · rintro i h' Rs' hgap ⟨w, rfl⟩ o'
    have eo : ofE k s (l.take i) = ofE k s l := by
      unfold ofE
      by_cases hil : i ≤ l.length
      · rw [← gap_of hil hgap, List.take_length]
      · rw [List.take_of_length_le (by omega)]
    rw [eo] at o'
    have hv := o'.vw 1 rfl
    refine o'.load 2 rfl rfl (o'.st1 2 (cs' := [w]) rfl rfl rfl hv.one hv.plain fun h9 o9 => o9.take1 0 rfl fun h10 o10 => o10.load 2 rfl rfl ?_)
    exact hK w h10 (o.frame (o10.sel [1] (by decide)))

theorem pops_ok (o : Own h0 h L) (Hl : Vw encE 4 h vl l) (hll : l.length < 2 ^ 40) (hK : ∀ w h', Own h0 h' (slR encI 1 T_int w (ofE 0 s l) :: L) → K w h') : callS Tryz.prog F_trace_Pops [vl, I s] h K := by
  refine callS_of (lk_trace_Pops _ _ ?_)
  exact told_ok o Hl hll hK

theorem scans_ok (o : Own h0 h L) (Hl : Vw encE 4 h vl l) (hll : l.length < 2 ^ 40) (hK : ∀ w h', Own h0 h' (slR encI 1 T_int w (ofE 1 s l) :: L) → K w h') : callS Tryz.prog F_trace_Scans [vl, I s] h K := by
  refine callS_of (lk_trace_Scans _ _ ?_)
  exact told_ok o Hl hll hK

def labV (x : Option Int) : Value := match x with
  | some a => .tuple #[I a, .bool true]
  | none => .tuple #[I 0, .bool false]

theorem label_ok {v : Int} (Hl : Vw encE 4 h vl l) (hll : l.length < 2 ^ 40) (hK : ∀ h', Ext h h' → K (labV (labE l s v)) h') : callS Tryz.prog F_trace_Label [vl, I s, I v] h K := by
  refine callS_of (lk_trace_Label _ _ _ ?_)
  unfold sh_trace_Label
  refine (Own.start h).box fun v5 h1 o1 => o1.box fun p6 h2 o2 => o2.box fun p7 h3 o3 => ?_
  refine callS_of (lk_trace_of _ _ _ ?_)
  unfold sh_trace_of
  refine o3.box fun l3 h4 o4 => o4.box fun k4 h5 o5 => o5.box fun s5 h6 o6 => ?_
  rw [show (Value.cells vl).toList = [vl] by rw [Hl.one]] at o6
  have o6 : Own h h6 [cellR s5 [I s] T_int, cellR k4 [I 0] T_int, cellR l3 [vl] T_sl_api_Event, cellR p7 [.bool false] T_bool, cellR p6 [I 0] T_int64, cellR v5 [I v] T_int] := o6
  clear o5 o4 o3 o2 o1
  refine o6.range (of_iter (l := l) (vl := vl) (k := 0) (s := s) (T1 := T_sl_api_Event) (T2 := T_int) (T3 := T_int) hll) (by rintro i x i' ⟨j, e, _, _, _, _, rfl, _⟩; rfl)
    (fun i Rs => (∀ e ∈ (l.take i).filter (isE 0 s), e.id ≠ v) ∧ Rs = [cellR s5 [I s] T_int, cellR k4 [I 0] T_int, cellR l3 [vl] T_sl_api_Event, cellR p7 [.bool false] T_bool, cellR p6 [I 0] T_int64, cellR v5 [I v] T_int])
    (fun Rs => ∃ a, labE l s v = some a ∧ Rs = [cellR s5 [I s] T_int, cellR k4 [I 0] T_int, cellR l3 [vl] T_sl_api_Event, cellR p7 [.bool true] T_bool, cellR p6 [I a] T_int64, cellR v5 [I v] T_int]) (fun _ _ => False) ⟨by simp, rfl⟩ ?_ ?_ ?_ ?_ (fun _ _ _ h => h.elim)
  · rintro i Rs' h' ⟨_, rfl⟩ o'
    exact ⟨o'.get 2 rfl, o'.get 1 rfl, o'.get 0 rfl, Hl.more o'.ext⟩
  · rintro M i x i' Rs' Pr h' R ⟨j, e, hj, hij, he, hg, rfl, rfl⟩ ⟨hno, rfl⟩ o' hN hE _
    dsimp only [valsOf]
    unfold sh_trace_Label_B1
    have hnf := next_filter hj hij he hg
    refine o'.box fun e6 h7 o7 => o7.st (cs' := encE e) 0 rfl rfl rfl rfl rfl (encE_plain e) fun h8 o8 => ?_
    refine o8.begin 1 rfl fun h9 o9 => ?_
    have o9 : Own h h9 (cellR e6 (encE e) T_api_Event :: loopR _ _ :: markR _ :: cellR s5 [I s] T_int :: cellR k4 [I 0] T_int :: cellR l3 [vl] T_sl_api_Event :: cellR p7 [.bool false] T_bool :: cellR p6 [I 0] T_int64 :: cellR v5 [I v] T_int :: Pr) := o9
    simp only [pField_ptr]
    refine o9.load 0 rfl rfl (o9.load 8 rfl rfl ?_)
    rw [pBin_eql]
    by_cases ev : e.id = v
    · rw [show (e.id == v) = true by simpa using ev, ifV_true]
      refine o9.load 0 rfl rfl (o9.st1 7 (cs' := [I e.label]) rfl rfl rfl rfl rfl fun h10 o10 => o10.st1 6 (cs' := [.bool true]) rfl rfl rfl rfl rfl fun h11 o11 => ?_)
      refine hE _ h11 ⟨e.label, ?_, rfl⟩ o11.tail
      unfold labE
      have hsplit : l.filter (isE 0 s) = ((l.take i).filter (isE 0 s) ++ [e]) ++ (l.drop (j + 1)).filter (isE 0 s) := by
        rw [← hnf, ← List.filter_append, List.take_append_drop]
      have hnone : ((l.take i).filter (isE 0 s)).find? (fun e => e.id == v) = none := by
        rw [List.find?_eq_none]
        intro x hx
        simpa using hno x hx
      rw [hsplit, List.append_assoc, List.find?_append, hnone]
      simp [ev]
    · rw [show (e.id == v) = false by simpa using ev, ifV_false]
      refine hN _ h9 ⟨fun x hx => ?_, rfl⟩ o9.tail
      rw [hnf] at hx
      rcases List.mem_append.1 hx with hx | hx
      · exact hno x hx
      · rw [List.mem_singleton.1 hx]; exact ev
  · rintro i h' Rs' hgap ⟨hno, rfl⟩ o'
    have en : labE l s v = none := by
      have eo : l.filter (isE 0 s) = (l.take i).filter (isE 0 s) := by
        by_cases hil : i ≤ l.length
        · rw [← gap_of hil hgap, List.take_length]
        · rw [List.take_of_length_le (by omega)]
      unfold labE
      rw [eo]
      have : ((l.take i).filter (isE 0 s)).find? (fun e => e.id == v) = none := by
        rw [List.find?_eq_none]
        intro x hx
        simpa using hno x hx
      rw [this]; rfl
    rw [en] at hK
    refine o'.st1 5 (cs' := [I 0]) rfl rfl rfl rfl rfl fun h8 o8 => o8.st1 4 (cs' := [.bool false]) rfl rfl rfl rfl rfl fun h9 o9 => o9.take1 0 rfl fun h10 o10 => o10.load 5 rfl rfl (o10.load 4 rfl rfl ?_)
    exact hK h10 o10.ext
  · rintro h' Rs' ⟨a, ea, rfl⟩ o'
    rw [ea] at hK
    refine o'.take1 0 rfl fun h10 o10 => o10.load 5 rfl rfl (o10.load 4 rfl rfl ?_)
    exact hK h10 o10.ext

theorem beyond_ok {fs : List Int} {vf : Value} {most : Int} (Hl : Vw encE 4 h vl l) (hll : l.length < 2 ^ 40) (Hf : Vw encI 1 h vf fs) (hK : ∀ r' h', Ext h h' → Fst (fun i => match l[i]? with | some e => beyP fs most e | none => false) l.length r' → K (I r') h') :
    callS Tryz.prog F_trace_Beyond [vl, vf, I most] h K := by
  refine callS_of (lk_trace_Beyond _ _ _ ?_)
  unfold sh_trace_Beyond
  refine (Own.start h).box fun f4 h1 o1 => o1.box fun m5 h2 o2 => ?_
  rw [show (Value.cells vf).toList = [vf] by rw [Hf.one]] at o2
  refine indexE_ok (hb := h) Hl hll (fun i h' => Own h h' [cellR m5 [I most] T_int64, cellR f4 [vf] T_sl_int64]) _ o2 (fun i h' o => o.ext) ?_ hK
  intro i hi h' K' o hK'
  have he : l[i]? = some l[i] := List.getElem?_eq_getElem hi
  rw [he] at hK'
  dsimp only at hK'
  generalize l[i] = e at hK'
  refine callV_of (l := [.agg (encE e).toArray, ptr f4, ptr m5]) rfl (lk_trace_Beyond_1 _ _ _ ?_)
  unfold sh_trace_Beyond_1
  refine o.box fun e3 h1 o1 => ?_
  rw [encE_cells] at o1
  refine cutP_of (fun y h'' => y.1 = .bool (beyP fs most e) ∧ h'' = h1) (fun J hJ => ?_) ?_
  · have fin : ∀ b : Bool, (b = true ↔ e.kind = 0 ∧ (e.id < 0 ∨ (fs.length : Int) ≤ e.id ∨ most < dAt fs e.id.toNat)) → J (.bool b, ()) h1 := fun b hb => hJ _ _ ⟨by
      show Value.bool b = _
      congr 1
      unfold beyP
      rw [Bool.eq_iff_iff, decide_eq_true_eq]; exact hb, rfl⟩
    simp only [pField_ptr]
    refine o1.load 0 rfl rfl ?_
    rw [pBin_eql]
    by_cases hk : e.kind = 0
    · rw [show (e.kind == 0) = true by simpa using hk, ifV_true]
      refine o1.load 0 rfl rfl ?_
      rw [pBin_lss, ifV_dec]
      refine ⟨fun hneg => fin true ⟨fun _ => ⟨hk, .inl hneg⟩, fun _ => rfl⟩, fun hpos => o1.load 0 rfl rfl (o1.load 2 rfl rfl ((Hf.more o1.ext).len ?_))⟩
      rw [pBin_geq, ifV_dec]
      refine ⟨fun hge => fin true ⟨fun _ => ⟨hk, .inr (.inl hge)⟩, fun _ => rfl⟩, fun hlt => o1.load 2 rfl rfl (o1.load 0 rfl rfl ?_)⟩
      obtain ⟨q, hq⟩ := Int.eq_ofNat_of_zero_le (show 0 ≤ e.id by omega)
      rw [hq] at fin hlt ⊢
      have hql : q < fs.length := by omega
      refine (Hf.more o1.ext).atI hql (o1.load 1 rfl rfl ?_)
      rw [pBin_gtr, dAt_get hql]
      refine fin _ ?_
      rw [decide_eq_true_eq, Int.toNat_natCast]
      exact ⟨fun h => ⟨hk, .inr (.inr h)⟩, fun h => by
        rcases h.2 with h | h | h
        · omega
        · omega
        · exact h⟩
    · rw [show (e.kind == 0) = false by simpa using hk, ifV_false]
      exact fin false ⟨fun h => (by cases h), fun h => absurd h.1 hk⟩
  · rintro ⟨y, ⟨⟩⟩ h2 ⟨hy, rfl⟩
    dsimp only at hy ⊢
    subst hy
    unfold sh_trace_Beyond_1_C1
    exact hK' h2 o1.ext fun _ => o1.tail

end
end Go.Proofs.YtgefabaobhendaaGreatDoor

namespace Go.Proofs.YtgefabaobhendaaGreatDoor
open Go Go.Mh
set_option linter.unusedVariables false

section
variable {h0 h : Heap} {L : List Res} {K : Value → Heap → Prop} {g : G} {vb v : Value} {bs : List Int}

theorem drawn12_ok (H : Vw encU8 1 h vb bs) (hK : ∀ (g : G) vx vy va h', Few g → Own h h' [xR vx g.X, xR vy g.Y, aR va g.arcs] → K (.agg #[I g.n, vx, vy, va]) h') : callS Tryz.prog F_milestonelaw12_drawn [vb] h K := by
  refine callS_of (lk_milestonelaw12_drawn _ ?_)
  unfold sh_milestonelaw12_drawn
  refine (Own.start h).box fun t2 h1 o1 => H.len ?_
  have e : (if (80 : Int) < bs.length then 80 else (bs.length : Int)) = ((min bs.length 80 : Nat) : Int) := by split <;> omega
  rw [pMin_int, e]
  refine H.sub (a := 0) (j := min bs.length 80) encU8_len rfl rfl (by omega) (by omega) fun vb' hb => ⟨sizesOk_of (by obtain ⟨b, c, e⟩ := hb.isSl; subst e; rfl), ?_⟩
  refine o1.box fun d h2 o2 => ?_
  have o3 : Own h h2 (dR d vb' 0 :: [cellR t2 [I 0, sl0, sl0, sl0] T_api_Raw]) := by obtain ⟨b, c, e⟩ := hb.isSl; subst e; exact o2
  refine raw_ok o3 hb fun g vx vy va a' h4 hg o4 => ?_
  have p0 := (o4.vw 0 rfl).plain
  have p1 := (o4.vw 1 rfl).plain
  have p2 := (o4.vw 2 rfl).plain
  refine o4.st 4 rfl rfl rfl rfl rfl ?_ fun h5 o5 => o5.ldN 4 rfl rfl rfl (hK g vx vy va h5 hg (o5.sel [0, 1, 2] (by decide)))
  intro u hu
  simp at hu
  rcases hu with rfl | rfl | rfl | rfl
  · rfl
  · exact p0
  · exact p1
  · exact p2

theorem made12_ok (o : Own h0 h L) (hR : g.Right) (H : RawV h v g) (hK : ∀ r N h', netR N r g → Own h0 h' (N :: L) → K (ptr r) h') : callS Tryz.prog F_milestonelaw12_made [v] h K := by
  obtain ⟨vx, vy, va, rfl, H⟩ := H
  refine callS_of (lk_milestonelaw12_made _ ?_)
  unfold sh_milestonelaw12_made
  refine (Own.start h).box fun b h1 o1 => o1.ldN 0 rfl rfl rfl ?_
  refine new_net_ok o1 hR ⟨vx, vy, va, rfl, H.more o1.ext⟩ fun r N h2 hN o2 => ?_
  simp only [pExt0, pExt1, pNe_iface_nil, ifV_false]
  exact hK r N h2 hN (o.frame (o2.sel [0] (by decide)))

/-- A graph drawn, and its net. -/
theorem rawOf {vx vy va : Value} (o : Own h0 h L) (i j k : Nat) (hi : L[i]? = some (xR vx g.X)) (hj : L[j]? = some (xR vy g.Y)) (hk : L[k]? = some (aR va g.arcs)) : RawV h (.agg #[I g.n, vx, vy, va]) g :=
  ⟨vx, vy, va, rfl, o.vw i hi, o.vw j hj, o.vw k hk⟩

end
end Go.Proofs.YtgefabaobhendaaGreatDoor

namespace Go.Proofs.YtgefabaobhendaaGreatDoor
open Go Go.Mh
set_option linter.unusedVariables false

def onceB (n m : Nat) (l : List Ev) : Bool := (List.range l.length).all fun i => !badO n m l i
def headsB (g : G) (l : List Ev) : Bool := (List.range l.length).all fun i => !badH g l i
theorem onceB_iff {n m : Nat} {l : List Ev} : onceB n m l = true ↔ OnceE n m l := by
  rw [← badO_iff]
  unfold onceB
  simp only [List.all_eq_true, List.mem_range, Bool.not_eq_true']
  exact ⟨fun h => fun ⟨k, hk, hb⟩ => absurd hb (by rw [h k hk]; decide), fun h i hi => Bool.eq_false_iff.2 fun hb => h ⟨i, hi, hb⟩⟩
theorem headsB_iff {g : G} {l : List Ev} : headsB g l = true ↔ HeadsE g l := by
  rw [← badH_iff]
  unfold headsB
  simp only [List.all_eq_true, List.mem_range, Bool.not_eq_true']
  exact ⟨fun h => fun ⟨k, hk, hb⟩ => absurd hb (by rw [h k hk]; decide), fun h i hi => Bool.eq_false_iff.2 fun hb => h ⟨i, hi, hb⟩⟩

section
variable {h0 h : Heap} {L : List Res} {K : Value → Heap → Prop} {g : G} {r : Nat} {l : List Ev} {vl : Value}

theorem onceB_ok {b : Bool} (H : NetR h r g) (Hl : Vw encE 4 h vl l) (hll : l.length < 2 ^ 40) (hb : onceB g.n g.arcs.length l = b) (hK : ∀ h', Ext h h' → K (.bool b) h') : callS Tryz.prog F_trace_Once [ptr r, vl] h K :=
  once_ok H Hl hll fun b' h' x hi => by
    have : b' = b := by rw [← hb, Bool.eq_iff_iff, onceB_iff]; exact hi
    rw [this]; exact hK h' x
theorem headsB_ok {b : Bool} (H : NetR h r g) (Hl : Vw encE 4 h vl l) (hll : l.length < 2 ^ 40) (hb : headsB g l = b) (hK : ∀ h', Ext h h' → K (.bool b) h') : callS Tryz.prog F_trace_Heads [ptr r, vl] h K :=
  heads_ok H Hl hll fun b' h' x hi => by
    have : b' = b := by rw [← hb, Bool.eq_iff_iff, headsB_iff]; exact hi
    rw [this]; exact hK h' x

theorem evZero : (Value.cells (.agg #[.int .i64 0, .int .i64 0, .int .i64 0, .int .i64 0])).toList = encE ⟨0, 0, 0, 0⟩ := rfl

theorem evpop_ok {s v a : Int} (hK : ∀ h', Ext h h' → K (.agg (encE ⟨0, s, v, a⟩).toArray) h') : callS Tryz.prog F_milestonelaw12_pop [I s, I v, I a] h K := by
  refine callS_of (lk_milestonelaw12_pop _ _ _ ?_)
  unfold sh_milestonelaw12_pop
  refine (Own.start h).box fun b h1 o1 => ?_
  refine pBuild_ones (cs' := encE ⟨0, s, v, a⟩) (fun p hp => by simp at hp; rcases hp with rfl | rfl | rfl | rfl <;> rfl) rfl rfl ?_
  exact o1.st (cs' := encE ⟨0, s, v, a⟩) 0 rfl rfl rfl rfl rfl (encE_plain _) fun h2 o2 => o2.ldN 0 rfl rfl rfl (hK _ o2.ext)
theorem evscan_ok {s v : Int} (hK : ∀ h', Ext h h' → K (.agg (encE ⟨1, s, v, 0⟩).toArray) h') : callS Tryz.prog F_milestonelaw12_scan [I s, I v] h K := by
  refine callS_of (lk_milestonelaw12_scan _ _ ?_)
  unfold sh_milestonelaw12_scan
  refine (Own.start h).box fun b h1 o1 => ?_
  refine pBuild_ones (cs' := encE ⟨1, s, v, 0⟩) (fun p hp => by simp at hp; rcases hp with rfl | rfl | rfl <;> rfl) rfl rfl ?_
  exact o1.st (cs' := encE ⟨1, s, v, 0⟩) 0 rfl rfl rfl rfl rfl (encE_plain _) fun h2 o2 => o2.ldN 0 rfl rfl rfl (hK _ o2.ext)

def gT : G := ⟨2, [0, 0], [0, 0], [⟨0, 1, 0⟩, ⟨1, 1, 0⟩]⟩
theorem gT_right : gT.Right := ⟨by decide, by decide, rfl, rfl, by decide, by decide, by decide, by decide +kernel⟩

theorem works12_ok (hK : ∀ h', Ext h h' → K (.bool true) h') : callS Tryz.prog F_milestonelaw12_works [] h K := by
  refine callS_of (lk_milestonelaw12_works ?_)
  unfold sh_milestonelaw12_works
  refine (Own.start h).build (enc := encI) (n := 1) [0, 0] rfl (sizesOk_of rfl) rfl fun w8 h1 o1 => ?_
  refine ⟨sizesOk_of rfl, sizesOk_of rfl, ?_⟩
  refine o1.build (enc := encA) (n := 3) gT.arcs (by kernel_rfl) (sizesOk_of rfl) rfl fun wa h2 o2 => ?_
  have hw8 := (o2.vw 1 rfl).one
  have hwa := (o2.vw 0 rfl).one
  refine pBuild_ones (cs' := [I gT.n, w8, w8, wa]) (fun p hp => by simp at hp; rcases hp with rfl | rfl | rfl | rfl <;> first | rfl | exact hw8 | exact hwa) rfl rfl ?_
  refine made12_ok o2 gT_right ⟨w8, w8, wa, rfl, o2.vw 1 rfl, o2.vw 1 rfl, o2.vw 0 rfl⟩ fun r N h3 hN o3 => ?_
  simp only [pEq_ptr_nil, Option.isNone_some, ifV_false]
  refine evpop_ok fun h4 x4 => evscan_ok fun h5 x5 => evpop_ok fun h6 x6 => evscan_ok fun h7 x7 => ?_
  have o := (((o3.more x4).more x5).more x6).more x7
  clear o1 o2 o3
  refine o.build (enc := encE) (n := 4) [⟨0, 0, 0, 0⟩, ⟨1, 0, 0, 0⟩, ⟨0, 0, 1, 0⟩, ⟨1, 0, 1, 0⟩] rfl (sizesOk_of rfl) rfl fun va h8 o8 => ?_
  refine evscan_ok fun h9 x9 => evpop_ok fun h10 x10 => ?_
  have o := (o8.more x9).more x10
  clear o8
  refine o.build (enc := encE) (n := 4) [⟨1, 0, 0, 0⟩, ⟨0, 0, 0, 0⟩] rfl (sizesOk_of rfl) rfl fun vb h11 o11 => ?_
  refine evpop_ok fun h12 x12 => evscan_ok fun h13 x13 => evscan_ok fun h14 x14 => ?_
  have o := ((o11.more x12).more x13).more x14
  clear o11
  refine o.build (enc := encE) (n := 4) [⟨0, 0, 0, 0⟩, ⟨1, 0, 0, 0⟩, ⟨1, 0, 0, 0⟩] rfl (sizesOk_of rfl) rfl fun vc h15 o15 => ?_
  refine evpop_ok fun h16 x16 => evpop_ok fun h17 x17 => evscan_ok fun h18 x18 => evscan_ok fun h19 x19 => ?_
  have o := (((o15.more x16).more x17).more x18).more x19
  clear o15
  refine o.build (enc := encE) (n := 4) [⟨0, 0, 0, 0⟩, ⟨0, 1, 1, 0⟩, ⟨1, 0, 0, 0⟩, ⟨1, 1, 0, 0⟩] rfl (sizesOk_of rfl) rfl fun vd h20 o20 => ?_
  refine evpop_ok fun h21 x21 => ?_
  have o := o20.more x21
  clear o20
  refine o.build (enc := encE) (n := 4) [⟨0, 0, 2, 0⟩] rfl (sizesOk_of rfl) rfl fun ve h22 o22 => ?_
  refine onceB_ok (b := true) (hN _ (o22.get 5 rfl)) (o22.vw 4 rfl) (by decide) (by kernel_rfl) fun h23 x23 => ?_
  have o := o22.more x23
  clear o22
  rw [ifV_true]
  refine headsB_ok (b := true) (hN _ (o.get 5 rfl)) (o.vw 4 rfl) (by decide) (by kernel_rfl) fun h24 x24 => ?_
  replace o := o.more x24
  rw [ifV_true]
  refine onceB_ok (b := true) (hN _ (o.get 5 rfl)) (o.vw 3 rfl) (by decide) (by kernel_rfl) fun h24 x24 => ?_
  replace o := o.more x24
  rw [ifV_true]
  refine headsB_ok (b := false) (hN _ (o.get 5 rfl)) (o.vw 3 rfl) (by decide) (by kernel_rfl) fun h24 x24 => ?_
  replace o := o.more x24
  rw [pUn_not, Bool.not_false, ifV_true]
  refine onceB_ok (b := false) (hN _ (o.get 5 rfl)) (o.vw 2 rfl) (by decide) (by kernel_rfl) fun h24 x24 => ?_
  replace o := o.more x24
  rw [pUn_not, Bool.not_false, ifV_true]
  refine headsB_ok (b := true) (hN _ (o.get 5 rfl)) (o.vw 2 rfl) (by decide) (by kernel_rfl) fun h24 x24 => ?_
  replace o := o.more x24
  rw [ifV_true]
  refine onceB_ok (b := true) (hN _ (o.get 5 rfl)) (o.vw 1 rfl) (by decide) (by kernel_rfl) fun h24 x24 => ?_
  replace o := o.more x24
  rw [ifV_true]
  refine headsB_ok (b := true) (hN _ (o.get 5 rfl)) (o.vw 1 rfl) (by decide) (by kernel_rfl) fun h24 x24 => ?_
  replace o := o.more x24
  rw [ifV_true]
  refine onceB_ok (b := false) (hN _ (o.get 5 rfl)) (o.vw 0 rfl) (by decide) (by kernel_rfl) fun h24 x24 => ?_
  replace o := o.more x24
  rw [pUn_not, Bool.not_false, ifV_true]
  refine headsB_ok (b := false) (hN _ (o.get 5 rfl)) (o.vw 0 rfl) (by decide) (by kernel_rfl) fun h24 x24 => ?_
  replace o := o.more x24
  rw [pUn_not, Bool.not_false]
  exact hK _ o.ext

end
end Go.Proofs.YtgefabaobhendaaGreatDoor

namespace Go.Proofs.YtgefabaobhendaaGreatDoor
open Go Go.Mh

abbrev tHeap : Nat := T_heap_Heap
abbrev tHeld : Nat := T_heap_held


theorem isNaN64_ok {x : Int} {h : Heap} {K : Value → Heap → Prop} (hk : K (.bool false) h) : callS Tryz.prog F_cmp_isNaN_int64 [I x] h K :=
  callS_of (lk_cmp_isNaN_int64 _ (by simpa [sh_cmp_isNaN_int64] using hk))
theorem isNaN_ok {x : Int} {h : Heap} {K : Value → Heap → Prop} (hk : K (.bool false) h) : callS Tryz.prog F_cmp_isNaN_int [I x] h K :=
  callS_of (lk_cmp_isNaN_int _ (by simpa [sh_cmp_isNaN_int] using hk))

def cmpI (x y : Int) : Int := if x < y then -1 else if y < x then 1 else 0

theorem compare64_ok {x y : Int} {h : Heap} {K : Value → Heap → Prop} (hk : K (I (cmpI x y)) h) : callS Tryz.prog F_cmp_Compare_int64 [I x, I y] h K := by
  refine callS_of (lk_cmp_Compare_int64 _ _ (isNaN64_ok (isNaN64_ok ?_)))
  unfold cmpI at hk
  by_cases h1 : x < y
  · simpa [h1] using hk
  · by_cases h2 : y < x
    · simpa [h1, h2] using hk
    · simpa [h1, h2] using hk
theorem compare_ok {x y : Int} {h : Heap} {K : Value → Heap → Prop} (hk : K (I (cmpI x y)) h) : callS Tryz.prog F_cmp_Compare_int [I x, I y] h K := by
  refine callS_of (lk_cmp_Compare_int _ _ (isNaN_ok (isNaN_ok ?_)))
  unfold cmpI at hk
  by_cases h1 : x < y
  · simpa [h1] using hk
  · by_cases h2 : y < x
    · simpa [h1, h2] using hk
    · simpa [h1, h2] using hk

theorem or2_ok {a b : Int} {c : Nat} {h : Heap} {T : TypeId} {K : Value → Heap → Prop} (hb : h[c]? = some (.cells #[I a, I b] T (0, 0)))
    (hk : K (I (if a = 0 then b else a)) h) : callS Tryz.prog F_cmp_Or_int [.slice (some ⟨c, 0, none⟩) 2 2] h K := by
  refine callS_of (lk_cmp_Or_int _ ?_)
  have c0 : hcell h ⟨c, 0, none⟩ = some (I a) := hcell_of hb rfl
  have c1 : hcell h ⟨c, 1, none⟩ = some (I b) := hcell_of hb rfl
  unfold sh_cmp_Or_int
  simp only [pLen_sl]
  refine LoopH_intro (fun x h' => h' = h ∧ ((x.1 = I 0) ∨ (x.1 = I 1 ∧ a = 0) ∨ (x.1 = I 2 ∧ a = 0 ∧ b = 0))) (fun x _ => match x.1 with | .int _ n => (2 - n).toNat | _ => 0) ⟨rfl, .inl rfl⟩ ?_
  rintro ⟨x, ⟨⟩⟩ h' Z ⟨rfl, hx⟩ hZ
  dsimp only at hx hZ ⊢
  unfold sh_cmp_Or_int_L1
  rcases hx with rfl | ⟨rfl, rfl⟩ | ⟨rfl, rfl, rfl⟩
  · simp [c0]
    exact ⟨fun ha => by simpa [ha] using hk, fun ha => hZ _ _ ⟨rfl, .inr (.inl ⟨rfl, ha⟩)⟩ (by decide)⟩
  · simp [c1]
    exact ⟨fun hb => by simpa using hk, fun hb => hZ _ _ ⟨rfl, .inr (.inr ⟨rfl, rfl, hb⟩)⟩ (by decide)⟩
  · simpa using hk

/-! ### The heap in memory -/

abbrev HE := Int × Int
def encH (p : HE) : List Value := [I p.1, I p.2]
theorem encH_len (p : HE) : (encH p).length = 2 := rfl

def pos (l : List HE) (id : Int) : Option Value := (l.findIdx? (fun p => p.1 == id)).map fun i => I i

structure Rep (h : Heap) (r m bl : Nat) (l : List HE) (n : Int) : Prop where
  row : ∃ sl cap rest, h[r]? = some (.cells #[sl, .map (some m), I n] tHeap (0, 0)) ∧
    ((sl = .slice none 0 0 ∧ l = [] ∧ cap = 0) ∨ (sl = .slice (some ⟨bl, 0, none⟩) l.length cap ∧ h[bl]? = some (.cells (Mh.row encH l ++ rest).toArray tHeld (0, 0)) ∧
      rest.length = (cap - l.length) * 2 ∧ l.length ≤ cap))
  map : ∃ es c, h[m]? = some (.map es c) ∧ IMap es c (pos l)
  ids : (l.map (·.1)).Nodup
  small : l.length < 2 ^ 40

theorem Rep.upd {h h' : Heap} {r m bl : Nat} {l : List HE} {n : Int} {S : Nat → Prop} (H : Rep h r m bl l n) (hu : Upd S h h') (h1 : ¬ S r) (h2 : ¬ S m) (h3 : ¬ S bl) : Rep h' r m bl l n := by
  obtain ⟨⟨sl, cap, rest, hr, hs⟩, ⟨es, c, hm, hi⟩, hn, hsm⟩ := H
  refine ⟨⟨sl, cap, rest, hu.get hr h1, ?_⟩, ⟨es, c, hu.get hm h2, hi⟩, hn, hsm⟩
  rcases hs with hs | ⟨a, b, c, d⟩
  · exact .inl hs
  · exact .inr ⟨a, hu.get b h3, c, d⟩

theorem Rep.full {h : Heap} {r m bl : Nat} {l : List HE} {n : Int} (H : Rep h r m bl l n) (hl : 0 < l.length) : ∃ cap rest,
    h[r]? = some (.cells #[.slice (some ⟨bl, 0, none⟩) l.length cap, .map (some m), I n] tHeap (0, 0)) ∧ h[bl]? = some (.cells (Mh.row encH l ++ rest).toArray tHeld (0, 0)) ∧
      rest.length = (cap - l.length) * 2 ∧ l.length ≤ cap := by
  obtain ⟨sl, cap, rest, hr, hs⟩ := H.row
  rcases hs with ⟨_, h0, _⟩ | ⟨rfl, b, c, d⟩
  · subst h0; simp at hl
  · exact ⟨cap, rest, hr, b, c, d⟩

theorem Rep.r_ne {h : Heap} {r m bl : Nat} {l : List HE} {n : Int} (H : Rep h r m bl l n) (hl : 0 < l.length) : r ≠ bl ∧ r ≠ m ∧ bl ≠ m := by
  obtain ⟨cap, rest, hr, hb, _, _⟩ := H.full hl
  obtain ⟨es, c, hm, _⟩ := H.map
  refine ⟨?_, ?_, ?_⟩
  · rintro rfl; rw [hr] at hb; simp at hb; exact absurd hb.2 (by decide)
  · rintro rfl; rw [hr] at hm; simp at hm
  · rintro rfl; rw [hb] at hm; simp at hm

theorem row_cell {h : Heap} {bl : Nat} {l : List HE} {rest : List Value} {T : TypeId} {fz : Nat × Nat} (hb : h[bl]? = some (.cells (Mh.row encH l ++ rest).toArray T fz)) {i j : Nat} (hi : i < l.length) (hj : j < 2) :
    hcell h ⟨bl, i * 2 + j, none⟩ = (encH l[i])[j]? := by
  rw [hcell_of hb (v := (encH l[i])[j]'(by rw [encH_len]; exact hj)) (by
    have := row_get encH_len hi hj rest
    rw [List.getElem?_toArray, this]; simp)]
  simp

theorem row_id {h : Heap} {bl : Nat} {l : List HE} {rest : List Value} {T : TypeId} {fz : Nat × Nat} (hb : h[bl]? = some (.cells (Mh.row encH l ++ rest).toArray T fz)) {i : Nat} (hi : i < l.length) :
    hcell h ⟨bl, i * 2, none⟩ = some (I l[i].1) := row_cell hb hi (j := 0) (by omega)
theorem row_key {h : Heap} {bl : Nat} {l : List HE} {rest : List Value} {T : TypeId} {fz : Nat × Nat} (hb : h[bl]? = some (.cells (Mh.row encH l ++ rest).toArray T fz)) {i : Nat} (hi : i < l.length) :
    hcell h ⟨bl, i * 2 + 1, none⟩ = some (I l[i].2) := row_cell hb hi (j := 1) (by omega)

/-- The order: keys, then numbers. -/
def hlt (p q : HE) : Bool := decide (p.2 < q.2 ∨ p.2 = q.2 ∧ p.1 < q.1)

theorem cmp_hlt (p q : HE) : ((if cmpI p.2 q.2 = 0 then cmpI p.1 q.1 else cmpI p.2 q.2) < 0) ↔ hlt p q = true := by
  unfold hlt cmpI
  simp only [decide_eq_true_eq]
  rcases Int.lt_trichotomy p.2 q.2 with h | h | h
  · simp [h]
  · simp only [h, Int.lt_irrefl, if_false, if_true, false_or, true_and]
    by_cases h1 : p.1 < q.1
    · simp [h1]
    · simp only [h1, if_false, iff_false]; split <;> omega
  · have h1 : ¬ p.2 < q.2 := by omega
    have h2 : ¬ p.2 = q.2 := by omega
    simp [h, h1, h2]

theorem ahead_ok {h : Heap} {r m bl : Nat} {l : List HE} {n : Int} {i k : Nat} {K : Value → Heap → Prop} (H : Rep h r m bl l n) (hi : i < l.length) (hk : k < l.length)
    (hK : ∀ h', Ext h h' → K (.bool (hlt l[i] l[k])) h') : callS Tryz.prog F_heap_row_ahead [ptr r, I i, I k] h K := by
  obtain ⟨cap, rest, hr, hb, _, _⟩ := H.full (by omega)
  refine callS_of (lk_heap_row_ahead _ _ _ ?_)
  have c0 : hcell h ⟨r, 0, none⟩ = some (.slice (some ⟨bl, 0, none⟩) l.length cap) := hcell_of hr rfl
  have ci0 := row_id hb hi
  have ci1 := row_key hb hi
  have ck0 := row_id hb hk
  have ck1 := row_key hb hk
  unfold sh_heap_row_ahead
  simp [c0, hi, hk, ci0, ci1, ck0, ck1]
  refine compare64_ok ?_
  simp [c0, ci0, ck0]
  refine compare_ok ?_
  refine ⟨by simp [sizesOk, Value.cells, zerosL], ?_⟩
  have hnew : (h.push (.cells #[I (cmpI l[i].2 l[k].2), I (cmpI l[i].1 l[k].1)] T_int (0, 0)))[h.size]? = some (.cells #[I (cmpI l[i].2 l[k].2), I (cmpI l[i].1 l[k].1)] T_int (0, 0)) := push_new
  refine or2_ok hnew ?_
  simp only [pBin_lss]
  have := hK (h.push (.cells #[I (cmpI l[i].2 l[k].2), I (cmpI l[i].1 l[k].1)] T_int (0, 0))) (Upd.push _ _ _)
  have e : hlt l[i] l[k] = decide ((if cmpI l[i].2 l[k].2 = 0 then cmpI l[i].1 l[k].1 else cmpI l[i].2 l[k].2) < 0) := by
    rw [Bool.eq_iff_iff, decide_eq_true_eq]; exact (cmp_hlt _ _).symm
  rw [← e]; exact this

/-! ### Where a number stands -/

theorem pos_get {l : List HE} (hn : (l.map (·.1)).Nodup) {i : Nat} (hi : i < l.length) : pos l l[i].1 = some (I i) := by
  unfold pos
  have : l.findIdx? (fun p => p.1 == l[i].1) = some i := by
    rw [List.findIdx?_eq_some_iff_getElem]
    refine ⟨hi, by simp, fun j hj => ?_⟩
    have hne : l[j].1 ≠ l[i].1 := by
      have := List.pairwise_iff_getElem.1 hn j i (by simp; omega) (by simpa using hi) hj
      simpa using this
    simpa using hne
  rw [this]; rfl

theorem pos_none {l : List HE} {id : Int} (h : ∀ p ∈ l, p.1 ≠ id) : pos l id = none := by
  unfold pos
  have : l.findIdx? (fun p => p.1 == id) = none := by
    rw [List.findIdx?_eq_none_iff]; intro p hp; simpa using h p hp
  rw [this]; rfl

theorem pos_cases (l : List HE) (id : Int) : (∃ i, ∃ hi : i < l.length, l[i].1 = id) ∨ ∀ p ∈ l, p.1 ≠ id := by
  by_cases h : ∃ p ∈ l, p.1 = id
  · obtain ⟨p, hp, rfl⟩ := h
    obtain ⟨i, hi, rfl⟩ := List.mem_iff_getElem.1 hp
    exact .inl ⟨i, hi, rfl⟩
  · exact .inr fun p hp e => h ⟨p, hp, e⟩

theorem ids_inj {l : List HE} (hn : (l.map (·.1)).Nodup) {i k : Nat} (hi : i < l.length) (hk : k < l.length) (he : l[i].1 = l[k].1) : i = k := by
  rcases Nat.lt_trichotomy i k with h | h | h
  · have := List.pairwise_iff_getElem.1 hn i k (by simpa using hi) (by simpa using hk) h
    simp [he] at this
  · exact h
  · have := List.pairwise_iff_getElem.1 hn k i (by simpa using hk) (by simpa using hi) h
    simp [he] at this

/-- Two places exchanged. -/
def swapL (l : List HE) (i k : Nat) (hi : i < l.length) (hk : k < l.length) : List HE := (l.set i l[k]).set k l[i]

theorem swapL_length {l : List HE} {i k : Nat} (hi : i < l.length) (hk : k < l.length) : (swapL l i k hi hk).length = l.length := by simp [swapL]

theorem swapL_get {l : List HE} {i k : Nat} (hi : i < l.length) (hk : k < l.length) {j : Nat} (hj : j < (swapL l i k hi hk).length) :
    (swapL l i k hi hk)[j] = if j = k then l[i] else if j = i then l[k] else l[j]'(by simpa [swapL] using hj) := by
  simp only [swapL, List.getElem_set]
  by_cases h1 : k = j
  · simp [h1]
  · by_cases h2 : i = j
    · simp [h1, h2, show ¬ j = k from fun e => h1 e.symm]
    · simp [h1, h2, show ¬ j = k from fun e => h1 e.symm, show ¬ j = i from fun e => h2 e.symm]

theorem swapL_perm {l : List HE} {i k : Nat} (hi : i < l.length) (hk : k < l.length) : (swapL l i k hi hk).Perm l := by
  rw [List.perm_iff_count]
  intro a
  unfold swapL
  rw [List.count_set (by simpa using hk), List.count_set hi, List.getElem_set]
  by_cases hik : i = k
  · subst hik
    simp only [if_true]
    by_cases h : l[i] = a
    · have : 0 < l.count a := List.count_pos_iff.2 (h ▸ List.getElem_mem hi)
      simp [h]; omega
    · simp [h]
  · simp only [hik, if_false]
    by_cases h1 : l[i] = a <;> by_cases h2 : l[k] = a
    · have : 0 < l.count a := List.count_pos_iff.2 (h1 ▸ List.getElem_mem hi)
      simp [h1, h2]; omega
    · have : 0 < l.count a := List.count_pos_iff.2 (h1 ▸ List.getElem_mem hi)
      simp [h1, h2]; omega
    · have : 0 < l.count a := List.count_pos_iff.2 (h2 ▸ List.getElem_mem hk)
      simp [h1, h2]
    · simp [h1, h2]

theorem swapL_nodup {l : List HE} {i k : Nat} (hi : i < l.length) (hk : k < l.length) (hn : (l.map (·.1)).Nodup) : ((swapL l i k hi hk).map (·.1)).Nodup :=
  ((swapL_perm hi hk).map _).nodup_iff.2 hn

theorem pos_swap {l : List HE} {i k : Nat} (hi : i < l.length) (hk : k < l.length) (hn : (l.map (·.1)).Nodup) (id : Int) :
    fset (fset (pos l) l[k].1 (I i)) l[i].1 (I k) id = pos (swapL l i k hi hk) id := by
  have hn' := swapL_nodup hi hk hn
  rcases pos_cases (swapL l i k hi hk) id with ⟨j, hj, rfl⟩ | h
  · rw [pos_get hn' hj]
    have hjl : j < l.length := by simpa [swapL] using hj
    rw [swapL_get hi hk hj]
    unfold fset
    by_cases h1 : j = k
    · simp [h1]
    · by_cases h2 : j = i
      · subst h2
        have : l[k].1 ≠ l[j].1 := fun e => h1 (ids_inj hn hk hi e).symm
        simp [h1, this]
      · have e1 : l[j].1 ≠ l[i].1 := fun e => h2 (ids_inj hn hjl hi e)
        have e2 : l[j].1 ≠ l[k].1 := fun e => h1 (ids_inj hn hjl hk e)
        simp [h1, h2, e1, e2, pos_get hn hjl]
  · rw [pos_none h]
    have hp := swapL_perm hi hk
    have h' : ∀ p ∈ l, p.1 ≠ id := fun p hp' => h p (hp.mem_iff.2 hp')
    have e1 := h' l[i] (List.getElem_mem hi)
    have e2 := h' l[k] (List.getElem_mem hk)
    unfold fset
    rw [if_neg (fun e => e1 e.symm), if_neg (fun e => e2 e.symm), pos_none h']

theorem swap_ok {h : Heap} {r m bl : Nat} {l : List HE} {n : Int} {i k : Nat} {K : Value → Heap → Prop} (H : Rep h r m bl l n) (hi : i < l.length) (hk : k < l.length)
    (hK : ∀ h', Rep h' r m bl (swapL l i k hi hk) n → Upd (fun b => b = m ∨ b = bl) h h' → K (.tuple #[]) h') : callS Tryz.prog F_heap_row_swap [ptr r, I i, I k] h K := by
  obtain ⟨cap, rest, hr, hb, hrest, hcap⟩ := H.full (by omega)
  obtain ⟨hne1, hne2, hne3⟩ := H.r_ne (by omega)
  obtain ⟨es, c, hm, him⟩ := H.map
  refine callS_of (lk_heap_row_swap _ _ _ ?_)
  have c0 : hcell h ⟨r, 0, none⟩ = some (.slice (some ⟨bl, 0, none⟩) l.length cap) := hcell_of hr rfl
  have ci0 := row_id hb hi
  have ci1 := row_key hb hi
  have ck0 := row_id hb hk
  have ck1 := row_key hb hk
  unfold sh_heap_row_swap
  simp [c0, hi, hk, cellsAt, ci0, ci1, ck0, ck1]
  have hlen := row_length encH_len l
  have o1 := row_over encH_len hi l[k] rest
  refine pStore_of rfl hb rfl (by simp [hlen]; omega) (by simp) ?_
  simp only [cells_agg]
  rw [show over (Mh.row encH l ++ rest) (i * 2) [Value.int .i64 l[k].1, Value.int .i64 l[k].2] = Mh.row encH (l.set i l[k]) ++ rest from o1]
  have hb1 : (upd h bl (.cells (Mh.row encH (l.set i l[k]) ++ rest).toArray tHeld (0, 0)))[bl]? = _ := upd_self' hb
  have hk' : k < (l.set i l[k]).length := by simpa using hk
  have o2 := row_over encH_len hk' l[i] rest
  refine pStore_of rfl hb1 rfl (by simp [row_length encH_len]; omega) (by simp) ?_
  simp only [cells_agg]
  rw [show over (Mh.row encH (l.set i l[k]) ++ rest) (k * 2) [Value.int .i64 l[i].1, Value.int .i64 l[i].2] = Mh.row encH (swapL l i k hi hk) ++ rest from o2, upd_upd]
  have hi' : i < (swapL l i k hi hk).length := by simpa [swapL] using hi
  have hk'' : k < (swapL l i k hi hk).length := by simpa [swapL] using hk
  have hb2 : (upd h bl (.cells (Mh.row encH (swapL l i k hi hk) ++ rest).toArray tHeld (0, 0)))[bl]? = _ := upd_self' hb
  have hr2 := (upd_ne (o := .cells (Mh.row encH (swapL l i k hi hk) ++ rest).toArray tHeld (0, 0)) hne1.symm).trans hr
  have hm2 := (upd_ne (o := .cells (Mh.row encH (swapL l i k hi hk) ++ rest).toArray tHeld (0, 0)) hne3).trans hm
  have d0 := hcell_of (i := 0) hr2 rfl
  have d1 := hcell_of (i := 1) hr2 rfl
  have di := row_id hb2 hi'
  have dk := row_id hb2 hk''
  have ei : (swapL l i k hi hk)[i].1 = l[k].1 := by rw [swapL_get]; split <;> simp_all
  have ek : (swapL l i k hi hk)[k].1 = l[i].1 := by rw [swapL_get]; simp
  rw [ei] at di
  rw [ek] at dk
  simp [d0, d1, hi, hk, di, dk]
  refine mapEntry_of hm2 him fun es1 c1 s1 him1 hs1 => ?_
  simp
  refine entryStore_of (upd_self' hm2) him1 hs1 fun es2 him2 => ?_
  rw [upd_upd]
  refine mapEntry_of (upd_self' hm2) him2 fun es3 c3 s3 him3 hs3 => ?_
  simp
  rw [upd_upd]
  refine entryStore_of (upd_self' hm2) him3 hs3 fun es4 him4 => ?_
  rw [upd_upd]
  refine hK _ ⟨⟨_, cap, rest, (upd_ne hne2.symm).trans hr2, .inr ⟨by rw [swapL_length], (upd_ne hne3.symm).trans hb2, by rw [swapL_length]; exact hrest, by rw [swapL_length]; exact hcap⟩⟩,
    ⟨es4, _, upd_self' hm2, him4.congr fun id => ?_⟩, swapL_nodup hi hk H.ids, by rw [swapL_length]; exact H.small⟩ ?_
  · rw [fset_same, fset_same]; exact pos_swap hi hk H.ids id
  · exact (Upd.upd h _ (S := fun b => b = m ∨ b = bl) (.inr rfl)).trans (Upd.upd (S := fun b => b = m ∨ b = bl) _ _ (.inl rfl)) fun _ h _ => h

end Go.Proofs.YtgefabaobhendaaGreatDoor
