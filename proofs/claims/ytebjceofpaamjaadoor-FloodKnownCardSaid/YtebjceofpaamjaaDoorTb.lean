/- Texts of the proofs of seat YtebjceofpaamjaaDoor, joined: FlA, FlB, FlC, FlD, Lw10, F10A, GtA, F10B, F10C. They have no conditions of their own. -/
import Derived.Test.YtebjceofpaamjaaDoorTa
import Derived.Test.YtebjceofpaamjaaDoorMc
set_option linter.unusedVariables false
set_option linter.unusedSimpArgs false

namespace Go.Proofs.YtebjceofpaamjaaDoor
open Go Go.Mh
set_option linter.unusedVariables false

section
variable {h0 h : Heap} {L : List Res} {K : Value → Heap → Prop} {g : G} {r : Nat}

theorem from1_end : EndF (.func (.func F_flood_From_1) #[] #[]) A.t := by
  intro a h K hK
  refine callV_of (l := [.agg (encA a).toArray]) rfl (lk_flood_From_1 _ ?_)
  unfold sh_flood_From_1
  refine (Own.start h).box fun b h1 o1 => ?_
  simp only [pField_ptr]
  exact o1.load 0 rfl rfl (hK _ o1.ext)
theorem to1_end : EndF (.func (.func F_flood_To_1) #[] #[]) A.f := by
  intro a h K hK
  refine callV_of (l := [.agg (encA a).toArray]) rfl (lk_flood_To_1 _ ?_)
  unfold sh_flood_To_1
  refine (Own.start h).box fun b h1 o1 => ?_
  simp only [pField_ptr]
  exact o1.load 0 rfl rfl (hK _ o1.ext)

theorem farcs_iter {l4 n3 e5 : Nat} {vl endv : Value} {ids : List Nat} {head : A → Nat} {T1 T2 T3 : TypeId} (hids : ∀ i ∈ ids, i < g.arcs.length) (hmany : ids.length < 2 ^ 40) (hE : EndF endv head) :
    Iter Tryd.prog (.func (.func F_flood_arcs_1) #[] #[ptr l4, ptr n3, ptr e5])
      (fun h => h[l4]? = some (.cells #[vl] T1 (0, 0)) ∧ h[n3]? = some (.cells #[ptr r] T2 (0, 0)) ∧ h[e5]? = some (.cells #[endv] T3 (0, 0)) ∧ Vw encN 1 h vl ids ∧ NetR h r g) ids.length
      (fun i hi => [I ids[i], vA ⟨0, head (arcAt g.arcs ids[i]), (arcAt g.arcs ids[i]).w⟩]) := by
  rintro yv h0 h Rs K J E ⟨l, rfl⟩ o j0 hQ hY hK
  refine callF_of (l := [yieldV l, ptr l4, ptr n3, ptr e5]) rfl (lk_flood_arcs_1 _ _ _ _ ?_)
  unfold sh_flood_arcs_1
  obtain ⟨hb, _, _, hv, _⟩ := hQ _ _ _ j0 o
  have hc : hcell h ⟨l4, 0, none⟩ = some vl := hcell_of hb rfl
  simp only [pLoad_ptr, hc]
  refine hv.len ?_
  refine LoopH_count ids.length (fun i x h' => x.1 = I i ∧ ∃ Rs', J i Rs' ∧ Own h0 h' Rs') ⟨rfl, Rs, j0, o⟩ ?_
  rintro i ⟨x, ⟨⟩⟩ h Z hi ⟨hx, Rs', hj, o⟩ hZ
  dsimp only at hx hZ ⊢
  subst hx
  unfold sh_flood_arcs_1_L1
  simp only [pBin_lss, ifV_dec]
  refine ⟨fun hlt => ?_, fun hge => ?_⟩
  · have hlt : i < ids.length := by omega
    obtain ⟨_, hn, he, hv, hN⟩ := hQ _ _ _ hj o
    refine hv.at1 (e := fun x : Nat => I x) (fun _ => rfl) hlt ?_
    have hc : hcell h ⟨n3, 0, none⟩ = some (ptr r) := hcell_of hn rfl
    simp only [pLoad_ptr, hc]
    have hil := hids _ (List.getElem_mem hlt)
    refine arc_ok hN hil fun h1 x1 => ?_
    have ea : arcAt g.arcs ids[i] = g.arcs[ids[i]] := by simp [arcAt, hil]
    have o1 := o.more x1
    simp only [pExt0, pExt1]
    refine o1.box fun b h2 o2 => o2.st 0 rfl rfl rfl rfl rfl (encA_plain _) fun h3 o3 => ?_
    obtain ⟨_, _, he3, _, _⟩ := hQ _ _ _ hj o3.tail
    have hc : hcell h3 ⟨e5, 0, none⟩ = some endv := hcell_of he3 rfl
    simp only [pLoad_ptr, hc, pField_ptr]
    refine o3.ldN 0 rfl rfl rfl ?_
    have hl := fun {K} (hk : K (I (g.arcs[ids[i]]).w)) => o3.load (off := 2) (K := K) 0 rfl rfl hk
    simp only [pLoad_ptr] at hl
    refine hl (hE _ _ _ fun h4 x4 => ?_)
    have o4 := o3.more x4
    refine ⟨o4.load 0 rfl rfl rfl, sizesOk_of rfl, ?_⟩
    rw [← ea]
    refine hY i _ (i + 1) Rs' [] h4 _ ⟨⟨hlt, rfl⟩, rfl⟩ hj o4.tail.nilTail (fun Rs'' h'' hj' o' => ?_) fun Rs'' h'' he o' => ?_
    · rw [pUn_not, Bool.not_true, ifV_false, pBin_add, wI i (by omega)]
      exact hZ (I (i + 1 : Nat), ()) h'' hlt ⟨rfl, Rs'', hj', o'.toNil⟩
    · rw [pUn_not, Bool.not_false, ifV_true]
      exact hK _ _ (.inr he) o'.toNil
  · have : i = ids.length := by omega
    exact hK _ _ (.inl ⟨i, this, hj⟩) o

/-- Who is closed, as the program keeps it. -/
def clo (order : List Nat) : Int → Option Value := fun k => if order.any (fun v => (v : Int) == k) then some (I 1) else none
theorem clo_in {order : List Nat} {v : Nat} (h : v ∈ order) : clo order v = some (I 1) := by
  have : order.any (fun u => (u : Int) == (v : Int)) = true := List.any_eq_true.2 ⟨v, h, by simp⟩
  simp [clo, this]
theorem clo_out {order : List Nat} {v : Nat} (h : v ∉ order) : clo order v = none := by
  have : order.any (fun u => (u : Int) == (v : Int)) = false := by
    simp only [List.any_eq_false, beq_iff_eq]
    intro u hu e
    have : u = v := by omega
    exact h (this ▸ hu)
  simp [clo, this]
theorem clo_add {order : List Nat} {v : Nat} (x : Int) : clo (order ++ [v]) x = fset (clo order) v (I 1) x := by
  unfold fset
  by_cases h : x = v
  · subst h; rw [if_pos rfl, clo_in (by simp)]
  · rw [if_neg h]
    have : ((v : Int) == x) = false := by simpa using fun e => h e.symm
    simp [clo, this]

theorem set_set_same {α : Type} {l : List α} {i j : Nat} {a b : α} (hi : l[i]? = some a) (hj : l[j]? = some b) : (l.set i a).set j b = l := by
  have e1 : l.set i a = l := by
    apply List.ext_getElem?
    intro k
    by_cases e : i = k
    · subst e; rw [List.getElem?_set_self (List.getElem?_eq_some_iff.1 hi).1, hi]
    · rw [List.getElem?_set_ne e]
  rw [e1]
  apply List.ext_getElem?
  intro k
  by_cases e : j = k
  · subst e; rw [List.getElem?_set_self (List.getElem?_eq_some_iff.1 hj).1, hj]
  · rw [List.getElem?_set_ne e]

theorem reach_ok {rr hp n m : Nat} {F : Nat → Prop} {sd sa so : Value} {s : FS} {B : Int} {v a : Nat} {d : Int} (o : Own h0 h L) (i1 i2 i3 i4 : Nat)
    (h1 : L[i1]? = some (cellR rr [ptr hp, sd, sa, so, .map (some m)] T_flood_run)) (h2 : L[i2]? = some (hpR F hp s.hp n)) (h3 : L[i3]? = some (slR encI 1 T_int sa s.arc)) (h4 : L[i4]? = some (mapR m (clo s.order)))
    (n12 : i2 ≠ i1) (n23 : i2 ≠ i3) (n24 : i2 ≠ i4) (inv : FInv n B s) (hn : n ≤ 16777216) (hv : v < n)
    (hK : ∀ F' h', Own h0 h' ((L.set i2 (hpR F' hp (s.reach v a d).hp n)).set i3 (slR encI 1 T_int sa (s.reach v a d).arc)) → K (.tuple #[]) h') :
    callS Tryd.prog F_flood_run_reach [ptr rr, I v, I a, I d] h K := by
  refine callS_of (lk_flood_run_reach _ _ _ _ ?_)
  unfold sh_flood_run_reach
  simp only [pNil_ptr, pField_ptr]
  refine o.load i1 h1 rfl (ho_key o i2 h2 ?_)
  simp only [pExt0, pExt1]
  refine o.load i1 h1 rfl ?_
  refine o.look i4 h4 ?_
  simp only [Bool.false_eq_true, if_false]
  have hlen : s.hp.length ≤ n := by
    have : (s.hp.map (·.1.toNat)).length ≤ n := nodup_le (by
      have : s.hp.map (·.1.toNat) = (s.hp.map (·.1)).map Int.toNat := by simp
      rw [this, List.nodup_iff_pairwise_ne, List.pairwise_map]
      refine (List.nodup_iff_pairwise_ne.1 inv.ids).imp_of_mem fun {x y} hx hy hne e => hne ?_
      obtain ⟨p, hp, rfl⟩ := List.mem_map.1 hx
      obtain ⟨q, hq, rfl⟩ := List.mem_map.1 hy
      obtain ⟨u, e1, _⟩ := inv.ent p hp
      obtain ⟨w, e2, _⟩ := inv.ent q hq
      rw [e1, e2] at e ⊢
      have e' : u = w := by simpa using e
      rw [e']) (fun x hx => by
      obtain ⟨p, hp, rfl⟩ := List.mem_map.1 hx
      obtain ⟨u, e1, e2, _⟩ := inv.ent p hp
      rw [e1]; simpa using e2)
    simpa using this
  by_cases hc : v ∈ s.order
  · rw [clo_in hc]
    simp only [Option.getD_some]
    have : s.reach v a d = s := by simp [FS.reach, hc]
    rw [this, ] at hK
    have hk := fun h => hK F h
    rw [set_set_same h2 h3] at hk
    simpa using hk h o
  · rw [clo_out hc]
    simp only [Option.getD_none, pBin_gtr, ifV_dec]
    refine ⟨fun e => by omega, fun _ => ?_⟩
    cases hl : lookH s.hp v with
    | some was =>
      simp only [Option.isSome_some, ifV_true, Option.getD_some, pBin_leq, ifV_dec]
      refine ⟨fun hle => ?_, fun hgt => ?_⟩
      · have : s.reach v a d = s := by simp [FS.reach, hc, hl, hle]
        rw [this] at hK
        have hk := fun h => hK F h
        rw [set_set_same h2 h3] at hk
        exact hk h o
      · unfold sh_flood_run_reach_k1 sh_flood_run_reach_k2
        simp only [ifV_true, pNil_ptr, pField_ptr]
        refine o.load i1 h1 rfl (ho_lower o i2 h2 (lookH_some hl) (by omega) fun F' h5 o5 => ?_)
        refine o5.load i1 (by rw [List.getElem?_set_ne n12]; exact h1) rfl ?_
        refine o5.setI (z := a) i3 (by rw [List.getElem?_set_ne n23]; exact h3) (by rw [inv.al]; exact hv) fun h6 o6 => ?_
        have : s.reach v a d = { s with hp := ((v : Int), d) :: s.hp.erase ((v : Int), was), arc := s.arc.set v a } := by simp [FS.reach, hc, hl, hgt]
        rw [this] at hK
        exact hK F' h6 o6
    | none =>
      simp only [Option.isSome_none, ifV_false]
      unfold sh_flood_run_reach_k1 sh_flood_run_reach_k2
      simp only [ifV_false, pNil_ptr, pField_ptr]
      refine o.load i1 h1 rfl (ho_push o i2 h2 (by omega) (lookH_none.1 hl) hv fun F' h5 o5 => ?_)
      refine o5.load i1 (by rw [List.getElem?_set_ne n12]; exact h1) rfl ?_
      refine o5.setI (z := a) i3 (by rw [List.getElem?_set_ne n23]; exact h3) (by rw [inv.al]; exact hv) fun h6 o6 => ?_
      have : s.reach v a d = { s with hp := ((v : Int), d) :: s.hp, arc := s.arc.set v a } := by simp [FS.reach, hc, hl]
      rw [this] at hK
      exact hK F' h6 o6

end
end Go.Proofs.YtebjceofpaamjaaDoor

namespace Go.Proofs.YtebjceofpaamjaaDoor
open Go Go.Mh
set_option linter.unusedVariables false

/-- A tree in memory. -/
def TreeV (h : Heap) (v : Value) (t : Tr) : Prop := ∃ sd sa so, v = .agg #[sd, sa, so] ∧ Vw encI 1 h sd t.dist ∧ Vw encI 1 h sa t.arc ∧ Vw encN 1 h so t.order
theorem TreeV.more {h h' : Heap} {v : Value} {t : Tr} (H : TreeV h v t) (x : Ext h h') : TreeV h' v t := by
  obtain ⟨sd, sa, so, e, a, b, c⟩ := H
  exact ⟨sd, sa, so, e, a.more x, b.more x, c.more x⟩

theorem scan_take {l : List A} {head : A → Nat} {key : Int} {s : FS} {ids : List Nat} {i : Nat} (hi : i < ids.length) :
    s.scan l head key (ids.take (i + 1)) = (s.scan l head key (ids.take i)).reach (head (arcAt l ids[i])) ids[i] (key + (arcAt l ids[i]).w) := by
  unfold FS.scan
  rw [List.take_succ_eq_append_getElem hi, List.foldl_append]; rfl

section
variable {h0 h : Heap} {L : List Res} {K : Value → Heap → Prop} {g : G} {r : Nat} {outs : Nat → List Nat} {head : A → Nat} {nextv endv : Value}

/-- A closure that tells the arcs of a node. -/
def NextF (nextv : Value) (g : G) (r : Nat) (outs : Nat → List Nat) : Prop :=
  ∀ (h0 h : Heap) (L : List Res) (K : Value → Heap → Prop) (v : Nat), v < g.n → NetR h r g → Own h0 h L → (∀ v' h', Own h0 h' (slR encN 1 T_int v' (outs v) :: L) → K v' h') → callV Tryd.prog nextv [I v].toArray h K

theorem out_next (hR : g.Right) : NextF (.func (.func F_net_Net_Out) #[ptr r] #[]) g r g.out := by
  intro h0 h L K v hv H o hK
  refine callV_of (l := [ptr r, I v]) rfl ?_
  have := outI_ok (z := v) o hR H (K := K) (by rw [if_pos (by omega)]; exact hK)
  simpa [callS, callV] using this
theorem in_next (hR : g.Right) : NextF (.func (.func F_net_Net_In) #[ptr r] #[]) g r g.in := by
  intro h0 h L K v hv H o hK
  refine callV_of (l := [ptr r, I v]) rfl ?_
  have := inI_ok (z := v) o hR H (K := K) (by rw [if_pos (by omega)]; exact hK)
  simpa [callS, callV] using this

abbrev runL (r9 rr m hp t8 n : Nat) (sd sa : Value) (kb : Nat) (key : Int) (F : Nat → Prop) (H : List HE) (so : Value) (st : FS) (mm : List Nat) : List Res :=
  [cellR kb [I key] T_int64, cellR r9 [ptr rr] T_p_flood_run, cellR rr [ptr hp, sd, sa, so, .map (some m)] T_flood_run, hpR F hp H n, slR encI 1 T_int sa st.arc, mapR m (clo st.order), xR sd st.dist, slR encN 1 T_int so st.order,
    cellR t8 [sl0, sl0, sl0] T_flood_Tree, marksR mm]

/-- The rest of a flood, from a state on. -/
theorem flood_loop {r9 rr m hp t8 : Nat} {sd sa : Value} {fin : FS} {h' : Heap} {x : List Nat × Vals [10, 11, 12]} (hR : g.Right) (H : NetR h r g) (hN : NextF nextv g r outs) (hE : EndF endv head) (hev : endv.cells = #[endv]) (hhead : ∀ a ∈ g.arcs, head a < g.n)
    (hout : ∀ v, v < g.n → ∀ i ∈ outs v, i < g.arcs.length) (hol : ∀ v, (outs v).length ≤ g.arcs.length)
    (hK : ∀ so h', Own h h' [xR sd fin.dist, slR encI 1 T_int sa fin.arc, slR encN 1 T_int so fin.order] → K (.agg #[sd, sa, so]) h')
    (J : ∃ (st : FS) (kb : Nat) (key : Int) (so : Value) (F : Nat → Prop) (H : List HE), x.2.2.1 = ptr kb ∧ FS.run g.arcs outs head (g.n + 1 - st.order.length) st = fin ∧ FInv g.n (st.order.length * W) st ∧
      ((least st.hp = none ∧ x.2.2.2.1 = .bool false) ∨ ∃ p, least st.hp = some p ∧ x.2.1 = I p.1 ∧ key = p.2 ∧ x.2.2.2.1 = .bool true ∧ H = st.hp.erase p) ∧ Own h h' (runL r9 rr m hp t8 g.n sd sa kb key F H so st x.1)) :
    LoopH (σ := List Nat × Vals [10, 11, 12]) (fun x hh ZZ => sh_flood_flood_L2 Tryd.prog (ptr r9) nextv (ptr r) endv (ptr t8) K x.1 x.2.1 x.2.2.1 x.2.2.2.1 hh (fun mz a0 a1 a2 hz => ZZ (mz, (a0, (a1, (a2, ())))) hz)) x h' := by
  have hmost := hR.most
  have hmany := hR.many
  obtain ⟨st0, J⟩ := J
  refine LoopH_down (k0 := g.n + 1 - st0.order.length) (fun k x h' => ∃ (st : FS) (kb : Nat) (key : Int) (so : Value) (F : Nat → Prop) (H : List HE), k = g.n + 1 - st.order.length ∧ x.2.2.1 = ptr kb ∧ FS.run g.arcs outs head (g.n + 1 - st.order.length) st = fin ∧ FInv g.n (st.order.length * W) st ∧
      ((least st.hp = none ∧ x.2.2.2.1 = .bool false) ∨ ∃ p, least st.hp = some p ∧ x.2.1 = I p.1 ∧ key = p.2 ∧ x.2.2.2.1 = .bool true ∧ H = st.hp.erase p) ∧ Own h h' (runL r9 rr m hp t8 g.n sd sa kb key F H so st x.1))
    (by obtain ⟨kb, key, so, F, H, J⟩ := J; exact ⟨st0, kb, key, so, F, H, rfl, J⟩) ?_
  clear J st0 h' x
  rintro k ⟨mm, v, kv, is, ⟨⟩⟩ h' Z ⟨st, kb, key, so, F, Hp, hk, hkb, hrun, inv, hcase, o⟩ hZ
  dsimp only at hkb hcase o hZ ⊢
  subst hkb
  unfold sh_flood_flood_L2
  simp only [pNil_ptr, pField_ptr]
  rcases hcase with ⟨hl, rfl⟩ | ⟨p, hl, rfl, rfl, rfl, rfl⟩
  · rw [ifV_false]
    have hf : st = fin := by
      rw [← hrun]
      cases g.n + 1 - st.order.length with
      | zero => rfl
      | succ k => simp only [FS.run, hl]
    subst hf
    refine o.load 1 rfl rfl ?_
    simp only [pNil_ptr, pField_ptr]
    refine o.ldN 2 rfl rfl rfl ?_
    refine o.st 8 rfl rfl rfl rfl rfl ?_ fun h2 o2 => ?_
    · intro u hu
      simp at hu
      rcases hu with rfl | rfl | rfl
      · exact (o.vw 6 rfl).plain
      · exact (o.vw 4 rfl).plain
      · exact (o.vw 7 rfl).plain
    · refine o2.take 9 rfl fun h3 o3 => ?_
      exact o3.ldN 8 rfl rfl rfl (hK so h3 (o3.sel [6, 4, 7] (by decide)))
  · rw [ifV_true]
    have hm := (least_spec hl).1
    obtain ⟨u, hu, hun, hno, hk0, hkB⟩ := inv.ent p hm
    obtain ⟨pv, key⟩ := p
    dsimp only at hu hk0 hkB o ⊢
    subst hu
    have hroom := inv.room (by intro e; rw [e] at hm; cases hm)
    have hB : (st.order.length : Int) * W + W ≤ 16777216 * W := by
      have : (st.order.length : Int) + 1 ≤ 16777216 := by omega
      have := Int.mul_le_mul_of_nonneg_right this (show (0 : Int) ≤ W by decide)
      rw [Int.add_mul, Int.one_mul] at this
      exact this
    refine o.load 1 rfl rfl ?_
    simp only [pNil_ptr, pField_ptr]
    refine o.load 2 rfl rfl ?_
    refine o.look 5 rfl ?_
    rw [clo_out hno]
    simp only [Bool.false_eq_true, if_false, Option.getD_none, pBin_add]
    rw [show IntKind.i64.wrap (0 + 1) = 1 from rfl]
    refine o.mapPut (f' := clo (st.order ++ [u])) 5 rfl clo_add fun h1 o1 => ?_
    refine o1.load 1 rfl rfl ?_
    simp only [pNil_ptr, pField_ptr]
    refine o1.load 2 rfl rfl (o1.load 0 rfl rfl ?_)
    refine o1.setI 6 rfl (by rw [inv.dl]; exact hun) fun h2 o2 => ?_
    refine o2.load 1 rfl rfl (o2.load 1 rfl rfl ?_)
    simp only [pNil_ptr, pField_ptr]
    refine o2.load 2 rfl rfl ?_
    refine o2.app1 7 u rfl rfl (sizesOk_of rfl) encN_len encN_plain rfl (by decide) (by omega) fun so1 h3 o3 => ⟨o3.load 1 rfl rfl rfl, ?_⟩
    refine o3.st1 2 rfl rfl rfl (o3.vw 7 rfl).one (o3.vw 7 rfl).plain fun h4 o4 => ?_
    refine hN _ _ _ _ u hun (H.more o4.ext) o4 fun vl h5 o5 => ?_
    refine callS_of (lk_flood_arcs _ _ _ ?_)
    unfold sh_flood_arcs
    refine o5.box fun n3 h6 o6 => o6.box fun l4 h7 o7 => o7.box fun e5 h8 o8 => ?_
    have hvl := o5.vw 0 rfl
    obtain ⟨st1, hst1⟩ : ∃ st1, st1 = st.pop u key := ⟨_, rfl⟩
    have hW : (0 : Int) ≤ W := by decide
    have inv1 : FInv g.n (st.order.length * W + W) st1 := by subst hst1; exact (inv.popped hm).mono (by omega)
    have hord : st1.order.length = st.order.length + 1 := by subst hst1; simp [FS.pop]
    have hids := hout u hun
    have hscan : ∀ i, FInv g.n (st.order.length * W + W) (st1.scan g.arcs head key ((outs u).take i)) := fun i =>
      FInv.scan (fun a ha => ⟨hhead a ha, by have := (hR.ends a ha).2.2; show (a.w : Int) ≤ 2147483647; omega⟩) hk0 (by omega) (fun j hj => hids j (List.mem_of_mem_take hj)) inv1
    have L0 : Own h h8 (cellR e5 endv.cells.toList T_func_api_Arc_int :: cellR l4 vl.cells.toList T_sl_int :: cellR n3 [ptr r] T_p_net_Net :: slR encN 1 T_int vl (outs u) :: runL r9 rr m hp t8 g.n sd sa kb key F (st1.scan g.arcs head key ((outs u).take 0)).hp so1 (st1.scan g.arcs head key ((outs u).take 0)) mm) := by
      subst hst1; exact o8
    refine L0.range (farcs_iter (r := r) (T1 := T_sl_int) (T2 := T_p_net_Net) (T3 := T_func_api_Arc_int) (vl := vl) hids (by have := hol u; omega) hE) (fun i x i' ⟨⟨hi, e⟩, _⟩ => by rw [e]; rfl)
      (fun i Rs => ∃ F, Rs = cellR e5 endv.cells.toList T_func_api_Arc_int :: cellR l4 vl.cells.toList T_sl_int :: cellR n3 [ptr r] T_p_net_Net :: slR encN 1 T_int vl (outs u) :: runL r9 rr m hp t8 g.n sd sa kb key F (st1.scan g.arcs head key ((outs u).take i)).hp so1 (st1.scan g.arcs head key ((outs u).take i)) mm)
      (fun _ => False) (fun _ _ => False) ⟨F, rfl⟩ ?_ ?_ ?_ (fun _ _ h => h.elim) (fun _ _ _ h => h.elim)
    · rintro i Rs' h' ⟨F, rfl⟩ o'
      refine ⟨?_, o'.get 2 rfl, ?_, o'.vw 3 rfl, H.more o'.ext⟩
      · have := o'.get 1 rfl
        rw [show vl.cells.toList = [vl] by rw [hvl.one]] at this
        exact this
      · have := o'.get 0 rfl
        rw [show endv.cells.toList = [endv] by rw [hev]] at this
        exact this
    · rintro M i x i' Rs' Pr h9 R ⟨⟨hi, rfl⟩, rfl⟩ ⟨F, rfl⟩ o9 hN' _ _
      dsimp only [valsOf]
      unfold sh_flood_flood_B3
      refine o9.box fun a14 h10 o10 => o10.st 0 rfl rfl rfl rfl rfl (encA_plain _) fun h11 o11 => ?_
      refine o11.begin 1 rfl fun h12 o12 => ?_
      refine o12.load 8 rfl rfl ?_
      simp only [pField_ptr]
      refine o12.load 0 rfl rfl (o12.load 7 rfl rfl (o12.load 0 rfl rfl ?_))
      have hil := hids _ (List.getElem_mem hi)
      have ha : arcAt g.arcs (outs u)[i] ∈ g.arcs := by simp [arcAt, hil]
      have hw := (hR.ends _ ha).2.2
      have e1 : IntKind.i64.wrap (key + ((arcAt g.arcs (outs u)[i]).w : Int)) = key + (arcAt g.arcs (outs u)[i]).w := by
        have hW2 : (16777216 : Int) * W ≤ 2 ^ 62 := by decide
        exact w64 (by omega) (by have : (W : Int) = 2147483647 := rfl
                                 omega)
      rw [pBin_add, e1]
      refine reach_ok o12 9 10 11 12 rfl rfl rfl rfl (by decide) (by decide) (by decide) (hscan i) hmost (hhead _ ha) fun F' h13 o13 => ?_
      refine hN' _ _ ⟨F', rfl⟩ ?_
      have hsc := scan_take (l := g.arcs) (head := head) (key := key) (s := st1) hi
      have hro := @reach_order (st1.scan g.arcs head key ((outs u).take i)) (head (arcAt g.arcs (outs u)[i])) (outs u)[i] (key + (arcAt g.arcs (outs u)[i]).w)
      rw [← hsc] at hro
      have := o13.tail
      rw [← hsc] at this
      simp only [runL, hro.1, hro.2]
      exact this
    · rintro i h9 Rs' rfl ⟨F', rfl⟩ o9
      rw [List.take_length] at o9
      have hso := @scan_order g.arcs head key (outs u) st1
      refine o9.load 5 rfl rfl (o9.box fun kb2 h10 o10 => ?_)
      refine o10.st1 0 rfl rfl rfl rfl rfl fun h11 o11 => ?_
      refine o11.load 7 rfl rfl ?_
      simp only [pNil_ptr, pField_ptr]
      refine o11.load 8 rfl rfl ?_
      have inv2 : FInv g.n ((st1.scan g.arcs head key (outs u)).order.length * W) (st1.scan g.arcs head key (outs u)) := by
        have := hscan (outs u).length
        rw [List.take_length] at this
        refine this.mono ?_
        rw [hso.1, hord]
        have : ((st.order.length + 1 : Nat) : Int) * W = st.order.length * W + W := by
          rw [Int.natCast_add, Int.add_mul]; rfl
        omega
      have hrun2 : FS.run g.arcs outs head (g.n + 1 - (st1.scan g.arcs head key (outs u)).order.length) (st1.scan g.arcs head key (outs u)) = fin := by
        rw [← hrun, hso.1, hord]
        rw [show g.n + 1 - st.order.length = (g.n + 1 - (st.order.length + 1)) + 1 by omega]
        simp only [FS.run, hl, Int.toNat_natCast]
        rw [← hst1]
      have mark := fun {h'' : Heap} {A B : Res} {C : List Res} (o : Own h h'' (A :: B :: C)) => o
      refine ho_pop o11 9 rfl (fun hl2 h12 o12 => ?_) fun p hl2 F2 h12 o12 => ?_
      · simp only [pExt0, pExt1, pExt2]
        refine o12.st1 0 rfl rfl rfl rfl rfl fun h13 o13 => ?_
        have o14 := (o13.swap).addMark 14 rfl
        refine hZ (_ :: mm, (I 0, (ptr kb2, (.bool false, ())))) h13 _ (by rw [hso.1, hord]; omega) ⟨st1.scan g.arcs head key (outs u), kb2, 0, so1, F', (st1.scan g.arcs head key (outs u)).hp, rfl, rfl, hrun2, inv2, .inl ⟨hl2, rfl⟩, ?_⟩
        exact o14.sel [0, 6, 7, 8, 9, 10, 11, 12, 13, 14] (by decide)
      · simp only [pExt0, pExt1, pExt2]
        refine o12.st1 0 rfl rfl rfl rfl rfl fun h13 o13 => ?_
        have o14 := (o13.swap).addMark 14 rfl
        refine hZ (_ :: mm, (I p.1, (ptr kb2, (.bool true, ())))) h13 _ (by rw [hso.1, hord]; omega) ⟨st1.scan g.arcs head key (outs u), kb2, p.2, so1, F2, (st1.scan g.arcs head key (outs u)).hp.erase p, rfl, rfl, hrun2, inv2, .inr ⟨p, hl2, rfl, rfl, rfl, rfl⟩, ?_⟩
        exact o14.sel [0, 6, 7, 8, 9, 10, 11, 12, 13, 14] (by decide)

end
end Go.Proofs.YtebjceofpaamjaaDoor

namespace Go.Proofs.YtebjceofpaamjaaDoor
open Go Go.Mh
set_option linter.unusedVariables false

section
variable {h0 h : Heap} {L : List Res} {K : Value → Heap → Prop} {g : G} {r : Nat} {outs : Nat → List Nat} {head : A → Nat} {nextv endv : Value}

/-- A tree that was just made. -/
def TreeK (h : Heap) (t : Tr) (K : Value → Heap → Prop) : Prop :=
  ∀ sd sa so h', Own h h' [xR sd t.dist, slR encI 1 T_int sa t.arc, slR encN 1 T_int so t.order] → K (.agg #[sd, sa, so]) h'

theorem TreeK.of {t : Tr} (hK : ∀ v h', TreeV h' v t → Ext h h' → K v h') : TreeK h t K :=
  fun sd sa so h' o => hK _ h' ⟨sd, sa, so, rfl, o.vw 0 rfl, o.vw 1 rfl, o.vw 2 rfl⟩ o.ext

theorem flood_none {s : Int} {rv : Value} (hs : rv = .pointer none ∨ (rv = ptr r ∧ NetR h r g ∧ ¬ (0 ≤ s ∧ s < g.n))) (hK : TreeK h .none K) : callS Tryd.prog F_flood_flood [rv, I s, nextv, endv] h K := by
  refine callS_of (lk_flood_flood _ _ _ _ ?_)
  unfold sh_flood_flood sh_flood_flood_k1
  refine (Own.start h).box fun t8 h1 o1 => ?_
  have none : ∀ {h2 : Heap}, Own h h2 [cellR t8 [sl0, sl0, sl0] T_flood_Tree] → pBuild [(.slice none 0 0), (.slice none 0 0), (.slice none 0 0)] [] fun t27 => pStore 3 (ptr t8) t27 h2 fun u h_3 => pLoadN 3 h_3 (ptr t8) fun res => K res h_3 := fun o2 =>
    ⟨trivial, o2.st (cs' := [sl0, sl0, sl0]) 0 rfl (l := [sl0, sl0, sl0]) rfl rfl rfl rfl (by simp) fun h3 o3 => o3.ldN 0 rfl rfl rfl (hK sl0 sl0 sl0 h3 ((o3.nilS.nilS.nilS).sel [0, 1, 2] (by decide)))⟩
  rcases hs with rfl | ⟨rfl, H, hs⟩
  · simp only [pEq_ptr_nil, Option.isNone_none, ifV_true]
    exact none o1
  · simp only [pEq_ptr_nil, Option.isNone_some, ifV_false, pBin_lss, ifV_dec]
    refine ⟨fun _ => none o1, fun e => nodes_ok (H.more o1.ext) ?_⟩
    simp only [pBin_geq, ifV_dec]
    exact ⟨fun _ => none o1, fun e' => by omega⟩

theorem flood_ok {s : Nat} (hR : g.Right) (H : NetR h r g) (hs : s < g.n) (hN : NextF nextv g r outs) (hE : EndF endv head) (hev : endv.cells = #[endv]) (hhead : ∀ a ∈ g.arcs, head a < g.n)
    (hout : ∀ v, v < g.n → ∀ i ∈ outs v, i < g.arcs.length) (hol : ∀ v, (outs v).length ≤ g.arcs.length) (hK : TreeK h (floodP g.arcs g.n outs head s) K) : callS Tryd.prog F_flood_flood [ptr r, I s, nextv, endv] h K := by
  have hmost := hR.most
  refine callS_of (lk_flood_flood _ _ _ _ ?_)
  unfold sh_flood_flood
  refine (Own.start h).box fun t8 h1 o1 => ?_
  simp only [pEq_ptr_nil, Option.isNone_some, ifV_false, pBin_lss, ifV_dec]
  refine ⟨fun e => by omega, fun _ => nodes_ok (H.more o1.ext) ?_⟩
  simp only [pBin_geq, ifV_dec]
  refine ⟨fun e => by omega, fun _ => nodes_ok (H.more o1.ext) (ho_new o1 fun F hp h2 o2 => ?_)⟩
  refine o2.build (enc := encI) (n := 1) [far] rfl (sizesOk_of rfl) rfl fun wf h3 o3 => nodes_ok (H.more o3.ext) ?_
  refine repeat_int64 o3 (o3.vw 0 rfl) hmost fun sd h4 o4 => ?_
  refine o4.build (enc := encI) (n := 1) [-1] rfl (sizesOk_of rfl) rfl fun wm h5 o5 => nodes_ok (H.more o5.ext) ?_
  refine repeat_int o5 (o5.vw 0 rfl) hmost fun sa h6 o6 => ⟨sizesOk_of (by
    obtain ⟨b, c, e⟩ := (o6.vw 0 rfl).isSl
    obtain ⟨b', c', e'⟩ := (o6.vw 2 rfl).isSl
    subst e e'; rfl), ?_⟩
  have ead : sa.cells = #[sa] ∧ sd.cells = #[sd] := ⟨(o6.vw 0 rfl).one, (o6.vw 2 rfl).one⟩
  refine o6.mkMap fun m h7 o7 => ?_
  obtain ⟨ba, ca, ea⟩ := (o7.vw 1 rfl).isSl
  obtain ⟨bd, cd, ed⟩ := (o7.vw 3 rfl).isSl
  refine ⟨sizesOk_of (by subst ea ed; rfl), o7.box fun rr h8 o8 => o8.box fun r9 h9 o9 => o9.st1 0 rfl rfl rfl rfl rfl fun h10 o10 => ?_⟩
  have o11 : Own h h10 (cellR r9 [ptr rr] T_p_flood_run :: cellR rr [ptr hp, sd, sa, sl0, .map (some m)] T_flood_run :: mapR m (fun _ => none) :: slR encI 1 T_int sa (List.replicate g.n (-1)) :: slR encI 1 T_int wm [-1] :: xR sd (List.replicate g.n far) :: xR wf [far] :: hpR F hp [] g.n :: [cellR t8 [sl0, sl0, sl0] T_flood_Tree]) := by
    subst ea ed; exact o10
  clear o10 o9 o8 o7 o6
  refine o11.load 0 rfl rfl ?_
  simp only [pNil_ptr, pField_ptr]
  refine o11.load 1 rfl rfl (ho_push o11 7 rfl (by simp) (by simp) hs fun F1 h12 o12 => ?_)
  refine o12.load 0 rfl rfl ?_
  simp only [pNil_ptr, pField_ptr]
  refine o12.load 1 rfl rfl ?_
  refine ho_pop o12 7 rfl (fun e => by simp [least] at e) fun p hp' F2 h13 o13 => ?_
  have hp2 : p = ((s : Int), 0) := by simpa [least] using hp'.symm
  subst hp2
  simp only [pExt0, pExt1, pExt2]
  refine o13.box fun kb h14 o14 => o14.st1 0 rfl rfl rfl rfl rfl fun h15 o15 => ?_
  have o16 := (o15.noMarks).nilS (enc := encN) (n := 1) (T := T_int)
  refine flood_loop (fin := FS.run g.arcs outs head (g.n + 1) (FS.start g.n s)) (m := m) (sd := sd) (sa := sa) (rr := rr) (hp := hp) hR H hN hE hev hhead hout hol (fun so h' o' => hK sd sa so h' o') ?_
  refine ⟨FS.start g.n s, kb, 0, sl0, F2, _, rfl, rfl, (FInv.start hs).mono (by simp [FS.start]), .inr ⟨((s : Int), 0), hp', rfl, rfl, rfl, rfl⟩, ?_⟩
  have e : (fun _ => none : Int → Option Value) = clo (FS.start g.n s).order := by funext x; simp [clo, FS.start]
  have o17 := o16.sel [2, 3, 4, 10, 6, 5, 8, 0, 11, 1] (by decide)
  dsimp only [List.map, List.getD] at o17
  rw [e] at o17
  exact o17

end
end Go.Proofs.YtebjceofpaamjaaDoor

namespace Go.Proofs.YtebjceofpaamjaaDoor
open Go Go.Mh
set_option linter.unusedVariables false

section
variable {h0 h : Heap} {L : List Res} {K : Value → Heap → Prop} {g : G} {r : Nat} {s : Int}

theorem out_lt {g : G} {v i : Nat} (h : i ∈ g.out v) : i < g.arcs.length := by
  have := (outsP_mem.1 h).2.1; omega
theorem in_lt {g : G} {v i : Nat} (h : i ∈ g.in v) : i < g.arcs.length := by
  have := (outsP_mem.1 h).2.1; omega

theorem from_ok (hR : g.Right) (H : NetR h r g) (hK : TreeK h (g.fromI s) K) : callS Tryd.prog F_flood_From [ptr r, I s] h K := by
  refine callS_of (lk_flood_From _ _ ?_)
  unfold sh_flood_From
  refine (Own.start h).box fun t4 h1 o1 => ?_
  have fin : TreeK h1 (g.fromI s) fun t9 h_2 => pStore 3 (ptr t4) t9 h_2 fun u h_3 => pLoadN 3 h_3 (ptr t4) fun res => K res h_3 := by
    intro sd sa so h2 o2
    have o3 := o1.frame o2
    refine o3.st 3 rfl rfl rfl rfl rfl ?_ fun h3 o4 => o4.ldN 3 rfl rfl rfl (hK sd sa so h3 (o4.sel [0, 1, 2] (by decide)))
    intro u hu
    simp at hu
    rcases hu with rfl | rfl | rfl
    · exact (o3.vw 0 rfl).plain
    · exact (o3.vw 1 rfl).plain
    · exact (o3.vw 2 rfl).plain
  unfold G.fromI at fin
  split at fin <;> rename_i hs
  · obtain ⟨s, rfl⟩ := Int.eq_ofNat_of_zero_le hs.1
    exact flood_ok hR (H.more o1.ext) (by omega) (out_next hR) from1_end rfl (fun a ha => (hR.ends a ha).2.1) (fun v _ i => out_lt) (fun v => outsP_short) fin
  · exact flood_none (g := g) (.inr ⟨rfl, H.more o1.ext, hs⟩) fin

theorem to_ok (hR : g.Right) (H : NetR h r g) (hK : TreeK h (g.toI s) K) : callS Tryd.prog F_flood_To [ptr r, I s] h K := by
  refine callS_of (lk_flood_To _ _ ?_)
  unfold sh_flood_To
  refine (Own.start h).box fun t4 h1 o1 => ?_
  have fin : TreeK h1 (g.toI s) fun t9 h_2 => pStore 3 (ptr t4) t9 h_2 fun u h_3 => pLoadN 3 h_3 (ptr t4) fun res => K res h_3 := by
    intro sd sa so h2 o2
    have o3 := o1.frame o2
    refine o3.st 3 rfl rfl rfl rfl rfl ?_ fun h3 o4 => o4.ldN 3 rfl rfl rfl (hK sd sa so h3 (o4.sel [0, 1, 2] (by decide)))
    intro u hu
    simp at hu
    rcases hu with rfl | rfl | rfl
    · exact (o3.vw 0 rfl).plain
    · exact (o3.vw 1 rfl).plain
    · exact (o3.vw 2 rfl).plain
  unfold G.toI at fin
  split at fin <;> rename_i hs
  · obtain ⟨s, rfl⟩ := Int.eq_ofNat_of_zero_le hs.1
    exact flood_ok hR (H.more o1.ext) (by omega) (in_next hR) to1_end rfl (fun a ha => (hR.ends a ha).1) (fun v _ i => in_lt) (fun v => outsP_short) fin
  · exact flood_none (g := g) (.inr ⟨rfl, H.more o1.ext, hs⟩) fin

theorem from_nil (hK : TreeK h .none K) : callS Tryd.prog F_flood_From [.pointer none, I s] h K := by
  refine callS_of (lk_flood_From _ _ ?_)
  unfold sh_flood_From
  refine (Own.start h).box fun t4 h1 o1 => flood_none (g := ⟨0, [], [], []⟩) (r := 0) (.inl rfl) fun sd sa so h2 o2 => ?_
  have o3 := o1.frame o2
  refine o3.st 3 rfl rfl rfl rfl rfl ?_ fun h3 o4 => o4.ldN 3 rfl rfl rfl (hK sd sa so h3 (o4.sel [0, 1, 2] (by decide)))
  intro u hu
  simp at hu
  rcases hu with rfl | rfl | rfl
  · exact (o3.vw 0 rfl).plain
  · exact (o3.vw 1 rfl).plain
  · exact (o3.vw 2 rfl).plain
theorem to_nil (hK : TreeK h .none K) : callS Tryd.prog F_flood_To [.pointer none, I s] h K := by
  refine callS_of (lk_flood_To _ _ ?_)
  unfold sh_flood_To
  refine (Own.start h).box fun t4 h1 o1 => flood_none (g := ⟨0, [], [], []⟩) (r := 0) (.inl rfl) fun sd sa so h2 o2 => ?_
  have o3 := o1.frame o2
  refine o3.st 3 rfl rfl rfl rfl rfl ?_ fun h3 o4 => o4.ldN 3 rfl rfl rfl (hK sd sa so h3 (o4.sel [0, 1, 2] (by decide)))
  intro u hu
  simp at hu
  rcases hu with rfl | rfl | rfl
  · exact (o3.vw 0 rfl).plain
  · exact (o3.vw 1 rfl).plain
  · exact (o3.vw 2 rfl).plain

end
end Go.Proofs.YtebjceofpaamjaaDoor

namespace Go.Proofs.YtebjceofpaamjaaDoor
open Go Go.Mh
set_option linter.unusedVariables false

section
variable {h0 h : Heap} {L : List Res} {K : Value → Heap → Prop} {g : G} {vb v : Value} {bs : List Int}

theorem made10_ok (o : Own h0 h L) (hR : g.Right) (H : RawV h v g) (hK : ∀ r N h', netR N r g → Own h0 h' (N :: L) → K (ptr r) h') : callS Tryd.prog F_milestonelaw10_made [v] h K := by
  obtain ⟨vx, vy, va, rfl, H⟩ := H
  refine callS_of (lk_milestonelaw10_made _ ?_)
  unfold sh_milestonelaw10_made
  refine (Own.start h).box fun b h1 o1 => o1.ldN 0 rfl rfl rfl ?_
  refine new_net_ok o1 hR ⟨vx, vy, va, rfl, H.more o1.ext⟩ fun r N h2 hN o2 => ?_
  simp only [pExt0, pExt1, pNe_iface_nil, ifV_false]
  exact hK r N h2 hN (o.frame (o2.sel [0] (by decide)))

/-- A graph drawn, and its net. -/
theorem rawOf {vx vy va : Value} (o : Own h0 h L) (i j k : Nat) (hi : L[i]? = some (xR vx g.X)) (hj : L[j]? = some (xR vy g.Y)) (hk : L[k]? = some (aR va g.arcs)) : RawV h (.agg #[I g.n, vx, vy, va]) g :=
  ⟨vx, vy, va, rfl, o.vw i hi, o.vw j hj, o.vw k hk⟩

end
end Go.Proofs.YtebjceofpaamjaaDoor

namespace Go.Proofs.YtebjceofpaamjaaDoor
open Go Go.Mh
set_option linter.unusedVariables false

section
variable {h0 h : Heap} {L : List Res} {K : Value → Heap → Prop} {g : G} {v vf va vo : Value} {t : Tr}

theorem is_ok (H : TreeV h v t) (Hf : Vw encI 1 h vf t.dist) (Ha : Vw encI 1 h va t.arc) (Ho : Vw encN 1 h vo t.order) (hl : t.arc.length = t.dist.length) (h1 : t.dist.length < 2 ^ 40) (h2 : t.order.length < 2 ^ 40) (hK : ∀ h', Ext h h' → K (.bool true) h') :
    callS Tryd.prog F_milestonelaw10_is [v, vf, va, vo] h K := by
  obtain ⟨sd, sa, so, rfl, D, R, O⟩ := H
  refine callS_of (lk_milestonelaw10_is _ _ _ _ ?_)
  unfold sh_milestonelaw10_is
  refine (Own.start h).box fun x h1' o1 => ?_
  simp only [pField_ptr]
  have D1 := D.more o1.ext
  have R1 := R.more o1.ext
  have O1 := O.more o1.ext
  have Hf1 := Hf.more o1.ext
  have Ha1 := Ha.more o1.ext
  have Ho1 := Ho.more o1.ext
  refine o1.load 0 rfl rfl (D1.len (Hf1.len ?_))
  simp only [pBin_neq, bne_self_eq_false, ifV_false]
  refine o1.load 0 rfl rfl (R1.len (Ha1.len ?_))
  simp only [pBin_neq, bne_self_eq_false, ifV_false]
  refine o1.load 0 rfl rfl (O1.len (Ho1.len ?_))
  simp only [pBin_neq, bne_self_eq_false, ifV_false]
  refine LoopH_count t.dist.length (fun i y h' => y.1 = I i ∧ h' = h1') ⟨rfl, rfl⟩ ?_
  rintro i ⟨y, ⟨⟩⟩ h' Z hi ⟨hy, rfl⟩ hZ
  dsimp only at hy hZ ⊢
  subst hy
  unfold sh_milestonelaw10_is_L2
  refine Hf1.len ?_
  simp only [pBin_lss, ifV_dec]
  refine ⟨fun hlt => ?_, fun _ => ?_⟩
  · have hlt : i < t.dist.length := by omega
    refine cutP_of (fun y h'' => y.1 = .bool false ∧ h'' = h') (fun J hJ => ?_) ?_
    · simp only [pField_ptr]
      refine o1.load 0 rfl rfl (D1.atI hlt (Hf1.atI hlt ?_))
      simp only [pBin_neq, bne_self_eq_false, ifV_false]
      refine o1.load 0 rfl rfl (R1.atI (by omega) (Ha1.atI (by omega) ?_))
      simp only [pBin_neq, bne_self_eq_false]
      exact hJ _ _ ⟨rfl, rfl⟩
    · rintro ⟨y, ⟨⟩⟩ h'' ⟨hy, rfl⟩
      dsimp only at hy ⊢
      subst hy
      unfold sh_milestonelaw10_is_C3
      rw [ifV_false, pBin_add, wI i (by omega)]
      exact hZ (I (i + 1 : Nat), ()) _ hlt ⟨rfl, rfl⟩
  · refine LoopH_count t.order.length (fun i y h'' => y.1 = I i ∧ h'' = h') ⟨rfl, rfl⟩ ?_
    rintro j ⟨y, ⟨⟩⟩ h'' Z2 hj ⟨hy, rfl⟩ hZ2
    dsimp only at hy hZ2 ⊢
    subst hy
    unfold sh_milestonelaw10_is_L4
    refine Ho1.len ?_
    simp only [pBin_lss, ifV_dec, pField_ptr]
    refine ⟨fun hlt => ?_, fun _ => hK _ o1.ext⟩
    have hlt : j < t.order.length := by omega
    refine o1.load 0 rfl rfl (O1.at1 (e := fun x : Nat => I x) (fun _ => rfl) hlt (Ho1.at1 (e := fun x : Nat => I x) (fun _ => rfl) hlt ?_))
    simp only [pBin_neq, bne_self_eq_false, ifV_false]
    rw [pBin_add, wI j (by omega)]
    exact hZ2 (I (j + 1 : Nat), ()) _ hlt ⟨rfl, rfl⟩

/-! ### The chapter's example -/

def g4 : G := ⟨4, [0, 0, 0, 0], [0, 0, 0, 0], [⟨0, 1, 4⟩, ⟨0, 2, 1⟩, ⟨2, 1, 2⟩, ⟨1, 0, 0⟩]⟩
theorem g4_right : g4.Right := by
  refine ⟨by decide, by decide, rfl, rfl, by decide, by decide, by decide, by decide⟩

theorem vw_tree (o : Own h0 h L) : True := trivial

theorem works10_ok (hK : ∀ h', Ext h h' → K (.bool true) h') : callS Tryd.prog F_milestonelaw10_works [] h K := by
  refine callS_of (lk_milestonelaw10_works ?_)
  unfold sh_milestonelaw10_works
  refine (Own.start h).build (enc := encI) (n := 1) [0, 0, 0, 0] rfl (sizesOk_of rfl) rfl fun w4 h1 o1 => ?_
  refine ⟨sizesOk_of rfl, sizesOk_of rfl, sizesOk_of rfl, sizesOk_of rfl, ?_⟩
  refine o1.build (enc := encA) (n := 3) g4.arcs (by kernel_rfl) (sizesOk_of rfl) rfl fun wa h2 o2 => ?_
  have e4 := (o2.vw 1 rfl).isSl
  have ea := (o2.vw 0 rfl).isSl
  refine ⟨sizesOk_of (by obtain ⟨_, _, e⟩ := e4; obtain ⟨_, _, e'⟩ := ea; subst e e'; rfl), ?_⟩
  have hraw : RawV h2 (.agg #[I g4.n, w4, w4, wa]) g4 := ⟨w4, w4, wa, rfl, o2.vw 1 rfl, o2.vw 1 rfl, o2.vw 0 rfl⟩
  have ev : (Value.agg (spliceAll [(.int .i64 0), (.slice none 0 0), (.slice none 0 0), (.slice none 0 0)] [(0, 1, (.int .i64 4)), (1, 1, w4), (2, 1, w4), (3, 1, wa)]).toArray) = .agg #[I g4.n, w4, w4, wa] := by
    obtain ⟨_, _, e⟩ := e4; obtain ⟨_, _, e'⟩ := ea; subst e e'; rfl
  rw [ev]
  refine made10_ok o2 g4_right hraw fun r N h3 hN o3 => ?_
  simp only [pNe_ptr_nil, Option.isSome_some, ifV_true]
  have hn3 := hN _ (o3.get 0 rfl)
  have f0 : g4.fromI 0 = ⟨[0, 3, 1, far], [-1, 2, 1, -1], [0, 2, 1]⟩ := by kernel_rfl
  have f1 : g4.toI 1 = ⟨[3, 0, 2, far], [1, -1, 2, -1], [1, 2, 0]⟩ := by kernel_rfl
  have f3 : g4.fromI 3 = ⟨[far, far, far, 0], [-1, -1, -1, -1], [3]⟩ := by kernel_rfl
  refine from_ok g4_right hn3 fun sd sa so h4 o4 => ?_
  replace o4 := o3.frame o4
  rw [f0] at o4
  refine o4.build (enc := encI) (n := 1) [0, 3, 1, far] rfl (sizesOk_of rfl) rfl fun wf h5 o5 => o5.build (enc := encI) (n := 1) [-1, 2, 1, -1] rfl (sizesOk_of rfl) rfl fun wr h6 o6 => o6.build (enc := encN) (n := 1) [0, 2, 1] rfl (sizesOk_of rfl) rfl fun wo h7 o7 => ?_
  refine is_ok (t := ⟨[0, 3, 1, far], [-1, 2, 1, -1], [0, 2, 1]⟩) ⟨sd, sa, so, rfl, o7.vw 3 rfl, o7.vw 4 rfl, o7.vw 5 rfl⟩ (o7.vw 2 rfl) (o7.vw 1 rfl) (o7.vw 0 rfl) rfl (by decide) (by decide) fun h8 x8 => ?_
  replace o7 := o7.more x8
  rw [ifV_true]
  refine to_ok g4_right (hN _ (o7.get 6 rfl)) fun sd sa so h4 o4 => ?_
  replace o4 := o7.frame o4
  rw [f1] at o4
  refine o4.build (enc := encI) (n := 1) [3, 0, 2, far] rfl (sizesOk_of rfl) rfl fun wf h5 o5 => o5.build (enc := encI) (n := 1) [1, -1, 2, -1] rfl (sizesOk_of rfl) rfl fun wr h6 o6 => o6.build (enc := encN) (n := 1) [1, 2, 0] rfl (sizesOk_of rfl) rfl fun wo h7 o7 => ?_
  refine is_ok (t := ⟨[3, 0, 2, far], [1, -1, 2, -1], [1, 2, 0]⟩) ⟨sd, sa, so, rfl, o7.vw 3 rfl, o7.vw 4 rfl, o7.vw 5 rfl⟩ (o7.vw 2 rfl) (o7.vw 1 rfl) (o7.vw 0 rfl) rfl (by decide) (by decide) fun h8 x8 => ?_
  replace o7 := o7.more x8
  rw [ifV_true]
  refine from_ok g4_right (hN _ (o7.get 12 rfl)) fun sd sa so h4 o4 => ?_
  replace o4 := o7.frame o4
  rw [f3] at o4
  refine o4.build (enc := encI) (n := 1) [far, far, far, 0] rfl (sizesOk_of rfl) rfl fun wf h5 o5 => o5.build (enc := encI) (n := 1) [-1, -1, -1, -1] rfl (sizesOk_of rfl) rfl fun wr h6 o6 => o6.build (enc := encN) (n := 1) [3] rfl (sizesOk_of rfl) rfl fun wo h7 o7 => ?_
  refine is_ok (t := ⟨[far, far, far, 0], [-1, -1, -1, -1], [3]⟩) ⟨sd, sa, so, rfl, o7.vw 3 rfl, o7.vw 4 rfl, o7.vw 5 rfl⟩ (o7.vw 2 rfl) (o7.vw 1 rfl) (o7.vw 0 rfl) rfl (by decide) (by decide) fun h8 x8 => ?_
  exact hK _ (o7.more x8).ext

end
end Go.Proofs.YtebjceofpaamjaaDoor

namespace Go.Proofs.YtebjceofpaamjaaDoor
open Go Go.Mh
set_option linter.unusedVariables false

section
variable {h0 h : Heap} {L : List Res} {K : Value → Heap → Prop} {g : G} {v : Value}

theorem turned_step {l : List A} {i : Nat} (hi : i < l.length) : (((l.take i).map A.swap ++ l.drop i).set i (l[i]).swap) = (l.take (i + 1)).map A.swap ++ l.drop (i + 1) := by
  rw [List.set_append_right _ _ (by simp; omega)]
  have e : i - ((l.take i).map A.swap).length = 0 := by simp; omega
  rw [e, List.drop_eq_getElem_cons hi, List.set_cons_zero, List.take_succ_eq_append_getElem hi, List.map_append, List.append_assoc]; rfl

end
end Go.Proofs.YtebjceofpaamjaaDoor

namespace Go.Proofs.YtebjceofpaamjaaDoor
open Go Go.Mh
set_option linter.unusedVariables false

section
variable {h0 h : Heap} {L : List Res} {K : Value → Heap → Prop} {g : G} {vb : Value} {bs : List Int}

theorem u8_i64 {z : Int} (h : 0 ≤ z ∧ z < 256) : IntKind.i64.wrap z = z := w64 (by omega) (by omega)

theorem nodeOf {z : Int} {g : G} (hg : g.Right) (hz : 0 ≤ z ∧ z < 256) : ∃ v : Nat, z.tmod g.n = v ∧ v < g.n := by
  obtain ⟨u, rfl⟩ := Int.eq_ofNat_of_zero_le hz.1
  exact ⟨u % g.n, rfl, Nat.mod_lt _ (by have := hg.pos; omega)⟩

/-- A tree put into a box. -/
theorem boxTree {R : Value → Heap → Prop} {sd sa so : Value} {t : Tr} (o : Own h0 h (xR sd t.dist :: slR encI 1 T_int sa t.arc :: slR encN 1 T_int so t.order :: L))
    (hK : ∀ b h', Own h0 h' (cellR b [sd, sa, so] T_flood_Tree :: xR sd t.dist :: slR encI 1 T_int sa t.arc :: slR encN 1 T_int so t.order :: L) → R (ptr b) h') :
    pBox T_flood_Tree (.agg #[(.slice none 0 0), (.slice none 0 0), (.slice none 0 0)]) h fun x8 h_7 => pStore 3 x8 (.agg #[sd, sa, so]) h_7 fun u_1 h_8 => R x8 h_8 := by
  refine o.box fun b h1 o1 => o1.st 0 rfl rfl rfl rfl rfl ?_ fun h2 o2 => hK b h2 o2
  intro u hu
  simp at hu
  rcases hu with rfl | rfl | rfl
  · exact (o.vw 0 rfl).plain
  · exact (o.vw 1 rfl).plain
  · exact (o.vw 2 rfl).plain

theorem treePl {sd sa so : Value} {t : Tr} (o : Own h0 h L) (i j k : Nat) (hi : L[i]? = some (xR sd t.dist)) (hj : L[j]? = some (slR encI 1 T_int sa t.arc)) (hk : L[k]? = some (slR encN 1 T_int so t.order)) : ∀ u ∈ [sd, sa, so], Mh.plainCell u = true := by
  intro u hu
  simp at hu
  rcases hu with rfl | rfl | rfl
  · exact (o.vw i hi).plain
  · exact (o.vw j hj).plain
  · exact (o.vw k hk).plain

end
end Go.Proofs.YtebjceofpaamjaaDoor

namespace Go.Proofs.YtebjceofpaamjaaDoor
open Go Go.Mh
set_option linter.unusedVariables false

def three9 (i : Nat) : List A := [⟨i, i + 1, 2147483647⟩, ⟨i, i, 0⟩, ⟨i, i + 1, 2147483647 - i % 2⟩]
def arcs9 (i : Nat) : List A := (List.range i).flatMap three9
def g9 : G := ⟨9, List.replicate 9 0, List.replicate 9 0, arcs9 8⟩
theorem g9_right : g9.Right := ⟨by decide, by decide, rfl, rfl, by decide, by decide, by decide, by decide +kernel⟩
theorem arcs9_succ (i : Nat) : arcs9 (i + 1) = arcs9 i ++ three9 i := by simp [arcs9, List.range_succ]
theorem arcs9_len (i : Nat) : (arcs9 i).length = 3 * i := by
  induction i with
  | zero => rfl
  | succ i ih => rw [arcs9_succ, List.length_append, ih]; simp [three9]; omega

section
variable {h0 h : Heap} {L : List Res} {K : Value → Heap → Prop}

theorem floodKnown_ok (hK : ∀ h', Ext h h' → K (.bool true) h') : CallsH Tryd.prog F_milestonelaw10_FloodKnown [].toArray h K := by
  refine lk_milestonelaw10_FloodKnown ?_
  unfold sh_milestonelaw10_FloodKnown
  refine (Own.start h).make (m := 9) (enc := encI) (n := 1) (a := 0) rfl (by decide) (by decide) fun w9 h1 o1 => ?_
  refine LoopH_count 8 (fun i x h' => x.2.1 = I i ∧ Own h h' [aR x.1 (arcs9 i), xR w9 (List.replicate 9 0)]) ⟨rfl, o1.nilS⟩ ?_
  clear o1
  rintro i ⟨l, x, ⟨⟩⟩ h' Z hi ⟨hx, o⟩ hZ
  dsimp only at hx o hZ ⊢
  subst hx
  unfold sh_milestonelaw10_FloodKnown_L1
  simp only [pBin_lss, ifV_dec]
  refine ⟨fun hlt => ?_, fun hge => ?_⟩
  · have hlt : i < 8 := by omega
    have e2 : (i : Int).tmod 2 = ((i % 2 : Nat) : Int) := rfl
    have e3 : IntKind.i64.wrap (2147483647 - ((i % 2 : Nat) : Int)) = ((2147483647 - i % 2 : Nat) : Int) := by rw [w64 (by omega) (by omega)]; omega
    simp only [pBin_add, wI i (by omega), pBin_rem, e2, pBin_sub, e3]
    refine ⟨sizesOk_of rfl, sizesOk_of rfl, by decide, sizesOk_of rfl, ?_⟩
    refine o.build (enc := encA) (n := 3) (three9 i) (by kernel_rfl) (sizesOk_of rfl) rfl fun w h2 o2 => ?_
    refine o2.app 1 rfl encA_len encA_plain rfl (o2.vw 0 rfl) (by decide) (by rw [arcs9_len]; simp [three9]; omega) fun l' h3 o3 => ?_
    refine hZ (l', (I (i + 1 : Nat), ())) h3 hlt ⟨rfl, ?_⟩
    rw [arcs9_succ]
    exact o3.tail
  · have : i = 8 := by omega
    subst this
    have ea := (o.vw 0 rfl).isSl
    have ex := (o.vw 1 rfl).isSl
    refine ⟨sizesOk_of (by obtain ⟨_, _, e⟩ := ea; obtain ⟨_, _, e'⟩ := ex; subst e e'; rfl), ?_⟩
    have ev : (Value.agg (spliceAll [(.int .i64 0), (.slice none 0 0), (.slice none 0 0), (.slice none 0 0)] [(0, 1, (.int .i64 9)), (1, 1, w9), (2, 1, w9), (3, 1, l)]).toArray) = .agg #[I g9.n, w9, w9, l] := by
      obtain ⟨_, _, e⟩ := ea; obtain ⟨_, _, e'⟩ := ex; subst e e'; rfl
    rw [ev]
    refine made10_ok o g9_right ⟨w9, w9, l, rfl, o.vw 1 rfl, o.vw 1 rfl, o.vw 0 rfl⟩ fun r N h2 hN o2 => ?_
    simp only [pEq_ptr_nil, Option.isNone_some, ifV_false]
    refine from_ok g9_right (hN _ (o2.get 0 rfl)) fun sd sa so h3 o3 => ?_
    replace o3 := o2.frame o3
    refine o3.box fun x5 h4 o4 => o4.st 0 rfl rfl rfl rfl rfl (treePl (t := g9.fromI 0) o3 0 1 2 rfl rfl rfl) fun h5 o5 => ?_
    refine to_ok g9_right (hN _ (o5.get 4 rfl)) fun sd2 sa2 so2 h6 o6 => ?_
    replace o6 := o5.frame o6
    refine o6.box fun y6 h7 o7 => o7.st 0 rfl rfl rfl rfl rfl (treePl (t := g9.toI 8) o6 0 1 2 rfl rfl rfl) fun h8 o8 => ?_
    refine from_nil fun sd3 sa3 so3 h9 o9 => ?_
    replace o9 := o8.frame o9
    refine o9.box fun z7 h10 o10 => o10.st 0 rfl rfl rfl rfl rfl (treePl (t := .none) o9 0 1 2 rfl rfl rfl) fun h11 o11 => ?_
    refine works10_ok fun h12 x12 => ?_
    have o12 := o11.more x12
    rw [ifV_true]
    simp only [pField_ptr]
    have d1 : (g9.fromI 0).dist.length = 9 := by kernel_rfl
    have d2 : (g9.fromI 0).dist[8]? = some 17179869172 := by kernel_rfl
    have d3 : (g9.fromI 0).arc[1]? = some 0 := by kernel_rfl
    have d4 : (g9.fromI 0).arc[2]? = some 5 := by kernel_rfl
    have d5 : (g9.toI 8).dist[0]? = some 17179869172 := by kernel_rfl
    have d6 : (g9.toI 8).arc[7]? = some 23 := by kernel_rfl
    have d7 : (g9.toI 8).order.length = 9 := by kernel_rfl
    refine o12.load 8 rfl rfl ((o12.vw 9 rfl).len ?_)
    rw [d1, pBin_eql, show ((9 : Nat) : Int) = 9 from rfl, beq_self_eq_true, ifV_true]
    refine o12.load 8 rfl rfl ((o12.vw 9 rfl).atQ (i := 8) d2 ?_)
    rw [pBin_eql, beq_self_eq_true, ifV_true]
    refine o12.load 8 rfl rfl ((o12.vw 10 rfl).atQ (i := 1) d3 ?_)
    rw [pBin_eql, beq_self_eq_true, ifV_true]
    refine o12.load 8 rfl rfl ((o12.vw 10 rfl).atQ (i := 2) d4 ?_)
    rw [pBin_eql, beq_self_eq_true, ifV_true]
    refine o12.load 4 rfl rfl ((o12.vw 5 rfl).atQ (i := 0) d5 ?_)
    rw [pBin_eql, beq_self_eq_true, ifV_true]
    refine o12.load 4 rfl rfl ((o12.vw 6 rfl).atQ (i := 7) d6 ?_)
    rw [pBin_eql, beq_self_eq_true, ifV_true]
    refine o12.load 4 rfl rfl ((o12.vw 7 rfl).len ?_)
    rw [d7, pBin_eql, show ((9 : Nat) : Int) = 9 from rfl, beq_self_eq_true, ifV_true]
    refine o12.load 0 rfl rfl ((o12.vw 1 rfl).len ?_)
    rw [show Tr.none.dist.length = 0 from rfl, pBin_eql, show ((0 : Nat) : Int) = 0 from rfl, beq_self_eq_true, ifV_true]
    refine o12.load 0 rfl rfl ((o12.vw 3 rfl).len ?_)
    rw [show Tr.none.order.length = 0 from rfl, pBin_eql, show ((0 : Nat) : Int) = 0 from rfl, beq_self_eq_true, ifV_true]
    refine to_ok g9_right (hN _ (o12.get 12 rfl)) fun sd4 sa4 so4 h13 o13 => ?_
    replace o13 := o12.frame o13
    simp only [pPart1_agg]
    refine (o13.vw 0 rfl).len ?_
    rw [show (g9.toI 9).dist.length = 0 by kernel_rfl, pBin_eql, show ((0 : Nat) : Int) = 0 from rfl, beq_self_eq_true, ifV_true]
    refine from_ok g9_right (hN _ (o13.get 15 rfl)) fun sd5 sa5 so5 h14 o14 => ?_
    replace o14 := o13.frame o14
    simp only [pPart1_agg]
    refine (o14.vw 1 rfl).len ?_
    rw [show (g9.fromI (-1)).arc.length = 0 by kernel_rfl, pBin_eql, show ((0 : Nat) : Int) = 0 from rfl, beq_self_eq_true]
    exact hK _ o14.ext

end
end Go.Proofs.YtebjceofpaamjaaDoor
