/- Texts of the proofs of seat YtleaknaadodjeaaGreat, joined: RdD, RdE, RdF, RdG, RdH, S30P, DvA, StV, S30P2. They have no conditions of their own. -/
import Derived.Test.YtleaknaadodjeaaGreatTb
import Derived.Test.YtleaknaadodjeaaGreatMd
set_option linter.unusedVariables false
set_option linter.unusedSimpArgs false
set_option linter.unusedSectionVars false

/-! The disk by definition: things made, written, synced. -/
namespace Go.Proofs.YtleaknaadodjeaaGreat
open Go Go.Mh
set_option linter.unusedVariables false

section
variable {h0 h : Heap} {L : List Res} {K : Value → Heap → Prop} {r n : Nat} {q : RC} {s : Dk} {U : List Nm} {N : Nat} {a b : Nm}

theorem fm_set {xs : List (SlV × Th)} {y : SlV × Th} : (fmR xs).set n (slR encRW 3 T_milestoneref29_Write y.1.v (wrL y.2)) = fmR (xs.set n y) := by
  unfold fmR; rw [List.map_set]
theorem fm_add {xs : List (SlV × Th)} {y : SlV × Th} : fmR xs ++ [slR encRW 3 T_milestoneref29_Write y.1.v (wrL y.2)] = fmR (xs ++ [y]) := by
  unfold fmR; rw [List.map_append]; rfl
theorem fm_len {xs : List (SlV × Th)} : (fmR xs).length = xs.length := by unfold fmR; rw [List.length_map]

theorem rc_mod {f : Th → Th} {v : SlV} (hq : RcOk q s) (hn : n < s.th.length) : (q.xs.set n (v, f (s.getT n))).map (·.2) = s.th.modify n f := by
  rw [List.map_set, hq]
  apply List.ext_getElem?
  intro i
  rw [List.getElem?_modify]
  by_cases e : n = i
  · subst e
    rw [List.getElem?_set_self hn]
    unfold Dk.getT
    rw [List.getD_eq_getElem?_getD, List.getElem?_eq_getElem hn]
    simp
  · rw [List.getElem?_set_ne e]
    simp [e]

def modRT (s : Dk) (n : Nat) (f : Th → Th) : Dk := { s with th := s.th.modify n f }

/-- The list of things is made anew, and a thing is set: both ready. -/
theorem setT_ok {w0 : Value} {w' : Value} {f : Th → Th} (hq : RcOk q s) (hn : n < s.th.length)
    (o : Own h0 h (slR encRW 3 T_milestoneref29_Write w' (wrL (f (s.getT n))) :: cellR r [w0, q.c, .bool s.off, I s.armed] T_milestoneref29_Disk :: slR encSV 1 T_milestoneref29_Thing w0 (q.xs.map (·.1)) :: slR encRC 5 T_milestoneref29_Change q.c (chL s) :: sepR (fmR q.xs) :: L))
    (hK : ∀ h' q', RcOk q' (modRT s n f) → Own h0 h' (rL r q' (modRT s n f) L) → K undef h') :
    pBuild [(.slice none 0 0)] [(0, 1, w')] fun t80 => pIdx 1 w0 (I n) fun t81 => pStore 1 t81 t80 h K := by
  have hv := o.vw 0 rfl
  refine pBuild_ones (cs' := [w']) ?_ rfl rfl ?_
  · intro p hp
    simp at hp
    subst hp
    exact hv.one
  have hl := hq.len
  refine o.setAt (a := ⟨w', hv.plain, hv.one⟩) 2 rfl (fun _ => rfl) (encSV_plain _) (by rw [List.length_map]; omega) rfl fun h' o' => ?_
  have o1 : Own h0 h' (slR encRW 3 T_milestoneref29_Write w' (wrL (f (s.getT n))) :: cellR r [w0, q.c, .bool s.off, I s.armed] T_milestoneref29_Disk :: slR encSV 1 T_milestoneref29_Thing w0 ((q.xs.map (·.1)).set n ⟨w', hv.plain, hv.one⟩) :: slR encRC 5 T_milestoneref29_Change q.c (chL s) :: sepR (fmR q.xs) :: L) := o'
  have o2 := o1.sepSet (j := 3) (p := n) rfl (by rw [fm_len]; omega)
  rw [show (q.xs.map (·.1)).set n ⟨w', hv.plain, hv.one⟩ = (q.xs.set n (⟨w', hv.plain, hv.one⟩, f (s.getT n))).map (·.1) by rw [List.map_set]] at o2
  rw [fm_set (y := (⟨w', hv.plain, hv.one⟩, f (s.getT n)))] at o2
  exact hK h' ⟨w0, q.c, q.xs.set n (⟨w', hv.plain, hv.one⟩, f (s.getT n))⟩ (rc_mod hq hn) o2

theorem makeR_ok (hI : s.Inv U N) (hN : N < 1048576) (o : Own h0 h (rL r q s L)) (hq : RcOk q s) (hK : ∀ h' q', RcOk q' (mMake s a).2 → Own h0 h' (rL r q' (mMake s a).2 L) → K (I (mMake s a).1) h') : callS Tryz.prog F_milestoneref29_Disk_Make [ptr r, .string a] h K := by
  refine callS_of (lk_milestoneref29_Disk_Make _ _ ?_)
  unfold sh_milestoneref29_Disk_Make
  rw [pNil_ptr, pField_ptr]
  refine o.load 0 rfl rfl ?_
  have hlt := hI.lt
  have hxl := hq.len
  refine (o.vw (enc := encSV) (n := 1) 1 rfl).len ?_
  rw [List.length_map, hxl]
  refine ⟨sizesOk_of rfl, ?_⟩
  refine o.build (enc := encS) (n := 1) [a] rfl (sizesOk_of rfl) rfl fun w h1 o1 => ?_
  have hKs := hK
  unfold mMake at hK
  refine changeR_ok (c := .mk a s.th.length) (l := []) hI (by omega) o1.tail (o1.vw 0 rfl) (by simp) (.inr ⟨rfl, rfl⟩) fun h' q' ex et o' => ?_
  by_cases he : refE s (namesE [a]) [] = 0
  · by_cases ha : s.armed = 1
    · rw [stepD_one he ha] at o' ⊢
      rw [stepD_one he ha] at hK
      rw [pBin_eql]
      show ifV (.bool false) _ _
      rw [ifV_false]
      exact hK h' q' (by unfold RcOk at hq ⊢; rw [ex, hq]) o'
    · rw [stepD_ok he ha] at o' ⊢
      rw [stepD_ok he ha] at hK
      rw [pBin_eql]
      show ifV (.bool true) _ _
      rw [ifV_true]
      refine copyRT_ok o' (by rw [ex]; omega) fun w1 h2 o2 => ?_
      refine ⟨sizesOk_of rfl, ?_⟩
      refine o2.build (enc := encSV) (n := 1) [nilSV] rfl (sizesOk_of rfl) rfl fun w2 h3 o3 => ?_
      refine o3.app 1 rfl (fun _ => rfl) encSV_plain rfl (o3.vw 0 rfl) (by decide) (by rw [List.length_map, ex]; simp; omega) fun w3 h4 o4 => ?_
      have o5 : Own h0 h4 (slR encSV 1 T_milestoneref29_Thing w3 (q'.xs.map (·.1) ++ [nilSV]) :: rL r q' (chD (.mk a s.th.length) { s with armed := s.armed - 1 }) L) := o4.tail
      refine layRT_ok o5 fun h5 o6 => ?_
      have o7 := (o6.nilS (enc := encRW) (n := 3) (T := T_milestoneref29_Write)).sepAdd (j := 3) rfl
      unfold sh_milestoneref29_Disk_Make_k1
      refine hK h5 ⟨w3, q'.c, q'.xs ++ [(nilSV, ⟨[], []⟩)]⟩ ?_ ?_
      · unfold RcOk at hq ⊢
        rw [List.map_append, ex, hq]
        rfl
      · have e1 : (q'.xs ++ [(nilSV, (⟨[], []⟩ : Th))]).map (·.1) = q'.xs.map (·.1) ++ [nilSV] := by simp
        have e2 : fmR q'.xs ++ [slR encRW 3 T_milestoneref29_Write (.slice none 0 0) []] = fmR (q'.xs ++ [(nilSV, ⟨[], []⟩)]) := fm_add (y := (nilSV, ⟨[], []⟩))
        unfold rL
        dsimp only
        rw [e1, ← e2]
        exact o7
  · rw [stepD_ne he] at o' ⊢
    rw [stepD_ne he] at hK
    rw [pBin_eql, ifV_beq]
    exact ⟨fun h => absurd h he, fun _ => hK h' q' (by unfold RcOk at hq ⊢; rw [ex, hq]) o'⟩

theorem now_lt (hI : s.Inv U N) (hn : dlook s.now a = some n) : n < s.th.length := by
  have hm := (dlook_mem (keys_dirOf _)).1 hn
  rcases dir_val _ _ _ hm hI.ok with h | ⟨x, h⟩
  · simp at h
  · exact hI.num x n h

theorem look_armed {m : Nat} : dlook ({ s with armed := m } : Dk).now a = dlook s.now a := rfl

theorem wr_lt (hI : s.Inv U N) (hn : n < s.th.length) : (wrL (s.getT n)).length ≤ N := by
  rw [← List.length_map (f := fun x : Wr × Bool => x.1), wrL_fst]
  refine hI.lw _ ?_
  unfold Dk.getT
  rw [List.getD_eq_getElem?_getD, List.getElem?_eq_getElem hn]
  exact List.getElem_mem _

set_option maxHeartbeats 1000000 in
theorem writeR_ok {z : Int} {w : ByteArray} (hI : s.Inv U N) (hN : N < 1048576) (hz : -9223372036854775808 ≤ z ∧ z ≤ 9223372036854775807) (hw : w.size ≤ 1048576) (o : Own h0 h (rL r q s L)) (hq : RcOk q s)
    (hK : ∀ h' q', RcOk q' (mWrite s a z w).2 → Own h0 h' (rL r q' (mWrite s a z w).2 L) → K (I (mWrite s a z w).1) h') : callS Tryz.prog F_milestoneref29_Disk_Write [ptr r, .string a, I z, .string w] h K := by
  refine callS_of (lk_milestoneref29_Disk_Write _ _ _ _ ?_)
  unfold sh_milestoneref29_Disk_Write
  have hxl := hq.len
  have hlt := hI.lt
  unfold mWrite at hK
  have k2 : refE s (wrE a z w) [a] = refE s (namesE [a]) [a] → (refE s (namesE [a]) [a] = 0 → 0 ≤ z) → sh_milestoneref29_Disk_Write_k2 Tryz.prog (.string a) (ptr r) (I z) (.string w) K h := by
    intro hwr hpos
    rw [hwr] at hK
    unfold sh_milestoneref29_Disk_Write_k2
    refine o.build (enc := encS) (n := 1) [a] rfl (sizesOk_of rfl) rfl fun v h1 o1 => ?_
    refine rstep_ok (K1 := fun t h' => sh_milestoneref29_Disk_Write_k3 Tryz.prog (ptr r) (.string a) (I z) (.string w) K t h') (l := [a]) hI (by omega) o1.tail (o1.vw 0 rfl) (by simp) (.inl ⟨rfl, a, _, rfl, rfl⟩) (fun hne h' o' => ?_) (fun he ha h' o' => ?_) fun he ha h' o' => ?_
    · rw [stepD_ne hne] at hK
      unfold sh_milestoneref29_Disk_Write_k3
      rw [pBin_eql, ifV_beq]
      exact ⟨fun h => absurd h hne, fun _ => hK h' q hq o'⟩
    · rw [stepD_one he ha] at hK
      unfold sh_milestoneref29_Disk_Write_k3
      rw [pBin_eql]
      show ifV (.bool false) _ _
      rw [ifV_false]
      exact hK h' q hq o'
    · rw [stepD_ok he ha] at hK
      have hz0 := hpos he
      obtain ⟨_, _, ht⟩ := refE_off he
      obtain ⟨n, hn⟩ := Option.isSome_iff_exists.1 (ht a List.mem_cons_self)
      have hnl := now_lt hI hn
      unfold upT at hK
      rw [look_armed, hn] at hK
      obtain ⟨m, rfl⟩ : ∃ m : Nat, z = m := ⟨z.toNat, by omega⟩
      rw [Int.toNat_natCast] at hK
      replace hK : ∀ h' q', RcOk q' (modRT { s with armed := s.armed - 1 } n fun t => { t with pen := t.pen ++ [⟨m, w⟩] }) → Own h0 h' (rL r q' (modRT { s with armed := s.armed - 1 } n fun t => { t with pen := t.pen ++ [⟨m, w⟩] }) L) → K (I 0) h' := hK
      unfold sh_milestoneref29_Disk_Write_k3
      rw [pBin_eql]
      show ifV (.bool true) _ _
      rw [ifV_true, pNil_ptr, pField_ptr]
      refine o'.load 0 rfl rfl ?_
      have hI' : ({ s with armed := s.armed - 1 } : Dk).Inv U N := ⟨hI.nm, hI.num, hI.ok, hI.inj, by have := hI.ar; show s.armed - 1 < _; omega, hI.lc, hI.lt, hI.lw, hI.wr⟩
      refine pointsR_ok (s := { s with armed := s.armed - 1 }) (q := q) hI' (by omega) o' (i := 2) rfl fun h2 e2 => ?_
      have o2 := o'.more e2
      have el : lookI ({ s with armed := s.armed - 1 } : Dk).now a = ((n : Nat) : Int) := by unfold lookI; rw [look_armed, hn]
      rw [el]
      have hq' : RcOk q { s with armed := s.armed - 1 } := hq
      have hnl' : n < ({ s with armed := s.armed - 1 } : Dk).th.length := hnl
      have hwl := wr_lt hI hnl
      have eg : s.getT n = ({ s with armed := s.armed - 1 } : Dk).getT n := rfl
      rw [eg] at hwl
      generalize ({ s with armed := s.armed - 1 } : Dk) = s1 at o2 hK hq' hnl' hwl
      refine copyRT_ok o2 (by omega) fun w0 h3 o3 => ?_
      refine layRT_ok o3 fun h4 o4 => ?_
      rw [pNil_ptr, pField_ptr]
      refine o4.load 0 rfl rfl ?_
      rw [pNil_ptr, pField_ptr]
      refine o4.load 0 rfl rfl ?_
      obtain ⟨x, hx, ex⟩ := hq'.get hnl'
      have hx1 : (q.xs.map (·.1))[n]'(by rw [List.length_map]; exact (List.getElem?_eq_some_iff.1 hx).1) = x.1 := by
        simp [(List.getElem?_eq_some_iff.1 hx).2]
      refine (o4.vw (enc := encSV) (n := 1) 1 rfl).atF (fun _ => rfl) (by rw [List.length_map]; exact (List.getElem?_eq_some_iff.1 hx).1) (j := 0) (u := x.1.v) (by decide) (by rw [hx1]; rfl) ?_
      refine ⟨sizesOk_of rfl, ?_⟩
      have E : ∀ {h5 : Heap} {L' : List Res} (i : Nat) (v : Value) (xs : List (Wr × Bool)) (y : Value) (ys : List (Wr × Bool)), Own h0 h5 L' → L'[i]? = some (slR encRW 3 T_milestoneref29_Write v xs) → Vw encRW 3 h5 y ys → xs.length ≤ 1048576 → ys.length ≤ 1048576 → ∀ KH : Value → Heap → Prop, (∀ v' h4, Own h0 h4 (L'.set i (slR encRW 3 T_milestoneref29_Write v' (xs ++ ys))) → KH v' h4) →
          pAppend T_milestoneref29_Write 3 32 [(.int .i64 0), (.string ⟨#[]⟩), (.bool false)] v y h5 KH := fun i v xs y ys o5 hi hy h1 h2 KH hk =>
        o5.app i hi (fun _ => rfl) encRW_plain rfl hy (by decide) (by omega) hk
      have V : ∀ {h5 : Heap} {L' : List Res} (i : Nat), Own h0 h5 L' → L'[i]? = some (sepR (fmR q.xs)) → Vw encRW 3 h5 x.1.v (wrL (s1.getT n)) := fun i o5 hi => by rw [← ex]; exact fm_vw (o5.get i hi) hx
      have fin : ∀ (w' : Value) (h5 : Heap), Own h0 h5 (slR encRW 3 T_milestoneref29_Write w' (wrL (s1.getT n) ++ [(⟨m, w⟩, false)]) :: cellR r [w0, q.c, .bool s1.off, I s1.armed] T_milestoneref29_Disk :: slR encSV 1 T_milestoneref29_Thing w0 (q.xs.map (·.1)) :: slR encRC 5 T_milestoneref29_Change q.c (chL s1) :: sepR (fmR q.xs) :: L) →
          (pLoad h5 (.pointer (some ⟨r, 0 + 0, none⟩)) fun t => t = w0) ∧ (pBuild [(.slice none 0 0)] [(0, 1, w')] fun t80 => pIdx 1 w0 (I n) fun t81 => pStore 1 t81 t80 h5 fun _ h6 => sh_milestoneref29_Disk_Write_k4 Tryz.prog K (I 0) h6) := by
        intro w' h5 o5
        refine ⟨o5.load 1 rfl rfl rfl, ?_⟩
        have ew : wrL (s1.getT n) ++ [(⟨m, w⟩, false)] = wrL ((fun t : Th => { t with pen := t.pen ++ [⟨m, w⟩] }) (s1.getT n)) := by
          unfold wrL; simp
        rw [ew] at o5
        exact setT_ok (f := fun t : Th => { t with pen := t.pen ++ [⟨m, w⟩] }) hq' hnl' o5 fun h6 q6 hq6 o6 => hK h6 q6 hq6 o6
      refine ⟨?_, ?_⟩
      · refine o4.build (enc := encRW) (n := 3) [] rfl (sizesOk_of rfl) rfl fun w1 h5 o5 => ?_
        refine ⟨?_, ?_⟩
        · refine E 0 _ [] _ (wrL (s1.getT n)) o5 rfl (V 4 o5 rfl) (by simp) (by omega) _ fun w2 h6 o6 => ?_
          refine ⟨o6.load 1 rfl rfl rfl, ?_⟩
          refine o6.build (enc := encRW) (n := 3) [(⟨m, w⟩, false)] rfl (sizesOk_of rfl) rfl fun w3 h7 o7 => ?_
          refine E 1 _ (wrL (s1.getT n)) _ [(⟨m, w⟩, false)] o7 rfl (o7.vw 0 rfl) (by omega) (by simp) _ fun w4 h8 o8 => ?_
          exact fin w4 h8 o8.tail
        · refine o5.build (enc := encRW) (n := 3) [(⟨m, w⟩, false)] rfl (sizesOk_of rfl) rfl fun w3 h7 o7 => ?_
          refine E 1 _ [] _ (wrL (s1.getT n)) o7 rfl (V 5 o7 rfl) (by simp) (by omega) _ fun w2 h6 o6 => ?_
          refine ⟨o6.load 2 rfl rfl rfl, ?_⟩
          refine E 1 _ (wrL (s1.getT n)) _ [(⟨m, w⟩, false)] o6 rfl (o6.vw 0 rfl) (by omega) (by simp) _ fun w4 h8 o8 => ?_
          exact fin w4 h8 o8.tail
      · refine o4.build (enc := encRW) (n := 3) [(⟨m, w⟩, false)] rfl (sizesOk_of rfl) rfl fun w3 h7 o7 => ?_
        refine o7.build (enc := encRW) (n := 3) [] rfl (sizesOk_of rfl) rfl fun w1 h5 o5 => ?_
        refine E 0 _ [] _ (wrL (s1.getT n)) o5 rfl (V 5 o5 rfl) (by simp) (by omega) _ fun w2 h6 o6 => ?_
        refine ⟨o6.load 2 rfl rfl rfl, ?_⟩
        refine E 0 _ (wrL (s1.getT n)) _ [(⟨m, w⟩, false)] o6 rfl (o6.vw 1 rfl) (by omega) (by simp) _ fun w4 h8 o8 => ?_
        exact fin w4 h8 (o8.erase 1)
  rw [pNil_ptr, pField_ptr]
  refine o.load 0 rfl rfl ?_
  cases ho : s.off with
  | true =>
    rw [notT29, ifV_false]
    refine k2 ?_ fun h => ?_
    · unfold refE; rw [ho]; rfl
    · have := (refE_off h).1
      rw [ho] at this; cases this
  | false =>
    rw [notF29, ifV_true]
    refine may_ok ?_
    cases hok : okN a with
    | false =>
      rw [ifV_false]
      have hn : namesE [a] = 2 := by unfold namesE; simp [hok]
      refine k2 ?_ fun h => ?_
      · unfold wrE; rw [if_neg (fun h => by rw [hn] at h; exact absurd h.1 (by decide))]
      · have := (refE_off h).2.1
        rw [hn] at this; cases this
    | true =>
      rw [ifV_true]
      have hn : namesE [a] = 0 := by unfold namesE; simp [hok]
      have bad : (z < 0 ∨ z > 1048576 - w.size) → sh_milestoneref29_Disk_Write_k1 Tryz.prog K h := by
        intro hb
        unfold sh_milestoneref29_Disk_Write_k1
        have e2 : refE s (wrE a z w) [a] = 2 := by
          have e3 : wrE a z w = 2 := by unfold wrE; rw [if_pos ⟨hn, hb⟩]
          unfold refE
          rw [e3, ho]
          rfl
        rw [e2, stepD_ne (by decide)] at hK
        exact hK h q hq o
      rw [pBin_lss, ifV_dec]
      refine ⟨fun h1 => bad (.inl h1), fun h1 => ?_⟩
      rw [pBin_gtr, ifV_dec]
      refine ⟨fun h2 => bad (.inr (by omega)), fun h2 => ?_⟩
      rw [pLenS_str, pBin_add, w64 (by omega) (by omega), pBin_gtr, ifV_dec]
      refine ⟨fun h3 => bad (.inr (by omega)), fun h3 => ?_⟩
      refine k2 ?_ fun _ => by omega
      unfold wrE
      rw [if_neg (fun h => by omega)]

end
end Go.Proofs.YtleaknaadodjeaaGreat

/-! The disk by definition: what is synced, what is pending, what names there are. -/
namespace Go.Proofs.YtleaknaadodjeaaGreat
open Go Go.Mh
set_option linter.unusedVariables false

section
variable {h0 h : Heap} {L : List Res} {K : Value → Heap → Prop} {r n : Nat} {q : RC} {s : Dk} {U : List Nm} {N : Nat} {a b : Nm}

theorem syncR_ok (hI : s.Inv U N) (hN : N < 1048576) (o : Own h0 h (rL r q s L)) (hq : RcOk q s)
    (hK : ∀ h' q', RcOk q' (mSync s a).2 → Own h0 h' (rL r q' (mSync s a).2 L) → K (I (mSync s a).1) h') : callS Tryz.prog F_milestoneref29_Disk_Sync [ptr r, .string a] h K := by
  refine callS_of (lk_milestoneref29_Disk_Sync _ _ ?_)
  unfold sh_milestoneref29_Disk_Sync
  have hxl := hq.len
  have hlt := hI.lt
  unfold mSync at hK
  refine o.build (enc := encS) (n := 1) [a] rfl (sizesOk_of rfl) rfl fun v h1 o1 => ?_
  refine rstep_ok (K1 := fun t h' => sh_milestoneref29_Disk_Sync_k1 Tryz.prog (ptr r) (.string a) K t h') (l := [a]) hI (by omega) o1.tail (o1.vw 0 rfl) (by simp) (.inl ⟨rfl, a, _, rfl, rfl⟩) (fun hne h' o' => ?_) (fun he ha h' o' => ?_) fun he ha h' o' => ?_
  · rw [stepD_ne hne] at hK
    unfold sh_milestoneref29_Disk_Sync_k1
    rw [pBin_eql, ifV_beq]
    exact ⟨fun h => absurd h hne, fun _ => hK h' q hq o'⟩
  · rw [stepD_one he ha] at hK
    unfold sh_milestoneref29_Disk_Sync_k1
    rw [pBin_eql]
    show ifV (.bool false) _ _
    rw [ifV_false]
    exact hK h' q hq o'
  · rw [stepD_ok he ha] at hK
    obtain ⟨_, _, ht⟩ := refE_off he
    obtain ⟨n, hn⟩ := Option.isSome_iff_exists.1 (ht a List.mem_cons_self)
    have hnl := now_lt hI hn
    unfold upT at hK
    rw [look_armed, hn] at hK
    replace hK : ∀ h' q', RcOk q' (modRT { s with armed := s.armed - 1 } n fun t => ⟨t.all, []⟩) → Own h0 h' (rL r q' (modRT { s with armed := s.armed - 1 } n fun t => ⟨t.all, []⟩) L) → K (I 0) h' := hK
    unfold sh_milestoneref29_Disk_Sync_k1
    rw [pBin_eql]
    show ifV (.bool true) _ _
    rw [ifV_true, pNil_ptr, pField_ptr]
    refine o'.load 0 rfl rfl ?_
    have hI' : ({ s with armed := s.armed - 1 } : Dk).Inv U N := ⟨hI.nm, hI.num, hI.ok, hI.inj, by have := hI.ar; show s.armed - 1 < _; omega, hI.lc, hI.lt, hI.lw, hI.wr⟩
    refine pointsR_ok (s := { s with armed := s.armed - 1 }) (q := q) hI' (by omega) o' (i := 2) rfl fun h2 e2 => ?_
    have o2 := o'.more e2
    have el : lookI ({ s with armed := s.armed - 1 } : Dk).now a = ((n : Nat) : Int) := by unfold lookI; rw [look_armed, hn]
    rw [el]
    have hq' : RcOk q { s with armed := s.armed - 1 } := hq
    have hnl' : n < ({ s with armed := s.armed - 1 } : Dk).th.length := hnl
    have hwl := wr_lt hI hnl
    have eg : s.getT n = ({ s with armed := s.armed - 1 } : Dk).getT n := rfl
    rw [eg] at hwl
    generalize ({ s with armed := s.armed - 1 } : Dk) = s1 at o2 hK hq' hnl' hwl
    obtain ⟨x, hx, ex⟩ := hq'.get hnl'
    have hx1 : (q.xs.map (·.1))[n]'(by rw [List.length_map]; exact (List.getElem?_eq_some_iff.1 hx).1) = x.1 := by
      simp [(List.getElem?_eq_some_iff.1 hx).2]
    refine o2.build (enc := encRW) (n := 3) [] rfl (sizesOk_of rfl) rfl fun w1 h3 o3 => ?_
    rw [pNil_ptr, pField_ptr]
    refine o3.load 1 rfl rfl ?_
    refine (o3.vw (enc := encSV) (n := 1) 2 rfl).atF (fun _ => rfl) (by rw [List.length_map]; exact (List.getElem?_eq_some_iff.1 hx).1) (j := 0) (u := x.1.v) (by decide) (by rw [hx1]; rfl) ?_
    have V : Vw encRW 3 h3 x.1.v (wrL (s1.getT n)) := by rw [← ex]; exact fm_vw (o3.get 4 rfl) hx
    refine o3.app 0 rfl (fun _ => rfl) encRW_plain rfl V (by decide) (by simp; omega) fun w2 h4 o4 => ?_
    have o4 : Own h0 h4 (slR encRW 3 T_milestoneref29_Write w2 (wrL (s1.getT n)) :: rL r q s1 L) := o4
    refine LoopH_count (wrL (s1.getT n)).length (fun i x h' => x.1 = I i ∧ Own h0 h' (slR encRW 3 T_milestoneref29_Write w2 (synTo (wrL (s1.getT n)) i) :: rL r q s1 L)) ⟨rfl, by rw [synTo_zero]; exact o4⟩ ?_
    rintro i ⟨y, ⟨⟩⟩ h5 Z hi ⟨hy, o5⟩ hZ
    dsimp only at hy hZ ⊢
    subst hy
    unfold sh_milestoneref29_Disk_Sync_L2
    refine (o5.vw 0 rfl).len ?_
    rw [synTo_len, pBin_lss, ifV_dec]
    refine ⟨fun hlt2 => ?_, fun hge => ?_⟩
    · have hi' : i < (wrL (s1.getT n)).length := by omega
      refine o5.setF (a := ((wrL (s1.getT n))[i].1, true)) 0 rfl (fun _ => rfl) (by rw [synTo_len]; exact hi') (by decide) rfl rfl (by rw [synTo_get hi']; rfl) fun h6 o6 => ?_
      rw [pBin_add, wI i (by omega)]
      rw [synTo_set hi'] at o6
      exact hZ (_, ()) h6 hi' ⟨rfl, o6⟩
    · rw [synTo_all (by omega), wrL_syn] at o5
      have o6 : Own h0 h5 (rL r q s1 (slR encRW 3 T_milestoneref29_Write w2 (wrL ⟨(s1.getT n).all, []⟩) :: L)) :=
        Own.mid' (X := []) (Y := [cellR r [q.t, q.c, .bool s1.off, I s1.armed] T_milestoneref29_Disk, slR encSV 1 T_milestoneref29_Thing q.t (q.xs.map (·.1)), slR encRC 5 T_milestoneref29_Change q.c (chL s1), sepR (fmR q.xs)]) o5
      refine copyRT_ok o6 (by omega) fun w3 h6 o7 => ?_
      refine layRT_ok o7 fun h7 o8 => ?_
      rw [pNil_ptr, pField_ptr]
      refine o8.load 0 rfl rfl ?_
      have o9 : Own h0 h7 (slR encRW 3 T_milestoneref29_Write w2 (wrL ⟨(s1.getT n).all, []⟩) :: cellR r [w3, q.c, .bool s1.off, I s1.armed] T_milestoneref29_Disk :: slR encSV 1 T_milestoneref29_Thing w3 (q.xs.map (·.1)) :: slR encRC 5 T_milestoneref29_Change q.c (chL s1) :: sepR (fmR q.xs) :: L) :=
        Own.mid (X := []) (Y := [cellR r [w3, q.c, .bool s1.off, I s1.armed] T_milestoneref29_Disk, slR encSV 1 T_milestoneref29_Thing w3 (q.xs.map (·.1)), slR encRC 5 T_milestoneref29_Change q.c (chL s1), sepR (fmR q.xs)]) o8
      exact setT_ok (f := fun t : Th => ⟨t.all, []⟩) hq' hnl' o9 fun h8 q8 hq8 o10 => hK h8 q8 hq8 o10

theorem syncDirR_ok (hI : s.Inv U N) (hN : N < 1048576) (o : Own h0 h (rL r q s L)) (hq : RcOk q s)
    (hK : ∀ h' q', RcOk q' (mSyncDir s).2 → Own h0 h' (rL r q' (mSyncDir s).2 L) → K (I (mSyncDir s).1) h') : callS Tryz.prog F_milestoneref29_Disk_SyncDir [ptr r] h K := by
  refine callS_of (lk_milestoneref29_Disk_SyncDir _ ?_)
  unfold sh_milestoneref29_Disk_SyncDir
  have hlen := chL_len hI
  unfold mSyncDir at hK
  refine rstep_ok (K1 := fun t h' => sh_milestoneref29_Disk_SyncDir_k1 Tryz.prog (ptr r) K t h') (ys := []) (l := []) hI (by omega) o Vw.nil (by simp) (.inr ⟨rfl, rfl⟩) (fun hne h' o' => ?_) (fun he ha h' o' => ?_) fun he ha h' o' => ?_
  · have hne' : refE s 0 [] ≠ 0 := hne
    rw [stepD_ne hne'] at hK
    unfold sh_milestoneref29_Disk_SyncDir_k1
    rw [pBin_eql, ifV_beq]
    exact ⟨fun h => absurd h hne, fun _ => hK h' q hq o'⟩
  · have he' : refE s 0 [] = 0 := he
    rw [stepD_one he' ha] at hK
    unfold sh_milestoneref29_Disk_SyncDir_k1
    rw [pBin_eql]
    show ifV (.bool false) _ _
    rw [ifV_false]
    exact hK h' q hq o'
  · have he' : refE s 0 [] = 0 := he
    rw [stepD_ok he' ha] at hK
    unfold sh_milestoneref29_Disk_SyncDir_k1
    rw [pBin_eql]
    show ifV (.bool true) _ _
    rw [ifV_true]
    have el : chL s = chL ({ s with armed := s.armed - 1 } : Dk) := rfl
    rw [el] at hlen
    have hq1 : RcOk q { s with armed := s.armed - 1 } := hq
    generalize ({ s with armed := s.armed - 1 } : Dk) = s1 at o' hK hlen hq1
    refine copyRC_ok o' (by omega) fun w h2 o2 => ?_
    refine layC_ok o2 fun h3 o3 => ?_
    refine LoopH_count (chL s1).length (fun i x h' => x.1 = I i ∧ Own h0 h' (cellR r [q.t, w, .bool s1.off, I s1.armed] T_milestoneref29_Disk :: slR encSV 1 T_milestoneref29_Thing q.t (q.xs.map (·.1)) :: slR encRC 5 T_milestoneref29_Change w (synTo (chL s1) i) :: sepR (fmR q.xs) :: L)) ⟨rfl, by rw [synTo_zero]; exact o3⟩ ?_
    rintro i ⟨y, ⟨⟩⟩ h5 Z hi ⟨hy, o5⟩ hZ
    dsimp only at hy hZ ⊢
    subst hy
    unfold sh_milestoneref29_Disk_SyncDir_L2
    rw [pNil_ptr, pField_ptr]
    refine o5.load 0 rfl rfl ?_
    refine (o5.vw (enc := encRC) (n := 5) 2 rfl).len ?_
    rw [synTo_len, pBin_lss, ifV_dec]
    refine ⟨fun hlt2 => ?_, fun hge => ?_⟩
    · have hi' : i < (chL s1).length := by omega
      rw [pNil_ptr, pField_ptr]
      refine o5.load 0 rfl rfl ?_
      refine o5.setF (a := ((chL s1)[i].1, true)) 2 rfl (fun _ => rfl) (by rw [synTo_len]; exact hi') (by decide) rfl rfl (by rw [synTo_get hi']; rfl) fun h6 o6 => ?_
      rw [pBin_add, wI i (by omega)]
      have o6 : Own h0 h6 (cellR r [q.t, w, .bool s1.off, I s1.armed] T_milestoneref29_Disk :: slR encSV 1 T_milestoneref29_Thing q.t (q.xs.map (·.1)) :: slR encRC 5 T_milestoneref29_Change w ((synTo (chL s1) i).set i ((chL s1)[i].1, true)) :: sepR (fmR q.xs) :: L) := o6
      rw [synTo_set hi'] at o6
      exact hZ (_, ()) h6 hi' ⟨rfl, o6⟩
    · rw [synTo_all (by omega), chL_syn] at o5
      exact hK h5 ⟨q.t, w, q.xs⟩ hq1 o5

/-! ### Pending -/

theorem pendingR_ok (hI : s.Inv U N) (hN : N < 1048576) (o : Own h0 h (rL r q s L)) (hq : RcOk q s)
    (hK : ∀ h', Own h0 h' (rL r q s L) → K (.tuple #[I (mPending s).1, I (mPending s).2]) h') : callS Tryz.prog F_milestoneref29_Disk_Pending [ptr r] h K := by
  refine callS_of (lk_milestoneref29_Disk_Pending _ ?_)
  unfold sh_milestoneref29_Disk_Pending
  have hlen := chL_len hI
  have hxl := hq.len
  have hlt := hI.lt
  have pc : ((chL s).filter fun x => !x.2).length = s.cp.length := by
    have e1 : (s.cs.map (·, true)).filter (fun x => !x.2) = [] := by simp [List.filter_map, Function.comp_def]
    have e2 : (s.cp.map (·, false)).filter (fun x => !x.2) = s.cp.map (·, false) := List.filter_eq_self.2 fun x hx => by obtain ⟨y, _, rfl⟩ := List.mem_map.1 hx; rfl
    unfold chL
    rw [List.filter_append, e1, e2]; simp
  have pw : ∀ t : Th, ((wrL t).filter fun x => !x.2).length = t.pen.length := fun t => by
    have e1 : (t.syn.map (·, true)).filter (fun x => !x.2) = [] := by simp [List.filter_map, Function.comp_def]
    have e2 : (t.pen.map (·, false)).filter (fun x => !x.2) = t.pen.map (·, false) := List.filter_eq_self.2 fun x hx => by obtain ⟨y, _, rfl⟩ := List.mem_map.1 hx; rfl
    unfold wrL
    rw [List.filter_append, e1, e2]; simp
  have fl : ∀ {α : Type} (l : List α) (p : α → Bool) (i : Nat) (hi : i < l.length), ((l.take (i + 1)).filter p).length = ((l.take i).filter p).length + (if p l[i] then 1 else 0) := fun l p i hi => by
    rw [List.take_succ_eq_append_getElem hi, List.filter_append, List.length_append]
    cases h : p l[i] <;> simp [h]
  have fle : ∀ {α : Type} (l : List α) (p : α → Bool), (l.filter p).length ≤ l.length := fun l p => List.length_filter_le _ _
  refine LoopH_count (chL s).length (fun i x h' => x.2.1 = I i ∧ x.1 = I (((chL s).take i).filter fun x => !x.2).length ∧ Own h0 h' (rL r q s L)) ⟨rfl, rfl, o⟩ ?_
  rintro i ⟨y, x, ⟨⟩⟩ h1 Z hi ⟨hx, hy, o1⟩ hZ
  dsimp only at hx hy hZ ⊢
  subst hx hy
  unfold sh_milestoneref29_Disk_Pending_L1
  rw [pNil_ptr, pField_ptr]
  refine o1.load 0 rfl rfl ?_
  have Hv := o1.vw (enc := encRC) (n := 5) (T := T_milestoneref29_Change) 2 rfl
  refine Hv.len ?_
  rw [pBin_lss, ifV_dec]
  refine ⟨fun hlt1 => ?_, fun hge => ?_⟩
  · have hi' : i < (chL s).length := by omega
    rw [pNil_ptr, pField_ptr]
    refine o1.load 0 rfl rfl ?_
    refine Hv.atF (fun _ => rfl) hi' (j := 4) (u := .bool (chL s)[i].2) (by decide) rfl ?_
    have hf := fl (chL s) (fun x => !x.2) i hi'
    have hle := fle ((chL s).take i) (fun x => !x.2)
    rw [List.length_take] at hle
    unfold sh_milestoneref29_Disk_Pending_k2
    cases hb : (chL s)[i].2 with
    | true =>
      rw [notT29, ifV_false, pBin_add, wI i (by omega)]
      rw [hb] at hf
      refine hZ (_, _, ()) h1 hi' ⟨rfl, ?_, o1⟩
      rw [hf]; simp
    | false =>
      rw [notF29, ifV_true, pBin_add, wI _ (by omega), pBin_add, wI i (by omega)]
      rw [hb] at hf
      refine hZ (_, _, ()) h1 hi' ⟨rfl, ?_, o1⟩
      rw [hf]; simp
  · rw [List.take_of_length_le (by omega), pc]
    have nm : ∀ m, namedL s.now (m + 1) = namedL s.now m ++ (if s.now.any (fun x => decide (x.2 = m)) then [m] else []) := fun m => by
      unfold namedL
      rw [List.range_succ, List.filter_append]
      congr 1
      by_cases h : (s.now.any fun x => decide (x.2 = m)) = true
      · rw [if_pos h, List.filter_cons_of_pos (by exact h)]; rfl
      · rw [if_neg h, List.filter_cons_of_neg (by exact h)]; rfl
    have nlen : ∀ m, (namedL s.now m).length ≤ m := fun m => by
      unfold namedL
      exact Nat.le_trans (List.length_filter_le _ _) (by simp)
    have tl : ∀ m, ((s.getT m).pen.length ≤ 1048576) := fun m => by
      by_cases hm : m < s.th.length
      · have := wr_lt hI hm
        rw [← pw]
        exact Nat.le_trans (fle _ _) (by omega)
      · unfold Dk.getT
        rw [List.getD_eq_getElem?_getD, List.getElem?_eq_none (by omega)]
        exact Nat.zero_le _
    have sb' : ∀ (M : Nat), (∀ m, (s.getT m).pen.length ≤ M) → ∀ m, ((namedL s.now m).map fun n => (s.getT n).pen.length).sum ≤ m * M := by
      intro M hM m
      induction m with
      | zero => simp [namedL]
      | succ m ih =>
        have := hM m
        rw [nm, List.map_append, List.sum_append, Nat.succ_mul]
        split
        · rw [List.map_cons, List.map_nil, List.sum_cons, List.sum_nil]; omega
        · rw [List.map_nil, List.sum_nil]; omega
    have sb := fun m (_ : m ≤ 1048576) => sb' _ tl m
    refine LoopH_count s.th.length (fun m x h' => x.2.1 = I m ∧ x.1 = I ((namedL s.now m).map fun n => (s.getT n).pen.length).sum ∧ Own h0 h' (rL r q s L)) ⟨rfl, rfl, o1⟩ ?_
    rintro m ⟨y, x, ⟨⟩⟩ h2 Z1 hm ⟨hx, hy, o2⟩ hZ1
    dsimp only at hx hy hZ1 ⊢
    subst hx hy
    unfold sh_milestoneref29_Disk_Pending_L3
    rw [pNil_ptr, pField_ptr]
    refine o2.load 0 rfl rfl ?_
    refine (o2.vw (enc := encSV) (n := 1) 1 rfl).len ?_
    rw [List.length_map, hxl, pBin_lss, ifV_dec]
    refine ⟨fun hlt1 => ?_, fun hge1 => ?_⟩
    · have hm' : m < s.th.length := by omega
      have hsb := sb m (by omega)
      have hmb : m * 1048576 ≤ 1048576 * 1048576 := Nat.mul_le_mul_right _ (by omega)
      obtain ⟨xx, hxx, exx⟩ := hq.get hm'
      have hx1 : (q.xs.map (·.1))[m]'(by rw [List.length_map]; omega) = xx.1 := by
        simp [(List.getElem?_eq_some_iff.1 hxx).2]
      have hwl := wr_lt hI hm'
      have nm := nm m
      obtain ⟨S, hS⟩ : ∃ S, S = ((namedL s.now m).map fun n => (s.getT n).pen.length).sum := ⟨_, rfl⟩
      rw [← hS] at hsb ⊢
      have k6 : ∀ (T : Nat) (h' : Heap), T = ((namedL s.now (m + 1)).map fun n => (s.getT n).pen.length).sum → Own h0 h' (rL r q s L) → sh_milestoneref29_Disk_Pending_k6 Tryz.prog (I m) (fun a0 a1 hz => Z1 (a0, (a1, ())) hz) (I T) h' := by
        intro T h' hT o'
        unfold sh_milestoneref29_Disk_Pending_k6
        rw [pBin_add, wI m (by omega)]
        exact hZ1 (_, _, ()) h' (by omega) ⟨rfl, by rw [hT], o'⟩
      have tot : ((namedL s.now (m + 1)).map fun n => (s.getT n).pen.length).sum = S + (if s.now.any (fun x => decide (x.2 = m)) then (s.getT m).pen.length else 0) := by
        rw [nm, List.map_append, List.sum_append, ← hS]
        split <;> simp
      refine LoopH_count (wrL (s.getT m)).length (fun i x h' => x.2.1 = I i ∧ x.1 = I ((S + (((wrL (s.getT m)).take i).filter fun x => !x.2).length : Nat) : Int) ∧ (0 < i → s.now.any (fun x => decide (x.2 = m)) = true) ∧ Own h0 h' (rL r q s L)) ⟨rfl, by simp, fun h => absurd h (by decide), o2⟩ ?_
      rintro i ⟨y, x, ⟨⟩⟩ h3 Z2 hi ⟨hx, hy, hnm, o3⟩ hZ2
      dsimp only at hx hy hZ2 ⊢
      subst hx hy
      unfold sh_milestoneref29_Disk_Pending_L4
      rw [pNil_ptr, pField_ptr]
      refine o3.load 0 rfl rfl ?_
      have VT := o3.vw (enc := encSV) (n := 1) (T := T_milestoneref29_Thing) 1 rfl
      refine VT.atF (fun _ => rfl) (by rw [List.length_map]; omega) (j := 0) (u := xx.1.v) (by decide) (by rw [hx1]; rfl) ?_
      have V : Vw encRW 3 h3 xx.1.v (wrL (s.getT m)) := by rw [← exx]; exact fm_vw (o3.get 3 rfl) hxx
      refine V.len ?_
      have hle := fle ((wrL (s.getT m)).take i) (fun x => !x.2)
      rw [List.length_take] at hle
      rw [pBin_lss, ifV_dec]
      refine ⟨fun hlt2 => ?_, fun hge2 => ?_⟩
      · have hi' : i < (wrL (s.getT m)).length := by omega
        refine pointsB_ok hI (by omega) o3 fun h4 o4 => ?_
        cases hn : (s.now.any fun x => decide (x.2 = m)) with
        | true =>
          rw [ifV_true, pNil_ptr, pField_ptr]
          refine o4.load 0 rfl rfl ?_
          have VT := o4.vw (enc := encSV) (n := 1) (T := T_milestoneref29_Thing) 1 rfl
          refine VT.atF (fun _ => rfl) (by rw [List.length_map]; omega) (j := 0) (u := xx.1.v) (by decide) (by rw [hx1]; rfl) ?_
          have V : Vw encRW 3 h4 xx.1.v (wrL (s.getT m)) := by rw [← exx]; exact fm_vw (o4.get 3 rfl) hxx
          refine V.atF (fun _ => rfl) hi' (j := 2) (u := .bool (wrL (s.getT m))[i].2) (by decide) rfl ?_
          have hf := fl (wrL (s.getT m)) (fun x => !x.2) i hi'
          unfold sh_milestoneref29_Disk_Pending_k5
          cases hb : (wrL (s.getT m))[i].2 with
          | true =>
            rw [notT29, ifV_false, pBin_add, wI i (by omega)]
            rw [hb] at hf
            refine hZ2 (_, _, ()) h4 hi' ⟨rfl, ?_, fun _ => hn, o4⟩
            rw [hf]; simp
          | false =>
            rw [notF29, ifV_true, pBin_add, wI _ (by omega), pBin_add, wI i (by omega)]
            rw [hb] at hf
            refine hZ2 (_, _, ()) h4 hi' ⟨rfl, ?_, fun _ => hn, o4⟩
            rw [hf]; simp; omega
        | false =>
          rw [ifV_false]
          have i0 : i = 0 := Classical.byContradiction fun h => by
            have := hnm (by omega)
            rw [hn] at this; cases this
          subst i0
          refine k6 _ h4 ?_ o4
          rw [tot, hn]; simp
      · refine k6 _ h3 ?_ o3
        rw [List.take_of_length_le (by omega), pw, tot]
        by_cases i0 : 0 < i
        · rw [hnm i0]; simp
        · have : (wrL (s.getT m)).length = 0 := by omega
          have := fle (wrL (s.getT m)) (fun x => !x.2)
          rw [pw] at this
          have e0 : (s.getT m).pen.length = 0 := by omega
          rw [e0]; simp
    · have e : m = s.th.length := by omega
      subst e
      exact hK h2 o2

end
end Go.Proofs.YtleaknaadodjeaaGreat

/-! The disk by definition: its names. -/
namespace Go.Proofs.YtleaknaadodjeaaGreat
open Go Go.Mh
set_option linter.unusedVariables false

section
variable {h0 h : Heap} {L : List Res} {K : Value → Heap → Prop} {r n : Nat} {q : RC} {s : Dk} {U : List Nm} {N : Nat} {a b : Nm}

theorem encS_plain29 (x : ByteArray) : ∀ u ∈ encS x, Mh.plainCell u = true := by intro u hu; simp [encS] at hu; subst hu; rfl

theorem mid1 {r1 r2 r3 r4 r5 : Res} (o : Own h0 h (r1 :: r2 :: r3 :: r4 :: r5 :: L)) : Own h0 h (r2 :: r3 :: r4 :: r5 :: r1 :: L) := Own.mid' (X := []) (Y := [r2, r3, r4, r5]) o

theorem namesR_ok (hI : s.Inv U N) (hN : N < 1048576) (o : Own h0 h (rL r q s L)) (hK : ∀ w h', Own h0 h' (slR encS 1 T_string w (mNames s) :: rL r q s L) → K w h') : callS Tryz.prog F_milestoneref29_Disk_Names [ptr r] h K := by
  refine callS_of (lk_milestoneref29_Disk_Names _ ?_)
  unfold sh_milestoneref29_Disk_Names
  have hlen := chL_len hI
  have hl2 : (s.cs ++ s.cp).length = (chL s).length := by rw [← chL_fst, List.length_map]
  refine LoopH_count (chL s).length (fun i x h' => x.2.1 = I i ∧ (s.off = true → i = 0) ∧ ∃ ys, NmP s (saidBy ((s.cs ++ s.cp).take i)) ys ∧ Own h0 h' (slR encS 1 T_string x.1 ys :: rL r q s L)) ⟨rfl, fun _ => rfl, [], NmP.nil, o.nilS⟩ ?_
  rintro i ⟨ov, x, ⟨⟩⟩ h1 Z hi ⟨hx, hoff, ys, hP, o1⟩ hZ
  dsimp only at hx o1 hZ ⊢
  subst hx
  have k7 : (s.off = true ∨ (chL s).length ≤ i) → sh_milestoneref29_Disk_Names_k7 Tryz.prog K ov h1 := by
    intro hc
    unfold sh_milestoneref29_Disk_Names_k7
    cases ho : s.off with
    | true =>
      have := hoff ho
      subst this
      have e : ys = mNames s := by
        unfold mNames
        rw [ho]
        have := hP.len
        simp [saidBy] at this
        simpa using this
      rw [e] at o1
      exact hK _ _ o1
    | false =>
      have hc2 : (chL s).length ≤ i := by
        rcases hc with hc | hc
        · rw [ho] at hc; cases hc
        · exact hc
      rw [List.take_of_length_le (by omega)] at hP
      rw [hP.all hI.ok ho] at o1
      exact hK _ _ o1
  unfold sh_milestoneref29_Disk_Names_L1
  rw [pNil_ptr, pField_ptr]
  refine o1.load 1 rfl rfl ?_
  have Hv := o1.vw (enc := encRC) (n := 5) (T := T_milestoneref29_Change) 3 rfl
  refine Hv.len ?_
  rw [pBin_lss, ifV_dec]
  refine ⟨fun hlt => ?_, fun hge => k7 (.inr (by omega))⟩
  have hi' : i < (chL s).length := by omega
  rw [pNil_ptr, pField_ptr]
  refine o1.load 1 rfl rfl ?_
  cases ho : s.off with
  | true =>
    rw [notT29, ifV_false]
    exact k7 (.inl ho)
  | false =>
    rw [notF29, ifV_true, pNil_ptr, pField_ptr]
    refine o1.load 1 rfl rfl ?_
    refine Hv.atF (fun _ => rfl) hi' (j := 2) (u := .string (chL s)[i].1.A) (by decide) rfl ?_
    rw [pNil_ptr, pField_ptr]
    refine o1.load 1 rfl rfl ?_
    refine Hv.atF (fun _ => rfl) hi' (j := 3) (u := .string (chL s)[i].1.B) (by decide) rfl ?_
    refine ⟨sizesOk_of rfl, ?_⟩
    have ei : (s.cs ++ s.cp)[i]'(by omega) = (chL s)[i].1 := by simp [← chL_fst]
    have nx : saidBy ((s.cs ++ s.cp).take (i + 1)) = saidBy ((s.cs ++ s.cp).take i) ++ [(chL s)[i].1.A, (chL s)[i].1.B] := by
      rw [List.take_succ_eq_append_getElem (by omega), ei]
      unfold saidBy
      rw [List.flatMap_append]; simp
    have sl : (saidBy ((s.cs ++ s.cp).take i)).length = 2 * i := by
      unfold saidBy
      rw [List.length_flatMap]
      have : ∀ l : List Ch, (l.map fun c => ([c.A, c.B] : List Nm).length).sum = 2 * l.length := fun l => by
        induction l with
        | nil => rfl
        | cons c l ih => simp at ih ⊢; omega
      rw [this, List.length_take]; omega
    generalize (chL s)[i].1.A = A at nx
    generalize (chL s)[i].1.B = B at nx
    generalize saidBy ((s.cs ++ s.cp).take i) = l0 at nx sl hP
    refine LoopH_count 2 (fun j x h' => x.2.1 = I j ∧ ∃ ys, NmP s (l0 ++ [A, B].take j) ys ∧ Own h0 h' (slR encS 1 T_string x.1 ys :: rL r q s L)) ⟨rfl, ys, by simpa using hP, o1⟩ ?_
    clear hP o1 k7 ys ov Hv
    rintro j ⟨ov, x, ⟨⟩⟩ h1 Z1 hj ⟨hx, ys, hP, o1⟩ hZ1
    dsimp only at hx o1 hZ1 ⊢
    subst hx
    unfold sh_milestoneref29_Disk_Names_L2
    rw [pBin_lss, ifV_dec]
    refine ⟨fun hlt2 => ?_, fun hge2 => ?_⟩
    · have hj2 : j < 2 := by omega
      obtain ⟨nm, hnm, hidx⟩ : ∃ nm, [A, B].take (j + 1) = [A, B].take j ++ [nm] ∧ ∀ K' : Value → Prop, K' (.string nm) → pIdxV1 2 (.agg (spliceAll [(.string ⟨#[]⟩), (.string ⟨#[]⟩)] [(0, 1, .string A), (1, 1, .string B)]).toArray) (I j) K' := by
        rcases (show j = 0 ∨ j = 1 by omega) with rfl | rfl
        · exact ⟨A, rfl, fun K' hk => ⟨by decide, by decide, hk⟩⟩
        · exact ⟨B, rfl, fun K' hk => ⟨by decide, by decide, hk⟩⟩
      refine hidx _ ?_
      have hPl := hP.len
      rw [List.length_append, List.length_take, sl] at hPl
      have hyl : ys.length ≤ 2 * 1048576 := by simp at hPl; omega
      have k3 : ∀ (w : Value) (zs : List Nm) (h' : Heap), NmP s (l0 ++ [A, B].take (j + 1)) zs → Own h0 h' (slR encS 1 T_string w zs :: rL r q s L) → sh_milestoneref29_Disk_Names_k3 Tryz.prog (I j) (fun a0 a1 hz => Z1 (a0, (a1, ())) hz) w h' := by
        intro w zs h' hz o'
        unfold sh_milestoneref29_Disk_Names_k3
        rw [pBin_add, wI j (by omega)]
        exact hZ1 (_, _, ()) h' hj2 ⟨rfl, zs, hz, o'⟩
      rw [pNil_ptr, pField_ptr]
      refine o1.load 1 rfl rfl ?_
      refine pointsR_ok (s := s) (q := q) hI (by omega) o1 (i := 3) rfl fun h2 e2 => ?_
      have o2 := o1.more e2
      have hneg := lookI_neg (D := s.now) (x := nm)
      rw [pBin_lss, ifV_dec]
      refine ⟨fun hlt3 => ?_, fun hge3 => ?_⟩
      · refine k3 ov ys h2 ?_ o2
        rw [hnm, ← List.append_assoc]
        exact hP.skip (hneg.1 hlt3)
      · have hsome : (dlook s.now nm).isSome = true := by
          cases hd : (dlook s.now nm).isSome with
          | true => rfl
          | false => exact absurd (hneg.2 hd) hge3
        have hput := hP.put hsome
        rw [List.append_assoc, ← hnm] at hput
        refine LoopH_count ys.length (fun k x h' => x.1 = I k ∧ (∀ m (hm : m < k) (hk : k ≤ ys.length), ltS (ys[m]'(by omega)) nm = true) ∧ Own h0 h' (slR encS 1 T_string ov ys :: rL r q s L)) ⟨rfl, fun m hm => by omega, o2⟩ ?_
        rintro k ⟨x, ⟨⟩⟩ h3 Z2 hk ⟨hx, hless, o3⟩ hZ2
        dsimp only at hx hZ2 ⊢
        subst hx
        have Hy := o3.vw (enc := encS) (n := 1) (T := T_string) 0 rfl
        have k6 : insO ltS nm ys = ys.take k ++ nm :: ys.drop k → sh_milestoneref29_Disk_Names_k6 Tryz.prog ov (I k) (.string nm) (I j) (fun a0 a1 hz => Z1 (a0, (a1, ())) hz) h3 := by
          intro hins
          rw [hins] at hput
          unfold sh_milestoneref29_Disk_Names_k6
          refine Hy.subA (a := 0) (j := k) (fun _ => rfl) rfl rfl (Nat.zero_le _) hk fun v1 hv1 => ?_
          refine Hy.subA (a := k) (j := ys.length) (fun _ => rfl) rfl rfl hk (Nat.le_refl _) fun v2 hv2 => ?_
          have e1 : (ys.drop 0).take (k - 0) = ys.take k := by simp
          have e2 : (ys.drop k).take (ys.length - k) = ys.drop k := List.take_of_length_le (by simp)
          rw [e1] at hv1
          rw [e2] at hv2
          have E : ∀ {h5 : Heap} {L' : List Res} (i : Nat) (v : Value) (xs : List Nm) (y : Value) (zs : List Nm), Own h0 h5 L' → L'[i]? = some (slR encS 1 T_string v xs) → Vw encS 1 h5 y zs → xs.length ≤ 4194304 → zs.length ≤ 4194304 → ∀ KH : Value → Heap → Prop, (∀ v' h4, Own h0 h4 (L'.set i (slR encS 1 T_string v' (xs ++ zs))) → KH v' h4) →
              pAppend T_string 1 16 [(.string ⟨#[]⟩)] v y h5 KH := fun i v xs y zs o5 hi hy h1 h2 KH hk =>
            o5.app i hi (fun _ => rfl) encS_plain29 rfl hy (by decide) (by omega) hk
          have tl : (ys.take k).length ≤ ys.length := by rw [List.length_take]; omega
          have dl : (ys.drop k).length ≤ ys.length := by rw [List.length_drop]; omega
          have fin : ∀ (w : Value) (h' : Heap), Own h0 h' (slR encS 1 T_string w ((ys.take k ++ [nm]) ++ ys.drop k) :: slR encS 1 T_string ov ys :: rL r q s L) → sh_milestoneref29_Disk_Names_k3 Tryz.prog (I j) (fun a0 a1 hz => Z1 (a0, (a1, ())) hz) w h' := by
            intro w h' o'
            rw [show (ys.take k ++ [nm]) ++ ys.drop k = ys.take k ++ nm :: ys.drop k by simp] at o'
            exact k3 w _ h' hput (o'.erase 1)
          refine ⟨?_, ?_⟩
          · refine o3.build (enc := encS) (n := 1) [] rfl (sizesOk_of rfl) rfl fun w1 h4 o4 => ?_
            refine ⟨?_, ?_⟩
            · refine E 0 _ [] _ _ o4 rfl (hv1 _ (o4.vw 1 rfl)) (by simp) (by omega) _ fun w2 h5 o5 => ?_
              refine o5.build (enc := encS) (n := 1) [nm] rfl (sizesOk_of rfl) rfl fun w3 h6 o6 => ?_
              refine E 1 _ (ys.take k) _ _ o6 rfl (o6.vw 0 rfl) (by omega) (by simp) _ fun w4 h7 o7 => ?_
              refine E 1 _ (ys.take k ++ [nm]) _ _ o7 rfl (hv2 _ (o7.vw 2 rfl)) (by simp; omega) (by omega) _ fun w5 h8 o8 => ?_
              exact fin w5 h8 o8.tail
            · refine o4.build (enc := encS) (n := 1) [nm] rfl (sizesOk_of rfl) rfl fun w3 h6 o6 => ?_
              refine E 1 _ [] _ _ o6 rfl (hv1 _ (o6.vw 2 rfl)) (by simp) (by omega) _ fun w2 h5 o5 => ?_
              refine E 1 _ (ys.take k) _ _ o5 rfl (o5.vw 0 rfl) (by omega) (by simp) _ fun w4 h7 o7 => ?_
              refine E 1 _ (ys.take k ++ [nm]) _ _ o7 rfl (hv2 _ (o7.vw 2 rfl)) (by simp; omega) (by omega) _ fun w5 h8 o8 => ?_
              exact fin w5 h8 o8.tail
          · refine o3.build (enc := encS) (n := 1) [nm] rfl (sizesOk_of rfl) rfl fun w3 h6 o6 => ?_
            refine o6.build (enc := encS) (n := 1) [] rfl (sizesOk_of rfl) rfl fun w1 h4 o4 => ?_
            refine E 0 _ [] _ _ o4 rfl (hv1 _ (o4.vw 2 rfl)) (by simp) (by omega) _ fun w2 h5 o5 => ?_
            refine E 0 _ (ys.take k) _ _ o5 rfl (o5.vw 1 rfl) (by omega) (by simp) _ fun w4 h7 o7 => ?_
            refine E 0 _ (ys.take k ++ [nm]) _ _ o7 rfl (hv2 _ (o7.vw 2 rfl)) (by simp; omega) (by omega) _ fun w5 h8 o8 => ?_
            exact fin w5 h8 (o8.erase 1)
        have k5 : (∀ (h : k < ys.length), ltS ys[k] nm = false) → sh_milestoneref29_Disk_Names_k5 Tryz.prog ov (I k) (.string nm) (I j) (fun a0 a1 hz => Z1 (a0, (a1, ())) hz) h3 := by
          intro hstop
          have hins := insO_take ltS_ok (x := nm) hk (fun m hm => hless m hm hk) hstop
          unfold sh_milestoneref29_Disk_Names_k5
          refine Hy.len ?_
          rw [pBin_eql, ifV_beq]
          refine ⟨fun he => ?_, fun hne => ?_⟩
          · rw [dif_neg (by omega)] at hins
            exact k6 hins
          · have hk' : k < ys.length := by omega
            rw [dif_pos hk'] at hins
            refine Hy.at1 (e := fun (x : Nm) => Value.string x) (fun _ => rfl) hk' ?_
            rw [pBin_neqS, ifV_notb, ifV_dec]
            refine ⟨fun he => ?_, fun hne => ?_⟩
            · rw [if_pos he] at hins
              rw [hins] at hput
              exact k3 ov ys h3 hput o3
            · rw [if_neg (fun h => hne h)] at hins
              exact k6 hins
        unfold sh_milestoneref29_Disk_Names_L4
        refine Hy.len ?_
        rw [pBin_lss, ifV_dec]
        refine ⟨fun hlt4 => ?_, fun hge4 => ?_⟩
        · have hk' : k < ys.length := by omega
          refine Hy.at1 (e := fun (x : Nm) => Value.string x) (fun _ => rfl) hk' ?_
          rw [pBin_lssS, ifV_bool]
          refine ⟨fun hl => ?_, fun hl => ?_⟩
          · rw [pBin_add, wI k (by omega)]
            refine hZ2 (_, ()) h3 hk' ⟨rfl, fun m hm hk2 => ?_, o3⟩
            by_cases e : m = k
            · subst e; exact hl
            · exact hless m (by omega) hk
          · exact k5 fun _ => hl
        · exact k5 fun h => by omega
    · have e2 : j = 2 := by omega
      subst e2
      rw [pBin_add, wI i (by omega)]
      refine hZ (_, _, ()) h1 hi' ⟨rfl, fun h => (by rw [ho] at h; cases h), ys, ?_, o1⟩
      rw [nx]; exact hP

end
end Go.Proofs.YtleaknaadodjeaaGreat

/-! The disk by definition: crashes. -/
namespace Go.Proofs.YtleaknaadodjeaaGreat
open Go Go.Mh
set_option linter.unusedVariables false

section
variable {h0 h hb : Heap} {L : List Res} {K : Value → Heap → Prop} {r n : Nat} {q : RC} {s : Dk} {U : List Nm} {N : Nat} {a b : Nm}

theorem fate_drop {fs : List Int} {c : Nat} (hr : ∀ z ∈ fs, 0 ≤ z ∧ z ≤ 255) : (∀ (h : c < fs.length), fs[c] = ((fateOf (fs.drop c) : Nat) : Int)) ∧ (¬ c < fs.length → fateOf (fs.drop c) = 0) := by
  refine ⟨fun h => ?_, fun h => ?_⟩
  · rw [List.drop_eq_getElem_cons h]
    have := hr _ (List.getElem_mem h)
    show _ = ((fs[c].toNat : Nat) : Int)
    omega
  · rw [List.drop_of_length_le (by omega)]; rfl

theorem crT_at (x : List Th × List Int) (n : Nat) : crT x n = (x.1.modify n fun t => ⟨t.syn ++ (crW t.pen x.2).1, []⟩, (crW (x.1.getD n default).pen x.2).2) := rfl

set_option maxHeartbeats 1000000 in
theorem crashR_ok {fv : Value} {fs : List Int} (hI : s.Inv U N) (hN : N < 1048576) (o : Own h0 h (rL r q s L)) (hq : RcOk q s) (Hf : VwE h0 fv fs) (hr : ∀ z ∈ fs, 0 ≤ z ∧ z ≤ 255) (hfl : fs.length < 2 ^ 63)
    (hK : ∀ h' q', RcOk q' (mCrash s fs) → Own h0 h' (rL r q' (mCrash s fs) L) → K (.tuple #[]) h') : callS Tryz.prog F_milestoneref29_Disk_Crash [ptr r, fv] h K := by
  refine callS_of (lk_milestoneref29_Disk_Crash _ _ ?_)
  unfold sh_milestoneref29_Disk_Crash
  have hlen := chL_len hI
  have hcl : (chL s).length = s.cs.length + s.cp.length := by rw [← List.length_map (f := fun x : Ch × Bool => x.1), chL_fst, List.length_append]
  refine pendingR_ok hI hN o hq fun h1 o1 => ?_
  rw [pExt0, pExt1, pNil_ptr, pField_ptr]
  refine o1.load 0 rfl rfl ?_
  refine (o1.vw (enc := encRC) (n := 5) 2 rfl).len ?_
  have hp1 : (mPending s).1 = s.cp.length := rfl
  have es : (((chL s).length : Int) - ((mPending s).1 : Int)) = ((s.cs.length : Nat) : Int) := by rw [hp1, hcl]; omega
  rw [pBin_sub, es, w64 (by omega) (by omega)]
  have HfE : ∀ {h' : Heap} {L' : List Res}, Own h0 h' L' → VwE h' fv fs := fun o' => Hf.moreE o'.ext
  -- behind the choice of how many changes stay
  have k1 : ∀ k, k = fateOf fs % (s.cp.length + 1) → sh_milestoneref29_Disk_Crash_k1 Tryz.prog (ptr r) fv K (I ((s.cs.length + k : Nat) : Int)) h1 := by
    intro k hk
    have hkl : k ≤ s.cp.length := by
      have := Nat.mod_lt (fateOf fs) (show 0 < s.cp.length + 1 by omega)
      omega
    obtain ⟨D, hD⟩ : ∃ D, D = dirOf (s.cs ++ s.cp.take k) := ⟨_, rfl⟩
    have hKD : ∀ h' q', RcOk q' ({ cs := s.cs ++ s.cp.take k, cp := [], th := ((namedL D s.th.length).foldl crT (s.th, fs.tail)).1, armed := 0, off := false } : Dk) → Own h0 h' (rL r q' ({ cs := s.cs ++ s.cp.take k, cp := [], th := ((namedL D s.th.length).foldl crT (s.th, fs.tail)).1, armed := 0, off := false } : Dk) L) → K (.tuple #[]) h' := by
      unfold mCrash at hK
      dsimp only at hK
      rw [← hk, ← hD] at hK
      exact hK
    unfold sh_milestoneref29_Disk_Crash_k1
    rw [pBin_add]
    show pBuildSlice _ _ _ _ _ _
    refine o1.build (enc := encRC) (n := 5) [] rfl (sizesOk_of rfl) rfl fun w1 h2 o2 => ?_
    rw [pNil_ptr, pField_ptr]
    refine o2.load 1 rfl rfl ?_
    refine (o2.vw (enc := encRC) (n := 5) (T := T_milestoneref29_Change) 3 rfl).subA (a := 0) (j := s.cs.length + k) (fun _ => rfl) rfl rfl (Nat.zero_le _) (by omega) fun v1 hv1 => ?_
    have e1 : ((chL s).drop 0).take (s.cs.length + k - 0) = (chL s).take (s.cs.length + k) := by simp
    rw [e1] at hv1
    have htl : ((chL s).take (s.cs.length + k)).length = s.cs.length + k := by rw [List.length_take]; omega
    refine o2.app 0 rfl (fun _ => rfl) encRC_plain rfl (hv1 _ (o2.vw 3 rfl)) (by decide) (by rw [htl]; simp; omega) fun w2 h3 o3 => ?_
    have o3 : Own h0 h3 (slR encRC 5 T_milestoneref29_Change w2 ((chL s).take (s.cs.length + k)) :: rL r q s L) := o3
    refine layC_ok o3 fun h4 o4 => ?_
    have htk : ((chL s).take (s.cs.length + k)).map (fun x => (x.1, true)) = chL { s with cs := s.cs ++ s.cp.take k, cp := [] } := by
      unfold chL
      dsimp only
      rw [List.take_append, List.map_append, List.take_of_length_le (by simp), List.length_map, Nat.add_sub_cancel_left, List.map_map, ← List.map_take, List.map_map, List.map_append]
      simp [Function.comp_def]
    generalize (chL s).take (s.cs.length + k) = cl at o4 htl htk
    refine LoopH_count (s.cs.length + k) (fun i x h' => x.1 = I i ∧ Own h0 h' (cellR r [q.t, w2, .bool s.off, I s.armed] T_milestoneref29_Disk :: slR encSV 1 T_milestoneref29_Thing q.t (q.xs.map (·.1)) :: slR encRC 5 T_milestoneref29_Change w2 (synTo cl i) :: sepR (fmR q.xs) :: L)) ⟨rfl, by rw [synTo_zero]; exact o4⟩ ?_
    rintro i ⟨y, ⟨⟩⟩ h5 Z hi ⟨hy, o5⟩ hZ
    dsimp only at hy hZ ⊢
    subst hy
    unfold sh_milestoneref29_Disk_Crash_L2
    rw [pBin_lss, ifV_dec]
    refine ⟨fun hlt2 => ?_, fun hge => ?_⟩
    · have hi' : i < cl.length := by omega
      rw [pNil_ptr, pField_ptr]
      refine o5.load 0 rfl rfl ?_
      refine o5.setF (a := (cl[i].1, true)) 2 rfl (fun _ => rfl) (by rw [synTo_len]; exact hi') (by decide) rfl rfl (by rw [synTo_get hi']; rfl) fun h6 o6 => ?_
      rw [pBin_add, wI i (by omega)]
      have o6 : Own h0 h6 (cellR r [q.t, w2, .bool s.off, I s.armed] T_milestoneref29_Disk :: slR encSV 1 T_milestoneref29_Thing q.t (q.xs.map (·.1)) :: slR encRC 5 T_milestoneref29_Change w2 ((synTo cl i).set i (cl[i].1, true)) :: sepR (fmR q.xs) :: L) := o6
      rw [synTo_set hi'] at o6
      exact hZ (_, ()) h6 (by omega) ⟨rfl, o6⟩
    · rw [synTo_all (by omega), htk] at o5
      have hI1 : ({ s with cs := s.cs ++ s.cp.take k, cp := [] } : Dk).Inv U N := cut_inv hI
      have hnow : ({ s with cs := s.cs ++ s.cp.take k, cp := [] } : Dk).now = D := by
        unfold Dk.now; dsimp only; rw [List.append_nil, hD]
      have hxl := hq.len
      have hlt := hI.lt
      have o6 : Own h0 h5 (rL r ⟨q.t, w2, q.xs⟩ { s with cs := s.cs ++ s.cp.take k, cp := [] } L) := o5
      refine copyRT_ok o6 (by show q.xs.length ≤ _; omega) fun w3 h6 o7 => ?_
      refine layRT_ok o7 fun h7 o8 => ?_
      -- the state behind the first m things
      let sM : Nat → Dk := fun m => { ({ s with cs := s.cs ++ s.cp.take k, cp := [] } : Dk) with th := ((namedL D m).foldl crT (s.th, fs.tail)).1 }
      have sMI : ∀ m, (sM m).Inv U N := fun m => crT_inv (f := fs.tail) hI1
      have sMn : ∀ m, (sM m).now = D := fun m => hnow
      have sMl : ∀ m, (sM m).th.length = s.th.length := fun m => by
        show ((namedL D m).foldl crT (s.th, fs.tail)).1.length = _
        exact Go.Mh.crT_len
      refine LoopH_count s.th.length (fun m x h' => x.2.1 = I m ∧ ∃ c q', x.1 = I ((c : Nat) : Int) ∧ c ≤ 1 + m * N ∧ ((namedL D m).foldl crT (s.th, fs.tail)).2 = fs.drop c ∧ RcOk q' (sM m) ∧ Own h0 h' (rL r q' (sM m) L)) ⟨rfl, 1, ⟨w3, w2, q.xs⟩, rfl, by omega, by simp [namedL], hq, o8⟩ ?_
      rintro m ⟨y, x, ⟨⟩⟩ h8 Z1 hm ⟨hx1, c, q1, hy, hcm, hfd, hq1, o9⟩ hZ1
      dsimp only at hx1 hy hZ1 ⊢
      subst hx1 hy
      have hsI := sMI m
      have hsn := sMn m
      have hsl := sMl m
      have hxl1 := hq1.len
      unfold sh_milestoneref29_Disk_Crash_L3
      rw [pNil_ptr, pField_ptr]
      refine o9.load 0 rfl rfl ?_
      refine (o9.vw (enc := encSV) (n := 1) 1 rfl).len ?_
      rw [List.length_map, hxl1, hsl, pBin_lss, ifV_dec]
      refine ⟨fun hlt3 => ?_, fun hge3 => ?_⟩
      · have hm' : m < s.th.length := by omega
        have hm2 : m < (sM m).th.length := by omega
        have hmb : m * N ≤ 1048576 * 1048576 := Nat.mul_le_mul (by omega) (by omega)
        have hms : (m + 1) * N = m * N + N := Nat.succ_mul m N
        have k4 : ∀ (c' : Nat) (h' : Heap) (q' : RC), c' ≤ 1 + (m + 1) * N → ((namedL D (m + 1)).foldl crT (s.th, fs.tail)).2 = fs.drop c' → RcOk q' (sM (m + 1)) → Own h0 h' (rL r q' (sM (m + 1)) L) → sh_milestoneref29_Disk_Crash_k4 Tryz.prog (I m) (fun a0 a1 hz => Z1 (a0, (a1, ())) hz) (I ((c' : Nat) : Int)) h' := by
          intro c' h' q' h1 h2 h3 o'
          unfold sh_milestoneref29_Disk_Crash_k4
          rw [pBin_add, wI m (by omega)]
          exact hZ1 (_, _, ()) h' hm' ⟨rfl, c', q', rfl, h1, h2, h3, o'⟩
        refine pointsB_ok hsI (by omega) o9 fun h9 o10 => ?_
        rw [hsn]
        cases hany : (D.any fun x => decide (x.2 = m)) with
        | false =>
          have en : namedL D (m + 1) = namedL D m := by rw [namedL_succ, hany]; simp
          rw [notF29, ifV_true]
          have eM : sM (m + 1) = sM m := by show ({ ({ s with cs := s.cs ++ s.cp.take k, cp := [] } : Dk) with th := ((namedL D (m + 1)).foldl crT (s.th, fs.tail)).1 } : Dk) = _; rw [en]
          refine k4 c h9 q1 (by omega) (by rw [en]; exact hfd) (by rw [eM]; exact hq1) (by rw [eM]; exact o10)
        | true =>
          have en : namedL D (m + 1) = namedL D m ++ [m] := by rw [namedL_succ, hany]; simp
          rw [notT29, ifV_false]
          obtain ⟨xx, hxx, exx⟩ := hq1.get hm2
          have hx1 : (q1.xs.map (·.1))[m]'(by rw [List.length_map]; omega) = xx.1 := by
            simp [(List.getElem?_eq_some_iff.1 hxx).2]
          have hwl := wr_lt hsI hm2
          obtain ⟨t, htt⟩ : ∃ t, t = (sM m).getT m := ⟨_, rfl⟩
          rw [← htt] at exx hwl
          have hst : ((namedL D (m + 1)).foldl crT (s.th, fs.tail)) = (((sM m).th.modify m fun t => ⟨t.syn ++ (crW t.pen (fs.drop c)).1, []⟩), (crW t.pen (fs.drop c)).2) := by
            rw [en, List.foldl_append]
            show crT ((namedL D m).foldl crT (s.th, fs.tail)) m = _
            rw [crT_at ((namedL D m).foldl crT (s.th, fs.tail)) m, hfd, htt]
            rfl
          have htot : prW (wrL t) (fs.drop c) = (t.syn ++ (crW t.pen (fs.drop c)).1, (crW t.pen (fs.drop c)).2) := prW_wrL
          obtain ⟨P, hP⟩ : ∃ P, P = prW (wrL t) (fs.drop c) := ⟨_, rfl⟩
          refine LoopH_count (wrL t).length (fun i x h' => x.2.2.1 = I i ∧ ∃ (c' : Nat) (acc : List Wr), x.1 = I ((c' : Nat) : Int) ∧ c' ≤ c + i ∧ acc.length ≤ i ∧ P = (acc ++ (prW ((wrL t).drop i) (fs.drop c')).1, (prW ((wrL t).drop i) (fs.drop c')).2) ∧ Own h0 h' (slR encRW 3 T_milestoneref29_Write x.2.1 (acc.map (·, true)) :: rL r q1 (sM m) L)) ⟨rfl, c, [], rfl, by omega, by simp, by simp [hP], o10.nilS⟩ ?_
          rintro i ⟨y, lv, x, ⟨⟩⟩ h10 Z2 hi2 ⟨hx3, c', acc, hy, hc', hacc, hpr, o11⟩ hZ2
          dsimp only at hx3 hy o11 hZ2 ⊢
          subst hx3 hy
          unfold sh_milestoneref29_Disk_Crash_L5
          rw [pNil_ptr, pField_ptr]
          refine o11.load 1 rfl rfl ?_
          refine (o11.vw (enc := encSV) (n := 1) (T := T_milestoneref29_Thing) 2 rfl).atF (fun _ => rfl) (by rw [List.length_map]; omega) (j := 0) (u := xx.1.v) (by decide) (by rw [hx1]; rfl) ?_
          have V : Vw encRW 3 h10 xx.1.v (wrL t) := by rw [← exx]; exact fm_vw (o11.get 4 rfl) hxx
          refine V.len ?_
          rw [pBin_lss, ifV_dec]
          refine ⟨fun hlt4 => ?_, fun hge4 => ?_⟩
          · have hi3 : i < (wrL t).length := by omega
            rw [pNil_ptr, pField_ptr]
            refine o11.load 1 rfl rfl ?_
            refine (o11.vw (enc := encSV) (n := 1) (T := T_milestoneref29_Thing) 2 rfl).atF (fun _ => rfl) (by rw [List.length_map]; omega) (j := 0) (u := xx.1.v) (by decide) (by rw [hx1]; rfl) ?_
            refine V.atN (fun _ => rfl) hi3 ?_
            rw [List.drop_eq_getElem_cons hi3] at hpr
            generalize (wrL t)[i] = w at hpr
            refine o11.box fun w5 h11 o12 => ?_
            have o12 : Own h0 h11 (cellR w5 [I 0, .string ⟨#[]⟩, .bool false] T_milestoneref29_Write :: slR encRW 3 T_milestoneref29_Write lv (acc.map (·, true)) :: rL r q1 (sM m) L) := o12
            refine o12.st (cs' := encRW w) 0 rfl rfl rfl rfl rfl (by exact encRW_plain w) fun h12 o13 => ?_
            have o13 : Own h0 h12 (cellR w5 (encRW w) T_milestoneref29_Write :: slR encRW 3 T_milestoneref29_Write lv (acc.map (·, true)) :: rL r q1 (sM m) L) := o13
            have k7 : ∀ (c2 : Nat) (acc2 : List Wr) (lv2 : Value) (h' : Heap), c2 ≤ c + (i + 1) → acc2.length ≤ i + 1 → P = (acc2 ++ (prW ((wrL t).drop (i + 1)) (fs.drop c2)).1, (prW ((wrL t).drop (i + 1)) (fs.drop c2)).2) → Own h0 h' (slR encRW 3 T_milestoneref29_Write lv2 (acc2.map (·, true)) :: rL r q1 (sM m) L) →
                sh_milestoneref29_Disk_Crash_k7 Tryz.prog (I i) (fun a0 a1 a2 hz => Z2 (a0, (a1, (a2, ()))) hz) (I ((c2 : Nat) : Int)) lv2 h' := by
              intro c2 acc2 lv2 h' h1 h2 h3 o'
              unfold sh_milestoneref29_Disk_Crash_k7
              rw [pBin_add, wI i (by omega)]
              exact hZ2 (_, _, _, ()) h' hi3 ⟨rfl, c2, acc2, rfl, h1, h2, h3, o'⟩
            have k8 : ∀ (c2 : Nat), c2 ≤ c + (i + 1) → P = (acc ++ w.1 :: (prW ((wrL t).drop (i + 1)) (fs.drop c2)).1, (prW ((wrL t).drop (i + 1)) (fs.drop c2)).2) →
                sh_milestoneref29_Disk_Crash_k8 Tryz.prog (ptr w5) lv (I i) (fun a0 a1 a2 hz => Z2 (a0, (a1, (a2, ()))) hz) (I ((c2 : Nat) : Int)) h12 := by
              intro c2 h1 h3
              unfold sh_milestoneref29_Disk_Crash_k8
              rw [pField_ptr]
              refine o13.st1 0 (cs' := encRW (w.1, true)) rfl rfl rfl rfl rfl fun h13 o14 => ?_
              have o14 : Own h0 h13 (cellR w5 (encRW (w.1, true)) T_milestoneref29_Write :: slR encRW 3 T_milestoneref29_Write lv (acc.map (·, true)) :: rL r q1 (sM m) L) := o14
              refine o14.ldN (cs' := encRW (w.1, true)) 0 rfl rfl rfl ?_
              refine o14.app1 (enc := encRW) (n := 3) (T := T_milestoneref29_Write) 1 (w.1, true) rfl rfl (sizesOk_of rfl) (fun _ => rfl) encRW_plain rfl (by decide) (by rw [List.length_map]; omega) fun v' h14 o15 => ?_
              refine k7 c2 (acc ++ [w.1]) v' h14 h1 (by rw [List.length_append]; simp; omega) (by rw [h3]; simp) ?_
              rw [List.map_append]
              exact o15.tail
            rw [pField_ptr]
            refine o13.load 0 rfl rfl ?_
            obtain ⟨w1, wb⟩ := w
            cases wb with
            | true =>
              rw [notT29, ifV_false]
              rw [prW] at hpr
              exact k8 c' (by omega) hpr
            | false =>
              rw [notF29, ifV_true]
              rw [prW] at hpr
              have hfate := fate_drop (c := c') hr
              have et : (fs.drop c').tail = fs.drop (c' + 1) := by rw [List.tail_drop]
              rw [et] at hpr
              have k6 : ∀ od : Bool, (od = true ↔ fateOf (fs.drop c') % 2 = 1) → sh_milestoneref29_Disk_Crash_k6 Tryz.prog (I ((c' : Nat) : Int)) (I i) (fun a0 a1 a2 hz => Z2 (a0, (a1, (a2, ()))) hz) lv (ptr w5) (.bool od) h12 := by
                intro od hod
                unfold sh_milestoneref29_Disk_Crash_k6
                rw [pBin_add, wI c' (by omega)]
                cases od with
                | true =>
                  rw [notT29, ifV_false]
                  rw [if_pos (hod.1 rfl)] at hpr
                  exact k8 (c' + 1) (by omega) hpr
                | false =>
                  rw [notF29, ifV_true]
                  rw [if_neg (fun h => by have := hod.2 h; cases this)] at hpr
                  exact k7 (c' + 1) acc lv h12 (by omega) (by omega) hpr o13.tail
              have Hv := HfE o13
              · refine Hv.len ?_
                rw [pBin_lss, ifV_dec]
                refine ⟨fun hlt5 => ?_, fun hge5 => ?_⟩
                · have hcl : c' < fs.length := by omega
                  rcases Hv with Hv | ⟨rfl, _⟩
                  · refine Hv.at1 (e := fun z => Value.int .u8 z) (fun _ => rfl) hcl ?_
                    rw [hfate.1 hcl, pBin_rem]
                    refine ⟨by decide, ?_⟩
                    rw [show ((fateOf (fs.drop c') : Nat) : Int).tmod 2 = ((fateOf (fs.drop c') % 2 : Nat) : Int) by rw [Int.tmod_eq_emod_of_nonneg (by omega)]; omega, pBin_eql]
                    refine k6 _ ?_
                    rw [beq_iff_eq]; omega
                  · simp at hcl
                · refine k6 false ?_
                  rw [hfate.2 (by omega)]
                  simp
          · have ei : i = (wrL t).length := by omega
            subst ei
            rw [List.drop_of_length_le (Nat.le_refl _)] at hpr
            have hpr : P = (acc ++ [], fs.drop c') := hpr
            rw [List.append_nil, hP, htot] at hpr
            injection hpr with hp1 hp2
            rw [← hp1] at o11
            have ew : (t.syn ++ (crW t.pen (fs.drop c)).1).map (·, true) = wrL ((fun t : Th => (⟨t.syn ++ (crW t.pen (fs.drop c)).1, []⟩ : Th)) ((sM m).getT m)) := by
              rw [← htt]; unfold wrL; simp
            rw [ew] at o11
            rw [pNil_ptr, pField_ptr]
            refine o11.load 1 rfl rfl ?_
            refine setT_ok (f := fun t => ⟨t.syn ++ (crW t.pen (fs.drop c)).1, []⟩) hq1 hm2 o11 fun h11 q2 hq2 o12 => ?_
            have eM : sM (m + 1) = modRT (sM m) m fun t => ⟨t.syn ++ (crW t.pen (fs.drop c)).1, []⟩ := by
              show ({ ({ s with cs := s.cs ++ s.cp.take k, cp := [] } : Dk) with th := ((namedL D (m + 1)).foldl crT (s.th, fs.tail)).1 } : Dk) = _
              rw [hst]; rfl
            refine k4 c' h11 q2 (by omega) (by rw [hst]; exact hp2) (by rw [eM]; exact hq2) (by rw [eM]; exact o12)
      · have e : m = s.th.length := by omega
        subst e
        rw [pNil_ptr, pField_ptr]
        refine o9.st1 0 (cs' := [q1.t, q1.c, .bool false, I s.armed]) rfl rfl rfl rfl rfl fun h9 o10 => ?_
        rw [pNil_ptr, pField_ptr]
        refine o10.st1 0 (cs' := [q1.t, q1.c, .bool false, I 0]) rfl rfl rfl rfl rfl fun h10 o11 => ?_
        exact hKD h10 q1 hq1 o11
  refine (HfE o1).len ?_
  rw [pBin_gtr, ifV_dec]
  refine ⟨fun hgt => ?_, fun hle => ?_⟩
  · have hp : 0 < fs.length := by omega
    rcases HfE o1 with Hv | ⟨rfl, _⟩
    · refine Hv.at1 (e := fun z => Value.int .u8 z) (i := 0) (fun _ => rfl) hp ?_
      have hf0 := (fate_drop (c := 0) hr).1 hp
      rw [List.drop_zero] at hf0
      have hb0 := hr _ (List.getElem_mem hp)
      rw [hf0] at hb0
      rw [hf0, pConv_int, w64 (by omega) (by omega), hp1, pBin_add, w64 (by omega) (by omega), pBin_rem]
      refine ⟨by omega, ?_⟩
      have hmod : ((fateOf fs : Nat) : Int).tmod ((s.cp.length : Int) + 1) = ((fateOf fs % (s.cp.length + 1) : Nat) : Int) := by
        rw [Int.tmod_eq_emod_of_nonneg (by omega)]; rfl
      have hkl := Nat.mod_lt (fateOf fs) (show 0 < s.cp.length + 1 by omega)
      rw [hmod, pBin_add, w64 (by omega) (by omega)]
      exact k1 _ rfl
    · simp at hp
  · have : fs = [] := List.eq_nil_of_length_eq_zero (by omega)
    subst this
    exact k1 0 (by show 0 = 0 % _; rw [Nat.zero_mod])

end
end Go.Proofs.YtleaknaadodjeaaGreat

/-! The disk by definition beside disks of the program. -/
namespace Go.Proofs.YtleaknaadodjeaaGreat
open Go Go.Mh
set_option linter.unusedVariables false

section
variable {h0 h hb : Heap} {L Y : List Res} {K : Value → Heap → Prop} {r n k d : Nat} {q : RC} {s : Dk} {U : List Nm} {N : Nat} {a b : Nm} {ds : List (Nat × Dk)}

/-- The disk by definition taken out. -/
theorem Ats.rdisk (A : Ats h0 h ds (Y ++ rL r q s L)) : ∃ M, Own h0 h (rL r q s M) ∧ ∀ h' q' s' Z, Own h0 h' (Z ++ rL r q' s' M) → Ats h0 h' ds (Y ++ (Z ++ rL r q' s' L)) := by
  obtain ⟨M, o, bk⟩ := A.side
  have e1 : (Y ++ rL r q s L) ++ M = Y ++ rL r q s (L ++ M) := by unfold rL; simp
  rw [e1] at o
  refine ⟨(L ++ M) ++ Y, ?_, fun h' q' s' Z o' => bk h' _ ?_⟩
  · have := o.comm
    have e2 : rL r q s (L ++ M) ++ Y = rL r q s ((L ++ M) ++ Y) := by unfold rL; simp
    rwa [e2] at this
  · have e2 : Z ++ rL r q' s' ((L ++ M) ++ Y) = (Z ++ rL r q' s' (L ++ M)) ++ Y := by unfold rL; simp
    rw [e2] at o'
    have := o'.comm
    have e3 : Y ++ (Z ++ rL r q' s' (L ++ M)) = (Y ++ (Z ++ rL r q' s' L)) ++ M := by unfold rL; simp
    rwa [e3] at this

/-- Disks, and one by definition. -/
def AtR (h0 h : Heap) (ds : List (Nat × Dk)) (r : Nat) (s : Dk) (L : List Res) : Prop := ∃ q, RcOk q s ∧ Ats h0 h ds (rL r q s L)

theorem AtR.own (A : AtR h0 h ds r s L) : Ext h0 h := by
  obtain ⟨q, _, A⟩ := A
  exact A.own.ext

theorem makeRA (A : AtR h0 h ds r s L) (hI : s.Inv U N) (hN : N < 1048576) (hK : ∀ h', AtR h0 h' ds r (mMake s a).2 L → K (I (mMake s a).1) h') : callS Tryz.prog F_milestoneref29_Disk_Make [ptr r, .string a] h K := by
  obtain ⟨q, hq, A⟩ := A
  obtain ⟨M, o, bk⟩ := A.rdisk (Y := [])
  exact makeR_ok hI hN o hq fun h' q' hq' o' => hK h' ⟨q', hq', bk h' q' _ [] o'⟩
theorem writeRA {z : Int} {w : ByteArray} (A : AtR h0 h ds r s L) (hI : s.Inv U N) (hN : N < 1048576) (hz : -9223372036854775808 ≤ z ∧ z ≤ 9223372036854775807) (hw : w.size ≤ 1048576) (hK : ∀ h', AtR h0 h' ds r (mWrite s a z w).2 L → K (I (mWrite s a z w).1) h') : callS Tryz.prog F_milestoneref29_Disk_Write [ptr r, .string a, I z, .string w] h K := by
  obtain ⟨q, hq, A⟩ := A
  obtain ⟨M, o, bk⟩ := A.rdisk (Y := [])
  exact writeR_ok hI hN hz hw o hq fun h' q' hq' o' => hK h' ⟨q', hq', bk h' q' _ [] o'⟩
theorem syncRA (A : AtR h0 h ds r s L) (hI : s.Inv U N) (hN : N < 1048576) (hK : ∀ h', AtR h0 h' ds r (mSync s a).2 L → K (I (mSync s a).1) h') : callS Tryz.prog F_milestoneref29_Disk_Sync [ptr r, .string a] h K := by
  obtain ⟨q, hq, A⟩ := A
  obtain ⟨M, o, bk⟩ := A.rdisk (Y := [])
  exact syncR_ok hI hN o hq fun h' q' hq' o' => hK h' ⟨q', hq', bk h' q' _ [] o'⟩
theorem renameRA (A : AtR h0 h ds r s L) (hI : s.Inv U N) (hN : N < 1048576) (hK : ∀ h', AtR h0 h' ds r (mRename s a b).2 L → K (I (mRename s a b).1) h') : callS Tryz.prog F_milestoneref29_Disk_Rename [ptr r, .string a, .string b] h K := by
  obtain ⟨q, hq, A⟩ := A
  obtain ⟨M, o, bk⟩ := A.rdisk (Y := [])
  exact renameR_ok hI (by omega) o hq fun h' q' hq' o' => hK h' ⟨q', hq', bk h' q' _ [] o'⟩
theorem syncDirRA (A : AtR h0 h ds r s L) (hI : s.Inv U N) (hN : N < 1048576) (hK : ∀ h', AtR h0 h' ds r (mSyncDir s).2 L → K (I (mSyncDir s).1) h') : callS Tryz.prog F_milestoneref29_Disk_SyncDir [ptr r] h K := by
  obtain ⟨q, hq, A⟩ := A
  obtain ⟨M, o, bk⟩ := A.rdisk (Y := [])
  exact syncDirR_ok hI hN o hq fun h' q' hq' o' => hK h' ⟨q', hq', bk h' q' _ [] o'⟩
theorem armRA {z : Int} (A : AtR h0 h ds r s L) (hK : ∀ h', AtR h0 h' ds r (mArm s z) L → K (.tuple #[]) h') : callS Tryz.prog F_milestoneref29_Disk_Arm [ptr r, I z] h K := by
  obtain ⟨q, hq, A⟩ := A
  obtain ⟨M, o, bk⟩ := A.rdisk (Y := [])
  exact armR_ok o fun h' o' => hK h' ⟨q, hq, bk h' q _ [] o'⟩
theorem crashRA {fv : Value} {fs : List Int} (A : AtR h0 h ds r s L) (hI : s.Inv U N) (hN : N < 1048576) (Hf : VwE h0 fv fs) (hr : ∀ z ∈ fs, 0 ≤ z ∧ z ≤ 255) (hfl : fs.length < 2 ^ 63) (hK : ∀ h', AtR h0 h' ds r (mCrash s fs) L → K (.tuple #[]) h') : callS Tryz.prog F_milestoneref29_Disk_Crash [ptr r, fv] h K := by
  obtain ⟨q, hq, A⟩ := A
  obtain ⟨M, o, bk⟩ := A.rdisk (Y := [])
  exact crashR_ok hI hN o hq Hf hr hfl fun h' q' hq' o' => hK h' ⟨q', hq', bk h' q' _ [] o'⟩
theorem readRA (A : AtR h0 h ds r s L) (hI : s.Inv U N) (hN : N < 1048576) (hK : ∀ h', AtR h0 h' ds r s L → K (.tuple #[.string (mRead s a).1, I (mRead s a).2]) h') : callS Tryz.prog F_milestoneref29_Disk_Read [ptr r, .string a] h K := by
  obtain ⟨q, hq, A⟩ := A
  obtain ⟨M, o, bk⟩ := A.rdisk (Y := [])
  exact readR_ok hI (by omega) o hq fun h' o' => hK h' ⟨q, hq, bk h' q _ [] o'⟩

/-- With lists in front. -/
theorem readRY (hq : RcOk q s) (A : Ats h0 h ds (Y ++ rL r q s L)) (hI : s.Inv U N) (hN : N < 1048576) (hK : ∀ h', Ats h0 h' ds (Y ++ rL r q s L) → K (.tuple #[.string (mRead s a).1, I (mRead s a).2]) h') : callS Tryz.prog F_milestoneref29_Disk_Read [ptr r, .string a] h K := by
  obtain ⟨M, o, bk⟩ := A.rdisk
  exact readR_ok hI (by omega) o hq fun h' o' => hK h' (bk h' q _ [] o')
theorem pendingRY (hq : RcOk q s) (A : Ats h0 h ds (Y ++ rL r q s L)) (hI : s.Inv U N) (hN : N < 1048576) (hK : ∀ h', Ats h0 h' ds (Y ++ rL r q s L) → K (.tuple #[I (mPending s).1, I (mPending s).2]) h') : callS Tryz.prog F_milestoneref29_Disk_Pending [ptr r] h K := by
  obtain ⟨M, o, bk⟩ := A.rdisk
  exact pendingR_ok hI hN o hq fun h' o' => hK h' (bk h' q _ [] o')
theorem namesRY (A : Ats h0 h ds (Y ++ rL r q s L)) (hI : s.Inv U N) (hN : N < 1048576) (hK : ∀ w h', Ats h0 h' ds (Y ++ (slR encS 1 T_string w (mNames s) :: rL r q s L)) → K w h') : callS Tryz.prog F_milestoneref29_Disk_Names [ptr r] h K := by
  obtain ⟨M, o, bk⟩ := A.rdisk
  exact namesR_ok hI hN o fun w h' o' => hK w h' (bk h' q _ [slR encS 1 T_string w (mNames s)] o')

theorem AtR.prog (A : AtR h0 h ds r s L) : ∃ q, RcOk q s ∧ Ats h0 h ds (rL r q s L) := A

/-- A new one. -/
theorem newRA (A : Ats h0 h ds L) (hK : ∀ r h', AtR h0 h' ds r .new L → K (ptr r) h') : pBox T_milestoneref29_Disk (.agg #[.slice none 0 0, .slice none 0 0, .bool false, I 0]) h K := by
  obtain ⟨M, o, bk⟩ := A.side
  refine o.box fun r h1 o1 => hK r h1 ?_
  have o2 : Own h0 h1 (cellR r [.slice none 0 0, .slice none 0 0, .bool false, I 0] T_milestoneref29_Disk :: (L ++ M)) := o1
  have o3 := ((o2.nilS (enc := encRC) (n := 5) (T := T_milestoneref29_Change)).nilS (enc := encSV) (n := 1) (T := T_milestoneref29_Thing))
  have o4 := Own.sep (l := []) o3
  have o5 := o4.front 4 [3, 1, 2, 0] (by decide) (by decide)
  exact ⟨⟨.slice none 0 0, .slice none 0 0, []⟩, rfl, bk h1 _ o5⟩

end
end Go.Proofs.YtleaknaadodjeaaGreat

/-! StorePlays. -/
namespace Go.Proofs.YtleaknaadodjeaaGreat
open Go Go.Mh
set_option linter.unusedVariables false

section
variable {h0 h : Heap} {L X P : List Res} {K : Value → Heap → Prop} {k d r : Nat} {s : Dk} {U : List Nm} {N : Nat} {a b : Nm} {ds : List (Nat × Dk)} {x : ByteArray} {o : Option (List UInt8)}

theorem stepsR_ok (hx : x.size < 2 ^ 62) (hK : K (I ((stepsN x : Nat) : Int)) h) : callS Tryz.prog F_milestoneref30_Steps [.string x] h K := by
  refine callS_of (lk_milestoneref30_Steps _ ?_)
  unfold sh_milestoneref30_Steps
  unfold stepsN at hK
  rw [pLenS_str, pBin_gtr, ifV_dec]
  refine ⟨fun h1 => ?_, fun h1 => ?_⟩
  · rw [if_pos (by omega)] at hK
    exact hK
  · rw [if_neg (by omega)] at hK
    rw [pLenS_str, pBin_add, w64 (by omega) (by omega), pBin_quo]
    refine ⟨by decide, ?_⟩
    have e : (((x.size : Int) + 63)).tdiv 64 = ((nP x : Nat) : Int) := by
      rw [Int.tdiv_eq_ediv_of_nonneg (by omega)]; unfold nP; omega
    have hn : nP x ≤ 1048576 := by unfold nP; omega
    rw [e, w64 (by omega) (by omega), pBin_add, w64 (by omega) (by omega)]
    rw [show (4 : Int) + ((nP x : Nat) : Int) = ((nP x + 4 : Nat) : Int) by omega]
    exact hK

theorem saveR_ok (A : AtR h0 h ds r s L) (hI : s.Inv U N) (ht : nTemp ∈ U) (hi : nImage ∈ U) (hN : N + (nP x + 4) < 1048576) (hx : x.size ≤ 1048576) (hK : ∀ h', AtR h0 h' ds r (mSave s x).2 L → K (I (mSave s x).1) h') : callS Tryz.prog F_milestoneref30_Save [ptr r, .string x] h K := by
  refine callS_of (lk_milestoneref30_Save _ _ ?_)
  unfold sh_milestoneref30_Save
  unfold mSave at hK
  rw [if_neg (by omega)] at hK
  rw [pLenS_str, pBin_gtr, ifV_dec]
  refine ⟨fun h1 => by omega, fun _ => ?_⟩
  have inv : ∀ i (e : Int) s', runD (preA x i) s = (e, s') → s'.Inv U (N + (nP x + 4)) := fun i e s' hr => by
    have := pre_inv (x := x) hI ht hi i
    rw [hr] at this; exact this
  have k5 : ∀ (e : Int) s' h', runD (savA x) s = (e, s') → AtR h0 h' ds r s' L → sh_milestoneref30_Save_k5 Tryz.prog K (I e) h' := by
    intro e s' h' hr A'
    unfold sh_milestoneref30_Save_k5
    rw [hr] at hK
    exact hK h' A'
  have k4 : ∀ (e : Int) s' h', runD (preA x 4) s = (e, s') → AtR h0 h' ds r s' L → sh_milestoneref30_Save_k4 Tryz.prog (ptr r) K (I e) h' := by
    intro e s' h' hr A'
    unfold sh_milestoneref30_Save_k4
    rw [pBin_eql, ifV_beq]
    refine ⟨fun he => ?_, fun hne => k5 e s' h' (runD_stop (m := [aSyncDir]) hr hne) A'⟩
    subst he
    exact syncDirRA A' (inv 4 _ _ hr) hN fun h2 A2 => k5 _ _ h2 (runD_snoc (y := aSyncDir) hr) A2
  have k3 : ∀ (e : Int) s' h', runD (preA x 3) s = (e, s') → AtR h0 h' ds r s' L → sh_milestoneref30_Save_k3 Tryz.prog (ptr r) K (I e) h' := by
    intro e s' h' hr A'
    unfold sh_milestoneref30_Save_k3
    rw [pBin_eql, ifV_beq]
    refine ⟨fun he => ?_, fun hne => k4 e s' h' (runD_stop (m := [aRename nTemp nImage]) hr hne) A'⟩
    subst he
    exact renameRA (a := nTemp) (b := nImage) A' (inv 3 _ _ hr) hN fun h2 A2 => k4 _ _ h2 (runD_snoc (y := aRename nTemp nImage) hr) A2
  have k2 : ∀ (e : Int) s' h', runD (preA x 2) s = (e, s') → AtR h0 h' ds r s' L → sh_milestoneref30_Save_k2 Tryz.prog (I e) (ptr r) K h' := by
    intro e s' h' hr A'
    unfold sh_milestoneref30_Save_k2
    rw [pBin_eql, ifV_beq]
    refine ⟨fun he => ?_, fun hne => k3 e s' h' (runD_stop (m := [aSync nTemp]) hr hne) A'⟩
    subst he
    exact syncRA (a := nTemp) A' (inv 2 _ _ hr) hN fun h2 A2 => k3 _ _ h2 (runD_snoc (y := aSync nTemp) hr) A2
  refine makeRA (a := nTemp) A hI (by omega) fun h1 A1 => ?_
  have first : runD ([aMake nTemp] ++ wrA x (List.range 0)) s = mMake s nTemp := runD_snoc (l := []) (y := aMake nTemp) (s' := s) rfl
  refine LoopH_count (nP x) (fun i y h' => y.2.1 = I ((64 * i : Nat) : Int) ∧ ∃ (e : Int) (s' : Dk), y.1 = I e ∧ i ≤ nP x ∧ runD ([aMake nTemp] ++ wrA x (List.range i)) s = (e, s') ∧ AtR h0 h' ds r s' L) ⟨rfl, _, _, rfl, Nat.zero_le _, first, A1⟩ ?_
  rintro i ⟨y, z, ⟨⟩⟩ h2 Z hin ⟨hz, e, s', hy, hi2, hr, A2⟩ hZ
  dsimp only at hz hy hZ ⊢
  subst hz hy
  have hsub : ∀ j, j ≤ nP x → (runD ([aMake nTemp] ++ wrA x (List.range j)) s).2.Inv U (N + (nP x + 4)) := fun j hj => by
    have := runD_inv (U := U) (l := [aMake nTemp] ++ wrA x (List.range j)) (s := s) (N := N) (fun y hy s N h => by
      rcases List.mem_append.1 hy with hy | hy
      · rw [List.mem_singleton.1 hy]; exact make_inv h ht
      · obtain ⟨q, _, rfl⟩ := List.mem_map.1 hy
        exact write_inv h (Nat.le_trans piece_size (by decide))) hI
    refine this.mono ?_
    simp [wrA]; omega
  unfold sh_milestoneref30_Save_L1
  rw [pLenS_str, pBin_lss, ifV_dec]
  refine ⟨fun hlt => ?_, fun hge => ?_⟩
  · have hi' : i < nP x := by unfold nP; omega
    rw [pBin_eql, ifV_beq]
    refine ⟨fun he => ?_, fun hne => ?_⟩
    · subst he
      rw [pBin_add, w64 (by omega) (by omega), pLenS_str, pMin_int]
      have e1 : (if ((x.size : Nat) : Int) < ((64 * i : Nat) : Int) + 64 then ((x.size : Nat) : Int) else ((64 * i : Nat) : Int) + 64) = ((min (64 * i + 64) x.size : Nat) : Int) := by split <;> omega
      have e2 : (if ((64 * i : Nat) : Int) + 64 < ((x.size : Nat) : Int) then ((64 * i : Nat) : Int) + 64 else ((x.size : Nat) : Int)) = ((min (64 * i + 64) x.size : Nat) : Int) := by split <;> omega
      first | rw [e1] | rw [e2]
      refine ⟨by omega, by omega, by omega, ?_⟩
      have ep : (x.extract (((64 * i : Nat) : Int)).toNat (((min (64 * i + 64) x.size : Nat) : Int)).toNat) = pieceOf x i := by
        unfold pieceOf; rw [Int.toNat_natCast, Int.toNat_natCast]
      rw [ep]
      have hIs := hsub i hi2
      rw [hr] at hIs
      have hps := piece_size (x := x) (i := i)
      refine writeRA (a := nTemp) (w := pieceOf x i) A2 hIs hN (by omega) (by omega) fun h3 A3 => ?_
      rw [pBin_add, w64 (by omega) (by omega)]
      refine hZ (_, _, ()) h3 hi' ⟨?_, _, _, rfl, hi', ?_, A3⟩
      · show I _ = I _
        congr 1
      · have el : [aMake nTemp] ++ wrA x (List.range (i + 1)) = ([aMake nTemp] ++ wrA x (List.range i)) ++ [aWrite nTemp ((64 * i : Nat) : Int) (pieceOf x i)] := by
          rw [List.range_succ]; unfold wrA; rw [List.map_append, List.append_assoc]; rfl
        rw [el]
        exact runD_snoc hr
    · refine k2 e s' h2 ?_ A2
      have el : preA x 2 = ([aMake nTemp] ++ wrA x (List.range i)) ++ (aWrite nTemp ((64 * i : Nat) : Int) (pieceOf x i) :: wrA x ((List.range (nP x)).drop (i + 1))) := by
        show [aMake nTemp] ++ wrA x (List.range (nP x)) = _
        rw [wr_take hi', List.append_assoc]
      rw [el]
      exact runD_stop hr hne
  · have hi' : i = nP x := by unfold nP at hi2 ⊢; omega
    subst hi'
    exact k2 e s' h2 hr A2

theorem storePlays_ok {l0 : Value} {ys : List StAct} (Hy : Vw encSt 5 h l0 (ys.map (·.1))) (hy : ∀ y ∈ ys, SOk h y.1 y.2.1 y.2.2) (hK : ∀ h', Ext h h' → K (.bool true) h') : CallsH Tryz.prog F_milestonelaw30_StorePlays [l0].toArray h K := by
  refine lk_milestonelaw30_StorePlays _ ?_
  unfold sh_milestonelaw30_StorePlays
  refine newA (Ats.none (Own.start h)) fun d h1 A1 => ?_
  refine ⟨sizesOk_of rfl, ?_⟩
  refine newRA A1 fun r h2 A2 => ?_
  rw [pEq_ptr_nil, Option.isNone_some, ifV_false]
  refine LoopH_count (min ys.length 30) (fun i x h' => x.1 = I i ∧ ∃ s, s.Inv stU (i * 20) ∧ AtR h h' [(d, s)] r s []) ⟨rfl, .new, newI, A2⟩ ?_
  rintro i ⟨x, ⟨⟩⟩ h4 Z hi ⟨hx, s, hI, A4⟩ hZ
  dsimp only at hx hZ ⊢
  subst hx
  have k6 : sh_milestonelaw30_StorePlays_k6 Tryz.prog K h4 := by
    unfold sh_milestonelaw30_StorePlays_k6
    refine works30_ok fun h5 e5 => ?_
    exact hK h5 (A4.own.trans e5 fun _ h _ => h)
  unfold sh_milestonelaw30_StorePlays_L1
  refine (Hy.more A4.own).len ?_
  rw [pBin_lss, ifV_dec, List.length_map]
  refine ⟨fun hlt => ?_, fun hge => k6⟩
  rw [pBin_lss, ifV_dec]
  refine ⟨fun hlt2 => ?_, fun hge => k6⟩
  have hil : i < ys.length := by omega
  have hm := hy _ (List.getElem_mem hil)
  have hel : (ys.map (·.1))[i]'(by rw [List.length_map]; exact hil) = ys[i].1 := by rw [List.getElem_map]
  have hlm : i < (ys.map (·.1)).length := by rw [List.length_map]; exact hil
  refine (Hy.more A4.own).atN (fun _ => rfl) hlm ?_
  rw [hel]
  have fld : ∀ {h' : Heap} {j : Nat} {u : Value} {K' : Value → Prop}, Ext h h' → j < 5 → (encSt ys[i].1)[j]? = some u → K' u → pIdx 5 l0 (I i) fun t => pField j t fun t' => pLoad h' t' K' := fun e hj hu hk => (Hy.more e).atF (fun _ => rfl) hlm hj (by rw [hel]; exact hu) hk
  generalize ys[i] = y at hm fld
  obtain ⟨v, bs, fs⟩ := y
  dsimp only at hm fld ⊢
  refine text_ok (hm.b.moreE A4.own) hm.l hm.bl fun t h5 ht e5 => ?_
  obtain ⟨q0, hq0, A4'⟩ := A4
  have A5 : AtR h h5 [(d, s)] r s [] := ⟨q0, hq0, A4'.more e5⟩
  clear A4' hq0 k6
  have npt := short_np ht
  refine steps0_ok (by omega) (stepsR_ok (by omega) ?_)
  rw [pBin_neq, bne_self_eq_false, ifV_false]
  have hN : i * 20 ≤ 30 * 20 := Nat.mul_le_mul_right _ (by omega)
  have k3 : ∀ s' h', s'.Inv stU (i * 20 + 20) → AtR h h' [(d, s')] r s' [] → sh_milestonelaw30_StorePlays_k3 Tryz.prog (ptr d) (ptr r) K (I i) (fun a0 hz => Z (a0, ()) hz) h' := by
    rintro s' h' hI' ⟨q, hq, A⟩
    unfold sh_milestonelaw30_StorePlays_k3
    refine loadA (k := 0) A rfl hI' (by omega) fun h6 A6 => ?_
    rw [pExt0, pExt1]
    refine readRY (Y := []) (a := nImage) hq A6 hI' (by omega) fun h7 A7 => ?_
    rw [pExt0, pExt1]
    have A7 : Ats h h7 [(d, s')] (rL r q s' []) := A7
    refine cutP_of (fun y h'' => y.1 = .bool false ∧ h'' = h7) (fun J hJ => ?_) ?_
    · rw [pBin_neqS, decide_eq_true rfl, Bool.not_true, ifV_false, pBin_neq, bne_self_eq_false, ifV_false, pNil_ptr, pField_ptr]
      refine A7.own.load 0 (b := r) (cs := [q.t, q.c, .bool s'.off, I s'.armed]) (T := T_milestoneref29_Disk) rfl rfl ?_
      refine onA (k := 0) A7 rfl ?_
      refine ⟨A7.own.load 0 (b := r) (cs := [q.t, q.c, .bool s'.off, I s'.armed]) (T := T_milestoneref29_Disk) rfl rfl rfl, ?_⟩
      have e : ∀ (c : Bool) (K' : Value → Prop), pEq false .bool (.bool (!c)) (.bool c) K' = K' (.bool false) := fun c K' => by cases c <;> rfl
      rw [e]
      exact hJ _ _ ⟨rfl, rfl⟩
    · rintro ⟨y, ⟨⟩⟩ h'' ⟨hy, rfl⟩
      dsimp only at hy
      subst hy
      unfold sh_milestonelaw30_StorePlays_C4
      rw [ifV_false]
      refine namesA (k := 0) A7 rfl hI' stU_len fun w1 h8 A8 => ?_
      refine namesRY (Y := [slR encS 1 T_string w1 (mNames s')]) A8 hI' (by omega) fun w2 h9 A9 => ?_
      have n12 := names_len12 hI' stU_len
      generalize mNames s' = nms at A9 n12
      have A9 : Ats h h9 [(d, s')] (slR encS 1 T_string w1 nms :: slR encS 1 T_string w2 nms :: rL r q s' []) := A9
      refine (A9.own.vw (enc := encS) (n := 1) (T := T_string) (xs := nms) 0 rfl).len ?_
      refine (A9.own.vw (enc := encS) (n := 1) (T := T_string) (xs := nms) 1 rfl).len ?_
      rw [pBin_neq, bne_self_eq_false, ifV_false]
      refine LoopH_count nms.length (fun j x h' => x.1 = I j ∧ h' = h9) ⟨rfl, rfl⟩ ?_
      rintro j ⟨x, ⟨⟩⟩ h10 Z1 hj ⟨hx, rfl⟩ hZ1
      dsimp only at hx hZ1 ⊢
      subst hx
      unfold sh_milestonelaw30_StorePlays_L5
      refine (A9.own.vw (enc := encS) (n := 1) (T := T_string) (xs := nms) 0 rfl).len ?_
      rw [pBin_lss, ifV_dec]
      refine ⟨fun hlt3 => ?_, fun hge3 => ?_⟩
      · have hj' : j < nms.length := by omega
        refine (A9.own.vw (enc := encS) (n := 1) (T := T_string) (xs := nms) 0 rfl).at1 (e := fun (x : Nm) => Value.string x) (fun _ => rfl) hj' ?_
        refine (A9.own.vw (enc := encS) (n := 1) (T := T_string) (xs := nms) 1 rfl).at1 (e := fun (x : Nm) => Value.string x) (fun _ => rfl) hj' ?_
        rw [pBin_neqS, decide_eq_true rfl, Bool.not_true, ifV_false, pBin_add, wI j (by omega)]
        exact hZ1 (_, ()) _ hj' ⟨rfl, rfl⟩
      · rw [pBin_add, wI i (by omega)]
        exact hZ (_, ()) _ (by omega) ⟨rfl, s', by rw [Nat.succ_mul]; exact hI', q, hq, A9.drop.drop⟩
  refine fld A5.own (by decide) rfl ?_
  have hw := hm.w
  rw [pBin_rem]
  refine ⟨by decide, ?_⟩
  have ew : v.w.tmod 4 = ((v.w.toNat % 4 : Nat) : Int) := by rw [Int.tmod_eq_emod_of_nonneg (by omega)]; omega
  rw [ew]
  have hw4 : v.w.toNat % 4 < 4 := Nat.mod_lt _ (by decide)
  generalize v.w.toNat % 4 = q at hw4
  have k2 : ∀ w : Bool, (w = true ↔ q = 0 ∨ q = 1) → sh_milestonelaw30_StorePlays_k2 Tryz.prog (ptr d) (.string t) (ptr r) K (I i) (fun a0 hz => Z (a0, ()) hz) (.int .u8 ((q : Nat) : Int)) l0 (.bool w) h5 := by
    intro w hwq
    obtain ⟨qq, hqq, A5'⟩ := A5
    unfold sh_milestonelaw30_StorePlays_k2
    cases w with
    | true =>
      rw [ifV_true]
      refine saveA (k := 0) A5' rfl hI stT_in stI_in (fun _ => by omega) fun h6 A6 => ?_
      have A6 : AtR h h6 [(d, (mSave s t).2)] r s [] := ⟨qq, hqq, A6⟩
      refine saveR_ok A6 hI stT_in stI_in (by omega) (by omega) fun h7 A7 => ?_
      rw [pBin_neq, bne_self_eq_false, ifV_false]
      exact k3 _ h7 ((save_inv hI stT_in stI_in).mono (by omega)) A7
    | false =>
      have hq : ¬ (q = 0 ∨ q = 1) := fun h => by have := hwq.2 h; cases this
      rw [ifV_false, pBin_eql, ifV_beq]
      refine ⟨fun h2 => ?_, fun h2 => ?_⟩
      · refine fld A5'.own.ext (by decide) rfl ?_
        have hn := hm.n
        rw [pBin_rem]
        refine ⟨by decide, ?_⟩
        have en : v.n.tmod 30 = ((v.n.toNat % 30 : Nat) : Int) := by rw [Int.tmod_eq_emod_of_nonneg (by omega)]; omega
        rw [en, pConv_int, w64 (by omega) (by omega)]
        refine armA (k := 0) A5' rfl fun h6 A6 => ?_
        refine fld A6.own.ext (by decide) rfl ?_
        rw [pBin_rem]
        refine ⟨by decide, ?_⟩
        rw [en, pConv_int, w64 (by omega) (by omega)]
        have A6 : AtR h h6 [(d, mArm s ((v.n.toNat % 30 : Nat) : Int))] r s [] := ⟨qq, hqq, A6⟩
        refine armRA A6 fun h7 A7 => ?_
        exact k3 _ h7 ((arm_inv hI (by omega)).mono (by omega)) A7
      · refine fld A5'.own.ext (by decide) rfl ?_
        refine crashA (k := 0) A5' rfl hI (by omega) stU_len (FV.base hm.f) hm.fr hm.fl hm.f.one fun h6 A6 => ?_
        refine fld A6.own.ext (by decide) rfl ?_
        have A6 : AtR h h6 [(d, mCrash s fs)] r s [] := ⟨qq, hqq, A6⟩
        refine crashRA A6 hI (by omega) hm.f hm.fr hm.fl fun h7 A7 => ?_
        exact k3 _ h7 ((crash_inv hI).mono (by omega)) A7
  have cq : ∀ (n : Nat), (((q : Nat) : Int) == ((n : Nat) : Int)) = decide (q = n) := fun n => by
    rw [Bool.eq_iff_iff]; simp; omega
  rw [pBin_eql, show (((q : Nat) : Int) == 0) = decide (q = 0) from cq 0, ifV_dec]
  refine ⟨fun h0 => ?_, fun h0 => ?_⟩
  · refine k2 _ ?_
    rw [decide_eq_true_eq]; omega
  · rw [pBin_eql, show (((q : Nat) : Int) == 1) = decide (q = 1) from cq 1]
    refine k2 _ ?_
    rw [decide_eq_true_eq]; omega

end
end Go.Proofs.YtleaknaadodjeaaGreat

namespace Go.Proofs.YtleaknaadodjeaaGreat
open Go Go.Mh Go.ChangeShapes Go.WideShapes Go.ChangeAt Go.RowKit
set_option linter.unusedVariables false

section
variable {H : Type} {encD : TypeId × Value → H} {P : Program} {w : World} {e t : TypeId} {v : Value} {r : Reach} {base : Nat} {d : DataW H} {p : List MemPlace}

theorem dec_str {sp : Nat → Bool} {fuel : Nat} {cs : List Value} {x : DataW H × List MemPlace} (he : P.underlying e = some .string) (h : DataW.trod encD P w 0 sp true fuel e cs = some x) : ∃ s : ByteArray, cs = [.string s] ∧ s.size ≤ maxLen := by
  obtain ⟨s, e, _, hs⟩ := DataW.trod_string he h
  exact ⟨s, e, hs⟩

theorem str_of (ht : P.underlying t = some .string) (hd : DataW.Trod encD P w 0 (fun _ => true) true t v d p) (hv : v.cells.toList = [v]) : ∃ s : ByteArray, v = .string s ∧ s.size ≤ maxLen := by
  obtain ⟨fuel, hf⟩ := hd
  obtain ⟨s, e, hs⟩ := dec_str ht hf
  rw [hv] at e
  simp only [List.cons.injEq, and_true] at e
  exact ⟨s, e, hs⟩

theorem str_at (ht : P.underlying t = some .string) (hv : Value.okWide P w r base t v) (hd : DataW.Trod encD P w 0 (fun _ => true) true t v d p) : ∃ s : ByteArray, v = .string s ∧ s.size ≤ maxLen := by
  obtain ⟨s, rfl⟩ := okWide_string ht hv
  exact str_of ht hd rfl

/-- Bytes, given; an empty row may begin anywhere. -/
theorem dec_bytesE {fuel : Nat} {cs : List Value} {x : DataW H × List MemPlace} (ht : P.underlying t = some (.slice e)) (he : P.underlying e = some (.int .u8)) (hc : P.cellsOf e = 1) (h : DataW.trod encD P w 0 (fun _ => true) true fuel t cs = some x) :
    ∃ v f, cs = [v] ∧ VwE w.heap v f ∧ (∀ z ∈ f, 0 ≤ z ∧ z ≤ 255) ∧ f.length ≤ maxLen := by
  have key : ∀ v, cs = [v] → (∀ a l c, v = .slice (some a) l c → a.spot = none) → ∃ v f, cs = [v] ∧ VwE w.heap v f ∧ (∀ z ∈ f, 0 ≤ z ∧ z ≤ 255) ∧ f.length ≤ maxLen := by
    rintro v rfl hsp
    obtain ⟨bl, xs, hv, hr, hl⟩ := view_at (enc := encU8) (n := 1) (ok := fun a => 0 ≤ a ∧ a ≤ 255) (fun _ => rfl) ht hc (by decide) (dec_int (k := .u8) he) h hsp
    exact ⟨v, xs, rfl, .inl ⟨bl, hv⟩, hr, hl⟩
  rcases Go.Deep.open_slice ht h with ⟨rfl, _⟩ | ⟨a, len, cap, m, fuel', D, Pl, rfl, _, hle, hmx, hm, _, hx⟩
  · exact key _ rfl fun a l c e => by cases e
  · by_cases hs : a.spot = none
    · exact key _ rfl fun a' l c e => by cases e; exact hs
    · simp only [if_true] at hm
      subst hm
      by_cases hm0 : m = 0
      · subst hm0
        have hl0 : len = 0 := by omega
        subst hl0
        exact ⟨_, [], rfl, .inr ⟨rfl, a, rfl⟩, fun _ h => (by cases h), Nat.zero_le _⟩
      · obtain ⟨cs', h1, _⟩ := hx 0 (by omega)
        rw [hc] at h1
        exfalso
        unfold World.cells? at h1
        split at h1
        · have hc0 : w.cell? ((a.add (0 * 1)).add 0) = none := by
            obtain ⟨b, o, sp⟩ := a
            cases sp with
            | none => exact absurd rfl hs
            | some q =>
              rw [cell?_eq]
              unfold hcell
              simp only [Addr.add]
              split
              · rfl
              · rfl
          simp [List.range_succ, hc0] at h1
        · cases h1

end
end Go.Proofs.YtleaknaadodjeaaGreat

/-! Acts of the store's laws, given. -/
namespace Go.Proofs.YtleaknaadodjeaaGreat
open Go Go.Mh Go.ChangeShapes Go.WideShapes Go.ChangeAt Go.RowKit
set_option linter.unusedVariables false

section
variable {H : Type} {encD : TypeId × Value → H} {P : Program} {w : World} {e t : TypeId} {v : Value} {r : Reach} {base : Nat} {d : DataW H} {p : List MemPlace}

def okSt (w : World) (x : SV) : Prop := ∃ bs fs, SOk w.heap x bs fs

theorem dec_st {t0 t1 t2 t3 t4 te tf : TypeId} (f0 : fieldOf P e 0 = some (t0, 0)) (f1 : fieldOf P e 1 = some (t1, 1)) (f2 : fieldOf P e 2 = some (t2, 2)) (f3 : fieldOf P e 3 = some (t3, 3)) (f4 : fieldOf P e 4 = some (t4, 4)) (hc : P.cellsOf e = 5)
    (h0 : P.underlying t0 = some (.int .u8)) (h1 : P.underlying t1 = some (.slice te)) (h2 : P.underlying t2 = some (.int .u16)) (h3 : P.underlying t3 = some (.int .u8)) (h4 : P.underlying t4 = some (.slice tf)) (h5 : P.underlying te = some (.int .u8)) (h6 : P.underlying tf = some (.int .u8))
    (c0 : P.cellsOf t0 = 1) (c1 : P.cellsOf t1 = 1) (c2 : P.cellsOf t2 = 1) (c3 : P.cellsOf t3 = 1) (c4 : P.cellsOf t4 = 1) (c5 : P.cellsOf te = 1) (c6 : P.cellsOf tf = 1) :
    ∀ fuel cs x, DataW.trod encD P w 0 (fun _ => true) true fuel e cs = some x → ∃ a : SV, cs = encSt a ∧ okSt w a := by
  intro fuel cs x h
  have hl := trod_len h (by rw [f0]; rfl)
  rw [hc] at hl
  obtain ⟨a, b, c, d, f, rfl⟩ := len5 hl
  obtain ⟨m0, y0, g0⟩ := trod_field h 0 (cs' := [a]) f0 c0 rfl
  obtain ⟨m1, y1, g1⟩ := trod_field h 1 (cs' := [b]) f1 c1 rfl
  obtain ⟨m2, y2, g2⟩ := trod_field h 2 (cs' := [c]) f2 c2 rfl
  obtain ⟨m3, y3, g3⟩ := trod_field h 3 (cs' := [d]) f3 c3 rfl
  obtain ⟨m4, y4, g4⟩ := trod_field h 4 (cs' := [f]) f4 c4 rfl
  obtain ⟨za, ea, ra⟩ := dec_int (k := .u8) h0 _ _ _ g0
  obtain ⟨bv, bs, eb, Hb, rb, lb⟩ := dec_bytesE h1 h5 c5 g1
  obtain ⟨zc, ec, rc⟩ := dec_int (k := .u16) h2 _ _ _ g2
  obtain ⟨zd, ed, rd⟩ := dec_int (k := .u8) h3 _ _ _ g3
  obtain ⟨fv, fs, ef, Hf, rf, lf⟩ := dec_bytesE h4 h6 c6 g4
  simp only [List.cons.injEq, and_true] at ea eb ec ed ef
  subst ea eb ec ed ef
  exact ⟨⟨za, b, zc, zd, f⟩, rfl, bs, fs, ⟨ra, rc, rd, Hb, by unfold maxLen at lb; omega, Hf, rf, by unfold maxLen at lf; omega⟩⟩

theorem stacts_of {w : World} : ∀ {xs : List SV}, (∀ a ∈ xs, okSt w a) → ∃ ys : List StAct, ys.map (·.1) = xs ∧ ∀ y ∈ ys, SOk w.heap y.1 y.2.1 y.2.2
  | [], _ => ⟨[], rfl, fun _ h => by cases h⟩
  | x :: xs, h => by
    obtain ⟨bs, fs, h1⟩ := h x List.mem_cons_self
    obtain ⟨ys, e, hy⟩ := stacts_of (xs := xs) fun a ha => h a (List.mem_cons_of_mem _ ha)
    refine ⟨(x, bs, fs) :: ys, by rw [List.map_cons, e], fun y hy' => ?_⟩
    rcases List.mem_cons.1 hy' with rfl | hy'
    · exact h1
    · exact hy y hy'

end
end Go.Proofs.YtleaknaadodjeaaGreat


