/- Texts of the proofs of seat YtleaknaadodjeaaGreat, joined: DkK, DkL, DkN, DkP, DkQ, DkR, DkU, StA, StB, StC, S30A, S30C, RdA, RdB, RdC. They have no conditions of their own. -/
import Derived.Test.YtleaknaadodjeaaGreatTa
import Derived.Test.YtleaknaadodjeaaGreatMd
set_option linter.unusedVariables false
set_option linter.unusedSimpArgs false
set_option linter.unusedSectionVars false

namespace Go.Proofs.YtleaknaadodjeaaGreat
open Go Go.Mh
set_option linter.unusedVariables false

section
variable {h0 h : Heap} {L M ts l3 : List Res} {K : Value → Heap → Prop} {k d i : Nat} {c : DC} {s : Dk} {B : Bx} {x : TC} {U : List Nm} {N : Nat} {a b : Nm}

/-- What lies there while a crash goes through the things. -/
def crL (b1 k8 km nx f3 d m' : Nat) (fv : Value) (es : Array MapEntry) (clock : Nat) (kept : List Nat) (cd : List Value) (dm tm : Nat) (D' : Dir) (tc0 tc : List TC) (s : Dk) (R : List Res) : List Res :=
  cellR b1 [ptr d] T_p_disk_Disk :: cellR k8 [.map (some km)] T_map_int_p_disk_thing :: kmapR QI km (fun z => if ∃ m ∈ kept, (m : Int) = z then thF tc0 z else none) :: cellR nx [.func (.func F_disk_Disk_Crash_1) #[] #[ptr f3]] T_func_int_v2 ::
    cellR f3 [fv] T_sl_uint8 :: cellR d cd T_disk_Disk :: kmapR QS dm (dirF D') :: objR m' (.map es clock) :: kmapR QI tm (thF tc0) :: sepR (tc.map fun x => sepR (tRs s x)) :: R

/-- A thing gone through. -/
theorem crThing_ok {b1 k8 km nx f3 m' lp mk : Nat} {fv0 fv : Value} {fs0 fs : List Int} {es : Array MapEntry} {clock : Nat} {kept : List Nat} {cd : List Value} {dm tm : Nat} {D' : Dir} {tc0 tc : List TC} {R Pr : List Res} {Lo : Loop} {KP : Exit → Heap → Prop}
    (o : Own h0 h (loopR lp (lo Lo .busy none) :: markR mk :: (crL b1 k8 km nx f3 d m' fv es clock kept cd dm tm D' tc0 tc s (R ++ L) ++ Pr)))
    (hx : tc[i]? = some x) (hnd : (tc.map (·.n)).Nodup) (hlt : x.n < s.th.length) (hth : thF tc0 x.n = some (ptr x.b))
    (hf : FV h0 (L ++ Pr) fv0 fs0) (hA : FA fv0 fs0 fv fs) (hr : ∀ z ∈ fs, 0 ≤ z ∧ z ≤ 255) (hl : fs.length < 2 ^ 63) (hw : ∀ w ∈ (s.getT x.n).all, w.off + w.s.size ≤ 1048576) (hN : (s.getT x.n).all.length ≤ 1048576)
    (hK : ∀ fv' dv' wv' h', FA fv0 fs0 fv' (crW (s.getT x.n).pen fs).2 →
      Own h0 h' (loopR lp (lo Lo .busy none) :: markR mk :: (crL b1 k8 km nx f3 d m' fv' es clock (kept ++ [x.n]) cd dm tm D' tc0 (tc.set i ⟨x.n, x.b, dv', wv'⟩) (modTh s x.n fun t => ⟨t.syn ++ (crW t.pen fs).1, []⟩) (R ++ L) ++ Pr)) → KP .normal h') :
    pNil (ptr x.b) fun t61 => pField 1 t61 fun t62 => pLoad h t62 fun t63 => pLen t63 fun t64 =>
      LoopH (σ := Vals [65]) (fun y hh ZZ => sh_disk_Disk_Crash_L3 Tryz.prog t64 t63 (ptr nx) (ptr x.b) (ptr k8) (I x.n) KP y.1 hh (fun a0 hz => ZZ (a0, ()) hz)) ((.int .i64 0), ()) h := by
  have hil : i < tc.length := (List.getElem?_eq_some_iff.1 hx).1
  have hts : (tc.map fun x => sepR (tRs s x))[i]? = some (sepR (tRs s x)) := by rw [List.getElem?_map, hx]; rfl
  have o1 := out2 o (k := 11) rfl hts
  generalize hE : (tc.map fun x => sepR (tRs s x)).set i nilR = tsn at o1
  have hpl : (s.getT x.n).syn.length + (s.getT x.n).pen.length ≤ 1048576 := by
    unfold Th.all at hN; rw [List.length_append] at hN; exact hN
  -- the list with the thing open
  let M : Value → List Res := fun fv => loopR lp (lo Lo .busy none) :: markR mk :: cellR b1 [ptr d] T_p_disk_Disk :: cellR k8 [.map (some km)] T_map_int_p_disk_thing :: kmapR QI km (fun z => if ∃ m ∈ kept, (m : Int) = z then thF tc0 z else none) :: cellR nx [.func (.func F_disk_Disk_Crash_1) #[] #[ptr f3]] T_func_int_v2 ::
    cellR f3 [fv] T_sl_uint8 :: cellR d cd T_disk_Disk :: kmapR QS dm (dirF D') :: objR m' (.map es clock) :: kmapR QI tm (thF tc0) :: sepR tsn :: (R ++ (L ++ Pr))
  have o2 : Own h0 h (cellR x.b [x.dv, x.wv] T_disk_thing :: slR encB8 1 T_uint8 x.dv (bytesOf (s.getT x.n).syn) :: slR encW 2 T_disk_write x.wv (s.getT x.n).pen :: M fv) := by
    have : Own h0 h (tRs s x ++ (loopR lp (lo Lo .busy none) :: markR mk :: cellR b1 [ptr d] T_p_disk_Disk :: cellR k8 [.map (some km)] T_map_int_p_disk_thing :: kmapR QI km (fun z => if ∃ m ∈ kept, (m : Int) = z then thF tc0 z else none) :: cellR nx [.func (.func F_disk_Disk_Crash_1) #[] #[ptr f3]] T_func_int_v2 ::
      cellR f3 [fv] T_sl_uint8 :: cellR d cd T_disk_Disk :: kmapR QS dm (dirF D') :: objR m' (.map es clock) :: kmapR QI tm (thF tc0) :: sepR tsn :: ((R ++ L) ++ Pr))) := o1
    rw [List.append_assoc R L Pr] at this
    exact this
  clear o o1
  rw [pNil_ptr, pField_ptr]
  refine o2.load 0 rfl rfl ?_
  refine (o2.vw 2 rfl).len ?_
  have Hw0 := o2.vw 2 rfl
  refine LoopH_count (s.getT x.n).pen.length (fun j y h' => y.1 = I j ∧ ∃ dv fvj fj acc, FA fv0 fs0 fvj fj ∧ (∀ z ∈ fj, 0 ≤ z ∧ z ≤ 255) ∧ fj.length < 2 ^ 63 ∧ (∀ w ∈ acc, w ∈ (s.getT x.n).pen) ∧ acc.length ≤ j ∧ crW (s.getT x.n).pen fs = (acc ++ (crW ((s.getT x.n).pen.drop j) fj).1, (crW ((s.getT x.n).pen.drop j) fj).2) ∧
    Own h0 h' (cellR x.b [dv, x.wv] T_disk_thing :: slR encB8 1 T_uint8 dv (bytesOf ((s.getT x.n).syn ++ acc)) :: slR encW 2 T_disk_write x.wv (s.getT x.n).pen :: M fvj)) ⟨rfl, x.dv, fv, fs, [], hA, hr, hl, fun _ h => (by cases h), Nat.le_refl _, by simp, by rw [List.append_nil]; exact o2⟩ ?_
  clear o2
  rintro j ⟨y, ⟨⟩⟩ h1 Z hj ⟨hy, dv, fvj, fj, acc, hfj, hrj, hlj, hacc, hal, hcr, o⟩ hZ
  dsimp only at hy hZ ⊢
  subst hy
  unfold sh_disk_Disk_Crash_L3
  rw [pBin_lss, ifV_dec]
  refine ⟨fun hlt => ?_, fun hge => ?_⟩
  · have hj' : j < (s.getT x.n).pen.length := by omega
    have hdr : (s.getT x.n).pen.drop j = (s.getT x.n).pen[j] :: (s.getT x.n).pen.drop (j + 1) := List.drop_eq_getElem_cons hj'
    rw [hdr, crW_step] at hcr
    have hwj := List.getElem_mem hj'
    generalize (s.getT x.n).pen[j] = w at hdr hcr hwj
    have hgw : (s.getT x.n).pen[j]'hj' = (s.getT x.n).pen[j]'hj' := rfl
    refine (o.vw 2 rfl).atN (fun _ => rfl) hj' ?_
    have hwe : (s.getT x.n).pen[j]'hj' = w := by
      have := congrArg List.head? hdr
      rw [List.head?_drop, List.getElem?_eq_getElem hj'] at this
      exact Option.some.inj this
    rw [hwe]
    refine o.box fun w12 h2 o2 => ?_
    refine o2.st (l := encW w) (cs' := encW w) 0 rfl rfl rfl rfl rfl (fun u hu => encW_plain _ u hu) fun h3 o3 => ?_
    have o3 : Own h0 h3 (cellR w12 (encW w) T_disk_write :: cellR x.b [dv, x.wv] T_disk_thing :: slR encB8 1 T_uint8 dv (bytesOf ((s.getT x.n).syn ++ acc)) :: slR encW 2 T_disk_write x.wv (s.getT x.n).pen :: M fvj) := o3
    refine o3.load 9 rfl rfl ?_
    have hwb := hw w (List.mem_append_right _ hwj)
    refine nextF_ok (L := L ++ Pr) (Rs := cellR w12 (encW w) T_disk_write :: cellR x.b [dv, x.wv] T_disk_thing :: slR encB8 1 T_uint8 dv (bytesOf ((s.getT x.n).syn ++ acc)) :: slR encW 2 T_disk_write x.wv (s.getT x.n).pen :: loopR lp (lo Lo .busy none) :: markR mk :: cellR b1 [ptr d] T_p_disk_Disk :: cellR k8 [.map (some km)] T_map_int_p_disk_thing :: kmapR QI km (fun z => if ∃ m ∈ kept, (m : Int) = z then thF tc0 z else none) :: cellR nx [.func (.func F_disk_Disk_Crash_1) #[] #[ptr f3]] T_func_int_v2 ::
      cellR f3 [fvj] T_sl_uint8 :: cellR d cd T_disk_Disk :: kmapR QS dm (dirF D') :: objR m' (.map es clock) :: kmapR QI tm (thF tc0) :: sepR tsn :: R) (i := 10) o3 rfl hf hfj hrj hlj fun fv' h4 hf4 o4 => ?_
    have o4 : Own h0 h4 (cellR w12 (encW w) T_disk_write :: cellR x.b [dv, x.wv] T_disk_thing :: slR encB8 1 T_uint8 dv (bytesOf ((s.getT x.n).syn ++ acc)) :: slR encW 2 T_disk_write x.wv (s.getT x.n).pen :: M fv') := o4
    have hr4 : ∀ z ∈ fj.tail, 0 ≤ z ∧ z ≤ 255 := fun z hz => hrj z (List.mem_of_mem_tail hz)
    have hl4 : fj.tail.length < 2 ^ 63 := by rw [List.length_tail]; omega
    rw [pBin_rem]
    refine ⟨by decide, ?_⟩
    rw [show ((fateOf fj : Nat) : Int).tmod 2 = ((fateOf fj % 2 : Nat) : Int) by rw [Int.tmod_eq_emod_of_nonneg (by omega)]; omega, pBin_eql, ifV_beq]
    refine ⟨fun h1' => ?_, fun h0' => ?_⟩
    · have hodd : fateOf fj % 2 = 1 := by omega
      rw [if_pos hodd] at hcr
      rw [pNil_ptr, pField_ptr]
      refine o4.load 1 rfl rfl ?_
      refine o4.ldN (cs' := encW w) 0 rfl rfl rfl ?_
      have hsub : ∀ y ∈ (s.getT x.n).syn ++ acc, y.off + y.s.size ≤ 1048576 := fun y hy => by
        rcases List.mem_append.1 hy with hy | hy
        · exact hw y (List.mem_append_left _ hy)
        · exact hw y (List.mem_append_right _ (hacc y hy))
      refine putB_ok (w := w) o4 2 rfl (bytes_len hsub) hwb fun v' h5 o5 => ?_
      rw [pNil_ptr, pField_ptr]
      have hv := o5.vw 2 rfl
      refine o5.st1 1 (cs' := [v', x.wv]) rfl rfl rfl hv.one hv.plain fun h6 o6 => ?_
      unfold sh_disk_Disk_Crash_k4
      rw [pBin_add, wI j (by omega)]
      refine hZ (_, ()) h6 hj' ⟨rfl, v', fv', fj.tail, acc ++ [w], hf4, hr4, hl4, fun y hy => ?_, by rw [List.length_append]; simp; omega, hcr, ?_⟩
      · rcases List.mem_append.1 hy with hy | hy
        · exact hacc y hy
        · rw [List.mem_singleton.1 hy]; exact hwj
      · have e : bytesOf ((s.getT x.n).syn ++ (acc ++ [w])) = putW (bytesOf ((s.getT x.n).syn ++ acc)) w := by
          unfold bytesOf; rw [← List.append_assoc, List.foldl_append]; rfl
        rw [e]
        exact o6.tail
    · have heven : ¬ fateOf fj % 2 = 1 := by omega
      rw [if_neg heven] at hcr
      unfold sh_disk_Disk_Crash_k4
      rw [pBin_add, wI j (by omega)]
      exact hZ (_, ()) h4 hj' ⟨rfl, dv, fv', fj.tail, acc, hf4, hr4, hl4, hacc, by omega, hcr, o4.tail⟩
  · have hd : (s.getT x.n).pen.drop j = [] := List.drop_eq_nil_of_le (by omega)
    rw [hd] at hcr
    simp only [crW, List.append_nil] at hcr
    rw [pNil_ptr, pField_ptr]
    refine o.st1 0 (cs' := [dv, .slice none 0 0]) rfl rfl rfl rfl rfl fun h2 o2 => ?_
    have o2 : Own h0 h2 (cellR x.b [dv, .slice none 0 0] T_disk_thing :: slR encB8 1 T_uint8 dv (bytesOf ((s.getT x.n).syn ++ acc)) :: slR encW 2 T_disk_write x.wv (s.getT x.n).pen :: M fvj) := o2
    refine o2.load 6 rfl rfl ?_
    refine o2.kput (Q := QI) (k := (x.n : Int)) (f' := fun z => if ∃ m ∈ kept ++ [x.n], (m : Int) = z then thF tc0 z else none) 7 rfl (fun z => ?_) fun h3 o3 => ?_
    · unfold KM.fset
      by_cases e : z = (x.n : Int)
      · subst e
        rw [if_pos ⟨x.n, by simp, rfl⟩, if_pos rfl, hth]
      · rw [if_neg e]
        congr 1
        simp only [List.mem_append, List.mem_singleton, eq_iff_iff]
        constructor
        · rintro ⟨m, hm | hm, e'⟩
          · exact ⟨m, hm, e'⟩
          · subst hm; exact absurd e'.symm e
        · rintro ⟨m, hm, e'⟩; exact ⟨m, .inl hm, e'⟩
    · have o4 := Own.nilS (enc := encW) (n := 2) (T := T_disk_write) o3
      have o5 := o4.front 4 [1, 2, 0] (by decide) (by decide)
      have o6 : Own h0 h3 ([cellR x.b [dv, .slice none 0 0] T_disk_thing, slR encB8 1 T_uint8 dv (bytesOf ((s.getT x.n).syn ++ acc)), slR encW 2 T_disk_write (.slice none 0 0) []] ++ (loopR lp (lo Lo .busy none) :: markR mk :: cellR b1 [ptr d] T_p_disk_Disk :: cellR k8 [.map (some km)] T_map_int_p_disk_thing :: kmapR QI km (fun z => if ∃ m ∈ kept ++ [x.n], (m : Int) = z then thF tc0 z else none) :: cellR nx [.func (.func F_disk_Disk_Crash_1) #[] #[ptr f3]] T_func_int_v2 ::
        cellR f3 [fvj] T_sl_uint8 :: cellR d cd T_disk_Disk :: kmapR QS dm (dirF D') :: objR m' (.map es clock) :: kmapR QI tm (thF tc0) :: sepR tsn :: (R ++ (L ++ Pr)))) := o5
      have hni : tsn[i]? = some nilR := by rw [← hE, List.getElem?_set_self (by simpa using hil)]
      have o7 := back2 o6 (k := 11) rfl hni
      have e1 : tsn.set i (sepR [cellR x.b [dv, .slice none 0 0] T_disk_thing, slR encB8 1 T_uint8 dv (bytesOf ((s.getT x.n).syn ++ acc)), slR encW 2 T_disk_write (.slice none 0 0) []]) =
          (tc.set i ⟨x.n, x.b, dv, .slice none 0 0⟩).map fun y => sepR (tRs (modTh s x.n fun t => ⟨t.syn ++ (crW t.pen fs).1, []⟩) y) := by
        rw [← hE, List.set_set]
        apply List.ext_getElem?
        intro n
        by_cases e : n = i
        · subst e
          rw [List.getElem?_set_self (by simpa using hil), List.getElem?_map, List.getElem?_set_self hil]
          simp only [Option.map_some]
          unfold tRs
          dsimp only
          rw [getT_mod hlt, if_pos rfl, hcr]
          rfl
        · rw [List.getElem?_set_ne (fun h => e h.symm), List.getElem?_map, List.getElem?_map, List.getElem?_set_ne (fun h => e h.symm)]
          cases hy : tc[n]? with
          | none => rfl
          | some y =>
            have hne : y.n ≠ x.n := fun e' => e (by
              have hn := (List.getElem?_eq_some_iff.1 hy)
              have hxx := (List.getElem?_eq_some_iff.1 hx)
              exact (List.getElem_inj (i := n) (j := i) (h₀ := by simpa using hn.1) (h₁ := by simpa using hxx.1) hnd).1 (by simp [hn.2, hxx.2, e']))
            simp only [Option.map_some]
            unfold tRs
            rw [getT_mod hlt, if_neg hne]
      have o8 : Own h0 h3 (loopR lp (lo Lo .busy none) :: markR mk :: cellR b1 [ptr d] T_p_disk_Disk :: cellR k8 [.map (some km)] T_map_int_p_disk_thing :: kmapR QI km (fun z => if ∃ m ∈ kept ++ [x.n], (m : Int) = z then thF tc0 z else none) :: cellR nx [.func (.func F_disk_Disk_Crash_1) #[] #[ptr f3]] T_func_int_v2 ::
        cellR f3 [fvj] T_sl_uint8 :: cellR d cd T_disk_Disk :: kmapR QS dm (dirF D') :: objR m' (.map es clock) :: kmapR QI tm (thF tc0) :: sepR (tsn.set i (sepR [cellR x.b [dv, .slice none 0 0] T_disk_thing, slR encB8 1 T_uint8 dv (bytesOf ((s.getT x.n).syn ++ acc)), slR encW 2 T_disk_write (.slice none 0 0) []])) :: (R ++ (L ++ Pr))) := o7
      rw [e1, ← List.append_assoc] at o8
      refine hK fvj dv (.slice none 0 0) h3 (by rw [hcr]; exact hfj) ?_
      exact o8

end
end Go.Proofs.YtleaknaadodjeaaGreat

namespace Go.Proofs.YtleaknaadodjeaaGreat
open Go Go.Mh
set_option linter.unusedVariables false

section
variable {h0 h : Heap} {L M ts l3 : List Res} {K : Value → Heap → Prop} {k d i : Nat} {c : DC} {s : Dk} {B : Bx} {x : TC} {U : List Nm} {N : Nat} {a b : Nm}

theorem FV.more {v : Value} {fs : List Int} (H : FV h0 L v fs) (P : List Res) : FV h0 (L ++ P) v fs := fun Rs h' o => by
  rw [← List.append_assoc] at o
  exact H Rs h' o.left
theorem FV.cons {v : Value} {fs : List Int} {r : Res} (H : FV h0 L v fs) : FV h0 (r :: L) v fs := fun Rs h' o => by
  refine H (Rs ++ [r]) h' ?_
  rw [List.append_assoc]; exact o

/-- The state behind the first things. -/
def crS (s : Dk) (ns : List Nat) (f : List Int) : List Th × List Int := ns.foldl crT (s.th, f)

theorem crS_snoc {ns : List Nat} {n : Nat} {f : List Int} : crS s (ns ++ [n]) f = crT (crS s ns f) n := by simp [crS]

theorem crT_len {y : List Th × List Int} {n : Nat} : (crT y n).1.length = y.1.length := by unfold crT; simp
theorem crS_len {ns : List Nat} {f : List Int} : (crS s ns f).1.length = s.th.length := by
  unfold crS
  have : ∀ (ns : List Nat) (y : List Th × List Int), (ns.foldl crT y).1.length = y.1.length := by
    intro ns
    induction ns with
    | nil => intro y; rfl
    | cons n ns ih => intro y; rw [List.foldl_cons, ih, crT_len]
  exact this ns _

theorem crW_sub : ∀ {l : List Wr} {f : List Int} {w : Wr}, w ∈ (crW l f).1 → w ∈ l
  | [], _, _, h => by simp [crW] at h
  | v :: l, f, w, h => by
    rw [crW] at h
    split at h
    · rcases List.mem_cons.1 h with rfl | h
      · exact List.mem_cons_self
      · exact List.mem_cons_of_mem _ (crW_sub h)
    · exact List.mem_cons_of_mem _ (crW_sub h)
theorem crW_len : ∀ {l : List Wr} {f : List Int}, (crW l f).1.length ≤ l.length
  | [], _ => Nat.le_refl _
  | v :: l, f => by
    have := crW_len (l := l) (f := f.tail)
    rw [crW]
    split
    · simp only [List.length_cons]; omega
    · simp only [List.length_cons]; omega
theorem crW_fs : ∀ {l : List Wr} {f : List Int}, (∀ z ∈ (crW l f).2, z ∈ f) ∧ (crW l f).2.length ≤ f.length
  | [], f => ⟨fun _ h => h, Nat.le_refl _⟩
  | v :: l, f => by
    have ih := crW_fs (l := l) (f := f.tail)
    have ht : f.tail.length ≤ f.length := by rw [List.length_tail]; omega
    rw [crW]
    split
    · exact ⟨fun z hz => List.mem_of_mem_tail (ih.1 z hz), by dsimp only; omega⟩
    · exact ⟨fun z hz => List.mem_of_mem_tail (ih.1 z hz), by omega⟩

/-- What is known of things holds of them while they are gone through. -/
theorem crS_inv (hl : ∀ t ∈ s.th, t.all.length ≤ N) (hw : ∀ t ∈ s.th, ∀ w ∈ t.all, w.off + w.s.size ≤ 1048576) (ns : List Nat) (f : List Int) :
    (∀ t ∈ (crS s ns f).1, t.all.length ≤ N ∧ ∀ w ∈ t.all, w.off + w.s.size ≤ 1048576) ∧ (∀ z ∈ (crS s ns f).2, z ∈ f) ∧ (crS s ns f).2.length ≤ f.length := by
  unfold crS
  have : ∀ (ns : List Nat) (y : List Th × List Int), (∀ t ∈ y.1, t.all.length ≤ N ∧ ∀ w ∈ t.all, w.off + w.s.size ≤ 1048576) →
      (∀ t ∈ (ns.foldl crT y).1, t.all.length ≤ N ∧ ∀ w ∈ t.all, w.off + w.s.size ≤ 1048576) ∧ (∀ z ∈ (ns.foldl crT y).2, z ∈ y.2) ∧ (ns.foldl crT y).2.length ≤ y.2.length := by
    intro ns
    induction ns with
    | nil => intro y hy; exact ⟨hy, fun _ h => h, Nat.le_refl _⟩
    | cons n ns ih =>
      intro y hy
      have hf := crW_fs (l := (y.1.getD n default).pen) (f := y.2)
      obtain ⟨h1, h2, h3⟩ := ih (crT y n) fun t ht => by
        unfold crT at ht
        obtain ⟨j, hj, rfl⟩ := List.mem_iff_getElem.1 ht
        rw [List.getElem_modify]
        have hj' : j < y.1.length := by simpa using hj
        have hm := hy _ (List.getElem_mem hj')
        split
        · obtain ⟨m1, m2⟩ := hm
          unfold Th.all at m1 m2 ⊢
          dsimp only
          rw [List.append_nil]
          refine ⟨?_, fun w hw' => ?_⟩
          · have := crW_len (l := y.1[j].pen) (f := y.2)
            rw [List.length_append] at m1 ⊢; omega
          · rcases List.mem_append.1 hw' with hw' | hw'
            · exact m2 w (List.mem_append_left _ hw')
            · exact m2 w (List.mem_append_right _ (crW_sub hw'))
        · exact hm
      exact ⟨h1, fun z hz => hf.1 z (h2 z hz), Nat.le_trans h3 hf.2⟩
  exact this ns (s.th, f) fun t ht => ⟨hl t ht, hw t ht⟩

theorem getD_mod {l : List Th} {n m : Nat} {f : Th → Th} (hn : m ≠ n) : (l.modify n f).getD m default = l.getD m default := by
  simp only [List.getD_eq_getElem?_getD, List.getElem?_modify]
  have e' : ¬ n = m := fun h => hn h.symm
  simp [e']

/-- A thing that was not gone through yet is as it was. -/
theorem crS_get {ns : List Nat} {n : Nat} {f : List Int} (hn : n ∉ ns) : (crS s ns f).1.getD n default = s.getT n := by
  unfold crS
  have : ∀ (ns : List Nat) (y : List Th × List Int), n ∉ ns → (ns.foldl crT y).1.getD n default = y.1.getD n default := by
    intro ns
    induction ns with
    | nil => intro y _; rfl
    | cons m ns ih =>
      intro y hn
      rw [List.foldl_cons, ih _ (fun h => hn (List.mem_cons_of_mem _ h))]
      unfold crT
      exact getD_mod fun e => hn (by rw [e]; exact List.mem_cons_self)
  exact this ns _ hn

theorem crT_mod {y : List Th × List Int} {n : Nat} {s' : Dk} (h : s'.th = y.1) : (modTh s' n fun t => ⟨t.syn ++ (crW t.pen y.2).1, []⟩) = { s' with th := (crT y n).1 } := by
  unfold modTh crT; rw [h]

end
end Go.Proofs.YtleaknaadodjeaaGreat

namespace Go.Proofs.YtleaknaadodjeaaGreat
open Go Go.Mh
set_option linter.unusedVariables false

section
variable {h0 h : Heap} {L M ts l3 : List Res} {K : Value → Heap → Prop} {k d i : Nat} {c : DC} {s : Dk} {B : Bx} {x : TC} {U : List Nm} {N : Nat} {a b : Nm}

theorem nb_get {tc tc' : List TC} (h : tc'.map (fun x => (x.n, x.b)) = tc.map (fun x => (x.n, x.b))) {i : Nat} {x : TC} (hx : tc[i]? = some x) : ∃ x', tc'[i]? = some x' ∧ x'.n = x.n ∧ x'.b = x.b := by
  have h1 := congrArg (·[i]?) h
  simp only [List.getElem?_map, hx, Option.map_some] at h1
  cases hy : tc'[i]? with
  | none => rw [hy] at h1; cases h1
  | some y => rw [hy] at h1; injection h1 with h1; injection h1 with h2 h3; exact ⟨y, rfl, h2, h3⟩

theorem nb_nums {tc tc' : List TC} (h : tc'.map (fun x => (x.n, x.b)) = tc.map (fun x => (x.n, x.b))) : tc'.map (·.n) = tc.map (·.n) := by
  have := congrArg (List.map Prod.fst) h
  simpa [List.map_map, Function.comp_def] using this

theorem nb_thF {tc tc' : List TC} (h : tc'.map (fun x => (x.n, x.b)) = tc.map (fun x => (x.n, x.b))) : thF tc' = thF tc := by
  funext z
  unfold thF
  induction tc generalizing tc' with
  | nil => rw [List.map_eq_nil_iff.1 h]
  | cons y tc ih =>
    cases tc' with
    | nil => cases h
    | cons y' tc' =>
      simp only [List.map_cons, List.cons.injEq] at h
      obtain ⟨h1, h2⟩ := h
      injection h1 with h3 h4
      simp only [List.find?_cons, h3]
      split
      · simp [h4]
      · exact ih h2

theorem nb_set {tc tc' : List TC} (h : tc'.map (fun x => (x.n, x.b)) = tc.map (fun x => (x.n, x.b))) {i : Nat} {x : TC} (hx : tc'[i]? = some x) (dv wv : Value) : (tc'.set i ⟨x.n, x.b, dv, wv⟩).map (fun x => (x.n, x.b)) = tc.map (fun x => (x.n, x.b)) := by
  rw [List.map_set, ← h]
  apply List.ext_getElem?
  intro n
  by_cases e : n = i
  · subst e
    rw [List.getElem?_set_self (by simpa using (List.getElem?_eq_some_iff.1 hx).1), List.getElem?_map, hx]; rfl
  · rw [List.getElem?_set_ne (fun h => e h.symm)]

theorem thF_filter {tc : List TC} {ns : List Nat} : thF (tc.filter fun x => decide (x.n ∈ ns)) = fun z => if ∃ m ∈ ns, (m : Int) = z then thF tc z else none := by
  funext z
  unfold thF
  induction tc with
  | nil => simp
  | cons y tc ih =>
    rw [List.filter_cons]
    by_cases hy : y.n ∈ ns
    · rw [decide_eq_true hy]
      simp only [if_true, List.find?_cons]
      by_cases e : (y.n : Int) = z
      · rw [decide_eq_true e, if_pos ⟨y.n, hy, e⟩]
      · rw [decide_eq_false e]; exact ih
    · rw [decide_eq_false hy]
      simp only [Bool.false_eq_true, if_false, List.find?_cons]
      rw [ih]
      by_cases hz : ∃ m ∈ ns, (m : Int) = z
      · rw [if_pos hz, if_pos hz]
        have e : ¬ (y.n : Int) = z := fun e => by
          obtain ⟨m, hm, e'⟩ := hz
          have : m = y.n := by omega
          exact hy (this ▸ hm)
        rw [decide_eq_false e]
      · rw [if_neg hz, if_neg hz]

/-- Behind the changes that stay. -/
theorem crashT_ok {nx f3 : Nat} {fv0 fv : Value} {fs0 fs : List Int} {k : Nat} (hk : k ≤ s.cp.length)
    (o : Own h0 h (cellR nx [.func (.func F_disk_Disk_Crash_1) #[] #[ptr f3]] T_func_int_v2 :: cellR f3 [fv] T_sl_uint8 :: cellR d (dC c s) T_disk_Disk :: kmapR QS c.dm (dirF (dirOf (s.cs ++ s.cp.take k))) :: kmapR QS c.nm (dirF s.now) :: kmapR QI c.tm (thF c.tc) :: slR encC 1 T_disk_change c.pv c.vs :: sepR (tsR c s) :: roR B :: L))
    (H : DOk B c s) (hI : s.Inv U N) (hN : N ≤ 1048576) (hl : U.length ≤ 12) (hf : FV h0 L fv0 fs0) (hA : FA fv0 fs0 fv fs) (hr : ∀ z ∈ fs, 0 ≤ z ∧ z ≤ 255) (hfl : fs.length < 2 ^ 63)
    (hK : PostD h0 L d B K (.tuple #[]) { cs := s.cs ++ s.cp.take k, cp := [], th := (crS s (namedL (dirOf (s.cs ++ s.cp.take k)) s.th.length) fs).1, armed := 0, off := false }) :
    pNil (ptr d) fun t47 => pField 0 t47 fun t48 => pLoad h t48 fun t49 => callS Tryz.prog F_maps_Clone_disk_directory_string_int [t49] h fun t50 h_9 =>
    pNil (ptr d) fun t51 => pField 1 t51 fun t52 => pStore 1 t52 t50 h_9 fun u_2 h_10 => pNil (ptr d) fun t53 => pField 3 t53 fun t54 => pStore 1 t54 (.slice none 0 0) h_10 fun u_3 h_11 =>
    pMakeMap h_11 fun t55 h_12 => pBox T_map_int_p_disk_thing (.map none) h_12 fun kept8 h_13 => pStore 1 kept8 t55 h_13 fun u_4 h_14 => callS Tryz.prog F_disk_Disk_named [ptr d] h_14 fun t57 h_15 =>
    rangeH Tryz.prog t57 [58, 59] (h_15.size + 1) (h_15.push (.deferred (some []))) (fun L x hh R => sh_disk_Disk_Crash_B2 Tryz.prog h_15 (ptr nx) kept8 L x.1 x.2.1 hh R)
    (fun h_27 => pLoad h_27 kept8 fun t92 => pNil (ptr d) fun t93 => pField 2 t93 fun t94 => pStore 1 t94 t92 h_27 fun u_9 h_28 => pNil (ptr d) fun t95 => pField 6 t95 fun t96 => pStore 1 t96 (.bool false) h_28 fun u_10 h_29 =>
      pNil (ptr d) fun t97 => pField 5 t97 fun t98 => pStore 1 t98 (.int .i64 0) h_29 fun u_11 h_30 => takeM (h_15.size :: []) h_30 fun h_31 => K (.tuple #[]) h_31)
    (fun h_32 => takeM (h_15.size :: []) h_32 fun h_33 => K (.tuple #[]) h_33) [] := by
  have hsub : ∀ c ∈ s.cs ++ s.cp.take k, c ∈ s.cs ++ s.cp := fun c hc => by
    rcases List.mem_append.1 hc with hc | hc
    · exact List.mem_append_left _ hc
    · exact List.mem_append_right _ (List.mem_of_mem_take hc)
  have hsl : (s.cs ++ s.cp.take k).Sublist (s.cs ++ s.cp) := List.Sublist.append (List.Sublist.refl _) (List.take_sublist _ _)
  have hok : OkL [] (s.cs ++ s.cp.take k) := by
    have := hI.ok
    rw [← List.take_append_drop k s.cp, ← List.append_assoc] at this
    exact this.left
  have hU : ∀ a ∈ keysOf (dirOf (s.cs ++ s.cp.take k)), a ∈ U := dir_nm (U := U) _ [] (fun a h => by cases h) fun c hc => hI.nm c (hsub c hc)
  have hinj : ((dirOf (s.cs ++ s.cp.take k)).map (·.2)).Nodup := dir_inj _ [] .nil .nil (hI.inj.sublist (hsl.filterMap _)) (fun n h => by cases h) hok
  have hval : ∀ y ∈ dirOf (s.cs ++ s.cp.take k), y.2 < s.th.length := fun y hy => by
    rcases dir_val _ [] _ hy hok with h | ⟨a, h⟩
    · cases h
    · exact hI.num a _ (hsub _ h)
  have hnk : ∀ m ∈ namedL (dirOf (s.cs ++ s.cp.take k)) s.th.length, ∃ (i : Nat) (x : TC), c.tc[i]? = some x ∧ x.n = m ∧ thF c.tc m = some (ptr x.b) := fun m hm => by
    obtain ⟨_, ⟨a, m'⟩, hy, rfl⟩ := namedL_mem.1 hm
    obtain ⟨i, x, hx, e⟩ := dOk_at H hI.ok ((dlook_mem (keys_dirOf _)).2 hy)
    exact ⟨i, x, hx, e, by rw [← e]; exact thF_at H hx⟩
  generalize hD : dirOf (s.cs ++ s.cp.take k) = D' at o hU hinj hval hnk hK
  have hkD : (keysOf D').Nodup := by rw [← hD]; exact keys_dirOf _
  rw [pNil_ptr, pField_ptr]
  refine o.load 2 rfl rfl ?_
  refine mcloneB_ok o (i := 3) rfl fun m' h1 o1 => ?_
  rw [pNil_ptr, pField_ptr]
  refine o1.st1 3 (cs' := [.map (some c.dm), .map (some m'), .map (some c.tm), c.pv, I s.th.length, I s.armed, .bool s.off]) rfl rfl rfl rfl rfl fun h2 o2 => ?_
  rw [pNil_ptr, pField_ptr]
  refine o2.st1 3 (cs' := [.map (some c.dm), .map (some m'), .map (some c.tm), .slice none 0 0, I s.th.length, I s.armed, .bool s.off]) rfl rfl rfl rfl rfl fun h3 o3 => ?_
  have o3 : Own h0 h3 (kmapR QS m' (dirF D') :: cellR nx [.func (.func F_disk_Disk_Crash_1) #[] #[ptr f3]] T_func_int_v2 :: cellR f3 [fv] T_sl_uint8 :: cellR d [.map (some c.dm), .map (some m'), .map (some c.tm), .slice none 0 0, I s.th.length, I s.armed, .bool s.off] T_disk_Disk :: kmapR QS c.dm (dirF D') :: kmapR QS c.nm (dirF s.now) :: kmapR QI c.tm (thF c.tc) :: slR encC 1 T_disk_change c.pv c.vs :: sepR (tsR c s) :: roR B :: L) := o3
  refine o3.kmk QI fun km h4 o4 => ?_
  refine o4.box fun k8 h5 o5 => ?_
  refine o5.st1 0 (cs' := [.map (some km)]) rfl rfl rfl rfl rfl fun h6 o6 => ?_
  refine callS_of (lk_disk_Disk_named _ ?_)
  unfold sh_disk_Disk_named
  refine o6.box fun b1 h7 o7 => ?_
  have o7 : Own h0 h7 (cellR b1 [ptr d] T_p_disk_Disk :: cellR k8 [.map (some km)] T_map_int_p_disk_thing :: kmapR QI km (fun _ => none) :: kmapR QS m' (dirF D') :: cellR nx [.func (.func F_disk_Disk_Crash_1) #[] #[ptr f3]] T_func_int_v2 :: cellR f3 [fv] T_sl_uint8 :: cellR d [.map (some c.dm), .map (some m'), .map (some c.tm), .slice none 0 0, I s.th.length, I s.armed, .bool s.off] T_disk_Disk :: kmapR QS c.dm (dirF D') :: kmapR QS c.nm (dirF s.now) :: kmapR QI c.tm (thF c.tc) :: slR encC 1 T_disk_change c.pv c.vs :: sepR (tsR c s) :: roR B :: L) := o7
  obtain ⟨es, clock, hm, t, ht, hfm⟩ := o7.get 3 rfl
  have o8 := o7.conv 3 (r' := objR m' (.map es clock)) rfl hm fun b hb => hb
  have o9 := o8.front 12 [0, 1, 2, 4, 5, 6, 7, 3, 9, 11] (by decide) (by decide)
  have ek : (fun z => if ∃ m ∈ (namedL D' s.th.length).take 0, (m : Int) = z then thF c.tc z else none) = fun _ => none := by funext z; simp
  have o10 : Own h0 h7 (crL b1 k8 km nx f3 d m' fv es clock ((namedL D' s.th.length).take 0) [.map (some c.dm), .map (some m'), .map (some c.tm), .slice none 0 0, I s.th.length, I s.armed, .bool s.off] c.dm c.tm D' c.tc c.tc s ([roR B] ++ L)) := by
    unfold crL; rw [ek]; exact o9
  have inv := crS_inv (s := s) (N := N) hI.lw hI.wr
  refine o10.range (named_iter (n := s.th.length) (b := b1) (d := d) (nm := m') (tm := c.tm) (tc := c.tc) ht hfm hU hl hkD hinj hval) (by rintro i y i' ⟨_, _, rfl⟩; rfl)
    (fun i Rs => ∃ fvi tci, i ≤ (namedL D' s.th.length).length ∧ tci.map (fun x => (x.n, x.b)) = c.tc.map (fun x => (x.n, x.b)) ∧ FA fv0 fs0 fvi (crS s ((namedL D' s.th.length).take i) fs).2 ∧
      Rs = crL b1 k8 km nx f3 d m' fvi es clock ((namedL D' s.th.length).take i) [.map (some c.dm), .map (some m'), .map (some c.tm), .slice none 0 0, I s.th.length, I s.armed, .bool s.off] c.dm c.tm D' c.tc tci { s with th := (crS s ((namedL D' s.th.length).take i) fs).1 } ([roR B] ++ L))
    (fun _ => False) (fun _ _ => False) ⟨fv, c.tc, Nat.zero_le _, rfl, hA, rfl⟩ ?_ ?_ ?_ (fun _ _ h => h.elim) (fun _ _ _ h => h.elim)
  · rintro i Rs h' ⟨fvi, tci, _, _, _, rfl⟩ o'
    exact ⟨hcell_of (o'.get 0 rfl) rfl, hcell_of (o'.get 5 rfl) rfl, hcell_of (o'.get 5 rfl) rfl, o'.get 7 rfl, o'.get 8 rfl⟩
  · rintro M i y i' Rs Pr h' R ⟨hi, rfl, rfl⟩ ⟨fvi, tci, _, hnb, hAi, rfl⟩ o' hN' _ _
    have hget : (namedL D' s.th.length).getD i 0 = (namedL D' s.th.length)[i] := by rw [List.getD_eq_getElem?_getD, List.getElem?_eq_getElem hi]; rfl
    have hmem : (namedL D' s.th.length)[i] ∈ namedL D' s.th.length := List.getElem_mem hi
    obtain ⟨j, x, hx, en, eth⟩ := hnk _ hmem
    obtain ⟨x', hx', en', eb'⟩ := nb_get hnb hx
    dsimp only [valsOf]
    rw [hget, eth]
    unfold sh_disk_Disk_Crash_B2
    refine o'.begin 0 rfl fun h4 o4 => ?_
    have hnot : x'.n ∉ (namedL D' s.th.length).take i := by
      rw [en', en]
      intro hm
      have hnd : (namedL D' s.th.length).Nodup := List.Nodup.sublist List.filter_sublist List.nodup_range
      obtain ⟨q, hq, e⟩ := List.mem_iff_getElem.1 hm
      rw [List.getElem_take] at e
      have hq' : q < i := by rw [List.length_take] at hq; omega
      have := (List.getElem_inj (i := q) (j := i) (h₀ := by omega) (h₁ := hi) hnd).1 e
      omega
    have hgt : ({ s with th := (crS s ((namedL D' s.th.length).take i) fs).1 } : Dk).getT x'.n = s.getT x'.n := crS_get hnot
    obtain ⟨i1, i2, i3⟩ := inv ((namedL D' s.th.length).take i) fs
    have hlen := crS_len (s := s) (ns := (namedL D' s.th.length).take i) (f := fs)
    have hltx : x'.n < s.th.length := by rw [en']; exact H.lt x (List.mem_of_getElem? hx)
    have hmx := th_mem hltx
    have hgl := hI.lw _ hmx
    have hgw := hI.wr _ hmx
    have e0 : (Option.some (ptr x.b)).getD (Value.pointer none) = ptr x'.b := by rw [eb']; rfl
    have e1 : I (((namedL D' s.th.length)[i] : Nat) : Int) = I (x'.n : Int) := by rw [en', en]
    rw [e0, e1]
    refine crThing_ok (s := { s with th := (crS s ((namedL D' s.th.length).take i) fs).1 }) (R := [roR B]) (L := L) (Pr := Pr) (x := x') (i := j) (fs := (crS s ((namedL D' s.th.length).take i) fs).2) (fv0 := fv0) (fs0 := fs0) o4 hx' (by rw [nb_nums hnb]; exact H.nd) (by show _ < (crS s _ fs).1.length; rw [hlen]; exact hltx)
      (by rw [en', eb', en]; exact eth) (hf.more Pr) hAi (fun z hz => hr z (i2 z hz)) (by omega) (by rw [hgt]; exact hgw) (by rw [hgt]; omega) fun fv' dv' wv' h5 hA5 o5 => ?_
    refine hN' _ h5 ⟨fv', tci.set j ⟨x'.n, x'.b, dv', wv'⟩, by omega, nb_set hnb hx' dv' wv', ?_, rfl⟩ ?_
    · rw [List.take_succ_eq_append_getElem hi, crS_snoc, ← en, ← en']
      exact hA5
    · rw [List.take_succ_eq_append_getElem hi, crS_snoc, ← en, ← en']
      rw [crT_mod (y := crS s ((namedL D' s.th.length).take i) fs) rfl] at o5
      exact o5
  · rintro i h' Rs rfl ⟨fvi, tci, _, hnb, _, rfl⟩ o'
    rw [List.take_length] at o'
    refine o'.load 2 rfl rfl ?_
    rw [pNil_ptr, pField_ptr]
    refine o'.st1 6 (cs' := [.map (some c.dm), .map (some m'), .map (some km), .slice none 0 0, I s.th.length, I s.armed, .bool s.off]) rfl rfl rfl rfl rfl fun h8 p8 => ?_
    rw [pNil_ptr, pField_ptr]
    refine p8.st1 6 (cs' := [.map (some c.dm), .map (some m'), .map (some km), .slice none 0 0, I s.th.length, I s.armed, .bool false]) rfl rfl rfl rfl rfl fun h9 p9 => ?_
    rw [pNil_ptr, pField_ptr]
    refine p9.st1 6 (cs' := [.map (some c.dm), .map (some m'), .map (some km), .slice none 0 0, I s.th.length, I 0, .bool false]) rfl rfl rfl rfl rfl fun h10 p10 => ?_
    refine p10.take1 0 rfl fun h11 p11 => ?_
    have hlen := crS_len (s := s) (ns := namedL D' s.th.length) (f := fs)
    have p12 := p11.conv 8 (r' := kmapR QS m' (dirF D')) rfl ⟨es, clock, p11.get 8 rfl, t, ht, hfm⟩ fun b hb => hb
    have hsq : (tci.filter fun x => decide (x.n ∈ namedL D' s.th.length)).Sublist tci := List.filter_sublist
    have p13 := p12.conv 10 (r' := sepR ((tci.filter fun x => decide (x.n ∈ namedL D' s.th.length)).map fun x => sepR (tRs { s with th := (crS s (namedL D' s.th.length) fs).1 } x))) rfl (sep_sub (hsq.map _) (p12.get 10 rfl)) fun b hb => by
      obtain ⟨r, hr', hb⟩ := hb
      exact ⟨r, (hsq.map _).mem hr', hb⟩
    have p14 := Own.nilS (enc := encC) (n := 1) (T := T_disk_change) p13
    have p15 := p14.front 13 [7, 8, 9, 4, 0, 11, 12] (by decide) (by decide)
    refine hK { dm := c.dm, nm := m', tm := km, pv := .slice none 0 0, vs := [], tc := tci.filter fun x => decide (x.n ∈ namedL D' s.th.length) } B h11 (fun _ h => h) ?_ ?_
    · have hmemn : ∀ n, n ∈ namedL D' s.th.length → ∃ x ∈ tci.filter (fun x => decide (x.n ∈ namedL D' s.th.length)), x.n = n := fun n hn => by
        obtain ⟨j, x, hx, en, _⟩ := hnk n hn
        obtain ⟨x', hx', en', _⟩ := nb_get hnb hx
        exact ⟨x', List.mem_filter.2 ⟨List.mem_of_getElem? hx', decide_eq_true (by rw [en', en]; exact hn)⟩, en'.trans en⟩
      refine ⟨rfl, fun i v y hv _ => (by simp at hv), ?_, fun y hy => ?_, fun y hy => ?_, fun a n hm' => (by cases hm')⟩
      · have hnn : (tci.map (·.n)).Nodup := by rw [nb_nums hnb]; exact H.nd
        exact hnn.sublist (hsq.map _)
      · show y.n < (crS s _ fs).1.length
        rw [hlen]
        have := List.mem_filter.1 hy
        exact (namedL_mem.1 (of_decide_eq_true this.2)).1
      · have hy' : y ∈ D' := by rw [← hD]; exact hy
        exact hmemn y.2 (namedL_mem.2 ⟨hval y hy', y, hy', rfl⟩)
    · unfold dL dC
      dsimp only
      rw [hD]
      have e1 : Dk.now { cs := s.cs ++ s.cp.take k, cp := [], th := (crS s (namedL D' s.th.length) fs).1, armed := 0, off := false } = D' := by
        unfold Dk.now; dsimp only; rw [List.append_nil, hD]
      have e2 : (fun z => if ∃ m ∈ namedL D' s.th.length, (m : Int) = z then thF c.tc z else none) = thF (tci.filter fun x => decide (x.n ∈ namedL D' s.th.length)) := by
        rw [thF_filter, nb_thF hnb]
      rw [e1, ← e2, hlen]
      exact p15

theorem crashB_ok {fv : Value} {fs : List Int} (o : Own h0 h (dL d c s (roR B :: L))) (H : DOk B c s) (hI : s.Inv U N) (hN : N ≤ 1048576) (hl : U.length ≤ 12) (hf : FV h0 L fv fs) (hr : ∀ z ∈ fs, 0 ≤ z ∧ z ≤ 255) (hfl : fs.length < 2 ^ 63)
    (hfv : fv.cells = #[fv]) (hK : PostD h0 L d B K (.tuple #[]) (mCrash s fs)) : callS Tryz.prog F_disk_Disk_Crash [ptr d, fv] h K := by
  refine callS_of (lk_disk_Disk_Crash _ _ ?_)
  unfold sh_disk_Disk_Crash
  refine o.box fun f3 h1 o1 => ?_
  have o1 : Own h0 h1 (cellR f3 [fv] T_sl_uint8 :: dL d c s (roR B :: L)) := by
    have : (Value.cells fv).toList = [fv] := by rw [hfv]
    rw [this] at o1; exact o1
  rw [pEq_ptr_nil, Option.isNone_some, ifV_false]
  refine o1.box fun nx h2 o2 => ?_
  refine o2.st1 0 (cs' := [.func (.func F_disk_Disk_Crash_1) #[] #[ptr f3]]) rfl rfl rfl rfl rfl fun h3 o3 => ?_
  refine o3.load 0 rfl rfl ?_
  have o3 : Own h0 h3 ((cellR nx [.func (.func F_disk_Disk_Crash_1) #[] #[ptr f3]] T_func_int_v2 :: cellR f3 [fv] T_sl_uint8 :: cellR d (dC c s) T_disk_Disk :: kmapR QS c.dm (dirF (dirOf s.cs)) :: kmapR QS c.nm (dirF s.now) :: kmapR QI c.tm (thF c.tc) :: slR encC 1 T_disk_change c.pv c.vs :: sepR (tsR c s) :: [roR B]) ++ L) := o3
  rw [pNil_ptr, pField_ptr]
  refine o3.load 2 rfl rfl ?_
  refine (o3.vw 6 rfl).len ?_
  have hlc := hI.lc
  rw [List.length_append] at hlc
  rw [H.lv, pBin_add, wI s.cp.length (by omega)]
  refine nextF_ok (L := L) (i := 1) o3 rfl hf (fun _ h => h) hr hfl fun fv' h4 hA4 o4 => ?_
  refine ⟨o4.load 2 rfl rfl rfl, ?_⟩
  rw [pBin_rem]
  refine ⟨by omega, ?_⟩
  rw [show ((fateOf fs : Nat) : Int).tmod ((s.cp.length + 1 : Nat) : Int) = ((fateOf fs % (s.cp.length + 1) : Nat) : Int) by rw [Int.tmod_eq_emod_of_nonneg (by omega)]; rfl]
  have hkl : fateOf fs % (s.cp.length + 1) ≤ s.cp.length := by
    have := Nat.mod_lt (fateOf fs) (show 0 < s.cp.length + 1 by omega)
    omega
  unfold mCrash at hK
  dsimp only at hK
  generalize fateOf fs % (s.cp.length + 1) = k at hkl hK
  rw [pNil_ptr, pField_ptr]
  refine o4.load 2 rfl rfl ?_
  refine (o4.vw 6 rfl).subA (a := 0) (j := k) (fun _ => rfl) rfl rfl (Nat.zero_le _) (by rw [H.lv]; exact hkl) fun v' hv' => ?_
  have hlt : (((c.vs.drop 0).take (k - 0))).length = k := by rw [List.drop_zero, List.length_take, Nat.sub_zero, H.lv]; omega
  refine (hv' h4 (o4.vw 6 rfl)).len ?_
  rw [hlt]
  have hrt : ∀ z ∈ fs.tail, 0 ≤ z ∧ z ≤ 255 := fun z hz => hr z (List.mem_of_mem_tail hz)
  refine LoopH_count k (fun i y h' => y.1 = I i ∧ Own h0 h' (cellR nx [.func (.func F_disk_Disk_Crash_1) #[] #[ptr f3]] T_func_int_v2 :: cellR f3 [fv'] T_sl_uint8 :: cellR d (dC c s) T_disk_Disk :: kmapR QS c.dm (dirF (dirOf (s.cs ++ s.cp.take i))) :: kmapR QS c.nm (dirF s.now) :: kmapR QI c.tm (thF c.tc) :: slR encC 1 T_disk_change c.pv c.vs :: sepR (tsR c s) :: roR B :: L)) ⟨rfl, by rw [List.take_zero, List.append_nil]; exact o4⟩ ?_
  rintro i ⟨y, ⟨⟩⟩ h5 Z hi ⟨hy, o5⟩ hZ
  dsimp only at hy hZ ⊢
  subst hy
  unfold sh_disk_Disk_Crash_L1
  rw [pBin_lss, ifV_dec]
  refine ⟨fun hlt' => ?_, fun hge => ?_⟩
  · have hi' : i < k := by omega
    have hiv : i < c.vs.length := by rw [H.lv]; omega
    have hip : i < s.cp.length := by omega
    refine (hv' h5 (o5.vw 6 rfl)).atN (fun _ => rfl) (by rw [hlt]; exact hi') ?_
    have ee : ((c.vs.drop 0).take (k - 0))[i]'(by rw [hlt]; exact hi') = c.vs[i] := by simp
    rw [ee]
    refine o5.box fun c7 h6 o6 => ?_
    refine o6.st (l := [clv c.vs[i]]) (cs' := [clv c.vs[i]]) 0 rfl rfl rfl rfl rfl (fun u hu => by simp at hu; subst hu; exact clv_plain _) fun h7 o7 => ?_
    rw [pField_ptr]
    refine o7.load 0 rfl rfl ?_
    rw [pNil_ptr, pField_ptr]
    refine o7.load 3 rfl rfl ?_
    refine chDo o7 (i := 4) (j := 9) rfl rfl (by decide) (H.ch i _ s.cp[i] (List.getElem?_eq_getElem hiv) (List.getElem?_eq_getElem hip)) fun h8 o8 => ?_
    rw [pBin_add, wI i (by omega)]
    refine hZ (_, ()) h8 hi' ⟨rfl, ?_⟩
    rw [List.take_succ_eq_append_getElem hip, ← List.append_assoc, dirOf_snoc]
    exact o8.tail
  · have hik : i = k := by omega
    subst hik
    exact crashT_ok hkl o5 H hI hN hl hf hA4 hrt (by rw [List.length_tail]; omega) hK

end
end Go.Proofs.YtleaknaadodjeaaGreat

namespace Go.Proofs.YtleaknaadodjeaaGreat
open Go Go.Mh
set_option linter.unusedVariables false

section
variable {h0 h : Heap} {L M ts l3 : List Res} {K : Value → Heap → Prop} {k d i : Nat} {c : DC} {s : Dk} {B : Bx} {x : TC} {U : List Nm} {N : Nat} {a b : Nm}

end
end Go.Proofs.YtleaknaadodjeaaGreat

namespace Go.Proofs.YtleaknaadodjeaaGreat
open Go Go.Mh
set_option linter.unusedVariables false

section
variable {h0 h : Heap} {L M ts l3 : List Res} {K : Value → Heap → Prop} {k d i : Nat} {c : DC} {s : Dk} {B : Bx} {x : TC} {U : List Nm} {N : Nat} {a b : Nm}

end
end Go.Proofs.YtleaknaadodjeaaGreat

namespace Go.Proofs.YtleaknaadodjeaaGreat
open Go Go.Mh
set_option linter.unusedVariables false

/-! ### Several disks -/

section
variable {h0 h : Heap} {L X Y Z : List Res} {r : Res}

theorem mid (o : Own h0 h (X ++ (Y ++ (r :: Z)))) : Own h0 h (X ++ (r :: (Y ++ Z))) := by
  have o1 := o.comm
  rw [List.append_assoc] at o1
  have o2 : Own h0 h (sepR Y :: r :: (Z ++ X)) := o1.sep
  have o3 := (o2.swap).rot
  have o4 : Own h0 h (sepR Y :: ((Z ++ X) ++ [r])) := o3
  have o5 := o4.unsep
  have o6 : Own h0 h ((Y ++ Z) ++ (X ++ [r])) := by
    have e : Y ++ ((Z ++ X) ++ [r]) = (Y ++ Z) ++ (X ++ [r]) := by simp
    rw [← e]; exact o5
  have o7 := o6.comm
  have e : (X ++ [r]) ++ (Y ++ Z) = X ++ (r :: (Y ++ Z)) := by simp
  rw [← e]; exact o7

theorem mid' (o : Own h0 h (X ++ (r :: (Y ++ Z)))) : Own h0 h (X ++ (Y ++ (r :: Z))) := by
  have e : X ++ (r :: (Y ++ Z)) = (X ++ [r]) ++ (Y ++ Z) := by simp
  rw [e] at o
  have o1 := o.comm
  have e2 : (Y ++ Z) ++ (X ++ [r]) = Y ++ ((Z ++ X) ++ [r]) := by simp
  rw [e2] at o1
  have o2 : Own h0 h ((sepR Y :: (Z ++ X)) ++ [r]) := o1.sep
  have o3 : Own h0 h (r :: sepR Y :: (Z ++ X)) := o2.comm
  have o4 := o3.swap.unsep
  have e3 : Y ++ (r :: (Z ++ X)) = (Y ++ (r :: Z)) ++ X := by simp
  rw [e3] at o4
  exact o4.comm

end

structure HD where
  d : Nat
  c : DC
  s : Dk
def pk (x : HD) : Res := sepR (dL x.d x.c x.s [])
def Ats (h0 h : Heap) (ds : List (Nat × Dk)) (L : List Res) : Prop := ∃ (xs : List HD) (B : Bx), xs.map (fun x => (x.d, x.s)) = ds ∧ Own h0 h (xs.map pk ++ roR B :: L) ∧ ∀ x ∈ xs, DOk B x.c x.s

section
variable {h0 h : Heap} {L : List Res} {K : Value → Heap → Prop} {k d : Nat} {s : Dk} {U : List Nm} {N : Nat} {a b : Nm} {ds : List (Nat × Dk)}

theorem Ats.op (A : Ats h0 h ds L) (hk : ds[k]? = some (d, s)) : ∃ c B R, DOk B c s ∧ Own h0 h (dL d c s (roR B :: R)) ∧ (∀ fv fs, FV h0 L fv fs → FV h0 R fv fs) ∧
    (∀ (h' : Heap) c' B' s', (∀ y ∈ B, y ∈ B') → DOk B' c' s' → Own h0 h' (dL d c' s' (roR B' :: R)) → Ats h0 h' (ds.set k (d, s')) L) ∧
    (∀ (h' : Heap) e c', DOk B c' s → Own h0 h' (dL e c' s (dL d c s (roR B :: R))) → Ats h0 h' ((e, s) :: ds) L) := by
  obtain ⟨xs, B, rfl, o, hD⟩ := A
  rw [List.getElem?_map] at hk
  obtain ⟨x, hx, e⟩ := Option.map_eq_some_iff.1 hk
  cases e
  have hkl := (List.getElem?_eq_some_iff.1 hx).1
  have hm := List.mem_of_getElem? hx
  have hp : (xs.map pk ++ roR B :: L)[k]? = some (sepR (dL x.d x.c x.s [])) := by
    rw [List.getElem?_append_left (by simpa using hkl), List.getElem?_map, hx]; rfl
  have o1 := o.out k hp
  rw [List.set_append_left _ _ (by simpa using hkl)] at o1
  have o2 := mid o1
  have bk : ∀ (h' : Heap) (P : List Res) (c' : DC) (B' : Bx) (s' : Dk), (∀ y ∈ B, y ∈ B') → DOk B' c' s' → Own h0 h' (dL x.d c' s' [] ++ (((xs.map pk).set k nilR) ++ (roR B' :: L))) → Ats h0 h' ((xs.map fun x => (x.d, x.s)).set k (x.d, s')) L := by
    intro h' P c' B' s' hB hD' o'
    have o3 := o'.back k (by rw [List.getElem?_append_left (by simpa using hkl), List.getElem?_set_self (by simpa using hkl)])
    rw [List.set_append_left _ _ (by simpa using hkl), List.set_set] at o3
    refine ⟨xs.set k ⟨x.d, c', s'⟩, B', by rw [List.map_set], by rw [List.map_set]; exact o3, fun y hy => ?_⟩
    rcases List.mem_or_eq_of_mem_set hy with hy | rfl
    · exact (hD y hy).mono hB
    · exact hD'
  refine ⟨x.c, B, (xs.map pk).set k nilR ++ L, hD x hm, o2, fun fv fs hf Rs h' o' => ?_, fun h' c' B' s' hB hD' o' => ?_, fun h' e c' hD' o' => ?_⟩
  · rw [← List.append_assoc] at o'
    exact hf _ _ o'
  · exact bk h' [] c' B' s' hB hD' (mid' (X := dL x.d c' s' []) o')
  · have o3 : Own h0 h' (pk ⟨e, c', x.s⟩ :: (dL x.d x.c x.s [] ++ (roR B :: ((xs.map pk).set k nilR ++ L)))) := Own.sep (l := dL e c' x.s []) o'
    have o4 := mid' (X := []) (r := pk ⟨e, c', x.s⟩) (Y := dL x.d x.c x.s []) o3
    have e1 : dL x.d x.c x.s [] ++ (pk ⟨e, c', x.s⟩ :: roR B :: ((xs.map pk).set k nilR ++ L)) = (dL x.d x.c x.s [] ++ [pk ⟨e, c', x.s⟩]) ++ (roR B :: ((xs.map pk).set k nilR ++ L)) := by simp
    have o5 : Own h0 h' ((dL x.d x.c x.s [] ++ [pk ⟨e, c', x.s⟩]) ++ (roR B :: ((xs.map pk).set k nilR ++ L))) := by rw [← e1]; exact o4
    have o6 := mid' o5
    have e2 : (dL x.d x.c x.s [] ++ [pk ⟨e, c', x.s⟩]) ++ ((xs.map pk).set k nilR ++ (roR B :: L)) = dL x.d x.c x.s [] ++ (pk ⟨e, c', x.s⟩ :: ((xs.map pk).set k nilR ++ (roR B :: L))) := by simp
    rw [e2] at o6
    have o7 := o6.back (k + 1) (by rw [List.getElem?_cons_succ, List.getElem?_append_left (by simpa using hkl), List.getElem?_set_self (by simpa using hkl)])
    rw [List.set_cons_succ, List.set_append_left _ _ (by simpa using hkl), List.set_set] at o7
    have e3 : (xs.map pk).set k (sepR (dL x.d x.c x.s [])) = xs.map pk := setSame (by rw [List.getElem?_map, hx]; rfl)
    rw [e3] at o7
    refine ⟨⟨e, c', x.s⟩ :: xs, B, rfl, o7, fun y hy => ?_⟩
    rcases List.mem_cons.1 hy with rfl | hy
    · exact hD'
    · exact hD y hy

theorem Ats.none (o : Own h0 h L) : Ats h0 h [] L := ⟨[], [], rfl, o.noRo, fun _ h => by cases h⟩
theorem Ats.own (A : Ats h0 h ds L) : Own h0 h L := by
  obtain ⟨xs, B, _, o, _⟩ := A
  exact (Own.comm o).tail.left

theorem newA (A : Ats h0 h ds L) (hK : ∀ d h', Ats h0 h' ((d, Dk.new) :: ds) L → K (ptr d) h') : callS Tryz.prog F_disk_New [] h K := by
  obtain ⟨xs, B, rfl, o, hD⟩ := A
  refine newB_ok o fun d c h' hd o' => hK d h' ?_
  have o1 := o'.erase 6
  have o2 : Own h0 h' (pk ⟨d, c, .new⟩ :: (xs.map pk ++ roR B :: L)) := Own.sep (l := dL d c .new []) o1
  refine ⟨⟨d, c, .new⟩ :: xs, B, rfl, o2, fun y hy => ?_⟩
  rcases List.mem_cons.1 hy with rfl | hy
  · exact hd.mono fun _ h => by cases h
  · exact hD y hy

theorem makeA (A : Ats h0 h ds L) (hk : ds[k]? = some (d, s)) (hI : s.Inv U N) (hN : N ≤ 1048576) (hK : ∀ h', Ats h0 h' (ds.set k (d, (mMake s a).2)) L → K (I (mMake s a).1) h') : callS Tryz.prog F_disk_Disk_Make [ptr d, .string a] h K := by
  obtain ⟨c, B, R, hD, o, _, bk, _⟩ := A.op hk
  exact makeB_ok o hD hI hN fun c' B' h' hB hD' o' => hK h' (bk h' c' B' _ hB hD' o')
theorem writeA {z : Int} {w : ByteArray} (A : Ats h0 h ds L) (hk : ds[k]? = some (d, s)) (hI : s.Inv U N) (hN : N ≤ 1048576) (hz : -9223372036854775808 ≤ z ∧ z ≤ 9223372036854775807) (hw : w.size ≤ 1048576) (hK : ∀ h', Ats h0 h' (ds.set k (d, (mWrite s a z w).2)) L → K (I (mWrite s a z w).1) h') : callS Tryz.prog F_disk_Disk_Write [ptr d, .string a, I z, .string w] h K := by
  obtain ⟨c, B, R, hD, o, _, bk, _⟩ := A.op hk
  exact writeB_ok o hD hI hN hz hw fun c' B' h' hB hD' o' => hK h' (bk h' c' B' _ hB hD' o')
theorem syncA (A : Ats h0 h ds L) (hk : ds[k]? = some (d, s)) (hI : s.Inv U N) (hN : N ≤ 1048576) (hK : ∀ h', Ats h0 h' (ds.set k (d, (mSync s a).2)) L → K (I (mSync s a).1) h') : callS Tryz.prog F_disk_Disk_Sync [ptr d, .string a] h K := by
  obtain ⟨c, B, R, hD, o, _, bk, _⟩ := A.op hk
  exact syncB_ok o hD hI hN fun c' B' h' hB hD' o' => hK h' (bk h' c' B' _ hB hD' o')
theorem renameA (A : Ats h0 h ds L) (hk : ds[k]? = some (d, s)) (hI : s.Inv U N) (hN : N ≤ 1048576) (hK : ∀ h', Ats h0 h' (ds.set k (d, (mRename s a b).2)) L → K (I (mRename s a b).1) h') : callS Tryz.prog F_disk_Disk_Rename [ptr d, .string a, .string b] h K := by
  obtain ⟨c, B, R, hD, o, _, bk, _⟩ := A.op hk
  exact renameB_ok o hD hI hN fun c' B' h' hB hD' o' => hK h' (bk h' c' B' _ hB hD' o')
theorem syncDirA (A : Ats h0 h ds L) (hk : ds[k]? = some (d, s)) (hI : s.Inv U N) (hK : ∀ h', Ats h0 h' (ds.set k (d, (mSyncDir s).2)) L → K (I (mSyncDir s).1) h') : callS Tryz.prog F_disk_Disk_SyncDir [ptr d] h K := by
  obtain ⟨c, B, R, hD, o, _, bk, _⟩ := A.op hk
  exact syncDirB_ok o hD hI fun c' B' h' hB hD' o' => hK h' (bk h' c' B' _ hB hD' o')
theorem armA {z : Int} (A : Ats h0 h ds L) (hk : ds[k]? = some (d, s)) (hK : ∀ h', Ats h0 h' (ds.set k (d, mArm s z)) L → K (.tuple #[]) h') : callS Tryz.prog F_disk_Disk_Arm [ptr d, I z] h K := by
  obtain ⟨c, B, R, hD, o, _, bk, _⟩ := A.op hk
  exact armB_ok o fun h' o' => hK h' (bk h' c B _ (fun _ h => h) (hD.ar z.toNat s.off) o')
theorem crashA {fv : Value} {fs : List Int} (A : Ats h0 h ds L) (hk : ds[k]? = some (d, s)) (hI : s.Inv U N) (hN : N ≤ 1048576) (hl : U.length ≤ 12) (hf : FV h0 L fv fs) (hr : ∀ z ∈ fs, 0 ≤ z ∧ z ≤ 255) (hfl : fs.length < 2 ^ 63) (hfv : fv.cells = #[fv])
    (hK : ∀ h', Ats h0 h' (ds.set k (d, mCrash s fs)) L → K (.tuple #[]) h') : callS Tryz.prog F_disk_Disk_Crash [ptr d, fv] h K := by
  obtain ⟨c, B, R, hD, o, hfl', bk, _⟩ := A.op hk
  exact crashB_ok o hD hI hN hl (hfl' _ _ hf) hr hfl hfv fun c' B' h' hB hD' o' => hK h' (bk h' c' B' _ hB hD' o')
theorem onA (A : Ats h0 h ds L) (hk : ds[k]? = some (d, s)) (hK : K (.bool (!s.off)) h) : callS Tryz.prog F_disk_Disk_On [ptr d] h K := by
  obtain ⟨c, B, R, hD, o, _, _, _⟩ := A.op hk
  exact onB_ok o hK
theorem readA (A : Ats h0 h ds L) (hk : ds[k]? = some (d, s)) (hI : s.Inv U N) (hN : N ≤ 1048576) (hK : ∀ h', Ats h0 h' ds L → K (.tuple #[.string (mRead s a).1, I (mRead s a).2]) h') : callS Tryz.prog F_disk_Disk_Read [ptr d, .string a] h K := by
  obtain ⟨c, B, R, hD, o, _, bk, _⟩ := A.op hk
  refine readB_ok o hD hI hN fun h' o' => hK h' ?_
  have := bk h' c B s (fun _ h => h) hD o'
  rwa [setSame hk] at this
/-- The same; what lies behind may be another. -/
theorem Ats.op2 (A : Ats h0 h ds L) (hk : ds[k]? = some (d, s)) : ∃ c B P, DOk B c s ∧ Own h0 h (dL d c s (roR B :: (P ++ L))) ∧
    (∀ (L' : List Res) (h' : Heap), Own h0 h' (dL d c s (roR B :: (P ++ L'))) → Ats h0 h' ds L') := by
  obtain ⟨xs, B, rfl, o, hD⟩ := A
  rw [List.getElem?_map] at hk
  obtain ⟨x, hx, e⟩ := Option.map_eq_some_iff.1 hk
  cases e
  have hkl := (List.getElem?_eq_some_iff.1 hx).1
  have hm := List.mem_of_getElem? hx
  have hp : (xs.map pk ++ roR B :: L)[k]? = some (sepR (dL x.d x.c x.s [])) := by
    rw [List.getElem?_append_left (by simpa using hkl), List.getElem?_map, hx]; rfl
  have o1 := o.out k hp
  rw [List.set_append_left _ _ (by simpa using hkl)] at o1
  refine ⟨x.c, B, (xs.map pk).set k nilR, hD x hm, mid o1, fun L' h' o' => ?_⟩
  have o3 := (mid' (X := dL x.d x.c x.s []) o').back k (by rw [List.getElem?_append_left (by simpa using hkl), List.getElem?_set_self (by simpa using hkl)])
  rw [List.set_append_left _ _ (by simpa using hkl), List.set_set] at o3
  have e3 : (xs.map pk).set k (sepR (dL x.d x.c x.s [])) = xs.map pk := setSame (by rw [List.getElem?_map, hx]; rfl)
  rw [e3] at o3
  exact ⟨xs, B, rfl, o3, hD⟩

theorem Ats.more {h' : Heap} (A : Ats h0 h ds L) (x : Ext h h') : Ats h0 h' ds L := by
  obtain ⟨xs, B, e, o, hD⟩ := A
  exact ⟨xs, B, e, o.more x, hD⟩

/-- What was made beside the disks. -/
theorem Ats.add {h' : Heap} {r : Res} (A : Ats h0 h ds L) (o' : Own h h' [r]) : Ats h0 h' ds (r :: L) := by
  obtain ⟨xs, B, e, o, hD⟩ := A
  have o1 : Own h0 h' (r :: (xs.map pk ++ roR B :: L)) := o.frame o'
  have e1 : r :: (xs.map pk ++ roR B :: L) = [] ++ (r :: ((xs.map pk ++ [roR B]) ++ L)) := by simp
  rw [e1] at o1
  have o2 := mid' o1
  have e2 : [] ++ ((xs.map pk ++ [roR B]) ++ (r :: L)) = xs.map pk ++ roR B :: (r :: L) := by simp
  rw [e2] at o2
  exact ⟨xs, B, e, o2, hD⟩

theorem Ats.drop {r : Res} (A : Ats h0 h ds (r :: L)) : Ats h0 h ds L := by
  obtain ⟨xs, B, e, o, hD⟩ := A
  refine ⟨xs, B, e, ?_, hD⟩
  have := o.erase ((xs.map pk).length + 1)
  rw [List.eraseIdx_append_of_length_le (by omega), show (xs.map pk).length + 1 - (xs.map pk).length = 1 by omega] at this
  exact this

theorem Ats.get {r : Res} (A : Ats h0 h ds (r :: L)) : r.Q h := A.own.get 0 rfl

theorem namesA (A : Ats h0 h ds L) (hk : ds[k]? = some (d, s)) (hI : s.Inv U N) (hl : U.length ≤ 12) (hK : ∀ w h', Ats h0 h' ds (slR encS 1 T_string w (mNames s) :: L) → K w h') : callS Tryz.prog F_disk_Disk_Names [ptr d] h K := by
  obtain ⟨c, B, P, hD, o, bk⟩ := A.op2 hk
  refine namesD_ok o hI hl fun w h' o' => hK w h' (bk _ h' ?_)
  have o1 : Own h0 h' ([] ++ (slR encS 1 T_string w (mNames s) :: ((dL d c s (roR B :: P)) ++ L))) := o'
  exact mid' o1

/-! ### What the laws read -/

def rdS (s : Dk) (a : Nm) : ByteArray := if (mRead s a).2 ≠ 0 then (⟨#[63]⟩ : ByteArray) ++ bstr [UInt8.ofNat (48 + (mRead s a).2.toNat / 10), UInt8.ofNat (48 + (mRead s a).2.toNat % 10)] else (mRead s a).1

theorem refE_val {e : Int} {l : List Nm} : refE s e l = 0 ∨ refE s e l = 22 ∨ refE s e l = e ∨ refE s e l = 21 := by
  unfold refE
  split
  · exact .inr (.inl rfl)
  · split
    · exact .inr (.inr (.inl rfl))
    · split
      · exact .inl rfl
      · exact .inr (.inr (.inr rfl))
theorem namesE_val {l : List Nm} : namesE l = 0 ∨ namesE l = 2 := by unfold namesE; split <;> simp

end
end Go.Proofs.YtleaknaadodjeaaGreat

namespace Go.Proofs.YtleaknaadodjeaaGreat
open Go Go.Mh
set_option linter.unusedVariables false

/-! ### Names and fates -/

section
variable {h0 h : Heap} {L : List Res} {K : Value → Heap → Prop} {k d : Nat} {s : Dk} {U : List Nm} {N : Nat} {a b : Nm} {ds : List (Nat × Dk)}

theorem names_sub (hI : s.Inv U N) {x : Nm} (hx : x ∈ mNames s) : x ∈ U := by
  unfold mNames at hx
  split at hx
  · cases hx
  · exact dir_nm (U := U) _ [] (fun a h => by cases h) hI.nm _ ((sortO_mem ltS_ok).1 hx)

theorem names_len12 (hI : s.Inv U N) (hl : U.length ≤ 12) : (mNames s).length ≤ 12 := by
  unfold mNames
  split
  · simp
  · have h1 := sortO_len (lt := ltS) (keysOf s.now)
    have h2 := len_of_sub (keys_dirOf (s.cs ++ s.cp)) (dir_nm (U := U) _ [] (fun a h => by cases h) hI.nm)
    have h3 : (keysOf (dirOf (s.cs ++ s.cp))).length = (keysOf s.now).length := rfl
    omega

theorem VwE.moreE {h' : Heap} {v : Value} {fs : List Int} (H : VwE h v fs) (x : Ext h h') : VwE h' v fs := by
  rcases H with H | H
  · exact .inl (H.more x)
  · exact .inr H

theorem VwE.cut20 {v : Value} {fs : List Int} {K : Value → Prop} (H : VwE h v fs) (hK : ∀ v', (∀ h', VwE h' v fs → VwE h' v' (fs.take 20)) → K v') : pSlice 1 v none (some (I ((min fs.length 20 : Nat) : Int))) none K := by
  rcases H with H | ⟨rfl, a, rfl⟩
  · by_cases hf : fs = []
    · subst hf
      refine H.sub (lo := none) (hi := some (I ((min ([] : List Int).length 20 : Nat) : Int))) (a := 0) (j := 0) (fun _ => rfl) rfl rfl (Nat.le_refl _) (Nat.le_refl _) fun v' hv' => hK v' fun h' _ => .inl ?_
      obtain ⟨bl, b, cap, e, hc, hv⟩ := hv'
      refine ⟨bl, b, cap, e, hc, .inl ⟨rfl, ?_⟩⟩
      rcases hv with ⟨_, hb⟩ | ⟨o, _, _, _, _, rfl, _⟩
      · exact hb
      · exact .inr ⟨_, _, rfl⟩
    · refine H.subA (a := 0) (j := min fs.length 20) (fun _ => rfl) rfl rfl (Nat.zero_le _) (by omega) fun v' hv' => hK v' fun h' Hh => ?_
      have e : (fs.drop 0).take (min fs.length 20 - 0) = fs.take 20 := by
        rw [List.drop_zero, Nat.sub_zero]
        by_cases c : fs.length ≤ 20
        · rw [Nat.min_eq_left c, List.take_of_length_le (Nat.le_refl _), List.take_of_length_le c]
        · rw [Nat.min_eq_right (by omega)]
      rw [e] at hv'
      rcases Hh with Hh | ⟨hn, _⟩
      · exact .inl (hv' h' Hh)
      · exact absurd hn hf
  · refine ⟨by simp, by simp, by simp, by simp, by simp, hK _ fun h' _ => .inr ⟨rfl, a, ?_⟩⟩
    unfold slBase
    rfl

theorem FV.of {v : Value} {f : List Int} (H : VwE h v f) : FV h L v f := fun Rs h' o => H.moreE o.ext

theorem FV.sl {w : Value} {fs : List Int} : FV h0 (slR encU8 1 T_uint8 w fs :: L) w fs := fun Rs h' o =>
  .inl (o.vw Rs.length (by rw [List.getElem?_append_right (Nat.le_refl _), Nat.sub_self]; rfl))

theorem crash1 {z : Int} (A : Ats h0 h ds L) (hk : ds[k]? = some (d, s)) (hI : s.Inv U N) (hN : N ≤ 1048576) (hl : U.length ≤ 12) (hz : 0 ≤ z ∧ z ≤ 255) (hK : ∀ h', Ats h0 h' (ds.set k (d, mCrash s [z])) L → K (.tuple #[]) h') :
    pBuildSlice T_uint8 (zerosL [(.int .u8 0)] 1) [(0, 1, (.int .u8 z))] 1 h fun t h2 => callS Tryz.prog F_disk_Disk_Crash [ptr d, t] h2 K := by
  refine (Own.start h).build (enc := encU8) (n := 1) [z] rfl (sizesOk_of rfl) rfl fun w h2 o2 => ?_
  refine crashA (A.add o2) hk hI hN hl FV.sl (fun y hy => by rw [List.mem_singleton.1 hy]; exact hz) (by simp) (o2.vw 0 rfl).one fun h' A' => hK h' A'.drop

theorem crash2 {z y : Int} (A : Ats h0 h ds L) (hk : ds[k]? = some (d, s)) (hI : s.Inv U N) (hN : N ≤ 1048576) (hl : U.length ≤ 12) (hz : 0 ≤ z ∧ z ≤ 255) (hy : 0 ≤ y ∧ y ≤ 255) (hK : ∀ h', Ats h0 h' (ds.set k (d, mCrash s [z, y])) L → K (.tuple #[]) h') :
    pBuildSlice T_uint8 (zerosL [(.int .u8 0)] 2) [(0, 1, (.int .u8 z)), (1, 1, (.int .u8 y))] 2 h fun t h2 => callS Tryz.prog F_disk_Disk_Crash [ptr d, t] h2 K := by
  refine (Own.start h).build (enc := encU8) (n := 1) [z, y] rfl (sizesOk_of rfl) rfl fun w h2 o2 => ?_
  refine crashA (A.add o2) hk hI hN hl FV.sl (fun x hx => ?_) (by simp) (o2.vw 0 rfl).one fun h' A' => hK h' A'.drop
  rcases List.mem_cons.1 hx with rfl | hx
  · exact hz
  · rw [List.mem_singleton.1 hx]; exact hy

theorem FV.nilV : FV h0 L (.slice none 0 0) [] := fun Rs h' o => .inl Vw.nil

theorem Ats.side (A : Ats h0 h ds L) : ∃ M, Own h0 h (L ++ M) ∧ ∀ h' L', Own h0 h' (L' ++ M) → Ats h0 h' ds L' := by
  obtain ⟨xs, B, e, o, hD⟩ := A
  refine ⟨xs.map pk ++ [roR B], ?_, fun h' L' o' => ⟨xs, B, e, ?_, hD⟩⟩
  · have e1 : xs.map pk ++ roR B :: L = (xs.map pk ++ [roR B]) ++ L := by simp
    rw [e1] at o
    exact o.comm
  · have e1 : xs.map pk ++ roR B :: L' = (xs.map pk ++ [roR B]) ++ L' := by simp
    rw [e1]
    exact o'.comm

end
end Go.Proofs.YtleaknaadodjeaaGreat

/-! A text saved on a disk, and loaded. -/
namespace Go.Proofs.YtleaknaadodjeaaGreat
open Go Go.Mh
set_option linter.unusedVariables false

section
variable {h0 h : Heap} {L X P : List Res} {K : Value → Heap → Prop} {k d : Nat} {s : Dk} {U : List Nm} {N : Nat} {a b : Nm} {ds : List (Nat × Dk)} {x : ByteArray}

/-! ### Disks among other parts -/

def AtsL (ds : List (Nat × Dk)) (L Rs : List Res) : Prop := ∃ (xs : List HD) (B : Bx), xs.map (fun x => (x.d, x.s)) = ds ∧ Rs = xs.map pk ++ roR B :: L ∧ ∀ x ∈ xs, DOk B x.c x.s

theorem AtsL.at {Rs : List Res} (H : AtsL ds L Rs) (o : Own h0 h (X ++ (Rs ++ P))) : Ats h0 h ds (L ++ (P ++ X)) := by
  obtain ⟨xs, B, e, rfl, hD⟩ := H
  refine ⟨xs, B, e, ?_, hD⟩
  have o1 := o.comm
  have e1 : ((xs.map pk ++ roR B :: L) ++ P) ++ X = xs.map pk ++ roR B :: (L ++ (P ++ X)) := by simp
  rw [e1] at o1
  exact o1

theorem Ats.li (A : Ats h0 h ds (L ++ (P ++ X))) : ∃ Rs, AtsL ds L Rs ∧ Own h0 h (X ++ (Rs ++ P)) := by
  obtain ⟨xs, B, e, o, hD⟩ := A
  refine ⟨xs.map pk ++ roR B :: L, ⟨xs, B, e, rfl, hD⟩, ?_⟩
  have e1 : xs.map pk ++ roR B :: (L ++ (P ++ X)) = ((xs.map pk ++ roR B :: L) ++ P) ++ X := by simp
  rw [e1] at o
  exact o.comm

/-! ### Pieces -/

theorem pieces_iter {b : Nat} (hx : x.size ≤ 1048576) : IterG Tryz.prog (.func (.func F_store_pieces_1) #[] #[ptr b]) (fun h => hcell h ⟨b, 0, none⟩ = some (.string x)) (σ := Nat) 0
    (fun i r i' => i < nP x ∧ r = [I ((64 * i : Nat) : Int), .string (pieceOf x i)] ∧ i' = i + 1) (fun i => i = nP x) := by
  rintro yv h0 h Rs K J E ⟨l, rfl⟩ o hj hQ hY hK
  refine callF_of (l := [yieldV l, ptr b]) rfl (lk_store_pieces_1 _ _ ?_)
  unfold sh_store_pieces_1
  refine LoopH_count (nP x) (fun i y h' => y.1 = I ((64 * i : Nat) : Int) ∧ ∃ Rs', J i Rs' ∧ Own h0 h' Rs') ⟨rfl, Rs, hj, o⟩ ?_
  rintro i ⟨y, ⟨⟩⟩ h3 Z hi ⟨hy, Rs', hj', o'⟩ hZ
  dsimp only at hy hZ ⊢
  subst hy
  unfold sh_store_pieces_1_L1
  have q := hQ _ _ _ hj' o'
  simp only [pLoad_ptr, q]
  rw [pLenS_str, pBin_lss, ifV_dec]
  refine ⟨fun hlt => ?_, fun hge => ?_⟩
  · have hi' : i < nP x := by unfold nP; omega
    rw [pBin_add, w64 (by omega) (by omega), pLenS_str, pMin_int]
    have e1 : (if ((x.size : Nat) : Int) < ((64 * i : Nat) : Int) + 64 then ((x.size : Nat) : Int) else ((64 * i : Nat) : Int) + 64) = ((min (64 * i + 64) x.size : Nat) : Int) := by split <;> omega
    have e2 : (if ((64 * i : Nat) : Int) + 64 < ((x.size : Nat) : Int) then ((64 * i : Nat) : Int) + 64 else ((x.size : Nat) : Int)) = ((min (64 * i + 64) x.size : Nat) : Int) := by split <;> omega
    first | rw [e1] | rw [e2]
    refine ⟨by omega, by omega, by omega, ?_⟩
    have ep : (x.extract (((64 * i : Nat) : Int)).toNat (((min (64 * i + 64) x.size : Nat) : Int)).toNat) = pieceOf x i := by
      unfold pieceOf; rw [Int.toNat_natCast, Int.toNat_natCast]
    rw [ep]
    refine hY i [I ((64 * i : Nat) : Int), .string (pieceOf x i)] (i + 1) Rs' [] h3 _ ⟨hi', rfl, rfl⟩ hj' (by rw [List.append_nil]; exact o') (fun Rs'' h'' hj'' o'' => ?_) fun Rs'' h'' hE o'' => ?_
    · rw [List.append_nil] at o''
      rw [notT, ifV_false, pBin_add, w64 (by omega) (by omega)]
      refine hZ (_, ()) h'' hi' ⟨?_, Rs'', hj'', o''⟩
      show I _ = I _
      congr 1
    · rw [List.append_nil] at o''
      rw [notF, ifV_true]
      exact hK Rs'' h'' (.inr hE) o''
  · have hi' : i = nP x := by unfold nP at hi ⊢; omega
    exact hK Rs' h3 (.inl ⟨i, hi', hj'⟩) o'

/-! ### What a save does -/

theorem wr_take {i : Nat} (hi : i < nP x) : wrA x (List.range (nP x)) = wrA x (List.range i) ++ aWrite nTemp ((64 * i : Nat) : Int) (pieceOf x i) :: wrA x ((List.range (nP x)).drop (i + 1)) := by
  unfold wrA
  have h1 : List.range (nP x) = List.range i ++ i :: (List.range (nP x)).drop (i + 1) := by
    have hl : (List.range (nP x)).length = nP x := List.length_range
    have h2 : (List.range (nP x)).take i = List.range i := by
      apply List.ext_getElem?
      intro j
      rw [List.getElem?_take]
      by_cases h : j < i
      · rw [if_pos h, List.getElem?_range (by omega), List.getElem?_range h]
      · rw [if_neg h, List.getElem?_eq_none (by simp; omega)]
    have h3 : (List.range (nP x)).drop i = i :: (List.range (nP x)).drop (i + 1) := by
      rw [List.drop_eq_getElem_cons (by omega)]; simp
    rw [← h2, ← h3, List.take_append_drop]
  conv => lhs; rw [h1]
  rw [List.map_append]; rfl

theorem runD_snoc {l : List ActD} {y : ActD} {s s' : Dk} (h : runD l s = (0, s')) : runD (l ++ [y]) s = y.go s' := by
  rw [runD_append, h, if_neg (by simp)]
  show (if (y.go s').1 ≠ 0 then y.go s' else ((0 : Int), (y.go s').2)) = y.go s'
  split
  · rfl
  · rename_i hn
    have : (y.go s').1 = 0 := Classical.byContradiction hn
    rw [← this]

theorem runD_stop {l m : List ActD} {s s' : Dk} {e : Int} (h : runD l s = (e, s')) (he : e ≠ 0) : runD (l ++ m) s = (e, s') := by
  rw [runD_append, h, if_pos he]

theorem runD_go {l m : List ActD} {s s' : Dk} (h : runD l s = (0, s')) : runD (l ++ m) s = runD m s' := by
  rw [runD_append, h, if_neg (by simp)]

theorem wr_inv {l : List Nat} (hI : s.Inv U N) : (runD (wrA x l) s).2.Inv U (N + l.length) := by
  have := runD_inv (l := wrA x l) (fun y hy s N h => by
    obtain ⟨i, _, rfl⟩ := List.mem_map.1 hy
    exact write_inv h (Nat.le_trans piece_size (by decide))) hI
  rwa [show (wrA x l).length = l.length by unfold wrA; simp] at this

theorem Ats.pull {r : Res} (A : Ats h0 h ds (r :: L)) : ∃ Rs, AtsL ds L Rs ∧ Own h0 h (r :: Rs) := by
  obtain ⟨xs, B, e, o, hD⟩ := A
  refine ⟨xs.map pk ++ roR B :: L, ⟨xs, B, e, rfl, hD⟩, ?_⟩
  have e1 : xs.map pk ++ roR B :: (r :: L) = [] ++ ((xs.map pk ++ [roR B]) ++ (r :: L)) := by simp
  rw [e1] at o
  have o1 := Own.mid (X := []) o
  have e2 : [] ++ (r :: ((xs.map pk ++ [roR B]) ++ L)) = r :: (xs.map pk ++ roR B :: L) := by simp
  rwa [e2] at o1

theorem Ats.swap {r1 r2 : Res} (A : Ats h0 h ds (r1 :: r2 :: L)) : Ats h0 h ds (r2 :: r1 :: L) := by
  obtain ⟨M, o, bk⟩ := A.side
  exact bk h _ (show Own h0 h (r2 :: r1 :: (L ++ M)) from Own.swap o)

theorem set_set' {α : Type} {l : List α} {k : Nat} {a b : α} : (l.set k a).set k b = l.set k b := List.set_set ..

/-- The pieces are written, one behind the other. -/
theorem writes_ok {s2 d2 i1 i2 : Nat} {T1 T2 : TypeId} (A : Ats h0 h ds L) (hk : ds[k]? = some (d, s)) (hI : s.Inv U N) (hN : N + nP x ≤ 1048576) (hx : x.size ≤ 1048576) (hi1 : L[i1]? = some (cellR s2 [.string x] T1)) (hi2 : L[i2]? = some (cellR d2 [ptr d] T2))
    (hK : ∀ h', Ats h0 h' (ds.set k (d, (runD (wrA x (List.range (nP x))) s).2)) L → K (I (runD (wrA x (List.range (nP x))) s).1) h') : callV Tryz.prog (.func (.func F_store_Save_2) #[] #[ptr s2, ptr d2]) [].toArray h K := by
  refine callV_of (l := [ptr s2, ptr d2]) rfl (lk_store_Save_2 _ _ ?_)
  unfold sh_store_Save_2
  refine (Own.start h).box fun t2 h1 o1 => ?_
  have A1 : Ats h0 h1 ds (cellR t2 [I 0] T_api_Errno :: L) := A.add o1
  refine A1.own.load (i1 + 1) hi1 rfl ?_
  refine callS_of (lk_store_pieces _ ?_)
  unfold sh_store_pieces
  refine (Own.start h1).box fun b h2 o2 => ?_
  have A2 : Ats h0 h2 ds (cellR b [.string x] T_string :: cellR t2 [I 0] T_api_Errno :: L) := A1.add o2
  obtain ⟨Rs, HL, o3⟩ := A2.swap.pull
  have hkl : k < ds.length := (List.getElem?_eq_some_iff.1 hk).1
  have same : ds.set k (d, s) = ds := setSame hk
  refine o3.range (pieces_iter (b := b) hx) (by rintro i r i' ⟨_, rfl, _⟩; rfl)
    (fun i Rs => ∃ s' Rs0, Rs = cellR t2 [I 0] T_api_Errno :: Rs0 ∧ i ≤ nP x ∧ runD (wrA x (List.range i)) s = (0, s') ∧ AtsL (ds.set k (d, s')) (cellR b [.string x] T_string :: L) Rs0)
    (fun Rs => ∃ i s' e Rs0, Rs = cellR t2 [I e] T_api_Errno :: Rs0 ∧ e ≠ 0 ∧ i < nP x ∧ runD (wrA x (List.range (i + 1))) s = (e, s') ∧ AtsL (ds.set k (d, s')) (cellR b [.string x] T_string :: L) Rs0) (fun _ _ => False)
    ⟨s, Rs, rfl, Nat.zero_le _, rfl, by rw [same]; exact HL⟩ ?_ ?_ ?_ ?_ ?_
  · rintro i Rs' h' ⟨s', Rs0, rfl, _, _, H⟩ o'
    have A' : Ats h0 h' _ ((cellR b [.string x] T_string :: L) ++ ([] ++ [cellR t2 [I 0] T_api_Errno])) := H.at (X := [cellR t2 [I 0] T_api_Errno]) (P := []) (by simpa using o')
    exact hcell_of (A'.own.get 0 rfl) rfl
  · rintro M i r i' Rs' Pr h' R ⟨hi, rfl, rfl⟩ ⟨s', Rs0, rfl, _, hr, H⟩ o' hT hE _
    show sh_store_Save_2_B1 Tryz.prog h2 (ptr d2) (ptr t2) M (I ((64 * i : Nat) : Int)) (.string (pieceOf x i)) h' R
    unfold sh_store_Save_2_B1
    refine o'.begin 0 rfl fun h4 o4 => ?_
    have o4 : Own h0 h4 ([loopR (h2.size + 1) (lo M .busy none), markR h2.size, cellR t2 [I 0] T_api_Errno] ++ (Rs0 ++ Pr)) := o4
    have A4 := H.at o4
    refine A4.own.load (i2 + 1) (by
      show (L ++ _)[i2]? = _
      rw [List.getElem?_append_left (List.getElem?_eq_some_iff.1 hi2).1]; exact hi2) rfl ?_
    have hI' : s'.Inv U (N + i) := by
      have := wr_inv (x := x) (l := List.range i) hI
      rw [hr, List.length_range] at this; exact this
    have hps := piece_size (x := x) (i := i)
    refine writeA (k := k) (s := s') (a := nTemp) (w := pieceOf x i) A4 (by rw [List.getElem?_set_self hkl]) hI' (by omega) (by unfold nP at hi; omega) (by omega) fun h5 A5 => ?_
    rw [set_set'] at A5
    have hstep : runD (wrA x (List.range (i + 1))) s = mWrite s' nTemp ((64 * i : Nat) : Int) (pieceOf x i) := by
      rw [List.range_succ]
      unfold wrA
      rw [List.map_append]
      exact runD_snoc hr
    rw [pBin_neq, ifV_bne]
    refine ⟨fun hne => ?_, fun he => ?_⟩
    · obtain ⟨Rs1, H5, o5⟩ := A5.li
      refine o5.st1 2 (cs' := [I (mWrite s' nTemp ((64 * i : Nat) : Int) (pieceOf x i)).1]) rfl rfl rfl rfl rfl fun h6 o6 => ?_
      exact hE (cellR t2 [I (mWrite s' nTemp ((64 * i : Nat) : Int) (pieceOf x i)).1] T_api_Errno :: Rs1) h6 ⟨i, _, _, Rs1, rfl, hne, hi, hstep, H5⟩ o6
    · obtain ⟨Rs1, H5, o5⟩ := A5.li
      refine hT (cellR t2 [I 0] T_api_Errno :: Rs1) h5 ⟨_, Rs1, rfl, hi, ?_, H5⟩ o5
      rw [hstep]
      exact Prod.ext he rfl
  · rintro i h' Rs' rfl ⟨s', Rs0, rfl, _, hr, H⟩ o'
    refine o'.st1 1 (cs' := [I 0]) rfl rfl rfl rfl rfl fun h6 o6 => ?_
    refine o6.take1 0 rfl fun h7 o7 => ?_
    refine o7.load 1 rfl rfl ?_
    have A7 := H.at (X := [nilR, cellR t2 [I 0] T_api_Errno]) (P := []) (by simpa using o7)
    have := hK h7
    rw [hr] at this
    refine this ?_
    have A8 : Ats h0 h7 (ds.set k (d, s')) (cellR b [.string x] T_string :: (L ++ ([] ++ [nilR, cellR t2 [I 0] T_api_Errno]))) := A7
    obtain ⟨M, o8, bk⟩ := A8.drop.side
    exact bk h7 L (by
      have e : (L ++ ([] ++ [nilR, cellR t2 [I 0] T_api_Errno])) ++ M = L ++ ([nilR, cellR t2 [I 0] T_api_Errno] ++ M) := by simp
      rw [e] at o8
      have o9 := o8.comm
      have o10 : Own h0 h7 (M ++ L) := o9.tail.tail
      exact o10.comm)
  · rintro h' Rs' ⟨i, s', e, Rs0, rfl, he, hi, hr, H⟩ o'
    refine o'.take1 0 rfl fun h7 o7 => ?_
    refine o7.load 1 rfl rfl ?_
    have A7 := H.at (X := [nilR, cellR t2 [I e] T_api_Errno]) (P := []) (by simpa using o7)
    have hall : runD (wrA x (List.range (nP x))) s = (e, s') := by
      have : wrA x (List.range (nP x)) = wrA x (List.range (i + 1)) ++ wrA x ((List.range (nP x)).drop (i + 1)) := by
        rw [wr_take hi, List.range_succ]
        unfold wrA
        rw [List.map_append, List.append_assoc]
        rfl
      rw [this]
      exact runD_stop hr he
    have := hK h7
    rw [hall] at this
    refine this ?_
    have A8 : Ats h0 h7 (ds.set k (d, s')) (cellR b [.string x] T_string :: (L ++ ([] ++ [nilR, cellR t2 [I e] T_api_Errno]))) := A7
    obtain ⟨M, o8, bk⟩ := A8.drop.side
    exact bk h7 L (by
      have e : (L ++ ([] ++ [nilR, cellR t2 [I e] T_api_Errno])) ++ M = L ++ ([nilR, cellR t2 [I e] T_api_Errno] ++ M) := by simp
      rw [e] at o8
      have o9 := o8.comm
      have o10 : Own h0 h7 (M ++ L) := o9.tail.tail
      exact o10.comm)
  · rintro id h' Rs' hf
    exact hf.elim

end
end Go.Proofs.YtleaknaadodjeaaGreat

/-! Save, Load, Steps. -/
namespace Go.Proofs.YtleaknaadodjeaaGreat
open Go Go.Mh
set_option linter.unusedVariables false

section
variable {h0 h : Heap} {L X P : List Res} {K : Value → Heap → Prop} {k d : Nat} {s : Dk} {U : List Nm} {N : Nat} {a b : Nm} {ds : List (Nat × Dk)} {x : ByteArray}

theorem of_callS {P : Program} {f : Nat} {l : List Value} {h : Heap} {K : Value → Heap → Prop} (hc : callS P f l h K) : CallsH P f l.toArray h K := by
  have : CallsH P f (#[] ++ l.toArray ++ #[]) h K := hc
  simpa using this

def preA (x : ByteArray) : Nat → List ActD
  | 0 => []
  | 1 => [aMake nTemp]
  | 2 => [aMake nTemp] ++ wrA x (List.range (nP x))
  | 3 => [aMake nTemp] ++ wrA x (List.range (nP x)) ++ [aSync nTemp]
  | 4 => [aMake nTemp] ++ wrA x (List.range (nP x)) ++ [aSync nTemp] ++ [aRename nTemp nImage]
  | _ => savA x

theorem pre_len : ∀ i, (preA x i).length ≤ nP x + 4
  | 0 => by simp [preA]
  | 1 => by simp [preA]
  | 2 => by simp [preA, wrA] <;> omega
  | 3 => by simp [preA, wrA] <;> omega
  | 4 => by simp [preA, wrA] <;> omega
  | n + 5 => by show (savA x).length ≤ _; rw [savA_len]; exact Nat.le_refl _

theorem pre_inv (hI : s.Inv U N) (ht : nTemp ∈ U) (hi : nImage ∈ U) (i : Nat) : (runD (preA x i) s).2.Inv U (N + (nP x + 4)) := by
  refine (runD_inv (fun y hy s N h => ?_) hI).mono (Nat.add_le_add_left (pre_len i) N)
  have key : y = aMake nTemp ∨ (∃ i, y = aWrite nTemp ((64 * i : Nat) : Int) (pieceOf x i)) ∨ y = aSync nTemp ∨ y = aRename nTemp nImage ∨ y = aSyncDir := by
    have hw : ∀ l, y ∈ wrA x l → ∃ i, y = aWrite nTemp ((64 * i : Nat) : Int) (pieceOf x i) := fun l h => by
      obtain ⟨i, _, rfl⟩ := List.mem_map.1 h
      exact ⟨i, rfl⟩
    have hs : y ∈ savA x := by
      match i, hy with
      | 0, hy => cases hy
      | 1, hy => simp [preA] at hy; simp [savA, hy]
      | 2, hy => simp [preA] at hy; rcases hy with h | h <;> simp [savA, h]
      | 3, hy => simp [preA] at hy; rcases hy with h | h | h <;> simp [savA, h]
      | 4, hy => simp [preA] at hy; rcases hy with h | h | h | h <;> simp [savA, h]
      | n + 5, hy => exact hy
    simp only [savA, List.mem_append, List.mem_singleton] at hs
    rcases hs with (((h | h) | h) | h) | h
    · exact .inl h
    · exact .inr (.inl (hw _ h))
    · exact .inr (.inr (.inl h))
    · exact .inr (.inr (.inr (.inl h)))
    · exact .inr (.inr (.inr (.inr h)))
  rcases key with rfl | ⟨i, rfl⟩ | rfl | rfl | rfl
  · exact make_inv h ht
  · exact write_inv h (Nat.le_trans piece_size (by decide))
  · exact sync_inv h
  · exact rename_inv h hi
  · exact syncDir_inv h

def mkFn (d : Nat) : Value := .func (.func F_disk_Disk_Make) #[ptr d] #[]
def syFn (d : Nat) : Value := .func (.func F_disk_Disk_Sync) #[ptr d] #[]
def onFn (b : Nat) : Value := .func (.func F_store_Save_1_1) #[] #[ptr b]
def wrFn (s3 d2 : Nat) : Value := .func (.func F_store_Save_2) #[] #[ptr s3, ptr d2]
def reFn (d2 : Nat) : Value := .func (.func F_store_Save_3) #[] #[ptr d2]
def sdFn (d : Nat) : Value := .func (.func F_disk_Disk_SyncDir) #[ptr d] #[]

def stpL (d d2 s3 b1 b2 : Nat) (w : Value) (x : ByteArray) (L : List Res) : List Res :=
  slR encV 1 T_func_api_Errno w [onFn b1, wrFn s3 d2, onFn b2, reFn d2, sdFn d] :: cellR b2 [syFn d] T_func_string_api_Errno :: cellR b1 [mkFn d] T_func_string_api_Errno :: cellR s3 [.string x] T_string :: cellR d2 [ptr d] T_p_disk_Disk :: L

/-- The steps, one by one. -/
theorem steps_ok {d2 s3 b1 b2 : Nat} {w : Value} (A : Ats h0 h ds (stpL d d2 s3 b1 b2 w x L)) (hk : ds[k]? = some (d, s)) (hI : s.Inv U N) (ht : nTemp ∈ U) (hi : nImage ∈ U) (hN : N + (nP x + 4) + nP x ≤ 1048576) (hx : x.size ≤ 1048576)
    (hK : ∀ h', Ats h0 h' (ds.set k (d, (runD (savA x) s).2)) L → K (I (runD (savA x) s).1) h') : callS Tryz.prog F_store_do [w] h K := by
  refine callS_of (lk_store_do _ ?_)
  unfold sh_store_do
  refine (A.own.vw 0 rfl).len ?_
  have hkl : k < ds.length := (List.getElem?_eq_some_iff.1 hk).1
  have same : ds.set k (d, s) = ds := setSame hk
  have drop5 : ∀ {h' ds'}, Ats h0 h' ds' (stpL d d2 s3 b1 b2 w x L) → Ats h0 h' ds' L := fun A => A.drop.drop.drop.drop.drop
  have stop : ∀ i m (e : Int) s' h', savA x = preA x i ++ m → runD (preA x i) s = (e, s') → e ≠ 0 → Ats h0 h' (ds.set k (d, s')) (stpL d d2 s3 b1 b2 w x L) → K (I e) h' := by
    intro i m e s' h' h1 h2 h3 A'
    have hr : runD (savA x) s = (e, s') := by rw [h1]; exact runD_stop h2 h3
    have := hK h'
    rw [hr] at this
    exact this (drop5 A')
  refine LoopH_count 5 (fun i y h' => y.1 = I i ∧ ∃ s', runD (preA x i) s = (0, s') ∧ Ats h0 h' (ds.set k (d, s')) (stpL d d2 s3 b1 b2 w x L)) ⟨rfl, s, rfl, by rw [same]; exact A⟩ ?_
  rintro i ⟨y, ⟨⟩⟩ h1 Z hi5 ⟨hy, s', hr, A1⟩ hZ
  dsimp only at hy hZ ⊢
  subst hy
  have hI' : s'.Inv U (N + (nP x + 4)) := by
    have := pre_inv (x := x) hI ht hi i
    rw [hr] at this; exact this
  have hk' : (ds.set k (d, s'))[k]? = some (d, s') := List.getElem?_set_self hkl
  -- what is done behind a step
  have nxt : ∀ (m : List ActD) (e : Int) (s2 : Dk) (h' : Heap), i < 5 → savA x = preA x (i + 1) ++ m → runD (preA x (i + 1)) s = (e, s2) → Ats h0 h' (ds.set k (d, s2)) (stpL d d2 s3 b1 b2 w x L) →
      pBin .neq (I e) (I 0) fun t15 => ifV t15 (K (I e) h') (pBin .add (I i) (I 1) fun t17 => Z (t17, ()) h') := by
    intro m e s2 h' h5 h1 h2 A'
    rw [pBin_neq, ifV_bne]
    refine ⟨fun hne => stop (i + 1) m e s2 h' h1 h2 hne A', fun he => ?_⟩
    subst he
    rw [pBin_add, wI i (by omega)]
    exact hZ (_, ()) h' h5 ⟨rfl, s2, h2, A'⟩
  have snoc : ∀ (y : ActD), preA x (i + 1) = preA x i ++ [y] → runD (preA x (i + 1)) s = y.go s' := fun y h => by rw [h]; exact runD_snoc hr
  unfold sh_store_do_L1
  rw [pBin_lss, ifV_dec]
  have hv := A1.own.vw (enc := encV) (n := 1) 0 rfl
  have cs : i = 0 ∨ i = 1 ∨ i = 2 ∨ i = 3 ∨ i = 4 ∨ i = 5 := by omega
  rcases cs with rfl | rfl | rfl | rfl | rfl | rfl
  · refine ⟨fun _ => ?_, fun h => absurd (by simp) h⟩
    refine hv.at1 (e := fun v => v) (i := 0) (fun _ => rfl) (by simp) ?_
    refine callV_of (l := [ptr b1]) rfl (lk_store_Save_1_1 _ ?_)
    unfold sh_store_Save_1_1
    refine A1.own.load 2 rfl rfl ?_
    refine callV_of (l := [ptr d, .string nTemp]) rfl (of_callS ?_)
    refine makeA (k := k) (a := nTemp) A1 hk' hI' (by omega) fun h2 A2 => ?_
    rw [set_set'] at A2
    exact nxt (wrA x (List.range (nP x)) ++ [aSync nTemp] ++ [aRename nTemp nImage] ++ [aSyncDir]) _ _ h2 (by decide) (by simp [savA, preA]) (snoc (aMake nTemp) rfl) A2
  · refine ⟨fun _ => ?_, fun h => absurd (by simp) h⟩
    refine hv.at1 (e := fun v => v) (i := 1) (fun _ => rfl) (by simp) ?_
    refine writes_ok (k := k) (s := s') (i1 := 3) (i2 := 4) A1 hk' hI' (by omega) hx rfl rfl fun h2 A2 => ?_
    rw [set_set'] at A2
    exact nxt ([aSync nTemp] ++ [aRename nTemp nImage] ++ [aSyncDir]) _ _ h2 (by decide) (by simp [savA, preA]) (runD_go hr) A2
  · refine ⟨fun _ => ?_, fun h => absurd (by simp) h⟩
    refine hv.at1 (e := fun v => v) (i := 2) (fun _ => rfl) (by simp) ?_
    refine callV_of (l := [ptr b2]) rfl (lk_store_Save_1_1 _ ?_)
    unfold sh_store_Save_1_1
    refine A1.own.load 1 rfl rfl ?_
    refine callV_of (l := [ptr d, .string nTemp]) rfl (of_callS ?_)
    refine syncA (k := k) (a := nTemp) A1 hk' hI' (by omega) fun h2 A2 => ?_
    rw [set_set'] at A2
    exact nxt ([aRename nTemp nImage] ++ [aSyncDir]) _ _ h2 (by decide) (by simp [savA, preA]) (snoc (aSync nTemp) rfl) A2
  · refine ⟨fun _ => ?_, fun h => absurd (by simp) h⟩
    refine hv.at1 (e := fun v => v) (i := 3) (fun _ => rfl) (by simp) ?_
    refine callV_of (l := [ptr d2]) rfl (lk_store_Save_3 _ ?_)
    unfold sh_store_Save_3
    refine A1.own.load 4 rfl rfl ?_
    refine renameA (k := k) (a := nTemp) (b := nImage) A1 hk' hI' (by omega) fun h2 A2 => ?_
    rw [set_set'] at A2
    exact nxt [aSyncDir] _ _ h2 (by decide) (by simp [savA, preA]) (snoc (aRename nTemp nImage) rfl) A2
  · refine ⟨fun _ => ?_, fun h => absurd (by simp) h⟩
    refine hv.at1 (e := fun v => v) (i := 4) (fun _ => rfl) (by simp) ?_
    refine callV_of (l := [ptr d]) rfl (of_callS ?_)
    refine syncDirA (k := k) A1 hk' hI' fun h2 A2 => ?_
    rw [set_set'] at A2
    exact nxt [] _ _ h2 (by decide) (List.append_nil _).symm (snoc aSyncDir rfl) A2
  · refine ⟨fun h => absurd h (by simp), fun _ => ?_⟩
    have := hK h1
    rw [show runD (savA x) s = (0, s') from hr] at this
    exact this (drop5 A1)

theorem saveA (A : Ats h0 h ds L) (hk : ds[k]? = some (d, s)) (hI : s.Inv U N) (ht : nTemp ∈ U) (hi : nImage ∈ U) (hN : x.size ≤ 1048576 → N + (nP x + 4) + nP x ≤ 1048576) (hK : ∀ h', Ats h0 h' (ds.set k (d, (mSave s x).2)) L → K (I (mSave s x).1) h') : callS Tryz.prog F_store_Save [ptr d, .string x] h K := by
  refine callS_of (lk_store_Save _ _ ?_)
  unfold sh_store_Save
  unfold mSave at hK
  refine (Own.start h).box fun d2 h1 o1 => ?_
  have A1 : Ats h0 h1 ds (cellR d2 [ptr d] T_p_disk_Disk :: L) := A.add o1
  refine (Own.start h1).box fun s3 h2 o2 => ?_
  have A2 : Ats h0 h2 ds (cellR s3 [.string x] T_string :: cellR d2 [ptr d] T_p_disk_Disk :: L) := A1.add o2
  refine A2.own.load 1 rfl rfl ?_
  rw [pEq_ptr_nil, Option.isNone_some, ifV_false]
  refine A2.own.load 0 rfl rfl ?_
  rw [pLenS_str, pBin_gtr, ifV_dec]
  refine ⟨fun hgt => ?_, fun hle => ?_⟩
  · rw [if_pos (by omega)] at hK
    refine hK h2 ?_
    rw [setSame hk]
    exact A2.drop.drop
  · have hx : x.size ≤ 1048576 := by omega
    rw [if_neg (by omega)] at hK
    refine A2.own.load 1 rfl rfl (A2.own.load 1 rfl rfl (A2.own.load 1 rfl rfl ?_))
    refine callV_of (l := [mkFn d]) rfl (lk_store_Save_1 _ ?_)
    unfold sh_store_Save_1
    refine (Own.start h2).box fun b1 h3 o3 => ?_
    have A3 : Ats h0 h3 ds (cellR b1 [mkFn d] T_func_string_api_Errno :: cellR s3 [.string x] T_string :: cellR d2 [ptr d] T_p_disk_Disk :: L) := A2.add o3
    refine ⟨A3.own.load 2 rfl rfl rfl, A3.own.load 2 rfl rfl rfl, ?_⟩
    refine callV_of (l := [syFn d]) rfl (lk_store_Save_1 _ ?_)
    unfold sh_store_Save_1
    refine (Own.start h3).box fun b2 h4 o4 => ?_
    have A4 : Ats h0 h4 ds (cellR b2 [syFn d] T_func_string_api_Errno :: cellR b1 [mkFn d] T_func_string_api_Errno :: cellR s3 [.string x] T_string :: cellR d2 [ptr d] T_p_disk_Disk :: L) := A3.add o4
    refine ⟨A4.own.load 3 rfl rfl rfl, ?_⟩
    refine (Own.start h4).build (enc := encV) (n := 1) [onFn b1, wrFn s3 d2, onFn b2, reFn d2, sdFn d] rfl (sizesOk_of rfl) rfl fun w h5 o5 => ?_
    exact steps_ok (b1 := b1) (b2 := b2) (s3 := s3) (d2 := d2) (A4.add o5) hk hI ht hi (hN hx) hx hK

theorem loadA (A : Ats h0 h ds L) (hk : ds[k]? = some (d, s)) (hI : s.Inv U N) (hN : N ≤ 1048576) (hK : ∀ h', Ats h0 h' ds L → K (.tuple #[.string (mRead s nImage).1, I (mRead s nImage).2]) h') : callS Tryz.prog F_store_Load [ptr d] h K := by
  refine callS_of (lk_store_Load _ ?_)
  unfold sh_store_Load
  refine readA (a := nImage) A hk hI hN fun h1 A1 => ?_
  first | exact hK h1 A1 | (rw [pExt0, pExt1]; exact hK h1 A1)

def stepsN (x : ByteArray) : Nat := if x.size > 1048576 then 0 else nP x + 4

theorem steps0_ok (hx : x.size < 2 ^ 62) (hK : K (I ((stepsN x : Nat) : Int)) h) : callS Tryz.prog F_store_Steps [.string x] h K := by
  refine callS_of (lk_store_Steps _ ?_)
  unfold sh_store_Steps
  unfold stepsN at hK
  rw [pLenS_str, pBin_gtr, ifV_dec]
  refine ⟨fun h1 => ?_, fun h1 => ?_⟩
  · rw [if_pos (by omega)] at hK
    exact hK
  · rw [if_neg (by omega)] at hK
    rw [pLenS_str, pBin_add, w64 (by omega) (by omega), pBin_sub, w64 (by omega) (by omega), pBin_quo]
    refine ⟨by decide, ?_⟩
    have e : (((x.size : Int) + 64 - 1)).tdiv 64 = ((nP x : Nat) : Int) := by
      rw [Int.tdiv_eq_ediv_of_nonneg (by omega)]; unfold nP; omega
    have hn : nP x ≤ 1048576 := by unfold nP; omega
    rw [e, w64 (by omega) (by omega), pBin_add, w64 (by omega) (by omega)]
    rw [show (4 : Int) + ((nP x : Nat) : Int) = ((nP x + 4 : Nat) : Int) by omega]
    exact hK

theorem loadsA {e : Int} {t : ByteArray} (A : Ats h0 h ds L) (hk : ds[k]? = some (d, s)) (hI : s.Inv U N) (hN : N ≤ 1048576) (hK : ∀ h', Ats h0 h' ds L → K (.bool (decide (mRead s nImage = (t, e)))) h') : callS Tryz.prog F_milestonelaw30_loads [ptr d, .string t, I e] h K := by
  refine callS_of (lk_milestonelaw30_loads _ _ _ ?_)
  unfold sh_milestonelaw30_loads
  refine loadA A hk hI hN fun h1 A1 => ?_
  rw [pExt0, pExt1]
  have hK := hK h1 A1
  generalize mRead s nImage = r at hK
  obtain ⟨r1, r2⟩ := r
  rw [pBin_eqlS, ifV_dec]
  refine ⟨fun h => ?_, fun h => ?_⟩
  · rw [pBin_eql]
    have : decide ((r1, r2) = (t, e)) = (r2 == e) := by
      have h : r1 = t := h
      subst h
      rw [Bool.eq_iff_iff]; simp
    rw [this] at hK
    exact hK
  · have : decide ((r1, r2) = (t, e)) = false := by
      rw [decide_eq_false]
      intro h'
      injection h' with h1 h2
      exact h h1
    rw [this] at hK
    exact hK

end
end Go.Proofs.YtleaknaadodjeaaGreat

/-! Texts of acts; the chapter's examples. -/
namespace Go.Proofs.YtleaknaadodjeaaGreat
open Go Go.Mh
set_option linter.unusedVariables false

section
variable {h0 h : Heap} {L X P : List Res} {K : Value → Heap → Prop} {k d : Nat} {s : Dk} {U : List Nm} {N : Nat} {a b : Nm} {ds : List (Nat × Dk)} {x : ByteArray}

structure SV where
  w : Int
  bv : Value
  l : Int
  n : Int
  fv : Value
def encSt (x : SV) : List Value := [.int .u8 x.w, x.bv, .int .u16 x.l, .int .u8 x.n, x.fv]

theorem u8_byte (z : Int) : ∃ c : UInt8, IntKind.u8.wrap z = (c.toNat : Int) := by
  have e : IntKind.u8.wrap z = z % 256 := by
    unfold IntKind.wrap
    rfl
  refine ⟨UInt8.ofNat (z % 256).toNat, ?_⟩
  rw [e, UInt8.toNat_ofNat_of_lt' (by show (z % 256).toNat < 256; omega)]
  omega

theorem at1U {v : Value} {fs : List Int} {i : Nat} {k : IntKind} {K : Value → Prop} (H : VwE h v fs) (hi : i < fs.length) (hK : K (.int .u8 fs[i])) : pIdx 1 v (.int k i) fun t => pLoad h t K := by
  rcases H with H | ⟨rfl, _⟩
  · exact H.at1 (e := fun z => Value.int .u8 z) (fun _ => rfl) hi hK
  · simp at hi

/-- The text of an act: of its bytes, again and again. -/
theorem text_ok {v : SV} {bs : List Int} (H : VwE h v.bv bs) (hl : 0 ≤ v.l ∧ v.l ≤ 65535) (hbl : bs.length < 2 ^ 63) (hK : ∀ t h', t.size ≤ 800 → Ext h h' → K (.string t) h') : callS Tryz.prog F_milestonelaw30_Act_text [.agg (encSt v).toArray] h K := by
  refine callS_of (lk_milestonelaw30_Act_text _ ?_)
  unfold sh_milestonelaw30_Act_text
  refine (Own.start h).box fun a1 h1 o1 => ?_
  have o1 : Own h h1 [cellR a1 (encSt v) T_milestonelaw30_Act] := o1
  obtain ⟨m, hm⟩ : ∃ m : Nat, v.l.tmod 800 = m := ⟨(v.l.tmod 800).toNat, by rw [Int.tmod_eq_emod_of_nonneg hl.1]; omega⟩
  have hm8 : m < 800 := by rw [Int.tmod_eq_emod_of_nonneg hl.1] at hm; omega
  refine LoopH_count 800 (fun i y h' => y.2.1 = I i ∧ ∃ out : List UInt8, out.length = i ∧ Own h h' [slR encB8 1 T_uint8 y.1 out, cellR a1 (encSt v) T_milestonelaw30_Act]) ⟨rfl, [], rfl, o1.nilS⟩ ?_
  rintro i ⟨ov, y, ⟨⟩⟩ h2 Z hi ⟨hy, out, hol, o2⟩ hZ
  dsimp only at hy o2 hZ ⊢
  subst hy
  have k2 : sh_milestonelaw30_Act_text_k2 Tryz.prog ov K h2 := by
    unfold sh_milestonelaw30_Act_text_k2
    refine (o2.vw 0 rfl).str ?_
    refine hK _ h2 ?_ o2.ext
    show out.toArray.size ≤ 800
    rw [List.size_toArray]; omega
  have Hb := VwE.moreE H o2.ext
  unfold sh_milestonelaw30_Act_text_L1
  rw [pField_ptr]
  refine o2.load 1 rfl rfl ?_
  rw [pBin_rem]
  refine ⟨by decide, ?_⟩
  rw [hm, pConv_int, w64 (by omega) (by omega), pBin_lss, ifV_dec]
  refine ⟨fun hlt => ?_, fun hge => k2⟩
  rw [pField_ptr]
  refine o2.load 1 rfl rfl ?_
  refine Hb.len ?_
  rw [pBin_gtr, ifV_dec]
  refine ⟨fun hpos => ?_, fun hz => k2⟩
  have hbp : 0 < bs.length := by omega
  rw [pField_ptr]
  refine o2.load 1 rfl rfl ?_
  rw [pField_ptr]
  refine o2.load 1 rfl rfl ?_
  refine Hb.len ?_
  rw [pBin_rem]
  refine ⟨by omega, ?_⟩
  have er : ((i : Nat) : Int).tmod ((bs.length : Nat) : Int) = ((i % bs.length : Nat) : Int) := by rw [Int.tmod_eq_emod_of_nonneg (by omega)]; rfl
  rw [er]
  refine at1U Hb (Nat.mod_lt _ hbp) ?_
  rw [pField_ptr]
  refine o2.load 1 rfl rfl ?_
  refine Hb.len ?_
  rw [pBin_quo]
  refine ⟨by omega, ?_⟩
  rw [pConv_int, pBin_add]
  obtain ⟨c, hc⟩ := u8_byte (bs[i % bs.length]'(Nat.mod_lt _ hbp) + IntKind.u8.wrap (IntKind.i64.wrap (((i : Nat) : Int).tdiv ((bs.length : Nat) : Int))))
  rw [hc]
  refine o2.app1 (enc := encB8) (n := 1) (T := T_uint8) 0 c rfl rfl (sizesOk_of rfl) (fun _ => rfl) encB8_plain rfl (by decide) (by omega) fun v' h3 o3 => ?_
  rw [pBin_add, wI i (by omega)]
  exact hZ (_, _, ()) h3 (by omega) ⟨rfl, out ++ [c], by rw [List.length_append, hol]; rfl, o3⟩

/-! ### The chapter's examples -/

def wABC : ByteArray := ⟨#[97, 98, 99]⟩
def stU : List Nm := [nTemp, nImage]
theorem stT_in : nTemp ∈ stU := List.mem_cons_self
theorem stI_in : nImage ∈ stU := List.mem_cons_of_mem _ List.mem_cons_self
theorem stU_len : stU.length ≤ 12 := by decide

theorem bstr_list (x : ByteArray) : bstr x.data.toList = x := rfl

/-- What is loaded. -/
theorem loads_some (H : GoodI s (some x.data.toList)) : mRead s nImage = (x, 0) := by rw [read_some H, bstr_list]

theorem zerosB_ok {n : Nat} (hn : n ≤ 2 ^ 40) (hK : ∀ h', Ext h h' → K (.string (bstr (List.replicate n 0))) h') :
    pMakeSlice T_uint8 1 [(.int .u8 0)] (.int .i64 n) (.int .i64 n) h fun t h_7 => pConvBS h_7 t fun t26 => K t26 h_7 := by
  refine (Own.start h).make (enc := encB8) (n := 1) (a := 0) rfl (by omega) (by omega) fun w h' o' => ?_
  exact (o'.vw 0 rfl).str (hK h' o'.ext)

theorem bstr_size {l : List UInt8} : (bstr l).size = l.length := by show l.toArray.size = _; rw [List.size_toArray]

set_option maxRecDepth 100000 in
theorem wk30_1 : (mSave .new wABC).1 = 0 := by decide +kernel
theorem wk30_2 : (mSave (mArm .new 4) wABC).1 = 22 := by decide +kernel
theorem wk30_3 : mRead (mCrash (mSave (mArm .new 4) wABC).2 []) nImage = (⟨#[]⟩, 21) := by decide +kernel

theorem newI : Dk.new.Inv stU 0 := new_inv

theorem works30_ok (hK : ∀ h', Ext h h' → K (.bool true) h') : callS Tryz.prog F_milestonelaw30_works [] h K := by
  refine callS_of (lk_milestonelaw30_works ?_)
  unfold sh_milestonelaw30_works
  refine newA (Ats.none (Own.start h)) fun d h1 A1 => ?_
  refine newA A1 fun c h2 A2 => ?_
  rw [pEq_ptr_nil, Option.isNone_some, ifV_false]
  refine loadsA (k := 1) (t := ⟨#[]⟩) (e := 21) A2 rfl newI (by decide) fun h3 A3 => ?_
  rw [read_none new_good, decide_eq_true rfl, ifV_true]
  refine saveA (k := 1) (x := wABC) A3 rfl newI stT_in stI_in (fun _ => by decide) fun h4 A4 => ?_
  have g4 := save_good (x := wABC) new_good (by decide) (.inl rfl)
  have i4 : (mSave .new wABC).2.Inv stU _ := save_inv newI stT_in stI_in
  rw [wk30_1, pBin_eql]
  show ifV (.bool true) _ _
  rw [ifV_true]
  refine loadsA (k := 1) (s := (mSave .new wABC).2) (t := wABC) (e := 0) A4 rfl i4 (by decide) fun h5 A5 => ?_
  rw [loads_some g4.2.1, decide_eq_true rfl, ifV_true]
  refine steps0_ok (x := wABC) (by decide) ?_
  rw [pBin_eql]
  show ifV (.bool true) _ _
  rw [ifV_true]
  refine zerosB_ok (n := 129) (by decide) fun h6 e6 => ?_
  have A6 := A5.more e6
  refine steps0_ok (by rw [bstr_size, List.length_replicate]; decide) ?_
  have e7 : stepsN (bstr (List.replicate 129 0)) = 7 := by unfold stepsN nP; rw [bstr_size, List.length_replicate]; decide
  rw [e7, pBin_eql]
  show sh_milestonelaw30_works_k1 _ _ _ (.bool true) _
  unfold sh_milestonelaw30_works_k1
  refine armA (k := 0) A6 rfl fun h7 A7 => ?_
  have i7 : (mArm .new 4).Inv stU 1 := arm_inv newI (by decide)
  refine saveA (k := 0) (s := mArm .new 4) (x := wABC) A7 rfl i7 stT_in stI_in (fun _ => by decide) fun h8 A8 => ?_
  rw [wk30_2, pBin_eql]
  have i8 : (mSave (mArm .new 4) wABC).2.Inv stU _ := save_inv i7 stT_in stI_in
  refine crashA (k := 0) (s := (mSave (mArm .new 4) wABC).2) A8 rfl i8 (by decide) stU_len FV.nilV (fun _ h => by cases h) (by decide) rfl fun h9 A9 => ?_
  rw [ifV_true]
  show ifV (.bool true) _ _
  rw [ifV_true]
  have i9 := crash_inv (f := []) i8
  refine loadsA (k := 0) (s := mCrash (mSave (mArm .new 4) wABC).2 []) (t := ⟨#[]⟩) (e := 21) A9 rfl i9 (by decide) fun h10 A10 => ?_
  rw [wk30_3, decide_eq_true rfl]
  exact hK h10 A10.own.ext

end
end Go.Proofs.YtleaknaadodjeaaGreat

/-! StoreOne. -/
namespace Go.Proofs.YtleaknaadodjeaaGreat
open Go Go.Mh
set_option linter.unusedVariables false

section
variable {h0 h : Heap} {L X P : List Res} {K : Value → Heap → Prop} {k d : Nat} {s : Dk} {U : List Nm} {N : Nat} {a b : Nm} {ds : List (Nat × Dk)} {x : ByteArray} {o : Option (List UInt8)}

structure SOk (h : Heap) (v : SV) (bs fs : List Int) : Prop where
  w : 0 ≤ v.w ∧ v.w ≤ 255
  l : 0 ≤ v.l ∧ v.l ≤ 65535
  n : 0 ≤ v.n ∧ v.n ≤ 255
  b : VwE h v.bv bs
  bl : bs.length < 2 ^ 63
  f : VwE h v.fv fs
  fr : ∀ z ∈ fs, 0 ≤ z ∧ z ≤ 255
  fl : fs.length < 2 ^ 63

theorem FV.base {v : Value} {f : List Int} (H : VwE h0 v f) : FV h0 L v f := fun Rs h' o => H.moreE o.ext

/-- A save of a short text: it is done, or cut off. -/
theorem save_two (H : GoodI s o) (hx : x.size ≤ 1048576) : ((mSave s x).1 = 0 ∧ GoodI (mSave s x).2 (some x.data.toList)) ∨ ((mSave s x).1 = 22 ∧ (mSave s x).2.off = true ∧ ∀ f, GoodI (mCrash (mSave s x).2 f) o ∨ GoodI (mCrash (mSave s x).2 f) (some x.data.toList)) := by
  by_cases h : 1 ≤ s.armed ∧ s.armed ≤ nP x + 4
  · exact .inr (save_bad H hx h.1 h.2)
  · have := save_good H hx (by omega)
    exact .inl ⟨this.1, this.2.1⟩

theorem short_np (hx : x.size ≤ 800) : nP x ≤ 13 := by unfold nP; omega

theorem names_one {D : Dir} {n : Nat} (H : s.now = dset (ddel (dset D nTemp n) nTemp) nImage n) (hI : s.Inv stU N) (ho : s.off = false) : mNames s = [nImage] := by
  unfold mNames
  rw [ho, if_neg (by decide)]
  refine SSrt.ext ltS_ok (sortO_srt ltS_ok _) (List.pairwise_singleton _ _) fun y => ?_
  rw [sortO_mem ltS_ok, List.mem_singleton, ← dlook_key]
  constructor
  · intro hy
    have hU : y ∈ stU := dir_nm (U := stU) _ [] (fun a h => by cases h) hI.nm _ (dlook_key.1 hy)
    rcases List.mem_cons.1 hU with rfl | hU
    · rw [H, dlook_set, if_neg (by decide), dlook_del, if_pos rfl] at hy
      cases hy
    · exact List.mem_singleton.1 hU
  · rintro rfl
    rw [H, dlook_set, if_pos rfl]; rfl

theorem pend_one (hn : mNames s = [nImage]) (H : GoodI s o) : mPending s = (0, 0) := by
  unfold mPending
  have h1 : s.cp.length = 0 := by rw [H.cp]; rfl
  have h2 : ((namedL s.now s.th.length).map fun n => (s.getT n).pen.length).sum = 0 := by
    have : ∀ l : List Nat, (∀ n ∈ l, (s.getT n).pen = []) → (l.map fun n => (s.getT n).pen.length).sum = 0 := by
      intro l
      induction l with
      | nil => intro _; rfl
      | cons n l ih =>
        intro hl
        rw [List.map_cons, List.sum_cons, ih fun m hm => hl m (List.mem_cons_of_mem _ hm), hl n List.mem_cons_self]; rfl
    refine this _ fun n hn2 => ?_
    unfold namedL at hn2
    obtain ⟨_, h3⟩ := List.mem_filter.1 hn2
    obtain ⟨⟨y, m⟩, hy, e⟩ := List.any_eq_true.1 h3
    have e : m = n := by simpa using e
    subst e
    have hl := (dlook_mem (keys_dirOf _)).2 hy
    have hy1 : y = nImage := by
      have : y ∈ mNames s := by
        unfold mNames
        rw [H.off, if_neg (by decide)]
        exact (sortO_mem ltS_ok).2 (dlook_key.1 (by rw [show dlook s.now y = some m from hl]; rfl))
      rw [hn] at this
      exact List.mem_singleton.1 this
    subst hy1
    have := H.img
    cases o with
    | none =>
      have h4 : dlook s.now nImage = none := this
      rw [show dlook s.now nImage = some m from hl] at h4; cases h4
    | some b =>
      obtain ⟨m', h4, _, h5, _⟩ := this
      rw [show dlook s.now nImage = some m from hl] at h4
      injection h4 with h4
      subst h4
      exact h5
  rw [h1, h2]

theorem now_crash (H : GoodI s o) {f : List Int} : (mCrash s f).now = s.now := by
  unfold mCrash Dk.now
  dsimp only
  rw [H.cp, List.take_nil, List.append_nil, List.append_nil]

end
end Go.Proofs.YtleaknaadodjeaaGreat

/-! StoreLives. -/
namespace Go.Proofs.YtleaknaadodjeaaGreat
open Go Go.Mh
set_option linter.unusedVariables false

section
variable {h0 h : Heap} {L X P : List Res} {K : Value → Heap → Prop} {k d : Nat} {s : Dk} {U : List Nm} {N : Nat} {a b : Nm} {ds : List (Nat × Dk)} {x : ByteArray} {o : Option (List UInt8)}

abbrev StAct := SV × List Int × List Int

/-- What may be loaded. -/
def okO (may : List ByteArray) (sure : Bool) : Option (List UInt8) → Prop
  | none => sure = false
  | some b => bstr b ∈ may
structure LivI (s : Dk) (may : List ByteArray) (sure : Bool) : Prop where
  cr : ∀ f, ∃ o, GoodI (mCrash s f) o ∧ okO may sure o
  on : s.off = false → ∃ o, GoodI s o ∧ okO may sure o

theorem LivI.of (H : GoodI s o) {may : List ByteArray} {sure : Bool} (h : okO may sure o) : LivI s may sure := ⟨fun f => ⟨o, good_crash H, h⟩, fun _ => ⟨o, H, h⟩⟩
theorem LivI.arm {may : List ByteArray} {sure : Bool} (H : LivI s may sure) {z : Int} : LivI (mArm s z) may sure :=
  ⟨H.cr, fun h => by
    obtain ⟨o, g, ho⟩ := H.on h
    exact ⟨o, arm_good g, ho⟩⟩

theorem okO_more {may : List ByteArray} {sure : Bool} {y : ByteArray} (h : okO may sure o) : okO (may ++ [y]) sure o := by
  cases o with
  | none => exact h
  | some b => exact List.mem_append_left _ h

theorem encS_plain30 (x : ByteArray) : ∀ u ∈ encS x, Mh.plainCell u = true := by intro u hu; simp [encS] at hu; subst hu; rfl

end
end Go.Proofs.YtleaknaadodjeaaGreat

/-! The disk by definition: what lies where, and what is read. -/
namespace Go.Proofs.YtleaknaadodjeaaGreat
open Go Go.Mh
set_option linter.unusedVariables false

/-! ### What lies where -/

structure SlV where
  v : Value
  p : Mh.plainCell v = true
  one : v.cells = #[v]
def encSV (x : SlV) : List Value := [x.v]
theorem encSV_plain (x : SlV) : ∀ u ∈ encSV x, Mh.plainCell u = true := by intro u hu; simp [encSV] at hu; subst hu; exact x.p
def encRW (x : Wr × Bool) : List Value := [I x.1.off, .string x.1.s, .bool x.2]
theorem encRW_plain (x : Wr × Bool) : ∀ u ∈ encRW x, Mh.plainCell u = true := by intro u hu; simp [encRW] at hu; rcases hu with rfl | rfl | rfl <;> rfl
def chW : Ch → Int
  | .mk _ _ => 0
  | .ren _ _ => 1
  | .rem _ => 2
def chN : Ch → Nat
  | .mk _ n => n
  | _ => 0
def encRC (x : Ch × Bool) : List Value := [I (chW x.1), I (chN x.1), .string x.1.A, .string x.1.B, .bool x.2]
theorem encRC_plain (x : Ch × Bool) : ∀ u ∈ encRC x, Mh.plainCell u = true := by intro u hu; simp [encRC] at hu; rcases hu with rfl | rfl | rfl | rfl | rfl <;> rfl

structure RC where
  t : Value
  c : Value
  xs : List (SlV × Th)
def fmR (xs : List (SlV × Th)) : List Res := xs.map fun x => slR encRW 3 T_milestoneref29_Write x.1.v (wrL x.2)
/-- The disk by definition at r; L is what lies beside it. -/
def rL (r : Nat) (q : RC) (s : Dk) (L : List Res) : List Res :=
  cellR r [q.t, q.c, .bool s.off, I s.armed] T_milestoneref29_Disk :: slR encSV 1 T_milestoneref29_Thing q.t (q.xs.map (·.1)) :: slR encRC 5 T_milestoneref29_Change q.c (chL s) :: sepR (fmR q.xs) :: L
def RcOk (q : RC) (s : Dk) : Prop := q.xs.map (·.2) = s.th

section
variable {h0 h : Heap} {L : List Res} {K : Value → Heap → Prop} {r : Nat} {q : RC} {s : Dk} {U : List Nm} {N : Nat} {a b : Nm}

theorem RcOk.len (H : RcOk q s) : q.xs.length = s.th.length := by rw [← H, List.length_map]

theorem fm_vw {xs : List (SlV × Th)} {n : Nat} {x : SlV × Th} (hq : (sepR (fmR xs)).Q h) (hx : xs[n]? = some x) : Vw encRW 3 h x.1.v (wrL x.2) := by
  have := hq.1 (slR encRW 3 T_milestoneref29_Write x.1.v (wrL x.2)) (List.mem_map.2 ⟨x, List.mem_of_getElem? hx, rfl⟩)
  obtain ⟨bl, H⟩ := this
  exact ⟨bl, H.view⟩

theorem RcOk.get (H : RcOk q s) {n : Nat} (hn : n < s.th.length) : ∃ x, q.xs[n]? = some x ∧ x.2 = s.getT n := by
  have hl := H.len
  refine ⟨q.xs[n]'(by omega), List.getElem?_eq_getElem _, ?_⟩
  unfold Dk.getT
  rw [List.getD_eq_getElem?_getD, List.getElem?_eq_getElem hn]
  have : (q.xs.map (·.2))[n]? = s.th[n]? := by rw [H]
  rw [List.getElem?_map, List.getElem?_eq_getElem (by omega), List.getElem?_eq_getElem hn] at this
  exact Option.some.inj this

/-! ### What is read -/

theorem may_ok (hK : K (.bool (okN a)) h) : callS Tryz.prog F_milestoneref29_May [.string a] h K := by
  refine callS_of (lk_milestoneref29_May _ ?_)
  unfold sh_milestoneref29_May
  rw [pLenS_str, pBin_geq, ifV_dec]
  unfold okN at hK
  refine ⟨fun h1 => ?_, fun h1 => ?_⟩
  · rw [pLenS_str, pBin_leq]
    have e : decide ((a.size : Int) ≤ 16) = decide (1 ≤ a.size ∧ a.size ≤ 16) := by
      rw [decide_eq_decide]; omega
    rw [e]; exact hK
  · rw [decide_eq_false (by omega)] at hK
    exact hK

theorem points_ok {v : Value} {l : List (Ch × Bool)} (H : Vw encRC 5 h v l) (hl : l.length < 2 ^ 62) (hK : ∀ h', Ext h h' → K (I (pts (l.map (·.1)).reverse a)) h') : callS Tryz.prog F_milestoneref29_Points [v, .string a] h K := by
  refine callS_of (lk_milestoneref29_Points _ _ ?_)
  unfold sh_milestoneref29_Points
  refine H.len ?_
  rw [pBin_sub, w64 (by omega) (by omega)]
  refine LoopH_count (l.length + 1) (fun i x h' => x.2.1 = I ((l.length : Int) - 1 - i) ∧ i ≤ l.length ∧ (∃ b : Nm, x.1 = .string b ∧ pts (l.map (·.1)).reverse a = pts ((l.map (·.1)).take (l.length - i)).reverse b) ∧ Ext h h') ⟨by simp, Nat.zero_le _, ⟨a, rfl, by rw [Nat.sub_zero, List.take_of_length_le (by simp)]⟩, .refl _ _⟩ ?_
  rintro i ⟨y, x, ⟨⟩⟩ h1 Z hi ⟨hx, hil, ⟨b, hy, hp⟩, e1⟩ hZ
  dsimp only at hx hy hZ ⊢
  subst hx hy
  unfold sh_milestoneref29_Points_L1
  rw [pBin_geq, ifV_dec]
  refine ⟨fun hge => ?_, fun hlt => ?_⟩
  · obtain ⟨k, hk⟩ : ∃ k, l.length - i = k + 1 := ⟨l.length - i - 1, by omega⟩
    have ek : (l.length : Int) - 1 - i = ((k : Nat) : Int) := by omega
    rw [ek]
    have hkl : k < l.length := by omega
    refine (H.more e1).atN (fun _ => rfl) hkl ?_
    rw [hk] at hp
    have et : ((l.map (·.1)).take (k + 1)).reverse = l[k].1 :: ((l.map (·.1)).take k).reverse := by
      rw [List.take_succ_eq_append_getElem (by simpa using hkl), List.reverse_append]
      simp
    rw [et] at hp
    have step : ∀ (b' : Nm) (h' : Heap), Ext h h' → pts (l.map (·.1)).reverse a = pts ((l.map (·.1)).take k).reverse b' → sh_milestoneref29_Points_k3 Tryz.prog (I k) (fun a0 a1 hz => Z (a0, (a1, ())) hz) (.string b') h' := by
      intro b' h' e' hp'
      unfold sh_milestoneref29_Points_k3
      rw [pBin_sub, w64 (by omega) (by omega)]
      refine hZ (_, _, ()) h' (by omega) ⟨?_, by omega, ⟨b', rfl, ?_⟩, e'⟩
      · show I _ = I _
        congr 1; omega
      · rw [show l.length - (i + 1) = k by omega]; exact hp'
    generalize l[k] = x at hp
    refine (Own.start h1).box fun x6 h2 o2 => ?_
    have o2 : Own h1 h2 [cellR x6 [I 0, I 0, .string ⟨#[]⟩, .string ⟨#[]⟩, .bool false] T_milestoneref29_Change] := o2
    refine o2.st (cs' := encRC x) 0 rfl rfl rfl rfl rfl (by exact encRC_plain x) fun h3 o3 => ?_
    have o3 : Own h1 h3 [cellR x6 (encRC x) T_milestoneref29_Change] := o3
    have e3 : Ext h h3 := e1.trans o3.ext fun _ h _ => h
    rw [pField_ptr]
    refine o3.load 0 rfl rfl ?_
    obtain ⟨c, w⟩ := x
    dsimp only at hp
    rw [pBin_eql, ifV_beq]
    cases c with
    | mk n m =>
      rw [pts] at hp
      refine ⟨fun _ => ?_, fun hn => absurd rfl hn⟩
      rw [pField_ptr]
      refine o3.load 0 rfl rfl ?_
      rw [pBin_eqlS, ifV_dec]
      refine ⟨fun he => ?_, fun hne => ?_⟩
      · rw [if_pos (show n = b from he)] at hp
        rw [pField_ptr]
        refine o3.load 0 rfl rfl ?_
        have := hK h3 e3
        rw [hp] at this
        exact this
      · rw [if_neg (show ¬ n = b from hne)] at hp
        unfold sh_milestoneref29_Points_k2
        rw [pField_ptr]
        refine o3.load 0 rfl rfl ?_
        rw [pBin_eql, ifV_beq]
        refine ⟨fun he => absurd he (by simp [chW]), fun _ => ?_⟩
        unfold sh_milestoneref29_Points_k4
        rw [pField_ptr]
        refine o3.load 0 rfl rfl ?_
        rw [pBin_gtr, ifV_dec]
        refine ⟨fun he => absurd he (by simp [chW]), fun _ => ?_⟩
        exact step b h3 e3 hp
    | ren n m =>
      rw [pts] at hp
      refine ⟨fun he => absurd he (by simp [chW]), fun _ => ?_⟩
      unfold sh_milestoneref29_Points_k2
      rw [pField_ptr]
      refine o3.load 0 rfl rfl ?_
      rw [pBin_eql, ifV_beq]
      refine ⟨fun _ => ?_, fun hn => absurd (by simp [chW]) hn⟩
      rw [pField_ptr]
      refine o3.load 0 rfl rfl ?_
      rw [pBin_eqlS, ifV_dec]
      refine ⟨fun he => ?_, fun hne => ?_⟩
      · rw [if_pos (show m = b from he)] at hp
        rw [pField_ptr]
        refine o3.load 0 rfl rfl ?_
        exact step n h3 e3 hp
      · rw [if_neg (show ¬ m = b from hne)] at hp
        unfold sh_milestoneref29_Points_k4
        rw [pField_ptr]
        refine o3.load 0 rfl rfl ?_
        rw [pBin_gtr, ifV_dec]
        refine ⟨fun _ => ?_, fun hn => absurd (by simp [chW]) hn⟩
        rw [pField_ptr]
        refine o3.load 0 rfl rfl ?_
        rw [pBin_eqlS, ifV_dec]
        refine ⟨fun he => ?_, fun hne => ?_⟩
        · rw [if_pos (show n = b from he)] at hp
          have := hK h3 e3
          rw [hp] at this
          exact this
        · rw [if_neg (show ¬ n = b from hne)] at hp
          exact step b h3 e3 hp
    | rem n =>
      rw [pts] at hp
      refine ⟨fun he => absurd he (by simp [chW]), fun _ => ?_⟩
      unfold sh_milestoneref29_Points_k2
      rw [pField_ptr]
      refine o3.load 0 rfl rfl ?_
      rw [pBin_eql, ifV_beq]
      refine ⟨fun he => absurd he (by simp [chW]), fun _ => ?_⟩
      unfold sh_milestoneref29_Points_k4
      rw [pField_ptr]
      refine o3.load 0 rfl rfl ?_
      rw [pBin_gtr, ifV_dec]
      refine ⟨fun _ => ?_, fun hn => absurd (by simp [chW]) hn⟩
      rw [pField_ptr]
      refine o3.load 0 rfl rfl ?_
      rw [pBin_eqlS, ifV_dec]
      refine ⟨fun he => ?_, fun hne => ?_⟩
      · rw [if_pos (show n = b from he)] at hp
        have := hK h3 e3
        rw [hp] at this
        exact this
      · rw [if_neg (show ¬ n = b from hne)] at hp
        exact step b h3 e3 hp
  · have e0 : l.length - i = 0 := by omega
    rw [e0] at hp
    have := hK h1 e1
    rw [hp] at this
    exact this

theorem chL_len (hI : s.Inv U N) : (chL s).length ≤ N := by
  have := hI.lc
  rw [← chL_fst, List.length_map] at this; exact this

/-- Of the changes of a disk. -/
theorem pointsR_ok (hI : s.Inv U N) (hN : N ≤ 1048576) (o : Own h0 h L) {i : Nat} (hi : L[i]? = some (slR encRC 5 T_milestoneref29_Change q.c (chL s))) (hK : ∀ h', Ext h h' → K (I (lookI s.now a)) h') : callS Tryz.prog F_milestoneref29_Points [q.c, .string a] h K := by
  have := chL_len hI
  refine points_ok (o.vw i hi) (by omega) fun h' e' => ?_
  rw [chL_fst, pts_look _ hI.ok]
  exact hK h' e'

/-- Does a name point to a thing? -/
theorem pointsB_ok {n : Nat} (hI : s.Inv U N) (hN : N ≤ 1048576) (o : Own h0 h (rL r q s L)) (hK : ∀ h', Own h0 h' (rL r q s L) → K (.bool (s.now.any fun x => decide (x.2 = n))) h') : callS Tryz.prog F_milestoneref29_Disk_points [ptr r, I n] h K := by
  refine callS_of (lk_milestoneref29_Disk_points _ _ ?_)
  unfold sh_milestoneref29_Disk_points
  have hlen := chL_len hI
  have hiff := points_iff hI.ok (n := n)
  refine LoopH_count (chL s).length (fun i x h' => x.1 = I i ∧ Own h0 h' (rL r q s L) ∧ ∀ c ∈ (s.cs ++ s.cp).take i, ¬ (lookI s.now c.A = n ∨ lookI s.now c.B = n)) ⟨rfl, o, fun c hc => by simp at hc⟩ ?_
  rintro i ⟨x, ⟨⟩⟩ h1 Z hi ⟨hx, o1, hno⟩ hZ
  dsimp only at hx hZ ⊢
  subst hx
  unfold sh_milestoneref29_Disk_points_L1
  rw [pNil_ptr, pField_ptr]
  refine o1.load 0 rfl rfl ?_
  have Hv := o1.vw (enc := encRC) (n := 5) (T := T_milestoneref29_Change) 2 rfl
  refine Hv.len ?_
  rw [pBin_lss, ifV_dec]
  refine ⟨fun hlt => ?_, fun hge => ?_⟩
  · have hi' : i < (chL s).length := by omega
    have ei : (s.cs ++ s.cp)[i]'(by rw [← chL_fst, List.length_map]; exact hi') = (chL s)[i].1 := by simp [← chL_fst]
    have C : ∀ (w : Bool) (h' : Heap), Own h0 h' (rL r q s L) → (w = true ↔ (lookI s.now (chL s)[i].1.A = n ∨ lookI s.now (chL s)[i].1.B = n)) → sh_milestoneref29_Disk_points_C2 Tryz.prog K (I i) (fun a0 hz => Z (a0, ()) hz) (.bool w) h' := by
      intro w h' o' hw
      unfold sh_milestoneref29_Disk_points_C2
      cases w with
      | true =>
        rw [ifV_true]
        have := hK h' o'
        rw [show (s.now.any fun x => decide (x.2 = n)) = true from hiff.1 ⟨(chL s)[i].1, by rw [← chL_fst]; exact List.mem_map.2 ⟨_, List.getElem_mem hi', rfl⟩, hw.1 rfl⟩] at this
        exact this
      | false =>
        rw [ifV_false, pBin_add, wI i (by omega)]
        refine hZ (_, ()) h' (by omega) ⟨rfl, o', fun c hc => ?_⟩
        rw [List.take_succ_eq_append_getElem (by rw [← chL_fst, List.length_map]; exact hi')] at hc
        rcases List.mem_append.1 hc with hc | hc
        · exact hno c hc
        · rw [List.mem_singleton.1 hc, ei]
          intro h
          have := hw.2 h
          cases this
    refine cutP_of (fun y h' => ∃ w : Bool, y.1 = .bool w ∧ Own h0 h' (rL r q s L) ∧ (w = true ↔ (lookI s.now (chL s)[i].1.A = n ∨ lookI s.now (chL s)[i].1.B = n))) (fun J hJ => ?_) ?_
    · rw [pNil_ptr, pField_ptr]
      refine o1.load 0 rfl rfl ?_
      rw [pNil_ptr, pField_ptr]
      refine o1.load 0 rfl rfl ?_
      refine Hv.atF (fun _ => rfl) hi' (j := 2) (u := .string (chL s)[i].1.A) (by decide) rfl ?_
      refine pointsR_ok (s := s) (q := q) hI hN o1 (i := 2) rfl fun h2 e2 => ?_
      have o2 := o1.more e2
      rw [pBin_eql, ifV_beq]
      refine ⟨fun he => ?_, fun hne => ?_⟩
      · exact hJ _ _ ⟨true, rfl, o2, ⟨fun _ => .inl he, fun _ => rfl⟩⟩
      · rw [pNil_ptr, pField_ptr]
        refine o2.load 0 rfl rfl ?_
        rw [pNil_ptr, pField_ptr]
        refine o2.load 0 rfl rfl ?_
        refine (Hv.more e2).atF (fun _ => rfl) hi' (j := 3) (u := .string (chL s)[i].1.B) (by decide) rfl ?_
        refine pointsR_ok (s := s) (q := q) hI hN o2 (i := 2) rfl fun h3 e3 => ?_
        rw [pBin_eql]
        refine hJ _ _ ⟨_, rfl, o2.more e3, ?_⟩
        rw [beq_iff_eq]
        exact ⟨.inr, fun h => h.resolve_left hne⟩
    · rintro ⟨y, ⟨⟩⟩ h' ⟨w, hy, o', hw⟩
      dsimp only at hy
      subst hy
      exact C w h' o' hw
  · have hf : (s.now.any fun x => decide (x.2 = n)) = false := by
      rw [Bool.eq_false_iff]
      intro ht
      obtain ⟨c, hc, hh⟩ := hiff.2 ht
      refine hno c ?_ hh
      rw [List.take_of_length_le (by rw [← chL_fst, List.length_map]; omega)]
      exact hc
    have := hK h1 o1
    rw [hf] at this
    exact this

end
end Go.Proofs.YtleaknaadodjeaaGreat

/-! The disk by definition: bytes; what is refused; steps; changes. -/
namespace Go.Proofs.YtleaknaadodjeaaGreat
open Go Go.Mh
set_option linter.unusedVariables false

section
variable {h0 h : Heap} {L : List Res} {K : Value → Heap → Prop} {r : Nat} {q : RC} {s : Dk} {U : List Nm} {N : Nat} {a b : Nm}

theorem pIdxS_at {s : ByteArray} {i : Nat} {k : IntKind} {K : Value → Prop} (hi : i < s.data.toList.length) (hK : K (.int .u8 (s.data.toList[i]).toNat)) : pIdxS (.string s) (.int k i) K := by
  have hi' : i < s.size := by rw [Array.length_toList] at hi; exact hi
  refine ⟨by omega, ?_⟩
  rw [Int.toNat_natCast, getElem?_pos s i hi']
  exact hK

theorem refB8_plain : ∀ (a : UInt8), ∀ u ∈ encB8 a, Mh.plainCell u = true := encB8_plain

/-- What a thing has. -/
theorem bytesR_ok {wv : Value} {t : Th} (H : Vw encRW 3 h wv (wrL t)) (hl : t.all.length ≤ N) (hN : N ≤ 1048576) (hw : ∀ w ∈ t.all, w.off + w.s.size ≤ 1048576) (hK : ∀ h', Ext h h' → K (.string (bstr (bytesOf t.all))) h') : callS Tryz.prog F_milestoneref29_Thing_Bytes [.agg #[wv]] h K := by
  refine callS_of (lk_milestoneref29_Thing_Bytes _ ?_)
  unfold sh_milestoneref29_Thing_Bytes
  refine (Own.start h).box fun t1 h1 o1 => ?_
  have o1 : Own h h1 [cellR t1 [wv] T_milestoneref29_Thing] := o1
  have hlen : (wrL t).length = t.all.length := by rw [← wrL_fst, List.length_map]
  have bl : ∀ l : List Wr, (∀ w ∈ l, w.off + w.s.size ≤ 1048576) → (bytesOf l).length ≤ 1048576 := by
    intro l
    induction l using rev_ind with
    | h0 => intro _; exact Nat.zero_le _
    | h1 l w ih =>
      intro hl
      unfold bytesOf
      rw [List.foldl_append]
      show (putW (bytesOf l) w).length ≤ _
      rw [putW_len]
      have := ih fun w hw => hl w (List.mem_append_left _ hw)
      have := hl w (List.mem_append_right _ List.mem_cons_self)
      omega
  refine LoopH_count t.all.length (fun i x h' => x.2.1 = I i ∧ Own h h' [slR encB8 1 T_uint8 x.1 (bytesOf (t.all.take i)), cellR t1 [wv] T_milestoneref29_Thing]) ⟨rfl, o1.nilS⟩ ?_
  rintro i ⟨ov, x, ⟨⟩⟩ h2 Z hi ⟨hx, o2⟩ hZ
  dsimp only at hx o2 hZ ⊢
  subst hx
  unfold sh_milestoneref29_Thing_Bytes_L1
  rw [pField_ptr]
  refine o2.load 1 rfl rfl ?_
  refine (H.more o2.ext).len ?_
  rw [hlen, pBin_lss, ifV_dec]
  refine ⟨fun hlt => ?_, fun hge => ?_⟩
  · have hi' : i < t.all.length := by omega
    have hi2 : i < (wrL t).length := by omega
    rw [pField_ptr]
    refine o2.load 1 rfl rfl ?_
    refine (H.more o2.ext).atN (fun _ => rfl) hi2 ?_
    have ew : (wrL t)[i].1 = t.all[i] := by simp [← wrL_fst]
    have hmw := hw _ (List.getElem_mem hi')
    have hbl := bl (t.all.take i) fun w hw' => hw w (List.mem_of_mem_take hw')
    have hnext : bytesOf (t.all.take (i + 1)) = putW (bytesOf (t.all.take i)) t.all[i] := by
      rw [List.take_succ_eq_append_getElem hi']; unfold bytesOf; rw [List.foldl_append]; rfl
    rw [← ew] at hmw hnext
    generalize (wrL t)[i] = w at hmw hnext
    generalize bytesOf (t.all.take i) = bs at o2 hbl hnext
    have hsl : w.1.s.data.toList.length = w.1.s.size := Array.length_toList
    refine o2.box fun w5 h3 o3 => ?_
    have o3 : Own h h3 [cellR w5 [I 0, .string ⟨#[]⟩, .bool false] T_milestoneref29_Write, slR encB8 1 T_uint8 ov bs, cellR t1 [wv] T_milestoneref29_Thing] := o3
    refine o3.st (cs' := encRW w) 0 rfl rfl rfl rfl rfl (by exact encRW_plain w) fun h4 o4 => ?_
    have o4 : Own h h4 [cellR w5 (encRW w) T_milestoneref29_Write, slR encB8 1 T_uint8 ov bs, cellR t1 [wv] T_milestoneref29_Thing] := o4
    refine LoopH_count w.1.s.size (fun k x h' => x.2.1 = I k ∧ Own h h' [cellR w5 (encRW w) T_milestoneref29_Write, slR encB8 1 T_uint8 x.1 (putK bs w.1.off w.1.s.data.toList k), cellR t1 [wv] T_milestoneref29_Thing]) ⟨rfl, o4⟩ ?_
    rintro k ⟨ov2, x, ⟨⟩⟩ h5 Z1 hk ⟨hx, o5⟩ hZ1
    dsimp only at hx o5 hZ1 ⊢
    subst hx
    have hkl := putK_len (b := bs) (off := w.1.off) (s := w.1.s.data.toList) (k := k) (by omega)
    unfold sh_milestoneref29_Thing_Bytes_L2
    rw [pField_ptr]
    refine o5.load 0 rfl rfl ?_
    rw [pLenS_str, pBin_lss, ifV_dec]
    refine ⟨fun hlt2 => ?_, fun hge2 => ?_⟩
    · have hk' : k < w.1.s.data.toList.length := by omega
      have hsucc := putK_succ (b := bs) (off := w.1.off) hk'
      have hkl2 : (putK bs w.1.off w.1.s.data.toList k).length ≤ 1048576 := by rw [hkl]; split <;> omega
      generalize putK bs w.1.off w.1.s.data.toList k = cs at o5 hsucc hkl2
      refine LoopH_count (w.1.off + k + 1) (fun j x h' => cs.length + j ≤ max cs.length (w.1.off + k + 1) ∧ Own h h' [cellR w5 (encRW w) T_milestoneref29_Write, slR encB8 1 T_uint8 x.1 (cs ++ List.replicate j 0), cellR t1 [wv] T_milestoneref29_Thing]) ⟨by omega, by simpa using o5⟩ ?_
      rintro j ⟨ov3, ⟨⟩⟩ h6 Z2 hj ⟨hjl, o6⟩ hZ2
      dsimp only at o6 hZ2 ⊢
      unfold sh_milestoneref29_Thing_Bytes_L3
      refine (o6.vw 1 rfl).len ?_
      rw [List.length_append, List.length_replicate, pField_ptr]
      refine o6.load 0 rfl rfl ?_
      rw [pBin_add, w64 (by omega) (by omega), pBin_leq, ifV_dec]
      refine ⟨fun hle => ?_, fun hgt => ?_⟩
      · refine o6.app1 (enc := encB8) (n := 1) (T := T_uint8) 1 0 rfl rfl (sizesOk_of rfl) (fun _ => rfl) encB8_plain rfl (by decide) (by rw [List.length_append, List.length_replicate]; omega) fun v' h7 o7 => ?_
        refine hZ2 (_, ()) h7 (by omega) ⟨by omega, ?_⟩
        rw [List.append_assoc, ← List.replicate_succ'] at o7
        exact o7
      · have ep : cs ++ List.replicate j 0 = padZ cs (w.1.off + k + 1) := by
          unfold padZ
          congr 2; omega
        rw [ep] at o6
        have hpl : (padZ cs (w.1.off + k + 1)).length = max cs.length (w.1.off + k + 1) := padZ_len
        rw [pField_ptr]
        refine o6.load 0 rfl rfl ?_
        rw [pBin_add, w64 (by omega) (by omega), pField_ptr]
        refine o6.load 0 rfl rfl ?_
        refine pIdxS_at hk' ?_
        have eo : ((w.1.off : Int) + k) = ((w.1.off + k : Nat) : Int) := by omega
        rw [eo]
        refine o6.setAt (a := w.1.s.data.toList[k]) 1 rfl (fun _ => rfl) (encB8_plain _) (by rw [hpl]; omega) rfl fun h7 o7 => ?_
        rw [pBin_add, wI k (by omega)]
        refine hZ1 (_, _, ()) h7 (by omega) ⟨rfl, ?_⟩
        rw [hsucc] at o7
        exact o7
    · have hk2 : k = w.1.s.size := by omega
      subst hk2
      refine LoopH_count w.1.off (fun j x h' => (j = 0 ∨ (w.1.s.size = 0 ∧ (putK bs w.1.off w.1.s.data.toList w.1.s.size).length + j ≤ max (putK bs w.1.off w.1.s.data.toList w.1.s.size).length w.1.off)) ∧ Own h h' [cellR w5 (encRW w) T_milestoneref29_Write, slR encB8 1 T_uint8 x.1 (putK bs w.1.off w.1.s.data.toList w.1.s.size ++ List.replicate j 0), cellR t1 [wv] T_milestoneref29_Thing]) ⟨.inl rfl, by simpa using o5⟩ ?_
      rintro j ⟨ov3, ⟨⟩⟩ h6 Z2 hj ⟨hjl, o6⟩ hZ2
      dsimp only at o6 hZ2 ⊢
      have k5 : ∀ (h' : Heap), Own h h' [cellR w5 (encRW w) T_milestoneref29_Write, slR encB8 1 T_uint8 ov3 (putW bs w.1), cellR t1 [wv] T_milestoneref29_Thing] → sh_milestoneref29_Thing_Bytes_k5 Tryz.prog (I i) (fun a0 a1 hz => Z (a0, (a1, ())) hz) ov3 h' := by
        intro h' o'
        unfold sh_milestoneref29_Thing_Bytes_k5
        rw [pBin_add, wI i (by omega)]
        refine hZ (_, _, ()) h' (by omega) ⟨rfl, ?_⟩
        rw [hnext]
        exact o'.tail
      unfold sh_milestoneref29_Thing_Bytes_L4
      rw [pField_ptr]
      refine o6.load 0 rfl rfl ?_
      rw [pLenS_str, pBin_eql, ifV_beq]
      refine ⟨fun h0 => ?_, fun hne => ?_⟩
      · have hz : w.1.s.size = 0 := by omega
        have ek : putK bs w.1.off w.1.s.data.toList w.1.s.size = bs := by unfold putK; rw [if_pos hz]
        rw [ek] at o6 hjl hZ2
        have hjl' : bs.length + j ≤ max bs.length w.1.off := by omega
        refine (o6.vw 1 rfl).len ?_
        rw [List.length_append, List.length_replicate, pField_ptr]
        refine o6.load 0 rfl rfl ?_
        rw [pBin_lss, ifV_dec]
        refine ⟨fun hlt3 => ?_, fun hge3 => ?_⟩
        · refine o6.app1 (enc := encB8) (n := 1) (T := T_uint8) 1 0 rfl rfl (sizesOk_of rfl) (fun _ => rfl) encB8_plain rfl (by decide) (by rw [List.length_append, List.length_replicate]; omega) fun v' h7 o7 => ?_
          refine hZ2 (_, ()) h7 (by omega) ⟨.inr ⟨hz, by omega⟩, ?_⟩
          rw [List.append_assoc, ← List.replicate_succ'] at o7
          exact o7
        · have ep : bs ++ List.replicate j 0 = putW bs w.1 := by
            rw [← putW_none hz]
            unfold padZ
            congr 2; omega
          rw [ep] at o6
          exact k5 h6 o6
      · have hz : w.1.s.size ≠ 0 := by omega
        have j0 : j = 0 := by rcases hjl with h | ⟨h, _⟩; exact h; exact absurd h hz
        subst j0
        rw [List.replicate_zero, List.append_nil, putK_all hz] at o6
        exact k5 h6 o6
  · rw [List.take_of_length_le (by omega)] at o2
    refine (o2.vw 0 rfl).str ?_
    exact hK h2 o2.ext

/-! ### What is refused -/

theorem notT29 {K : Value → Prop} : pUn .not (.bool true) K = K (.bool false) := rfl
theorem notF29 {K : Value → Prop} : pUn .not (.bool false) K = K (.bool true) := rfl

theorem refusedR_ok {th : Bool} {nv : Value} {ys l : List Nm} (hI : s.Inv U N) (hN : N ≤ 1048576) (o : Own h0 h (rL r q s L)) (H : Vw encS 1 h nv ys) (hy : ys.length ≤ 2) (hl : (th = true ∧ ∃ a ys', ys = a :: ys' ∧ l = [a]) ∨ (th = false ∧ l = []))
    (hK : ∀ h', Ext h h' → K (I (refE s (namesE ys) l)) h') : callS Tryz.prog F_milestoneref29_Disk_refused [ptr r, .bool th, nv] h K := by
  refine callS_of (lk_milestoneref29_Disk_refused _ _ _ ?_)
  unfold sh_milestoneref29_Disk_refused
  rw [pNil_ptr, pField_ptr]
  refine o.load 0 rfl rfl ?_
  unfold refE at hK
  cases ho : s.off with
  | true =>
    rw [ho] at hK
    rw [ifV_true]
    exact hK h (.refl _ _)
  | false =>
    rw [ho] at hK
    rw [ifV_false]
    simp only [Bool.false_eq_true, if_false] at hK
    refine LoopH_count ys.length (fun i x h' => x.1 = I i ∧ Ext h h' ∧ (ys.take i).all okN = true) ⟨rfl, .refl _ _, rfl⟩ ?_
    rintro i ⟨x, ⟨⟩⟩ h1 Z hi ⟨hx, e1, hall⟩ hZ
    dsimp only at hx hZ ⊢
    subst hx
    unfold sh_milestoneref29_Disk_refused_L1
    refine (H.more e1).len ?_
    rw [pBin_lss, ifV_dec]
    refine ⟨fun hlt => ?_, fun hge => ?_⟩
    · have hi' : i < ys.length := by omega
      refine (H.more e1).at1 (e := fun (x : Nm) => Value.string x) (fun _ => rfl) hi' ?_
      refine may_ok ?_
      cases hok : okN ys[i] with
      | true =>
        rw [notT29, ifV_false, pBin_add, wI i (by omega)]
        refine hZ (_, ()) h1 hi' ⟨rfl, e1, ?_⟩
        rw [List.take_succ_eq_append_getElem hi', List.all_append, hall]
        simp [hok]
      | false =>
        rw [notF29, ifV_true]
        have hn : namesE ys = 2 := by
          unfold namesE
          rw [if_neg]
          intro hall'
          have := List.all_eq_true.1 hall' _ (List.getElem_mem hi')
          rw [hok] at this; cases this
        rw [hn, if_pos (by decide)] at hK
        exact hK h1 e1
    · rw [List.take_of_length_le (by omega)] at hall
      have hn : namesE ys = 0 := by unfold namesE; rw [if_pos hall]
      rw [hn, if_neg (by decide)] at hK
      have C : ∀ (w : Bool) (h' : Heap), Ext h h' → (w = !(l.all fun a => (dlook s.now a).isSome)) → sh_milestoneref29_Disk_refused_C2 Tryz.prog K (.bool w) h' := by
        intro w h' e' hw
        unfold sh_milestoneref29_Disk_refused_C2
        have hK := hK h' e'
        cases hb : (l.all fun a => (dlook s.now a).isSome) with
        | true =>
          rw [hb] at hK hw
          rw [hw, Bool.not_true, ifV_false]
          exact hK
        | false =>
          rw [hb] at hK hw
          rw [hw, Bool.not_false, ifV_true]
          exact hK
      refine cutP_of (fun y h' => ∃ w : Bool, y.1 = .bool w ∧ Ext h h' ∧ (w = !(l.all fun a => (dlook s.now a).isSome))) (fun J hJ => ?_) ?_
      · rcases hl with ⟨rfl, a, ys', rfl, rfl⟩ | ⟨rfl, rfl⟩
        · rw [ifV_true, pNil_ptr, pField_ptr]
          have o1 := o.more e1
          refine o1.load 0 rfl rfl ?_
          refine (H.more e1).at1 (e := fun (x : Nm) => Value.string x) (i := 0) (fun _ => rfl) (by simp) ?_
          refine pointsR_ok (s := s) (q := q) hI hN o1 (i := 2) rfl fun h2 e2 => ?_
          rw [pBin_lss]
          refine hJ _ _ ⟨_, rfl, e1.trans e2 fun _ h _ => h, ?_⟩
          have := lookI_neg (D := s.now) (x := a)
          simp only [List.all_cons, List.all_nil, Bool.and_true]
          show decide (lookI s.now a < 0) = _
          cases hd : (dlook s.now a).isSome with
          | true => rw [hd] at this; simp at this; simp; exact this
          | false => rw [hd] at this; simp at this; simp; exact this
        · rw [ifV_false]
          exact hJ _ _ ⟨false, rfl, e1, rfl⟩
      · rintro ⟨y, ⟨⟩⟩ h' ⟨w, hy, e', hw⟩
        dsimp only at hy
        subst hy
        exact C w h' e' hw

/-! ### Steps -/

theorem stepR_ok (hI : s.armed < 2 ^ 63) (o : Own h0 h (rL r q s L)) (h1 : s.armed = 1 → ∀ h', Own h0 h' (rL r q { s with armed := 0, off := true } L) → K (I 22) h')
    (h2 : s.armed ≠ 1 → ∀ h', Own h0 h' (rL r q { s with armed := s.armed - 1 } L) → K (I 0) h') : callS Tryz.prog F_milestoneref29_Disk_step [ptr r] h K := by
  refine callS_of (lk_milestoneref29_Disk_step _ ?_)
  unfold sh_milestoneref29_Disk_step
  rw [pNil_ptr, pField_ptr]
  refine o.load 0 rfl rfl ?_
  rw [pBin_gtr, ifV_dec]
  refine ⟨fun hp => ?_, fun hz => ?_⟩
  · rw [pNil_ptr, pField_ptr]
    refine o.load 0 rfl rfl ?_
    rw [pBin_sub, w64 (by omega) (by omega), pNil_ptr, pField_ptr]
    refine o.st1 0 (cs' := [q.t, q.c, .bool s.off, I ((s.armed : Int) - 1)]) rfl rfl rfl rfl rfl fun h3 o3 => ?_
    rw [pNil_ptr, pField_ptr]
    refine o3.load 0 rfl rfl ?_
    rw [pBin_eql, ifV_beq]
    refine ⟨fun he => ?_, fun hne => ?_⟩
    · have e1 : s.armed = 1 := by omega
      rw [pNil_ptr, pField_ptr]
      refine o3.st1 0 (cs' := [q.t, q.c, .bool true, I ((s.armed : Int) - 1)]) rfl rfl rfl rfl rfl fun h4 o4 => ?_
      refine h1 e1 h4 ?_
      have e0 : ((s.armed : Int) - 1) = ((0 : Nat) : Int) := by omega
      rw [e0] at o4
      exact o4
    · unfold sh_milestoneref29_Disk_step_k1
      refine h2 (by omega) h3 ?_
      have e0 : ((s.armed : Int) - 1) = ((s.armed - 1 : Nat) : Int) := by omega
      rw [e0] at o3
      exact o3
  · unfold sh_milestoneref29_Disk_step_k1
    have e0 : s.armed = 0 := by omega
    refine h2 (by omega) h ?_
    have : ({ s with armed := s.armed - 1 } : Dk) = s := by cases s; simp at e0; subst e0; rfl
    rw [this]; exact o

/-- What is refused, and a step. -/
theorem rstep_ok {th : Bool} {nv : Value} {ys l : List Nm} {K1 : Value → Heap → Prop} (hI : s.Inv U N) (hN : N ≤ 1048576) (o : Own h0 h (rL r q s L)) (H : Vw encS 1 h nv ys) (hy : ys.length ≤ 2) (hl : (th = true ∧ ∃ a ys', ys = a :: ys' ∧ l = [a]) ∨ (th = false ∧ l = []))
    (h1 : refE s (namesE ys) l ≠ 0 → ∀ h', Own h0 h' (rL r q s L) → K1 (I (refE s (namesE ys) l)) h')
    (h2 : refE s (namesE ys) l = 0 → s.armed = 1 → ∀ h', Own h0 h' (rL r q { s with armed := 0, off := true } L) → K1 (I 22) h')
    (h3 : refE s (namesE ys) l = 0 → s.armed ≠ 1 → ∀ h', Own h0 h' (rL r q { s with armed := s.armed - 1 } L) → K1 (I 0) h') :
    callS Tryz.prog F_milestoneref29_Disk_refused [ptr r, .bool th, nv] h fun t h2 => pBin .eql t (I 0) fun c => ifV c (callS Tryz.prog F_milestoneref29_Disk_step [ptr r] h2 fun t' h3 => K1 t' h3) (K1 t h2) := by
  refine refusedR_ok hI hN o H hy hl fun h' e' => ?_
  have o' := o.more e'
  rw [pBin_eql, ifV_beq]
  refine ⟨fun he => ?_, fun hne => h1 hne h' o'⟩
  exact stepR_ok hI.ar o' (h2 he) (h3 he)

end
end Go.Proofs.YtleaknaadodjeaaGreat

/-! The disk by definition: what is done to it. -/
namespace Go.Proofs.YtleaknaadodjeaaGreat
open Go Go.Mh
set_option linter.unusedVariables false

section
variable {h0 h : Heap} {L : List Res} {K : Value → Heap → Prop} {r : Nat} {q : RC} {s : Dk} {U : List Nm} {N : Nat} {a b : Nm}

/-! ### Fresh lists -/

theorem copyRT_ok (o : Own h0 h (rL r q s L)) (hl : q.xs.length ≤ 1048576) (hK : ∀ w h', Own h0 h' (slR encSV 1 T_milestoneref29_Thing w (q.xs.map (·.1)) :: rL r q s L) → K w h') :
    pBuildSlice T_milestoneref29_Thing (zerosL [(.slice none 0 0)] 0) [] 0 h fun t h1 => pNil (ptr r) fun t22 => pField 0 t22 fun t23 => pLoad h1 t23 fun t24 => pAppend T_milestoneref29_Thing 1 24 [(.slice none 0 0)] t t24 h1 K := by
  refine o.build (enc := encSV) (n := 1) [] rfl (sizesOk_of rfl) rfl fun w h1 o1 => ?_
  rw [pNil_ptr, pField_ptr]
  refine o1.load 1 rfl rfl ?_
  exact o1.app 0 rfl (fun _ => rfl) encSV_plain rfl (o1.vw (enc := encSV) 2 rfl) (by decide) (by simp; omega) fun w' h2 o2 => hK w' h2 o2

theorem copyRC_ok (o : Own h0 h (rL r q s L)) (hl : (chL s).length ≤ 1048576) (hK : ∀ w h', Own h0 h' (slR encRC 5 T_milestoneref29_Change w (chL s) :: rL r q s L) → K w h') :
    pBuildSlice T_milestoneref29_Change (zerosL [(.int .i64 0), (.int .i64 0), (.string ⟨#[]⟩), (.string ⟨#[]⟩), (.bool false)] 0) [] 0 h fun t h1 => pNil (ptr r) fun t22 => pField 1 t22 fun t23 => pLoad h1 t23 fun t24 => pAppend T_milestoneref29_Change 5 56 [(.int .i64 0), (.int .i64 0), (.string ⟨#[]⟩), (.string ⟨#[]⟩), (.bool false)] t t24 h1 K := by
  refine o.build (enc := encRC) (n := 5) [] rfl (sizesOk_of rfl) rfl fun w h1 o1 => ?_
  rw [pNil_ptr, pField_ptr]
  refine o1.load 1 rfl rfl ?_
  exact o1.app 0 rfl (fun _ => rfl) encRC_plain rfl (o1.vw (enc := encRC) 3 rfl) (by decide) (by simp; omega) fun w' h2 o2 => hK w' h2 o2

/-- A list of things laid in. -/
theorem layRT_ok {w : Value} {vs : List SlV} (o : Own h0 h (slR encSV 1 T_milestoneref29_Thing w vs :: rL r q s L))
    (hK : ∀ h', Own h0 h' (cellR r [w, q.c, .bool s.off, I s.armed] T_milestoneref29_Disk :: slR encSV 1 T_milestoneref29_Thing w vs :: slR encRC 5 T_milestoneref29_Change q.c (chL s) :: sepR (fmR q.xs) :: L) → K undef h') :
    pNil (ptr r) fun t29 => pField 0 t29 fun t30 => pStore 1 t30 w h K := by
  have hv := o.vw 0 rfl
  rw [pNil_ptr, pField_ptr]
  refine o.st1 1 (cs' := [w, q.c, .bool s.off, I s.armed]) rfl rfl rfl hv.one hv.plain fun h' o' => hK h' ?_
  have o1 : Own h0 h' (slR encSV 1 T_milestoneref29_Thing w vs :: cellR r [w, q.c, .bool s.off, I s.armed] T_milestoneref29_Disk :: slR encSV 1 T_milestoneref29_Thing q.t (q.xs.map (·.1)) :: slR encRC 5 T_milestoneref29_Change q.c (chL s) :: sepR (fmR q.xs) :: L) := o'
  exact o1.swap.erase 2

/-- A list of changes laid in. -/
theorem layC_ok {w : Value} {vs : List (Ch × Bool)} (o : Own h0 h (slR encRC 5 T_milestoneref29_Change w vs :: rL r q s L))
    (hK : ∀ h', Own h0 h' (cellR r [q.t, w, .bool s.off, I s.armed] T_milestoneref29_Disk :: slR encSV 1 T_milestoneref29_Thing q.t (q.xs.map (·.1)) :: slR encRC 5 T_milestoneref29_Change w vs :: sepR (fmR q.xs) :: L) → K undef h') :
    pNil (ptr r) fun t29 => pField 1 t29 fun t30 => pStore 1 t30 w h K := by
  have hv := o.vw 0 rfl
  rw [pNil_ptr, pField_ptr]
  refine o.st1 1 (cs' := [q.t, w, .bool s.off, I s.armed]) rfl rfl rfl hv.one hv.plain fun h' o' => hK h' ?_
  have o1 : Own h0 h' (slR encRC 5 T_milestoneref29_Change w vs :: cellR r [q.t, w, .bool s.off, I s.armed] T_milestoneref29_Disk :: slR encSV 1 T_milestoneref29_Thing q.t (q.xs.map (·.1)) :: slR encRC 5 T_milestoneref29_Change q.c (chL s) :: sepR (fmR q.xs) :: L) := o'
  exact (o1.front 4 [1, 2, 0] (by decide) (by decide))

/-! ### Changes -/

/-- What a change of the directory answers, and leaves. -/
theorem changeR_ok {th : Bool} {c : Ch} {nv : Value} {ys l : List Nm} (hI : s.Inv U N) (hN : N ≤ 1048576) (o : Own h0 h (rL r q s L)) (H : Vw encS 1 h nv ys) (hy : ys.length ≤ 2) (hl : (th = true ∧ ∃ a ys', ys = a :: ys' ∧ l = [a]) ∨ (th = false ∧ l = []))
    (hK : ∀ h' q', q'.xs = q.xs → q'.t = q.t → Own h0 h' (rL r q' (stepD s (refE s (namesE ys) l) (chD c)).2 L) → K (I (stepD s (refE s (namesE ys) l) (chD c)).1) h') :
    callS Tryz.prog F_milestoneref29_Disk_change [ptr r, .bool th, .agg (encRC (c, false)).toArray, nv] h K := by
  refine callS_of (lk_milestoneref29_Disk_change _ _ _ _ ?_)
  unfold sh_milestoneref29_Disk_change
  have hlen := chL_len hI
  refine (Own.start h).box fun x6 h1 o1 => ?_
  have o1 : Own h h1 [cellR x6 (encRC (c, false)) T_milestoneref29_Change] := o1
  have oA : Own h0 h1 (rL r q s (cellR x6 (encRC (c, false)) T_milestoneref29_Change :: L)) := by
    have := o.frame o1
    exact Own.mid' (X := []) (Y := [cellR r [q.t, q.c, .bool s.off, I s.armed] T_milestoneref29_Disk, slR encSV 1 T_milestoneref29_Thing q.t (q.xs.map (·.1)), slR encRC 5 T_milestoneref29_Change q.c (chL s), sepR (fmR q.xs)]) this
  unfold stepD at hK
  refine rstep_ok (K1 := fun t h' => sh_milestoneref29_Disk_change_k1 Tryz.prog (ptr r) (ptr x6) K t h') hI hN oA (H.more o1.ext) hy hl (fun hne h' o' => ?_) (fun he ha h' o' => ?_) fun he ha h' o' => ?_
  · rw [if_pos hne] at hK
    unfold sh_milestoneref29_Disk_change_k1
    rw [pBin_eql, ifV_beq]
    exact ⟨fun h => absurd h hne, fun _ => hK h' q rfl rfl (o'.erase 4)⟩
  · rw [if_neg (fun h => h he), if_pos ha] at hK
    unfold sh_milestoneref29_Disk_change_k1
    rw [pBin_eql]
    show ifV (.bool false) _ _
    rw [ifV_false]
    exact hK h' q rfl rfl (o'.erase 4)
  · rw [if_neg (fun h => h he), if_neg ha] at hK
    unfold sh_milestoneref29_Disk_change_k1
    rw [pBin_eql]
    show ifV (.bool true) _ _
    rw [ifV_true, pNil_ptr, pField_ptr]
    refine o'.load 0 rfl rfl ?_
    refine o'.ldN (cs' := encRC (c, false)) 4 rfl rfl rfl ?_
    have hV := o'.vw (enc := encRC) (n := 5) (T := T_milestoneref29_Change) 2 rfl
    have hVl : (chL { s with armed := s.armed - 1 }).length ≤ 1048576 := by
      show (chL s).length ≤ _
      omega
    have fin : ∀ (w : Value) (h'' : Heap) (X : List Res), Own h0 h'' (slR encRC 5 T_milestoneref29_Change w (chL s ++ [(c, false)]) :: rL r q { s with armed := s.armed - 1 } (cellR x6 (encRC (c, false)) T_milestoneref29_Change :: L)) →
        pNil (ptr r) fun t30 => pField 1 t30 fun t31 => pStore 1 t31 w h'' fun u h_9 => sh_milestoneref29_Disk_change_k2 Tryz.prog K (I 0) h_9 := by
      intro w h'' X o''
      refine layC_ok o'' fun h3 o3 => ?_
      unfold sh_milestoneref29_Disk_change_k2
      refine hK h3 { q with c := w } rfl rfl ?_
      have e : chL (chD c { s with armed := s.armed - 1 }) = chL s ++ [(c, false)] := by
        unfold chL chD; simp
      unfold rL
      rw [e]
      exact o3.erase 4
    have E : ∀ {h3 : Heap} {L' : List Res} (i : Nat) (v : Value) (xs : List (Ch × Bool)) (x : Value) (ys : List (Ch × Bool)), Own h0 h3 L' → L'[i]? = some (slR encRC 5 T_milestoneref29_Change v xs) → Vw encRC 5 h3 x ys → xs.length ≤ 1048576 → ys.length ≤ 1048576 → ∀ KH : Value → Heap → Prop, (∀ v' h4, Own h0 h4 (L'.set i (slR encRC 5 T_milestoneref29_Change v' (xs ++ ys))) → KH v' h4) →
        pAppend T_milestoneref29_Change 5 56 [(.int .i64 0), (.int .i64 0), (.string ⟨#[]⟩), (.string ⟨#[]⟩), (.bool false)] v x h3 KH := fun i v xs x ys o3 hi hx h1 h2 KH hk =>
      o3.app i hi (fun _ => rfl) encRC_plain rfl hx (by decide) (by omega) hk
    refine ⟨?_, ?_⟩
    · refine o'.build (enc := encRC) (n := 5) [] rfl (sizesOk_of rfl) rfl fun w1 h2 o2 => ?_
      refine ⟨?_, ?_⟩
      · refine E 0 _ [] _ (chL s) o2 rfl (o2.vw (enc := encRC) (n := 5) (T := T_milestoneref29_Change) 3 rfl) (by simp) (by omega) _ fun w2 h3 o3 => ?_
        refine ⟨o3.ldN (cs' := encRC (c, false)) 5 rfl rfl rfl rfl, ?_⟩
        refine o3.build (enc := encRC) (n := 5) [(c, false)] rfl (sizesOk_of rfl) rfl fun w3 h4 o4 => ?_
        refine E 1 _ (chL s) _ [(c, false)] o4 rfl (o4.vw 0 rfl) (by omega) (by simp) _ fun w4 h5 o5 => ?_
        exact fin w4 h5 [] o5.tail
      · refine o2.build (enc := encRC) (n := 5) [(c, false)] rfl (sizesOk_of rfl) rfl fun w3 h4 o4 => ?_
        refine E 1 _ [] _ (chL s) o4 rfl (o4.vw (enc := encRC) (n := 5) (T := T_milestoneref29_Change) 4 rfl) (by simp) (by omega) _ fun w2 h3 o3 => ?_
        refine E 1 _ (chL s) _ [(c, false)] o3 rfl (o3.vw 0 rfl) (by omega) (by simp) _ fun w4 h5 o5 => ?_
        exact fin w4 h5 [] o5.tail
    · refine o'.build (enc := encRC) (n := 5) [(c, false)] rfl (sizesOk_of rfl) rfl fun w3 h4 o4 => ?_
      refine o4.build (enc := encRC) (n := 5) [] rfl (sizesOk_of rfl) rfl fun w1 h2 o2 => ?_
      refine E 0 _ [] _ (chL s) o2 rfl (o2.vw (enc := encRC) (n := 5) (T := T_milestoneref29_Change) 4 rfl) (by simp) (by omega) _ fun w2 h3 o3 => ?_
      refine E 0 _ (chL s) _ [(c, false)] o3 rfl (o3.vw 1 rfl) (by omega) (by simp) _ fun w4 h5 o5 => ?_
      exact fin w4 h5 [] (o5.erase 1)

def nilSV : SlV := ⟨.slice none 0 0, rfl, rfl⟩

theorem renameR_ok (hI : s.Inv U N) (hN : N ≤ 1048576) (o : Own h0 h (rL r q s L)) (hq : RcOk q s) (hK : ∀ h' q', RcOk q' (mRename s a b).2 → Own h0 h' (rL r q' (mRename s a b).2 L) → K (I (mRename s a b).1) h') : callS Tryz.prog F_milestoneref29_Disk_Rename [ptr r, .string a, .string b] h K := by
  refine callS_of (lk_milestoneref29_Disk_Rename _ _ _ ?_)
  unfold sh_milestoneref29_Disk_Rename
  refine ⟨sizesOk_of rfl, ?_⟩
  refine o.build (enc := encS) (n := 1) [a, b] rfl (sizesOk_of rfl) rfl fun w h1 o1 => ?_
  refine changeR_ok (c := .ren a b) (l := [a]) hI hN o1.tail (o1.vw 0 rfl) (by simp) (.inl ⟨rfl, a, _, rfl, rfl⟩) fun h' q' ex et o' => hK h' q' ?_ o'
  unfold RcOk at hq ⊢
  rw [ex, hq]
  unfold mRename stepD
  split
  · rfl
  · split <;> rfl

theorem armR_ok {z : Int} (o : Own h0 h (rL r q s L)) (hK : ∀ h', Own h0 h' (rL r q (mArm s z) L) → K (.tuple #[]) h') : callS Tryz.prog F_milestoneref29_Disk_Arm [ptr r, I z] h K := by
  refine callS_of (lk_milestoneref29_Disk_Arm _ _ ?_)
  unfold sh_milestoneref29_Disk_Arm
  rw [pMax_int, pNil_ptr, pField_ptr]
  have e : (if (0 : Int) < z then z else 0) = ((z.toNat : Nat) : Int) := by split <;> omega
  first | rw [e] | rw [show (if z < (0 : Int) then (0 : Int) else z) = ((z.toNat : Nat) : Int) by split <;> omega]
  refine o.st1 0 (cs' := [q.t, q.c, .bool s.off, I (z.toNat : Nat)]) rfl rfl rfl rfl rfl fun h' o' => hK h' o'

theorem readR_ok (hI : s.Inv U N) (hN : N ≤ 1048576) (o : Own h0 h (rL r q s L)) (hq : RcOk q s) (hK : ∀ h', Own h0 h' (rL r q s L) → K (.tuple #[.string (mRead s a).1, I (mRead s a).2]) h') : callS Tryz.prog F_milestoneref29_Disk_Read [ptr r, .string a] h K := by
  refine callS_of (lk_milestoneref29_Disk_Read _ _ ?_)
  unfold sh_milestoneref29_Disk_Read
  refine o.build (enc := encS) (n := 1) [a] rfl (sizesOk_of rfl) rfl fun w h1 o1 => ?_
  refine refusedR_ok (l := [a]) hI hN o1.tail (o1.vw 0 rfl) (by simp) (.inl ⟨rfl, a, _, rfl, rfl⟩) fun h2 e2 => ?_
  have o2 := o1.tail.more e2
  unfold mRead at hK
  rw [pBin_neq, ifV_bne]
  refine ⟨fun hne => ?_, fun he => ?_⟩
  · rw [if_pos hne] at hK
    exact hK h2 o2
  · rw [if_neg (fun h => h he)] at hK
    obtain ⟨_, _, ht⟩ := refE_off he
    obtain ⟨n, hn⟩ := Option.isSome_iff_exists.1 (ht a List.mem_cons_self)
    rw [hn] at hK
    rw [pNil_ptr, pField_ptr]
    refine o2.load 0 rfl rfl ?_
    rw [pNil_ptr, pField_ptr]
    refine o2.load 0 rfl rfl ?_
    refine pointsR_ok (s := s) (q := q) hI hN o2 (i := 2) rfl fun h3 e3 => ?_
    have o3 := o2.more e3
    refine ⟨o3.load 0 rfl rfl rfl, ?_⟩
    have hnl : n < s.th.length := by
      have hm := (dlook_mem (keys_dirOf _)).1 hn
      rcases dir_val _ _ _ hm hI.ok with h | ⟨x, h⟩
      · simp at h
      · exact hI.num x n h
    have el : lookI s.now a = ((n : Nat) : Int) := by unfold lookI; rw [hn]
    rw [el]
    obtain ⟨x, hx, ex⟩ := hq.get hnl
    have hx1 : (q.xs.map (·.1))[n]'(by rw [List.length_map]; exact (List.getElem?_eq_some_iff.1 hx).1) = x.1 := by
      simp [(List.getElem?_eq_some_iff.1 hx).2]
    refine (o3.vw (enc := encSV) (n := 1) 1 rfl).atN (fun _ => rfl) (by rw [List.length_map]; exact (List.getElem?_eq_some_iff.1 hx).1) ?_
    rw [hx1]
    have hm : s.getT n ∈ s.th := by
      unfold Dk.getT
      rw [List.getD_eq_getElem?_getD, List.getElem?_eq_getElem hnl]
      exact List.getElem_mem _
    have hv : Vw encRW 3 h3 x.1.v (wrL x.2) := fm_vw (o3.get 3 rfl) hx
    rw [ex] at hv
    refine bytesR_ok hv (hI.lw _ hm) hN (hI.wr _ hm) fun h4 e4 => ?_
    exact hK h4 (o3.more e4)

end
end Go.Proofs.YtleaknaadodjeaaGreat
