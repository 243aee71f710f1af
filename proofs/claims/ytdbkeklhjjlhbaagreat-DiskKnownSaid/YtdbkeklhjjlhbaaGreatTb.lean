/- Texts of the proofs of seat YtdbkeklhjjlhbaaGreat, joined: DkJ, DkK, DkL, DkN, DkP, DkQ, DkR, ShJ, DkS, DkT, DkW, ShR, DkV, F29A, F29K. They have no conditions of their own. -/
import Derived.Test.YtdbkeklhjjlhbaaGreatTa
import Derived.Test.YtdbkeklhjjlhbaaGreatMd
import Derived.Test.YtdbkeklhjjlhbaaGreatMc
import Derived.Shelf.Strings.OnBuilder
import Derived.CallsIn
import Derived.KernelRfl
import Derived.Shelf.Strings.Repeat
set_option linter.unusedVariables false
set_option linter.unusedSimpArgs false
set_option linter.unusedSectionVars false

namespace Go.Proofs.YtdbkeklhjjlhbaaGreat
open Go Go.Mh
set_option linter.unusedVariables false

section
variable {h0 h : Heap} {L M ts l3 : List Res} {K : Value → Heap → Prop} {k d i : Nat} {c : DC} {s : Dk} {B : Bx} {x : TC} {U : List Nm} {N : Nat} {a b : Nm}

theorem out2 (o : Own h0 h M) (hk : M[k]? = some (sepR ts)) (hi : ts[i]? = some (sepR l3)) : Own h0 h (l3 ++ M.set k (sepR (ts.set i nilR))) := by
  have hkl := (List.getElem?_eq_some_iff.1 hk).1
  have hil := (List.getElem?_eq_some_iff.1 hi).1
  have o2 := (o.out k hk).out i (by rw [List.getElem?_append_left hil]; exact hi)
  rw [List.set_append_left _ _ hil] at o2
  have o3 : Own h0 h (ts.set i nilR ++ (M.set k nilR ++ l3)) := by rw [← List.append_assoc]; exact o2.comm
  have o4 := o3.back k (by rw [List.getElem?_append_left (by rw [List.length_set]; exact hkl), List.getElem?_set_self hkl])
  rw [List.set_append_left _ _ (by rw [List.length_set]; exact hkl), List.set_set] at o4
  exact o4.comm

theorem back2 (o : Own h0 h (l3 ++ M)) (hk : M[k]? = some (sepR ts)) (hi : ts[i]? = some nilR) : Own h0 h (M.set k (sepR (ts.set i (sepR l3)))) := by
  have hkl := (List.getElem?_eq_some_iff.1 hk).1
  have hil := (List.getElem?_eq_some_iff.1 hi).1
  have o1 := (o.comm).out k (by rw [List.getElem?_append_left hkl]; exact hk)
  rw [List.set_append_left _ _ hkl] at o1
  have o2 : Own h0 h (l3 ++ (ts ++ M.set k nilR)) := by
    have := o1.comm
    rw [List.append_assoc] at this
    have := this.comm
    rw [List.append_assoc] at this
    exact this
  have o3 := o2.back i (by rw [List.getElem?_append_left hil]; exact hi)
  rw [List.set_append_left _ _ hil] at o3
  have o4 := o3.back k (by rw [List.getElem?_set_self hkl])
  rwa [List.set_set] at o4

theorem sep_sub {l l' : List Res} (hs : l'.Sublist l) (q : (sepR l).Q h) : (sepR l').Q h := by
  have key : ∀ {l l' : List Res}, l'.Sublist l → (∀ {i j : Nat} {r s : Res}, l[i]? = some r → l[j]? = some s → i ≠ j → ∀ b, r.F b → ¬ s.F b) → ∀ {i j : Nat} {r s : Res}, l'[i]? = some r → l'[j]? = some s → i ≠ j → ∀ b, r.F b → ¬ s.F b := by
    intro l l' hs
    induction hs with
    | slnil => intro H; exact H
    | cons a hs ih => intro H; exact ih fun {i j r s} hi hj hne => H (i := i + 1) (j := j + 1) hi hj (by omega)
    | cons_cons a hs ih =>
      intro H i j r s hi hj hne
      have ih' : ∀ {i j : Nat} {r s : Res}, _ → _ → _ → ∀ b, r.F b → ¬ s.F b := @ih fun {i j r s} hi hj hne => H (i := i + 1) (j := j + 1) hi hj (by omega)
      cases i with
      | zero =>
        cases j with
        | zero => exact absurd rfl hne
        | succ j =>
          obtain ⟨q, hq⟩ := List.getElem?_of_mem (hs.mem (List.mem_of_getElem? (i := j) (a := s) (by simpa using hj)))
          exact H (i := 0) (j := q + 1) hi hq (by omega)
      | succ i =>
        cases j with
        | zero =>
          obtain ⟨q, hq⟩ := List.getElem?_of_mem (hs.mem (List.mem_of_getElem? (i := i) (a := r) (by simpa using hi)))
          exact H (i := q + 1) (j := 0) hq hj (by omega)
        | succ j => exact ih' hi hj (by omega)
  exact ⟨fun r hr => q.1 r (hs.mem hr), key hs q.2⟩

/-! ### Fates -/

/-- A row; an empty one may begin anywhere. -/
def VwE (h : Heap) (v : Value) (fs : List Int) : Prop := Vw encU8 1 h v fs ∨ (fs = [] ∧ ∃ a, v = .slice (some a) 0 0)

theorem VwE.len {v : Value} {fs : List Int} {K : Value → Prop} (H : VwE h v fs) (hK : K (I fs.length)) : pLen v K := by
  rcases H with H | ⟨rfl, a, rfl⟩
  · exact H.len hK
  · exact hK
theorem VwE.one {v : Value} {fs : List Int} (H : VwE h v fs) : v.cells = #[v] := by
  rcases H with H | ⟨rfl, a, rfl⟩
  · exact H.one
  · rfl

/-- A row of fates, as long as there is L. -/
def FV (h0 : Heap) (L : List Res) (v : Value) (fs : List Int) : Prop := ∀ Rs h', Own h0 h' (Rs ++ L) → VwE h' v fs

def FA (fv0 : Value) (fs0 : List Int) (fv : Value) (fs : List Int) : Prop := ∀ h', VwE h' fv0 fs0 → VwE h' fv fs

theorem nextF_ok {f : Nat} {fv0 fv : Value} {fs0 fs : List Int} {Rs : List Res} (o : Own h0 h (Rs ++ L)) (hi : (Rs ++ L)[i]? = some (cellR f [fv] T_sl_uint8)) (hf : FV h0 L fv0 fs0) (hA : FA fv0 fs0 fv fs) (hr : ∀ z ∈ fs, 0 ≤ z ∧ z ≤ 255) (hl : fs.length < 2 ^ 40)
    (hK : ∀ fv' h', FA fv0 fs0 fv' fs.tail → Own h0 h' ((Rs ++ L).set i (cellR f [fv'] T_sl_uint8)) → K (I (fateOf fs)) h') : callV Tryz.prog (.func (.func F_disk_Disk_Crash_1) #[] #[ptr f]) [].toArray h K := by
  refine callV_of (l := [ptr f]) rfl (lk_disk_Disk_Crash_1 _ ?_)
  unfold sh_disk_Disk_Crash_1
  refine o.load i hi rfl ?_
  have H := hA _ (hf _ _ o)
  refine H.len ?_
  rw [pBin_eql, ifV_beq]
  refine ⟨fun he => ?_, fun hne => ?_⟩
  · have : fs = [] := List.eq_nil_of_length_eq_zero (by omega)
    subst this
    exact hK fv h hA (by rw [setSame hi]; exact o)
  · obtain ⟨z, r, rfl⟩ : ∃ z r, fs = z :: r := by
      cases fs with
      | nil => simp at hne
      | cons z r => exact ⟨z, r, rfl⟩
    have H := H.resolve_right fun h => by cases h.1
    refine o.load i hi rfl ?_
    refine H.at1 (e := fun (z : Int) => Value.int .u8 z) (i := 0) (fun _ => rfl) (by simp) ?_
    have hz := hr z List.mem_cons_self
    show pConv .i64 (.int .u8 z) _
    rw [pConv_int, w64 (by omega) (by omega)]
    refine o.load i hi rfl ?_
    refine H.subA (a := 1) (j := (z :: r).length) (fun _ => rfl) rfl rfl (by simp) (Nat.le_refl _) fun v' hv' => ?_
    have hv1 : ∀ h', Vw encU8 1 h' fv (z :: r) → Vw encU8 1 h' v' r := fun h' hh => by
      have := hv' h' hh
      simpa using this
    have hvh := hv1 h H
    refine o.st1 i (cs' := [v']) hi rfl rfl hvh.one hvh.plain fun h2 o2 => ?_
    have e : ((fateOf (z :: r) : Nat) : Int) = z := by show ((z.toNat : Nat) : Int) = z; omega
    rw [e] at hK
    exact hK v' h2 (fun h' o' => .inl (hv1 h' ((hA h' o').resolve_right fun h => by cases h.1))) o2

/-- The first of a thing's writes. -/
theorem crW_step {w : Wr} {r acc : List Wr} {f : List Int} : (acc ++ (crW (w :: r) f).1, (crW (w :: r) f).2) = ((if fateOf f % 2 = 1 then acc ++ [w] else acc) ++ (crW r f.tail).1, (crW r f.tail).2) := by
  rw [crW]
  split <;> simp

end
end Go.Proofs.YtdbkeklhjjlhbaaGreat

namespace Go.Proofs.YtdbkeklhjjlhbaaGreat
open Go Go.Mh
set_option linter.unusedVariables false

section
variable {h0 h : Heap} {L M ts l3 : List Res} {K : Value → Heap → Prop} {k d i : Nat} {c : DC} {s : Dk} {B : Bx} {x : TC} {U : List Nm} {N : Nat} {a b : Nm}

/-- What lies there while a crash goes through the things. -/
def crL (b1 k8 km nx f3 d m' : Nat) (fv : Value) (es : Array MapEntry) (clock : Nat) (kept : List Nat) (cd : List Value) (dm tm : Nat) (D' : Dir) (tc0 tc : List TC) (s : Dk) (R : List Res) : List Res :=
  cellR b1 [ptr d] T_p_disk_Disk :: cellR k8 [.map (some km)] T_map_int_p_disk_thing :: kmapR QI km (fun z => if ∃ m ∈ kept, (m : Int) = z then thF tc0 z else none) :: cellR nx [.func (.func F_disk_Disk_Crash_1) #[] #[ptr f3]] T_func_int_v2 ::
    cellR f3 [fv] T_sl_uint8 :: cellR d cd T_disk_Disk :: kmapR QS dm (dirF D') :: objR m' (.map es clock) :: kmapR QI tm (thF tc0) :: sepR (tc.map fun x => sepR (tRs s x)) :: R

/-- A thing gone through. -/
theorem crThing_ok {b1 k8 km nx f3 m' lp mk : Nat} {fv0 fv : Value} {fs0 fs : List Int} {es : Array MapEntry} {clock : Nat} {kept : List Nat} {cd : List Value} {dm tm : Nat} {D' : Dir} {tc0 tc : List TC} {R Pr : List Res} {Lo : Loop} {KP : Exit → Heap → Prop}
    (o : Own h0 h (loopR lp (lo Lo .busy none) :: markR mk :: (crL b1 k8 km nx f3 d m' fv es clock kept cd dm tm D' tc0 tc s (R ++ L) ++ Pr)))
    (hx : tc[i]? = some x) (hnd : (tc.map (·.n)).Nodup) (hlt : x.n < s.th.length) (hth : thF tc0 x.n = some (ptr x.b))
    (hf : FV h0 (L ++ Pr) fv0 fs0) (hA : FA fv0 fs0 fv fs) (hr : ∀ z ∈ fs, 0 ≤ z ∧ z ≤ 255) (hl : fs.length < 2 ^ 40) (hw : ∀ w ∈ (s.getT x.n).all, w.off + w.s.size ≤ 1048576) (hN : (s.getT x.n).all.length ≤ 1048576)
    (hK : ∀ fv' dv' wv' h', FA fv0 fs0 fv' (crW (s.getT x.n).pen fs).2 →
      Own h0 h' (loopR lp (lo Lo .busy none) :: markR mk :: (crL b1 k8 km nx f3 d m' fv' es clock (kept ++ [x.n]) cd dm tm D' tc0 (tc.set i ⟨x.n, x.b, dv', wv'⟩) (modTh s x.n fun t => ⟨t.syn ++ (crW t.pen fs).1, []⟩) (R ++ L) ++ Pr)) → KP .normal h') :
    pNil (ptr x.b) fun t61 => pField 1 t61 fun t62 => pLoad h t62 fun t63 => pLen t63 fun t64 =>
      LoopH (σ := Vals [65]) (fun y hh ZZ => sh_disk_Disk_Crash_L3 Tryz.prog t64 t63 (ptr nx) (ptr x.b) (ptr k8) (I x.n) KP y.1 hh (fun a0 hz => ZZ (a0, ()) hz)) ((.int .i64 0), ()) h := by
  have hil : i < tc.length := (List.getElem?_eq_some_iff.1 hx).1
  have hts : (tc.map fun x => sepR (tRs s x))[i]? = some (sepR (tRs s x)) := by rw [List.getElem?_map, hx]; rfl
  have o1 := out2 o (k := 11) rfl hts
  generalize hE : (tc.map fun x => sepR (tRs s x)).set i nilR = tsn at o1
  have hpl : (s.getT x.n).syn.length + (s.getT x.n).pen.length ≤ 1048576 := by
    unfold Th.all at hN; rw [List.length_append] at hN; exact hN
  -- the list with the thing open
  let M : Value → List Res := fun fv => loopR lp (lo Lo .busy none) :: markR mk :: cellR b1 [ptr d] T_p_disk_Disk :: cellR k8 [.map (some km)] T_map_int_p_disk_thing :: kmapR QI km (fun z => if ∃ m ∈ kept, (m : Int) = z then thF tc0 z else none) :: cellR nx [.func (.func F_disk_Disk_Crash_1) #[] #[ptr f3]] T_func_int_v2 ::
    cellR f3 [fv] T_sl_uint8 :: cellR d cd T_disk_Disk :: kmapR QS dm (dirF D') :: objR m' (.map es clock) :: kmapR QI tm (thF tc0) :: sepR tsn :: (R ++ (L ++ Pr))
  have o2 : Own h0 h (cellR x.b [x.dv, x.wv] T_disk_thing :: slR encB8 1 T_uint8 x.dv (bytesOf (s.getT x.n).syn) :: slR encW 2 T_disk_write x.wv (s.getT x.n).pen :: M fv) := by
    have : Own h0 h (tRs s x ++ (loopR lp (lo Lo .busy none) :: markR mk :: cellR b1 [ptr d] T_p_disk_Disk :: cellR k8 [.map (some km)] T_map_int_p_disk_thing :: kmapR QI km (fun z => if ∃ m ∈ kept, (m : Int) = z then thF tc0 z else none) :: cellR nx [.func (.func F_disk_Disk_Crash_1) #[] #[ptr f3]] T_func_int_v2 ::
      cellR f3 [fv] T_sl_uint8 :: cellR d cd T_disk_Disk :: kmapR QS dm (dirF D') :: objR m' (.map es clock) :: kmapR QI tm (thF tc0) :: sepR tsn :: ((R ++ L) ++ Pr))) := o1
    rw [List.append_assoc R L Pr] at this
    exact this
  clear o o1
  rw [pNil_ptr, pField_ptr]
  refine o2.load 0 rfl rfl ?_
  refine (o2.vw 2 rfl).len ?_
  have Hw0 := o2.vw 2 rfl
  refine LoopH_count (s.getT x.n).pen.length (fun j y h' => y.1 = I j ∧ ∃ dv fvj fj acc, FA fv0 fs0 fvj fj ∧ (∀ z ∈ fj, 0 ≤ z ∧ z ≤ 255) ∧ fj.length < 2 ^ 40 ∧ (∀ w ∈ acc, w ∈ (s.getT x.n).pen) ∧ acc.length ≤ j ∧ crW (s.getT x.n).pen fs = (acc ++ (crW ((s.getT x.n).pen.drop j) fj).1, (crW ((s.getT x.n).pen.drop j) fj).2) ∧
    Own h0 h' (cellR x.b [dv, x.wv] T_disk_thing :: slR encB8 1 T_uint8 dv (bytesOf ((s.getT x.n).syn ++ acc)) :: slR encW 2 T_disk_write x.wv (s.getT x.n).pen :: M fvj)) ⟨rfl, x.dv, fv, fs, [], hA, hr, hl, fun _ h => (by cases h), Nat.le_refl _, by simp, by rw [List.append_nil]; exact o2⟩ ?_
  clear o2
  rintro j ⟨y, ⟨⟩⟩ h1 Z hj ⟨hy, dv, fvj, fj, acc, hfj, hrj, hlj, hacc, hal, hcr, o⟩ hZ
  dsimp only at hy hZ ⊢
  subst hy
  unfold sh_disk_Disk_Crash_L3
  rw [pBin_lss, ifV_dec]
  refine ⟨fun hlt => ?_, fun hge => ?_⟩
  · have hj' : j < (s.getT x.n).pen.length := by omega
    have hdr : (s.getT x.n).pen.drop j = (s.getT x.n).pen[j] :: (s.getT x.n).pen.drop (j + 1) := List.drop_eq_getElem_cons hj'
    rw [hdr, crW_step] at hcr
    have hwj := List.getElem_mem hj'
    generalize (s.getT x.n).pen[j] = w at hdr hcr hwj
    have hgw : (s.getT x.n).pen[j]'hj' = (s.getT x.n).pen[j]'hj' := rfl
    refine (o.vw 2 rfl).atN (fun _ => rfl) hj' ?_
    have hwe : (s.getT x.n).pen[j]'hj' = w := by
      have := congrArg List.head? hdr
      rw [List.head?_drop, List.getElem?_eq_getElem hj'] at this
      exact Option.some.inj this
    rw [hwe]
    refine o.box fun w12 h2 o2 => ?_
    refine o2.st (l := encW w) (cs' := encW w) 0 rfl rfl rfl rfl rfl (fun u hu => encW_plain _ u hu) fun h3 o3 => ?_
    have o3 : Own h0 h3 (cellR w12 (encW w) T_disk_write :: cellR x.b [dv, x.wv] T_disk_thing :: slR encB8 1 T_uint8 dv (bytesOf ((s.getT x.n).syn ++ acc)) :: slR encW 2 T_disk_write x.wv (s.getT x.n).pen :: M fvj) := o3
    refine o3.load 9 rfl rfl ?_
    have hwb := hw w (List.mem_append_right _ hwj)
    refine nextF_ok (L := L ++ Pr) (Rs := cellR w12 (encW w) T_disk_write :: cellR x.b [dv, x.wv] T_disk_thing :: slR encB8 1 T_uint8 dv (bytesOf ((s.getT x.n).syn ++ acc)) :: slR encW 2 T_disk_write x.wv (s.getT x.n).pen :: loopR lp (lo Lo .busy none) :: markR mk :: cellR b1 [ptr d] T_p_disk_Disk :: cellR k8 [.map (some km)] T_map_int_p_disk_thing :: kmapR QI km (fun z => if ∃ m ∈ kept, (m : Int) = z then thF tc0 z else none) :: cellR nx [.func (.func F_disk_Disk_Crash_1) #[] #[ptr f3]] T_func_int_v2 ::
      cellR f3 [fvj] T_sl_uint8 :: cellR d cd T_disk_Disk :: kmapR QS dm (dirF D') :: objR m' (.map es clock) :: kmapR QI tm (thF tc0) :: sepR tsn :: R) (i := 10) o3 rfl hf hfj hrj hlj fun fv' h4 hf4 o4 => ?_
    have o4 : Own h0 h4 (cellR w12 (encW w) T_disk_write :: cellR x.b [dv, x.wv] T_disk_thing :: slR encB8 1 T_uint8 dv (bytesOf ((s.getT x.n).syn ++ acc)) :: slR encW 2 T_disk_write x.wv (s.getT x.n).pen :: M fv') := o4
    have hr4 : ∀ z ∈ fj.tail, 0 ≤ z ∧ z ≤ 255 := fun z hz => hrj z (List.mem_of_mem_tail hz)
    have hl4 : fj.tail.length < 2 ^ 40 := by rw [List.length_tail]; omega
    rw [pBin_rem]
    refine ⟨by decide, ?_⟩
    rw [show ((fateOf fj : Nat) : Int).tmod 2 = ((fateOf fj % 2 : Nat) : Int) by rw [Int.tmod_eq_emod_of_nonneg (by omega)]; omega, pBin_eql, ifV_beq]
    refine ⟨fun h1' => ?_, fun h0' => ?_⟩
    · have hodd : fateOf fj % 2 = 1 := by omega
      rw [if_pos hodd] at hcr
      rw [pNil_ptr, pField_ptr]
      refine o4.load 1 rfl rfl ?_
      refine o4.ldN (cs' := encW w) 0 rfl rfl rfl ?_
      have hsub : ∀ y ∈ (s.getT x.n).syn ++ acc, y.off + y.s.size ≤ 1048576 := fun y hy => by
        rcases List.mem_append.1 hy with hy | hy
        · exact hw y (List.mem_append_left _ hy)
        · exact hw y (List.mem_append_right _ (hacc y hy))
      refine putB_ok (w := w) o4 2 rfl (bytes_len hsub) hwb fun v' h5 o5 => ?_
      rw [pNil_ptr, pField_ptr]
      have hv := o5.vw 2 rfl
      refine o5.st1 1 (cs' := [v', x.wv]) rfl rfl rfl hv.one hv.plain fun h6 o6 => ?_
      unfold sh_disk_Disk_Crash_k4
      rw [pBin_add, wI j (by omega)]
      refine hZ (_, ()) h6 hj' ⟨rfl, v', fv', fj.tail, acc ++ [w], hf4, hr4, hl4, fun y hy => ?_, by rw [List.length_append]; simp; omega, hcr, ?_⟩
      · rcases List.mem_append.1 hy with hy | hy
        · exact hacc y hy
        · rw [List.mem_singleton.1 hy]; exact hwj
      · have e : bytesOf ((s.getT x.n).syn ++ (acc ++ [w])) = putW (bytesOf ((s.getT x.n).syn ++ acc)) w := by
          unfold bytesOf; rw [← List.append_assoc, List.foldl_append]; rfl
        rw [e]
        exact o6.tail
    · have heven : ¬ fateOf fj % 2 = 1 := by omega
      rw [if_neg heven] at hcr
      unfold sh_disk_Disk_Crash_k4
      rw [pBin_add, wI j (by omega)]
      exact hZ (_, ()) h4 hj' ⟨rfl, dv, fv', fj.tail, acc, hf4, hr4, hl4, hacc, by omega, hcr, o4.tail⟩
  · have hd : (s.getT x.n).pen.drop j = [] := List.drop_eq_nil_of_le (by omega)
    rw [hd] at hcr
    simp only [crW, List.append_nil] at hcr
    rw [pNil_ptr, pField_ptr]
    refine o.st1 0 (cs' := [dv, .slice none 0 0]) rfl rfl rfl rfl rfl fun h2 o2 => ?_
    have o2 : Own h0 h2 (cellR x.b [dv, .slice none 0 0] T_disk_thing :: slR encB8 1 T_uint8 dv (bytesOf ((s.getT x.n).syn ++ acc)) :: slR encW 2 T_disk_write x.wv (s.getT x.n).pen :: M fvj) := o2
    refine o2.load 6 rfl rfl ?_
    refine o2.kput (Q := QI) (k := (x.n : Int)) (f' := fun z => if ∃ m ∈ kept ++ [x.n], (m : Int) = z then thF tc0 z else none) 7 rfl (fun z => ?_) fun h3 o3 => ?_
    · unfold KM.fset
      by_cases e : z = (x.n : Int)
      · subst e
        rw [if_pos ⟨x.n, by simp, rfl⟩, if_pos rfl, hth]
      · rw [if_neg e]
        congr 1
        simp only [List.mem_append, List.mem_singleton, eq_iff_iff]
        constructor
        · rintro ⟨m, hm | hm, e'⟩
          · exact ⟨m, hm, e'⟩
          · subst hm; exact absurd e'.symm e
        · rintro ⟨m, hm, e'⟩; exact ⟨m, .inl hm, e'⟩
    · have o4 := Own.nilS (enc := encW) (n := 2) (T := T_disk_write) o3
      have o5 := o4.front 4 [1, 2, 0] (by decide) (by decide)
      have o6 : Own h0 h3 ([cellR x.b [dv, .slice none 0 0] T_disk_thing, slR encB8 1 T_uint8 dv (bytesOf ((s.getT x.n).syn ++ acc)), slR encW 2 T_disk_write (.slice none 0 0) []] ++ (loopR lp (lo Lo .busy none) :: markR mk :: cellR b1 [ptr d] T_p_disk_Disk :: cellR k8 [.map (some km)] T_map_int_p_disk_thing :: kmapR QI km (fun z => if ∃ m ∈ kept ++ [x.n], (m : Int) = z then thF tc0 z else none) :: cellR nx [.func (.func F_disk_Disk_Crash_1) #[] #[ptr f3]] T_func_int_v2 ::
        cellR f3 [fvj] T_sl_uint8 :: cellR d cd T_disk_Disk :: kmapR QS dm (dirF D') :: objR m' (.map es clock) :: kmapR QI tm (thF tc0) :: sepR tsn :: (R ++ (L ++ Pr)))) := o5
      have hni : tsn[i]? = some nilR := by rw [← hE, List.getElem?_set_self (by simpa using hil)]
      have o7 := back2 o6 (k := 11) rfl hni
      have e1 : tsn.set i (sepR [cellR x.b [dv, .slice none 0 0] T_disk_thing, slR encB8 1 T_uint8 dv (bytesOf ((s.getT x.n).syn ++ acc)), slR encW 2 T_disk_write (.slice none 0 0) []]) =
          (tc.set i ⟨x.n, x.b, dv, .slice none 0 0⟩).map fun y => sepR (tRs (modTh s x.n fun t => ⟨t.syn ++ (crW t.pen fs).1, []⟩) y) := by
        rw [← hE, List.set_set]
        apply List.ext_getElem?
        intro n
        by_cases e : n = i
        · subst e
          rw [List.getElem?_set_self (by simpa using hil), List.getElem?_map, List.getElem?_set_self hil]
          simp only [Option.map_some]
          unfold tRs
          dsimp only
          rw [getT_mod hlt, if_pos rfl, hcr]
          rfl
        · rw [List.getElem?_set_ne (fun h => e h.symm), List.getElem?_map, List.getElem?_map, List.getElem?_set_ne (fun h => e h.symm)]
          cases hy : tc[n]? with
          | none => rfl
          | some y =>
            have hne : y.n ≠ x.n := fun e' => e (by
              have hn := (List.getElem?_eq_some_iff.1 hy)
              have hxx := (List.getElem?_eq_some_iff.1 hx)
              exact (List.getElem_inj (i := n) (j := i) (h₀ := by simpa using hn.1) (h₁ := by simpa using hxx.1) hnd).1 (by simp [hn.2, hxx.2, e']))
            simp only [Option.map_some]
            unfold tRs
            rw [getT_mod hlt, if_neg hne]
      have o8 : Own h0 h3 (loopR lp (lo Lo .busy none) :: markR mk :: cellR b1 [ptr d] T_p_disk_Disk :: cellR k8 [.map (some km)] T_map_int_p_disk_thing :: kmapR QI km (fun z => if ∃ m ∈ kept ++ [x.n], (m : Int) = z then thF tc0 z else none) :: cellR nx [.func (.func F_disk_Disk_Crash_1) #[] #[ptr f3]] T_func_int_v2 ::
        cellR f3 [fvj] T_sl_uint8 :: cellR d cd T_disk_Disk :: kmapR QS dm (dirF D') :: objR m' (.map es clock) :: kmapR QI tm (thF tc0) :: sepR (tsn.set i (sepR [cellR x.b [dv, .slice none 0 0] T_disk_thing, slR encB8 1 T_uint8 dv (bytesOf ((s.getT x.n).syn ++ acc)), slR encW 2 T_disk_write (.slice none 0 0) []])) :: (R ++ (L ++ Pr))) := o7
      rw [e1, ← List.append_assoc] at o8
      refine hK fvj dv (.slice none 0 0) h3 (by rw [hcr]; exact hfj) ?_
      exact o8

end
end Go.Proofs.YtdbkeklhjjlhbaaGreat

namespace Go.Proofs.YtdbkeklhjjlhbaaGreat
open Go Go.Mh
set_option linter.unusedVariables false

section
variable {h0 h : Heap} {L M ts l3 : List Res} {K : Value → Heap → Prop} {k d i : Nat} {c : DC} {s : Dk} {B : Bx} {x : TC} {U : List Nm} {N : Nat} {a b : Nm}

theorem FV.more {v : Value} {fs : List Int} (H : FV h0 L v fs) (P : List Res) : FV h0 (L ++ P) v fs := fun Rs h' o => by
  rw [← List.append_assoc] at o
  exact H Rs h' o.left
theorem FV.cons {v : Value} {fs : List Int} {r : Res} (H : FV h0 L v fs) : FV h0 (r :: L) v fs := fun Rs h' o => by
  refine H (Rs ++ [r]) h' ?_
  rw [List.append_assoc]; exact o

/-- The state behind the first things. -/
def crS (s : Dk) (ns : List Nat) (f : List Int) : List Th × List Int := ns.foldl crT (s.th, f)

theorem crS_snoc {ns : List Nat} {n : Nat} {f : List Int} : crS s (ns ++ [n]) f = crT (crS s ns f) n := by simp [crS]

theorem crT_len {y : List Th × List Int} {n : Nat} : (crT y n).1.length = y.1.length := by unfold crT; simp
theorem crS_len {ns : List Nat} {f : List Int} : (crS s ns f).1.length = s.th.length := by
  unfold crS
  have : ∀ (ns : List Nat) (y : List Th × List Int), (ns.foldl crT y).1.length = y.1.length := by
    intro ns
    induction ns with
    | nil => intro y; rfl
    | cons n ns ih => intro y; rw [List.foldl_cons, ih, crT_len]
  exact this ns _

theorem crW_sub : ∀ {l : List Wr} {f : List Int} {w : Wr}, w ∈ (crW l f).1 → w ∈ l
  | [], _, _, h => by simp [crW] at h
  | v :: l, f, w, h => by
    rw [crW] at h
    split at h
    · rcases List.mem_cons.1 h with rfl | h
      · exact List.mem_cons_self
      · exact List.mem_cons_of_mem _ (crW_sub h)
    · exact List.mem_cons_of_mem _ (crW_sub h)
theorem crW_len : ∀ {l : List Wr} {f : List Int}, (crW l f).1.length ≤ l.length
  | [], _ => Nat.le_refl _
  | v :: l, f => by
    have := crW_len (l := l) (f := f.tail)
    rw [crW]
    split
    · simp only [List.length_cons]; omega
    · simp only [List.length_cons]; omega
theorem crW_fs : ∀ {l : List Wr} {f : List Int}, (∀ z ∈ (crW l f).2, z ∈ f) ∧ (crW l f).2.length ≤ f.length
  | [], f => ⟨fun _ h => h, Nat.le_refl _⟩
  | v :: l, f => by
    have ih := crW_fs (l := l) (f := f.tail)
    have ht : f.tail.length ≤ f.length := by rw [List.length_tail]; omega
    rw [crW]
    split
    · exact ⟨fun z hz => List.mem_of_mem_tail (ih.1 z hz), by dsimp only; omega⟩
    · exact ⟨fun z hz => List.mem_of_mem_tail (ih.1 z hz), by omega⟩

/-- What is known of things holds of them while they are gone through. -/
theorem crS_inv (hl : ∀ t ∈ s.th, t.all.length ≤ N) (hw : ∀ t ∈ s.th, ∀ w ∈ t.all, w.off + w.s.size ≤ 1048576) (ns : List Nat) (f : List Int) :
    (∀ t ∈ (crS s ns f).1, t.all.length ≤ N ∧ ∀ w ∈ t.all, w.off + w.s.size ≤ 1048576) ∧ (∀ z ∈ (crS s ns f).2, z ∈ f) ∧ (crS s ns f).2.length ≤ f.length := by
  unfold crS
  have : ∀ (ns : List Nat) (y : List Th × List Int), (∀ t ∈ y.1, t.all.length ≤ N ∧ ∀ w ∈ t.all, w.off + w.s.size ≤ 1048576) →
      (∀ t ∈ (ns.foldl crT y).1, t.all.length ≤ N ∧ ∀ w ∈ t.all, w.off + w.s.size ≤ 1048576) ∧ (∀ z ∈ (ns.foldl crT y).2, z ∈ y.2) ∧ (ns.foldl crT y).2.length ≤ y.2.length := by
    intro ns
    induction ns with
    | nil => intro y hy; exact ⟨hy, fun _ h => h, Nat.le_refl _⟩
    | cons n ns ih =>
      intro y hy
      have hf := crW_fs (l := (y.1.getD n default).pen) (f := y.2)
      obtain ⟨h1, h2, h3⟩ := ih (crT y n) fun t ht => by
        unfold crT at ht
        obtain ⟨j, hj, rfl⟩ := List.mem_iff_getElem.1 ht
        rw [List.getElem_modify]
        have hj' : j < y.1.length := by simpa using hj
        have hm := hy _ (List.getElem_mem hj')
        split
        · obtain ⟨m1, m2⟩ := hm
          unfold Th.all at m1 m2 ⊢
          dsimp only
          rw [List.append_nil]
          refine ⟨?_, fun w hw' => ?_⟩
          · have := crW_len (l := y.1[j].pen) (f := y.2)
            rw [List.length_append] at m1 ⊢; omega
          · rcases List.mem_append.1 hw' with hw' | hw'
            · exact m2 w (List.mem_append_left _ hw')
            · exact m2 w (List.mem_append_right _ (crW_sub hw'))
        · exact hm
      exact ⟨h1, fun z hz => hf.1 z (h2 z hz), Nat.le_trans h3 hf.2⟩
  exact this ns (s.th, f) fun t ht => ⟨hl t ht, hw t ht⟩

theorem getD_mod {l : List Th} {n m : Nat} {f : Th → Th} (hn : m ≠ n) : (l.modify n f).getD m default = l.getD m default := by
  simp only [List.getD_eq_getElem?_getD, List.getElem?_modify]
  have e' : ¬ n = m := fun h => hn h.symm
  simp [e']

/-- A thing that was not gone through yet is as it was. -/
theorem crS_get {ns : List Nat} {n : Nat} {f : List Int} (hn : n ∉ ns) : (crS s ns f).1.getD n default = s.getT n := by
  unfold crS
  have : ∀ (ns : List Nat) (y : List Th × List Int), n ∉ ns → (ns.foldl crT y).1.getD n default = y.1.getD n default := by
    intro ns
    induction ns with
    | nil => intro y _; rfl
    | cons m ns ih =>
      intro y hn
      rw [List.foldl_cons, ih _ (fun h => hn (List.mem_cons_of_mem _ h))]
      unfold crT
      exact getD_mod fun e => hn (by rw [e]; exact List.mem_cons_self)
  exact this ns _ hn

theorem crT_mod {y : List Th × List Int} {n : Nat} {s' : Dk} (h : s'.th = y.1) : (modTh s' n fun t => ⟨t.syn ++ (crW t.pen y.2).1, []⟩) = { s' with th := (crT y n).1 } := by
  unfold modTh crT; rw [h]

end
end Go.Proofs.YtdbkeklhjjlhbaaGreat

namespace Go.Proofs.YtdbkeklhjjlhbaaGreat
open Go Go.Mh
set_option linter.unusedVariables false

section
variable {h0 h : Heap} {L M ts l3 : List Res} {K : Value → Heap → Prop} {k d i : Nat} {c : DC} {s : Dk} {B : Bx} {x : TC} {U : List Nm} {N : Nat} {a b : Nm}

theorem nb_get {tc tc' : List TC} (h : tc'.map (fun x => (x.n, x.b)) = tc.map (fun x => (x.n, x.b))) {i : Nat} {x : TC} (hx : tc[i]? = some x) : ∃ x', tc'[i]? = some x' ∧ x'.n = x.n ∧ x'.b = x.b := by
  have h1 := congrArg (·[i]?) h
  simp only [List.getElem?_map, hx, Option.map_some] at h1
  cases hy : tc'[i]? with
  | none => rw [hy] at h1; cases h1
  | some y => rw [hy] at h1; injection h1 with h1; injection h1 with h2 h3; exact ⟨y, rfl, h2, h3⟩

theorem nb_nums {tc tc' : List TC} (h : tc'.map (fun x => (x.n, x.b)) = tc.map (fun x => (x.n, x.b))) : tc'.map (·.n) = tc.map (·.n) := by
  have := congrArg (List.map Prod.fst) h
  simpa [List.map_map, Function.comp_def] using this

theorem nb_thF {tc tc' : List TC} (h : tc'.map (fun x => (x.n, x.b)) = tc.map (fun x => (x.n, x.b))) : thF tc' = thF tc := by
  funext z
  unfold thF
  induction tc generalizing tc' with
  | nil => rw [List.map_eq_nil_iff.1 h]
  | cons y tc ih =>
    cases tc' with
    | nil => cases h
    | cons y' tc' =>
      simp only [List.map_cons, List.cons.injEq] at h
      obtain ⟨h1, h2⟩ := h
      injection h1 with h3 h4
      simp only [List.find?_cons, h3]
      split
      · simp [h4]
      · exact ih h2

theorem nb_set {tc tc' : List TC} (h : tc'.map (fun x => (x.n, x.b)) = tc.map (fun x => (x.n, x.b))) {i : Nat} {x : TC} (hx : tc'[i]? = some x) (dv wv : Value) : (tc'.set i ⟨x.n, x.b, dv, wv⟩).map (fun x => (x.n, x.b)) = tc.map (fun x => (x.n, x.b)) := by
  rw [List.map_set, ← h]
  apply List.ext_getElem?
  intro n
  by_cases e : n = i
  · subst e
    rw [List.getElem?_set_self (by simpa using (List.getElem?_eq_some_iff.1 hx).1), List.getElem?_map, hx]; rfl
  · rw [List.getElem?_set_ne (fun h => e h.symm)]

theorem thF_filter {tc : List TC} {ns : List Nat} : thF (tc.filter fun x => decide (x.n ∈ ns)) = fun z => if ∃ m ∈ ns, (m : Int) = z then thF tc z else none := by
  funext z
  unfold thF
  induction tc with
  | nil => simp
  | cons y tc ih =>
    rw [List.filter_cons]
    by_cases hy : y.n ∈ ns
    · rw [decide_eq_true hy]
      simp only [if_true, List.find?_cons]
      by_cases e : (y.n : Int) = z
      · rw [decide_eq_true e, if_pos ⟨y.n, hy, e⟩]
      · rw [decide_eq_false e]; exact ih
    · rw [decide_eq_false hy]
      simp only [Bool.false_eq_true, if_false, List.find?_cons]
      rw [ih]
      by_cases hz : ∃ m ∈ ns, (m : Int) = z
      · rw [if_pos hz, if_pos hz]
        have e : ¬ (y.n : Int) = z := fun e => by
          obtain ⟨m, hm, e'⟩ := hz
          have : m = y.n := by omega
          exact hy (this ▸ hm)
        rw [decide_eq_false e]
      · rw [if_neg hz, if_neg hz]

/-- Behind the changes that stay. -/
theorem crashT_ok {nx f3 : Nat} {fv0 fv : Value} {fs0 fs : List Int} {k : Nat} (hk : k ≤ s.cp.length)
    (o : Own h0 h (cellR nx [.func (.func F_disk_Disk_Crash_1) #[] #[ptr f3]] T_func_int_v2 :: cellR f3 [fv] T_sl_uint8 :: cellR d (dC c s) T_disk_Disk :: kmapR QS c.dm (dirF (dirOf (s.cs ++ s.cp.take k))) :: kmapR QS c.nm (dirF s.now) :: kmapR QI c.tm (thF c.tc) :: slR encC 1 T_disk_change c.pv c.vs :: sepR (tsR c s) :: roR B :: L))
    (H : DOk B c s) (hI : s.Inv U N) (hN : N ≤ 1048576) (hl : U.length ≤ 12) (hf : FV h0 L fv0 fs0) (hA : FA fv0 fs0 fv fs) (hr : ∀ z ∈ fs, 0 ≤ z ∧ z ≤ 255) (hfl : fs.length < 2 ^ 40)
    (hK : PostD h0 L d B K (.tuple #[]) { cs := s.cs ++ s.cp.take k, cp := [], th := (crS s (namedL (dirOf (s.cs ++ s.cp.take k)) s.th.length) fs).1, armed := 0, off := false }) :
    pNil (ptr d) fun t47 => pField 0 t47 fun t48 => pLoad h t48 fun t49 => callS Tryz.prog F_maps_Clone_disk_directory_string_int [t49] h fun t50 h_9 =>
    pNil (ptr d) fun t51 => pField 1 t51 fun t52 => pStore 1 t52 t50 h_9 fun u_2 h_10 => pNil (ptr d) fun t53 => pField 3 t53 fun t54 => pStore 1 t54 (.slice none 0 0) h_10 fun u_3 h_11 =>
    pMakeMap h_11 fun t55 h_12 => pBox T_map_int_p_disk_thing (.map none) h_12 fun kept8 h_13 => pStore 1 kept8 t55 h_13 fun u_4 h_14 => callS Tryz.prog F_disk_Disk_named [ptr d] h_14 fun t57 h_15 =>
    rangeH Tryz.prog t57 [58, 59] (h_15.size + 1) (h_15.push (.deferred (some []))) (fun L x hh R => sh_disk_Disk_Crash_B2 Tryz.prog h_15 (ptr nx) kept8 L x.1 x.2.1 hh R)
    (fun h_27 => pLoad h_27 kept8 fun t92 => pNil (ptr d) fun t93 => pField 2 t93 fun t94 => pStore 1 t94 t92 h_27 fun u_9 h_28 => pNil (ptr d) fun t95 => pField 6 t95 fun t96 => pStore 1 t96 (.bool false) h_28 fun u_10 h_29 =>
      pNil (ptr d) fun t97 => pField 5 t97 fun t98 => pStore 1 t98 (.int .i64 0) h_29 fun u_11 h_30 => takeM (h_15.size :: []) h_30 fun h_31 => K (.tuple #[]) h_31)
    (fun h_32 => takeM (h_15.size :: []) h_32 fun h_33 => K (.tuple #[]) h_33) [] := by
  have hsub : ∀ c ∈ s.cs ++ s.cp.take k, c ∈ s.cs ++ s.cp := fun c hc => by
    rcases List.mem_append.1 hc with hc | hc
    · exact List.mem_append_left _ hc
    · exact List.mem_append_right _ (List.mem_of_mem_take hc)
  have hsl : (s.cs ++ s.cp.take k).Sublist (s.cs ++ s.cp) := List.Sublist.append (List.Sublist.refl _) (List.take_sublist _ _)
  have hok : OkL [] (s.cs ++ s.cp.take k) := by
    have := hI.ok
    rw [← List.take_append_drop k s.cp, ← List.append_assoc] at this
    exact this.left
  have hU : ∀ a ∈ keysOf (dirOf (s.cs ++ s.cp.take k)), a ∈ U := dir_nm (U := U) _ [] (fun a h => by cases h) fun c hc => hI.nm c (hsub c hc)
  have hinj : ((dirOf (s.cs ++ s.cp.take k)).map (·.2)).Nodup := dir_inj _ [] .nil .nil (hI.inj.sublist (hsl.filterMap _)) (fun n h => by cases h) hok
  have hval : ∀ y ∈ dirOf (s.cs ++ s.cp.take k), y.2 < s.th.length := fun y hy => by
    rcases dir_val _ [] _ hy hok with h | ⟨a, h⟩
    · cases h
    · exact hI.num a _ (hsub _ h)
  have hnk : ∀ m ∈ namedL (dirOf (s.cs ++ s.cp.take k)) s.th.length, ∃ (i : Nat) (x : TC), c.tc[i]? = some x ∧ x.n = m ∧ thF c.tc m = some (ptr x.b) := fun m hm => by
    obtain ⟨_, ⟨a, m'⟩, hy, rfl⟩ := namedL_mem.1 hm
    obtain ⟨i, x, hx, e⟩ := dOk_at H hI.ok ((dlook_mem (keys_dirOf _)).2 hy)
    exact ⟨i, x, hx, e, by rw [← e]; exact thF_at H hx⟩
  generalize hD : dirOf (s.cs ++ s.cp.take k) = D' at o hU hinj hval hnk hK
  have hkD : (keysOf D').Nodup := by rw [← hD]; exact keys_dirOf _
  rw [pNil_ptr, pField_ptr]
  refine o.load 2 rfl rfl ?_
  refine mcloneB_ok o (i := 3) rfl fun m' h1 o1 => ?_
  rw [pNil_ptr, pField_ptr]
  refine o1.st1 3 (cs' := [.map (some c.dm), .map (some m'), .map (some c.tm), c.pv, I s.th.length, I s.armed, .bool s.off]) rfl rfl rfl rfl rfl fun h2 o2 => ?_
  rw [pNil_ptr, pField_ptr]
  refine o2.st1 3 (cs' := [.map (some c.dm), .map (some m'), .map (some c.tm), .slice none 0 0, I s.th.length, I s.armed, .bool s.off]) rfl rfl rfl rfl rfl fun h3 o3 => ?_
  have o3 : Own h0 h3 (kmapR QS m' (dirF D') :: cellR nx [.func (.func F_disk_Disk_Crash_1) #[] #[ptr f3]] T_func_int_v2 :: cellR f3 [fv] T_sl_uint8 :: cellR d [.map (some c.dm), .map (some m'), .map (some c.tm), .slice none 0 0, I s.th.length, I s.armed, .bool s.off] T_disk_Disk :: kmapR QS c.dm (dirF D') :: kmapR QS c.nm (dirF s.now) :: kmapR QI c.tm (thF c.tc) :: slR encC 1 T_disk_change c.pv c.vs :: sepR (tsR c s) :: roR B :: L) := o3
  refine o3.kmk QI fun km h4 o4 => ?_
  refine o4.box fun k8 h5 o5 => ?_
  refine o5.st1 0 (cs' := [.map (some km)]) rfl rfl rfl rfl rfl fun h6 o6 => ?_
  refine callS_of (lk_disk_Disk_named _ ?_)
  unfold sh_disk_Disk_named
  refine o6.box fun b1 h7 o7 => ?_
  have o7 : Own h0 h7 (cellR b1 [ptr d] T_p_disk_Disk :: cellR k8 [.map (some km)] T_map_int_p_disk_thing :: kmapR QI km (fun _ => none) :: kmapR QS m' (dirF D') :: cellR nx [.func (.func F_disk_Disk_Crash_1) #[] #[ptr f3]] T_func_int_v2 :: cellR f3 [fv] T_sl_uint8 :: cellR d [.map (some c.dm), .map (some m'), .map (some c.tm), .slice none 0 0, I s.th.length, I s.armed, .bool s.off] T_disk_Disk :: kmapR QS c.dm (dirF D') :: kmapR QS c.nm (dirF s.now) :: kmapR QI c.tm (thF c.tc) :: slR encC 1 T_disk_change c.pv c.vs :: sepR (tsR c s) :: roR B :: L) := o7
  obtain ⟨es, clock, hm, t, ht, hfm⟩ := o7.get 3 rfl
  have o8 := o7.conv 3 (r' := objR m' (.map es clock)) rfl hm fun b hb => hb
  have o9 := o8.front 12 [0, 1, 2, 4, 5, 6, 7, 3, 9, 11] (by decide) (by decide)
  have ek : (fun z => if ∃ m ∈ (namedL D' s.th.length).take 0, (m : Int) = z then thF c.tc z else none) = fun _ => none := by funext z; simp
  have o10 : Own h0 h7 (crL b1 k8 km nx f3 d m' fv es clock ((namedL D' s.th.length).take 0) [.map (some c.dm), .map (some m'), .map (some c.tm), .slice none 0 0, I s.th.length, I s.armed, .bool s.off] c.dm c.tm D' c.tc c.tc s ([roR B] ++ L)) := by
    unfold crL; rw [ek]; exact o9
  have inv := crS_inv (s := s) (N := N) hI.lw hI.wr
  refine o10.range (named_iter (n := s.th.length) (b := b1) (d := d) (nm := m') (tm := c.tm) (tc := c.tc) ht hfm hU hl hkD hinj hval) (by rintro i y i' ⟨_, _, rfl⟩; rfl)
    (fun i Rs => ∃ fvi tci, i ≤ (namedL D' s.th.length).length ∧ tci.map (fun x => (x.n, x.b)) = c.tc.map (fun x => (x.n, x.b)) ∧ FA fv0 fs0 fvi (crS s ((namedL D' s.th.length).take i) fs).2 ∧
      Rs = crL b1 k8 km nx f3 d m' fvi es clock ((namedL D' s.th.length).take i) [.map (some c.dm), .map (some m'), .map (some c.tm), .slice none 0 0, I s.th.length, I s.armed, .bool s.off] c.dm c.tm D' c.tc tci { s with th := (crS s ((namedL D' s.th.length).take i) fs).1 } ([roR B] ++ L))
    (fun _ => False) (fun _ _ => False) ⟨fv, c.tc, Nat.zero_le _, rfl, hA, rfl⟩ ?_ ?_ ?_ (fun _ _ h => h.elim) (fun _ _ _ h => h.elim)
  · rintro i Rs h' ⟨fvi, tci, _, _, _, rfl⟩ o'
    exact ⟨hcell_of (o'.get 0 rfl) rfl, hcell_of (o'.get 5 rfl) rfl, hcell_of (o'.get 5 rfl) rfl, o'.get 7 rfl, o'.get 8 rfl⟩
  · rintro M i y i' Rs Pr h' R ⟨hi, rfl, rfl⟩ ⟨fvi, tci, _, hnb, hAi, rfl⟩ o' hN' _ _
    have hget : (namedL D' s.th.length).getD i 0 = (namedL D' s.th.length)[i] := by rw [List.getD_eq_getElem?_getD, List.getElem?_eq_getElem hi]; rfl
    have hmem : (namedL D' s.th.length)[i] ∈ namedL D' s.th.length := List.getElem_mem hi
    obtain ⟨j, x, hx, en, eth⟩ := hnk _ hmem
    obtain ⟨x', hx', en', eb'⟩ := nb_get hnb hx
    dsimp only [valsOf]
    rw [hget, eth]
    unfold sh_disk_Disk_Crash_B2
    refine o'.begin 0 rfl fun h4 o4 => ?_
    have hnot : x'.n ∉ (namedL D' s.th.length).take i := by
      rw [en', en]
      intro hm
      have hnd : (namedL D' s.th.length).Nodup := List.Nodup.sublist List.filter_sublist List.nodup_range
      obtain ⟨q, hq, e⟩ := List.mem_iff_getElem.1 hm
      rw [List.getElem_take] at e
      have hq' : q < i := by rw [List.length_take] at hq; omega
      have := (List.getElem_inj (i := q) (j := i) (h₀ := by omega) (h₁ := hi) hnd).1 e
      omega
    have hgt : ({ s with th := (crS s ((namedL D' s.th.length).take i) fs).1 } : Dk).getT x'.n = s.getT x'.n := crS_get hnot
    obtain ⟨i1, i2, i3⟩ := inv ((namedL D' s.th.length).take i) fs
    have hlen := crS_len (s := s) (ns := (namedL D' s.th.length).take i) (f := fs)
    have hltx : x'.n < s.th.length := by rw [en']; exact H.lt x (List.mem_of_getElem? hx)
    have hmx := th_mem hltx
    have hgl := hI.lw _ hmx
    have hgw := hI.wr _ hmx
    have e0 : (Option.some (ptr x.b)).getD (Value.pointer none) = ptr x'.b := by rw [eb']; rfl
    have e1 : I (((namedL D' s.th.length)[i] : Nat) : Int) = I (x'.n : Int) := by rw [en', en]
    rw [e0, e1]
    refine crThing_ok (s := { s with th := (crS s ((namedL D' s.th.length).take i) fs).1 }) (R := [roR B]) (L := L) (Pr := Pr) (x := x') (i := j) (fs := (crS s ((namedL D' s.th.length).take i) fs).2) (fv0 := fv0) (fs0 := fs0) o4 hx' (by rw [nb_nums hnb]; exact H.nd) (by show _ < (crS s _ fs).1.length; rw [hlen]; exact hltx)
      (by rw [en', eb', en]; exact eth) (hf.more Pr) hAi (fun z hz => hr z (i2 z hz)) (by omega) (by rw [hgt]; exact hgw) (by rw [hgt]; omega) fun fv' dv' wv' h5 hA5 o5 => ?_
    refine hN' _ h5 ⟨fv', tci.set j ⟨x'.n, x'.b, dv', wv'⟩, by omega, nb_set hnb hx' dv' wv', ?_, rfl⟩ ?_
    · rw [List.take_succ_eq_append_getElem hi, crS_snoc, ← en, ← en']
      exact hA5
    · rw [List.take_succ_eq_append_getElem hi, crS_snoc, ← en, ← en']
      rw [crT_mod (y := crS s ((namedL D' s.th.length).take i) fs) rfl] at o5
      exact o5
  · rintro i h' Rs rfl ⟨fvi, tci, _, hnb, _, rfl⟩ o'
    rw [List.take_length] at o'
    refine o'.load 2 rfl rfl ?_
    rw [pNil_ptr, pField_ptr]
    refine o'.st1 6 (cs' := [.map (some c.dm), .map (some m'), .map (some km), .slice none 0 0, I s.th.length, I s.armed, .bool s.off]) rfl rfl rfl rfl rfl fun h8 p8 => ?_
    rw [pNil_ptr, pField_ptr]
    refine p8.st1 6 (cs' := [.map (some c.dm), .map (some m'), .map (some km), .slice none 0 0, I s.th.length, I s.armed, .bool false]) rfl rfl rfl rfl rfl fun h9 p9 => ?_
    rw [pNil_ptr, pField_ptr]
    refine p9.st1 6 (cs' := [.map (some c.dm), .map (some m'), .map (some km), .slice none 0 0, I s.th.length, I 0, .bool false]) rfl rfl rfl rfl rfl fun h10 p10 => ?_
    refine p10.take1 0 rfl fun h11 p11 => ?_
    have hlen := crS_len (s := s) (ns := namedL D' s.th.length) (f := fs)
    have p12 := p11.conv 8 (r' := kmapR QS m' (dirF D')) rfl ⟨es, clock, p11.get 8 rfl, t, ht, hfm⟩ fun b hb => hb
    have hsq : (tci.filter fun x => decide (x.n ∈ namedL D' s.th.length)).Sublist tci := List.filter_sublist
    have p13 := p12.conv 10 (r' := sepR ((tci.filter fun x => decide (x.n ∈ namedL D' s.th.length)).map fun x => sepR (tRs { s with th := (crS s (namedL D' s.th.length) fs).1 } x))) rfl (sep_sub (hsq.map _) (p12.get 10 rfl)) fun b hb => by
      obtain ⟨r, hr', hb⟩ := hb
      exact ⟨r, (hsq.map _).mem hr', hb⟩
    have p14 := Own.nilS (enc := encC) (n := 1) (T := T_disk_change) p13
    have p15 := p14.front 13 [7, 8, 9, 4, 0, 11, 12] (by decide) (by decide)
    refine hK { dm := c.dm, nm := m', tm := km, pv := .slice none 0 0, vs := [], tc := tci.filter fun x => decide (x.n ∈ namedL D' s.th.length) } B h11 (fun _ h => h) ?_ ?_
    · have hmemn : ∀ n, n ∈ namedL D' s.th.length → ∃ x ∈ tci.filter (fun x => decide (x.n ∈ namedL D' s.th.length)), x.n = n := fun n hn => by
        obtain ⟨j, x, hx, en, _⟩ := hnk n hn
        obtain ⟨x', hx', en', _⟩ := nb_get hnb hx
        exact ⟨x', List.mem_filter.2 ⟨List.mem_of_getElem? hx', decide_eq_true (by rw [en', en]; exact hn)⟩, en'.trans en⟩
      refine ⟨rfl, fun i v y hv _ => (by simp at hv), ?_, fun y hy => ?_, fun y hy => ?_, fun a n hm' => (by cases hm')⟩
      · have hnn : (tci.map (·.n)).Nodup := by rw [nb_nums hnb]; exact H.nd
        exact hnn.sublist (hsq.map _)
      · show y.n < (crS s _ fs).1.length
        rw [hlen]
        have := List.mem_filter.1 hy
        exact (namedL_mem.1 (of_decide_eq_true this.2)).1
      · have hy' : y ∈ D' := by rw [← hD]; exact hy
        exact hmemn y.2 (namedL_mem.2 ⟨hval y hy', y, hy', rfl⟩)
    · unfold dL dC
      dsimp only
      rw [hD]
      have e1 : Dk.now { cs := s.cs ++ s.cp.take k, cp := [], th := (crS s (namedL D' s.th.length) fs).1, armed := 0, off := false } = D' := by
        unfold Dk.now; dsimp only; rw [List.append_nil, hD]
      have e2 : (fun z => if ∃ m ∈ namedL D' s.th.length, (m : Int) = z then thF c.tc z else none) = thF (tci.filter fun x => decide (x.n ∈ namedL D' s.th.length)) := by
        rw [thF_filter, nb_thF hnb]
      rw [e1, ← e2, hlen]
      exact p15

theorem crashB_ok {fv : Value} {fs : List Int} (o : Own h0 h (dL d c s (roR B :: L))) (H : DOk B c s) (hI : s.Inv U N) (hN : N ≤ 1048576) (hl : U.length ≤ 12) (hf : FV h0 L fv fs) (hr : ∀ z ∈ fs, 0 ≤ z ∧ z ≤ 255) (hfl : fs.length < 2 ^ 40)
    (hfv : fv.cells = #[fv]) (hK : PostD h0 L d B K (.tuple #[]) (mCrash s fs)) : callS Tryz.prog F_disk_Disk_Crash [ptr d, fv] h K := by
  refine callS_of (lk_disk_Disk_Crash _ _ ?_)
  unfold sh_disk_Disk_Crash
  refine o.box fun f3 h1 o1 => ?_
  have o1 : Own h0 h1 (cellR f3 [fv] T_sl_uint8 :: dL d c s (roR B :: L)) := by
    have : (Value.cells fv).toList = [fv] := by rw [hfv]
    rw [this] at o1; exact o1
  rw [pEq_ptr_nil, Option.isNone_some, ifV_false]
  refine o1.box fun nx h2 o2 => ?_
  refine o2.st1 0 (cs' := [.func (.func F_disk_Disk_Crash_1) #[] #[ptr f3]]) rfl rfl rfl rfl rfl fun h3 o3 => ?_
  refine o3.load 0 rfl rfl ?_
  have o3 : Own h0 h3 ((cellR nx [.func (.func F_disk_Disk_Crash_1) #[] #[ptr f3]] T_func_int_v2 :: cellR f3 [fv] T_sl_uint8 :: cellR d (dC c s) T_disk_Disk :: kmapR QS c.dm (dirF (dirOf s.cs)) :: kmapR QS c.nm (dirF s.now) :: kmapR QI c.tm (thF c.tc) :: slR encC 1 T_disk_change c.pv c.vs :: sepR (tsR c s) :: [roR B]) ++ L) := o3
  rw [pNil_ptr, pField_ptr]
  refine o3.load 2 rfl rfl ?_
  refine (o3.vw 6 rfl).len ?_
  have hlc := hI.lc
  rw [List.length_append] at hlc
  rw [H.lv, pBin_add, wI s.cp.length (by omega)]
  refine nextF_ok (L := L) (i := 1) o3 rfl hf (fun _ h => h) hr hfl fun fv' h4 hA4 o4 => ?_
  refine ⟨o4.load 2 rfl rfl rfl, ?_⟩
  rw [pBin_rem]
  refine ⟨by omega, ?_⟩
  rw [show ((fateOf fs : Nat) : Int).tmod ((s.cp.length + 1 : Nat) : Int) = ((fateOf fs % (s.cp.length + 1) : Nat) : Int) by rw [Int.tmod_eq_emod_of_nonneg (by omega)]; rfl]
  have hkl : fateOf fs % (s.cp.length + 1) ≤ s.cp.length := by
    have := Nat.mod_lt (fateOf fs) (show 0 < s.cp.length + 1 by omega)
    omega
  unfold mCrash at hK
  dsimp only at hK
  generalize fateOf fs % (s.cp.length + 1) = k at hkl hK
  rw [pNil_ptr, pField_ptr]
  refine o4.load 2 rfl rfl ?_
  refine (o4.vw 6 rfl).subA (a := 0) (j := k) (fun _ => rfl) rfl rfl (Nat.zero_le _) (by rw [H.lv]; exact hkl) fun v' hv' => ?_
  have hlt : (((c.vs.drop 0).take (k - 0))).length = k := by rw [List.drop_zero, List.length_take, Nat.sub_zero, H.lv]; omega
  refine (hv' h4 (o4.vw 6 rfl)).len ?_
  rw [hlt]
  have hrt : ∀ z ∈ fs.tail, 0 ≤ z ∧ z ≤ 255 := fun z hz => hr z (List.mem_of_mem_tail hz)
  refine LoopH_count k (fun i y h' => y.1 = I i ∧ Own h0 h' (cellR nx [.func (.func F_disk_Disk_Crash_1) #[] #[ptr f3]] T_func_int_v2 :: cellR f3 [fv'] T_sl_uint8 :: cellR d (dC c s) T_disk_Disk :: kmapR QS c.dm (dirF (dirOf (s.cs ++ s.cp.take i))) :: kmapR QS c.nm (dirF s.now) :: kmapR QI c.tm (thF c.tc) :: slR encC 1 T_disk_change c.pv c.vs :: sepR (tsR c s) :: roR B :: L)) ⟨rfl, by rw [List.take_zero, List.append_nil]; exact o4⟩ ?_
  rintro i ⟨y, ⟨⟩⟩ h5 Z hi ⟨hy, o5⟩ hZ
  dsimp only at hy hZ ⊢
  subst hy
  unfold sh_disk_Disk_Crash_L1
  rw [pBin_lss, ifV_dec]
  refine ⟨fun hlt' => ?_, fun hge => ?_⟩
  · have hi' : i < k := by omega
    have hiv : i < c.vs.length := by rw [H.lv]; omega
    have hip : i < s.cp.length := by omega
    refine (hv' h5 (o5.vw 6 rfl)).atN (fun _ => rfl) (by rw [hlt]; exact hi') ?_
    have ee : ((c.vs.drop 0).take (k - 0))[i]'(by rw [hlt]; exact hi') = c.vs[i] := by simp
    rw [ee]
    refine o5.box fun c7 h6 o6 => ?_
    refine o6.st (l := [clv c.vs[i]]) (cs' := [clv c.vs[i]]) 0 rfl rfl rfl rfl rfl (fun u hu => by simp at hu; subst hu; exact clv_plain _) fun h7 o7 => ?_
    rw [pField_ptr]
    refine o7.load 0 rfl rfl ?_
    rw [pNil_ptr, pField_ptr]
    refine o7.load 3 rfl rfl ?_
    refine chDo o7 (i := 4) (j := 9) rfl rfl (by decide) (H.ch i _ s.cp[i] (List.getElem?_eq_getElem hiv) (List.getElem?_eq_getElem hip)) fun h8 o8 => ?_
    rw [pBin_add, wI i (by omega)]
    refine hZ (_, ()) h8 hi' ⟨rfl, ?_⟩
    rw [List.take_succ_eq_append_getElem hip, ← List.append_assoc, dirOf_snoc]
    exact o8.tail
  · have hik : i = k := by omega
    subst hik
    exact crashT_ok hkl o5 H hI hN hl hf hA4 hrt (by rw [List.length_tail]; omega) hK

end
end Go.Proofs.YtdbkeklhjjlhbaaGreat

namespace Go.Proofs.YtdbkeklhjjlhbaaGreat
open Go Go.Mh
set_option linter.unusedVariables false

section
variable {h0 h : Heap} {L M ts l3 : List Res} {K : Value → Heap → Prop} {k d i : Nat} {c : DC} {s : Dk} {B : Bx} {x : TC} {U : List Nm} {N : Nat} {a b : Nm}

theorem cloneB_change {xs : List Clo} {v : Value} (o : Own h0 h L) (H : Vw encC 1 h v xs) (hl : xs.length ≤ 2 ^ 40) (hK : ∀ v' h', Own h0 h' (slR encC 1 T_disk_change v' xs :: L) → K v' h') : callS Tryz.prog F_slices_Clone_sl_disk_change_disk_change [v] h K :=
  callS_of (lk_slices_Clone_sl_disk_change_disk_change _ (clone_gen o H (fun _ => rfl) encC_plain rfl (by decide) (by omega) hK))

/-- The loop of a copy: the things. -/
theorem copyT_ok {e m1 m2 m3 : Nat} {pv : Value}
    (o : Own h0 h (cellR e [.map (some m1), .map (some m2), .map (some m3), pv, I s.th.length, I s.armed, .bool s.off] T_disk_Disk :: kmapR QS m1 (dirF (dirOf s.cs)) :: kmapR QS m2 (dirF s.now) :: kmapR QI m3 (fun _ => none) :: slR encC 1 T_disk_change pv c.vs :: dL d c s (roR B :: L)))
    (H : DOk B c s) (hI : s.Inv U N) (hN : N ≤ 1048576) (hK : ∀ e c' h', DOk B c' s → Own h0 h' (dL e c' s (dL d c s (roR B :: L))) → K (ptr e) h') : sh_disk_Disk_Copy_C1 Tryz.prog (ptr d) K (ptr e) h := by
  unfold sh_disk_Disk_Copy_C1
  rw [pNil_ptr, pField_ptr]
  refine o.load 5 rfl rfl ?_
  obtain ⟨es, clock, hm, t, ht, hf⟩ := o.get 8 rfl
  have o1 : Own h0 h (sepR [] :: cellR e [.map (some m1), .map (some m2), .map (some m3), pv, I s.th.length, I s.armed, .bool s.off] T_disk_Disk :: kmapR QS m1 (dirF (dirOf s.cs)) :: kmapR QS m2 (dirF s.now) :: kmapR QI m3 (fun _ => none) :: slR encC 1 T_disk_change pv c.vs :: dL d c s (roR B :: L)) := Own.sep (l := []) o
  have o2 := o1.conv 9 (r' := objR c.tm (.map es clock)) rfl hm fun b hb => hb
  have o3 : Own h0 h (cellR e [.map (some m1), .map (some m2), .map (some m3), pv, I s.th.length, I s.armed, .bool s.off] T_disk_Disk :: kmapR QS m1 (dirF (dirOf s.cs)) :: kmapR QS m2 (dirF s.now) :: kmapR QI m3 (fun _ => none) :: slR encC 1 T_disk_change pv c.vs :: sepR [] :: cellR d (dC c s) T_disk_Disk :: kmapR QS c.dm (dirF (dirOf s.cs)) :: kmapR QS c.nm (dirF s.now) :: objR c.tm (.map es clock) :: slR encC 1 T_disk_change c.pv c.vs :: sepR (tsR c s) :: roR B :: L) := o2.front 6 [1, 2, 3, 4, 5, 0] (by decide) (by decide)
  have hle : ∀ y ∈ t, ∃ (i : Nat) (x : TC), c.tc[i]? = some x ∧ y.1 = (x.n : Int) ∧ y.2.1 = ptr x.b := fun y hy => by
    have hlk : KM.lk y.1 t = some y.2.1 := by
      have : ∀ (t : List (KM.Ent Int)), (t.map (·.1)).Nodup → y ∈ t → KM.lk y.1 t = some y.2.1 := by
        intro t
        induction t with
        | nil => intro _ h; cases h
        | cons z t ih =>
          intro hn he
          have hn' := List.nodup_cons.1 hn
          rw [KM.lk]
          rcases List.mem_cons.1 he with rfl | he
          · rw [if_pos rfl]
          · rw [if_neg (fun h : z.1 = y.1 => hn'.1 (List.mem_map.2 ⟨y, he, h.symm⟩))]
            exact ih hn'.2 he
      exact this t ht.keys hy
    rw [← hf] at hlk
    unfold thF at hlk
    cases hfd : c.tc.find? fun x => decide ((x.n : Int) = y.1) with
    | none => rw [hfd] at hlk; cases hlk
    | some x =>
      rw [hfd] at hlk
      obtain ⟨i, hi⟩ := List.getElem?_of_mem (List.mem_of_find?_eq_some hfd)
      have := List.find?_some hfd
      simp only [decide_eq_true_eq] at this
      exact ⟨i, x, hi, this.symm, (Option.some.inj hlk).symm⟩
  refine o3.rangeM (κ := Int) (o3.get 9 rfl) fun r h1 o4 => ?_
  refine LoopH_down (fun k y h' => ∃ (se : List (KM.Ent Int)) (tc : List TC), k = t.length - se.length ∧ (∀ e ∈ se, e ∈ t) ∧ se.Nodup ∧ tc.map (fun x => (x.n : Int)) = se.map (·.1) ∧
    Own h0 h' (itR r c.tm clock se :: cellR e [.map (some m1), .map (some m2), .map (some m3), pv, I s.th.length, I s.armed, .bool s.off] T_disk_Disk :: kmapR QS m1 (dirF (dirOf s.cs)) :: kmapR QS m2 (dirF s.now) :: kmapR QI m3 (thF tc) :: slR encC 1 T_disk_change pv c.vs :: sepR (tc.map fun x => sepR (tRs s x)) ::
      cellR d (dC c s) T_disk_Disk :: kmapR QS c.dm (dirF (dirOf s.cs)) :: kmapR QS c.nm (dirF s.now) :: objR c.tm (.map es clock) :: slR encC 1 T_disk_change c.pv c.vs :: sepR (tsR c s) :: roR B :: L)) (k0 := t.length) ⟨[], [], rfl, fun _ h => (by cases h), .nil, rfl, o4⟩ ?_
  clear o o1 o2 o3 o4
  rintro k ⟨⟩ h2 Z ⟨se, tc, rfl, hs, hn, htc, o⟩ hZ
  unfold sh_disk_Disk_Copy_L2
  refine o.nextM 0 rfl (o.get 10 rfl) ht hs (fun y hy hne h3 o3 => ?_) fun hall => ?_
  · rw [pExt0, ifV_true]
    refine o3.entryM 0 rfl (o3.get 10 rfl) ht hy ?_
    obtain ⟨i, x, hx, e1, e2⟩ := hle y hy
    have hn' : (se ++ [y]).Nodup := by
      rw [List.nodup_append]
      exact ⟨hn, by simp, fun a ha b hb hab => by rw [List.mem_singleton.1 hb] at hab; exact hne (hab ▸ ha)⟩
    have hs' : ∀ x ∈ se ++ [y], x ∈ t := fun x hx => by
      rcases List.mem_append.1 hx with hx | hx
      · exact hs x hx
      · rw [List.mem_singleton.1 hx]; exact hy
    have hlen : (se ++ [y]).length ≤ t.length := by classical exact len_of_sub hn' hs'
    rw [pExt0, pExt1, pNil_ptr, pField_ptr]
    refine o3.load 1 rfl rfl ?_
    rw [e2]
    obtain ⟨f1, f2, f3⟩ := ts_fact (o3.get 12 rfl) hx
    have c0 : hcell h3 ⟨x.b, 0, none⟩ = some x.dv := hcell_of f1 rfl
    have c1 : hcell h3 ⟨x.b, 1, none⟩ = some x.wv := hcell_of f1 rfl
    rw [pNil_ptr, pField_ptr]
    simp only [Nat.add_zero, pLoad_ptr, c0]
    rw [pNil_ptr, pField_ptr]
    simp only [Nat.zero_add, pLoad_ptr, c1]
    have hm := th_mem (s := s) (H.lt x (List.mem_of_getElem? hx))
    have hw := hI.wr _ hm
    have hl := hI.lw _ hm
    unfold Th.all at hw hl
    rw [List.length_append] at hl
    have hbl := bytes_len fun w hw' => hw w (List.mem_append_left (s.getT x.n).pen hw')
    refine cloneB_byte o3 f2 (by omega) fun dv' h4 o4 => ?_
    refine ⟨o4.load 2 rfl rfl rfl, ?_⟩
    obtain ⟨g1, g2, g3⟩ := ts_fact (o4.get 13 rfl) hx
    have c1' : hcell h4 ⟨x.b, 1, none⟩ = some x.wv := hcell_of g1 rfl
    refine ⟨by simp only [pLoad_ptr, c1'], ?_⟩
    refine cloneB_write o4 g3 (by omega) fun wv' h5 o5 => ?_
    refine ⟨o5.load 3 rfl rfl rfl, ?_⟩
    have hdv := o5.vw 1 rfl
    have hwv := o5.vw 0 rfl
    refine ⟨?_, ?_⟩
    · obtain ⟨b1, c1, rfl⟩ := hdv.isSl
      obtain ⟨b2, c2, rfl⟩ := hwv.isSl
      exact sizesOk_of rfl
    refine o5.box fun q h6 o6 => ?_
    have o6 : Own h0 h6 (cellR q [dv', wv'] T_disk_thing :: slR encW 2 T_disk_write wv' (s.getT x.n).pen :: slR encB8 1 T_uint8 dv' (bytesOf (s.getT x.n).syn) :: itR r c.tm clock (se ++ [y]) :: cellR e [.map (some m1), .map (some m2), .map (some m3), pv, I s.th.length, I s.armed, .bool s.off] T_disk_Disk :: kmapR QS m1 (dirF (dirOf s.cs)) :: kmapR QS m2 (dirF s.now) :: kmapR QI m3 (thF tc) :: slR encC 1 T_disk_change pv c.vs :: sepR (tc.map fun x => sepR (tRs s x)) ::
      cellR d (dC c s) T_disk_Disk :: kmapR QS c.dm (dirF (dirOf s.cs)) :: kmapR QS c.nm (dirF s.now) :: objR c.tm (.map es clock) :: slR encC 1 T_disk_change c.pv c.vs :: sepR (tsR c s) :: roR B :: L) := by
      have ec : (spliceAll [Value.slice none 0 0, Value.slice none 0 0] [(0, 1, dv'), (1, 1, wv')]) = [dv', wv'] := by
        obtain ⟨b1, c1, rfl⟩ := hdv.isSl
        obtain ⟨b2, c2, rfl⟩ := hwv.isSl
        rfl
      rw [ec] at o6
      exact o6
    rw [show QI.ke y.1 = I (x.n : Int) by rw [e1]; rfl]
    refine o6.kput (Q := QI) (k := (x.n : Int)) (f' := thF (tc ++ [⟨x.n, q, dv', wv'⟩])) 7 rfl (fun z => ?_) fun h7 o7 => ?_
    · unfold KM.fset thF
      rw [List.find?_append]
      by_cases e : z = (x.n : Int)
      · subst e
        rw [if_pos rfl]
        have : tc.find? (fun y => decide ((y.n : Int) = (x.n : Int))) = none := by
          rw [List.find?_eq_none]
          intro w hw' hd
          have : (w.n : Int) ∈ tc.map (fun x => (x.n : Int)) := List.mem_map.2 ⟨w, hw', rfl⟩
          rw [htc] at this
          obtain ⟨e', he', e3⟩ := List.mem_map.1 this
          have hkey : e' = y := by
            obtain ⟨i1, hi1, ei⟩ := List.mem_iff_getElem.1 (hs e' he')
            obtain ⟨j1, hj1, ej⟩ := List.mem_iff_getElem.1 hy
            have := (List.getElem_inj (i := i1) (j := j1) (h₀ := by simpa using hi1) (h₁ := by simpa using hj1) ht.keys).1 (by simp only [List.getElem_map, ei, ej, e3, e1]; simpa using hd)
            subst this
            rw [← ei, ej]
          exact hne (hkey ▸ he')
        rw [this]
        simp
      · rw [if_neg e]
        have : List.find? (fun y : TC => decide ((y.n : Int) = z)) [⟨x.n, q, dv', wv'⟩] = none := by
          rw [List.find?_eq_none]
          intro w hw'
          rw [List.mem_singleton.1 hw']
          simpa using fun h => e h.symm
        rw [this, Option.or_none]
    · have a1 := Own.sep (l := [cellR q [dv', wv'] T_disk_thing, slR encB8 1 T_uint8 dv' (bytesOf (s.getT x.n).syn), slR encW 2 T_disk_write wv' (s.getT x.n).pen]) (o7.front 3 [0, 2, 1] (by decide) (by decide))
      have a2 := a1.out 7 rfl
      have a5 : Own h0 h7 ((tc.map fun x => sepR (tRs s x)) ++ ([sepR (tR3 q dv' wv' (bytesOf (s.getT x.n).syn) (s.getT x.n).pen)] ++ _)) := a2
      rw [← List.append_assoc] at a5
      have a6 := a5.back 6 rfl
      have e3 : (tc.map fun x => sepR (tRs s x)) ++ [sepR (tR3 q dv' wv' (bytesOf (s.getT x.n).syn) (s.getT x.n).pen)] = (tc ++ [(⟨x.n, q, dv', wv'⟩ : TC)]).map fun x => sepR (tRs s x) := by
        rw [List.map_append]; rfl
      rw [e3] at a6
      have hl2 : (se ++ [y]).length = se.length + 1 := by simp
      refine hZ (show Vals [] from ()) h7 (t.length - (se ++ [y]).length) (by omega) ⟨se ++ [y], tc ++ [(⟨x.n, q, dv', wv'⟩ : TC)], rfl, hs', hn', by rw [List.map_append, htc, List.map_append]; simp [e1], by exact a6⟩
  · rw [pExt0, ifV_false]
    have o5 := (o.conv 10 (r' := kmapR QI c.tm (thF c.tc)) rfl ⟨es, clock, o.get 10 rfl, t, ht, hf⟩ fun b hb => hb).tail
    refine hK e { dm := m1, nm := m2, tm := m3, pv := pv, vs := c.vs, tc := tc } h2 ?_ o5
    have hnum : ∀ n : Nat, (∃ x ∈ c.tc, x.n = n) → ∃ x ∈ tc, x.n = n := fun n ⟨x, hx, e⟩ => by
      obtain ⟨i, hi⟩ := List.getElem?_of_mem hx
      have h1 := thF_at H hi
      rw [hf] at h1
      have lkm : ∀ (t : List (KM.Ent Int)) (v : Value), KM.lk (x.n : Int) t = some v → ∃ e ∈ t, e.1 = (x.n : Int) := by
        intro t
        induction t with
        | nil => intro v h; cases h
        | cons z t ih =>
          intro v h
          rw [KM.lk] at h
          split at h
          · rename_i e; exact ⟨z, List.mem_cons_self, e⟩
          · obtain ⟨e, he, h'⟩ := ih v h
            exact ⟨e, List.mem_cons_of_mem _ he, h'⟩
      obtain ⟨y, hy, ey⟩ := lkm t _ h1
      have : y.1 ∈ tc.map (fun x => (x.n : Int)) := by rw [htc]; exact List.mem_map.2 ⟨y, hall y hy, rfl⟩
      obtain ⟨x', hx', e'⟩ := List.mem_map.1 this
      exact ⟨x', hx', by omega⟩
    refine ⟨H.lv, H.ch, ?_, fun x' hx' => ?_, fun y hy => hnum _ (H.dir y hy), fun a n hm' => hnum n (H.num a n hm')⟩
    · have hk : (se.map (·.1)).Nodup := nodupMap hn fun y hy z hz e => by
        obtain ⟨i1, hi1, ei⟩ := List.mem_iff_getElem.1 (hs y hy)
        obtain ⟨j1, hj1, ej⟩ := List.mem_iff_getElem.1 (hs z hz)
        have := (List.getElem_inj (i := i1) (j := j1) (h₀ := by simpa using hi1) (h₁ := by simpa using hj1) ht.keys).1 (by simp [ei, ej, e])
        subst this
        rw [← ei, ej]
      rw [← htc] at hk
      have : (tc.map (fun x => (x.n : Int))) = (tc.map (·.n)).map fun (n : Nat) => (n : Int) := by rw [List.map_map]; rfl
      rw [this] at hk
      exact (List.pairwise_map.1 hk).imp fun h e => h (by rw [e])
    · have : (x'.n : Int) ∈ tc.map (fun x => (x.n : Int)) := List.mem_map.2 ⟨x', hx', rfl⟩
      rw [htc] at this
      obtain ⟨y, hy, e⟩ := List.mem_map.1 this
      obtain ⟨i, x, hx, e1, _⟩ := hle y (hs y hy)
      have := H.lt x (List.mem_of_getElem? hx)
      omega

end
end Go.Proofs.YtdbkeklhjjlhbaaGreat

namespace Go.Proofs.YtdbkeklhjjlhbaaGreat
open Go Go.Mh
set_option linter.unusedVariables false

section
variable {h0 h : Heap} {L M ts l3 : List Res} {K : Value → Heap → Prop} {k d i : Nat} {c : DC} {s : Dk} {B : Bx} {x : TC} {U : List Nm} {N : Nat} {a b : Nm}

theorem copyB_ok (o : Own h0 h (dL d c s (roR B :: L))) (H : DOk B c s) (hI : s.Inv U N) (hN : N ≤ 1048576) (hK : ∀ e c' h', DOk B c' s → Own h0 h' (dL e c' s (dL d c s (roR B :: L))) → K (ptr e) h') : callS Tryz.prog F_disk_Disk_Copy [ptr d] h K := by
  refine callS_of (lk_disk_Disk_Copy _ ?_)
  unfold sh_disk_Disk_Copy
  rw [pEq_ptr_nil, Option.isNone_some, ifV_false]
  refine cutP_of (fun y h' => ∃ e m1 m2 m3 v, y.1 = ptr e ∧ Own h0 h' (cellR e [.map (some m1), .map (some m2), .map (some m3), v, I s.th.length, I s.armed, .bool s.off] T_disk_Disk :: kmapR QS m1 (dirF (dirOf s.cs)) :: kmapR QS m2 (dirF s.now) :: kmapR QI m3 (fun _ => none) :: slR encC 1 T_disk_change v c.vs :: dL d c s (roR B :: L))) (fun J hJ => ?_) ?_
  · have hlv : c.vs.length ≤ 2 ^ 40 := by
      have := hI.lc
      rw [List.length_append] at this
      rw [H.lv]; omega
    have fin : ∀ (h' : Heap) (m1 m2 m3 : Nat) (v : Value), Own h0 h' (kmapR QS m1 (dirF (dirOf s.cs)) :: kmapR QS m2 (dirF s.now) :: kmapR QI m3 (fun _ => none) :: slR encC 1 T_disk_change v c.vs :: dL d c s (roR B :: L)) →
        pBuild [(.map none), (.map none), (.map none), (.slice none 0 0), (.int .i64 0), (.int .i64 0), (.bool false)] [(0, 1, .map (some m1)), (1, 1, .map (some m2)), (2, 1, .map (some m3)), (3, 1, v), (4, 1, I s.th.length), (5, 1, I s.armed), (6, 1, .bool s.off)] fun t36 => pBox T_disk_Disk t36 h' fun t37 h_5 => J (t37, ()) h_5 := by
      intro h' m1 m2 m3 v o'
      obtain ⟨b, cc, rfl⟩ := (o'.vw 3 rfl).isSl
      refine ⟨sizesOk_of rfl, ?_⟩
      refine o'.box fun e h2 o2 => ?_
      exact hJ _ _ ⟨e, m1, m2, m3, _, rfl, o2⟩
    rw [pNil_ptr, pField_ptr]
    refine o.load 0 rfl rfl ?_
    rw [pNil_ptr, pField_ptr]
    refine o.load 0 rfl rfl ?_
    rw [pNil_ptr, pField_ptr]
    refine o.load 0 rfl rfl ?_
    rw [pNil_ptr, pField_ptr]
    refine o.load 0 rfl rfl ?_
    rw [pNil_ptr, pField_ptr]
    refine o.load 0 rfl rfl ?_
    rw [pNil_ptr, pField_ptr]
    refine o.load 0 rfl rfl ?_
    refine ⟨?_, ?_⟩
    · refine mcloneB_ok o (i := 1) rfl fun m1 h1 o1 => ⟨o1.load 1 rfl rfl rfl, o1.load 1 rfl rfl rfl, o1.load 1 rfl rfl rfl, o1.load 1 rfl rfl rfl, o1.load 1 rfl rfl rfl, ?_, ?_⟩
      · refine mcloneB_ok o1 (i := 3) rfl fun m2 h2 o2 => ⟨o2.load 2 rfl rfl rfl, o2.load 2 rfl rfl rfl, o2.load 2 rfl rfl rfl, o2.load 2 rfl rfl rfl, ?_, ?_⟩
        · refine o2.kmk QI fun m3 h3 o3 => ?_
          refine cloneB_change o3 (o3.vw 7 rfl) hlv fun v h4 o4 => ⟨o4.load 4 rfl rfl rfl, o4.load 4 rfl rfl rfl, o4.load 4 rfl rfl rfl, ?_⟩
          exact fin h4 m1 m2 m3 v (o4.front 4 [3, 2, 1, 0] (by decide) (by decide))
        · refine cloneB_change o2 (o2.vw 6 rfl) hlv fun v h4 o4 => ⟨o4.load 3 rfl rfl rfl, o4.load 3 rfl rfl rfl, o4.load 3 rfl rfl rfl, ?_⟩
          refine o4.kmk QI fun m3 h3 o3 => ?_
          exact fin h3 m1 m2 m3 v (o3.front 4 [3, 2, 0, 1] (by decide) (by decide))
      · refine o1.kmk QI fun m3 h3 o3 => ?_
        refine mcloneB_ok o3 (i := 4) rfl fun m2 h2 o2 => ⟨o2.load 3 rfl rfl rfl, o2.load 3 rfl rfl rfl, o2.load 3 rfl rfl rfl, o2.load 3 rfl rfl rfl, ?_⟩
        refine cloneB_change o2 (o2.vw 7 rfl) hlv fun v h4 o4 => ⟨o4.load 4 rfl rfl rfl, o4.load 4 rfl rfl rfl, o4.load 4 rfl rfl rfl, ?_⟩
        exact fin h4 m1 m2 m3 v (o4.front 4 [3, 1, 2, 0] (by decide) (by decide))
    · refine o.kmk QI fun m3 h3 o3 => ?_
      refine mcloneB_ok o3 (i := 2) rfl fun m1 h1 o1 => ⟨o1.load 2 rfl rfl rfl, o1.load 2 rfl rfl rfl, o1.load 2 rfl rfl rfl, o1.load 2 rfl rfl rfl, o1.load 2 rfl rfl rfl, ?_⟩
      refine mcloneB_ok o1 (i := 4) rfl fun m2 h2 o2 => ⟨o2.load 3 rfl rfl rfl, o2.load 3 rfl rfl rfl, o2.load 3 rfl rfl rfl, o2.load 3 rfl rfl rfl, ?_⟩
      refine cloneB_change o2 (o2.vw 7 rfl) hlv fun v h4 o4 => ⟨o4.load 4 rfl rfl rfl, o4.load 4 rfl rfl rfl, o4.load 4 rfl rfl rfl, ?_⟩
      exact fin h4 m1 m2 m3 v (o4.front 4 [2, 1, 3, 0] (by decide) (by decide))
  · rintro ⟨y, ⟨⟩⟩ h' ⟨e, m1, m2, m3, v, hy, o'⟩
    dsimp only at hy ⊢
    subst hy
    exact copyT_ok o' H hI hN hK

end
end Go.Proofs.YtdbkeklhjjlhbaaGreat

namespace Go.Proofs.YtdbkeklhjjlhbaaGreat
open Go Go.Mh
set_option linter.unusedVariables false

/-! ### Several disks -/

section
variable {h0 h : Heap} {L X Y Z : List Res} {r : Res}

theorem mid (o : Own h0 h (X ++ (Y ++ (r :: Z)))) : Own h0 h (X ++ (r :: (Y ++ Z))) := by
  have o1 := o.comm
  rw [List.append_assoc] at o1
  have o2 : Own h0 h (sepR Y :: r :: (Z ++ X)) := o1.sep
  have o3 := (o2.swap).rot
  have o4 : Own h0 h (sepR Y :: ((Z ++ X) ++ [r])) := o3
  have o5 := o4.unsep
  have o6 : Own h0 h ((Y ++ Z) ++ (X ++ [r])) := by
    have e : Y ++ ((Z ++ X) ++ [r]) = (Y ++ Z) ++ (X ++ [r]) := by simp
    rw [← e]; exact o5
  have o7 := o6.comm
  have e : (X ++ [r]) ++ (Y ++ Z) = X ++ (r :: (Y ++ Z)) := by simp
  rw [← e]; exact o7

theorem mid' (o : Own h0 h (X ++ (r :: (Y ++ Z)))) : Own h0 h (X ++ (Y ++ (r :: Z))) := by
  have e : X ++ (r :: (Y ++ Z)) = (X ++ [r]) ++ (Y ++ Z) := by simp
  rw [e] at o
  have o1 := o.comm
  have e2 : (Y ++ Z) ++ (X ++ [r]) = Y ++ ((Z ++ X) ++ [r]) := by simp
  rw [e2] at o1
  have o2 : Own h0 h ((sepR Y :: (Z ++ X)) ++ [r]) := o1.sep
  have o3 : Own h0 h (r :: sepR Y :: (Z ++ X)) := o2.comm
  have o4 := o3.swap.unsep
  have e3 : Y ++ (r :: (Z ++ X)) = (Y ++ (r :: Z)) ++ X := by simp
  rw [e3] at o4
  exact o4.comm

end

structure HD where
  d : Nat
  c : DC
  s : Dk
def pk (x : HD) : Res := sepR (dL x.d x.c x.s [])
def Ats (h0 h : Heap) (ds : List (Nat × Dk)) (L : List Res) : Prop := ∃ (xs : List HD) (B : Bx), xs.map (fun x => (x.d, x.s)) = ds ∧ Own h0 h (xs.map pk ++ roR B :: L) ∧ ∀ x ∈ xs, DOk B x.c x.s

section
variable {h0 h : Heap} {L : List Res} {K : Value → Heap → Prop} {k d : Nat} {s : Dk} {U : List Nm} {N : Nat} {a b : Nm} {ds : List (Nat × Dk)}

theorem Ats.op (A : Ats h0 h ds L) (hk : ds[k]? = some (d, s)) : ∃ c B R, DOk B c s ∧ Own h0 h (dL d c s (roR B :: R)) ∧ (∀ fv fs, FV h0 L fv fs → FV h0 R fv fs) ∧
    (∀ (h' : Heap) c' B' s', (∀ y ∈ B, y ∈ B') → DOk B' c' s' → Own h0 h' (dL d c' s' (roR B' :: R)) → Ats h0 h' (ds.set k (d, s')) L) ∧
    (∀ (h' : Heap) e c', DOk B c' s → Own h0 h' (dL e c' s (dL d c s (roR B :: R))) → Ats h0 h' ((e, s) :: ds) L) := by
  obtain ⟨xs, B, rfl, o, hD⟩ := A
  rw [List.getElem?_map] at hk
  obtain ⟨x, hx, e⟩ := Option.map_eq_some_iff.1 hk
  cases e
  have hkl := (List.getElem?_eq_some_iff.1 hx).1
  have hm := List.mem_of_getElem? hx
  have hp : (xs.map pk ++ roR B :: L)[k]? = some (sepR (dL x.d x.c x.s [])) := by
    rw [List.getElem?_append_left (by simpa using hkl), List.getElem?_map, hx]; rfl
  have o1 := o.out k hp
  rw [List.set_append_left _ _ (by simpa using hkl)] at o1
  have o2 := mid o1
  have bk : ∀ (h' : Heap) (P : List Res) (c' : DC) (B' : Bx) (s' : Dk), (∀ y ∈ B, y ∈ B') → DOk B' c' s' → Own h0 h' (dL x.d c' s' [] ++ (((xs.map pk).set k nilR) ++ (roR B' :: L))) → Ats h0 h' ((xs.map fun x => (x.d, x.s)).set k (x.d, s')) L := by
    intro h' P c' B' s' hB hD' o'
    have o3 := o'.back k (by rw [List.getElem?_append_left (by simpa using hkl), List.getElem?_set_self (by simpa using hkl)])
    rw [List.set_append_left _ _ (by simpa using hkl), List.set_set] at o3
    refine ⟨xs.set k ⟨x.d, c', s'⟩, B', by rw [List.map_set], by rw [List.map_set]; exact o3, fun y hy => ?_⟩
    rcases List.mem_or_eq_of_mem_set hy with hy | rfl
    · exact (hD y hy).mono hB
    · exact hD'
  refine ⟨x.c, B, (xs.map pk).set k nilR ++ L, hD x hm, o2, fun fv fs hf Rs h' o' => ?_, fun h' c' B' s' hB hD' o' => ?_, fun h' e c' hD' o' => ?_⟩
  · rw [← List.append_assoc] at o'
    exact hf _ _ o'
  · exact bk h' [] c' B' s' hB hD' (mid' (X := dL x.d c' s' []) o')
  · have o3 : Own h0 h' (pk ⟨e, c', x.s⟩ :: (dL x.d x.c x.s [] ++ (roR B :: ((xs.map pk).set k nilR ++ L)))) := Own.sep (l := dL e c' x.s []) o'
    have o4 := mid' (X := []) (r := pk ⟨e, c', x.s⟩) (Y := dL x.d x.c x.s []) o3
    have e1 : dL x.d x.c x.s [] ++ (pk ⟨e, c', x.s⟩ :: roR B :: ((xs.map pk).set k nilR ++ L)) = (dL x.d x.c x.s [] ++ [pk ⟨e, c', x.s⟩]) ++ (roR B :: ((xs.map pk).set k nilR ++ L)) := by simp
    have o5 : Own h0 h' ((dL x.d x.c x.s [] ++ [pk ⟨e, c', x.s⟩]) ++ (roR B :: ((xs.map pk).set k nilR ++ L))) := by rw [← e1]; exact o4
    have o6 := mid' o5
    have e2 : (dL x.d x.c x.s [] ++ [pk ⟨e, c', x.s⟩]) ++ ((xs.map pk).set k nilR ++ (roR B :: L)) = dL x.d x.c x.s [] ++ (pk ⟨e, c', x.s⟩ :: ((xs.map pk).set k nilR ++ (roR B :: L))) := by simp
    rw [e2] at o6
    have o7 := o6.back (k + 1) (by rw [List.getElem?_cons_succ, List.getElem?_append_left (by simpa using hkl), List.getElem?_set_self (by simpa using hkl)])
    rw [List.set_cons_succ, List.set_append_left _ _ (by simpa using hkl), List.set_set] at o7
    have e3 : (xs.map pk).set k (sepR (dL x.d x.c x.s [])) = xs.map pk := setSame (by rw [List.getElem?_map, hx]; rfl)
    rw [e3] at o7
    refine ⟨⟨e, c', x.s⟩ :: xs, B, rfl, o7, fun y hy => ?_⟩
    rcases List.mem_cons.1 hy with rfl | hy
    · exact hD'
    · exact hD y hy

theorem Ats.none (o : Own h0 h L) : Ats h0 h [] L := ⟨[], [], rfl, o.noRo, fun _ h => by cases h⟩
theorem Ats.own (A : Ats h0 h ds L) : Own h0 h L := by
  obtain ⟨xs, B, _, o, _⟩ := A
  exact (Own.comm o).tail.left

theorem newA (A : Ats h0 h ds L) (hK : ∀ d h', Ats h0 h' ((d, Dk.new) :: ds) L → K (ptr d) h') : callS Tryz.prog F_disk_New [] h K := by
  obtain ⟨xs, B, rfl, o, hD⟩ := A
  refine newB_ok o fun d c h' hd o' => hK d h' ?_
  have o1 := o'.erase 6
  have o2 : Own h0 h' (pk ⟨d, c, .new⟩ :: (xs.map pk ++ roR B :: L)) := Own.sep (l := dL d c .new []) o1
  refine ⟨⟨d, c, .new⟩ :: xs, B, rfl, o2, fun y hy => ?_⟩
  rcases List.mem_cons.1 hy with rfl | hy
  · exact hd.mono fun _ h => by cases h
  · exact hD y hy

theorem makeA (A : Ats h0 h ds L) (hk : ds[k]? = some (d, s)) (hI : s.Inv U N) (hN : N ≤ 1048576) (hK : ∀ h', Ats h0 h' (ds.set k (d, (mMake s a).2)) L → K (I (mMake s a).1) h') : callS Tryz.prog F_disk_Disk_Make [ptr d, .string a] h K := by
  obtain ⟨c, B, R, hD, o, _, bk, _⟩ := A.op hk
  exact makeB_ok o hD hI hN fun c' B' h' hB hD' o' => hK h' (bk h' c' B' _ hB hD' o')
theorem writeA {z : Int} {w : ByteArray} (A : Ats h0 h ds L) (hk : ds[k]? = some (d, s)) (hI : s.Inv U N) (hN : N ≤ 1048576) (hz : -9223372036854775808 ≤ z ∧ z ≤ 9223372036854775807) (hw : w.size ≤ 1048576) (hK : ∀ h', Ats h0 h' (ds.set k (d, (mWrite s a z w).2)) L → K (I (mWrite s a z w).1) h') : callS Tryz.prog F_disk_Disk_Write [ptr d, .string a, I z, .string w] h K := by
  obtain ⟨c, B, R, hD, o, _, bk, _⟩ := A.op hk
  exact writeB_ok o hD hI hN hz hw fun c' B' h' hB hD' o' => hK h' (bk h' c' B' _ hB hD' o')
theorem syncA (A : Ats h0 h ds L) (hk : ds[k]? = some (d, s)) (hI : s.Inv U N) (hN : N ≤ 1048576) (hK : ∀ h', Ats h0 h' (ds.set k (d, (mSync s a).2)) L → K (I (mSync s a).1) h') : callS Tryz.prog F_disk_Disk_Sync [ptr d, .string a] h K := by
  obtain ⟨c, B, R, hD, o, _, bk, _⟩ := A.op hk
  exact syncB_ok o hD hI hN fun c' B' h' hB hD' o' => hK h' (bk h' c' B' _ hB hD' o')
theorem renameA (A : Ats h0 h ds L) (hk : ds[k]? = some (d, s)) (hI : s.Inv U N) (hN : N ≤ 1048576) (hK : ∀ h', Ats h0 h' (ds.set k (d, (mRename s a b).2)) L → K (I (mRename s a b).1) h') : callS Tryz.prog F_disk_Disk_Rename [ptr d, .string a, .string b] h K := by
  obtain ⟨c, B, R, hD, o, _, bk, _⟩ := A.op hk
  exact renameB_ok o hD hI hN fun c' B' h' hB hD' o' => hK h' (bk h' c' B' _ hB hD' o')
theorem removeA (A : Ats h0 h ds L) (hk : ds[k]? = some (d, s)) (hI : s.Inv U N) (hN : N ≤ 1048576) (hK : ∀ h', Ats h0 h' (ds.set k (d, (mRemove s a).2)) L → K (I (mRemove s a).1) h') : callS Tryz.prog F_disk_Disk_Remove [ptr d, .string a] h K := by
  obtain ⟨c, B, R, hD, o, _, bk, _⟩ := A.op hk
  exact removeB_ok o hD hI hN fun c' B' h' hB hD' o' => hK h' (bk h' c' B' _ hB hD' o')
theorem syncDirA (A : Ats h0 h ds L) (hk : ds[k]? = some (d, s)) (hI : s.Inv U N) (hK : ∀ h', Ats h0 h' (ds.set k (d, (mSyncDir s).2)) L → K (I (mSyncDir s).1) h') : callS Tryz.prog F_disk_Disk_SyncDir [ptr d] h K := by
  obtain ⟨c, B, R, hD, o, _, bk, _⟩ := A.op hk
  exact syncDirB_ok o hD hI fun c' B' h' hB hD' o' => hK h' (bk h' c' B' _ hB hD' o')
theorem armA {z : Int} (A : Ats h0 h ds L) (hk : ds[k]? = some (d, s)) (hK : ∀ h', Ats h0 h' (ds.set k (d, mArm s z)) L → K (.tuple #[]) h') : callS Tryz.prog F_disk_Disk_Arm [ptr d, I z] h K := by
  obtain ⟨c, B, R, hD, o, _, bk, _⟩ := A.op hk
  exact armB_ok o fun h' o' => hK h' (bk h' c B _ (fun _ h => h) (hD.ar z.toNat s.off) o')
theorem crashA {fv : Value} {fs : List Int} (A : Ats h0 h ds L) (hk : ds[k]? = some (d, s)) (hI : s.Inv U N) (hN : N ≤ 1048576) (hl : U.length ≤ 12) (hf : FV h0 L fv fs) (hr : ∀ z ∈ fs, 0 ≤ z ∧ z ≤ 255) (hfl : fs.length < 2 ^ 40) (hfv : fv.cells = #[fv])
    (hK : ∀ h', Ats h0 h' (ds.set k (d, mCrash s fs)) L → K (.tuple #[]) h') : callS Tryz.prog F_disk_Disk_Crash [ptr d, fv] h K := by
  obtain ⟨c, B, R, hD, o, hfl', bk, _⟩ := A.op hk
  exact crashB_ok o hD hI hN hl (hfl' _ _ hf) hr hfl hfv fun c' B' h' hB hD' o' => hK h' (bk h' c' B' _ hB hD' o')
theorem copyA (A : Ats h0 h ds L) (hk : ds[k]? = some (d, s)) (hI : s.Inv U N) (hN : N ≤ 1048576) (hK : ∀ e h', Ats h0 h' ((e, s) :: ds) L → K (ptr e) h') : callS Tryz.prog F_disk_Disk_Copy [ptr d] h K := by
  obtain ⟨c, B, R, hD, o, _, _, bk⟩ := A.op hk
  exact copyB_ok o hD hI hN fun e c' h' hD' o' => hK e h' (bk h' e c' hD' o')
theorem onA (A : Ats h0 h ds L) (hk : ds[k]? = some (d, s)) (hK : K (.bool (!s.off)) h) : callS Tryz.prog F_disk_Disk_On [ptr d] h K := by
  obtain ⟨c, B, R, hD, o, _, _, _⟩ := A.op hk
  exact onB_ok o hK
theorem readA (A : Ats h0 h ds L) (hk : ds[k]? = some (d, s)) (hI : s.Inv U N) (hN : N ≤ 1048576) (hK : ∀ h', Ats h0 h' ds L → K (.tuple #[.string (mRead s a).1, I (mRead s a).2]) h') : callS Tryz.prog F_disk_Disk_Read [ptr d, .string a] h K := by
  obtain ⟨c, B, R, hD, o, _, bk, _⟩ := A.op hk
  refine readB_ok o hD hI hN fun h' o' => hK h' ?_
  have := bk h' c B s (fun _ h => h) hD o'
  rwa [setSame hk] at this
theorem pendingA (A : Ats h0 h ds L) (hk : ds[k]? = some (d, s)) (hI : s.Inv U N) (hN : N ≤ 1048576) (hl : U.length ≤ 12) (hK : ∀ h', Ats h0 h' ds L → K (.tuple #[I (mPending s).1, I (mPending s).2]) h') : callS Tryz.prog F_disk_Disk_Pending [ptr d] h K := by
  obtain ⟨c, B, R, hD, o, _, bk, _⟩ := A.op hk
  refine pendingB_ok o hD hI hN hl fun h' o' => hK h' ?_
  have := bk h' c B s (fun _ h => h) hD o'
  rwa [setSame hk] at this

/-- The same; what lies behind may be another. -/
theorem Ats.op2 (A : Ats h0 h ds L) (hk : ds[k]? = some (d, s)) : ∃ c B P, DOk B c s ∧ Own h0 h (dL d c s (roR B :: (P ++ L))) ∧
    (∀ (L' : List Res) (h' : Heap), Own h0 h' (dL d c s (roR B :: (P ++ L'))) → Ats h0 h' ds L') := by
  obtain ⟨xs, B, rfl, o, hD⟩ := A
  rw [List.getElem?_map] at hk
  obtain ⟨x, hx, e⟩ := Option.map_eq_some_iff.1 hk
  cases e
  have hkl := (List.getElem?_eq_some_iff.1 hx).1
  have hm := List.mem_of_getElem? hx
  have hp : (xs.map pk ++ roR B :: L)[k]? = some (sepR (dL x.d x.c x.s [])) := by
    rw [List.getElem?_append_left (by simpa using hkl), List.getElem?_map, hx]; rfl
  have o1 := o.out k hp
  rw [List.set_append_left _ _ (by simpa using hkl)] at o1
  refine ⟨x.c, B, (xs.map pk).set k nilR, hD x hm, mid o1, fun L' h' o' => ?_⟩
  have o3 := (mid' (X := dL x.d x.c x.s []) o').back k (by rw [List.getElem?_append_left (by simpa using hkl), List.getElem?_set_self (by simpa using hkl)])
  rw [List.set_append_left _ _ (by simpa using hkl), List.set_set] at o3
  have e3 : (xs.map pk).set k (sepR (dL x.d x.c x.s [])) = xs.map pk := setSame (by rw [List.getElem?_map, hx]; rfl)
  rw [e3] at o3
  exact ⟨xs, B, rfl, o3, hD⟩

theorem Ats.more {h' : Heap} (A : Ats h0 h ds L) (x : Ext h h') : Ats h0 h' ds L := by
  obtain ⟨xs, B, e, o, hD⟩ := A
  exact ⟨xs, B, e, o.more x, hD⟩

/-- What was made beside the disks. -/
theorem Ats.add {h' : Heap} {r : Res} (A : Ats h0 h ds L) (o' : Own h h' [r]) : Ats h0 h' ds (r :: L) := by
  obtain ⟨xs, B, e, o, hD⟩ := A
  have o1 : Own h0 h' (r :: (xs.map pk ++ roR B :: L)) := o.frame o'
  have e1 : r :: (xs.map pk ++ roR B :: L) = [] ++ (r :: ((xs.map pk ++ [roR B]) ++ L)) := by simp
  rw [e1] at o1
  have o2 := mid' o1
  have e2 : [] ++ ((xs.map pk ++ [roR B]) ++ (r :: L)) = xs.map pk ++ roR B :: (r :: L) := by simp
  rw [e2] at o2
  exact ⟨xs, B, e, o2, hD⟩

theorem Ats.drop {r : Res} (A : Ats h0 h ds (r :: L)) : Ats h0 h ds L := by
  obtain ⟨xs, B, e, o, hD⟩ := A
  refine ⟨xs, B, e, ?_, hD⟩
  have := o.erase ((xs.map pk).length + 1)
  rw [List.eraseIdx_append_of_length_le (by omega), show (xs.map pk).length + 1 - (xs.map pk).length = 1 by omega] at this
  exact this

theorem Ats.get {r : Res} (A : Ats h0 h ds (r :: L)) : r.Q h := A.own.get 0 rfl

theorem namesA (A : Ats h0 h ds L) (hk : ds[k]? = some (d, s)) (hI : s.Inv U N) (hl : U.length ≤ 12) (hK : ∀ w h', Ats h0 h' ds (slR encS 1 T_string w (mNames s) :: L) → K w h') : callS Tryz.prog F_disk_Disk_Names [ptr d] h K := by
  obtain ⟨c, B, P, hD, o, bk⟩ := A.op2 hk
  refine namesD_ok o hI hl fun w h' o' => hK w h' (bk _ h' ?_)
  have o1 : Own h0 h' ([] ++ (slR encS 1 T_string w (mNames s) :: ((dL d c s (roR B :: P)) ++ L))) := o'
  exact mid' o1

/-! ### What the laws read -/

def rdS (s : Dk) (a : Nm) : ByteArray := if (mRead s a).2 ≠ 0 then (⟨#[63]⟩ : ByteArray) ++ bstr [UInt8.ofNat (48 + (mRead s a).2.toNat / 10), UInt8.ofNat (48 + (mRead s a).2.toNat % 10)] else (mRead s a).1

theorem refE_val {e : Int} {l : List Nm} : refE s e l = 0 ∨ refE s e l = 22 ∨ refE s e l = e ∨ refE s e l = 21 := by
  unfold refE
  split
  · exact .inr (.inl rfl)
  · split
    · exact .inr (.inr (.inl rfl))
    · split
      · exact .inl rfl
      · exact .inr (.inr (.inr rfl))
theorem namesE_val {l : List Nm} : namesE l = 0 ∨ namesE l = 2 := by unfold namesE; split <;> simp

theorem lawRead_ok (A : Ats h0 h ds L) (hk : ds[k]? = some (d, s)) (hI : s.Inv U N) (hN : N ≤ 1048576) (hK : ∀ h', Ats h0 h' ds L → K (.string (rdS s a)) h') : callS Tryz.prog F_milestonelaw29_read [ptr d, .string a] h K := by
  refine callS_of (lk_milestonelaw29_read _ _ ?_)
  unfold sh_milestonelaw29_read
  refine readA (a := a) A hk hI hN fun h1 A1 => ?_
  rw [pExt0, pExt1]
  unfold rdS at hK
  rw [pBin_neq, ifV_bne]
  refine ⟨fun hne => ?_, fun he => ?_⟩
  · rw [if_pos hne] at hK
    have hv : (mRead s a).2 = 22 ∨ (mRead s a).2 = 2 ∨ (mRead s a).2 = 21 := by
      unfold mRead at hne ⊢
      split
      · rename_i hr
        dsimp only
        rcases refE_val (s := s) (e := namesE [a]) (l := [a]) with h | h | h | h
        · exact absurd h hr
        · exact .inl h
        · rcases namesE_val (l := [a]) with h' | h'
          · exact absurd (h.trans h') hr
          · exact .inr (.inl (h.trans h'))
        · exact .inr (.inr h)
      · rename_i hr; rw [if_neg hr] at hne; exact absurd rfl hne
    generalize (mRead s a).2 = e at hv hK
    have go : ∀ (x y : UInt8), x = UInt8.ofNat (48 + e.toNat / 10) → y = UInt8.ofNat (48 + e.toNat % 10) → pBuildSlice T_uint8 (zerosL [(.int .u8 0)] 2) [(0, 1, .int .u8 x.toNat), (1, 1, .int .u8 y.toNat)] 2 h1 fun t23 h_2 => pConvBS h_2 t23 fun t24 => pBin .add (.string ⟨#[63]⟩) t24 fun t25 => K t25 h_2 := by
      intro x y hx hy
      refine (Own.start h1).build (enc := encB8) (n := 1) [x, y] rfl (sizesOk_of rfl) rfl fun w h2 o2 => ?_
      refine (o2.vw 0 rfl).str ?_
      refine pBin_addS (by show 1 + 2 ≤ _; decide) ?_
      rw [hx, hy]
      exact hK h2 (A1.more o2.ext)
    rcases hv with rfl | rfl | rfl
    · rw [pBin_quo]; refine ⟨by decide, ?_⟩
      rw [pBin_add, pConv_int, pBin_rem]; refine ⟨by decide, ?_⟩
      rw [pBin_add, pConv_int]
      exact go 50 50 rfl rfl
    · rw [pBin_quo]; refine ⟨by decide, ?_⟩
      rw [pBin_add, pConv_int, pBin_rem]; refine ⟨by decide, ?_⟩
      rw [pBin_add, pConv_int]
      exact go 48 50 rfl rfl
    · rw [pBin_quo]; refine ⟨by decide, ?_⟩
      rw [pBin_add, pConv_int, pBin_rem]; refine ⟨by decide, ?_⟩
      rw [pBin_add, pConv_int]
      exact go 50 49 rfl rfl
  · rw [if_neg (fun h => h he)] at hK
    exact hK h1 A1

end
end Go.Proofs.YtdbkeklhjjlhbaaGreat

namespace Go.Proofs
open Go.Shelf
def Tryz.lays156_ren : Go.Shelf.Ren := { f := fun | 156 => 23 | 165 => 59 | 166 => 60 | 169 => 61 | 240 => 86 | 241 => 87 | 276 => 99 | 277 => 100 | n => n, t := fun | 31 => 50 | 9 => 9 | 3 => 3 | 4 => 4 | 0 => 0 | 20 => 20 | 72 => 93 | 76 => 96 | 70 => 91 | 37 => 24 | 75 => 95 | 127 => 130 | 164 => 141 | 5 => 5 | 80 => 98 | n => n, g := fun n => n }
theorem Tryz.lays156 : Lays.n156 Tryz.prog Tryz.lays156_ren where
  mixed := by kernel_rfl
  f156 := Tryz.func23.trans (congrArg some (by kernel_rfl))
  f165 := Tryz.func59.trans (congrArg some (by kernel_rfl))
  f166 := Tryz.func60.trans (congrArg some (by kernel_rfl))
  f169 := Tryz.func61.trans (congrArg some (by kernel_rfl))
  f240 := Tryz.func86.trans (congrArg some (by kernel_rfl))
  f241 := Tryz.func87.trans (congrArg some (by kernel_rfl))
  f276 := Tryz.func99.trans (congrArg some (by kernel_rfl))
  f277 := Tryz.func100.trans (congrArg some (by kernel_rfl))
  t0 := Tryz.underlying0
  a0 := Tryz.isAgg0
  z0 := Tryz.sizeOf0
  v0 := Tryz.zeroValue0
  t3 := Tryz.underlying3
  a3 := Tryz.isAgg3
  z3 := Tryz.sizeOf3
  v3 := Tryz.zeroValue3
  t4 := Tryz.underlying4
  a4 := Tryz.isAgg4
  z4 := Tryz.sizeOf4
  v4 := Tryz.zeroValue4
  t9 := Tryz.underlying9
  a9 := Tryz.isAgg9
  z9 := Tryz.sizeOf9
  v9 := Tryz.zeroValue9
  t20 := Tryz.underlying20
  a20 := Tryz.isAgg20
  z20 := Tryz.sizeOf20
  v20 := Tryz.zeroValue20
  t31 := Tryz.underlying50
  a31 := Tryz.isAgg50
  z31 := Tryz.sizeOf50
  v31 := Tryz.zeroValue50
  t37 := Tryz.underlying24
  a37 := Tryz.isAgg24
  z37 := Tryz.sizeOf24
  v37 := Tryz.zeroValue24
  t70 := Tryz.underlying91
  a70 := Tryz.isAgg91
  z70 := Tryz.sizeOf91
  v70 := Tryz.zeroValue91
  t72 := Tryz.underlying93
  a72 := Tryz.isAgg93
  z72 := Tryz.sizeOf93
  v72 := Tryz.zeroValue93
  t75 := Tryz.underlying95
  a75 := Tryz.isAgg95
  z75 := Tryz.sizeOf95
  v75 := Tryz.zeroValue95
  t76 := Tryz.underlying96
  a76 := Tryz.isAgg96
  z76 := Tryz.sizeOf96
  v76 := Tryz.zeroValue96
  t127 := Tryz.underlying130
  a127 := Tryz.isAgg130
  z127 := Tryz.sizeOf130
  v127 := Tryz.zeroValue130
  t164 := Tryz.underlying141
  a164 := Tryz.isAgg141
  z164 := Tryz.sizeOf141
  v164 := Tryz.zeroValue141

theorem Tryz.builderExtra : Builder.Extra Tryz.prog Tryz.lays156_ren where
  sizeBuilder := by kernel_rfl
  liesBuilder := by kernel_rfl
  t5 := Tryz.underlying5
  a5 := Tryz.isAgg5
  z5 := Tryz.sizeOf5
  v5 := Tryz.zeroValue5
  infoByte := by kernel_rfl
  cellsByte := by kernel_rfl
  sizeByte := by kernel_rfl
  neB5 := by decide
end Go.Proofs
namespace Go.Proofs.YtdbkeklhjjlhbaaGreat
open Go Go.Mh
set_option linter.unusedVariables false

/-- strings.Join. -/
def joinS (l : List ByteArray) (sep : ByteArray) : ByteArray := ⟨(Lib.join (l.map (·.data.toList)) sep.data.toList).toArray⟩

section
variable {h0 h : Heap} {L : List Res} {K : Value → Heap → Prop} {v : Value} {ys : List ByteArray} {sep : ByteArray}

theorem join_ok (H : Vw encS 1 h v ys) (hn : ys.length ≤ 1048576) (hl : (Lib.join (ys.map (·.data.toList)) sep.data.toList).length ≤ 140737488355328) (hK : ∀ h', Ext h h' → K (.string (joinS ys sep)) h') : callS Tryz.prog F_strings_Join [v, .string sep] h K := by
  refine callS_of ⟨by kernel_rfl, fun w hw => ?_⟩
  subst hw
  obtain ⟨bl, base, cap, rfl, hcap, hv⟩ := H
  have fin : ∀ w', Go.RowKit.Below w.heap.size w w' → Same w w' ∧ Ext w.heap w'.heap := fun w' hb => ⟨⟨hb.os, hb.output, hb.tape⟩, hb.size, fun b hb' _ => hb.block b hb'⟩
  rcases hv with ⟨rfl, hb⟩ | ⟨o, pre, post, T, fz, rfl, hb, ho⟩
  · refine (callsIn_wide.2 (Any.strings_Join_none Tryz.lays156 Tryz.builderExtra base cap sep w)).mono fun e w' ⟨he, hw'⟩ => ?_
    subst hw'
    exact ⟨_, he, ⟨rfl, rfl, rfl⟩, hK _ (.refl _ _)⟩
  · refine (callsIn_wide.2 (Any.strings_Join Tryz.lays156 Tryz.builderExtra bl o cap ys sep w ?_ ?_ (by omega) hcap hl)).mono fun e w' ⟨he, hw'⟩ => ?_
    · intro j x hx
      have hj := (List.getElem?_eq_some_iff.1 hx)
      have hc : hcell w.heap ⟨bl, o + j, none⟩ = some (.string x) := by
        refine hcell_of hb ?_
        have g := row_get (enc := encS) (n := 1) (fun _ => rfl) hj.1 (j := 0) (by omega) post
        rw [List.getElem?_toArray, List.append_assoc, List.getElem?_append_right (by omega), show o + j - pre.length = j * 1 + 0 by omega, g, hj.2]
        rfl
      exact hc
    · exact get_lt hb
    · obtain ⟨h1, h2⟩ := fin w' hw'
      exact ⟨_, he, h1, hK _ h2⟩

end
end Go.Proofs.YtdbkeklhjjlhbaaGreat

namespace Go.Proofs.YtdbkeklhjjlhbaaGreat
open Go Go.Mh
set_option linter.unusedVariables false

section
variable {h0 h : Heap} {L : List Res} {K : Value → Heap → Prop} {k d : Nat} {s : Dk} {U : List Nm} {N : Nat} {a b : Nm} {ds : List (Nat × Dk)}

def stepS (s : Dk) (out : ByteArray) (a : Nm) : ByteArray := out ++ a ++ (⟨#[61]⟩ : ByteArray) ++ rdS s a ++ (⟨#[59]⟩ : ByteArray)
def stS (s : Dk) : ByteArray := (mNames s).foldl (stepS s) ⟨#[]⟩

theorem rdS_size (hI : s.Inv U N) : (rdS s a).size ≤ 1048576 := by
  unfold rdS
  split
  · rw [ByteArray.size_append]
    show 1 + 2 ≤ _
    decide
  · unfold mRead
    split
    · exact Nat.zero_le _
    · rename_i h
      show (bytesOf _).toArray.size ≤ _
      rw [List.size_toArray]
      have he : refE s (namesE [a]) [a] = 0 := Classical.byContradiction fun hn => h hn
      obtain ⟨_, _, ht⟩ := ref_off he
      obtain ⟨n, hn⟩ := Option.isSome_iff_exists.1 (ht a List.mem_cons_self)
      have hv := now_val hI (a, n) ((dlook_mem (keys_dirOf _)).1 hn)
      rw [hn]
      exact bytes_len (hI.wr _ (th_mem hv))

theorem names_sub (hI : s.Inv U N) {x : Nm} (hx : x ∈ mNames s) : x ∈ U := by
  unfold mNames at hx
  split at hx
  · cases hx
  · exact dir_nm (U := U) _ [] (fun a h => by cases h) hI.nm _ ((sortO_mem ltS_ok).1 hx)

theorem names_len12 (hI : s.Inv U N) (hl : U.length ≤ 12) : (mNames s).length ≤ 12 := by
  unfold mNames
  split
  · simp
  · have h1 := sortO_len (lt := ltS) (keysOf s.now)
    have h2 := len_of_sub (keys_dirOf (s.cs ++ s.cp)) (dir_nm (U := U) _ [] (fun a h => by cases h) hI.nm)
    have h3 : (keysOf (dirOf (s.cs ++ s.cp))).length = (keysOf s.now).length := rfl
    omega

theorem state_ok (A : Ats h0 h ds L) (hk : ds[k]? = some (d, s)) (hI : s.Inv U N) (hN : N ≤ 1048576) (hl : U.length ≤ 12) (hU : ∀ a ∈ U, a.size ≤ 1048576) (hK : ∀ h', Ats h0 h' ds L → K (.string (stS s)) h') : callS Tryz.prog F_milestonelaw29_state [ptr d] h K := by
  refine callS_of (lk_milestonelaw29_state _ ?_)
  unfold sh_milestonelaw29_state
  refine namesA A hk hI hl fun w h1 A1 => ?_
  have hn12 := names_len12 hI hl
  have hsub : ∀ x ∈ mNames s, x.size ≤ 1048576 := fun x hx => hU x (names_sub hI hx)
  unfold stS at hK
  generalize mNames s = ys at A1 hn12 hsub hK
  refine LoopH_count ys.length (fun i x h' => x.2.1 = I i ∧ ∃ out, x.1 = .string out ∧ out = (ys.take i).foldl (stepS s) ⟨#[]⟩ ∧ out.size ≤ i * 2097154 ∧ Ats h0 h' ds (slR encS 1 T_string w ys :: L)) ⟨rfl, _, rfl, rfl, Nat.zero_le _, A1⟩ ?_
  rintro i ⟨y, x, ⟨⟩⟩ h2 Z hi ⟨hx, out, hy, hout, hsz, A2⟩ hZ
  dsimp only at hx hy hZ ⊢
  subst hx hy
  unfold sh_milestonelaw29_state_L1
  have o2 := A2.own
  refine (o2.vw 0 rfl).len ?_
  rw [pBin_lss, ifV_dec]
  refine ⟨fun hlt => ?_, fun hge => ?_⟩
  · have hi' : i < ys.length := by omega
    refine o2.idxAt 0 rfl hi' fun bl H hb => ?_
    have hc := H.slot (m := 1) (fun _ => rfl) hi' (j := 0) (by decide)
    have hc : hcell h2 ⟨bl, i * 1, none⟩ = some (.string ys[i]) := hc
    simp only [pLoad_ptr, hc]
    have s1 := hsub _ (List.getElem_mem hi')
    have s2 := rdS_size (a := ys[i]) hI
    have hb12 : i * 2097154 ≤ 12 * 2097154 := Nat.mul_le_mul_right _ (by omega)
    refine pBin_addS (by omega) (pBin_addS (by rw [ByteArray.size_append]; show _ + 1 ≤ _; omega) ?_)
    refine o2.idxAt 0 rfl hi' fun bl' H' hb' => ?_
    have hc2 : hcell h2 ⟨bl', i * 1, none⟩ = some (.string ys[i]) := H'.slot (m := 1) (fun _ => rfl) hi' (j := 0) (by decide)
    simp only [pLoad_ptr, hc2]
    refine lawRead_ok A2 hk hI hN fun h3 A3 => ?_
    obtain ⟨bl3, H3⟩ := A3.get
    have e3 := H3.blk hb
    subst e3
    have hc3 : hcell h3 ⟨bl, i * 1, none⟩ = some (.string ys[i]) := H3.slot (m := 1) (fun _ => rfl) hi' (j := 0) (by decide)
    refine ⟨by simp only [pLoad_ptr, hc3], ?_⟩
    refine pBin_addS (by rw [ByteArray.size_append, ByteArray.size_append]; show _ + 1 + _ ≤ _; omega) (pBin_addS (by rw [ByteArray.size_append, ByteArray.size_append, ByteArray.size_append]; show _ + 1 + _ + 1 ≤ _; omega) ?_)
    rw [pBin_add, wI i (by omega)]
    refine hZ (_, _, ()) h3 hi' ⟨rfl, _, rfl, ?_, ?_, A3⟩
    · rw [List.take_succ_eq_append_getElem hi', List.foldl_append, ← hout]; rfl
    · rw [ByteArray.size_append, ByteArray.size_append, ByteArray.size_append, ByteArray.size_append]
      show _ + _ + 1 + _ + 1 ≤ _
      omega
  · have : ys.take i = ys := List.take_of_length_le (by omega)
    rw [this] at hout
    subst hout
    exact hK h2 A2.drop

/-! ### Acts -/

structure AV where
  w : Int
  a : Int
  b : Int
  t : Int
  s : ByteArray
  fv : Value
def encAct (x : AV) : List Value := [.int .u8 x.w, .int .u8 x.a, .int .u8 x.b, .int .u8 x.t, .string x.s, x.fv]

def nmL : List Nm := [⟨#[97]⟩, ⟨#[98]⟩, ⟨#[105, 109, 97, 103, 101]⟩, ⟨#[116, 101, 109, 112]⟩, ⟨#[]⟩, ⟨#[97, 32, 110, 97, 109, 101, 32, 116, 104, 97, 116, 32, 105, 115, 32, 116, 111, 111, 32, 108, 111, 110, 103, 32, 102, 111, 114, 32, 105, 116]⟩]
def nameOf (z : Int) : Nm := nmL.getD (z.toNat % 6) ⟨#[]⟩

theorem VwE.moreE {h' : Heap} {v : Value} {fs : List Int} (H : VwE h v fs) (x : Ext h h') : VwE h' v fs := by
  rcases H with H | H
  · exact .inl (H.more x)
  · exact .inr H

theorem VwE.cut20 {v : Value} {fs : List Int} {K : Value → Prop} (H : VwE h v fs) (hK : ∀ v', (∀ h', VwE h' v fs → VwE h' v' (fs.take 20)) → K v') : pSlice 1 v none (some (I ((min fs.length 20 : Nat) : Int))) none K := by
  rcases H with H | ⟨rfl, a, rfl⟩
  · by_cases hf : fs = []
    · subst hf
      refine H.sub (lo := none) (hi := some (I ((min ([] : List Int).length 20 : Nat) : Int))) (a := 0) (j := 0) (fun _ => rfl) rfl rfl (Nat.le_refl _) (Nat.le_refl _) fun v' hv' => hK v' fun h' _ => .inl ?_
      obtain ⟨bl, b, cap, e, hc, hv⟩ := hv'
      refine ⟨bl, b, cap, e, hc, .inl ⟨rfl, ?_⟩⟩
      rcases hv with ⟨_, hb⟩ | ⟨o, _, _, _, _, rfl, _⟩
      · exact hb
      · exact .inr ⟨_, _, rfl⟩
    · refine H.subA (a := 0) (j := min fs.length 20) (fun _ => rfl) rfl rfl (Nat.zero_le _) (by omega) fun v' hv' => hK v' fun h' Hh => ?_
      have e : (fs.drop 0).take (min fs.length 20 - 0) = fs.take 20 := by
        rw [List.drop_zero, Nat.sub_zero]
        by_cases c : fs.length ≤ 20
        · rw [Nat.min_eq_left c, List.take_of_length_le (Nat.le_refl _), List.take_of_length_le c]
        · rw [Nat.min_eq_right (by omega)]
      rw [e] at hv'
      rcases Hh with Hh | ⟨hn, _⟩
      · exact .inl (hv' h' Hh)
      · exact absurd hn hf
  · refine ⟨by simp, by simp, by simp, by simp, by simp, hK _ fun h' _ => .inr ⟨rfl, a, ?_⟩⟩
    unfold slBase
    rfl

theorem name_ok {z : Int} (hz : 0 ≤ z ∧ z ≤ 255) (hK : ∀ h', Ext h h' → K (.string (nameOf z)) h') : callS Tryz.prog F_milestoneref29_Name [.int .u8 z] h K := by
  refine callS_of (lk_milestoneref29_Name _ ?_)
  unfold sh_milestoneref29_Name
  refine (Own.start h).build (enc := encS) (n := 1) nmL rfl (sizesOk_of rfl) rfl fun w h1 o1 => ?_
  rw [pBin_rem]
  refine ⟨by decide, ?_⟩
  have e : z.tmod 6 = ((z.toNat % 6 : Nat) : Int) := by rw [Int.tmod_eq_emod_of_nonneg (by omega)]; omega
  rw [e]
  have hlt : z.toNat % 6 < nmL.length := Nat.mod_lt _ (by decide)
  refine (o1.vw 0 rfl).at1 (e := fun (x : Nm) => Value.string x) (fun _ => rfl) hlt ?_
  have e2 : nmL[z.toNat % 6] = nameOf z := by unfold nameOf; rw [List.getD_eq_getElem?_getD, List.getElem?_eq_getElem hlt]; rfl
  rw [e2]
  exact hK h1 o1.ext

def cutS (s : ByteArray) : ByteArray := s.extract 0 (min s.size 12)

def mDo (s : Dk) (x : AV) (f : List Int) : (ByteArray × Int) × Dk :=
  match x.w.toNat % 9 with
  | 0 => ((⟨#[]⟩, (mMake s (nameOf x.a)).1), (mMake s (nameOf x.a)).2)
  | 1 => ((⟨#[]⟩, (mWrite s (nameOf x.a) ((x.t.toNat % 40 : Nat) - 2) (cutS x.s)).1), (mWrite s (nameOf x.a) ((x.t.toNat % 40 : Nat) - 2) (cutS x.s)).2)
  | 2 => ((⟨#[]⟩, (mSync s (nameOf x.a)).1), (mSync s (nameOf x.a)).2)
  | 3 => ((⟨#[]⟩, (mRename s (nameOf x.a) (nameOf x.b)).1), (mRename s (nameOf x.a) (nameOf x.b)).2)
  | 4 => ((⟨#[]⟩, (mRemove s (nameOf x.a)).1), (mRemove s (nameOf x.a)).2)
  | 5 => ((⟨#[]⟩, (mSyncDir s).1), (mSyncDir s).2)
  | 6 => (mRead s (nameOf x.a), s)
  | 7 => ((⟨#[]⟩, 0), mArm s ((x.t.toNat % 6 : Nat) - 1))
  | _ => ((⟨#[]⟩, 0), mCrash s (f.take 20))

structure AOk (x : AV) (f : List Int) : Prop where
  w : 0 ≤ x.w ∧ x.w ≤ 255
  a : 0 ≤ x.a ∧ x.a ≤ 255
  b : 0 ≤ x.b ∧ x.b ≤ 255
  t : 0 ≤ x.t ∧ x.t ≤ 255
  f : ∀ z ∈ f, 0 ≤ z ∧ z ≤ 255
  s : x.s.size ≤ 9223372036854775807

theorem do_ok {x : AV} {f : List Int} (A : Ats h0 h ds L) (hk : ds[k]? = some (d, s)) (hI : s.Inv U N) (hN : N ≤ 1048576) (hl : U.length ≤ 12) (hx : AOk x f) (hf : FV h0 L x.fv f)
    (hK : ∀ h', Ats h0 h' (ds.set k (d, (mDo s x f).2)) L → K (.tuple #[.string (mDo s x f).1.1, I (mDo s x f).1.2]) h') : callS Tryz.prog F_milestonelaw29_do [ptr d, .agg (encAct x).toArray] h K := by
  refine callS_of (lk_milestonelaw29_do _ _ ?_)
  unfold sh_milestonelaw29_do
  have same : ∀ h', Ats h0 h' ds L → Ats h0 h' (ds.set k (d, s)) L := fun h' A' => by rw [setSame hk]; exact A'
  refine (Own.start h).box fun x3 h1 o1 => ?_
  have o1 : Own h h1 [cellR x3 (encAct x) T_milestoneref29_Act] := o1
  have hc : ∀ h', Ext h1 h' → ∀ (i : Nat) (v : Value), (encAct x)[i]? = some v → hcell h' ⟨x3, 0 + i, none⟩ = some v := fun h' e i v hv => hcell_more e (hcell_of (o1.get 0 rfl) (by simpa using hv))
  have ld : ∀ {h' : Heap} {i : Nat} {v : Value} {K' : Value → Prop}, Ext h1 h' → (encAct x)[i]? = some v → K' v → pField i (ptr x3) fun t => pLoad h' t K' := fun e hv hk' => by
    rw [pField_ptr]
    simp only [pLoad_ptr, hc _ e _ _ hv]
    exact hk'
  have A1 := A.more o1.ext
  refine ld (.refl _ _) rfl (ld (.refl _ _) rfl ?_)
  have hs := hx.s
  rw [pLenS_str, pMin_int]
  have e12 : (if (12 : Int) < x.s.size then (12 : Int) else x.s.size) = ((min x.s.size 12 : Nat) : Int) := by split <;> omega
  rw [e12]
  have sl : ∀ {K' : Value → Prop}, K' (.string (cutS x.s)) → pSliceS (.string x.s) none (some (I ((min x.s.size 12 : Nat) : Int))) K' := fun hk => ⟨Int.le_refl _, by omega, by omega, hk⟩
  refine sl ?_
  have hcs : (cutS x.s).size ≤ 1048576 := by
    unfold cutS; rw [ByteArray.size_extract]; omega
  refine ld (.refl _ _) rfl ?_
  have hcb := hc h1 (.refl _ _) 2 (.int .u8 x.b) rfl
  rw [pField_ptr]
  simp only [pLoad_ptr, hcb]
  refine name_ok hx.a fun h2 e2 => ?_
  have hcb2 := hc h2 e2 2 (.int .u8 x.b) rfl
  refine ⟨by simp only [pLoad_ptr, hcb2], ?_⟩
  refine name_ok hx.b fun h3 e3 => ?_
  have e13 : Ext h1 h3 := e2.trans e3 fun _ h _ => h
  have A3 := (A1.more e2).more e3
  refine ld e13 rfl ?_
  have hw := hx.w
  have ht := hx.t
  rw [pBin_rem]
  refine ⟨by decide, ?_⟩
  have ew : x.w.tmod 9 = ((x.w.toNat % 9 : Nat) : Int) := by rw [Int.tmod_eq_emod_of_nonneg (by omega)]; omega
  rw [ew]
  have hw9 : x.w.toNat % 9 < 9 := Nat.mod_lt _ (by decide)
  unfold mDo at hK
  generalize x.w.toNat % 9 = q at hw9 hK
  have cq : ∀ (n : Nat), (((q : Nat) : Int) == ((n : Nat) : Int)) = decide (q = n) := fun n => by
    rw [Bool.eq_iff_iff]; simp; omega
  rw [pBin_eql, show ((q : Int) == 0) = decide (q = 0) from cq 0, ifV_dec]
  refine ⟨fun h => ?_, fun n0 => ?_⟩
  · subst h
    exact makeA A3 hk hI hN fun h4 A4 => hK h4 A4
  rw [pBin_eql, show ((q : Int) == 1) = decide (q = 1) from cq 1, ifV_dec]
  refine ⟨fun h => ?_, fun n1 => ?_⟩
  · subst h
    refine ld e13 rfl ?_
    rw [pBin_rem]
    refine ⟨by decide, ?_⟩
    rw [show x.t.tmod 40 = ((x.t.toNat % 40 : Nat) : Int) by rw [Int.tmod_eq_emod_of_nonneg (by omega)]; omega, pConv_int, w64 (by omega) (by omega), pBin_sub, w64 (by omega) (by omega)]
    exact writeA A3 hk hI hN (by omega) hcs fun h4 A4 => hK h4 A4
  rw [pBin_eql, show ((q : Int) == 2) = decide (q = 2) from cq 2, ifV_dec]
  refine ⟨fun h => ?_, fun n2 => ?_⟩
  · subst h
    exact syncA A3 hk hI hN fun h4 A4 => hK h4 A4
  rw [pBin_eql, show ((q : Int) == 3) = decide (q = 3) from cq 3, ifV_dec]
  refine ⟨fun h => ?_, fun n3 => ?_⟩
  · subst h
    exact renameA A3 hk hI hN fun h4 A4 => hK h4 A4
  rw [pBin_eql, show ((q : Int) == 4) = decide (q = 4) from cq 4, ifV_dec]
  refine ⟨fun h => ?_, fun n4 => ?_⟩
  · subst h
    exact removeA A3 hk hI hN fun h4 A4 => hK h4 A4
  rw [pBin_eql, show ((q : Int) == 5) = decide (q = 5) from cq 5, ifV_dec]
  refine ⟨fun h => ?_, fun n5 => ?_⟩
  · subst h
    exact syncDirA A3 hk hI fun h4 A4 => hK h4 A4
  rw [pBin_eql, show ((q : Int) == 6) = decide (q = 6) from cq 6, ifV_dec]
  refine ⟨fun h => ?_, fun n6 => ?_⟩
  · subst h
    refine readA (a := nameOf x.a) A3 hk hI hN fun h4 A4 => ?_
    rw [pExt0, pExt1]
    exact hK h4 (same h4 A4)
  rw [pBin_eql, show ((q : Int) == 7) = decide (q = 7) from cq 7, ifV_dec]
  refine ⟨fun h => ?_, fun n7 => ?_⟩
  · subst h
    refine ld e13 rfl ?_
    rw [pBin_rem]
    refine ⟨by decide, ?_⟩
    rw [show x.t.tmod 6 = ((x.t.toNat % 6 : Nat) : Int) by rw [Int.tmod_eq_emod_of_nonneg (by omega)]; omega, pConv_int, w64 (by omega) (by omega), pBin_sub, w64 (by omega) (by omega)]
    exact armA A3 hk fun h4 A4 => hK h4 A4
  have : q = 8 := by omega
  subst this
  refine ld e13 rfl (ld e13 rfl ?_)
  have Hf : VwE h x.fv f := hf [] h A.own
  refine (Hf.moreE (o1.ext.trans e13 fun _ h _ => h)).len ?_
  rw [pMin_int]
  have e20 : (if (20 : Int) < f.length then (20 : Int) else f.length) = ((min f.length 20 : Nat) : Int) := by split <;> omega
  rw [e20]
  refine (Hf.moreE (o1.ext.trans e13 fun _ h _ => h)).cut20 fun v' hv' => ?_
  refine crashA A3 hk hI hN hl (fun Rs h' o' => hv' h' (hf Rs h' o')) (fun z hz => hx.f z (List.mem_of_mem_take hz)) (by rw [List.length_take]; omega) ?_ fun h4 A4 => hK h4 A4
  exact (hv' h Hf).one

end
end Go.Proofs.YtdbkeklhjjlhbaaGreat

namespace Go.Proofs.YtdbkeklhjjlhbaaGreat
open Go Go.Mh
set_option linter.unusedVariables false

section
variable {h0 h : Heap} {L : List Res} {K : Value → Heap → Prop} {k d : Nat} {s : Dk} {U : List Nm} {N : Nat} {a b : Nm} {ds : List (Nat × Dk)}

theorem FV.sl {w : Value} {fs : List Int} : FV h0 (slR encU8 1 T_uint8 w fs :: L) w fs := fun Rs h' o =>
  .inl (o.vw Rs.length (by rw [List.getElem?_append_right (Nat.le_refl _), Nat.sub_self]; rfl))

theorem crash1 {z : Int} (A : Ats h0 h ds L) (hk : ds[k]? = some (d, s)) (hI : s.Inv U N) (hN : N ≤ 1048576) (hl : U.length ≤ 12) (hz : 0 ≤ z ∧ z ≤ 255) (hK : ∀ h', Ats h0 h' (ds.set k (d, mCrash s [z])) L → K (.tuple #[]) h') :
    pBuildSlice T_uint8 (zerosL [(.int .u8 0)] 1) [(0, 1, (.int .u8 z))] 1 h fun t h2 => callS Tryz.prog F_disk_Disk_Crash [ptr d, t] h2 K := by
  refine (Own.start h).build (enc := encU8) (n := 1) [z] rfl (sizesOk_of rfl) rfl fun w h2 o2 => ?_
  refine crashA (A.add o2) hk hI hN hl FV.sl (fun y hy => by rw [List.mem_singleton.1 hy]; exact hz) (by simp) (o2.vw 0 rfl).one fun h' A' => hK h' A'.drop

theorem crash2 {z y : Int} (A : Ats h0 h ds L) (hk : ds[k]? = some (d, s)) (hI : s.Inv U N) (hN : N ≤ 1048576) (hl : U.length ≤ 12) (hz : 0 ≤ z ∧ z ≤ 255) (hy : 0 ≤ y ∧ y ≤ 255) (hK : ∀ h', Ats h0 h' (ds.set k (d, mCrash s [z, y])) L → K (.tuple #[]) h') :
    pBuildSlice T_uint8 (zerosL [(.int .u8 0)] 2) [(0, 1, (.int .u8 z)), (1, 1, (.int .u8 y))] 2 h fun t h2 => callS Tryz.prog F_disk_Disk_Crash [ptr d, t] h2 K := by
  refine (Own.start h).build (enc := encU8) (n := 1) [z, y] rfl (sizesOk_of rfl) rfl fun w h2 o2 => ?_
  refine crashA (A.add o2) hk hI hN hl FV.sl (fun x hx => ?_) (by simp) (o2.vw 0 rfl).one fun h' A' => hK h' A'.drop
  rcases List.mem_cons.1 hx with rfl | hx
  · exact hz
  · rw [List.mem_singleton.1 hx]; exact hy

/-! ### The chapter's examples -/

def nA : Nm := ⟨#[97]⟩
def nB : Nm := ⟨#[98]⟩
def wU : List Nm := [nA, nB]
def w1 : Dk := (mMake .new nA).2
def w2 : Dk := (mWrite w1 nA 2 ⟨#[120, 121]⟩).2
def w3 : Dk := mCrash w2 [1]
def e2D : Dk := mCrash w1 [0]
def f2D : Dk := (mWrite w1 nA 0 ⟨#[120, 121]⟩).2
def f3D : Dk := (mSync f2D nA).2
def f4D : Dk := (mSyncDir f3D).2
def f5D : Dk := (mWrite f4D nA 1 ⟨#[122]⟩).2
def f6D : Dk := mCrash f5D [0, 0]
def g2D : Dk := mCrash f5D [0, 1]
def h2D : Dk := (mSyncDir w1).2
def h3D : Dk := (mMake h2D nB).2
def h4D : Dk := (mRename h3D nB nA).2
def h5D : Dk := mCrash h4D [1]
def i0D : Dk := mArm .new 2
def i1D : Dk := (mMake i0D nA).2
def i2D : Dk := (mMake i1D nB).2
def i3D : Dk := mCrash i2D [1]

theorem mA : nA ∈ wU := List.mem_cons_self
theorem mB : nB ∈ wU := List.mem_cons_of_mem _ List.mem_cons_self
theorem w1I : w1.Inv wU 1 := make_inv new_inv mA
theorem w2I : w2.Inv wU 2 := write_inv w1I (by decide)
theorem w3I : w3.Inv wU 3 := crash_inv w2I
theorem e2I : e2D.Inv wU 2 := crash_inv w1I
theorem f2I : f2D.Inv wU 2 := write_inv w1I (by decide)
theorem f3I : f3D.Inv wU 3 := sync_inv f2I
theorem f4I : f4D.Inv wU 4 := syncDir_inv f3I
theorem f5I : f5D.Inv wU 5 := write_inv f4I (by decide)
theorem f6I : f6D.Inv wU 6 := crash_inv f5I
theorem g2I : g2D.Inv wU 6 := crash_inv f5I
theorem h2I : h2D.Inv wU 2 := syncDir_inv w1I
theorem h3I : h3D.Inv wU 3 := make_inv h2I mB
theorem h4I : h4D.Inv wU 4 := rename_inv h3I mA
theorem h5I : h5D.Inv wU 5 := crash_inv h4I
theorem i0I : i0D.Inv wU 1 := arm_inv new_inv (by decide)
theorem i1I : i1D.Inv wU 2 := make_inv i0I mA
theorem i2I : i2D.Inv wU 3 := make_inv i1I mB
theorem i3I : i3D.Inv wU 4 := crash_inv i2I

set_option maxRecDepth 100000 in
theorem wk1 : rdS w2 nA = ⟨#[0, 0, 120, 121]⟩ := by decide +kernel
theorem wk2 : rdS w3 nA = ⟨#[]⟩ := by decide +kernel
theorem wk3 : mNames e2D = [] := by decide +kernel
theorem wk4 : rdS f6D nA = ⟨#[120, 121]⟩ := by decide +kernel
theorem wk5 : rdS g2D nA = ⟨#[120, 122]⟩ := by decide +kernel
theorem wk6 : (mMake i0D nA).1 = 0 := by decide +kernel
theorem wk7 : (mMake i1D nB).1 = 22 := by decide +kernel
theorem wk8 : mNames i2D = [] := by decide +kernel
theorem wk9 : mNames h5D = [nA, nB] := by decide +kernel
theorem wk10 : mNames i3D = [nA] := by decide +kernel
theorem wk11 : joinS [nA, nB] ⟨#[32]⟩ = ⟨#[97, 32, 98]⟩ := by decide +kernel
theorem wk12 : joinS [nA] ⟨#[32]⟩ = ⟨#[97]⟩ := by decide +kernel

theorem works29_ok (hK : ∀ h', Ext h h' → K (.bool true) h') : callS Tryz.prog F_milestonelaw29_works [] h K := by
  refine callS_of (lk_milestonelaw29_works ?_)
  unfold sh_milestonelaw29_works
  have N2 : (2 : Nat) ≤ 1048576 := by decide
  refine newA (Ats.none (Own.start h)) fun d1 h1 A1 => ?_
  rw [pEq_ptr_nil, Option.isNone_some, ifV_false]
  refine makeA (a := nA) (k := 0) A1 rfl (new_inv (U := wU)) (by decide) fun h2 A2 => ?_
  refine writeA (a := nA) (k := 0) A2 rfl w1I (by decide) (by decide) (by decide) fun h3 A3 => ?_
  refine lawRead_ok (a := nA) (k := 0) (s := w2) A3 rfl w2I (by decide) fun h4 A4 => ?_
  rw [wk1, pBin_eqlS, decide_eq_true rfl]
  refine crash1 (k := 0) (s := w2) A4 rfl w2I (by decide) (by decide) (by decide) fun h5 A5 => ?_
  rw [ifV_true]
  refine lawRead_ok (a := nA) (k := 0) (s := w3) A5 rfl w3I (by decide) fun h6 A6 => ?_
  rw [wk2, pBin_eqlS, decide_eq_true rfl]
  unfold sh_milestonelaw29_works_k1
  refine newA A6 fun d2 h7 A7 => ?_
  refine makeA (a := nA) (k := 0) A7 rfl (new_inv (U := wU)) (by decide) fun h8 A8 => ?_
  refine crash1 (k := 0) (s := w1) A8 rfl w1I (by decide) (by decide) (by decide) fun h9 A9 => ?_
  refine newA A9 fun d3 h10 A10 => ?_
  refine makeA (a := nA) (k := 0) A10 rfl (new_inv (U := wU)) (by decide) fun h11 A11 => ?_
  refine writeA (a := nA) (k := 0) A11 rfl w1I (by decide) (by decide) (by decide) fun h12 A12 => ?_
  refine syncA (a := nA) (k := 0) (s := f2D) A12 rfl f2I (by decide) fun h13 A13 => ?_
  refine syncDirA (k := 0) (s := f3D) A13 rfl f3I fun h14 A14 => ?_
  refine writeA (a := nA) (k := 0) (s := f4D) A14 rfl f4I (by decide) (by decide) (by decide) fun h15 A15 => ?_
  refine copyA (k := 0) (s := f5D) A15 rfl f5I (by decide) fun d4 h16 A16 => ?_
  refine crash2 (k := 1) (s := f5D) A16 rfl f5I (by decide) (by decide) (by decide) (by decide) fun h17 A17 => ?_
  refine crash2 (k := 0) (s := f5D) A17 rfl f5I (by decide) (by decide) (by decide) (by decide) fun h18 A18 => ?_
  refine namesA (k := 2) (s := e2D) A18 rfl e2I (by decide) fun v1 h19 A19 => ?_
  rw [wk3] at A19
  refine (A19.own.vw 0 rfl).len ?_
  rw [pBin_eql]
  have A20 := A19.drop
  show ifV (.bool true) _ _
  rw [ifV_true]
  refine lawRead_ok (a := nA) (k := 1) (s := f6D) A20 rfl f6I (by decide) fun h21 A21 => ?_
  rw [wk4, pBin_eqlS, decide_eq_true rfl, ifV_true]
  refine lawRead_ok (a := nA) (k := 0) (s := g2D) A21 rfl g2I (by decide) fun h22 A22 => ?_
  rw [wk5, pBin_eqlS, decide_eq_true rfl]
  unfold sh_milestonelaw29_works_k2
  refine newA A22 fun d5 h23 A23 => ?_
  refine makeA (a := nA) (k := 0) A23 rfl (new_inv (U := wU)) (by decide) fun h24 A24 => ?_
  refine syncDirA (k := 0) (s := w1) A24 rfl w1I fun h25 A25 => ?_
  refine makeA (a := nB) (k := 0) (s := h2D) A25 rfl h2I (by decide) fun h26 A26 => ?_
  refine renameA (a := nB) (b := nA) (k := 0) (s := h3D) A26 rfl h3I (by decide) fun h27 A27 => ?_
  refine crash1 (k := 0) (s := h4D) A27 rfl h4I (by decide) (by decide) (by decide) fun h28 A28 => ?_
  refine newA A28 fun d6 h29 A29 => ?_
  refine armA (k := 0) A29 rfl fun h30 A30 => ?_
  refine makeA (a := nA) (k := 0) (s := i0D) A30 rfl i0I (by decide) fun h31 A31 => ?_
  rw [wk6, pBin_eql]
  show ifV (.bool true) _ _
  rw [ifV_true]
  refine makeA (a := nB) (k := 0) (s := i1D) A31 rfl i1I (by decide) fun h32 A32 => ?_
  rw [wk7, pBin_eql]
  show ifV (.bool true) _ _
  rw [ifV_true]
  refine namesA (k := 0) (s := i2D) A32 rfl i2I (by decide) fun v2 h33 A33 => ?_
  rw [wk8] at A33
  refine (A33.own.vw 0 rfl).len ?_
  rw [pBin_eql]
  have A34 := A33.drop
  show sh_milestonelaw29_works_k3 _ _ _ _ _ _ (.bool true) _
  unfold sh_milestonelaw29_works_k3
  refine crash1 (k := 0) (s := i2D) A34 rfl i2I (by decide) (by decide) (by decide) fun h35 A35 => ?_
  rw [ifV_true, ifV_true]
  refine namesA (k := 1) (s := h5D) A35 rfl h5I (by decide) fun v3 h36 A36 => ?_
  rw [wk9] at A36
  refine join_ok (A36.own.vw 0 rfl) (by decide) (by decide) fun h37 e37 => ?_
  have A37 := (A36.more e37).drop
  rw [wk11, pBin_eqlS, decide_eq_true rfl, ifV_true, ifV_true]
  refine namesA (k := 0) (s := i3D) A37 rfl i3I (by decide) fun v4 h38 A38 => ?_
  rw [wk10] at A38
  refine join_ok (A38.own.vw 0 rfl) (by decide) (by decide) fun h39 e39 => ?_
  rw [wk12, pBin_eqlS, decide_eq_true rfl]
  exact hK h39 ((A38.own.ext).trans e39 fun _ h _ => h)

end
end Go.Proofs.YtdbkeklhjjlhbaaGreat

/-! Disks that are none. -/
namespace Go.Proofs.YtdbkeklhjjlhbaaGreat
open Go Go.Mh
set_option linter.unusedVariables false

section
variable {h : Heap} {K : Value → Heap → Prop} {a : Nm} {z e : Int} {v w : Value}

theorem armNil (hK : K (.tuple #[]) h) : callS Tryz.prog F_disk_Disk_Arm [.pointer none, I z] h K := by
  refine callS_of (lk_disk_Disk_Arm _ _ ?_)
  unfold sh_disk_Disk_Arm
  rw [pNe_ptr_nil, Option.isSome_none, ifV_false]
  exact hK
theorem onNil (hK : K (.bool false) h) : callS Tryz.prog F_disk_Disk_On [.pointer none] h K := by
  refine callS_of (lk_disk_Disk_On _ ?_)
  unfold sh_disk_Disk_On
  rw [pNe_ptr_nil, Option.isSome_none, ifV_false]
  exact hK
theorem namesNil (hK : K (.slice none 0 0) h) : callS Tryz.prog F_disk_Disk_Names [.pointer none] h K := by
  refine callS_of (lk_disk_Disk_Names _ ?_)
  unfold sh_disk_Disk_Names
  refine onNil ?_
  rw [notF, ifV_true]
  exact hK
theorem copyNil (hK : K (.pointer none) h) : callS Tryz.prog F_disk_Disk_Copy [.pointer none] h K := by
  refine callS_of (lk_disk_Disk_Copy _ ?_)
  unfold sh_disk_Disk_Copy
  rw [pEq_ptr_nil, Option.isNone_none, ifV_true]
  exact hK
theorem crashNil (hK : ∀ h', Ext h h' → K (.tuple #[]) h') : callS Tryz.prog F_disk_Disk_Crash [.pointer none, v] h K := by
  refine callS_of (lk_disk_Disk_Crash _ _ ?_)
  unfold sh_disk_Disk_Crash
  refine (Own.start h).box fun f3 h1 o1 => ?_
  rw [pEq_ptr_nil, Option.isNone_none, ifV_true]
  exact hK h1 o1.ext
theorem pendingNil (hK : ∀ h', Ext h h' → K (.tuple #[I 0, I 0]) h') : callS Tryz.prog F_disk_Disk_Pending [.pointer none] h K := by
  refine callS_of (lk_disk_Disk_Pending _ ?_)
  unfold sh_disk_Disk_Pending
  refine (Own.start h).box fun f3 h1 o1 => ?_
  rw [pEq_ptr_nil, Option.isNone_none, ifV_true]
  refine o1.st1 0 (cs' := [I 0]) rfl rfl rfl rfl rfl fun h2 o2 => ?_
  refine o2.load 0 rfl rfl ?_
  exact hK h2 o2.ext
theorem refusedNil (hK : K (I 1) h) : callS Tryz.prog F_disk_Disk_refused [.pointer none, v, w] h K := by
  refine callS_of (lk_disk_Disk_refused _ _ _ ?_)
  unfold sh_disk_Disk_refused
  rw [pEq_ptr_nil, Option.isNone_none, ifV_true]
  exact hK
theorem stepNil (hK : K (I 1) h) : callS Tryz.prog F_disk_Disk_step [.pointer none, I 1, v] h K := by
  refine callS_of (lk_disk_Disk_step _ _ _ ?_)
  unfold sh_disk_Disk_step
  rw [pBin_neq]
  show ifV (.bool true) _ _
  rw [ifV_true]
  exact hK
theorem readNil (hK : ∀ h', Ext h h' → K (.tuple #[.string ⟨#[]⟩, I 1]) h') : callS Tryz.prog F_disk_Disk_Read [.pointer none, .string a] h K := by
  refine callS_of (lk_disk_Disk_Read _ _ ?_)
  unfold sh_disk_Disk_Read
  refine (Own.start h).build (enc := encS) (n := 1) [a] rfl (sizesOk_of rfl) rfl fun v h1 o1 => ?_
  refine names1 o1 ?_
  refine o1.build (enc := encS) (n := 1) [a] rfl (sizesOk_of rfl) rfl fun v h2 o2 => ?_
  refine refusedNil ?_
  rw [pBin_neq]
  show ifV (.bool true) _ _
  rw [ifV_true]
  exact hK h2 o2.ext

theorem changeNil {f : Nat} {caps : Array Value} (hK : ∀ h', Ext h h' → K (I 1) h') : callS Tryz.prog F_disk_Disk_change [.pointer none, I 1, .func (.func f) #[] caps] h K := by
  refine callS_of (lk_disk_Disk_change _ _ _ ?_)
  unfold sh_disk_Disk_change
  refine (Own.start h).box fun d3 h1 o1 => ?_
  refine o1.box fun c5 h2 o2 => ?_
  refine o2.load 1 rfl rfl ?_
  exact stepNil (hK h2 o2.ext)
theorem makeNil (hK : ∀ h', Ext h h' → K (I 1) h') : callS Tryz.prog F_disk_Disk_Make [.pointer none, .string a] h K := by
  refine callS_of (lk_disk_Disk_Make _ _ ?_)
  unfold sh_disk_Disk_Make
  refine (Own.start h).box fun d2 h1 o1 => ?_
  refine o1.box fun n3 h2 o2 => ?_
  refine o2.load 1 rfl rfl (o2.load 1 rfl rfl (o2.load 0 rfl rfl ?_))
  refine o2.build (enc := encS) (n := 1) [a] rfl (sizesOk_of rfl) rfl fun w h3 o3 => ?_
  refine names1 o3 ?_
  refine ⟨o3.load 2 rfl rfl rfl, o3.load 2 rfl rfl rfl, ?_⟩
  refine refusedNil ?_
  refine ⟨o3.load 2 rfl rfl rfl, ?_⟩
  exact changeNil fun h' e => hK h' (o3.ext.trans e fun _ h _ => h)
theorem syncDirNil (hK : ∀ h', Ext h h' → K (I 1) h') : callS Tryz.prog F_disk_Disk_SyncDir [.pointer none] h K := by
  refine callS_of (lk_disk_Disk_SyncDir _ ?_)
  unfold sh_disk_Disk_SyncDir
  refine (Own.start h).box fun d1 h1 o1 => ?_
  refine o1.load 0 rfl rfl (o1.load 0 rfl rfl ?_)
  refine refusedNil ?_
  refine ⟨o1.load 0 rfl rfl rfl, ?_⟩
  exact stepNil (hK h1 o1.ext)

end
end Go.Proofs.YtdbkeklhjjlhbaaGreat

namespace Go.Proofs
open Go.Shelf
def Tryz.lays105_ren : Go.Shelf.Ren := { f := fun | 105 => 26 | 212 => 64 | 99 => 65 | 165 => 59 | 166 => 60 | 170 => 66 | 169 => 61 | 263 => 92 | 264 => 93 | 206 => 94 | 240 => 86 | 241 => 87 | 276 => 99 | 277 => 100 | n => n, t := fun | 9 => 9 | 3 => 3 | 4 => 4 | 20 => 20 | 0 => 0 | 46 => 103 | 109 => 104 | 5 => 5 | 72 => 93 | 76 => 96 | 51 => 133 | 146 => 134 | 53 => 136 | 148 => 137 | 70 => 91 | 37 => 24 | 75 => 95 | 127 => 130 | 164 => 141 | 80 => 98 | n => n, g := fun n => n }
theorem Tryz.lays105 : Lays.n105 Tryz.prog Tryz.lays105_ren where
  mixed := by kernel_rfl
  f99 := Tryz.func65.trans (congrArg some (by kernel_rfl))
  f105 := Tryz.func26.trans (congrArg some (by kernel_rfl))
  f165 := Tryz.func59.trans (congrArg some (by kernel_rfl))
  f166 := Tryz.func60.trans (congrArg some (by kernel_rfl))
  f169 := Tryz.func61.trans (congrArg some (by kernel_rfl))
  f170 := Tryz.func66.trans (congrArg some (by kernel_rfl))
  f206 := Tryz.func94.trans (congrArg some (by kernel_rfl))
  f212 := Tryz.func64.trans (congrArg some (by kernel_rfl))
  f240 := Tryz.func86.trans (congrArg some (by kernel_rfl))
  f241 := Tryz.func87.trans (congrArg some (by kernel_rfl))
  f263 := Tryz.func92.trans (congrArg some (by kernel_rfl))
  f264 := Tryz.func93.trans (congrArg some (by kernel_rfl))
  f276 := Tryz.func99.trans (congrArg some (by kernel_rfl))
  f277 := Tryz.func100.trans (congrArg some (by kernel_rfl))
  t0 := Tryz.underlying0
  a0 := Tryz.isAgg0
  z0 := Tryz.sizeOf0
  v0 := Tryz.zeroValue0
  t3 := Tryz.underlying3
  a3 := Tryz.isAgg3
  z3 := Tryz.sizeOf3
  v3 := Tryz.zeroValue3
  t4 := Tryz.underlying4
  a4 := Tryz.isAgg4
  z4 := Tryz.sizeOf4
  v4 := Tryz.zeroValue4
  t5 := Tryz.underlying5
  a5 := Tryz.isAgg5
  z5 := Tryz.sizeOf5
  v5 := Tryz.zeroValue5
  t9 := Tryz.underlying9
  a9 := Tryz.isAgg9
  z9 := Tryz.sizeOf9
  v9 := Tryz.zeroValue9
  t20 := Tryz.underlying20
  a20 := Tryz.isAgg20
  z20 := Tryz.sizeOf20
  v20 := Tryz.zeroValue20
  t37 := Tryz.underlying24
  a37 := Tryz.isAgg24
  z37 := Tryz.sizeOf24
  v37 := Tryz.zeroValue24
  t46 := Tryz.underlying103
  a46 := Tryz.isAgg103
  z46 := Tryz.sizeOf103
  v46 := Tryz.zeroValue103
  t51 := Tryz.underlying133
  a51 := Tryz.isAgg133
  z51 := Tryz.sizeOf133
  v51 := Tryz.zeroValue133
  t53 := Tryz.underlying136
  a53 := Tryz.isAgg136
  z53 := Tryz.sizeOf136
  v53 := Tryz.zeroValue136
  t70 := Tryz.underlying91
  a70 := Tryz.isAgg91
  z70 := Tryz.sizeOf91
  v70 := Tryz.zeroValue91
  t72 := Tryz.underlying93
  a72 := Tryz.isAgg93
  z72 := Tryz.sizeOf93
  v72 := Tryz.zeroValue93
  t75 := Tryz.underlying95
  a75 := Tryz.isAgg95
  z75 := Tryz.sizeOf95
  v75 := Tryz.zeroValue95
  t76 := Tryz.underlying96
  a76 := Tryz.isAgg96
  z76 := Tryz.sizeOf96
  v76 := Tryz.zeroValue96
  t109 := Tryz.underlying104
  a109 := Tryz.isAgg104
  z109 := Tryz.sizeOf104
  v109 := Tryz.zeroValue104
  t127 := Tryz.underlying130
  a127 := Tryz.isAgg130
  z127 := Tryz.sizeOf130
  v127 := Tryz.zeroValue130
  t146 := Tryz.underlying134
  a146 := Tryz.isAgg134
  z146 := Tryz.sizeOf134
  v146 := Tryz.zeroValue134
  t148 := Tryz.underlying137
  a148 := Tryz.isAgg137
  z148 := Tryz.sizeOf137
  v148 := Tryz.zeroValue137
  t164 := Tryz.underlying141
  a164 := Tryz.isAgg141
  z164 := Tryz.sizeOf141
  v164 := Tryz.zeroValue141

theorem Tryz.builderExtra105 : Builder.Extra Tryz.prog Tryz.lays105_ren where
  sizeBuilder := by kernel_rfl
  liesBuilder := by kernel_rfl
  t5 := Tryz.underlying5
  a5 := Tryz.isAgg5
  z5 := Tryz.sizeOf5
  v5 := Tryz.zeroValue5
  infoByte := by kernel_rfl
  cellsByte := by kernel_rfl
  sizeByte := by kernel_rfl
  neB5 := by decide
end Go.Proofs
namespace Go.Proofs.YtdbkeklhjjlhbaaGreat
open Go Go.Mh
set_option linter.unusedVariables false

/-- strings.Repeat. -/
theorem repeat_ok {h : Heap} {K : Value → Heap → Prop} {s : ByteArray} {c : Nat} (hc : c ≤ 9223372036854775807) (hl : s.size * c ≤ 140737488355328) (hK : ∀ h', Ext h h' → K (.string ⟨(Lib.repeatL s.data.toList c).toArray⟩) h') : callS Tryz.prog F_strings_Repeat [.string s, .int .i64 c] h K := by
  refine callS_of ⟨by kernel_rfl, fun w hw => ?_⟩
  subst hw
  refine (callsIn_wide.2 (Any.strings_Repeat Tryz.lays105 Tryz.builderExtra105 s c w hc hl)).mono fun e w' ⟨he, hb⟩ => ?_
  exact ⟨_, he, ⟨hb.os, hb.output, hb.tape⟩, hK _ ⟨hb.size, fun b hb' _ => hb.block b hb'⟩⟩

end Go.Proofs.YtdbkeklhjjlhbaaGreat

namespace Go.Proofs.YtdbkeklhjjlhbaaGreat
open Go Go.Mh Go.ChangeShapes Go.WideShapes Go.ChangeAt Go.RowKit
set_option linter.unusedVariables false

section
variable {H : Type} {encD : TypeId × Value → H} {P : Program} {w : World} {e t : TypeId} {v : Value} {r : Reach} {base : Nat} {d : DataW H} {p : List MemPlace}

theorem dec_str {sp : Nat → Bool} {fuel : Nat} {cs : List Value} {x : DataW H × List MemPlace} (he : P.underlying e = some .string) (h : DataW.trod encD P w 0 sp true fuel e cs = some x) : ∃ s : ByteArray, cs = [.string s] ∧ s.size ≤ maxLen := by
  obtain ⟨s, e, _, hs⟩ := DataW.trod_string he h
  exact ⟨s, e, hs⟩

theorem str_of (ht : P.underlying t = some .string) (hd : DataW.Trod encD P w 0 (fun _ => true) true t v d p) (hv : v.cells.toList = [v]) : ∃ s : ByteArray, v = .string s ∧ s.size ≤ maxLen := by
  obtain ⟨fuel, hf⟩ := hd
  obtain ⟨s, e, hs⟩ := dec_str ht hf
  rw [hv] at e
  simp only [List.cons.injEq, and_true] at e
  exact ⟨s, e, hs⟩

theorem str_at (ht : P.underlying t = some .string) (hv : Value.okWide P w r base t v) (hd : DataW.Trod encD P w 0 (fun _ => true) true t v d p) : ∃ s : ByteArray, v = .string s ∧ s.size ≤ maxLen := by
  obtain ⟨s, rfl⟩ := okWide_string ht hv
  exact str_of ht hd rfl

/-- Bytes, given; an empty row may begin anywhere. -/
theorem dec_bytesE {fuel : Nat} {cs : List Value} {x : DataW H × List MemPlace} (ht : P.underlying t = some (.slice e)) (he : P.underlying e = some (.int .u8)) (hc : P.cellsOf e = 1) (h : DataW.trod encD P w 0 (fun _ => true) true fuel t cs = some x) :
    ∃ v f, cs = [v] ∧ VwE w.heap v f ∧ (∀ z ∈ f, 0 ≤ z ∧ z ≤ 255) ∧ f.length ≤ maxLen := by
  have key : ∀ v, cs = [v] → (∀ a l c, v = .slice (some a) l c → a.spot = none) → ∃ v f, cs = [v] ∧ VwE w.heap v f ∧ (∀ z ∈ f, 0 ≤ z ∧ z ≤ 255) ∧ f.length ≤ maxLen := by
    rintro v rfl hsp
    obtain ⟨bl, xs, hv, hr, hl⟩ := view_at (enc := encU8) (n := 1) (ok := fun a => 0 ≤ a ∧ a ≤ 255) (fun _ => rfl) ht hc (by decide) (dec_int (k := .u8) he) h hsp
    exact ⟨v, xs, rfl, .inl ⟨bl, hv⟩, hr, hl⟩
  rcases Go.Deep.open_slice ht h with ⟨rfl, _⟩ | ⟨a, len, cap, m, fuel', D, Pl, rfl, _, hle, hmx, hm, _, hx⟩
  · exact key _ rfl fun a l c e => by cases e
  · by_cases hs : a.spot = none
    · exact key _ rfl fun a' l c e => by cases e; exact hs
    · simp only [if_true] at hm
      subst hm
      by_cases hm0 : m = 0
      · subst hm0
        have hl0 : len = 0 := by omega
        subst hl0
        exact ⟨_, [], rfl, .inr ⟨rfl, a, rfl⟩, fun _ h => (by cases h), Nat.zero_le _⟩
      · obtain ⟨cs', h1, _⟩ := hx 0 (by omega)
        rw [hc] at h1
        exfalso
        unfold World.cells? at h1
        split at h1
        · have hc0 : w.cell? ((a.add (0 * 1)).add 0) = none := by
            obtain ⟨b, o, sp⟩ := a
            cases sp with
            | none => exact absurd rfl hs
            | some q =>
              rw [cell?_eq]
              unfold hcell
              simp only [Addr.add]
              split
              · rfl
              · rfl
          simp [List.range_succ, hc0] at h1
        · cases h1

def okAct (w : World) (x : AV) : Prop := ∃ f, AOk x f ∧ VwE w.heap x.fv f ∧ f.length ≤ maxLen

theorem dec_act {t0 t1 t2 t3 t4 t5 te : TypeId} (f0 : fieldOf P e 0 = some (t0, 0)) (f1 : fieldOf P e 1 = some (t1, 1)) (f2 : fieldOf P e 2 = some (t2, 2)) (f3 : fieldOf P e 3 = some (t3, 3)) (f4 : fieldOf P e 4 = some (t4, 4)) (f5 : fieldOf P e 5 = some (t5, 5)) (hc : P.cellsOf e = 6)
    (h0 : P.underlying t0 = some (.int .u8)) (h1 : P.underlying t1 = some (.int .u8)) (h2 : P.underlying t2 = some (.int .u8)) (h3 : P.underlying t3 = some (.int .u8)) (h4 : P.underlying t4 = some .string) (h5 : P.underlying t5 = some (.slice te)) (h6 : P.underlying te = some (.int .u8))
    (c0 : P.cellsOf t0 = 1) (c1 : P.cellsOf t1 = 1) (c2 : P.cellsOf t2 = 1) (c3 : P.cellsOf t3 = 1) (c4 : P.cellsOf t4 = 1) (c5 : P.cellsOf t5 = 1) (c6 : P.cellsOf te = 1) :
    ∀ fuel cs x, DataW.trod encD P w 0 (fun _ => true) true fuel e cs = some x → ∃ a : AV, cs = encAct a ∧ okAct w a := by
  intro fuel cs x h
  have hl := trod_len h (by rw [f0]; rfl)
  rw [hc] at hl
  obtain ⟨a, b, c, d, s, f, rfl⟩ := len6 hl
  obtain ⟨m0, y0, g0⟩ := trod_field h 0 (cs' := [a]) f0 c0 rfl
  obtain ⟨m1, y1, g1⟩ := trod_field h 1 (cs' := [b]) f1 c1 rfl
  obtain ⟨m2, y2, g2⟩ := trod_field h 2 (cs' := [c]) f2 c2 rfl
  obtain ⟨m3, y3, g3⟩ := trod_field h 3 (cs' := [d]) f3 c3 rfl
  obtain ⟨m4, y4, g4⟩ := trod_field h 4 (cs' := [s]) f4 c4 rfl
  obtain ⟨m5, y5, g5⟩ := trod_field h 5 (cs' := [f]) f5 c5 rfl
  obtain ⟨za, ea, ra⟩ := dec_int (k := .u8) h0 _ _ _ g0
  obtain ⟨zb, eb, rb⟩ := dec_int (k := .u8) h1 _ _ _ g1
  obtain ⟨zc, ec, rc⟩ := dec_int (k := .u8) h2 _ _ _ g2
  obtain ⟨zd, ed, rd⟩ := dec_int (k := .u8) h3 _ _ _ g3
  obtain ⟨zs, es, rs⟩ := dec_str h4 g4
  obtain ⟨fv, fs, ef, Hf, rf, lf⟩ := dec_bytesE h5 h6 c6 g5
  simp only [List.cons.injEq, and_true] at ea eb ec ed es ef
  subst ea eb ec ed es ef
  exact ⟨⟨za, zb, zc, zd, zs, f⟩, rfl, fs, ⟨ra, rb, rc, rd, rf, by unfold maxLen at rs; omega⟩, Hf, lf⟩

end
end Go.Proofs.YtdbkeklhjjlhbaaGreat

namespace Go.Proofs.YtdbkeklhjjlhbaaGreat
open Go Go.Mh
set_option linter.unusedVariables false

section
variable {h0 h : Heap} {L : List Res} {K : Value → Heap → Prop} {k d : Nat} {s : Dk} {U : List Nm} {N : Nat} {a b : Nm} {ds : List (Nat × Dk)}

abbrev Act := AV × List Int
def actD (s : Dk) (y : Act) : Dk := (mDo s y.1 y.2).2
def runA (s : Dk) (l : List Act) : Dk := l.foldl actD s
def kept : Nm := ⟨#[107, 101, 112, 116]⟩
def UU : List Nm := nmL ++ [kept]

theorem UU_len : UU.length ≤ 12 := by decide
theorem UU_size : ∀ a ∈ UU, a.size ≤ 1048576 := by decide
theorem name_UU (z : Int) : nameOf z ∈ UU := by
  refine List.mem_append_left _ ?_
  unfold nameOf
  have hlt : z.toNat % 6 < nmL.length := Nat.mod_lt _ (by decide)
  rw [List.getD_eq_getElem?_getD, List.getElem?_eq_getElem hlt]
  exact List.getElem_mem hlt

theorem do_inv {x : AV} {f : List Int} (hI : s.Inv UU N) (hx : AOk x f) : (mDo s x f).2.Inv UU (N + 1) := by
  have hcs : (cutS x.s).size ≤ 1048576 := by
    unfold cutS; rw [ByteArray.size_extract]; have := hx.s; omega
  have ht := hx.t
  unfold mDo
  split
  · exact make_inv hI (name_UU _)
  · exact write_inv hI hcs
  · exact sync_inv hI
  · exact rename_inv hI (name_UU _)
  · exact remove_inv hI
  · exact syncDir_inv hI
  · exact hI.mono (Nat.le_succ _)
  · exact arm_inv hI (by omega)
  · exact crash_inv hI

structure YOk (h : Heap) (y : Act) : Prop where
  ok : AOk y.1 y.2
  v : VwE h y.1.fv y.2

theorem run_inv : ∀ {l : List Act} {s : Dk} {N : Nat}, s.Inv UU N → (∀ y ∈ l, YOk h y) → (runA s l).Inv UU (N + l.length)
  | [], _, _, hI, _ => hI
  | y :: l, s, N, hI, hl => by
    have := run_inv (l := l) (do_inv hI (hl y List.mem_cons_self).ok) fun z hz => hl z (List.mem_cons_of_mem _ hz)
    rw [List.length_cons, show N + (l.length + 1) = N + 1 + l.length by omega]
    exact this

theorem FV.of {v : Value} {f : List Int} (H : VwE h v f) : FV h L v f := fun Rs h' o => H.moreE o.ext

theorem run_snoc {l : List Act} {y : Act} : runA s (l ++ [y]) = actD (runA s l) y := by simp [runA]

/-- Acts, with their fates. -/
theorem acts_of {w : World} : ∀ {xs : List AV}, (∀ a ∈ xs, okAct w a) → ∃ ys : List Act, ys.map (·.1) = xs ∧ ∀ y ∈ ys, YOk w.heap y
  | [], _ => ⟨[], rfl, fun _ h => by cases h⟩
  | x :: xs, h => by
    obtain ⟨f, h1, h2, h3⟩ := h x List.mem_cons_self
    obtain ⟨ys, e, hy⟩ := acts_of (xs := xs) fun a ha => h a (List.mem_cons_of_mem _ ha)
    refine ⟨(x, f) :: ys, by rw [List.map_cons, e], fun y hy' => ?_⟩
    rcases List.mem_cons.1 hy' with rfl | hy'
    · exact ⟨h1, h2⟩
    · exact hy y hy'

/-- One act of a row. -/
theorem act_ok {v : Value} {ys : List Act} {i : Nat} (A : Ats h h0 ds L) (hk : ds[k]? = some (d, s)) (hI : s.Inv UU N) (hN : N ≤ 1048576) (H : Vw encAct 6 h v (ys.map (·.1))) (hy : ∀ y ∈ ys, YOk h y) (hi : i < ys.length)
    (hK : ∀ h', Ats h h' (ds.set k (d, actD s ys[i])) L → K (.tuple #[.string (mDo s ys[i].1 ys[i].2).1.1, I (mDo s ys[i].1 ys[i].2).1.2]) h') :
    pIdx 6 v (.int .i64 i) fun t => pLoadN 6 h0 t fun x => callS Tryz.prog F_milestonelaw29_do [ptr d, x] h0 K := by
  have hm := hy _ (List.getElem_mem hi)
  refine (H.more A.own.ext).atN (fun _ => rfl) (by rw [List.length_map]; exact hi) ?_
  rw [List.getElem_map]
  exact do_ok A hk hI hN UU_len hm.ok (FV.of hm.v) hK

theorem take_len {ys : List Act} {i : Nat} : (ys.take i).length ≤ i := by rw [List.length_take]; omega

theorem diskCopies_ok {l0 m1 f2 : Value} {ys zs : List Act} {fs : List Int} (Hy : Vw encAct 6 h l0 (ys.map (·.1))) (hy : ∀ y ∈ ys, YOk h y) (Hz : Vw encAct 6 h m1 (zs.map (·.1))) (hz : ∀ y ∈ zs, YOk h y)
    (Hf : VwE h f2 fs) (hr : ∀ z ∈ fs, 0 ≤ z ∧ z ≤ 255) (hK : ∀ h', Ext h h' → K (.bool true) h') : CallsH Tryz.prog F_milestonelaw29_DiskCopies [l0, m1, f2].toArray h K := by
  refine lk_milestonelaw29_DiskCopies _ _ _ ?_
  unfold sh_milestonelaw29_DiskCopies
  refine works29_ok fun h1 e1 => ?_
  rw [notT, ifV_false]
  refine newA (Ats.none ((Own.start h).more e1)) fun d h2 A2 => ?_
  have rI : ∀ i, (runA .new (ys.take i)).Inv UU i := fun i => (run_inv (new_inv (U := UU)) fun y h => hy y (List.mem_of_mem_take h)).mono (by have := take_len (ys := ys) (i := i); omega)
  refine LoopH_count (min ys.length 20) (fun i x h' => x.1 = I i ∧ Ats h h' [(d, runA .new (ys.take i))] []) ⟨rfl, A2⟩ ?_
  rintro i ⟨x, ⟨⟩⟩ h3 Z hi ⟨hx, A3⟩ hZ
  dsimp only at hx hZ ⊢
  subst hx
  have k2 : min ys.length 20 ≤ i → sh_milestonelaw29_DiskCopies_k2 Tryz.prog f2 (ptr d) m1 K h3 := by
    intro hge
    have hi20 : i ≤ 20 := by omega
    have hI1 := rI i
    generalize runA .new (ys.take i) = s1 at A3 hI1
    unfold sh_milestonelaw29_DiskCopies_k2
    have Hf3 := Hf.moreE A3.own.ext
    refine Hf3.len ?_
    rw [pMin_int]
    have e20 : (if (20 : Int) < fs.length then (20 : Int) else fs.length) = ((min fs.length 20 : Nat) : Int) := by split <;> omega
    rw [e20]
    refine Hf3.cut20 fun f' hf' => ?_
    have hf0 : VwE h f' (fs.take 20) := hf' h Hf
    have hr' : ∀ z ∈ fs.take 20, 0 ≤ z ∧ z ≤ 255 := fun z hz => hr z (List.mem_of_mem_take hz)
    have hl' : (fs.take 20).length < 2 ^ 40 := by rw [List.length_take]; omega
    generalize fs.take 20 = gs at hf0 hr' hl'
    refine copyA (k := 0) A3 rfl hI1 (by omega) fun c h4 A4 => ?_
    refine copyA (k := 1) A4 rfl hI1 (by omega) fun e h5 A5 => ?_
    refine state_ok (k := 2) A5 rfl hI1 (by omega) UU_len UU_size fun h6 A6 => ?_
    have rI2 : ∀ j, (runA s1 (zs.take j)).Inv UU (i + j) := fun j => (run_inv hI1 fun y h => hz y (List.mem_of_mem_take h)).mono (by have := take_len (ys := zs) (i := j); omega)
    refine LoopH_count (min zs.length 20) (fun j x h' => x.1 = I j ∧ Ats h h' [(e, s1), (c, runA s1 (zs.take j)), (d, s1)] []) ⟨rfl, A6⟩ ?_
    rintro j ⟨x, ⟨⟩⟩ h7 Z1 hj ⟨hx, A7⟩ hZ1
    dsimp only at hx hZ1 ⊢
    subst hx
    have k4 : min zs.length 20 ≤ j → sh_milestonelaw29_DiskCopies_k4 Tryz.prog (ptr d) (.string (stS s1)) K (ptr e) m1 f' (ptr c) h7 := by
      intro hgej
      have hj20 : j = min zs.length 20 := by omega
      unfold sh_milestonelaw29_DiskCopies_k4
      refine state_ok (k := 2) A7 rfl hI1 (by omega) UU_len UU_size fun h8 A8 => ?_
      rw [pBin_neqS, decide_eq_true rfl, Bool.not_true, ifV_false]
      refine state_ok (k := 0) A8 rfl hI1 (by omega) UU_len UU_size fun h9 A9 => ?_
      rw [pBin_neqS, decide_eq_true rfl, Bool.not_true, ifV_false]
      refine onA (k := 2) A9 rfl (onA (k := 0) A9 rfl ?_)
      rw [pNe_bool, bne_self_eq_false, ifV_false]
      refine LoopH_count (min zs.length 20) (fun q x h' => x.1 = I q ∧ Ats h h' [(e, runA s1 (zs.take q)), (c, runA s1 (zs.take j)), (d, runA s1 (zs.take q))] []) ⟨rfl, A9⟩ ?_
      rintro q ⟨x, ⟨⟩⟩ h10 Z2 hq ⟨hx, A10⟩ hZ2
      dsimp only at hx hZ2 ⊢
      subst hx
      have k8 : min zs.length 20 ≤ q → sh_milestonelaw29_DiskCopies_k8 Tryz.prog (ptr d) f' (ptr e) (ptr c) K h10 := by
        intro hgeq
        have hqj : q = j := by omega
        subst hqj
        have hIq := rI2 q
        generalize runA s1 (zs.take q) = s2 at A10 hIq
        unfold sh_milestonelaw29_DiskCopies_k8
        have hIc := crash_inv (f := gs) hIq
        refine crashA (k := 2) A10 rfl hIq (by omega) UU_len (FV.of hf0) hr' hl' hf0.one fun h11 A11 => ?_
        refine crashA (k := 0) A11 rfl hIq (by omega) UU_len (FV.of hf0) hr' hl' hf0.one fun h12 A12 => ?_
        refine crashA (k := 1) A12 rfl hIq (by omega) UU_len (FV.of hf0) hr' hl' hf0.one fun h13 A13 => ?_
        refine state_ok (k := 2) A13 rfl hIc (by omega) UU_len UU_size fun h14 A14 => ?_
        refine state_ok (k := 0) A14 rfl hIc (by omega) UU_len UU_size fun h15 A15 => ?_
        rw [pBin_eqlS, decide_eq_true rfl, ifV_true]
        refine state_ok (k := 1) A15 rfl hIc (by omega) UU_len UU_size fun h16 A16 => ?_
        refine state_ok (k := 2) A16 rfl hIc (by omega) UU_len UU_size fun h17 A17 => ?_
        rw [pBin_eqlS, decide_eq_true rfl]
        exact hK h17 A17.own.ext
      unfold sh_milestonelaw29_DiskCopies_L6
      refine (Hz.more A10.own.ext).len ?_
      rw [pBin_lss, ifV_dec, List.length_map]
      refine ⟨fun hlt => ?_, fun hge => k8 (by omega)⟩
      rw [pBin_lss, ifV_dec]
      refine ⟨fun hlt2 => ?_, fun hge => k8 (by omega)⟩
      have hql : q < zs.length := by omega
      refine act_ok (k := 2) A10 rfl (rI2 q) (by omega) Hz hz hql fun h11 A11 => ?_
      rw [pExt0, pExt1]
      refine act_ok (k := 0) A11 rfl (rI2 q) (by omega) Hz hz hql fun h12 A12 => ?_
      rw [pExt0, pExt1, pBin_neqS, decide_eq_true rfl, Bool.not_true, ifV_false, pBin_neq, bne_self_eq_false, ifV_false, pBin_add, wI q (by omega)]
      refine hZ2 (_, ()) h12 (by omega) ⟨rfl, ?_⟩
      rw [List.take_succ_eq_append_getElem hql, run_snoc]
      exact A12
    unfold sh_milestonelaw29_DiskCopies_L3
    refine (Hz.more A7.own.ext).len ?_
    rw [pBin_lss, ifV_dec, List.length_map]
    refine ⟨fun hlt => ?_, fun hge => k4 (by omega)⟩
    rw [pBin_lss, ifV_dec]
    refine ⟨fun hlt2 => ?_, fun hge => k4 (by omega)⟩
    have hjl : j < zs.length := by omega
    refine act_ok (k := 1) A7 rfl (rI2 j) (by omega) Hz hz hjl fun h8 A8 => ?_
    rw [pBin_add, wI j (by omega)]
    refine hZ1 (_, ()) h8 (by omega) ⟨rfl, ?_⟩
    rw [List.take_succ_eq_append_getElem hjl, run_snoc]
    exact A8
  unfold sh_milestonelaw29_DiskCopies_L1
  refine (Hy.more A3.own.ext).len ?_
  rw [pBin_lss, ifV_dec, List.length_map]
  refine ⟨fun hlt => ?_, fun hge => k2 (by omega)⟩
  rw [pBin_lss, ifV_dec]
  refine ⟨fun hlt2 => ?_, fun hge => k2 (by omega)⟩
  have hil : i < ys.length := by omega
  refine act_ok (k := 0) A3 rfl (rI i) (by omega) Hy hy hil fun h8 A8 => ?_
  rw [pBin_add, wI i (by omega)]
  refine hZ (_, ()) h8 (by omega) ⟨rfl, ?_⟩
  rw [List.take_succ_eq_append_getElem hil, run_snoc]
  exact A8

end
end Go.Proofs.YtdbkeklhjjlhbaaGreat

/-! DiskKnown. -/
namespace Go.Proofs.YtdbkeklhjjlhbaaGreat
open Go Go.Mh
set_option linter.unusedVariables false

section
variable {h0 h : Heap} {L : List Res} {K : Value → Heap → Prop} {k d : Nat} {s : Dk} {U : List Nm} {N : Nat} {a b : Nm} {ds : List (Nat × Dk)}

def nL : Nm := ⟨(Lib.repeatL [110] 16).toArray⟩
def nL1 : Nm := nL ++ ⟨#[110]⟩
def nX : Nm := ⟨#[120]⟩
def nY : Nm := ⟨#[121]⟩
def nE : Nm := ⟨#[]⟩
def kU : List Nm := [nL, nL1, nX, nY, nE, nA, nB]
def k1D : Dk := (mMake .new nL).2
def k2D : Dk := (mMake k1D nL1).2
def k3D : Dk := (mMake k2D nE).2
def k4D : Dk := (mWrite k3D nL 1048576 nE).2
def k5D : Dk := (mWrite k4D nL 1048576 nX).2
def k6D : Dk := (mWrite k5D nL (-1) nX).2
def k7D : Dk := (mWrite k6D nX 4611686018427387904 nX).2
def k8D : Dk := (mWrite k7D nX 0 nX).2
def k9D : Dk := (mRename k8D nL nL).2
def k10D : Dk := (mRename k9D nX nY).2
def k11D : Dk := (mRename k10D nX nE).2
def k12D : Dk := (mRemove k11D nX).2
def k13D : Dk := (mSync k12D nX).2
def k14D : Dk := (mRemove k13D nL).2
def wOld : ByteArray := ⟨#[111, 108, 100]⟩
def wNew : ByteArray := ⟨#[110, 101, 119]⟩
def p1D : Dk := (mMake .new nA).2
def p2D : Dk := (mWrite p1D nA 0 wOld).2
def p3D : Dk := (mSync p2D nA).2
def p4D : Dk := (mSyncDir p3D).2
def p5D : Dk := (mMake p4D nB).2
def p6D : Dk := (mWrite p5D nB 0 wNew).2
def p7D : Dk := (mSync p6D nB).2
def p8D : Dk := (mRename p7D nB nA).2
def p9D : Dk := mCrash p8D [1]
def q9D : Dk := mCrash p8D [2]
def r1D : Dk := mArm .new 1
def r2D : Dk := (mSyncDir r1D).2
def r3D : Dk := (mMake r2D nA).2
def r4D : Dk := (mMake r3D nE).2
def r5D : Dk := mArm r4D (-3)
def r6D : Dk := mCrash r5D []
def r7D : Dk := (mMake r6D nA).2

theorem kL : nL ∈ kU := by simp [kU]
theorem kL1 : nL1 ∈ kU := by simp [kU]
theorem kE : nE ∈ kU := by simp [kU]
theorem kY : nY ∈ kU := by simp [kU]
theorem kA : nA ∈ kU := by simp [kU]
theorem kB : nB ∈ kU := by simp [kU]
theorem k1I : k1D.Inv kU 1 := make_inv new_inv kL
theorem k2I : k2D.Inv kU 2 := make_inv k1I kL1
theorem k3I : k3D.Inv kU 3 := make_inv k2I kE
theorem k4I : k4D.Inv kU 4 := write_inv k3I (by decide)
theorem k5I : k5D.Inv kU 5 := write_inv k4I (by decide)
theorem k6I : k6D.Inv kU 6 := write_inv k5I (by decide)
theorem k7I : k7D.Inv kU 7 := write_inv k6I (by decide)
theorem k8I : k8D.Inv kU 8 := write_inv k7I (by decide)
theorem k9I : k9D.Inv kU 9 := rename_inv k8I kL
theorem k10I : k10D.Inv kU 10 := rename_inv k9I kY
theorem k11I : k11D.Inv kU 11 := rename_inv k10I kE
theorem k12I : k12D.Inv kU 12 := remove_inv k11I
theorem k13I : k13D.Inv kU 13 := sync_inv k12I
theorem k14I : k14D.Inv kU 14 := remove_inv k13I
theorem p1I : p1D.Inv kU 1 := make_inv new_inv kA
theorem p2I : p2D.Inv kU 2 := write_inv p1I (by decide)
theorem p3I : p3D.Inv kU 3 := sync_inv p2I
theorem p4I : p4D.Inv kU 4 := syncDir_inv p3I
theorem p5I : p5D.Inv kU 5 := make_inv p4I kB
theorem p6I : p6D.Inv kU 6 := write_inv p5I (by decide)
theorem p7I : p7D.Inv kU 7 := sync_inv p6I
theorem p8I : p8D.Inv kU 8 := rename_inv p7I kA
theorem p9I : p9D.Inv kU 9 := crash_inv p8I
theorem q9I : q9D.Inv kU 9 := crash_inv p8I
theorem r1I : r1D.Inv kU 1 := arm_inv new_inv (by decide)
theorem r2I : r2D.Inv kU 2 := syncDir_inv r1I
theorem r3I : r3D.Inv kU 3 := make_inv r2I kA
theorem r4I : r4D.Inv kU 4 := make_inv r3I kE
theorem r5I : r5D.Inv kU 5 := arm_inv r4I (by decide)
theorem r6I : r6D.Inv kU 6 := crash_inv r5I

set_option maxRecDepth 100000 in
theorem v1 : (mMake .new nL).1 = 0 := by decide +kernel
theorem v2 : (mMake k1D nL1).1 = 2 := by decide +kernel
theorem v3 : (mMake k2D nE).1 = 2 := by decide +kernel
theorem v4 : (mWrite k3D nL 1048576 nE).1 = 0 := by decide +kernel
theorem v5 : (mWrite k4D nL 1048576 nX).1 = 2 := by decide +kernel
theorem v6 : (mWrite k5D nL (-1) nX).1 = 2 := by decide +kernel
theorem v7 : (mWrite k6D nX 4611686018427387904 nX).1 = 2 := by decide +kernel
theorem v8 : (mWrite k7D nX 0 nX).1 = 21 := by decide +kernel
theorem v9 : (mRename k8D nL nL).1 = 0 := by decide +kernel
theorem v10 : (mRename k9D nX nY).1 = 21 := by decide +kernel
theorem v11 : (mRename k10D nX nE).1 = 2 := by decide +kernel
theorem v12 : (mRemove k11D nX).1 = 21 := by decide +kernel
theorem v13 : (mSync k12D nX).1 = 21 := by decide +kernel
theorem v14 : (mRemove k13D nL).1 = 0 := by decide +kernel
theorem v15 : mNames k14D = [] := by decide +kernel
theorem v16 : stS p9D = ⟨#[97, 61, 111, 108, 100, 59, 98, 61, 110, 101, 119, 59]⟩ := by decide +kernel
theorem v17 : stS q9D = ⟨#[97, 61, 110, 101, 119, 59]⟩ := by decide +kernel
theorem v18 : (mSyncDir r1D).1 = 22 := by decide +kernel
theorem v19 : (mMake r2D nA).1 = 22 := by decide +kernel
theorem v20 : (mMake r3D nE).1 = 22 := by decide +kernel
theorem v21 : (mMake r6D nA).1 = 0 := by decide +kernel
theorem vO1 : r2D.off = true := by decide +kernel
theorem vO2 : r6D.off = false := by decide +kernel

theorem k8T : (k8D.getT ((dlook k8D.now nL).getD 0)).all = [⟨1048576, ⟨#[]⟩⟩] := by kernel_rfl
theorem v22 : (mRead k8D nL).2 = 0 ∧ (mRead k8D nL).1.size = 1048576 := by
  have he : ¬ refE k8D (namesE [nL]) [nL] ≠ 0 := by decide +kernel
  unfold mRead
  rw [if_neg he, k8T]
  refine ⟨rfl, ?_⟩
  show (bytesOf _).toArray.size = _
  rw [List.size_toArray]
  show (putW [] _).length = _
  rw [putW_len]
  decide

theorem FV.nilV : FV h0 L (.slice none 0 0) [] := fun Rs h' o => .inl Vw.nil

set_option maxRecDepth 100000 in
theorem diskKnown_ok (hK : ∀ h', Ext h h' → K (.bool true) h') : CallsH Tryz.prog F_milestonelaw29_DiskKnown [].toArray h K := by
  refine lk_milestonelaw29_DiskKnown ?_
  unfold sh_milestonelaw29_DiskKnown
  refine newA (Ats.none (Own.start h)) fun d1 h1 A1 => ?_
  refine repeat_ok (s := ⟨#[110]⟩) (c := 16) (by decide) (by decide) fun h2 e2 => ?_
  have A2 := A1.more e2
  refine makeA (a := nL) (k := 0) A2 rfl (new_inv (U := kU)) (by decide) fun h3 A3 => ?_
  rw [v1, pBin_eql]
  show ifV (.bool true) _ _
  rw [ifV_true]
  refine pBin_addS (by decide) ?_
  refine makeA (a := nL1) (k := 0) (s := k1D) A3 rfl k1I (by decide) fun h4 A4 => ?_
  rw [v2, pBin_eql]
  show ifV (.bool true) _ _
  rw [ifV_true]
  refine makeA (a := nE) (k := 0) (s := k2D) A4 rfl k2I (by decide) fun h5 A5 => ?_
  rw [v3, pBin_eql]
  show ifV (.bool true) _ _
  rw [ifV_true]
  refine writeA (a := nL) (w := nE) (k := 0) (s := k3D) A5 rfl k3I (by decide) (by decide) (by decide) fun h6 A6 => ?_
  rw [v4, pBin_eql]
  show ifV (.bool true) _ _
  rw [ifV_true]
  refine writeA (a := nL) (w := nX) (k := 0) (s := k4D) A6 rfl k4I (by decide) (by decide) (by decide) fun h7 A7 => ?_
  rw [v5, pBin_eql]
  show ifV (.bool true) _ _
  rw [ifV_true]
  refine writeA (a := nL) (w := nX) (k := 0) (s := k5D) A7 rfl k5I (by decide) (by decide) (by decide) fun h8 A8 => ?_
  rw [v6, pBin_eql]
  show ifV (.bool true) _ _
  rw [ifV_true]
  refine writeA (a := nX) (w := nX) (k := 0) (s := k6D) A8 rfl k6I (by decide) (by decide) (by decide) fun h9 A9 => ?_
  rw [v7, pBin_eql]
  show ifV (.bool true) _ _
  rw [ifV_true]
  refine writeA (a := nX) (w := nX) (k := 0) (s := k7D) A9 rfl k7I (by decide) (by decide) (by decide) fun h10 A10 => ?_
  rw [v8, pBin_eql]
  show sh_milestonelaw29_DiskKnown_k1 _ _ _ _ (.bool true) _
  unfold sh_milestonelaw29_DiskKnown_k1
  refine readA (a := nL) (k := 0) (s := k8D) A10 rfl k8I (by decide) fun h11 A11 => ?_
  rw [pExt0, pExt1, v22.1, pBin_eql]
  show ifV (.bool true) _ _
  rw [ifV_true, pLenS_str, v22.2, pBin_eql]
  show ifV (.bool true) _ _
  rw [ifV_true]
  refine renameA (a := nL) (b := nL) (k := 0) (s := k8D) A11 rfl k8I (by decide) fun h12 A12 => ?_
  rw [v9, pBin_eql]
  show ifV (.bool true) _ _
  rw [ifV_true]
  refine renameA (a := nX) (b := nY) (k := 0) (s := k9D) A12 rfl k9I (by decide) fun h13 A13 => ?_
  rw [v10, pBin_eql]
  show ifV (.bool true) _ _
  rw [ifV_true]
  refine renameA (a := nX) (b := nE) (k := 0) (s := k10D) A13 rfl k10I (by decide) fun h14 A14 => ?_
  rw [v11, pBin_eql]
  show ifV (.bool true) _ _
  rw [ifV_true]
  refine removeA (a := nX) (k := 0) (s := k11D) A14 rfl k11I (by decide) fun h15 A15 => ?_
  rw [v12, pBin_eql]
  show ifV (.bool true) _ _
  rw [ifV_true]
  refine syncA (a := nX) (k := 0) (s := k12D) A15 rfl k12I (by decide) fun h16 A16 => ?_
  rw [v13, pBin_eql]
  show ifV (.bool true) _ _
  rw [ifV_true]
  refine removeA (a := nL) (k := 0) (s := k13D) A16 rfl k13I (by decide) fun h17 A17 => ?_
  rw [v14, pBin_eql]
  show ifV (.bool true) _ _
  rw [ifV_true]
  refine namesA (k := 0) (s := k14D) A17 rfl k14I (by decide) fun w1 h18 A18 => ?_
  rw [v15] at A18
  refine (A18.own.vw 0 rfl).len ?_
  rw [pBin_eql]
  have A19 := A18.drop
  show sh_milestonelaw29_DiskKnown_k2 _ _ _ (.bool true) _
  unfold sh_milestonelaw29_DiskKnown_k2
  refine newA A19 fun d2 h19 A20 => ?_
  refine makeA (a := nA) (k := 0) A20 rfl (new_inv (U := kU)) (by decide) fun h20 A20 => ?_
  refine writeA (a := nA) (w := wOld) (k := 0) (s := p1D) A20 rfl p1I (by decide) (by decide) (by decide) fun h21 A21 => ?_
  refine syncA (a := nA) (k := 0) (s := p2D) A21 rfl p2I (by decide) fun h22 A22 => ?_
  refine syncDirA (k := 0) (s := p3D) A22 rfl p3I fun h23 A23 => ?_
  refine makeA (a := nB) (k := 0) (s := p4D) A23 rfl p4I (by decide) fun h24 A24 => ?_
  refine writeA (a := nB) (w := wNew) (k := 0) (s := p5D) A24 rfl p5I (by decide) (by decide) (by decide) fun h25 A25 => ?_
  refine syncA (a := nB) (k := 0) (s := p6D) A25 rfl p6I (by decide) fun h26 A26 => ?_
  refine renameA (a := nB) (b := nA) (k := 0) (s := p7D) A26 rfl p7I (by decide) fun h27 A27 => ?_
  refine copyA (k := 0) (s := p8D) A27 rfl p8I (by decide) fun d3 h28 A28 => ?_
  refine crash1 (k := 1) (s := p8D) A28 rfl p8I (by decide) (by decide) (by decide) fun h29 A29 => ?_
  refine crash1 (k := 0) (s := p8D) A29 rfl p8I (by decide) (by decide) (by decide) fun h30 A30 => ?_
  refine state_ok (k := 1) (s := p9D) A30 rfl p9I (by decide) (by decide) (by decide) fun h31 A31 => ?_
  rw [v16, pBin_eqlS, decide_eq_true rfl, ifV_true]
  refine state_ok (k := 0) (s := q9D) A31 rfl q9I (by decide) (by decide) (by decide) fun h32 A32 => ?_
  rw [v17, pBin_eqlS, decide_eq_true rfl]
  unfold sh_milestonelaw29_DiskKnown_k3
  refine newA A32 fun d4 h33 A33 => ?_
  refine armA (k := 0) A33 rfl fun h34 A34 => ?_
  refine syncDirA (k := 0) (s := r1D) A34 rfl r1I fun h35 A35 => ?_
  rw [v18, pBin_eql]
  show ifV (.bool true) _ _
  rw [ifV_true]
  refine onA (k := 0) (s := r2D) A35 rfl ?_
  rw [vO1, Bool.not_true, notF, ifV_true]
  refine makeA (a := nA) (k := 0) (s := r2D) A35 rfl r2I (by decide) fun h36 A36 => ?_
  rw [v19, pBin_eql]
  show ifV (.bool true) _ _
  rw [ifV_true]
  refine makeA (a := nE) (k := 0) (s := r3D) A36 rfl r3I (by decide) fun h37 A37 => ?_
  rw [v20, pBin_eql]
  show sh_milestonelaw29_DiskKnown_k4 _ _ _ _ _ _ (.bool true) _
  unfold sh_milestonelaw29_DiskKnown_k4
  refine armA (k := 0) (s := r4D) A37 rfl fun h38 A38 => ?_
  refine crashA (k := 0) (s := r5D) A38 rfl r5I (by decide) (by decide) FV.nilV (fun _ h => by cases h) (by decide) rfl fun h39 A39 => ?_
  refine readNil fun h40 e40 => ?_
  rw [pExt0, pExt1]
  refine pendingNil fun h41 e41 => ?_
  rw [pExt0, pExt1]
  refine armNil ?_
  refine crashNil fun h42 e42 => ?_
  have A42 := ((A39.more e40).more e41).more e42
  refine works29_ok fun h43 e43 => ?_
  have A43 := A42.more e43
  rw [ifV_true, ifV_true, ifV_true, ifV_true, ifV_true]
  refine onA (k := 0) (s := r6D) A43 rfl ?_
  rw [vO2, Bool.not_false, ifV_true]
  refine makeA (a := nA) (k := 0) (s := r6D) A43 rfl r6I (by decide) fun h44 A44 => ?_
  rw [v21, pBin_eql]
  show ifV (.bool true) _ _
  rw [ifV_true, pBin_eql]
  show ifV (.bool true) _ _
  rw [ifV_true, pBin_eql]
  show ifV (.bool true) _ _
  rw [ifV_true, pBin_eql]
  show ifV (.bool true) _ _
  rw [ifV_true]
  refine onNil ?_
  rw [notF, ifV_true]
  refine namesNil ?_
  refine (Vw.nil (enc := encS) (n := 1) (h := h44)).len ?_
  rw [pBin_eql]
  show ifV (.bool true) _ _
  rw [ifV_true]
  refine makeNil fun h45 e45 => ?_
  rw [pBin_eql]
  show ifV (.bool true) _ _
  rw [ifV_true]
  refine syncDirNil fun h46 e46 => ?_
  rw [pBin_eql]
  show ifV (.bool true) _ _
  rw [ifV_true]
  refine copyNil ?_
  rw [pEq_ptr_nil, Option.isNone_none]
  exact hK h46 ((A44.more e45).more e46).own.ext

end
end Go.Proofs.YtdbkeklhjjlhbaaGreat
