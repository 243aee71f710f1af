/- Texts of the proofs of seat YtdbkeklhjjlhbaaGreat, joined: DkQ, DkR, ShJ, DkS, RdG, RdH, DkT, DkV, F29A, F29D. They have no conditions of their own. -/
import Derived.Test.YtdbkeklhjjlhbaaGreatTb
import Derived.Test.YtdbkeklhjjlhbaaGreatMd
import Derived.Test.YtdbkeklhjjlhbaaGreatTa
import Derived.Test.YtdbkeklhjjlhbaaGreatMc
import Derived.Shelf.Strings.OnBuilder
import Derived.CallsIn
import Derived.KernelRfl
set_option linter.unusedVariables false
set_option linter.unusedSimpArgs false
set_option linter.unusedSectionVars false

namespace Go.Proofs.YtdbkeklhjjlhbaaGreat
open Go Go.Mh
set_option linter.unusedVariables false

section
variable {h0 h : Heap} {L M ts l3 : List Res} {K : Value → Heap → Prop} {k d i : Nat} {c : DC} {s : Dk} {B : Bx} {x : TC} {U : List Nm} {N : Nat} {a b : Nm}

theorem copyB_ok (o : Own h0 h (dL d c s (roR B :: L))) (H : DOk B c s) (hI : s.Inv U N) (hN : N ≤ 1048576) (hK : ∀ e c' h', DOk B c' s → Own h0 h' (dL e c' s (dL d c s (roR B :: L))) → K (ptr e) h') : callS Tryz.prog F_disk_Disk_Copy [ptr d] h K := by
  refine callS_of (lk_disk_Disk_Copy _ ?_)
  unfold sh_disk_Disk_Copy
  rw [pEq_ptr_nil, Option.isNone_some, ifV_false]
  refine cutP_of (fun y h' => ∃ e m1 m2 m3 v, y.1 = ptr e ∧ Own h0 h' (cellR e [.map (some m1), .map (some m2), .map (some m3), v, I s.th.length, I s.armed, .bool s.off] T_disk_Disk :: kmapR QS m1 (dirF (dirOf s.cs)) :: kmapR QS m2 (dirF s.now) :: kmapR QI m3 (fun _ => none) :: slR encC 1 T_disk_change v c.vs :: dL d c s (roR B :: L))) (fun J hJ => ?_) ?_
  · have hlv : c.vs.length ≤ 2 ^ 40 := by
      have := hI.lc
      rw [List.length_append] at this
      rw [H.lv]; omega
    have fin : ∀ (h' : Heap) (m1 m2 m3 : Nat) (v : Value), Own h0 h' (kmapR QS m1 (dirF (dirOf s.cs)) :: kmapR QS m2 (dirF s.now) :: kmapR QI m3 (fun _ => none) :: slR encC 1 T_disk_change v c.vs :: dL d c s (roR B :: L)) →
        pBuild [(.map none), (.map none), (.map none), (.slice none 0 0), (.int .i64 0), (.int .i64 0), (.bool false)] [(0, 1, .map (some m1)), (1, 1, .map (some m2)), (2, 1, .map (some m3)), (3, 1, v), (4, 1, I s.th.length), (5, 1, I s.armed), (6, 1, .bool s.off)] fun t36 => pBox T_disk_Disk t36 h' fun t37 h_5 => J (t37, ()) h_5 := by
      intro h' m1 m2 m3 v o'
      obtain ⟨b, cc, rfl⟩ := (o'.vw 3 rfl).isSl
      refine ⟨sizesOk_of rfl, ?_⟩
      refine o'.box fun e h2 o2 => ?_
      exact hJ _ _ ⟨e, m1, m2, m3, _, rfl, o2⟩
    rw [pNil_ptr, pField_ptr]
    refine o.load 0 rfl rfl ?_
    rw [pNil_ptr, pField_ptr]
    refine o.load 0 rfl rfl ?_
    rw [pNil_ptr, pField_ptr]
    refine o.load 0 rfl rfl ?_
    rw [pNil_ptr, pField_ptr]
    refine o.load 0 rfl rfl ?_
    rw [pNil_ptr, pField_ptr]
    refine o.load 0 rfl rfl ?_
    rw [pNil_ptr, pField_ptr]
    refine o.load 0 rfl rfl ?_
    refine ⟨?_, ?_⟩
    · refine mcloneB_ok o (i := 1) rfl fun m1 h1 o1 => ⟨o1.load 1 rfl rfl rfl, o1.load 1 rfl rfl rfl, o1.load 1 rfl rfl rfl, o1.load 1 rfl rfl rfl, o1.load 1 rfl rfl rfl, ?_, ?_⟩
      · refine mcloneB_ok o1 (i := 3) rfl fun m2 h2 o2 => ⟨o2.load 2 rfl rfl rfl, o2.load 2 rfl rfl rfl, o2.load 2 rfl rfl rfl, o2.load 2 rfl rfl rfl, ?_, ?_⟩
        · refine o2.kmk QI fun m3 h3 o3 => ?_
          refine cloneB_change o3 (o3.vw 7 rfl) hlv fun v h4 o4 => ⟨o4.load 4 rfl rfl rfl, o4.load 4 rfl rfl rfl, o4.load 4 rfl rfl rfl, ?_⟩
          exact fin h4 m1 m2 m3 v (o4.front 4 [3, 2, 1, 0] (by decide) (by decide))
        · refine cloneB_change o2 (o2.vw 6 rfl) hlv fun v h4 o4 => ⟨o4.load 3 rfl rfl rfl, o4.load 3 rfl rfl rfl, o4.load 3 rfl rfl rfl, ?_⟩
          refine o4.kmk QI fun m3 h3 o3 => ?_
          exact fin h3 m1 m2 m3 v (o3.front 4 [3, 2, 0, 1] (by decide) (by decide))
      · refine o1.kmk QI fun m3 h3 o3 => ?_
        refine mcloneB_ok o3 (i := 4) rfl fun m2 h2 o2 => ⟨o2.load 3 rfl rfl rfl, o2.load 3 rfl rfl rfl, o2.load 3 rfl rfl rfl, o2.load 3 rfl rfl rfl, ?_⟩
        refine cloneB_change o2 (o2.vw 7 rfl) hlv fun v h4 o4 => ⟨o4.load 4 rfl rfl rfl, o4.load 4 rfl rfl rfl, o4.load 4 rfl rfl rfl, ?_⟩
        exact fin h4 m1 m2 m3 v (o4.front 4 [3, 1, 2, 0] (by decide) (by decide))
    · refine o.kmk QI fun m3 h3 o3 => ?_
      refine mcloneB_ok o3 (i := 2) rfl fun m1 h1 o1 => ⟨o1.load 2 rfl rfl rfl, o1.load 2 rfl rfl rfl, o1.load 2 rfl rfl rfl, o1.load 2 rfl rfl rfl, o1.load 2 rfl rfl rfl, ?_⟩
      refine mcloneB_ok o1 (i := 4) rfl fun m2 h2 o2 => ⟨o2.load 3 rfl rfl rfl, o2.load 3 rfl rfl rfl, o2.load 3 rfl rfl rfl, o2.load 3 rfl rfl rfl, ?_⟩
      refine cloneB_change o2 (o2.vw 7 rfl) hlv fun v h4 o4 => ⟨o4.load 4 rfl rfl rfl, o4.load 4 rfl rfl rfl, o4.load 4 rfl rfl rfl, ?_⟩
      exact fin h4 m1 m2 m3 v (o4.front 4 [2, 1, 3, 0] (by decide) (by decide))
  · rintro ⟨y, ⟨⟩⟩ h' ⟨e, m1, m2, m3, v, hy, o'⟩
    dsimp only at hy ⊢
    subst hy
    exact copyT_ok o' H hI hN hK

end
end Go.Proofs.YtdbkeklhjjlhbaaGreat

namespace Go.Proofs.YtdbkeklhjjlhbaaGreat
open Go Go.Mh
set_option linter.unusedVariables false

/-! ### Several disks -/

section
variable {h0 h : Heap} {L X Y Z : List Res} {r : Res}

theorem mid (o : Own h0 h (X ++ (Y ++ (r :: Z)))) : Own h0 h (X ++ (r :: (Y ++ Z))) := by
  have o1 := o.comm
  rw [List.append_assoc] at o1
  have o2 : Own h0 h (sepR Y :: r :: (Z ++ X)) := o1.sep
  have o3 := (o2.swap).rot
  have o4 : Own h0 h (sepR Y :: ((Z ++ X) ++ [r])) := o3
  have o5 := o4.unsep
  have o6 : Own h0 h ((Y ++ Z) ++ (X ++ [r])) := by
    have e : Y ++ ((Z ++ X) ++ [r]) = (Y ++ Z) ++ (X ++ [r]) := by simp
    rw [← e]; exact o5
  have o7 := o6.comm
  have e : (X ++ [r]) ++ (Y ++ Z) = X ++ (r :: (Y ++ Z)) := by simp
  rw [← e]; exact o7

theorem mid' (o : Own h0 h (X ++ (r :: (Y ++ Z)))) : Own h0 h (X ++ (Y ++ (r :: Z))) := by
  have e : X ++ (r :: (Y ++ Z)) = (X ++ [r]) ++ (Y ++ Z) := by simp
  rw [e] at o
  have o1 := o.comm
  have e2 : (Y ++ Z) ++ (X ++ [r]) = Y ++ ((Z ++ X) ++ [r]) := by simp
  rw [e2] at o1
  have o2 : Own h0 h ((sepR Y :: (Z ++ X)) ++ [r]) := o1.sep
  have o3 : Own h0 h (r :: sepR Y :: (Z ++ X)) := o2.comm
  have o4 := o3.swap.unsep
  have e3 : Y ++ (r :: (Z ++ X)) = (Y ++ (r :: Z)) ++ X := by simp
  rw [e3] at o4
  exact o4.comm

end

structure HD where
  d : Nat
  c : DC
  s : Dk
def pk (x : HD) : Res := sepR (dL x.d x.c x.s [])
def Ats (h0 h : Heap) (ds : List (Nat × Dk)) (L : List Res) : Prop := ∃ (xs : List HD) (B : Bx), xs.map (fun x => (x.d, x.s)) = ds ∧ Own h0 h (xs.map pk ++ roR B :: L) ∧ ∀ x ∈ xs, DOk B x.c x.s

section
variable {h0 h : Heap} {L : List Res} {K : Value → Heap → Prop} {k d : Nat} {s : Dk} {U : List Nm} {N : Nat} {a b : Nm} {ds : List (Nat × Dk)}

theorem Ats.op (A : Ats h0 h ds L) (hk : ds[k]? = some (d, s)) : ∃ c B R, DOk B c s ∧ Own h0 h (dL d c s (roR B :: R)) ∧ (∀ fv fs, FV h0 L fv fs → FV h0 R fv fs) ∧
    (∀ (h' : Heap) c' B' s', (∀ y ∈ B, y ∈ B') → DOk B' c' s' → Own h0 h' (dL d c' s' (roR B' :: R)) → Ats h0 h' (ds.set k (d, s')) L) ∧
    (∀ (h' : Heap) e c', DOk B c' s → Own h0 h' (dL e c' s (dL d c s (roR B :: R))) → Ats h0 h' ((e, s) :: ds) L) := by
  obtain ⟨xs, B, rfl, o, hD⟩ := A
  rw [List.getElem?_map] at hk
  obtain ⟨x, hx, e⟩ := Option.map_eq_some_iff.1 hk
  cases e
  have hkl := (List.getElem?_eq_some_iff.1 hx).1
  have hm := List.mem_of_getElem? hx
  have hp : (xs.map pk ++ roR B :: L)[k]? = some (sepR (dL x.d x.c x.s [])) := by
    rw [List.getElem?_append_left (by simpa using hkl), List.getElem?_map, hx]; rfl
  have o1 := o.out k hp
  rw [List.set_append_left _ _ (by simpa using hkl)] at o1
  have o2 := mid o1
  have bk : ∀ (h' : Heap) (P : List Res) (c' : DC) (B' : Bx) (s' : Dk), (∀ y ∈ B, y ∈ B') → DOk B' c' s' → Own h0 h' (dL x.d c' s' [] ++ (((xs.map pk).set k nilR) ++ (roR B' :: L))) → Ats h0 h' ((xs.map fun x => (x.d, x.s)).set k (x.d, s')) L := by
    intro h' P c' B' s' hB hD' o'
    have o3 := o'.back k (by rw [List.getElem?_append_left (by simpa using hkl), List.getElem?_set_self (by simpa using hkl)])
    rw [List.set_append_left _ _ (by simpa using hkl), List.set_set] at o3
    refine ⟨xs.set k ⟨x.d, c', s'⟩, B', by rw [List.map_set], by rw [List.map_set]; exact o3, fun y hy => ?_⟩
    rcases List.mem_or_eq_of_mem_set hy with hy | rfl
    · exact (hD y hy).mono hB
    · exact hD'
  refine ⟨x.c, B, (xs.map pk).set k nilR ++ L, hD x hm, o2, fun fv fs hf Rs h' o' => ?_, fun h' c' B' s' hB hD' o' => ?_, fun h' e c' hD' o' => ?_⟩
  · rw [← List.append_assoc] at o'
    exact hf _ _ o'
  · exact bk h' [] c' B' s' hB hD' (mid' (X := dL x.d c' s' []) o')
  · have o3 : Own h0 h' (pk ⟨e, c', x.s⟩ :: (dL x.d x.c x.s [] ++ (roR B :: ((xs.map pk).set k nilR ++ L)))) := Own.sep (l := dL e c' x.s []) o'
    have o4 := mid' (X := []) (r := pk ⟨e, c', x.s⟩) (Y := dL x.d x.c x.s []) o3
    have e1 : dL x.d x.c x.s [] ++ (pk ⟨e, c', x.s⟩ :: roR B :: ((xs.map pk).set k nilR ++ L)) = (dL x.d x.c x.s [] ++ [pk ⟨e, c', x.s⟩]) ++ (roR B :: ((xs.map pk).set k nilR ++ L)) := by simp
    have o5 : Own h0 h' ((dL x.d x.c x.s [] ++ [pk ⟨e, c', x.s⟩]) ++ (roR B :: ((xs.map pk).set k nilR ++ L))) := by rw [← e1]; exact o4
    have o6 := mid' o5
    have e2 : (dL x.d x.c x.s [] ++ [pk ⟨e, c', x.s⟩]) ++ ((xs.map pk).set k nilR ++ (roR B :: L)) = dL x.d x.c x.s [] ++ (pk ⟨e, c', x.s⟩ :: ((xs.map pk).set k nilR ++ (roR B :: L))) := by simp
    rw [e2] at o6
    have o7 := o6.back (k + 1) (by rw [List.getElem?_cons_succ, List.getElem?_append_left (by simpa using hkl), List.getElem?_set_self (by simpa using hkl)])
    rw [List.set_cons_succ, List.set_append_left _ _ (by simpa using hkl), List.set_set] at o7
    have e3 : (xs.map pk).set k (sepR (dL x.d x.c x.s [])) = xs.map pk := setSame (by rw [List.getElem?_map, hx]; rfl)
    rw [e3] at o7
    refine ⟨⟨e, c', x.s⟩ :: xs, B, rfl, o7, fun y hy => ?_⟩
    rcases List.mem_cons.1 hy with rfl | hy
    · exact hD'
    · exact hD y hy

theorem Ats.none (o : Own h0 h L) : Ats h0 h [] L := ⟨[], [], rfl, o.noRo, fun _ h => by cases h⟩
theorem Ats.own (A : Ats h0 h ds L) : Own h0 h L := by
  obtain ⟨xs, B, _, o, _⟩ := A
  exact (Own.comm o).tail.left

theorem newA (A : Ats h0 h ds L) (hK : ∀ d h', Ats h0 h' ((d, Dk.new) :: ds) L → K (ptr d) h') : callS Tryz.prog F_disk_New [] h K := by
  obtain ⟨xs, B, rfl, o, hD⟩ := A
  refine newB_ok o fun d c h' hd o' => hK d h' ?_
  have o1 := o'.erase 6
  have o2 : Own h0 h' (pk ⟨d, c, .new⟩ :: (xs.map pk ++ roR B :: L)) := Own.sep (l := dL d c .new []) o1
  refine ⟨⟨d, c, .new⟩ :: xs, B, rfl, o2, fun y hy => ?_⟩
  rcases List.mem_cons.1 hy with rfl | hy
  · exact hd.mono fun _ h => by cases h
  · exact hD y hy

theorem makeA (A : Ats h0 h ds L) (hk : ds[k]? = some (d, s)) (hI : s.Inv U N) (hN : N ≤ 1048576) (hK : ∀ h', Ats h0 h' (ds.set k (d, (mMake s a).2)) L → K (I (mMake s a).1) h') : callS Tryz.prog F_disk_Disk_Make [ptr d, .string a] h K := by
  obtain ⟨c, B, R, hD, o, _, bk, _⟩ := A.op hk
  exact makeB_ok o hD hI hN fun c' B' h' hB hD' o' => hK h' (bk h' c' B' _ hB hD' o')
theorem writeA {z : Int} {w : ByteArray} (A : Ats h0 h ds L) (hk : ds[k]? = some (d, s)) (hI : s.Inv U N) (hN : N ≤ 1048576) (hz : -9223372036854775808 ≤ z ∧ z ≤ 9223372036854775807) (hw : w.size ≤ 1048576) (hK : ∀ h', Ats h0 h' (ds.set k (d, (mWrite s a z w).2)) L → K (I (mWrite s a z w).1) h') : callS Tryz.prog F_disk_Disk_Write [ptr d, .string a, I z, .string w] h K := by
  obtain ⟨c, B, R, hD, o, _, bk, _⟩ := A.op hk
  exact writeB_ok o hD hI hN hz hw fun c' B' h' hB hD' o' => hK h' (bk h' c' B' _ hB hD' o')
theorem syncA (A : Ats h0 h ds L) (hk : ds[k]? = some (d, s)) (hI : s.Inv U N) (hN : N ≤ 1048576) (hK : ∀ h', Ats h0 h' (ds.set k (d, (mSync s a).2)) L → K (I (mSync s a).1) h') : callS Tryz.prog F_disk_Disk_Sync [ptr d, .string a] h K := by
  obtain ⟨c, B, R, hD, o, _, bk, _⟩ := A.op hk
  exact syncB_ok o hD hI hN fun c' B' h' hB hD' o' => hK h' (bk h' c' B' _ hB hD' o')
theorem renameA (A : Ats h0 h ds L) (hk : ds[k]? = some (d, s)) (hI : s.Inv U N) (hN : N ≤ 1048576) (hK : ∀ h', Ats h0 h' (ds.set k (d, (mRename s a b).2)) L → K (I (mRename s a b).1) h') : callS Tryz.prog F_disk_Disk_Rename [ptr d, .string a, .string b] h K := by
  obtain ⟨c, B, R, hD, o, _, bk, _⟩ := A.op hk
  exact renameB_ok o hD hI hN fun c' B' h' hB hD' o' => hK h' (bk h' c' B' _ hB hD' o')
theorem removeA (A : Ats h0 h ds L) (hk : ds[k]? = some (d, s)) (hI : s.Inv U N) (hN : N ≤ 1048576) (hK : ∀ h', Ats h0 h' (ds.set k (d, (mRemove s a).2)) L → K (I (mRemove s a).1) h') : callS Tryz.prog F_disk_Disk_Remove [ptr d, .string a] h K := by
  obtain ⟨c, B, R, hD, o, _, bk, _⟩ := A.op hk
  exact removeB_ok o hD hI hN fun c' B' h' hB hD' o' => hK h' (bk h' c' B' _ hB hD' o')
theorem syncDirA (A : Ats h0 h ds L) (hk : ds[k]? = some (d, s)) (hI : s.Inv U N) (hK : ∀ h', Ats h0 h' (ds.set k (d, (mSyncDir s).2)) L → K (I (mSyncDir s).1) h') : callS Tryz.prog F_disk_Disk_SyncDir [ptr d] h K := by
  obtain ⟨c, B, R, hD, o, _, bk, _⟩ := A.op hk
  exact syncDirB_ok o hD hI fun c' B' h' hB hD' o' => hK h' (bk h' c' B' _ hB hD' o')
theorem armA {z : Int} (A : Ats h0 h ds L) (hk : ds[k]? = some (d, s)) (hK : ∀ h', Ats h0 h' (ds.set k (d, mArm s z)) L → K (.tuple #[]) h') : callS Tryz.prog F_disk_Disk_Arm [ptr d, I z] h K := by
  obtain ⟨c, B, R, hD, o, _, bk, _⟩ := A.op hk
  exact armB_ok o fun h' o' => hK h' (bk h' c B _ (fun _ h => h) (hD.ar z.toNat s.off) o')
theorem crashA {fv : Value} {fs : List Int} (A : Ats h0 h ds L) (hk : ds[k]? = some (d, s)) (hI : s.Inv U N) (hN : N ≤ 1048576) (hl : U.length ≤ 12) (hf : FV h0 L fv fs) (hr : ∀ z ∈ fs, 0 ≤ z ∧ z ≤ 255) (hfl : fs.length < 2 ^ 40) (hfv : fv.cells = #[fv])
    (hK : ∀ h', Ats h0 h' (ds.set k (d, mCrash s fs)) L → K (.tuple #[]) h') : callS Tryz.prog F_disk_Disk_Crash [ptr d, fv] h K := by
  obtain ⟨c, B, R, hD, o, hfl', bk, _⟩ := A.op hk
  exact crashB_ok o hD hI hN hl (hfl' _ _ hf) hr hfl hfv fun c' B' h' hB hD' o' => hK h' (bk h' c' B' _ hB hD' o')
theorem copyA (A : Ats h0 h ds L) (hk : ds[k]? = some (d, s)) (hI : s.Inv U N) (hN : N ≤ 1048576) (hK : ∀ e h', Ats h0 h' ((e, s) :: ds) L → K (ptr e) h') : callS Tryz.prog F_disk_Disk_Copy [ptr d] h K := by
  obtain ⟨c, B, R, hD, o, _, _, bk⟩ := A.op hk
  exact copyB_ok o hD hI hN fun e c' h' hD' o' => hK e h' (bk h' e c' hD' o')
theorem onA (A : Ats h0 h ds L) (hk : ds[k]? = some (d, s)) (hK : K (.bool (!s.off)) h) : callS Tryz.prog F_disk_Disk_On [ptr d] h K := by
  obtain ⟨c, B, R, hD, o, _, _, _⟩ := A.op hk
  exact onB_ok o hK
theorem readA (A : Ats h0 h ds L) (hk : ds[k]? = some (d, s)) (hI : s.Inv U N) (hN : N ≤ 1048576) (hK : ∀ h', Ats h0 h' ds L → K (.tuple #[.string (mRead s a).1, I (mRead s a).2]) h') : callS Tryz.prog F_disk_Disk_Read [ptr d, .string a] h K := by
  obtain ⟨c, B, R, hD, o, _, bk, _⟩ := A.op hk
  refine readB_ok o hD hI hN fun h' o' => hK h' ?_
  have := bk h' c B s (fun _ h => h) hD o'
  rwa [setSame hk] at this
theorem pendingA (A : Ats h0 h ds L) (hk : ds[k]? = some (d, s)) (hI : s.Inv U N) (hN : N ≤ 1048576) (hl : U.length ≤ 12) (hK : ∀ h', Ats h0 h' ds L → K (.tuple #[I (mPending s).1, I (mPending s).2]) h') : callS Tryz.prog F_disk_Disk_Pending [ptr d] h K := by
  obtain ⟨c, B, R, hD, o, _, bk, _⟩ := A.op hk
  refine pendingB_ok o hD hI hN hl fun h' o' => hK h' ?_
  have := bk h' c B s (fun _ h => h) hD o'
  rwa [setSame hk] at this

/-- The same; what lies behind may be another. -/
theorem Ats.op2 (A : Ats h0 h ds L) (hk : ds[k]? = some (d, s)) : ∃ c B P, DOk B c s ∧ Own h0 h (dL d c s (roR B :: (P ++ L))) ∧
    (∀ (L' : List Res) (h' : Heap), Own h0 h' (dL d c s (roR B :: (P ++ L'))) → Ats h0 h' ds L') := by
  obtain ⟨xs, B, rfl, o, hD⟩ := A
  rw [List.getElem?_map] at hk
  obtain ⟨x, hx, e⟩ := Option.map_eq_some_iff.1 hk
  cases e
  have hkl := (List.getElem?_eq_some_iff.1 hx).1
  have hm := List.mem_of_getElem? hx
  have hp : (xs.map pk ++ roR B :: L)[k]? = some (sepR (dL x.d x.c x.s [])) := by
    rw [List.getElem?_append_left (by simpa using hkl), List.getElem?_map, hx]; rfl
  have o1 := o.out k hp
  rw [List.set_append_left _ _ (by simpa using hkl)] at o1
  refine ⟨x.c, B, (xs.map pk).set k nilR, hD x hm, mid o1, fun L' h' o' => ?_⟩
  have o3 := (mid' (X := dL x.d x.c x.s []) o').back k (by rw [List.getElem?_append_left (by simpa using hkl), List.getElem?_set_self (by simpa using hkl)])
  rw [List.set_append_left _ _ (by simpa using hkl), List.set_set] at o3
  have e3 : (xs.map pk).set k (sepR (dL x.d x.c x.s [])) = xs.map pk := setSame (by rw [List.getElem?_map, hx]; rfl)
  rw [e3] at o3
  exact ⟨xs, B, rfl, o3, hD⟩

theorem Ats.more {h' : Heap} (A : Ats h0 h ds L) (x : Ext h h') : Ats h0 h' ds L := by
  obtain ⟨xs, B, e, o, hD⟩ := A
  exact ⟨xs, B, e, o.more x, hD⟩

/-- What was made beside the disks. -/
theorem Ats.add {h' : Heap} {r : Res} (A : Ats h0 h ds L) (o' : Own h h' [r]) : Ats h0 h' ds (r :: L) := by
  obtain ⟨xs, B, e, o, hD⟩ := A
  have o1 : Own h0 h' (r :: (xs.map pk ++ roR B :: L)) := o.frame o'
  have e1 : r :: (xs.map pk ++ roR B :: L) = [] ++ (r :: ((xs.map pk ++ [roR B]) ++ L)) := by simp
  rw [e1] at o1
  have o2 := mid' o1
  have e2 : [] ++ ((xs.map pk ++ [roR B]) ++ (r :: L)) = xs.map pk ++ roR B :: (r :: L) := by simp
  rw [e2] at o2
  exact ⟨xs, B, e, o2, hD⟩

theorem Ats.drop {r : Res} (A : Ats h0 h ds (r :: L)) : Ats h0 h ds L := by
  obtain ⟨xs, B, e, o, hD⟩ := A
  refine ⟨xs, B, e, ?_, hD⟩
  have := o.erase ((xs.map pk).length + 1)
  rw [List.eraseIdx_append_of_length_le (by omega), show (xs.map pk).length + 1 - (xs.map pk).length = 1 by omega] at this
  exact this

theorem Ats.get {r : Res} (A : Ats h0 h ds (r :: L)) : r.Q h := A.own.get 0 rfl

theorem namesA (A : Ats h0 h ds L) (hk : ds[k]? = some (d, s)) (hI : s.Inv U N) (hl : U.length ≤ 12) (hK : ∀ w h', Ats h0 h' ds (slR encS 1 T_string w (mNames s) :: L) → K w h') : callS Tryz.prog F_disk_Disk_Names [ptr d] h K := by
  obtain ⟨c, B, P, hD, o, bk⟩ := A.op2 hk
  refine namesD_ok o hI hl fun w h' o' => hK w h' (bk _ h' ?_)
  have o1 : Own h0 h' ([] ++ (slR encS 1 T_string w (mNames s) :: ((dL d c s (roR B :: P)) ++ L))) := o'
  exact mid' o1

/-! ### What the laws read -/

def rdS (s : Dk) (a : Nm) : ByteArray := if (mRead s a).2 ≠ 0 then (⟨#[63]⟩ : ByteArray) ++ bstr [UInt8.ofNat (48 + (mRead s a).2.toNat / 10), UInt8.ofNat (48 + (mRead s a).2.toNat % 10)] else (mRead s a).1

theorem refE_val {e : Int} {l : List Nm} : refE s e l = 0 ∨ refE s e l = 22 ∨ refE s e l = e ∨ refE s e l = 21 := by
  unfold refE
  split
  · exact .inr (.inl rfl)
  · split
    · exact .inr (.inr (.inl rfl))
    · split
      · exact .inl rfl
      · exact .inr (.inr (.inr rfl))
theorem namesE_val {l : List Nm} : namesE l = 0 ∨ namesE l = 2 := by unfold namesE; split <;> simp

theorem lawRead_ok (A : Ats h0 h ds L) (hk : ds[k]? = some (d, s)) (hI : s.Inv U N) (hN : N ≤ 1048576) (hK : ∀ h', Ats h0 h' ds L → K (.string (rdS s a)) h') : callS Tryz.prog F_milestonelaw29_read [ptr d, .string a] h K := by
  refine callS_of (lk_milestonelaw29_read _ _ ?_)
  unfold sh_milestonelaw29_read
  refine readA (a := a) A hk hI hN fun h1 A1 => ?_
  rw [pExt0, pExt1]
  unfold rdS at hK
  rw [pBin_neq, ifV_bne]
  refine ⟨fun hne => ?_, fun he => ?_⟩
  · rw [if_pos hne] at hK
    have hv : (mRead s a).2 = 22 ∨ (mRead s a).2 = 2 ∨ (mRead s a).2 = 21 := by
      unfold mRead at hne ⊢
      split
      · rename_i hr
        dsimp only
        rcases refE_val (s := s) (e := namesE [a]) (l := [a]) with h | h | h | h
        · exact absurd h hr
        · exact .inl h
        · rcases namesE_val (l := [a]) with h' | h'
          · exact absurd (h.trans h') hr
          · exact .inr (.inl (h.trans h'))
        · exact .inr (.inr h)
      · rename_i hr; rw [if_neg hr] at hne; exact absurd rfl hne
    generalize (mRead s a).2 = e at hv hK
    have go : ∀ (x y : UInt8), x = UInt8.ofNat (48 + e.toNat / 10) → y = UInt8.ofNat (48 + e.toNat % 10) → pBuildSlice T_uint8 (zerosL [(.int .u8 0)] 2) [(0, 1, .int .u8 x.toNat), (1, 1, .int .u8 y.toNat)] 2 h1 fun t23 h_2 => pConvBS h_2 t23 fun t24 => pBin .add (.string ⟨#[63]⟩) t24 fun t25 => K t25 h_2 := by
      intro x y hx hy
      refine (Own.start h1).build (enc := encB8) (n := 1) [x, y] rfl (sizesOk_of rfl) rfl fun w h2 o2 => ?_
      refine (o2.vw 0 rfl).str ?_
      refine pBin_addS (by show 1 + 2 ≤ _; decide) ?_
      rw [hx, hy]
      exact hK h2 (A1.more o2.ext)
    rcases hv with rfl | rfl | rfl
    · rw [pBin_quo]; refine ⟨by decide, ?_⟩
      rw [pBin_add, pConv_int, pBin_rem]; refine ⟨by decide, ?_⟩
      rw [pBin_add, pConv_int]
      exact go 50 50 rfl rfl
    · rw [pBin_quo]; refine ⟨by decide, ?_⟩
      rw [pBin_add, pConv_int, pBin_rem]; refine ⟨by decide, ?_⟩
      rw [pBin_add, pConv_int]
      exact go 48 50 rfl rfl
    · rw [pBin_quo]; refine ⟨by decide, ?_⟩
      rw [pBin_add, pConv_int, pBin_rem]; refine ⟨by decide, ?_⟩
      rw [pBin_add, pConv_int]
      exact go 50 49 rfl rfl
  · rw [if_neg (fun h => h he)] at hK
    exact hK h1 A1

end
end Go.Proofs.YtdbkeklhjjlhbaaGreat

namespace Go.Proofs
open Go.Shelf
def Tryz.lays156_ren : Go.Shelf.Ren := { f := fun | 156 => 23 | 165 => 59 | 166 => 60 | 169 => 61 | 240 => 86 | 241 => 87 | 276 => 99 | 277 => 100 | n => n, t := fun | 31 => 50 | 9 => 9 | 3 => 3 | 4 => 4 | 0 => 0 | 20 => 20 | 72 => 93 | 76 => 96 | 70 => 91 | 37 => 24 | 75 => 95 | 127 => 130 | 164 => 141 | 5 => 5 | 80 => 98 | n => n, g := fun n => n }
theorem Tryz.lays156 : Lays.n156 Tryz.prog Tryz.lays156_ren where
  mixed := by kernel_rfl
  f156 := Tryz.func23.trans (congrArg some (by kernel_rfl))
  f165 := Tryz.func59.trans (congrArg some (by kernel_rfl))
  f166 := Tryz.func60.trans (congrArg some (by kernel_rfl))
  f169 := Tryz.func61.trans (congrArg some (by kernel_rfl))
  f240 := Tryz.func86.trans (congrArg some (by kernel_rfl))
  f241 := Tryz.func87.trans (congrArg some (by kernel_rfl))
  f276 := Tryz.func99.trans (congrArg some (by kernel_rfl))
  f277 := Tryz.func100.trans (congrArg some (by kernel_rfl))
  t0 := Tryz.underlying0
  a0 := Tryz.isAgg0
  z0 := Tryz.sizeOf0
  v0 := Tryz.zeroValue0
  t3 := Tryz.underlying3
  a3 := Tryz.isAgg3
  z3 := Tryz.sizeOf3
  v3 := Tryz.zeroValue3
  t4 := Tryz.underlying4
  a4 := Tryz.isAgg4
  z4 := Tryz.sizeOf4
  v4 := Tryz.zeroValue4
  t9 := Tryz.underlying9
  a9 := Tryz.isAgg9
  z9 := Tryz.sizeOf9
  v9 := Tryz.zeroValue9
  t20 := Tryz.underlying20
  a20 := Tryz.isAgg20
  z20 := Tryz.sizeOf20
  v20 := Tryz.zeroValue20
  t31 := Tryz.underlying50
  a31 := Tryz.isAgg50
  z31 := Tryz.sizeOf50
  v31 := Tryz.zeroValue50
  t37 := Tryz.underlying24
  a37 := Tryz.isAgg24
  z37 := Tryz.sizeOf24
  v37 := Tryz.zeroValue24
  t70 := Tryz.underlying91
  a70 := Tryz.isAgg91
  z70 := Tryz.sizeOf91
  v70 := Tryz.zeroValue91
  t72 := Tryz.underlying93
  a72 := Tryz.isAgg93
  z72 := Tryz.sizeOf93
  v72 := Tryz.zeroValue93
  t75 := Tryz.underlying95
  a75 := Tryz.isAgg95
  z75 := Tryz.sizeOf95
  v75 := Tryz.zeroValue95
  t76 := Tryz.underlying96
  a76 := Tryz.isAgg96
  z76 := Tryz.sizeOf96
  v76 := Tryz.zeroValue96
  t127 := Tryz.underlying130
  a127 := Tryz.isAgg130
  z127 := Tryz.sizeOf130
  v127 := Tryz.zeroValue130
  t164 := Tryz.underlying141
  a164 := Tryz.isAgg141
  z164 := Tryz.sizeOf141
  v164 := Tryz.zeroValue141

theorem Tryz.builderExtra : Builder.Extra Tryz.prog Tryz.lays156_ren where
  sizeBuilder := by kernel_rfl
  liesBuilder := by kernel_rfl
  t5 := Tryz.underlying5
  a5 := Tryz.isAgg5
  z5 := Tryz.sizeOf5
  v5 := Tryz.zeroValue5
  infoByte := by kernel_rfl
  cellsByte := by kernel_rfl
  sizeByte := by kernel_rfl
  neB5 := by decide
end Go.Proofs
namespace Go.Proofs.YtdbkeklhjjlhbaaGreat
open Go Go.Mh
set_option linter.unusedVariables false

/-- strings.Join. -/
def joinS (l : List ByteArray) (sep : ByteArray) : ByteArray := ⟨(Lib.join (l.map (·.data.toList)) sep.data.toList).toArray⟩

section
variable {h0 h : Heap} {L : List Res} {K : Value → Heap → Prop} {v : Value} {ys : List ByteArray} {sep : ByteArray}

theorem join_ok (H : Vw encS 1 h v ys) (hn : ys.length ≤ 1048576) (hl : (Lib.join (ys.map (·.data.toList)) sep.data.toList).length ≤ 140737488355328) (hK : ∀ h', Ext h h' → K (.string (joinS ys sep)) h') : callS Tryz.prog F_strings_Join [v, .string sep] h K := by
  refine callS_of ⟨by kernel_rfl, fun w hw => ?_⟩
  subst hw
  obtain ⟨bl, base, cap, rfl, hcap, hv⟩ := H
  have fin : ∀ w', Go.RowKit.Below w.heap.size w w' → Same w w' ∧ Ext w.heap w'.heap := fun w' hb => ⟨⟨hb.os, hb.output, hb.tape⟩, hb.size, fun b hb' _ => hb.block b hb'⟩
  rcases hv with ⟨rfl, hb⟩ | ⟨o, pre, post, T, fz, rfl, hb, ho⟩
  · refine (callsIn_wide.2 (Any.strings_Join_none Tryz.lays156 Tryz.builderExtra base cap sep w)).mono fun e w' ⟨he, hw'⟩ => ?_
    subst hw'
    exact ⟨_, he, ⟨rfl, rfl, rfl⟩, hK _ (.refl _ _)⟩
  · refine (callsIn_wide.2 (Any.strings_Join Tryz.lays156 Tryz.builderExtra bl o cap ys sep w ?_ ?_ (by omega) hcap hl)).mono fun e w' ⟨he, hw'⟩ => ?_
    · intro j x hx
      have hj := (List.getElem?_eq_some_iff.1 hx)
      have hc : hcell w.heap ⟨bl, o + j, none⟩ = some (.string x) := by
        refine hcell_of hb ?_
        have g := row_get (enc := encS) (n := 1) (fun _ => rfl) hj.1 (j := 0) (by omega) post
        rw [List.getElem?_toArray, List.append_assoc, List.getElem?_append_right (by omega), show o + j - pre.length = j * 1 + 0 by omega, g, hj.2]
        rfl
      exact hc
    · exact get_lt hb
    · obtain ⟨h1, h2⟩ := fin w' hw'
      exact ⟨_, he, h1, hK _ h2⟩

end
end Go.Proofs.YtdbkeklhjjlhbaaGreat

namespace Go.Proofs.YtdbkeklhjjlhbaaGreat
open Go Go.Mh
set_option linter.unusedVariables false

section
variable {h0 h : Heap} {L : List Res} {K : Value → Heap → Prop} {k d : Nat} {s : Dk} {U : List Nm} {N : Nat} {a b : Nm} {ds : List (Nat × Dk)}

def stepS (s : Dk) (out : ByteArray) (a : Nm) : ByteArray := out ++ a ++ (⟨#[61]⟩ : ByteArray) ++ rdS s a ++ (⟨#[59]⟩ : ByteArray)
def stS (s : Dk) : ByteArray := (mNames s).foldl (stepS s) ⟨#[]⟩

theorem rdS_size (hI : s.Inv U N) : (rdS s a).size ≤ 1048576 := by
  unfold rdS
  split
  · rw [ByteArray.size_append]
    show 1 + 2 ≤ _
    decide
  · unfold mRead
    split
    · exact Nat.zero_le _
    · rename_i h
      show (bytesOf _).toArray.size ≤ _
      rw [List.size_toArray]
      have he : refE s (namesE [a]) [a] = 0 := Classical.byContradiction fun hn => h hn
      obtain ⟨_, _, ht⟩ := ref_off he
      obtain ⟨n, hn⟩ := Option.isSome_iff_exists.1 (ht a List.mem_cons_self)
      have hv := now_val hI (a, n) ((dlook_mem (keys_dirOf _)).1 hn)
      rw [hn]
      exact bytes_len (hI.wr _ (th_mem hv))

theorem names_sub (hI : s.Inv U N) {x : Nm} (hx : x ∈ mNames s) : x ∈ U := by
  unfold mNames at hx
  split at hx
  · cases hx
  · exact dir_nm (U := U) _ [] (fun a h => by cases h) hI.nm _ ((sortO_mem ltS_ok).1 hx)

theorem names_len12 (hI : s.Inv U N) (hl : U.length ≤ 12) : (mNames s).length ≤ 12 := by
  unfold mNames
  split
  · simp
  · have h1 := sortO_len (lt := ltS) (keysOf s.now)
    have h2 := len_of_sub (keys_dirOf (s.cs ++ s.cp)) (dir_nm (U := U) _ [] (fun a h => by cases h) hI.nm)
    have h3 : (keysOf (dirOf (s.cs ++ s.cp))).length = (keysOf s.now).length := rfl
    omega

theorem state_ok (A : Ats h0 h ds L) (hk : ds[k]? = some (d, s)) (hI : s.Inv U N) (hN : N ≤ 1048576) (hl : U.length ≤ 12) (hU : ∀ a ∈ U, a.size ≤ 1048576) (hK : ∀ h', Ats h0 h' ds L → K (.string (stS s)) h') : callS Tryz.prog F_milestonelaw29_state [ptr d] h K := by
  refine callS_of (lk_milestonelaw29_state _ ?_)
  unfold sh_milestonelaw29_state
  refine namesA A hk hI hl fun w h1 A1 => ?_
  have hn12 := names_len12 hI hl
  have hsub : ∀ x ∈ mNames s, x.size ≤ 1048576 := fun x hx => hU x (names_sub hI hx)
  unfold stS at hK
  generalize mNames s = ys at A1 hn12 hsub hK
  refine LoopH_count ys.length (fun i x h' => x.2.1 = I i ∧ ∃ out, x.1 = .string out ∧ out = (ys.take i).foldl (stepS s) ⟨#[]⟩ ∧ out.size ≤ i * 2097154 ∧ Ats h0 h' ds (slR encS 1 T_string w ys :: L)) ⟨rfl, _, rfl, rfl, Nat.zero_le _, A1⟩ ?_
  rintro i ⟨y, x, ⟨⟩⟩ h2 Z hi ⟨hx, out, hy, hout, hsz, A2⟩ hZ
  dsimp only at hx hy hZ ⊢
  subst hx hy
  unfold sh_milestonelaw29_state_L1
  have o2 := A2.own
  refine (o2.vw 0 rfl).len ?_
  rw [pBin_lss, ifV_dec]
  refine ⟨fun hlt => ?_, fun hge => ?_⟩
  · have hi' : i < ys.length := by omega
    refine o2.idxAt 0 rfl hi' fun bl H hb => ?_
    have hc := H.slot (m := 1) (fun _ => rfl) hi' (j := 0) (by decide)
    have hc : hcell h2 ⟨bl, i * 1, none⟩ = some (.string ys[i]) := hc
    simp only [pLoad_ptr, hc]
    have s1 := hsub _ (List.getElem_mem hi')
    have s2 := rdS_size (a := ys[i]) hI
    have hb12 : i * 2097154 ≤ 12 * 2097154 := Nat.mul_le_mul_right _ (by omega)
    refine pBin_addS (by omega) (pBin_addS (by rw [ByteArray.size_append]; show _ + 1 ≤ _; omega) ?_)
    refine o2.idxAt 0 rfl hi' fun bl' H' hb' => ?_
    have hc2 : hcell h2 ⟨bl', i * 1, none⟩ = some (.string ys[i]) := H'.slot (m := 1) (fun _ => rfl) hi' (j := 0) (by decide)
    simp only [pLoad_ptr, hc2]
    refine lawRead_ok A2 hk hI hN fun h3 A3 => ?_
    obtain ⟨bl3, H3⟩ := A3.get
    have e3 := H3.blk hb
    subst e3
    have hc3 : hcell h3 ⟨bl, i * 1, none⟩ = some (.string ys[i]) := H3.slot (m := 1) (fun _ => rfl) hi' (j := 0) (by decide)
    refine ⟨by simp only [pLoad_ptr, hc3], ?_⟩
    refine pBin_addS (by rw [ByteArray.size_append, ByteArray.size_append]; show _ + 1 + _ ≤ _; omega) (pBin_addS (by rw [ByteArray.size_append, ByteArray.size_append, ByteArray.size_append]; show _ + 1 + _ + 1 ≤ _; omega) ?_)
    rw [pBin_add, wI i (by omega)]
    refine hZ (_, _, ()) h3 hi' ⟨rfl, _, rfl, ?_, ?_, A3⟩
    · rw [List.take_succ_eq_append_getElem hi', List.foldl_append, ← hout]; rfl
    · rw [ByteArray.size_append, ByteArray.size_append, ByteArray.size_append, ByteArray.size_append]
      show _ + _ + 1 + _ + 1 ≤ _
      omega
  · have : ys.take i = ys := List.take_of_length_le (by omega)
    rw [this] at hout
    subst hout
    exact hK h2 A2.drop

/-! ### Acts -/

structure AV where
  w : Int
  a : Int
  b : Int
  t : Int
  s : ByteArray
  fv : Value
def encAct (x : AV) : List Value := [.int .u8 x.w, .int .u8 x.a, .int .u8 x.b, .int .u8 x.t, .string x.s, x.fv]

def nmL : List Nm := [⟨#[97]⟩, ⟨#[98]⟩, ⟨#[105, 109, 97, 103, 101]⟩, ⟨#[116, 101, 109, 112]⟩, ⟨#[]⟩, ⟨#[97, 32, 110, 97, 109, 101, 32, 116, 104, 97, 116, 32, 105, 115, 32, 116, 111, 111, 32, 108, 111, 110, 103, 32, 102, 111, 114, 32, 105, 116]⟩]
def nameOf (z : Int) : Nm := nmL.getD (z.toNat % 6) ⟨#[]⟩

theorem VwE.moreE {h' : Heap} {v : Value} {fs : List Int} (H : VwE h v fs) (x : Ext h h') : VwE h' v fs := by
  rcases H with H | H
  · exact .inl (H.more x)
  · exact .inr H

theorem VwE.cut20 {v : Value} {fs : List Int} {K : Value → Prop} (H : VwE h v fs) (hK : ∀ v', (∀ h', VwE h' v fs → VwE h' v' (fs.take 20)) → K v') : pSlice 1 v none (some (I ((min fs.length 20 : Nat) : Int))) none K := by
  rcases H with H | ⟨rfl, a, rfl⟩
  · by_cases hf : fs = []
    · subst hf
      refine H.sub (lo := none) (hi := some (I ((min ([] : List Int).length 20 : Nat) : Int))) (a := 0) (j := 0) (fun _ => rfl) rfl rfl (Nat.le_refl _) (Nat.le_refl _) fun v' hv' => hK v' fun h' _ => .inl ?_
      obtain ⟨bl, b, cap, e, hc, hv⟩ := hv'
      refine ⟨bl, b, cap, e, hc, .inl ⟨rfl, ?_⟩⟩
      rcases hv with ⟨_, hb⟩ | ⟨o, _, _, _, _, rfl, _⟩
      · exact hb
      · exact .inr ⟨_, _, rfl⟩
    · refine H.subA (a := 0) (j := min fs.length 20) (fun _ => rfl) rfl rfl (Nat.zero_le _) (by omega) fun v' hv' => hK v' fun h' Hh => ?_
      have e : (fs.drop 0).take (min fs.length 20 - 0) = fs.take 20 := by
        rw [List.drop_zero, Nat.sub_zero]
        by_cases c : fs.length ≤ 20
        · rw [Nat.min_eq_left c, List.take_of_length_le (Nat.le_refl _), List.take_of_length_le c]
        · rw [Nat.min_eq_right (by omega)]
      rw [e] at hv'
      rcases Hh with Hh | ⟨hn, _⟩
      · exact .inl (hv' h' Hh)
      · exact absurd hn hf
  · refine ⟨by simp, by simp, by simp, by simp, by simp, hK _ fun h' _ => .inr ⟨rfl, a, ?_⟩⟩
    unfold slBase
    rfl

theorem name_ok {z : Int} (hz : 0 ≤ z ∧ z ≤ 255) (hK : ∀ h', Ext h h' → K (.string (nameOf z)) h') : callS Tryz.prog F_milestoneref29_Name [.int .u8 z] h K := by
  refine callS_of (lk_milestoneref29_Name _ ?_)
  unfold sh_milestoneref29_Name
  refine (Own.start h).build (enc := encS) (n := 1) nmL rfl (sizesOk_of rfl) rfl fun w h1 o1 => ?_
  rw [pBin_rem]
  refine ⟨by decide, ?_⟩
  have e : z.tmod 6 = ((z.toNat % 6 : Nat) : Int) := by rw [Int.tmod_eq_emod_of_nonneg (by omega)]; omega
  rw [e]
  have hlt : z.toNat % 6 < nmL.length := Nat.mod_lt _ (by decide)
  refine (o1.vw 0 rfl).at1 (e := fun (x : Nm) => Value.string x) (fun _ => rfl) hlt ?_
  have e2 : nmL[z.toNat % 6] = nameOf z := by unfold nameOf; rw [List.getD_eq_getElem?_getD, List.getElem?_eq_getElem hlt]; rfl
  rw [e2]
  exact hK h1 o1.ext

def cutS (s : ByteArray) : ByteArray := s.extract 0 (min s.size 12)

def mDo (s : Dk) (x : AV) (f : List Int) : (ByteArray × Int) × Dk :=
  match x.w.toNat % 9 with
  | 0 => ((⟨#[]⟩, (mMake s (nameOf x.a)).1), (mMake s (nameOf x.a)).2)
  | 1 => ((⟨#[]⟩, (mWrite s (nameOf x.a) ((x.t.toNat % 40 : Nat) - 2) (cutS x.s)).1), (mWrite s (nameOf x.a) ((x.t.toNat % 40 : Nat) - 2) (cutS x.s)).2)
  | 2 => ((⟨#[]⟩, (mSync s (nameOf x.a)).1), (mSync s (nameOf x.a)).2)
  | 3 => ((⟨#[]⟩, (mRename s (nameOf x.a) (nameOf x.b)).1), (mRename s (nameOf x.a) (nameOf x.b)).2)
  | 4 => ((⟨#[]⟩, (mRemove s (nameOf x.a)).1), (mRemove s (nameOf x.a)).2)
  | 5 => ((⟨#[]⟩, (mSyncDir s).1), (mSyncDir s).2)
  | 6 => (mRead s (nameOf x.a), s)
  | 7 => ((⟨#[]⟩, 0), mArm s ((x.t.toNat % 6 : Nat) - 1))
  | _ => ((⟨#[]⟩, 0), mCrash s (f.take 20))

structure AOk (x : AV) (f : List Int) : Prop where
  w : 0 ≤ x.w ∧ x.w ≤ 255
  a : 0 ≤ x.a ∧ x.a ≤ 255
  b : 0 ≤ x.b ∧ x.b ≤ 255
  t : 0 ≤ x.t ∧ x.t ≤ 255
  f : ∀ z ∈ f, 0 ≤ z ∧ z ≤ 255
  s : x.s.size ≤ 9223372036854775807

theorem do_ok {x : AV} {f : List Int} (A : Ats h0 h ds L) (hk : ds[k]? = some (d, s)) (hI : s.Inv U N) (hN : N ≤ 1048576) (hl : U.length ≤ 12) (hx : AOk x f) (hf : FV h0 L x.fv f)
    (hK : ∀ h', Ats h0 h' (ds.set k (d, (mDo s x f).2)) L → K (.tuple #[.string (mDo s x f).1.1, I (mDo s x f).1.2]) h') : callS Tryz.prog F_milestonelaw29_do [ptr d, .agg (encAct x).toArray] h K := by
  refine callS_of (lk_milestonelaw29_do _ _ ?_)
  unfold sh_milestonelaw29_do
  have same : ∀ h', Ats h0 h' ds L → Ats h0 h' (ds.set k (d, s)) L := fun h' A' => by rw [setSame hk]; exact A'
  refine (Own.start h).box fun x3 h1 o1 => ?_
  have o1 : Own h h1 [cellR x3 (encAct x) T_milestoneref29_Act] := o1
  have hc : ∀ h', Ext h1 h' → ∀ (i : Nat) (v : Value), (encAct x)[i]? = some v → hcell h' ⟨x3, 0 + i, none⟩ = some v := fun h' e i v hv => hcell_more e (hcell_of (o1.get 0 rfl) (by simpa using hv))
  have ld : ∀ {h' : Heap} {i : Nat} {v : Value} {K' : Value → Prop}, Ext h1 h' → (encAct x)[i]? = some v → K' v → pField i (ptr x3) fun t => pLoad h' t K' := fun e hv hk' => by
    rw [pField_ptr]
    simp only [pLoad_ptr, hc _ e _ _ hv]
    exact hk'
  have A1 := A.more o1.ext
  refine ld (.refl _ _) rfl (ld (.refl _ _) rfl ?_)
  have hs := hx.s
  rw [pLenS_str, pMin_int]
  have e12 : (if (12 : Int) < x.s.size then (12 : Int) else x.s.size) = ((min x.s.size 12 : Nat) : Int) := by split <;> omega
  rw [e12]
  have sl : ∀ {K' : Value → Prop}, K' (.string (cutS x.s)) → pSliceS (.string x.s) none (some (I ((min x.s.size 12 : Nat) : Int))) K' := fun hk => ⟨Int.le_refl _, by omega, by omega, hk⟩
  refine sl ?_
  have hcs : (cutS x.s).size ≤ 1048576 := by
    unfold cutS; rw [ByteArray.size_extract]; omega
  refine ld (.refl _ _) rfl ?_
  have hcb := hc h1 (.refl _ _) 2 (.int .u8 x.b) rfl
  rw [pField_ptr]
  simp only [pLoad_ptr, hcb]
  refine name_ok hx.a fun h2 e2 => ?_
  have hcb2 := hc h2 e2 2 (.int .u8 x.b) rfl
  refine ⟨by simp only [pLoad_ptr, hcb2], ?_⟩
  refine name_ok hx.b fun h3 e3 => ?_
  have e13 : Ext h1 h3 := e2.trans e3 fun _ h _ => h
  have A3 := (A1.more e2).more e3
  refine ld e13 rfl ?_
  have hw := hx.w
  have ht := hx.t
  rw [pBin_rem]
  refine ⟨by decide, ?_⟩
  have ew : x.w.tmod 9 = ((x.w.toNat % 9 : Nat) : Int) := by rw [Int.tmod_eq_emod_of_nonneg (by omega)]; omega
  rw [ew]
  have hw9 : x.w.toNat % 9 < 9 := Nat.mod_lt _ (by decide)
  unfold mDo at hK
  generalize x.w.toNat % 9 = q at hw9 hK
  have cq : ∀ (n : Nat), (((q : Nat) : Int) == ((n : Nat) : Int)) = decide (q = n) := fun n => by
    rw [Bool.eq_iff_iff]; simp; omega
  rw [pBin_eql, show ((q : Int) == 0) = decide (q = 0) from cq 0, ifV_dec]
  refine ⟨fun h => ?_, fun n0 => ?_⟩
  · subst h
    exact makeA A3 hk hI hN fun h4 A4 => hK h4 A4
  rw [pBin_eql, show ((q : Int) == 1) = decide (q = 1) from cq 1, ifV_dec]
  refine ⟨fun h => ?_, fun n1 => ?_⟩
  · subst h
    refine ld e13 rfl ?_
    rw [pBin_rem]
    refine ⟨by decide, ?_⟩
    rw [show x.t.tmod 40 = ((x.t.toNat % 40 : Nat) : Int) by rw [Int.tmod_eq_emod_of_nonneg (by omega)]; omega, pConv_int, w64 (by omega) (by omega), pBin_sub, w64 (by omega) (by omega)]
    exact writeA A3 hk hI hN (by omega) hcs fun h4 A4 => hK h4 A4
  rw [pBin_eql, show ((q : Int) == 2) = decide (q = 2) from cq 2, ifV_dec]
  refine ⟨fun h => ?_, fun n2 => ?_⟩
  · subst h
    exact syncA A3 hk hI hN fun h4 A4 => hK h4 A4
  rw [pBin_eql, show ((q : Int) == 3) = decide (q = 3) from cq 3, ifV_dec]
  refine ⟨fun h => ?_, fun n3 => ?_⟩
  · subst h
    exact renameA A3 hk hI hN fun h4 A4 => hK h4 A4
  rw [pBin_eql, show ((q : Int) == 4) = decide (q = 4) from cq 4, ifV_dec]
  refine ⟨fun h => ?_, fun n4 => ?_⟩
  · subst h
    exact removeA A3 hk hI hN fun h4 A4 => hK h4 A4
  rw [pBin_eql, show ((q : Int) == 5) = decide (q = 5) from cq 5, ifV_dec]
  refine ⟨fun h => ?_, fun n5 => ?_⟩
  · subst h
    exact syncDirA A3 hk hI fun h4 A4 => hK h4 A4
  rw [pBin_eql, show ((q : Int) == 6) = decide (q = 6) from cq 6, ifV_dec]
  refine ⟨fun h => ?_, fun n6 => ?_⟩
  · subst h
    refine readA (a := nameOf x.a) A3 hk hI hN fun h4 A4 => ?_
    rw [pExt0, pExt1]
    exact hK h4 (same h4 A4)
  rw [pBin_eql, show ((q : Int) == 7) = decide (q = 7) from cq 7, ifV_dec]
  refine ⟨fun h => ?_, fun n7 => ?_⟩
  · subst h
    refine ld e13 rfl ?_
    rw [pBin_rem]
    refine ⟨by decide, ?_⟩
    rw [show x.t.tmod 6 = ((x.t.toNat % 6 : Nat) : Int) by rw [Int.tmod_eq_emod_of_nonneg (by omega)]; omega, pConv_int, w64 (by omega) (by omega), pBin_sub, w64 (by omega) (by omega)]
    exact armA A3 hk fun h4 A4 => hK h4 A4
  have : q = 8 := by omega
  subst this
  refine ld e13 rfl (ld e13 rfl ?_)
  have Hf : VwE h x.fv f := hf [] h A.own
  refine (Hf.moreE (o1.ext.trans e13 fun _ h _ => h)).len ?_
  rw [pMin_int]
  have e20 : (if (20 : Int) < f.length then (20 : Int) else f.length) = ((min f.length 20 : Nat) : Int) := by split <;> omega
  rw [e20]
  refine (Hf.moreE (o1.ext.trans e13 fun _ h _ => h)).cut20 fun v' hv' => ?_
  refine crashA A3 hk hI hN hl (fun Rs h' o' => hv' h' (hf Rs h' o')) (fun z hz => hx.f z (List.mem_of_mem_take hz)) (by rw [List.length_take]; omega) ?_ fun h4 A4 => hK h4 A4
  exact (hv' h Hf).one

end
end Go.Proofs.YtdbkeklhjjlhbaaGreat

/-! The disk by definition: crashes. -/
namespace Go.Proofs.YtdbkeklhjjlhbaaGreat
open Go Go.Mh
set_option linter.unusedVariables false

section
variable {h0 h hb : Heap} {L : List Res} {K : Value → Heap → Prop} {r n : Nat} {q : RC} {s : Dk} {U : List Nm} {N : Nat} {a b : Nm}

theorem fate_drop {fs : List Int} {c : Nat} (hr : ∀ z ∈ fs, 0 ≤ z ∧ z ≤ 255) : (∀ (h : c < fs.length), fs[c] = ((fateOf (fs.drop c) : Nat) : Int)) ∧ (¬ c < fs.length → fateOf (fs.drop c) = 0) := by
  refine ⟨fun h => ?_, fun h => ?_⟩
  · rw [List.drop_eq_getElem_cons h]
    have := hr _ (List.getElem_mem h)
    show _ = ((fs[c].toNat : Nat) : Int)
    omega
  · rw [List.drop_of_length_le (by omega)]; rfl

theorem crT_at (x : List Th × List Int) (n : Nat) : crT x n = (x.1.modify n fun t => ⟨t.syn ++ (crW t.pen x.2).1, []⟩, (crW (x.1.getD n default).pen x.2).2) := rfl

set_option maxHeartbeats 1000000 in
theorem crashR_ok {fv : Value} {fs : List Int} (hI : s.Inv U N) (hN : N < 1048576) (o : Own h0 h (rL r q s L)) (hq : RcOk q s) (Hf : VwE h0 fv fs) (hr : ∀ z ∈ fs, 0 ≤ z ∧ z ≤ 255) (hfl : fs.length < 2 ^ 62)
    (hK : ∀ h' q', RcOk q' (mCrash s fs) → Own h0 h' (rL r q' (mCrash s fs) L) → K (.tuple #[]) h') : callS Tryz.prog F_milestoneref29_Disk_Crash [ptr r, fv] h K := by
  refine callS_of (lk_milestoneref29_Disk_Crash _ _ ?_)
  unfold sh_milestoneref29_Disk_Crash
  have hlen := chL_len hI
  have hcl : (chL s).length = s.cs.length + s.cp.length := by rw [← List.length_map (f := fun x : Ch × Bool => x.1), chL_fst, List.length_append]
  refine pendingR_ok hI hN o hq fun h1 o1 => ?_
  rw [pExt0, pExt1, pNil_ptr, pField_ptr]
  refine o1.load 0 rfl rfl ?_
  refine (o1.vw (enc := encRC) (n := 5) 2 rfl).len ?_
  have hp1 : (mPending s).1 = s.cp.length := rfl
  have es : (((chL s).length : Int) - ((mPending s).1 : Int)) = ((s.cs.length : Nat) : Int) := by rw [hp1, hcl]; omega
  rw [pBin_sub, es, w64 (by omega) (by omega)]
  have HfE : ∀ {h' : Heap} {L' : List Res}, Own h0 h' L' → VwE h' fv fs := fun o' => Hf.moreE o'.ext
  -- behind the choice of how many changes stay
  have k1 : ∀ k, k = fateOf fs % (s.cp.length + 1) → sh_milestoneref29_Disk_Crash_k1 Tryz.prog (ptr r) fv K (I ((s.cs.length + k : Nat) : Int)) h1 := by
    intro k hk
    have hkl : k ≤ s.cp.length := by
      have := Nat.mod_lt (fateOf fs) (show 0 < s.cp.length + 1 by omega)
      omega
    obtain ⟨D, hD⟩ : ∃ D, D = dirOf (s.cs ++ s.cp.take k) := ⟨_, rfl⟩
    have hKD : ∀ h' q', RcOk q' ({ cs := s.cs ++ s.cp.take k, cp := [], th := ((namedL D s.th.length).foldl crT (s.th, fs.tail)).1, armed := 0, off := false } : Dk) → Own h0 h' (rL r q' ({ cs := s.cs ++ s.cp.take k, cp := [], th := ((namedL D s.th.length).foldl crT (s.th, fs.tail)).1, armed := 0, off := false } : Dk) L) → K (.tuple #[]) h' := by
      unfold mCrash at hK
      dsimp only at hK
      rw [← hk, ← hD] at hK
      exact hK
    unfold sh_milestoneref29_Disk_Crash_k1
    rw [pBin_add]
    show pBuildSlice _ _ _ _ _ _
    refine o1.build (enc := encRC) (n := 5) [] rfl (sizesOk_of rfl) rfl fun w1 h2 o2 => ?_
    rw [pNil_ptr, pField_ptr]
    refine o2.load 1 rfl rfl ?_
    refine (o2.vw (enc := encRC) (n := 5) (T := T_milestoneref29_Change) 3 rfl).subA (a := 0) (j := s.cs.length + k) (fun _ => rfl) rfl rfl (Nat.zero_le _) (by omega) fun v1 hv1 => ?_
    have e1 : ((chL s).drop 0).take (s.cs.length + k - 0) = (chL s).take (s.cs.length + k) := by simp
    rw [e1] at hv1
    have htl : ((chL s).take (s.cs.length + k)).length = s.cs.length + k := by rw [List.length_take]; omega
    refine o2.app 0 rfl (fun _ => rfl) encRC_plain rfl (hv1 _ (o2.vw 3 rfl)) (by decide) (by rw [htl]; simp; omega) fun w2 h3 o3 => ?_
    have o3 : Own h0 h3 (slR encRC 5 T_milestoneref29_Change w2 ((chL s).take (s.cs.length + k)) :: rL r q s L) := o3
    refine layC_ok o3 fun h4 o4 => ?_
    have htk : ((chL s).take (s.cs.length + k)).map (fun x => (x.1, true)) = chL { s with cs := s.cs ++ s.cp.take k, cp := [] } := by
      unfold chL
      dsimp only
      rw [List.take_append, List.map_append, List.take_of_length_le (by simp), List.length_map, Nat.add_sub_cancel_left, List.map_map, ← List.map_take, List.map_map, List.map_append]
      simp [Function.comp_def]
    generalize (chL s).take (s.cs.length + k) = cl at o4 htl htk
    refine LoopH_count (s.cs.length + k) (fun i x h' => x.1 = I i ∧ Own h0 h' (cellR r [q.t, w2, .bool s.off, I s.armed] T_milestoneref29_Disk :: slR encSV 1 T_milestoneref29_Thing q.t (q.xs.map (·.1)) :: slR encRC 5 T_milestoneref29_Change w2 (synTo cl i) :: sepR (fmR q.xs) :: L)) ⟨rfl, by rw [synTo_zero]; exact o4⟩ ?_
    rintro i ⟨y, ⟨⟩⟩ h5 Z hi ⟨hy, o5⟩ hZ
    dsimp only at hy hZ ⊢
    subst hy
    unfold sh_milestoneref29_Disk_Crash_L2
    rw [pBin_lss, ifV_dec]
    refine ⟨fun hlt2 => ?_, fun hge => ?_⟩
    · have hi' : i < cl.length := by omega
      rw [pNil_ptr, pField_ptr]
      refine o5.load 0 rfl rfl ?_
      refine o5.setF (a := (cl[i].1, true)) 2 rfl (fun _ => rfl) (by rw [synTo_len]; exact hi') (by decide) rfl rfl (by rw [synTo_get hi']; rfl) fun h6 o6 => ?_
      rw [pBin_add, wI i (by omega)]
      have o6 : Own h0 h6 (cellR r [q.t, w2, .bool s.off, I s.armed] T_milestoneref29_Disk :: slR encSV 1 T_milestoneref29_Thing q.t (q.xs.map (·.1)) :: slR encRC 5 T_milestoneref29_Change w2 ((synTo cl i).set i (cl[i].1, true)) :: sepR (fmR q.xs) :: L) := o6
      rw [synTo_set hi'] at o6
      exact hZ (_, ()) h6 (by omega) ⟨rfl, o6⟩
    · rw [synTo_all (by omega), htk] at o5
      have hI1 : ({ s with cs := s.cs ++ s.cp.take k, cp := [] } : Dk).Inv U N := cut_inv hI
      have hnow : ({ s with cs := s.cs ++ s.cp.take k, cp := [] } : Dk).now = D := by
        unfold Dk.now; dsimp only; rw [List.append_nil, hD]
      have hxl := hq.len
      have hlt := hI.lt
      have o6 : Own h0 h5 (rL r ⟨q.t, w2, q.xs⟩ { s with cs := s.cs ++ s.cp.take k, cp := [] } L) := o5
      refine copyRT_ok o6 (by show q.xs.length ≤ _; omega) fun w3 h6 o7 => ?_
      refine layRT_ok o7 fun h7 o8 => ?_
      -- the state behind the first m things
      let sM : Nat → Dk := fun m => { ({ s with cs := s.cs ++ s.cp.take k, cp := [] } : Dk) with th := ((namedL D m).foldl crT (s.th, fs.tail)).1 }
      have sMI : ∀ m, (sM m).Inv U N := fun m => crT_inv (f := fs.tail) hI1
      have sMn : ∀ m, (sM m).now = D := fun m => hnow
      have sMl : ∀ m, (sM m).th.length = s.th.length := fun m => by
        show ((namedL D m).foldl crT (s.th, fs.tail)).1.length = _
        exact Go.Mh.crT_len
      refine LoopH_count s.th.length (fun m x h' => x.2.1 = I m ∧ ∃ c q', x.1 = I ((c : Nat) : Int) ∧ c ≤ 1 + m * N ∧ ((namedL D m).foldl crT (s.th, fs.tail)).2 = fs.drop c ∧ RcOk q' (sM m) ∧ Own h0 h' (rL r q' (sM m) L)) ⟨rfl, 1, ⟨w3, w2, q.xs⟩, rfl, by omega, by simp [namedL], hq, o8⟩ ?_
      rintro m ⟨y, x, ⟨⟩⟩ h8 Z1 hm ⟨hx1, c, q1, hy, hcm, hfd, hq1, o9⟩ hZ1
      dsimp only at hx1 hy hZ1 ⊢
      subst hx1 hy
      have hsI := sMI m
      have hsn := sMn m
      have hsl := sMl m
      have hxl1 := hq1.len
      unfold sh_milestoneref29_Disk_Crash_L3
      rw [pNil_ptr, pField_ptr]
      refine o9.load 0 rfl rfl ?_
      refine (o9.vw (enc := encSV) (n := 1) 1 rfl).len ?_
      rw [List.length_map, hxl1, hsl, pBin_lss, ifV_dec]
      refine ⟨fun hlt3 => ?_, fun hge3 => ?_⟩
      · have hm' : m < s.th.length := by omega
        have hm2 : m < (sM m).th.length := by omega
        have hmb : m * N ≤ 1048576 * 1048576 := Nat.mul_le_mul (by omega) (by omega)
        have hms : (m + 1) * N = m * N + N := Nat.succ_mul m N
        have k4 : ∀ (c' : Nat) (h' : Heap) (q' : RC), c' ≤ 1 + (m + 1) * N → ((namedL D (m + 1)).foldl crT (s.th, fs.tail)).2 = fs.drop c' → RcOk q' (sM (m + 1)) → Own h0 h' (rL r q' (sM (m + 1)) L) → sh_milestoneref29_Disk_Crash_k4 Tryz.prog (I m) (fun a0 a1 hz => Z1 (a0, (a1, ())) hz) (I ((c' : Nat) : Int)) h' := by
          intro c' h' q' h1 h2 h3 o'
          unfold sh_milestoneref29_Disk_Crash_k4
          rw [pBin_add, wI m (by omega)]
          exact hZ1 (_, _, ()) h' hm' ⟨rfl, c', q', rfl, h1, h2, h3, o'⟩
        refine pointsB_ok hsI (by omega) o9 fun h9 o10 => ?_
        rw [hsn]
        cases hany : (D.any fun x => decide (x.2 = m)) with
        | false =>
          have en : namedL D (m + 1) = namedL D m := by rw [namedL_succ, hany]; simp
          rw [notF29, ifV_true]
          have eM : sM (m + 1) = sM m := by show ({ ({ s with cs := s.cs ++ s.cp.take k, cp := [] } : Dk) with th := ((namedL D (m + 1)).foldl crT (s.th, fs.tail)).1 } : Dk) = _; rw [en]
          refine k4 c h9 q1 (by omega) (by rw [en]; exact hfd) (by rw [eM]; exact hq1) (by rw [eM]; exact o10)
        | true =>
          have en : namedL D (m + 1) = namedL D m ++ [m] := by rw [namedL_succ, hany]; simp
          rw [notT29, ifV_false]
          obtain ⟨xx, hxx, exx⟩ := hq1.get hm2
          have hx1 : (q1.xs.map (·.1))[m]'(by rw [List.length_map]; omega) = xx.1 := by
            simp [(List.getElem?_eq_some_iff.1 hxx).2]
          have hwl := wr_lt hsI hm2
          obtain ⟨t, htt⟩ : ∃ t, t = (sM m).getT m := ⟨_, rfl⟩
          rw [← htt] at exx hwl
          have hst : ((namedL D (m + 1)).foldl crT (s.th, fs.tail)) = (((sM m).th.modify m fun t => ⟨t.syn ++ (crW t.pen (fs.drop c)).1, []⟩), (crW t.pen (fs.drop c)).2) := by
            rw [en, List.foldl_append]
            show crT ((namedL D m).foldl crT (s.th, fs.tail)) m = _
            rw [crT_at ((namedL D m).foldl crT (s.th, fs.tail)) m, hfd, htt]
            rfl
          have htot : prW (wrL t) (fs.drop c) = (t.syn ++ (crW t.pen (fs.drop c)).1, (crW t.pen (fs.drop c)).2) := prW_wrL
          obtain ⟨P, hP⟩ : ∃ P, P = prW (wrL t) (fs.drop c) := ⟨_, rfl⟩
          refine LoopH_count (wrL t).length (fun i x h' => x.2.2.1 = I i ∧ ∃ (c' : Nat) (acc : List Wr), x.1 = I ((c' : Nat) : Int) ∧ c' ≤ c + i ∧ acc.length ≤ i ∧ P = (acc ++ (prW ((wrL t).drop i) (fs.drop c')).1, (prW ((wrL t).drop i) (fs.drop c')).2) ∧ Own h0 h' (slR encRW 3 T_milestoneref29_Write x.2.1 (acc.map (·, true)) :: rL r q1 (sM m) L)) ⟨rfl, c, [], rfl, by omega, by simp, by simp [hP], o10.nilS⟩ ?_
          rintro i ⟨y, lv, x, ⟨⟩⟩ h10 Z2 hi2 ⟨hx3, c', acc, hy, hc', hacc, hpr, o11⟩ hZ2
          dsimp only at hx3 hy o11 hZ2 ⊢
          subst hx3 hy
          unfold sh_milestoneref29_Disk_Crash_L5
          rw [pNil_ptr, pField_ptr]
          refine o11.load 1 rfl rfl ?_
          refine (o11.vw (enc := encSV) (n := 1) (T := T_milestoneref29_Thing) 2 rfl).atF (fun _ => rfl) (by rw [List.length_map]; omega) (j := 0) (u := xx.1.v) (by decide) (by rw [hx1]; rfl) ?_
          have V : Vw encRW 3 h10 xx.1.v (wrL t) := by rw [← exx]; exact fm_vw (o11.get 4 rfl) hxx
          refine V.len ?_
          rw [pBin_lss, ifV_dec]
          refine ⟨fun hlt4 => ?_, fun hge4 => ?_⟩
          · have hi3 : i < (wrL t).length := by omega
            rw [pNil_ptr, pField_ptr]
            refine o11.load 1 rfl rfl ?_
            refine (o11.vw (enc := encSV) (n := 1) (T := T_milestoneref29_Thing) 2 rfl).atF (fun _ => rfl) (by rw [List.length_map]; omega) (j := 0) (u := xx.1.v) (by decide) (by rw [hx1]; rfl) ?_
            refine V.atN (fun _ => rfl) hi3 ?_
            rw [List.drop_eq_getElem_cons hi3] at hpr
            generalize (wrL t)[i] = w at hpr
            refine o11.box fun w5 h11 o12 => ?_
            have o12 : Own h0 h11 (cellR w5 [I 0, .string ⟨#[]⟩, .bool false] T_milestoneref29_Write :: slR encRW 3 T_milestoneref29_Write lv (acc.map (·, true)) :: rL r q1 (sM m) L) := o12
            refine o12.st (cs' := encRW w) 0 rfl rfl rfl rfl rfl (by exact encRW_plain w) fun h12 o13 => ?_
            have o13 : Own h0 h12 (cellR w5 (encRW w) T_milestoneref29_Write :: slR encRW 3 T_milestoneref29_Write lv (acc.map (·, true)) :: rL r q1 (sM m) L) := o13
            have k7 : ∀ (c2 : Nat) (acc2 : List Wr) (lv2 : Value) (h' : Heap), c2 ≤ c + (i + 1) → acc2.length ≤ i + 1 → P = (acc2 ++ (prW ((wrL t).drop (i + 1)) (fs.drop c2)).1, (prW ((wrL t).drop (i + 1)) (fs.drop c2)).2) → Own h0 h' (slR encRW 3 T_milestoneref29_Write lv2 (acc2.map (·, true)) :: rL r q1 (sM m) L) →
                sh_milestoneref29_Disk_Crash_k7 Tryz.prog (I i) (fun a0 a1 a2 hz => Z2 (a0, (a1, (a2, ()))) hz) (I ((c2 : Nat) : Int)) lv2 h' := by
              intro c2 acc2 lv2 h' h1 h2 h3 o'
              unfold sh_milestoneref29_Disk_Crash_k7
              rw [pBin_add, wI i (by omega)]
              exact hZ2 (_, _, _, ()) h' hi3 ⟨rfl, c2, acc2, rfl, h1, h2, h3, o'⟩
            have k8 : ∀ (c2 : Nat), c2 ≤ c + (i + 1) → P = (acc ++ w.1 :: (prW ((wrL t).drop (i + 1)) (fs.drop c2)).1, (prW ((wrL t).drop (i + 1)) (fs.drop c2)).2) →
                sh_milestoneref29_Disk_Crash_k8 Tryz.prog (ptr w5) lv (I i) (fun a0 a1 a2 hz => Z2 (a0, (a1, (a2, ()))) hz) (I ((c2 : Nat) : Int)) h12 := by
              intro c2 h1 h3
              unfold sh_milestoneref29_Disk_Crash_k8
              rw [pField_ptr]
              refine o13.st1 0 (cs' := encRW (w.1, true)) rfl rfl rfl rfl rfl fun h13 o14 => ?_
              have o14 : Own h0 h13 (cellR w5 (encRW (w.1, true)) T_milestoneref29_Write :: slR encRW 3 T_milestoneref29_Write lv (acc.map (·, true)) :: rL r q1 (sM m) L) := o14
              refine o14.ldN (cs' := encRW (w.1, true)) 0 rfl rfl rfl ?_
              refine o14.app1 (enc := encRW) (n := 3) (T := T_milestoneref29_Write) 1 (w.1, true) rfl rfl (sizesOk_of rfl) (fun _ => rfl) encRW_plain rfl (by decide) (by rw [List.length_map]; omega) fun v' h14 o15 => ?_
              refine k7 c2 (acc ++ [w.1]) v' h14 h1 (by rw [List.length_append]; simp; omega) (by rw [h3]; simp) ?_
              rw [List.map_append]
              exact o15.tail
            rw [pField_ptr]
            refine o13.load 0 rfl rfl ?_
            obtain ⟨w1, wb⟩ := w
            cases wb with
            | true =>
              rw [notT29, ifV_false]
              rw [prW] at hpr
              exact k8 c' (by omega) hpr
            | false =>
              rw [notF29, ifV_true]
              rw [prW] at hpr
              have hfate := fate_drop (c := c') hr
              have et : (fs.drop c').tail = fs.drop (c' + 1) := by rw [List.tail_drop]
              rw [et] at hpr
              have k6 : ∀ od : Bool, (od = true ↔ fateOf (fs.drop c') % 2 = 1) → sh_milestoneref29_Disk_Crash_k6 Tryz.prog (I ((c' : Nat) : Int)) (I i) (fun a0 a1 a2 hz => Z2 (a0, (a1, (a2, ()))) hz) lv (ptr w5) (.bool od) h12 := by
                intro od hod
                unfold sh_milestoneref29_Disk_Crash_k6
                rw [pBin_add, wI c' (by omega)]
                cases od with
                | true =>
                  rw [notT29, ifV_false]
                  rw [if_pos (hod.1 rfl)] at hpr
                  exact k8 (c' + 1) (by omega) hpr
                | false =>
                  rw [notF29, ifV_true]
                  rw [if_neg (fun h => by have := hod.2 h; cases this)] at hpr
                  exact k7 (c' + 1) acc lv h12 (by omega) (by omega) hpr o13.tail
              have Hv := HfE o13
              · refine Hv.len ?_
                rw [pBin_lss, ifV_dec]
                refine ⟨fun hlt5 => ?_, fun hge5 => ?_⟩
                · have hcl : c' < fs.length := by omega
                  rcases Hv with Hv | ⟨rfl, _⟩
                  · refine Hv.at1 (e := fun z => Value.int .u8 z) (fun _ => rfl) hcl ?_
                    rw [hfate.1 hcl, pBin_rem]
                    refine ⟨by decide, ?_⟩
                    rw [show ((fateOf (fs.drop c') : Nat) : Int).tmod 2 = ((fateOf (fs.drop c') % 2 : Nat) : Int) by rw [Int.tmod_eq_emod_of_nonneg (by omega)]; omega, pBin_eql]
                    refine k6 _ ?_
                    rw [beq_iff_eq]; omega
                  · simp at hcl
                · refine k6 false ?_
                  rw [hfate.2 (by omega)]
                  simp
          · have ei : i = (wrL t).length := by omega
            subst ei
            rw [List.drop_of_length_le (Nat.le_refl _)] at hpr
            have hpr : P = (acc ++ [], fs.drop c') := hpr
            rw [List.append_nil, hP, htot] at hpr
            injection hpr with hp1 hp2
            rw [← hp1] at o11
            have ew : (t.syn ++ (crW t.pen (fs.drop c)).1).map (·, true) = wrL ((fun t : Th => (⟨t.syn ++ (crW t.pen (fs.drop c)).1, []⟩ : Th)) ((sM m).getT m)) := by
              rw [← htt]; unfold wrL; simp
            rw [ew] at o11
            rw [pNil_ptr, pField_ptr]
            refine o11.load 1 rfl rfl ?_
            refine setT_ok (f := fun t => ⟨t.syn ++ (crW t.pen (fs.drop c)).1, []⟩) hq1 hm2 o11 fun h11 q2 hq2 o12 => ?_
            have eM : sM (m + 1) = modRT (sM m) m fun t => ⟨t.syn ++ (crW t.pen (fs.drop c)).1, []⟩ := by
              show ({ ({ s with cs := s.cs ++ s.cp.take k, cp := [] } : Dk) with th := ((namedL D (m + 1)).foldl crT (s.th, fs.tail)).1 } : Dk) = _
              rw [hst]; rfl
            refine k4 c' h11 q2 (by omega) (by rw [hst]; exact hp2) (by rw [eM]; exact hq2) (by rw [eM]; exact o12)
      · have e : m = s.th.length := by omega
        subst e
        rw [pNil_ptr, pField_ptr]
        refine o9.st1 0 (cs' := [q1.t, q1.c, .bool false, I s.armed]) rfl rfl rfl rfl rfl fun h9 o10 => ?_
        rw [pNil_ptr, pField_ptr]
        refine o10.st1 0 (cs' := [q1.t, q1.c, .bool false, I 0]) rfl rfl rfl rfl rfl fun h10 o11 => ?_
        exact hKD h10 q1 hq1 o11
  refine (HfE o1).len ?_
  rw [pBin_gtr, ifV_dec]
  refine ⟨fun hgt => ?_, fun hle => ?_⟩
  · have hp : 0 < fs.length := by omega
    rcases HfE o1 with Hv | ⟨rfl, _⟩
    · refine Hv.at1 (e := fun z => Value.int .u8 z) (i := 0) (fun _ => rfl) hp ?_
      have hf0 := (fate_drop (c := 0) hr).1 hp
      rw [List.drop_zero] at hf0
      have hb0 := hr _ (List.getElem_mem hp)
      rw [hf0] at hb0
      rw [hf0, pConv_int, w64 (by omega) (by omega), hp1, pBin_add, w64 (by omega) (by omega), pBin_rem]
      refine ⟨by omega, ?_⟩
      have hmod : ((fateOf fs : Nat) : Int).tmod ((s.cp.length : Int) + 1) = ((fateOf fs % (s.cp.length + 1) : Nat) : Int) := by
        rw [Int.tmod_eq_emod_of_nonneg (by omega)]; rfl
      have hkl := Nat.mod_lt (fateOf fs) (show 0 < s.cp.length + 1 by omega)
      rw [hmod, pBin_add, w64 (by omega) (by omega)]
      exact k1 _ rfl
    · simp at hp
  · have : fs = [] := List.eq_nil_of_length_eq_zero (by omega)
    subst this
    exact k1 0 (by show 0 = 0 % _; rw [Nat.zero_mod])

end
end Go.Proofs.YtdbkeklhjjlhbaaGreat

/-! The disk by definition beside disks of the program. -/
namespace Go.Proofs.YtdbkeklhjjlhbaaGreat
open Go Go.Mh
set_option linter.unusedVariables false

section
variable {h0 h hb : Heap} {L Y : List Res} {K : Value → Heap → Prop} {r n k d : Nat} {q : RC} {s : Dk} {U : List Nm} {N : Nat} {a b : Nm} {ds : List (Nat × Dk)}

theorem Ats.side (A : Ats h0 h ds L) : ∃ M, Own h0 h (L ++ M) ∧ ∀ h' L', Own h0 h' (L' ++ M) → Ats h0 h' ds L' := by
  obtain ⟨xs, B, e, o, hD⟩ := A
  refine ⟨xs.map pk ++ [roR B], ?_, fun h' L' o' => ⟨xs, B, e, ?_, hD⟩⟩
  · have e1 : xs.map pk ++ roR B :: L = (xs.map pk ++ [roR B]) ++ L := by simp
    rw [e1] at o
    exact o.comm
  · have e1 : xs.map pk ++ roR B :: L' = (xs.map pk ++ [roR B]) ++ L' := by simp
    rw [e1]
    exact o'.comm

/-- The disk by definition taken out. -/
theorem Ats.rdisk (A : Ats h0 h ds (Y ++ rL r q s L)) : ∃ M, Own h0 h (rL r q s M) ∧ ∀ h' q' s' Z, Own h0 h' (Z ++ rL r q' s' M) → Ats h0 h' ds (Y ++ (Z ++ rL r q' s' L)) := by
  obtain ⟨M, o, bk⟩ := A.side
  have e1 : (Y ++ rL r q s L) ++ M = Y ++ rL r q s (L ++ M) := by unfold rL; simp
  rw [e1] at o
  refine ⟨(L ++ M) ++ Y, ?_, fun h' q' s' Z o' => bk h' _ ?_⟩
  · have := o.comm
    have e2 : rL r q s (L ++ M) ++ Y = rL r q s ((L ++ M) ++ Y) := by unfold rL; simp
    rwa [e2] at this
  · have e2 : Z ++ rL r q' s' ((L ++ M) ++ Y) = (Z ++ rL r q' s' (L ++ M)) ++ Y := by unfold rL; simp
    rw [e2] at o'
    have := o'.comm
    have e3 : Y ++ (Z ++ rL r q' s' (L ++ M)) = (Y ++ (Z ++ rL r q' s' L)) ++ M := by unfold rL; simp
    rwa [e3] at this

/-- Disks, and one by definition. -/
def AtR (h0 h : Heap) (ds : List (Nat × Dk)) (r : Nat) (s : Dk) (L : List Res) : Prop := ∃ q, RcOk q s ∧ Ats h0 h ds (rL r q s L)

theorem AtR.own (A : AtR h0 h ds r s L) : Ext h0 h := by
  obtain ⟨q, _, A⟩ := A
  exact A.own.ext

theorem makeRA (A : AtR h0 h ds r s L) (hI : s.Inv U N) (hN : N < 1048576) (hK : ∀ h', AtR h0 h' ds r (mMake s a).2 L → K (I (mMake s a).1) h') : callS Tryz.prog F_milestoneref29_Disk_Make [ptr r, .string a] h K := by
  obtain ⟨q, hq, A⟩ := A
  obtain ⟨M, o, bk⟩ := A.rdisk (Y := [])
  exact makeR_ok hI hN o hq fun h' q' hq' o' => hK h' ⟨q', hq', bk h' q' _ [] o'⟩
theorem writeRA {z : Int} {w : ByteArray} (A : AtR h0 h ds r s L) (hI : s.Inv U N) (hN : N < 1048576) (hz : -9223372036854775808 ≤ z ∧ z ≤ 9223372036854775807) (hw : w.size ≤ 1048576) (hK : ∀ h', AtR h0 h' ds r (mWrite s a z w).2 L → K (I (mWrite s a z w).1) h') : callS Tryz.prog F_milestoneref29_Disk_Write [ptr r, .string a, I z, .string w] h K := by
  obtain ⟨q, hq, A⟩ := A
  obtain ⟨M, o, bk⟩ := A.rdisk (Y := [])
  exact writeR_ok hI hN hz hw o hq fun h' q' hq' o' => hK h' ⟨q', hq', bk h' q' _ [] o'⟩
theorem syncRA (A : AtR h0 h ds r s L) (hI : s.Inv U N) (hN : N < 1048576) (hK : ∀ h', AtR h0 h' ds r (mSync s a).2 L → K (I (mSync s a).1) h') : callS Tryz.prog F_milestoneref29_Disk_Sync [ptr r, .string a] h K := by
  obtain ⟨q, hq, A⟩ := A
  obtain ⟨M, o, bk⟩ := A.rdisk (Y := [])
  exact syncR_ok hI hN o hq fun h' q' hq' o' => hK h' ⟨q', hq', bk h' q' _ [] o'⟩
theorem renameRA (A : AtR h0 h ds r s L) (hI : s.Inv U N) (hN : N < 1048576) (hK : ∀ h', AtR h0 h' ds r (mRename s a b).2 L → K (I (mRename s a b).1) h') : callS Tryz.prog F_milestoneref29_Disk_Rename [ptr r, .string a, .string b] h K := by
  obtain ⟨q, hq, A⟩ := A
  obtain ⟨M, o, bk⟩ := A.rdisk (Y := [])
  exact renameR_ok hI (by omega) o hq fun h' q' hq' o' => hK h' ⟨q', hq', bk h' q' _ [] o'⟩
theorem removeRA (A : AtR h0 h ds r s L) (hI : s.Inv U N) (hN : N < 1048576) (hK : ∀ h', AtR h0 h' ds r (mRemove s a).2 L → K (I (mRemove s a).1) h') : callS Tryz.prog F_milestoneref29_Disk_Remove [ptr r, .string a] h K := by
  obtain ⟨q, hq, A⟩ := A
  obtain ⟨M, o, bk⟩ := A.rdisk (Y := [])
  exact removeR_ok hI (by omega) o hq fun h' q' hq' o' => hK h' ⟨q', hq', bk h' q' _ [] o'⟩
theorem syncDirRA (A : AtR h0 h ds r s L) (hI : s.Inv U N) (hN : N < 1048576) (hK : ∀ h', AtR h0 h' ds r (mSyncDir s).2 L → K (I (mSyncDir s).1) h') : callS Tryz.prog F_milestoneref29_Disk_SyncDir [ptr r] h K := by
  obtain ⟨q, hq, A⟩ := A
  obtain ⟨M, o, bk⟩ := A.rdisk (Y := [])
  exact syncDirR_ok hI hN o hq fun h' q' hq' o' => hK h' ⟨q', hq', bk h' q' _ [] o'⟩
theorem armRA {z : Int} (A : AtR h0 h ds r s L) (hK : ∀ h', AtR h0 h' ds r (mArm s z) L → K (.tuple #[]) h') : callS Tryz.prog F_milestoneref29_Disk_Arm [ptr r, I z] h K := by
  obtain ⟨q, hq, A⟩ := A
  obtain ⟨M, o, bk⟩ := A.rdisk (Y := [])
  exact armR_ok o fun h' o' => hK h' ⟨q, hq, bk h' q _ [] o'⟩
theorem crashRA {fv : Value} {fs : List Int} (A : AtR h0 h ds r s L) (hI : s.Inv U N) (hN : N < 1048576) (Hf : VwE h0 fv fs) (hr : ∀ z ∈ fs, 0 ≤ z ∧ z ≤ 255) (hfl : fs.length < 2 ^ 62) (hK : ∀ h', AtR h0 h' ds r (mCrash s fs) L → K (.tuple #[]) h') : callS Tryz.prog F_milestoneref29_Disk_Crash [ptr r, fv] h K := by
  obtain ⟨q, hq, A⟩ := A
  obtain ⟨M, o, bk⟩ := A.rdisk (Y := [])
  exact crashR_ok hI hN o hq Hf hr hfl fun h' q' hq' o' => hK h' ⟨q', hq', bk h' q' _ [] o'⟩
theorem readRA (A : AtR h0 h ds r s L) (hI : s.Inv U N) (hN : N < 1048576) (hK : ∀ h', AtR h0 h' ds r s L → K (.tuple #[.string (mRead s a).1, I (mRead s a).2]) h') : callS Tryz.prog F_milestoneref29_Disk_Read [ptr r, .string a] h K := by
  obtain ⟨q, hq, A⟩ := A
  obtain ⟨M, o, bk⟩ := A.rdisk (Y := [])
  exact readR_ok hI (by omega) o hq fun h' o' => hK h' ⟨q, hq, bk h' q _ [] o'⟩

/-- With lists in front. -/
theorem readRY (hq : RcOk q s) (A : Ats h0 h ds (Y ++ rL r q s L)) (hI : s.Inv U N) (hN : N < 1048576) (hK : ∀ h', Ats h0 h' ds (Y ++ rL r q s L) → K (.tuple #[.string (mRead s a).1, I (mRead s a).2]) h') : callS Tryz.prog F_milestoneref29_Disk_Read [ptr r, .string a] h K := by
  obtain ⟨M, o, bk⟩ := A.rdisk
  exact readR_ok hI (by omega) o hq fun h' o' => hK h' (bk h' q _ [] o')
theorem pendingRY (hq : RcOk q s) (A : Ats h0 h ds (Y ++ rL r q s L)) (hI : s.Inv U N) (hN : N < 1048576) (hK : ∀ h', Ats h0 h' ds (Y ++ rL r q s L) → K (.tuple #[I (mPending s).1, I (mPending s).2]) h') : callS Tryz.prog F_milestoneref29_Disk_Pending [ptr r] h K := by
  obtain ⟨M, o, bk⟩ := A.rdisk
  exact pendingR_ok hI hN o hq fun h' o' => hK h' (bk h' q _ [] o')
theorem namesRY (A : Ats h0 h ds (Y ++ rL r q s L)) (hI : s.Inv U N) (hN : N < 1048576) (hK : ∀ w h', Ats h0 h' ds (Y ++ (slR encS 1 T_string w (mNames s) :: rL r q s L)) → K w h') : callS Tryz.prog F_milestoneref29_Disk_Names [ptr r] h K := by
  obtain ⟨M, o, bk⟩ := A.rdisk
  exact namesR_ok hI hN o fun w h' o' => hK w h' (bk h' q _ [slR encS 1 T_string w (mNames s)] o')

theorem AtR.prog (A : AtR h0 h ds r s L) : ∃ q, RcOk q s ∧ Ats h0 h ds (rL r q s L) := A

/-- A new one. -/
theorem newRA (A : Ats h0 h ds L) (hK : ∀ r h', AtR h0 h' ds r .new L → K (ptr r) h') : pBox T_milestoneref29_Disk (.agg #[.slice none 0 0, .slice none 0 0, .bool false, I 0]) h K := by
  obtain ⟨M, o, bk⟩ := A.side
  refine o.box fun r h1 o1 => hK r h1 ?_
  have o2 : Own h0 h1 (cellR r [.slice none 0 0, .slice none 0 0, .bool false, I 0] T_milestoneref29_Disk :: (L ++ M)) := o1
  have o3 := ((o2.nilS (enc := encRC) (n := 5) (T := T_milestoneref29_Change)).nilS (enc := encSV) (n := 1) (T := T_milestoneref29_Thing))
  have o4 := Own.sep (l := []) o3
  have o5 := o4.front 4 [3, 1, 2, 0] (by decide) (by decide)
  exact ⟨⟨.slice none 0 0, .slice none 0 0, []⟩, rfl, bk h1 _ o5⟩

theorem doR_ok {x : AV} {f : List Int} (A : AtR h0 h ds r s L) (hI : s.Inv U N) (hN : N < 1048576) (hx : AOk x f) (Hf : VwE h0 x.fv f)
    (hK : ∀ h', AtR h0 h' ds r (mDo s x f).2 L → K (.tuple #[.string (mDo s x f).1.1, I (mDo s x f).1.2]) h') : callS Tryz.prog F_milestoneref29_Disk_Do [ptr r, .agg (encAct x).toArray] h K := by
  refine callS_of (lk_milestoneref29_Disk_Do _ _ ?_)
  unfold sh_milestoneref29_Disk_Do
  have more : ∀ {h1 h2 : Heap}, AtR h0 h1 ds r s L → Ext h1 h2 → AtR h0 h2 ds r s L := fun ⟨q, hq, A⟩ e => ⟨q, hq, A.more e⟩
  refine (Own.start h).box fun x3 h1 o1 => ?_
  have o1 : Own h h1 [cellR x3 (encAct x) T_milestoneref29_Act] := o1
  have hc : ∀ h', Ext h1 h' → ∀ (i : Nat) (v : Value), (encAct x)[i]? = some v → hcell h' ⟨x3, 0 + i, none⟩ = some v := fun h' e i v hv => hcell_more e (hcell_of (o1.get 0 rfl) (by simpa using hv))
  have ld : ∀ {h' : Heap} {i : Nat} {v : Value} {K' : Value → Prop}, Ext h1 h' → (encAct x)[i]? = some v → K' v → pField i (ptr x3) fun t => pLoad h' t K' := fun e hv hk' => by
    rw [pField_ptr]
    simp only [pLoad_ptr, hc _ e _ _ hv]
    exact hk'
  have A1 := more A o1.ext
  refine ld (.refl _ _) rfl (ld (.refl _ _) rfl ?_)
  have hs := hx.s
  rw [pLenS_str, pMin_int]
  have e12 : (if (12 : Int) < x.s.size then (12 : Int) else x.s.size) = ((min x.s.size 12 : Nat) : Int) := by split <;> omega
  rw [e12]
  have sl : ∀ {K' : Value → Prop}, K' (.string (cutS x.s)) → pSliceS (.string x.s) none (some (I ((min x.s.size 12 : Nat) : Int))) K' := fun hk => ⟨Int.le_refl _, by omega, by omega, hk⟩
  refine sl ?_
  have hcs : (cutS x.s).size ≤ 1048576 := by
    unfold cutS; rw [ByteArray.size_extract]; omega
  refine ld (.refl _ _) rfl ?_
  have hcb := hc h1 (.refl _ _) 2 (.int .u8 x.b) rfl
  rw [pField_ptr]
  simp only [pLoad_ptr, hcb]
  refine name_ok hx.a fun h2 e2 => ?_
  have hcb2 := hc h2 e2 2 (.int .u8 x.b) rfl
  refine ⟨by simp only [pLoad_ptr, hcb2], ?_⟩
  refine name_ok hx.b fun h3 e3 => ?_
  have e13 : Ext h1 h3 := e2.trans e3 fun _ h _ => h
  have A3 := more (more A1 e2) e3
  refine ld e13 rfl ?_
  have hw := hx.w
  have ht := hx.t
  rw [pBin_rem]
  refine ⟨by decide, ?_⟩
  have ew : x.w.tmod 9 = ((x.w.toNat % 9 : Nat) : Int) := by rw [Int.tmod_eq_emod_of_nonneg (by omega)]; omega
  rw [ew]
  have hw9 : x.w.toNat % 9 < 9 := Nat.mod_lt _ (by decide)
  unfold mDo at hK
  generalize x.w.toNat % 9 = q at hw9 hK
  have cq : ∀ (n : Nat), (((q : Nat) : Int) == ((n : Nat) : Int)) = decide (q = n) := fun n => by
    rw [Bool.eq_iff_iff]; simp; omega
  rw [pBin_eql, show ((q : Int) == 0) = decide (q = 0) from cq 0, ifV_dec]
  refine ⟨fun h => ?_, fun n0 => ?_⟩
  · subst h
    exact makeRA A3 hI hN fun h4 A4 => hK h4 A4
  rw [pBin_eql, show ((q : Int) == 1) = decide (q = 1) from cq 1, ifV_dec]
  refine ⟨fun h => ?_, fun n1 => ?_⟩
  · subst h
    refine ld e13 rfl ?_
    rw [pBin_rem]
    refine ⟨by decide, ?_⟩
    rw [show x.t.tmod 40 = ((x.t.toNat % 40 : Nat) : Int) by rw [Int.tmod_eq_emod_of_nonneg (by omega)]; omega, pConv_int, w64 (by omega) (by omega), pBin_sub, w64 (by omega) (by omega)]
    exact writeRA A3 hI hN (by omega) hcs fun h4 A4 => hK h4 A4
  rw [pBin_eql, show ((q : Int) == 2) = decide (q = 2) from cq 2, ifV_dec]
  refine ⟨fun h => ?_, fun n2 => ?_⟩
  · subst h
    exact syncRA A3 hI hN fun h4 A4 => hK h4 A4
  rw [pBin_eql, show ((q : Int) == 3) = decide (q = 3) from cq 3, ifV_dec]
  refine ⟨fun h => ?_, fun n3 => ?_⟩
  · subst h
    exact renameRA A3 hI hN fun h4 A4 => hK h4 A4
  rw [pBin_eql, show ((q : Int) == 4) = decide (q = 4) from cq 4, ifV_dec]
  refine ⟨fun h => ?_, fun n4 => ?_⟩
  · subst h
    exact removeRA A3 hI hN fun h4 A4 => hK h4 A4
  rw [pBin_eql, show ((q : Int) == 5) = decide (q = 5) from cq 5, ifV_dec]
  refine ⟨fun h => ?_, fun n5 => ?_⟩
  · subst h
    exact syncDirRA A3 hI hN fun h4 A4 => hK h4 A4
  rw [pBin_eql, show ((q : Int) == 6) = decide (q = 6) from cq 6, ifV_dec]
  refine ⟨fun h => ?_, fun n6 => ?_⟩
  · subst h
    refine readRA (a := nameOf x.a) A3 hI hN fun h4 A4 => ?_
    rw [pExt0, pExt1]
    exact hK h4 A4
  rw [pBin_eql, show ((q : Int) == 7) = decide (q = 7) from cq 7, ifV_dec]
  refine ⟨fun h => ?_, fun n7 => ?_⟩
  · subst h
    refine ld e13 rfl ?_
    rw [pBin_rem]
    refine ⟨by decide, ?_⟩
    rw [show x.t.tmod 6 = ((x.t.toNat % 6 : Nat) : Int) by rw [Int.tmod_eq_emod_of_nonneg (by omega)]; omega, pConv_int, w64 (by omega) (by omega), pBin_sub, w64 (by omega) (by omega)]
    exact armRA A3 fun h4 A4 => hK h4 A4
  have : q = 8 := by omega
  subst this
  refine ld e13 rfl (ld e13 rfl ?_)
  refine (Hf.moreE A3.own).len ?_
  rw [pMin_int]
  have e20 : (if (20 : Int) < f.length then (20 : Int) else f.length) = ((min f.length 20 : Nat) : Int) := by split <;> omega
  rw [e20]
  refine (Hf.moreE A3.own).cut20 fun v' hv' => ?_
  refine crashRA A3 hI hN (hv' h0 Hf) (fun z hz => hx.f z (List.mem_of_mem_take hz)) (by rw [List.length_take]; omega) fun h4 A4 => hK h4 A4

/-- Both are in one state. -/
theorem alike_ok {d : Nat} (A : AtR h0 h [(d, s)] r s L) (hI : s.Inv U N) (hN : N < 1048576) (hl : U.length ≤ 12) (hU : ∀ a ∈ U, okN a = true) (hK : ∀ h', AtR h0 h' [(d, s)] r s L → K (.bool true) h') : callS Tryz.prog F_milestonelaw29_alike [ptr d, ptr r] h K := by
  obtain ⟨q, hq, A⟩ := A
  refine callS_of (lk_milestonelaw29_alike _ _ ?_)
  unfold sh_milestonelaw29_alike
  refine namesA (k := 0) A rfl hI hl fun w1 h1 A1 => ?_
  refine namesRY (Y := [slR encS 1 T_string w1 (mNames s)]) A1 hI hN fun w2 h2 A2 => ?_
  have hn12 : (mNames s).length ≤ 12 := names_len12 hI hl
  have hnok : ∀ a ∈ mNames s, (mRead s a).2 = 0 := by
    intro a ha
    unfold mNames at ha
    split at ha
    · cases ha
    · rename_i ho
      have hk := (sortO_mem ltS_ok).1 ha
      have hs := dlook_key.2 hk
      unfold mRead
      have hna : okN a = true := hU a (names_sub hI (by unfold mNames; rw [if_neg ho]; exact ha))
      have : refE s (namesE [a]) [a] = 0 := by
        unfold refE namesE
        simp [hna, hs, ho]
      rw [if_neg (fun h => h this)]
  generalize mNames s = ys at A2 hn12 hnok
  refine pendingA (k := 0) A2 rfl hI (by omega) hl fun h3 A3 => ?_
  rw [pExt0, pExt1]
  refine pendingRY (Y := [slR encS 1 T_string w1 ys, slR encS 1 T_string w2 ys]) hq A3 hI hN fun h4 A4 => ?_
  rw [pExt0, pExt1]
  have C1 : ∀ h', Ats h0 h' [(d, s)] ([slR encS 1 T_string w1 ys, slR encS 1 T_string w2 ys] ++ rL r q s L) → sh_milestonelaw29_alike_C1 Tryz.prog K w1 (ptr d) w2 (ptr r) (.bool false) h' := by
    intro h' A'
    unfold sh_milestonelaw29_alike_C1
    rw [ifV_false]
    refine LoopH_count ys.length (fun i x h' => x.1 = I i ∧ Ats h0 h' [(d, s)] ([slR encS 1 T_string w1 ys, slR encS 1 T_string w2 ys] ++ rL r q s L)) ⟨rfl, A'⟩ ?_
    rintro i ⟨x, ⟨⟩⟩ h5 Z hi ⟨hx, A5⟩ hZ
    dsimp only at hx hZ ⊢
    subst hx
    unfold sh_milestonelaw29_alike_L2
    have o5 := A5.own
    refine (o5.vw (enc := encS) (n := 1) (T := T_string) (xs := ys) 0 rfl).len ?_
    rw [pBin_lss, ifV_dec]
    refine ⟨fun hlt => ?_, fun hge => ?_⟩
    · have hi' : i < ys.length := by omega
      refine (o5.vw (enc := encS) (n := 1) (T := T_string) (xs := ys) 0 rfl).at1 (e := fun (x : Nm) => Value.string x) (fun _ => rfl) hi' ?_
      refine readA (k := 0) A5 rfl hI (by omega) fun h6 A6 => ?_
      rw [pExt0, pExt1]
      have o6 := A6.own
      refine (o6.vw (enc := encS) (n := 1) (T := T_string) (xs := ys) 1 rfl).at1 (e := fun (x : Nm) => Value.string x) (fun _ => rfl) hi' ?_
      refine readRY (Y := [slR encS 1 T_string w1 ys, slR encS 1 T_string w2 ys]) hq A6 hI hN fun h7 A7 => ?_
      rw [pExt0, pExt1]
      have o7 := A7.own
      refine cutP_of (fun y h' => y.1 = .bool false ∧ h' = h7) (fun J hJ => ?_) ?_
      · refine (o7.vw (enc := encS) (n := 1) (T := T_string) (xs := ys) 0 rfl).at1 (e := fun (x : Nm) => Value.string x) (fun _ => rfl) hi' ?_
        refine (o7.vw (enc := encS) (n := 1) (T := T_string) (xs := ys) 1 rfl).at1 (e := fun (x : Nm) => Value.string x) (fun _ => rfl) hi' ?_
        rw [pBin_neqS, decide_eq_true rfl, Bool.not_true, ifV_false, pBin_neqS, decide_eq_true rfl, Bool.not_true, ifV_false, pBin_neq, bne_self_eq_false, ifV_false, pBin_neq]
        refine hJ _ _ ⟨?_, rfl⟩
        rw [hnok _ (List.getElem_mem hi')]; rfl
      · rintro ⟨y, ⟨⟩⟩ h' ⟨hy, rfl⟩
        dsimp only at hy
        subst hy
        unfold sh_milestonelaw29_alike_C3
        rw [ifV_false, pBin_add, wI i (by omega)]
        exact hZ (_, ()) _ hi' ⟨rfl, A7⟩
    · refine hK h5 ⟨q, hq, ?_⟩
      have A6 : Ats h0 h5 [(d, s)] (slR encS 1 T_string w1 ys :: slR encS 1 T_string w2 ys :: rL r q s L) := A5
      exact A6.drop.drop
  refine cutP_of (fun y h' => y.1 = .bool false ∧ Ats h0 h' [(d, s)] ([slR encS 1 T_string w1 ys, slR encS 1 T_string w2 ys] ++ rL r q s L)) (fun J hJ => ?_) ?_
  · have o4 := A4.own
    refine (o4.vw (enc := encS) (n := 1) (T := T_string) (xs := ys) 0 rfl).len ?_
    refine (o4.vw (enc := encS) (n := 1) (T := T_string) (xs := ys) 1 rfl).len ?_
    rw [pBin_neq, bne_self_eq_false, ifV_false, pNil_ptr, pField_ptr]
    refine o4.load 2 (b := r) (cs := [q.t, q.c, .bool s.off, I s.armed]) (T := T_milestoneref29_Disk) rfl rfl ?_
    refine onA (k := 0) A4 rfl ?_
    refine ⟨o4.load 2 (b := r) (cs := [q.t, q.c, .bool s.off, I s.armed]) (T := T_milestoneref29_Disk) rfl rfl rfl, ?_⟩
    have e : ∀ (c : Bool) (K' : Value → Prop), pEq false .bool (.bool (!c)) (.bool c) K' = K' (.bool false) := fun c K' => by cases c <;> rfl
    rw [e, ifV_false, pBin_neq, bne_self_eq_false, ifV_false, pBin_neq, bne_self_eq_false]
    exact hJ _ _ ⟨rfl, A4⟩
  · rintro ⟨y, ⟨⟩⟩ h' ⟨hy, A'⟩
    dsimp only at hy
    subst hy
    exact C1 h' A'

end
end Go.Proofs.YtdbkeklhjjlhbaaGreat

namespace Go.Proofs.YtdbkeklhjjlhbaaGreat
open Go Go.Mh
set_option linter.unusedVariables false

section
variable {h0 h : Heap} {L : List Res} {K : Value → Heap → Prop} {k d : Nat} {s : Dk} {U : List Nm} {N : Nat} {a b : Nm} {ds : List (Nat × Dk)}

theorem FV.sl {w : Value} {fs : List Int} : FV h0 (slR encU8 1 T_uint8 w fs :: L) w fs := fun Rs h' o =>
  .inl (o.vw Rs.length (by rw [List.getElem?_append_right (Nat.le_refl _), Nat.sub_self]; rfl))

theorem crash1 {z : Int} (A : Ats h0 h ds L) (hk : ds[k]? = some (d, s)) (hI : s.Inv U N) (hN : N ≤ 1048576) (hl : U.length ≤ 12) (hz : 0 ≤ z ∧ z ≤ 255) (hK : ∀ h', Ats h0 h' (ds.set k (d, mCrash s [z])) L → K (.tuple #[]) h') :
    pBuildSlice T_uint8 (zerosL [(.int .u8 0)] 1) [(0, 1, (.int .u8 z))] 1 h fun t h2 => callS Tryz.prog F_disk_Disk_Crash [ptr d, t] h2 K := by
  refine (Own.start h).build (enc := encU8) (n := 1) [z] rfl (sizesOk_of rfl) rfl fun w h2 o2 => ?_
  refine crashA (A.add o2) hk hI hN hl FV.sl (fun y hy => by rw [List.mem_singleton.1 hy]; exact hz) (by simp) (o2.vw 0 rfl).one fun h' A' => hK h' A'.drop

theorem crash2 {z y : Int} (A : Ats h0 h ds L) (hk : ds[k]? = some (d, s)) (hI : s.Inv U N) (hN : N ≤ 1048576) (hl : U.length ≤ 12) (hz : 0 ≤ z ∧ z ≤ 255) (hy : 0 ≤ y ∧ y ≤ 255) (hK : ∀ h', Ats h0 h' (ds.set k (d, mCrash s [z, y])) L → K (.tuple #[]) h') :
    pBuildSlice T_uint8 (zerosL [(.int .u8 0)] 2) [(0, 1, (.int .u8 z)), (1, 1, (.int .u8 y))] 2 h fun t h2 => callS Tryz.prog F_disk_Disk_Crash [ptr d, t] h2 K := by
  refine (Own.start h).build (enc := encU8) (n := 1) [z, y] rfl (sizesOk_of rfl) rfl fun w h2 o2 => ?_
  refine crashA (A.add o2) hk hI hN hl FV.sl (fun x hx => ?_) (by simp) (o2.vw 0 rfl).one fun h' A' => hK h' A'.drop
  rcases List.mem_cons.1 hx with rfl | hx
  · exact hz
  · rw [List.mem_singleton.1 hx]; exact hy

/-! ### The chapter's examples -/

def nA : Nm := ⟨#[97]⟩
def nB : Nm := ⟨#[98]⟩
def wU : List Nm := [nA, nB]
def w1 : Dk := (mMake .new nA).2
def w2 : Dk := (mWrite w1 nA 2 ⟨#[120, 121]⟩).2
def w3 : Dk := mCrash w2 [1]
def e2D : Dk := mCrash w1 [0]
def f2D : Dk := (mWrite w1 nA 0 ⟨#[120, 121]⟩).2
def f3D : Dk := (mSync f2D nA).2
def f4D : Dk := (mSyncDir f3D).2
def f5D : Dk := (mWrite f4D nA 1 ⟨#[122]⟩).2
def f6D : Dk := mCrash f5D [0, 0]
def g2D : Dk := mCrash f5D [0, 1]
def h2D : Dk := (mSyncDir w1).2
def h3D : Dk := (mMake h2D nB).2
def h4D : Dk := (mRename h3D nB nA).2
def h5D : Dk := mCrash h4D [1]
def i0D : Dk := mArm .new 2
def i1D : Dk := (mMake i0D nA).2
def i2D : Dk := (mMake i1D nB).2
def i3D : Dk := mCrash i2D [1]

theorem mA : nA ∈ wU := List.mem_cons_self
theorem mB : nB ∈ wU := List.mem_cons_of_mem _ List.mem_cons_self
theorem w1I : w1.Inv wU 1 := make_inv new_inv mA
theorem w2I : w2.Inv wU 2 := write_inv w1I (by decide)
theorem w3I : w3.Inv wU 3 := crash_inv w2I
theorem e2I : e2D.Inv wU 2 := crash_inv w1I
theorem f2I : f2D.Inv wU 2 := write_inv w1I (by decide)
theorem f3I : f3D.Inv wU 3 := sync_inv f2I
theorem f4I : f4D.Inv wU 4 := syncDir_inv f3I
theorem f5I : f5D.Inv wU 5 := write_inv f4I (by decide)
theorem f6I : f6D.Inv wU 6 := crash_inv f5I
theorem g2I : g2D.Inv wU 6 := crash_inv f5I
theorem h2I : h2D.Inv wU 2 := syncDir_inv w1I
theorem h3I : h3D.Inv wU 3 := make_inv h2I mB
theorem h4I : h4D.Inv wU 4 := rename_inv h3I mA
theorem h5I : h5D.Inv wU 5 := crash_inv h4I
theorem i0I : i0D.Inv wU 1 := arm_inv new_inv (by decide)
theorem i1I : i1D.Inv wU 2 := make_inv i0I mA
theorem i2I : i2D.Inv wU 3 := make_inv i1I mB
theorem i3I : i3D.Inv wU 4 := crash_inv i2I

set_option maxRecDepth 100000 in
theorem wk1 : rdS w2 nA = ⟨#[0, 0, 120, 121]⟩ := by decide +kernel
theorem wk2 : rdS w3 nA = ⟨#[]⟩ := by decide +kernel
theorem wk3 : mNames e2D = [] := by decide +kernel
theorem wk4 : rdS f6D nA = ⟨#[120, 121]⟩ := by decide +kernel
theorem wk5 : rdS g2D nA = ⟨#[120, 122]⟩ := by decide +kernel
theorem wk6 : (mMake i0D nA).1 = 0 := by decide +kernel
theorem wk7 : (mMake i1D nB).1 = 22 := by decide +kernel
theorem wk8 : mNames i2D = [] := by decide +kernel
theorem wk9 : mNames h5D = [nA, nB] := by decide +kernel
theorem wk10 : mNames i3D = [nA] := by decide +kernel
theorem wk11 : joinS [nA, nB] ⟨#[32]⟩ = ⟨#[97, 32, 98]⟩ := by decide +kernel
theorem wk12 : joinS [nA] ⟨#[32]⟩ = ⟨#[97]⟩ := by decide +kernel

theorem works29_ok (hK : ∀ h', Ext h h' → K (.bool true) h') : callS Tryz.prog F_milestonelaw29_works [] h K := by
  refine callS_of (lk_milestonelaw29_works ?_)
  unfold sh_milestonelaw29_works
  have N2 : (2 : Nat) ≤ 1048576 := by decide
  refine newA (Ats.none (Own.start h)) fun d1 h1 A1 => ?_
  rw [pEq_ptr_nil, Option.isNone_some, ifV_false]
  refine makeA (a := nA) (k := 0) A1 rfl (new_inv (U := wU)) (by decide) fun h2 A2 => ?_
  refine writeA (a := nA) (k := 0) A2 rfl w1I (by decide) (by decide) (by decide) fun h3 A3 => ?_
  refine lawRead_ok (a := nA) (k := 0) (s := w2) A3 rfl w2I (by decide) fun h4 A4 => ?_
  rw [wk1, pBin_eqlS, decide_eq_true rfl]
  refine crash1 (k := 0) (s := w2) A4 rfl w2I (by decide) (by decide) (by decide) fun h5 A5 => ?_
  rw [ifV_true]
  refine lawRead_ok (a := nA) (k := 0) (s := w3) A5 rfl w3I (by decide) fun h6 A6 => ?_
  rw [wk2, pBin_eqlS, decide_eq_true rfl]
  unfold sh_milestonelaw29_works_k1
  refine newA A6 fun d2 h7 A7 => ?_
  refine makeA (a := nA) (k := 0) A7 rfl (new_inv (U := wU)) (by decide) fun h8 A8 => ?_
  refine crash1 (k := 0) (s := w1) A8 rfl w1I (by decide) (by decide) (by decide) fun h9 A9 => ?_
  refine newA A9 fun d3 h10 A10 => ?_
  refine makeA (a := nA) (k := 0) A10 rfl (new_inv (U := wU)) (by decide) fun h11 A11 => ?_
  refine writeA (a := nA) (k := 0) A11 rfl w1I (by decide) (by decide) (by decide) fun h12 A12 => ?_
  refine syncA (a := nA) (k := 0) (s := f2D) A12 rfl f2I (by decide) fun h13 A13 => ?_
  refine syncDirA (k := 0) (s := f3D) A13 rfl f3I fun h14 A14 => ?_
  refine writeA (a := nA) (k := 0) (s := f4D) A14 rfl f4I (by decide) (by decide) (by decide) fun h15 A15 => ?_
  refine copyA (k := 0) (s := f5D) A15 rfl f5I (by decide) fun d4 h16 A16 => ?_
  refine crash2 (k := 1) (s := f5D) A16 rfl f5I (by decide) (by decide) (by decide) (by decide) fun h17 A17 => ?_
  refine crash2 (k := 0) (s := f5D) A17 rfl f5I (by decide) (by decide) (by decide) (by decide) fun h18 A18 => ?_
  refine namesA (k := 2) (s := e2D) A18 rfl e2I (by decide) fun v1 h19 A19 => ?_
  rw [wk3] at A19
  refine (A19.own.vw 0 rfl).len ?_
  rw [pBin_eql]
  have A20 := A19.drop
  show ifV (.bool true) _ _
  rw [ifV_true]
  refine lawRead_ok (a := nA) (k := 1) (s := f6D) A20 rfl f6I (by decide) fun h21 A21 => ?_
  rw [wk4, pBin_eqlS, decide_eq_true rfl, ifV_true]
  refine lawRead_ok (a := nA) (k := 0) (s := g2D) A21 rfl g2I (by decide) fun h22 A22 => ?_
  rw [wk5, pBin_eqlS, decide_eq_true rfl]
  unfold sh_milestonelaw29_works_k2
  refine newA A22 fun d5 h23 A23 => ?_
  refine makeA (a := nA) (k := 0) A23 rfl (new_inv (U := wU)) (by decide) fun h24 A24 => ?_
  refine syncDirA (k := 0) (s := w1) A24 rfl w1I fun h25 A25 => ?_
  refine makeA (a := nB) (k := 0) (s := h2D) A25 rfl h2I (by decide) fun h26 A26 => ?_
  refine renameA (a := nB) (b := nA) (k := 0) (s := h3D) A26 rfl h3I (by decide) fun h27 A27 => ?_
  refine crash1 (k := 0) (s := h4D) A27 rfl h4I (by decide) (by decide) (by decide) fun h28 A28 => ?_
  refine newA A28 fun d6 h29 A29 => ?_
  refine armA (k := 0) A29 rfl fun h30 A30 => ?_
  refine makeA (a := nA) (k := 0) (s := i0D) A30 rfl i0I (by decide) fun h31 A31 => ?_
  rw [wk6, pBin_eql]
  show ifV (.bool true) _ _
  rw [ifV_true]
  refine makeA (a := nB) (k := 0) (s := i1D) A31 rfl i1I (by decide) fun h32 A32 => ?_
  rw [wk7, pBin_eql]
  show ifV (.bool true) _ _
  rw [ifV_true]
  refine namesA (k := 0) (s := i2D) A32 rfl i2I (by decide) fun v2 h33 A33 => ?_
  rw [wk8] at A33
  refine (A33.own.vw 0 rfl).len ?_
  rw [pBin_eql]
  have A34 := A33.drop
  show sh_milestonelaw29_works_k3 _ _ _ _ _ _ (.bool true) _
  unfold sh_milestonelaw29_works_k3
  refine crash1 (k := 0) (s := i2D) A34 rfl i2I (by decide) (by decide) (by decide) fun h35 A35 => ?_
  rw [ifV_true, ifV_true]
  refine namesA (k := 1) (s := h5D) A35 rfl h5I (by decide) fun v3 h36 A36 => ?_
  rw [wk9] at A36
  refine join_ok (A36.own.vw 0 rfl) (by decide) (by decide) fun h37 e37 => ?_
  have A37 := (A36.more e37).drop
  rw [wk11, pBin_eqlS, decide_eq_true rfl, ifV_true, ifV_true]
  refine namesA (k := 0) (s := i3D) A37 rfl i3I (by decide) fun v4 h38 A38 => ?_
  rw [wk10] at A38
  refine join_ok (A38.own.vw 0 rfl) (by decide) (by decide) fun h39 e39 => ?_
  rw [wk12, pBin_eqlS, decide_eq_true rfl]
  exact hK h39 ((A38.own.ext).trans e39 fun _ h _ => h)

end
end Go.Proofs.YtdbkeklhjjlhbaaGreat

namespace Go.Proofs.YtdbkeklhjjlhbaaGreat
open Go Go.Mh Go.ChangeShapes Go.WideShapes Go.ChangeAt Go.RowKit
set_option linter.unusedVariables false

section
variable {H : Type} {encD : TypeId × Value → H} {P : Program} {w : World} {e t : TypeId} {v : Value} {r : Reach} {base : Nat} {d : DataW H} {p : List MemPlace}

theorem dec_str {sp : Nat → Bool} {fuel : Nat} {cs : List Value} {x : DataW H × List MemPlace} (he : P.underlying e = some .string) (h : DataW.trod encD P w 0 sp true fuel e cs = some x) : ∃ s : ByteArray, cs = [.string s] ∧ s.size ≤ maxLen := by
  obtain ⟨s, e, _, hs⟩ := DataW.trod_string he h
  exact ⟨s, e, hs⟩

theorem str_of (ht : P.underlying t = some .string) (hd : DataW.Trod encD P w 0 (fun _ => true) true t v d p) (hv : v.cells.toList = [v]) : ∃ s : ByteArray, v = .string s ∧ s.size ≤ maxLen := by
  obtain ⟨fuel, hf⟩ := hd
  obtain ⟨s, e, hs⟩ := dec_str ht hf
  rw [hv] at e
  simp only [List.cons.injEq, and_true] at e
  exact ⟨s, e, hs⟩

theorem str_at (ht : P.underlying t = some .string) (hv : Value.okWide P w r base t v) (hd : DataW.Trod encD P w 0 (fun _ => true) true t v d p) : ∃ s : ByteArray, v = .string s ∧ s.size ≤ maxLen := by
  obtain ⟨s, rfl⟩ := okWide_string ht hv
  exact str_of ht hd rfl

/-- Bytes, given; an empty row may begin anywhere. -/
theorem dec_bytesE {fuel : Nat} {cs : List Value} {x : DataW H × List MemPlace} (ht : P.underlying t = some (.slice e)) (he : P.underlying e = some (.int .u8)) (hc : P.cellsOf e = 1) (h : DataW.trod encD P w 0 (fun _ => true) true fuel t cs = some x) :
    ∃ v f, cs = [v] ∧ VwE w.heap v f ∧ (∀ z ∈ f, 0 ≤ z ∧ z ≤ 255) ∧ f.length ≤ maxLen := by
  have key : ∀ v, cs = [v] → (∀ a l c, v = .slice (some a) l c → a.spot = none) → ∃ v f, cs = [v] ∧ VwE w.heap v f ∧ (∀ z ∈ f, 0 ≤ z ∧ z ≤ 255) ∧ f.length ≤ maxLen := by
    rintro v rfl hsp
    obtain ⟨bl, xs, hv, hr, hl⟩ := view_at (enc := encU8) (n := 1) (ok := fun a => 0 ≤ a ∧ a ≤ 255) (fun _ => rfl) ht hc (by decide) (dec_int (k := .u8) he) h hsp
    exact ⟨v, xs, rfl, .inl ⟨bl, hv⟩, hr, hl⟩
  rcases Go.Deep.open_slice ht h with ⟨rfl, _⟩ | ⟨a, len, cap, m, fuel', D, Pl, rfl, _, hle, hmx, hm, _, hx⟩
  · exact key _ rfl fun a l c e => by cases e
  · by_cases hs : a.spot = none
    · exact key _ rfl fun a' l c e => by cases e; exact hs
    · simp only [if_true] at hm
      subst hm
      by_cases hm0 : m = 0
      · subst hm0
        have hl0 : len = 0 := by omega
        subst hl0
        exact ⟨_, [], rfl, .inr ⟨rfl, a, rfl⟩, fun _ h => (by cases h), Nat.zero_le _⟩
      · obtain ⟨cs', h1, _⟩ := hx 0 (by omega)
        rw [hc] at h1
        exfalso
        unfold World.cells? at h1
        split at h1
        · have hc0 : w.cell? ((a.add (0 * 1)).add 0) = none := by
            obtain ⟨b, o, sp⟩ := a
            cases sp with
            | none => exact absurd rfl hs
            | some q =>
              rw [cell?_eq]
              unfold hcell
              simp only [Addr.add]
              split
              · rfl
              · rfl
          simp [List.range_succ, hc0] at h1
        · cases h1

def okAct (w : World) (x : AV) : Prop := ∃ f, AOk x f ∧ VwE w.heap x.fv f ∧ f.length ≤ maxLen

theorem dec_act {t0 t1 t2 t3 t4 t5 te : TypeId} (f0 : fieldOf P e 0 = some (t0, 0)) (f1 : fieldOf P e 1 = some (t1, 1)) (f2 : fieldOf P e 2 = some (t2, 2)) (f3 : fieldOf P e 3 = some (t3, 3)) (f4 : fieldOf P e 4 = some (t4, 4)) (f5 : fieldOf P e 5 = some (t5, 5)) (hc : P.cellsOf e = 6)
    (h0 : P.underlying t0 = some (.int .u8)) (h1 : P.underlying t1 = some (.int .u8)) (h2 : P.underlying t2 = some (.int .u8)) (h3 : P.underlying t3 = some (.int .u8)) (h4 : P.underlying t4 = some .string) (h5 : P.underlying t5 = some (.slice te)) (h6 : P.underlying te = some (.int .u8))
    (c0 : P.cellsOf t0 = 1) (c1 : P.cellsOf t1 = 1) (c2 : P.cellsOf t2 = 1) (c3 : P.cellsOf t3 = 1) (c4 : P.cellsOf t4 = 1) (c5 : P.cellsOf t5 = 1) (c6 : P.cellsOf te = 1) :
    ∀ fuel cs x, DataW.trod encD P w 0 (fun _ => true) true fuel e cs = some x → ∃ a : AV, cs = encAct a ∧ okAct w a := by
  intro fuel cs x h
  have hl := trod_len h (by rw [f0]; rfl)
  rw [hc] at hl
  obtain ⟨a, b, c, d, s, f, rfl⟩ := len6 hl
  obtain ⟨m0, y0, g0⟩ := trod_field h 0 (cs' := [a]) f0 c0 rfl
  obtain ⟨m1, y1, g1⟩ := trod_field h 1 (cs' := [b]) f1 c1 rfl
  obtain ⟨m2, y2, g2⟩ := trod_field h 2 (cs' := [c]) f2 c2 rfl
  obtain ⟨m3, y3, g3⟩ := trod_field h 3 (cs' := [d]) f3 c3 rfl
  obtain ⟨m4, y4, g4⟩ := trod_field h 4 (cs' := [s]) f4 c4 rfl
  obtain ⟨m5, y5, g5⟩ := trod_field h 5 (cs' := [f]) f5 c5 rfl
  obtain ⟨za, ea, ra⟩ := dec_int (k := .u8) h0 _ _ _ g0
  obtain ⟨zb, eb, rb⟩ := dec_int (k := .u8) h1 _ _ _ g1
  obtain ⟨zc, ec, rc⟩ := dec_int (k := .u8) h2 _ _ _ g2
  obtain ⟨zd, ed, rd⟩ := dec_int (k := .u8) h3 _ _ _ g3
  obtain ⟨zs, es, rs⟩ := dec_str h4 g4
  obtain ⟨fv, fs, ef, Hf, rf, lf⟩ := dec_bytesE h5 h6 c6 g5
  simp only [List.cons.injEq, and_true] at ea eb ec ed es ef
  subst ea eb ec ed es ef
  exact ⟨⟨za, zb, zc, zd, zs, f⟩, rfl, fs, ⟨ra, rb, rc, rd, rf, by unfold maxLen at rs; omega⟩, Hf, lf⟩

end
end Go.Proofs.YtdbkeklhjjlhbaaGreat

namespace Go.Proofs.YtdbkeklhjjlhbaaGreat
open Go Go.Mh
set_option linter.unusedVariables false

section
variable {h0 h : Heap} {L : List Res} {K : Value → Heap → Prop} {k d : Nat} {s : Dk} {U : List Nm} {N : Nat} {a b : Nm} {ds : List (Nat × Dk)}

abbrev Act := AV × List Int
def actD (s : Dk) (y : Act) : Dk := (mDo s y.1 y.2).2
def runA (s : Dk) (l : List Act) : Dk := l.foldl actD s
def kept : Nm := ⟨#[107, 101, 112, 116]⟩
def UU : List Nm := nmL ++ [kept]

theorem UU_len : UU.length ≤ 12 := by decide
theorem UU_size : ∀ a ∈ UU, a.size ≤ 1048576 := by decide
theorem name_UU (z : Int) : nameOf z ∈ UU := by
  refine List.mem_append_left _ ?_
  unfold nameOf
  have hlt : z.toNat % 6 < nmL.length := Nat.mod_lt _ (by decide)
  rw [List.getD_eq_getElem?_getD, List.getElem?_eq_getElem hlt]
  exact List.getElem_mem hlt

theorem do_inv {x : AV} {f : List Int} (hI : s.Inv UU N) (hx : AOk x f) : (mDo s x f).2.Inv UU (N + 1) := by
  have hcs : (cutS x.s).size ≤ 1048576 := by
    unfold cutS; rw [ByteArray.size_extract]; have := hx.s; omega
  have ht := hx.t
  unfold mDo
  split
  · exact make_inv hI (name_UU _)
  · exact write_inv hI hcs
  · exact sync_inv hI
  · exact rename_inv hI (name_UU _)
  · exact remove_inv hI
  · exact syncDir_inv hI
  · exact hI.mono (Nat.le_succ _)
  · exact arm_inv hI (by omega)
  · exact crash_inv hI

structure YOk (h : Heap) (y : Act) : Prop where
  ok : AOk y.1 y.2
  v : VwE h y.1.fv y.2

theorem run_inv : ∀ {l : List Act} {s : Dk} {N : Nat}, s.Inv UU N → (∀ y ∈ l, YOk h y) → (runA s l).Inv UU (N + l.length)
  | [], _, _, hI, _ => hI
  | y :: l, s, N, hI, hl => by
    have := run_inv (l := l) (do_inv hI (hl y List.mem_cons_self).ok) fun z hz => hl z (List.mem_cons_of_mem _ hz)
    rw [List.length_cons, show N + (l.length + 1) = N + 1 + l.length by omega]
    exact this

theorem FV.of {v : Value} {f : List Int} (H : VwE h v f) : FV h L v f := fun Rs h' o => H.moreE o.ext

theorem run_snoc {l : List Act} {y : Act} : runA s (l ++ [y]) = actD (runA s l) y := by simp [runA]

/-- Acts, with their fates. -/
theorem acts_of {w : World} : ∀ {xs : List AV}, (∀ a ∈ xs, okAct w a) → ∃ ys : List Act, ys.map (·.1) = xs ∧ ∀ y ∈ ys, YOk w.heap y
  | [], _ => ⟨[], rfl, fun _ h => by cases h⟩
  | x :: xs, h => by
    obtain ⟨f, h1, h2, h3⟩ := h x List.mem_cons_self
    obtain ⟨ys, e, hy⟩ := acts_of (xs := xs) fun a ha => h a (List.mem_cons_of_mem _ ha)
    refine ⟨(x, f) :: ys, by rw [List.map_cons, e], fun y hy' => ?_⟩
    rcases List.mem_cons.1 hy' with rfl | hy'
    · exact ⟨h1, h2⟩
    · exact hy y hy'

/-- One act of a row. -/
theorem act_ok {v : Value} {ys : List Act} {i : Nat} (A : Ats h h0 ds L) (hk : ds[k]? = some (d, s)) (hI : s.Inv UU N) (hN : N ≤ 1048576) (H : Vw encAct 6 h v (ys.map (·.1))) (hy : ∀ y ∈ ys, YOk h y) (hi : i < ys.length)
    (hK : ∀ h', Ats h h' (ds.set k (d, actD s ys[i])) L → K (.tuple #[.string (mDo s ys[i].1 ys[i].2).1.1, I (mDo s ys[i].1 ys[i].2).1.2]) h') :
    pIdx 6 v (.int .i64 i) fun t => pLoadN 6 h0 t fun x => callS Tryz.prog F_milestonelaw29_do [ptr d, x] h0 K := by
  have hm := hy _ (List.getElem_mem hi)
  refine (H.more A.own.ext).atN (fun _ => rfl) (by rw [List.length_map]; exact hi) ?_
  rw [List.getElem_map]
  exact do_ok A hk hI hN UU_len hm.ok (FV.of hm.v) hK

theorem take_len {ys : List Act} {i : Nat} : (ys.take i).length ≤ i := by rw [List.length_take]; omega

theorem diskCopies_ok {l0 m1 f2 : Value} {ys zs : List Act} {fs : List Int} (Hy : Vw encAct 6 h l0 (ys.map (·.1))) (hy : ∀ y ∈ ys, YOk h y) (Hz : Vw encAct 6 h m1 (zs.map (·.1))) (hz : ∀ y ∈ zs, YOk h y)
    (Hf : VwE h f2 fs) (hr : ∀ z ∈ fs, 0 ≤ z ∧ z ≤ 255) (hK : ∀ h', Ext h h' → K (.bool true) h') : CallsH Tryz.prog F_milestonelaw29_DiskCopies [l0, m1, f2].toArray h K := by
  refine lk_milestonelaw29_DiskCopies _ _ _ ?_
  unfold sh_milestonelaw29_DiskCopies
  refine works29_ok fun h1 e1 => ?_
  rw [notT, ifV_false]
  refine newA (Ats.none ((Own.start h).more e1)) fun d h2 A2 => ?_
  have rI : ∀ i, (runA .new (ys.take i)).Inv UU i := fun i => (run_inv (new_inv (U := UU)) fun y h => hy y (List.mem_of_mem_take h)).mono (by have := take_len (ys := ys) (i := i); omega)
  refine LoopH_count (min ys.length 20) (fun i x h' => x.1 = I i ∧ Ats h h' [(d, runA .new (ys.take i))] []) ⟨rfl, A2⟩ ?_
  rintro i ⟨x, ⟨⟩⟩ h3 Z hi ⟨hx, A3⟩ hZ
  dsimp only at hx hZ ⊢
  subst hx
  have k2 : min ys.length 20 ≤ i → sh_milestonelaw29_DiskCopies_k2 Tryz.prog f2 (ptr d) m1 K h3 := by
    intro hge
    have hi20 : i ≤ 20 := by omega
    have hI1 := rI i
    generalize runA .new (ys.take i) = s1 at A3 hI1
    unfold sh_milestonelaw29_DiskCopies_k2
    have Hf3 := Hf.moreE A3.own.ext
    refine Hf3.len ?_
    rw [pMin_int]
    have e20 : (if (20 : Int) < fs.length then (20 : Int) else fs.length) = ((min fs.length 20 : Nat) : Int) := by split <;> omega
    rw [e20]
    refine Hf3.cut20 fun f' hf' => ?_
    have hf0 : VwE h f' (fs.take 20) := hf' h Hf
    have hr' : ∀ z ∈ fs.take 20, 0 ≤ z ∧ z ≤ 255 := fun z hz => hr z (List.mem_of_mem_take hz)
    have hl' : (fs.take 20).length < 2 ^ 40 := by rw [List.length_take]; omega
    generalize fs.take 20 = gs at hf0 hr' hl'
    refine copyA (k := 0) A3 rfl hI1 (by omega) fun c h4 A4 => ?_
    refine copyA (k := 1) A4 rfl hI1 (by omega) fun e h5 A5 => ?_
    refine state_ok (k := 2) A5 rfl hI1 (by omega) UU_len UU_size fun h6 A6 => ?_
    have rI2 : ∀ j, (runA s1 (zs.take j)).Inv UU (i + j) := fun j => (run_inv hI1 fun y h => hz y (List.mem_of_mem_take h)).mono (by have := take_len (ys := zs) (i := j); omega)
    refine LoopH_count (min zs.length 20) (fun j x h' => x.1 = I j ∧ Ats h h' [(e, s1), (c, runA s1 (zs.take j)), (d, s1)] []) ⟨rfl, A6⟩ ?_
    rintro j ⟨x, ⟨⟩⟩ h7 Z1 hj ⟨hx, A7⟩ hZ1
    dsimp only at hx hZ1 ⊢
    subst hx
    have k4 : min zs.length 20 ≤ j → sh_milestonelaw29_DiskCopies_k4 Tryz.prog (ptr d) (.string (stS s1)) K (ptr e) m1 f' (ptr c) h7 := by
      intro hgej
      have hj20 : j = min zs.length 20 := by omega
      unfold sh_milestonelaw29_DiskCopies_k4
      refine state_ok (k := 2) A7 rfl hI1 (by omega) UU_len UU_size fun h8 A8 => ?_
      rw [pBin_neqS, decide_eq_true rfl, Bool.not_true, ifV_false]
      refine state_ok (k := 0) A8 rfl hI1 (by omega) UU_len UU_size fun h9 A9 => ?_
      rw [pBin_neqS, decide_eq_true rfl, Bool.not_true, ifV_false]
      refine onA (k := 2) A9 rfl (onA (k := 0) A9 rfl ?_)
      rw [pNe_bool, bne_self_eq_false, ifV_false]
      refine LoopH_count (min zs.length 20) (fun q x h' => x.1 = I q ∧ Ats h h' [(e, runA s1 (zs.take q)), (c, runA s1 (zs.take j)), (d, runA s1 (zs.take q))] []) ⟨rfl, A9⟩ ?_
      rintro q ⟨x, ⟨⟩⟩ h10 Z2 hq ⟨hx, A10⟩ hZ2
      dsimp only at hx hZ2 ⊢
      subst hx
      have k8 : min zs.length 20 ≤ q → sh_milestonelaw29_DiskCopies_k8 Tryz.prog (ptr d) f' (ptr e) (ptr c) K h10 := by
        intro hgeq
        have hqj : q = j := by omega
        subst hqj
        have hIq := rI2 q
        generalize runA s1 (zs.take q) = s2 at A10 hIq
        unfold sh_milestonelaw29_DiskCopies_k8
        have hIc := crash_inv (f := gs) hIq
        refine crashA (k := 2) A10 rfl hIq (by omega) UU_len (FV.of hf0) hr' hl' hf0.one fun h11 A11 => ?_
        refine crashA (k := 0) A11 rfl hIq (by omega) UU_len (FV.of hf0) hr' hl' hf0.one fun h12 A12 => ?_
        refine crashA (k := 1) A12 rfl hIq (by omega) UU_len (FV.of hf0) hr' hl' hf0.one fun h13 A13 => ?_
        refine state_ok (k := 2) A13 rfl hIc (by omega) UU_len UU_size fun h14 A14 => ?_
        refine state_ok (k := 0) A14 rfl hIc (by omega) UU_len UU_size fun h15 A15 => ?_
        rw [pBin_eqlS, decide_eq_true rfl, ifV_true]
        refine state_ok (k := 1) A15 rfl hIc (by omega) UU_len UU_size fun h16 A16 => ?_
        refine state_ok (k := 2) A16 rfl hIc (by omega) UU_len UU_size fun h17 A17 => ?_
        rw [pBin_eqlS, decide_eq_true rfl]
        exact hK h17 A17.own.ext
      unfold sh_milestonelaw29_DiskCopies_L6
      refine (Hz.more A10.own.ext).len ?_
      rw [pBin_lss, ifV_dec, List.length_map]
      refine ⟨fun hlt => ?_, fun hge => k8 (by omega)⟩
      rw [pBin_lss, ifV_dec]
      refine ⟨fun hlt2 => ?_, fun hge => k8 (by omega)⟩
      have hql : q < zs.length := by omega
      refine act_ok (k := 2) A10 rfl (rI2 q) (by omega) Hz hz hql fun h11 A11 => ?_
      rw [pExt0, pExt1]
      refine act_ok (k := 0) A11 rfl (rI2 q) (by omega) Hz hz hql fun h12 A12 => ?_
      rw [pExt0, pExt1, pBin_neqS, decide_eq_true rfl, Bool.not_true, ifV_false, pBin_neq, bne_self_eq_false, ifV_false, pBin_add, wI q (by omega)]
      refine hZ2 (_, ()) h12 (by omega) ⟨rfl, ?_⟩
      rw [List.take_succ_eq_append_getElem hql, run_snoc]
      exact A12
    unfold sh_milestonelaw29_DiskCopies_L3
    refine (Hz.more A7.own.ext).len ?_
    rw [pBin_lss, ifV_dec, List.length_map]
    refine ⟨fun hlt => ?_, fun hge => k4 (by omega)⟩
    rw [pBin_lss, ifV_dec]
    refine ⟨fun hlt2 => ?_, fun hge => k4 (by omega)⟩
    have hjl : j < zs.length := by omega
    refine act_ok (k := 1) A7 rfl (rI2 j) (by omega) Hz hz hjl fun h8 A8 => ?_
    rw [pBin_add, wI j (by omega)]
    refine hZ1 (_, ()) h8 (by omega) ⟨rfl, ?_⟩
    rw [List.take_succ_eq_append_getElem hjl, run_snoc]
    exact A8
  unfold sh_milestonelaw29_DiskCopies_L1
  refine (Hy.more A3.own.ext).len ?_
  rw [pBin_lss, ifV_dec, List.length_map]
  refine ⟨fun hlt => ?_, fun hge => k2 (by omega)⟩
  rw [pBin_lss, ifV_dec]
  refine ⟨fun hlt2 => ?_, fun hge => k2 (by omega)⟩
  have hil : i < ys.length := by omega
  refine act_ok (k := 0) A3 rfl (rI i) (by omega) Hy hy hil fun h8 A8 => ?_
  rw [pBin_add, wI i (by omega)]
  refine hZ (_, ()) h8 (by omega) ⟨rfl, ?_⟩
  rw [List.take_succ_eq_append_getElem hil, run_snoc]
  exact A8

end
end Go.Proofs.YtdbkeklhjjlhbaaGreat

/-! DiskTells. -/
namespace Go.Proofs.YtdbkeklhjjlhbaaGreat
open Go Go.Mh
set_option linter.unusedVariables false

section
variable {h0 h : Heap} {L : List Res} {K : Value → Heap → Prop} {k d : Nat} {s : Dk} {U : List Nm} {N : Nat} {a b : Nm} {ds : List (Nat × Dk)}

def gU : List Nm := nmL.filter okN
theorem gU_len : gU.length ≤ 12 := by decide +kernel
theorem gU_ok : ∀ a ∈ gU, okN a = true := fun a h => (List.mem_filter.1 h).2
theorem name_gU (z : Int) (h : okN (nameOf z) = true) : nameOf z ∈ gU := by
  refine List.mem_filter.2 ⟨?_, h⟩
  unfold nameOf
  have hlt : z.toNat % 6 < nmL.length := Nat.mod_lt _ (by decide)
  rw [List.getD_eq_getElem?_getD, List.getElem?_eq_getElem hlt]
  exact List.getElem_mem hlt

theorem do_inv' {x : AV} {f : List Int} (hI : s.Inv gU N) (hx : AOk x f) : (mDo s x f).2.Inv gU (N + 1) := by
  have hcs : (cutS x.s).size ≤ 1048576 := by
    unfold cutS; rw [ByteArray.size_extract]; have := hx.s; omega
  have ht := hx.t
  unfold mDo
  split
  · exact make_inv' hI (name_gU _)
  · exact write_inv hI hcs
  · exact sync_inv hI
  · exact rename_inv' hI (name_gU _)
  · exact remove_inv hI
  · exact syncDir_inv hI
  · exact hI.mono (Nat.le_succ _)
  · exact arm_inv hI (by omega)
  · exact crash_inv hI

theorem run_inv' : ∀ {l : List Act} {s : Dk} {N : Nat}, s.Inv gU N → (∀ y ∈ l, YOk h y) → (runA s l).Inv gU (N + l.length)
  | [], _, _, hI, _ => hI
  | y :: l, s, N, hI, hl => by
    have := run_inv' (l := l) (do_inv' hI (hl y List.mem_cons_self).ok) fun z hz => hl z (List.mem_cons_of_mem _ hz)
    rw [List.length_cons, show N + (l.length + 1) = N + 1 + l.length by omega]
    exact this

theorem diskTells_ok {l0 : Value} {ys : List Act} (Hy : Vw encAct 6 h l0 (ys.map (·.1))) (hy : ∀ y ∈ ys, YOk h y) (hK : ∀ h', Ext h h' → K (.bool true) h') : CallsH Tryz.prog F_milestonelaw29_DiskTells [l0].toArray h K := by
  refine lk_milestonelaw29_DiskTells _ ?_
  unfold sh_milestonelaw29_DiskTells
  refine newA (Ats.none (Own.start h)) fun d h1 A1 => ?_
  refine ⟨sizesOk_of rfl, ?_⟩
  refine newRA A1 fun r h2 A2 => ?_
  rw [pEq_ptr_nil, Option.isNone_some, ifV_false]
  refine works29_ok fun h3 e3 => ?_
  rw [notT, ifV_false]
  have A3 : AtR h h3 [(d, .new)] r .new [] := by
    obtain ⟨q, hq, A⟩ := A2
    exact ⟨q, hq, A.more e3⟩
  have rI : ∀ i, (runA .new (ys.take i)).Inv gU i := fun i => (run_inv' (h := h) (new_inv (U := gU)) fun y h => hy y (List.mem_of_mem_take h)).mono (by have := take_len (ys := ys) (i := i); omega)
  refine LoopH_count (min ys.length 40) (fun i x h' => x.1 = I i ∧ AtR h h' [(d, runA .new (ys.take i))] r (runA .new (ys.take i)) []) ⟨rfl, A3⟩ ?_
  rintro i ⟨x, ⟨⟩⟩ h4 Z hi ⟨hx, A4⟩ hZ
  dsimp only at hx hZ ⊢
  subst hx
  have k4 : sh_milestonelaw29_DiskTells_k4 Tryz.prog K h4 := hK h4 A4.own
  unfold sh_milestonelaw29_DiskTells_L2
  refine (Hy.more A4.own).len ?_
  rw [pBin_lss, ifV_dec, List.length_map]
  refine ⟨fun hlt => ?_, fun hge => k4⟩
  rw [pBin_lss, ifV_dec]
  refine ⟨fun hlt2 => ?_, fun hge => k4⟩
  have hil : i < ys.length := by omega
  have hI1 := rI i
  have hI2 := rI (i + 1)
  rw [List.take_succ_eq_append_getElem hil, run_snoc] at hI2
  have e1 : runA .new (ys.take (i + 1)) = actD (runA .new (ys.take i)) ys[i] := by rw [List.take_succ_eq_append_getElem hil, run_snoc]
  rw [e1] at hZ
  have hm := hy _ (List.getElem_mem hil)
  generalize runA .new (ys.take i) = s1 at A4 hI1 hI2 hZ e1
  obtain ⟨q, hq, A5⟩ := A4
  refine (Hy.more A5.own.ext).atN (fun _ => rfl) (by rw [List.length_map]; exact hil) ?_
  rw [List.getElem_map]
  refine do_ok (k := 0) A5 rfl hI1 (by omega) gU_len hm.ok (FV.of hm.v) fun h5 A6 => ?_
  rw [pExt0, pExt1]
  have A6 : AtR h h5 [(d, actD s1 ys[i])] r s1 [] := ⟨q, hq, A6⟩
  refine (Hy.more A6.own).atN (fun _ => rfl) (by rw [List.length_map]; exact hil) ?_
  rw [List.getElem_map]
  refine doR_ok A6 hI1 (by omega) hm.ok hm.v fun h6 A7 => ?_
  rw [pExt0, pExt1, pBin_neqS, decide_eq_true rfl, Bool.not_true, ifV_false, pBin_neq, bne_self_eq_false, ifV_false]
  refine alike_ok (s := actD s1 ys[i]) A7 hI2 (by omega) gU_len gU_ok fun h7 A8 => ?_
  rw [notT, ifV_false, pBin_add, wI i (by omega)]
  exact hZ (_, ()) h7 (by omega) ⟨rfl, A8⟩

end
end Go.Proofs.YtdbkeklhjjlhbaaGreat
