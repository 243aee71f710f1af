/- A text of the proofs of seat Ytdpofmalgemcdaa: 'HeapI'. It has no condition of its own. -/
import Derived.Test.YtdpofmalgemcdaaHeapH
set_option linter.unusedVariables false
set_option linter.unusedSimpArgs false
namespace Go.Proofs.Ytdpofmalgemcdaa
open Go Go.Mh

instance (l : List HE) (p : HE) : Decidable (Min l p) := by unfold Min; exact inferInstance

/-- The same, where only what is held counts, not how it lies. -/
def PV (h : Heap) (F : Nat → Prop) (r : Nat) (L : List HE) (n : Int) : Prop := ∃ l, HV h F r l n ∧ l.Perm L

def Disj (F G : Nat → Prop) : Prop := ∀ b, F b → ¬ G b

section
variable {h h' : Heap} {F G S : Nat → Prop} {r : Nat} {L : List HE} {n id key : Int} {K : Value → Heap → Prop} {p : HE}

theorem PV.upd (H : PV h F r L n) (hu : Upd S h h') (hd : Disj F S) : PV h' F r L n := by
  obtain ⟨l, H, hp⟩ := H; exact ⟨l, H.upd hu hd, hp⟩
theorem PV.low (H : PV h F r L n) : ∀ b, F b → b < h.size := by obtain ⟨l, H, hp⟩ := H; exact H.low
theorem PV.rng (H : PV h F r L n) : ∀ p ∈ L, 0 ≤ p.1 ∧ p.1 < n := by obtain ⟨l, H, hp⟩ := H; exact fun p h => H.rng p (hp.mem_iff.2 h)
theorem PV.nodup (H : PV h F r L n) : (L.map (·.1)).Nodup := by obtain ⟨l, H, hp⟩ := H; exact (hp.map _).nodup_iff.1 H.nodup

theorem Min.perm {l l' : List HE} (hp : l.Perm l') (h : Min l p) : Min l' p := ⟨hp.mem_iff.1 h.1, fun q hq => h.2 q (hp.mem_iff.2 hq)⟩

theorem PV.perm {L' : List HE} (H : PV h F r L n) (hp : L.Perm L') : PV h F r L' n := by
  obtain ⟨l, H, hp'⟩ := H; exact ⟨l, H, hp'.trans hp⟩

theorem plen (H : PV h F r L n) (hK : K (I L.length) h) : callS Try.prog 13 [ptr r] h K := by
  obtain ⟨l, H, hp⟩ := H; exact len_ok H (by rw [hp.length_eq]; exact hK)
theorem pleast (H : PV h F r L n) (h0 : L = [] → K (.tuple #[I 0, .bool false]) h) (h1 : ∀ p, Min L p → K (.tuple #[I p.2, .bool true]) h) : callS Try.prog 11 [ptr r] h K := by
  obtain ⟨l, H, hp⟩ := H
  exact least_ok H (fun e => h0 (by subst e; exact hp.nil_eq.symm)) fun p hm => h1 p (hm.perm hp)
theorem pkey (H : PV h F r L n) (h0 : (∀ p ∈ L, p.1 ≠ id) → K (.tuple #[I 0, .bool false]) h) (h1 : ∀ p ∈ L, p.1 = id → K (.tuple #[I p.2, .bool true]) h) : callS Try.prog 15 [ptr r, I id] h K := by
  obtain ⟨l, H, hp⟩ := H
  exact key_ok H (fun e => h0 fun p hm => e p (hp.mem_iff.2 hm)) fun p hm => h1 p (hp.mem_iff.1 hm)
theorem pnew (hK : ∀ h' F r, PV h' F r [] (max n 0) → (∀ b, F b → h.size ≤ b) → Ext h h' → K (ptr r) h') : callS Try.prog 9 [I n] h K :=
  new_ok fun h' F r H a b => hK h' F r ⟨[], H, .refl _⟩ a b
theorem ppush (H : PV h F r L n) (hsm : L.length + 1 < 2 ^ 40)
    (h2 : ((∃ p ∈ L, p.1 = id) ∨ id < 0 ∨ n ≤ id) → K (I 2) h)
    (h0 : (∀ p ∈ L, p.1 ≠ id) → 0 ≤ id → id < n → ∀ h' F', PV h' F' r ((id, key) :: L) n → Grow h F F' → Upd F h h' → K (I 0) h') :
    callS Try.prog 10 [ptr r, I id, I key] h K := by
  obtain ⟨l, H, hp⟩ := H
  refine push_ok H (by rw [hp.length_eq]; exact hsm) (fun e => h2 ?_) fun hno a b h' F' l' H' hp' hg hu => h0 (fun p hm => hno p (hp.mem_iff.2 hm)) a b h' F' ⟨l', H', hp'.trans (hp.cons _)⟩ hg hu
  rcases e with ⟨p, hm, e⟩ | e
  · exact .inl ⟨p, hp.mem_iff.1 hm, e⟩
  · exact .inr e
theorem ppush0 (H : PV h F r L n) (hsm : L.length + 1 < 2 ^ 40) (hno : ∀ p ∈ L, p.1 ≠ id) (h1 : 0 ≤ id) (h2 : id < n)
    (h0 : ∀ h' F', PV h' F' r ((id, key) :: L) n → Grow h F F' → Upd F h h' → K (I 0) h') : callS Try.prog 10 [ptr r, I id, I key] h K :=
  ppush H hsm (fun e => by
    rcases e with ⟨p, hm, e⟩ | e
    · exact (hno p hm e).elim
    · omega) fun _ _ _ => h0
theorem ppush2 (H : PV h F r L n) (hsm : L.length + 1 < 2 ^ 40) (hno : (∃ p ∈ L, p.1 = id) ∨ id < 0 ∨ n ≤ id) (h2 : K (I 2) h) : callS Try.prog 10 [ptr r, I id, I key] h K :=
  ppush H hsm (fun _ => h2) fun hn a b => by
    rcases hno with ⟨p, hm, e⟩ | e
    · exact (hn p hm e).elim
    · omega
theorem plower (H : PV h F r L n)
    (h2 : (id < 0 ∨ n ≤ id) → K (I 2) h) (h20 : 0 ≤ id → id < n → (∀ p ∈ L, p.1 ≠ id) → K (I 20) h) (h2' : ∀ p ∈ L, p.1 = id → p.2 < key → K (I 2) h)
    (h0 : ∀ p ∈ L, p.1 = id → ¬ p.2 < key → ∀ h' F', PV h' F' r ((id, key) :: L.erase p) n → Grow h F F' → Upd F h h' → K (I 0) h') :
    callS Try.prog 16 [ptr r, I id, I key] h K := by
  obtain ⟨l, H, hp⟩ := H
  exact lower_ok H h2 (fun a b e => h20 a b fun p hm => e p (hp.mem_iff.2 hm)) (fun p hm => h2' p (hp.mem_iff.1 hm)) fun p hm e hk h' F' l' H' hp' hg hu =>
    h0 p (hp.mem_iff.1 hm) e hk h' F' ⟨l', H', hp'.trans ((hp.erase p).cons _)⟩ hg hu
theorem id_uniq (hn : (L.map (·.1)).Nodup) {q : HE} (hp : p ∈ L) (hq : q ∈ L) (he : p.1 = q.1) : p = q := by
  obtain ⟨i, hi, rfl⟩ := List.mem_iff_getElem.1 hp
  obtain ⟨j, hj, rfl⟩ := List.mem_iff_getElem.1 hq
  have := ids_inj hn hi hj he
  subst this; rfl
theorem plower0 (H : PV h F r L n) (hp : p ∈ L) (he : p.1 = id) (hk : ¬ p.2 < key)
    (h0 : ∀ h' F', PV h' F' r ((id, key) :: L.erase p) n → Grow h F F' → Upd F h h' → K (I 0) h') : callS Try.prog 16 [ptr r, I id, I key] h K := by
  have hr := H.rng p hp
  refine plower H (fun e => by omega) (fun _ _ e => (e p hp he).elim) (fun q hq e hk' => ?_) fun q hq e hk' => ?_
  · have := id_uniq H.nodup hp hq (he.trans e.symm); subst this; exact (hk hk').elim
  · have := id_uniq H.nodup hp hq (he.trans e.symm); subst this; exact h0
theorem plower2 (H : PV h F r L n) (hp : (∃ p ∈ L, p.1 = id ∧ p.2 < key) ∨ id < 0 ∨ n ≤ id) (h2 : K (I 2) h) : callS Try.prog 16 [ptr r, I id, I key] h K := by
  refine plower H (fun _ => h2) (fun a b e => ?_) (fun _ _ _ _ => h2) fun q hq e hk' => ?_
  · rcases hp with ⟨p, hm, e', _⟩ | e'
    · exact (e p hm e').elim
    · omega
  · rcases hp with ⟨p, hm, e', hk⟩ | e'
    · have := id_uniq H.nodup hm hq (e'.trans e.symm); subst this; exact (hk' hk).elim
    · have := H.rng q hq; omega
theorem plower20 (H : PV h F r L n) (h1 : 0 ≤ id) (h2 : id < n) (hp : ∀ p ∈ L, p.1 ≠ id) (hK : K (I 20) h) : callS Try.prog 16 [ptr r, I id, I key] h K :=
  plower H (fun _ => by omega) (fun _ _ _ => hK) (fun q hq e => (hp q hq e).elim) fun q hq e => (hp q hq e).elim
theorem ppop (H : PV h F r L n) (h0 : L = [] → K (.tuple #[I 0, I 0, .bool false]) h)
    (h1 : ∀ p, Min L p → ∀ h' F', PV h' F' r (L.erase p) n → Grow h F F' → Upd F h h' → K (.tuple #[I p.1, I p.2, .bool true]) h') : callS Try.prog 12 [ptr r] h K := by
  obtain ⟨l, H, hp⟩ := H
  exact pop_ok H (fun e => h0 (by subst e; exact hp.nil_eq.symm)) fun p hm h' F' l' H' hp' hg hu => h1 p (hm.perm hp) h' F' ⟨l', H', hp'.trans (hp.erase p)⟩ hg hu
theorem ppop1 (H : PV h F r L n) (hm : Min L p) (h1 : ∀ h' F', PV h' F' r (L.erase p) n → Grow h F F' → Upd F h h' → K (.tuple #[I p.1, I p.2, .bool true]) h') : callS Try.prog 12 [ptr r] h K :=
  ppop H (fun e => by subst e; simp [Min] at hm) fun q hq => by
    have := hq.uniq hm (.refl _); subst this; exact h1

theorem pops1 (H : PV h F r L n) (hm : Min L p) (h1 : ∀ h' F', PV h' F' r (L.erase p) n → Grow h F F' → Upd F h h' → K (.bool true) h') : callS Try.prog 14 [ptr r, I p.1, I p.2, .bool true] h K := by
  refine callS_of (link14 _ _ _ _ ?_)
  unfold sh14
  refine ppop1 H hm fun h' F' H' hg hu => ?_
  simpa using h1 h' F' H' hg hu
theorem pops0 (H : PV h F r [] n) (h1 : K (.bool true) h) : callS Try.prog 14 [ptr r, I 0, I 0, .bool false] h K := by
  refine callS_of (link14 _ _ _ _ ?_)
  unfold sh14
  refine ppop H (fun _ => ?_) fun p hm => by simp [Min] at hm
  simpa using h1

/-- What a function owns of what it made. -/
structure Own (h0 h : Heap) (F : Nat → Prop) : Prop where
  ext : Ext h0 h
  new : ∀ b, F b → h0.size ≤ b
theorem Own.step {h0 : Heap} {F' : Nat → Prop} (o : Own h0 h F) (hu : Upd F h h') (hg : Grow h F F') : Own h0 h' F' :=
  ⟨o.ext.trans hu fun b hb hlt => by have := o.new b hb; omega, fun b hb => by
    have := o.ext.size
    rcases hg b hb with hb | hb
    · exact o.new b hb
    · omega⟩
theorem Own.other {h0 : Heap} (o : Own h0 h F) (o' : Own h0 h G) (hu : Upd F h h') : Own h0 h' G :=
  ⟨(o.step hu fun b hb => .inl hb).ext, o'.new⟩
theorem Disj.step {F' : Nat → Prop} (d : Disj F G) (hg : Grow h F F') (hl : ∀ b, G b → b < h.size) : Disj F' G := fun b hb hG => by
  rcases hg b hb with hb | hb
  · exact d b hb hG
  · have := hl b hG; omega
theorem Disj.symm (d : Disj F G) : Disj G F := fun b h1 h2 => d b h2 h1
end

theorem works_ok {h : Heap} {K : Value → Heap → Prop} (hK : ∀ h', Ext h h' → K (.bool true) h') : callS Try.prog 8 [] h K := by
  refine callS_of (link8 ?_)
  unfold sh8
  refine pnew fun h1 F1 a H1 n1 x1 => pnew fun h2 G2 b Hb n2 x2 => ?_
  have oF : Own h h2 F1 := ⟨x1.trans x2 fun _ h _ => h, n1⟩
  have oG : Own h h2 G2 := ⟨x1.trans x2 fun _ h _ => h, fun b hb => Nat.le_trans x1.size (n2 b hb)⟩
  have d : Disj F1 G2 := fun b hb hG => by have := H1.low b hb; have := n2 b hG; omega
  replace H1 := H1.upd x2 fun _ _ h => h
  clear x1 x2 n1 n2
  refine ppush0 H1 (by decide) (by decide) (by decide) (by decide) fun h3 F3 H3 g3 u3 => ?_
  replace oG := oF.other oG u3; replace oF := oF.step u3 g3; replace Hb' := Hb.upd u3 d.symm; replace d := d.step g3 Hb.low
  simp only [pBin_eql, beq_self_eq_true, ifV_true]
  refine ppush0 H3 (by decide) (by decide) (by decide) (by decide) fun h4 F4 H4 g4 u4 => ?_
  replace oG := oF.other oG u4; replace oF := oF.step u4 g4; replace Hb := Hb'.upd u4 d.symm; replace d := d.step g4 Hb'.low
  simp only [pBin_eql, beq_self_eq_true, ifV_true]
  refine ppush0 H4 (by decide) (by decide) (by decide) (by decide) fun h5 F5 H5 g5 u5 => ?_
  replace oG := oF.other oG u5; replace oF := oF.step u5 g5; replace Hb' := Hb.upd u5 d.symm; replace d := d.step g5 Hb.low
  simp only [pBin_eql, beq_self_eq_true, ifV_true]
  refine pops1 (p := (1, 7)) H5 (by decide) fun h6 F6 H6 g6 u6 => ?_
  replace oG := oF.other oG u6; replace oF := oF.step u6 g6; replace Hb := Hb'.upd u6 d.symm; replace d := d.step g6 Hb'.low
  unfold sh8_k1
  refine plower0 (p := (0, 9)) H6 (by decide) rfl (by decide) fun h7 F7 H7 g7 u7 => ?_
  replace oG := oF.other oG u7; replace oF := oF.step u7 g7; replace Hb' := Hb.upd u7 d.symm; replace d := d.step g7 Hb.low
  simp only [pBin_eql, beq_self_eq_true, ifV_true]
  refine pops1 (p := (0, 2)) H7 (by decide) fun h8 F8 H8 g8 u8 => ?_
  replace oG := oF.other oG u8; replace oF := oF.step u8 g8; replace Hb := Hb'.upd u8 d.symm; replace d := d.step g8 Hb'.low
  simp only [ifV_true]
  refine pops1 (p := (3, 7)) H8 (by decide) fun h9 F9 H9 g9 u9 => ?_
  replace oG := oF.other oG u9; replace oF := oF.step u9 g9; replace Hb' := Hb.upd u9 d.symm; replace d := d.step g9 Hb.low
  simp only [ifV_true]
  refine pops0 H9 ?_
  unfold sh8_k2
  simp only [ifV_true]
  refine ppush2 Hb' (by decide) (by decide) ?_
  simp only [pBin_eql, beq_self_eq_true, ifV_true]
  refine ppush0 Hb' (by decide) (by decide) (by decide) (by decide) fun h10 G3 H10 g10 u10 => ?_
  replace oG := oG.step u10 g10
  simp only [pBin_eql, beq_self_eq_true, ifV_true]
  refine ppush2 H10 (by decide) (by decide) ?_
  simp only [pBin_eql, beq_self_eq_true, ifV_true]
  refine plower2 H10 (by decide) ?_
  simp only [pBin_eql, beq_self_eq_true, ifV_true]
  refine plower20 H10 (by decide) (by decide) (by decide) ?_
  simp only [pBin_eql, beq_self_eq_true]
  exact hK _ oG.ext

end Go.Proofs.Ytdpofmalgemcdaa
