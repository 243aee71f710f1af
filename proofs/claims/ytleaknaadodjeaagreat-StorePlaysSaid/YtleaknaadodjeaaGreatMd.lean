/- Texts of the proofs of seat YtleaknaadodjeaaGreat, joined: Disk, Que, Disk2, Disk3, Store, OwnX, Build, ViewA, ViewB, ViewC, Rows, Flood, Dijk, Ev, ViewD. They have no conditions of their own. -/
import Derived.Test.YtleaknaadodjeaaGreatMc
import Derived.OpenShut
set_option linter.unusedVariables false
set_option linter.unusedSimpArgs false
set_option linter.unusedSectionVars false

/-! A disk that may lose what was not synced, as data. -/
namespace Go.Mh
open Go

/-! ### Orders -/

structure LtOk {α : Type} (lt : α → α → Bool) : Prop where
  irr : ∀ a, lt a a = false
  asy : ∀ a b, lt a b = true → lt b a = false
  neg : ∀ a b c, lt a c = true → lt a b = true ∨ lt b c = true
  tri : ∀ a b, lt a b = false → lt b a = false → a = b

theorem LtOk.trans {α : Type} {lt : α → α → Bool} (H : LtOk lt) {a b c : α} (h1 : lt a b = true) (h2 : lt b c = true) : lt a c = true := by
  rcases H.neg a c b h1 with h | h
  · exact h
  · rw [H.asy b c h2] at h; cases h

theorem bl_asy : ∀ a b : List UInt8, Op.bytesLess a b = true → Op.bytesLess b a = false
  | [], [] => fun h => by simp [Op.bytesLess] at h
  | [], _ :: _ => fun _ => rfl
  | _ :: _, [] => fun h => by simp [Op.bytesLess] at h
  | a :: x, b :: y => fun h => by
    simp only [Op.bytesLess, Bool.or_eq_true, decide_eq_true_eq, Bool.and_eq_true, beq_iff_eq] at h
    rw [Bool.eq_false_iff]
    intro h'
    simp only [Op.bytesLess, Bool.or_eq_true, decide_eq_true_eq, Bool.and_eq_true, beq_iff_eq] at h'
    rcases h with h | ⟨rfl, h⟩ <;> rcases h' with h' | ⟨e, h'⟩
    · exact absurd (UInt8.lt_trans h h') (UInt8.lt_irrefl _)
    · subst e; exact absurd h (UInt8.lt_irrefl _)
    · exact absurd h' (UInt8.lt_irrefl _)
    · rw [bl_asy x y h] at h'; cases h'

theorem bl_tri : ∀ a b : List UInt8, Op.bytesLess a b = false → Op.bytesLess b a = false → a = b
  | [], [] => fun _ _ => rfl
  | [], _ :: _ => fun h _ => by simp [Op.bytesLess] at h
  | _ :: _, [] => fun _ h => by simp [Op.bytesLess] at h
  | a :: x, b :: y => fun h h' => by
    simp only [Op.bytesLess, Bool.or_eq_false_iff, decide_eq_false_iff_not, Bool.and_eq_false_iff, beq_eq_false_iff_ne] at h h'
    have e : a = b := by
      rcases UInt8.lt_or_lt_of_ne (a := a) (b := b) with f
      refine Classical.byContradiction fun hn => ?_
      rcases f hn with f | f
      · exact h.1 f
      · exact h'.1 f
    subst e
    have h1 := h.2.resolve_left (fun f => f rfl)
    have h2 := h'.2.resolve_left (fun f => f rfl)
    rw [bl_tri x y h1 h2]

theorem bl_neg : ∀ a b c : List UInt8, Op.bytesLess a c = true → Op.bytesLess a b = true ∨ Op.bytesLess b c = true
  | a, b, [] => fun h => by cases a <;> simp [Op.bytesLess] at h
  | a, [], c :: z => fun _ => .inr rfl
  | [], b :: y, c :: z => fun _ => .inl rfl
  | a :: x, b :: y, c :: z => fun h => by
    simp only [Op.bytesLess, Bool.or_eq_true, decide_eq_true_eq, Bool.and_eq_true, beq_iff_eq] at h ⊢
    by_cases hab : a < b
    · exact .inl (.inl hab)
    · by_cases hbc : b < c
      · exact .inr (.inl hbc)
      · rcases h with h | ⟨rfl, h⟩
        · exact absurd (UInt8.lt_of_lt_of_le h (UInt8.not_lt.1 hbc)) hab
        · have e : a = b := UInt8.le_antisymm (UInt8.not_lt.1 hbc) (UInt8.not_lt.1 hab)
          subst e
          rcases bl_neg x y z h with h | h
          · exact .inl (.inr ⟨rfl, h⟩)
          · exact .inr (.inr ⟨rfl, h⟩)

theorem ltS_ok : LtOk ltS where
  irr a := by
    cases h : ltS a a with
    | false => rfl
    | true => have := bl_asy _ _ h; rw [← this]; exact h.symm
  asy a b h := bl_asy _ _ h
  neg a b c h := bl_neg _ _ _ h
  tri a b h h' := by
    have := bl_tri _ _ h h'
    cases a; cases b; simp at this; simpa using this

def ltI (a b : Int) : Bool := decide (a < b)
theorem ltI_ok : LtOk ltI where
  irr a := by simp [ltI]
  asy a b h := by simp [ltI] at *; omega
  neg a b c h := by simp [ltI] at *; omega
  tri a b h h' := by simp [ltI] at *; omega

section
variable {α : Type} {lt : α → α → Bool}

/-- Nothing stands behind what it is less than. -/
def Srt (lt : α → α → Bool) (l : List α) : Prop := l.Pairwise fun a b => lt b a = false
def SSrt (lt : α → α → Bool) (l : List α) : Prop := l.Pairwise fun a b => lt a b = true

theorem SSrt.ext (H : LtOk lt) : ∀ {l m : List α}, SSrt lt l → SSrt lt m → (∀ x, x ∈ l ↔ x ∈ m) → l = m
  | [], [], _, _, _ => rfl
  | [], b :: m, _, _, h => by have := (h b).2 List.mem_cons_self; cases this
  | a :: l, [], _, _, h => by have := (h a).1 List.mem_cons_self; cases this
  | a :: l, b :: m, hl, hm, h => by
    have hl' := List.pairwise_cons.1 hl
    have hm' := List.pairwise_cons.1 hm
    have e : a = b := by
      refine Classical.byContradiction fun hn => ?_
      have h1 : a ∈ m := by
        rcases List.mem_cons.1 ((h a).1 List.mem_cons_self) with e | e
        · exact absurd e hn
        · exact e
      have h2 : b ∈ l := by
        rcases List.mem_cons.1 ((h b).2 List.mem_cons_self) with e | e
        · exact absurd e.symm hn
        · exact e
      have := H.asy _ _ (hl'.1 b h2)
      rw [hm'.1 a h1] at this; cases this
    subst e
    rw [SSrt.ext H hl'.2 hm'.2 fun x => ?_]
    constructor
    · intro hx
      rcases List.mem_cons.1 ((h x).1 (List.mem_cons_of_mem _ hx)) with e | e
      · subst e; have := hl'.1 x hx; rw [H.irr] at this; cases this
      · exact e
    · intro hx
      rcases List.mem_cons.1 ((h x).2 (List.mem_cons_of_mem _ hx)) with e | e
      · subst e; have := hm'.1 x hx; rw [H.irr] at this; cases this
      · exact e

theorem Srt.strict (H : LtOk lt) : ∀ {l : List α}, Srt lt l → l.Nodup → SSrt lt l
  | [], _, _ => .nil
  | a :: l, h, hn => by
    have h' := List.pairwise_cons.1 h
    have hn' := List.nodup_cons.1 hn
    refine List.pairwise_cons.2 ⟨fun b hb => ?_, Srt.strict H (l := l) h'.2 hn'.2⟩
    cases c : lt a b with
    | true => rfl
    | false => exact absurd (H.tri _ _ c (h'.1 b hb) ▸ hb) hn'.1

/-- An element brought into a sorted row; once only. -/
def insO (lt : α → α → Bool) (x : α) : List α → List α
  | [] => [x]
  | y :: r => if lt x y then x :: y :: r else if lt y x then y :: insO lt x r else y :: r

theorem insO_mem (H : LtOk lt) {x z : α} : ∀ {l : List α}, z ∈ insO lt x l ↔ z = x ∨ z ∈ l
  | [] => by simp [insO]
  | y :: r => by
    unfold insO
    split
    · simp
    · split
      · rw [List.mem_cons, insO_mem H, List.mem_cons]
        constructor
        · rintro (h | h | h)
          · exact .inr (.inl h)
          · exact .inl h
          · exact .inr (.inr h)
        · rintro (h | h | h)
          · exact .inr (.inl h)
          · exact .inl h
          · exact .inr (.inr h)
      · rename_i h1 h2
        have e := H.tri x y (by simpa using h1) (by simpa using h2)
        subst e
        simp

theorem insO_srt (H : LtOk lt) {x : α} : ∀ {l : List α}, SSrt lt l → SSrt lt (insO lt x l)
  | [], _ => List.pairwise_singleton ..
  | y :: r, h => by
    have h' := List.pairwise_cons.1 h
    unfold insO
    split
    · rename_i h1
      refine List.pairwise_cons.2 ⟨fun b hb => ?_, h⟩
      rcases List.mem_cons.1 hb with rfl | hb
      · exact h1
      · exact H.trans h1 (h'.1 b hb)
    · split
      · rename_i h1 h2
        refine List.pairwise_cons.2 ⟨fun b hb => ?_, insO_srt H h'.2⟩
        rcases (insO_mem H).1 hb with rfl | hb
        · exact h2
        · exact h'.1 b hb
      · exact h

def sortO (lt : α → α → Bool) (l : List α) : List α := l.foldr (insO lt) []

theorem sortO_srt (H : LtOk lt) : ∀ (l : List α), SSrt lt (sortO lt l)
  | [] => .nil
  | x :: l => insO_srt H (sortO_srt H l)
theorem sortO_mem (H : LtOk lt) {z : α} : ∀ {l : List α}, z ∈ sortO lt l ↔ z ∈ l
  | [] => Iff.rfl
  | x :: l => by
    show z ∈ insO lt x (sortO lt l) ↔ _
    rw [insO_mem H, sortO_mem H, List.mem_cons]

end

/-! ### Directories -/

abbrev Nm := ByteArray

inductive Ch where
  | mk (a : Nm) (n : Nat)
  | ren (a b : Nm)
  | rem (a : Nm)
deriving DecidableEq

abbrev Dir := List (Nm × Nat)

def dlook : Dir → Nm → Option Nat
  | [], _ => none
  | x :: r, a => if x.1 = a then some x.2 else dlook r a
def ddel (D : Dir) (a : Nm) : Dir := D.filter fun x => !decide (x.1 = a)
def dset (D : Dir) (a : Nm) (n : Nat) : Dir := (a, n) :: ddel D a

theorem dlook_del {D : Dir} {a x : Nm} : dlook (ddel D a) x = if x = a then none else dlook D x := by
  induction D with
  | nil => simp [ddel, dlook]
  | cons y D ih =>
    unfold ddel at ih ⊢
    rw [List.filter_cons]
    by_cases h : y.1 = a
    · rw [decide_eq_true h]
      simp only [Bool.not_true, Bool.false_eq_true, if_false]
      rw [ih, dlook]
      by_cases hx : x = a
      · rw [if_pos hx, if_pos hx]
      · rw [if_neg hx, if_neg hx, if_neg (fun e => hx (e.symm.trans h))]
    · rw [decide_eq_false h]
      simp only [Bool.not_false, if_true, dlook]
      rw [ih]
      by_cases hx : x = a
      · rw [if_pos hx, if_pos hx, if_neg (fun e => h (e.trans hx))]
      · rw [if_neg hx, if_neg hx]

theorem dlook_set {D : Dir} {a x : Nm} {n : Nat} : dlook (dset D a n) x = if x = a then some n else dlook D x := by
  unfold dset
  rw [dlook, dlook_del]
  by_cases h : x = a
  · subst h; simp
  · rw [if_neg h, if_neg (fun e => h e.symm), if_neg h]

def app (D : Dir) : Ch → Dir
  | .mk a n => dset D a n
  | .ren a b => dset (ddel D a) b ((dlook D a).getD 0)
  | .rem a => ddel D a

def dirOf (l : List Ch) : Dir := l.foldl app []

theorem dirOf_snoc {l : List Ch} {c : Ch} : dirOf (l ++ [c]) = app (dirOf l) c := by simp [dirOf]

def keysOf (D : Dir) : List Nm := D.map (·.1)

theorem keys_del {D : Dir} {a : Nm} (h : (keysOf D).Nodup) : (keysOf (ddel D a)).Nodup := by
  unfold keysOf ddel
  exact h.sublist (List.filter_sublist.map _)
theorem keys_del_mem {D : Dir} {a x : Nm} : x ∈ keysOf (ddel D a) ↔ x ∈ keysOf D ∧ x ≠ a := by
  unfold keysOf ddel
  simp only [List.mem_map, List.mem_filter, Bool.not_eq_true', decide_eq_false_iff_not]
  constructor
  · rintro ⟨y, ⟨h1, h2⟩, rfl⟩; exact ⟨⟨y, h1, rfl⟩, h2⟩
  · rintro ⟨⟨y, h1, rfl⟩, h2⟩; exact ⟨y, ⟨h1, h2⟩, rfl⟩
theorem keys_set {D : Dir} {a : Nm} {n : Nat} (h : (keysOf D).Nodup) : (keysOf (dset D a n)).Nodup := by
  refine List.nodup_cons.2 ⟨fun hm => ?_, keys_del h⟩
  exact (keys_del_mem.1 hm).2 rfl
theorem keys_app {D : Dir} {c : Ch} (h : (keysOf D).Nodup) : (keysOf (app D c)).Nodup := by
  cases c with
  | mk a n => exact keys_set h
  | ren a b => exact keys_set (keys_del h)
  | rem a => exact keys_del h

theorem keys_dirOf (l : List Ch) : (keysOf (dirOf l)).Nodup := by
  have : ∀ (l : List Ch) (D : Dir), (keysOf D).Nodup → (keysOf (l.foldl app D)).Nodup := by
    intro l
    induction l with
    | nil => intro D h; exact h
    | cons c l ih => intro D h; exact ih _ (keys_app h)
  exact this l [] .nil

theorem dlook_mem {D : Dir} (h : (keysOf D).Nodup) {a : Nm} {n : Nat} : dlook D a = some n ↔ (a, n) ∈ D := by
  induction D with
  | nil => simp [dlook]
  | cons y D ih =>
    obtain ⟨b, m⟩ := y
    have h' := List.nodup_cons.1 h
    rw [dlook, List.mem_cons]
    by_cases e : b = a
    · subst e
      rw [if_pos rfl]
      constructor
      · intro e; cases e; exact .inl rfl
      · rintro (e | e)
        · cases e; rfl
        · exact absurd (List.mem_map.2 ⟨_, e, rfl⟩) h'.1
    · rw [if_neg e, ih h'.2]
      constructor
      · exact .inr
      · rintro (e' | e')
        · cases e'; exact absurd rfl e
        · exact e'

theorem dlook_key {D : Dir} {a : Nm} : (dlook D a).isSome = true ↔ a ∈ keysOf D := by
  induction D with
  | nil => simp [dlook, keysOf]
  | cons y D ih =>
    rw [dlook]
    by_cases e : y.1 = a
    · rw [if_pos e]; simp [keysOf, e]
    · rw [if_neg e, ih]
      simp only [keysOf, List.map_cons, List.mem_cons]
      exact ⟨.inr, fun h => h.resolve_left fun e' => e e'.symm⟩

/-! ### Things -/

structure Wr where
  off : Nat
  s : ByteArray
structure Th where
  syn : List Wr
  pen : List Wr
instance : Inhabited Th := ⟨⟨[], []⟩⟩

def putW (b : List UInt8) (w : Wr) : List UInt8 := putL (b ++ List.replicate (w.off + w.s.size - b.length) 0) w.off w.s.data.toList
def bytesOf (l : List Wr) : List UInt8 := l.foldl putW []
def Th.all (t : Th) : List Wr := t.syn ++ t.pen

theorem putW_len (b : List UInt8) (w : Wr) : (putW b w).length = max b.length (w.off + w.s.size) := by
  have : w.s.data.toList.length = w.s.size := Array.length_toList
  unfold putW putL
  simp only [List.length_append, List.length_take, List.length_replicate, List.length_drop, this]
  omega

/-! ### The disk -/

structure Dk where
  cs : List Ch
  cp : List Ch
  th : List Th
  armed : Nat
  off : Bool
instance : Inhabited Dk := ⟨⟨[], [], [], 0, false⟩⟩

def Dk.new : Dk := ⟨[], [], [], 0, false⟩
def Dk.now (s : Dk) : Dir := dirOf (s.cs ++ s.cp)
def Dk.getT (s : Dk) (n : Nat) : Th := s.th.getD n default

def okN (a : Nm) : Bool := decide (1 ≤ a.size ∧ a.size ≤ 16)
def namesE (l : List Nm) : Int := if l.all okN then 0 else 2
def refE (s : Dk) (e : Int) (l : List Nm) : Int := if s.off then 22 else if e ≠ 0 then e else if l.all (fun a => (dlook s.now a).isSome) then 0 else 21

def stepD (s : Dk) (e : Int) (f : Dk → Dk) : Int × Dk :=
  if e ≠ 0 then (e, s) else if s.armed = 1 then (22, { s with armed := 0, off := true }) else (0, f { s with armed := s.armed - 1 })

def chD (c : Ch) (s : Dk) : Dk := { s with cp := s.cp ++ [c] }
def upT (f : Th → Th) (a : Nm) (s : Dk) : Dk := match dlook s.now a with
  | some n => { s with th := s.th.modify n f }
  | none => s
def mkD (a : Nm) (s : Dk) : Dk := { s with cp := s.cp ++ [.mk a s.th.length], th := s.th ++ [⟨[], []⟩] }

def mMake (s : Dk) (a : Nm) : Int × Dk := stepD s (refE s (namesE [a]) []) (mkD a)
def wrE (a : Nm) (z : Int) (w : ByteArray) : Int := if namesE [a] = 0 ∧ (z < 0 ∨ z > 1048576 - w.size) then 2 else namesE [a]
def mWrite (s : Dk) (a : Nm) (z : Int) (w : ByteArray) : Int × Dk := stepD s (refE s (wrE a z w) [a]) (upT (fun t => { t with pen := t.pen ++ [⟨z.toNat, w⟩] }) a)
def mSync (s : Dk) (a : Nm) : Int × Dk := stepD s (refE s (namesE [a]) [a]) (upT (fun t => ⟨t.all, []⟩) a)
def mRename (s : Dk) (a b : Nm) : Int × Dk := stepD s (refE s (namesE [a, b]) [a]) (chD (.ren a b))
def mRemove (s : Dk) (a : Nm) : Int × Dk := stepD s (refE s (namesE [a]) [a]) (chD (.rem a))
def mSyncDir (s : Dk) : Int × Dk := stepD s (refE s 0 []) fun s => { s with cs := s.cs ++ s.cp, cp := [] }
def mRead (s : Dk) (a : Nm) : ByteArray × Int :=
  if refE s (namesE [a]) [a] ≠ 0 then (bstr [], refE s (namesE [a]) [a]) else (bstr (bytesOf (s.getT ((dlook s.now a).getD 0)).all), 0)
def mNames (s : Dk) : List Nm := if s.off then [] else sortO ltS (keysOf s.now)
/-- The things to which names point. -/
def namedL (D : Dir) (n : Nat) : List Nat := (List.range n).filter fun i => D.any fun x => decide (x.2 = i)
def mPending (s : Dk) : Nat × Nat := (s.cp.length, ((namedL s.now s.th.length).map fun n => (s.getT n).pen.length).sum)
def mArm (s : Dk) (z : Int) : Dk := { s with armed := z.toNat }

def fateOf : List Int → Nat
  | [] => 0
  | f :: _ => f.toNat
/-- Which of a thing's writes stay. -/
def crW : List Wr → List Int → List Wr × List Int
  | [], f => ([], f)
  | w :: r, f => if fateOf f % 2 = 1 then (w :: (crW r f.tail).1, (crW r f.tail).2) else crW r f.tail
def crT (x : List Th × List Int) (n : Nat) : List Th × List Int :=
  (x.1.modify n fun t => ⟨t.syn ++ (crW t.pen x.2).1, []⟩, (crW (x.1.getD n default).pen x.2).2)
def mCrash (s : Dk) (f : List Int) : Dk :=
  let cs := s.cs ++ s.cp.take (fateOf f % (s.cp.length + 1))
  { cs := cs, cp := [], th := ((namedL (dirOf cs) s.th.length).foldl crT (s.th, f.tail)).1, armed := 0, off := false }

/-! ### What is always so -/

def Ch.within (U : List Nm) : Ch → Prop
  | .mk a _ => a ∈ U
  | .ren _ b => b ∈ U
  | .rem _ => True

def Ch.there (D : Dir) : Ch → Prop
  | .mk _ _ => True
  | .ren a _ => (dlook D a).isSome = true
  | .rem a => (dlook D a).isSome = true

/-- Each change was one that might be done. -/
def OkL : Dir → List Ch → Prop
  | _, [] => True
  | D, c :: r => c.there D ∧ OkL (app D c) r

theorem OkL.snoc : ∀ {l : List Ch} {D : Dir} {c : Ch}, OkL D l → c.there (l.foldl app D) → OkL D (l ++ [c])
  | [], _, _, _, h => ⟨h, trivial⟩
  | _ :: _, _, _, h, hc => ⟨h.1, OkL.snoc h.2 hc⟩
theorem OkL.left : ∀ {l m : List Ch} {D : Dir}, OkL D (l ++ m) → OkL D l
  | [], _, _, _ => trivial
  | _ :: _, _, _, h => ⟨h.1, OkL.left h.2⟩

def mkNo : Ch → Option Nat
  | .mk _ n => some n
  | _ => none

structure Dk.Inv (U : List Nm) (N : Nat) (s : Dk) : Prop where
  nm : ∀ c ∈ s.cs ++ s.cp, c.within U
  num : ∀ a n, Ch.mk a n ∈ s.cs ++ s.cp → n < s.th.length
  ok : OkL [] (s.cs ++ s.cp)
  inj : ((s.cs ++ s.cp).filterMap mkNo).Nodup
  ar : s.armed < 2 ^ 63
  lc : (s.cs ++ s.cp).length ≤ N
  lt : s.th.length ≤ N
  lw : ∀ t ∈ s.th, t.all.length ≤ N
  wr : ∀ t ∈ s.th, ∀ w ∈ t.all, w.off + w.s.size ≤ 1048576

/-- What a directory knows comes from what was made. -/
theorem dir_val : ∀ (l : List Ch) (D : Dir) (x : Nm × Nat), x ∈ l.foldl app D → OkL D l → x.2 ∈ D.map (·.2) ∨ ∃ a, Ch.mk a x.2 ∈ l := by
  intro l
  induction l with
  | nil => intro D x h _; exact .inl (List.mem_map.2 ⟨x, h, rfl⟩)
  | cons c l ih =>
    intro D x h ho
    rcases ih _ _ h ho.2 with h' | ⟨a, h'⟩
    · have del : ∀ {D : Dir} {a : Nm} {n : Nat}, n ∈ (ddel D a).map (·.2) → n ∈ D.map (·.2) := fun h => by
        obtain ⟨y, hy, rfl⟩ := List.mem_map.1 h
        exact List.mem_map.2 ⟨y, (List.mem_filter.1 hy).1, rfl⟩
      cases c with
      | mk a n =>
        rcases List.mem_cons.1 (show x.2 ∈ n :: (ddel D a).map (·.2) from h') with e | e
        · exact .inr ⟨a, by rw [e]; exact List.mem_cons_self⟩
        · exact .inl (del e)
      | ren a b =>
        rcases List.mem_cons.1 (show x.2 ∈ ((dlook D a).getD 0) :: (ddel (ddel D a) b).map (·.2) from h') with e | e
        · left
          have ht : (dlook D a).isSome = true := ho.1
          obtain ⟨n, hn⟩ := Option.isSome_iff_exists.1 ht
          rw [hn] at e
          rw [e]
          have lm : ∀ (D : Dir), dlook D a = some n → n ∈ D.map (·.2) := by
            intro D
            induction D with
            | nil => intro h; cases h
            | cons y D ih =>
              intro h
              rw [dlook] at h
              split at h
              · cases h; exact List.mem_cons_self
              · exact List.mem_cons_of_mem _ (ih h)
          exact lm D hn
        · exact .inl (del (del e))
      | rem a => exact .inl (del h')
    · exact .inr ⟨a, List.mem_cons_of_mem _ h'⟩

theorem dir_nm {U : List Nm} : ∀ (l : List Ch) (D : Dir), (∀ a ∈ keysOf D, a ∈ U) → (∀ c ∈ l, c.within U) → ∀ a ∈ keysOf (l.foldl app D), a ∈ U := by
  intro l
  induction l with
  | nil => intro D h _; exact h
  | cons c l ih =>
    intro D h hc
    refine ih _ (fun a ha => ?_) fun c hc' => hc c (List.mem_cons_of_mem _ hc')
    have hw := hc c List.mem_cons_self
    cases c with
    | mk b n =>
      rcases List.mem_cons.1 (show a ∈ b :: keysOf (ddel D b) from ha) with rfl | ha
      · exact hw
      · exact h a (keys_del_mem.1 ha).1
    | ren b e =>
      rcases List.mem_cons.1 (show a ∈ e :: keysOf (ddel (ddel D b) e) from ha) with rfl | ha
      · exact hw
      · exact h a (keys_del_mem.1 (keys_del_mem.1 ha).1).1
    | rem b => exact h a (keys_del_mem.1 ha).1

theorem len_of_sub {α : Type} [DecidableEq α] : ∀ {l m : List α}, l.Nodup → (∀ x ∈ l, x ∈ m) → l.length ≤ m.length
  | [], _, _, _ => Nat.zero_le _
  | a :: l, m, hn, h => by
    have hn' := List.nodup_cons.1 hn
    have ha := h a List.mem_cons_self
    have := len_of_sub (l := l) (m := m.erase a) hn'.2 fun x hx => by
      have : x ≠ a := fun e => hn'.1 (e ▸ hx)
      exact (List.mem_erase_of_ne this).2 (h x (List.mem_cons_of_mem _ hx))
    rw [List.length_erase_of_mem ha] at this
    have := List.length_pos_of_mem ha
    simp only [List.length_cons]; omega

theorem Dk.Inv.few {U : List Nm} {N : Nat} {s : Dk} (H : s.Inv U N) {l : List Ch} (hl : ∀ c ∈ l, c ∈ s.cs ++ s.cp) : (dirOf l).length ≤ U.length := by
  have := len_of_sub (keys_dirOf l) (dir_nm (U := U) l [] (fun a h => by cases h) fun c hc => H.nm c (hl c hc))
  simpa [keysOf] using this

end Go.Mh

/-! Queues: slices of which the front is cut off, and to which is appended. -/
namespace Go.Mh
open Go

section
variable {α : Type} {enc : α → List Value} {n : Nat} {T : TypeId} {h0 h h' : Heap} {v w : Value} {ys xs : List α} {K : Value → Prop} {KH : Value → Heap → Prop} {k : IntKind} {i : Nat} {L : List Res}

theorem pSlice_both {x : Value} {lo hi mx : Option Value} {K1 K2 : Value → Prop} (h1 : pSlice n x lo hi mx K1) (h2 : pSlice n x lo hi mx K2) : pSlice n x lo hi mx fun v => K1 v ∧ K2 v := by
  unfold pSlice at *
  split at h1
  · split at h1
    · rename_i e1 e2 e3
      simp only [e1, e2, e3] at h2 ⊢
      exact ⟨h1.1, h1.2.1, h1.2.2.1, h1.2.2.2.1, h1.2.2.2.2.1, h1.2.2.2.2.2, h2.2.2.2.2.2⟩
    · exact h1.elim
  · exact h1.elim

theorem pSlice_mono {x : Value} {lo hi mx : Option Value} {K1 K2 : Value → Prop} (h1 : pSlice n x lo hi mx K1) (h2 : ∀ v, K1 v → K2 v) : pSlice n x lo hi mx K2 := by
  unfold pSlice at *
  split at h1
  · split at h1
    · rename_i e1 e2 e3
      exact ⟨h1.1, h1.2.1, h1.2.2.1, h1.2.2.2.1, h1.2.2.2.2.1, h2 _ h1.2.2.2.2.2⟩
    · exact h1.elim
  · exact h1.elim

theorem pSlice_all {β : Type} {x : Value} {lo hi mx : Option Value} {Q : β → Prop} {K : β → Value → Prop} (b0 : β) (hb : Q b0) (h : ∀ b, Q b → pSlice n x lo hi mx (K b)) : pSlice n x lo hi mx fun v => ∀ b, Q b → K b v := by
  have h1 := h b0 hb
  unfold pSlice at h h1 ⊢
  split at h1
  · split at h1
    · rename_i e1 e2 e3
      simp only [e1, e2, e3] at h ⊢
      exact ⟨h1.1, h1.2.1, h1.2.2.1, h1.2.2.2.1, h1.2.2.2.2.1, fun b hb => (h b hb).2.2.2.2.2⟩
    · exact h1.elim
  · exact h1.elim

/-- A part of a row: it is one wherever the row is. -/
theorem Vw.subA {lo hi : Option Value} {a j : Nat} (he : ∀ a, (enc a).length = n) (H : Vw enc n h v ys) (hlo : bndOf 0 lo = some (a : Int)) (hhi : bndOf ys.length hi = some (j : Int)) (hij : a ≤ j) (hj : j ≤ ys.length)
    (hK : ∀ v', (∀ h', Vw enc n h' v ys → Vw enc n h' v' ((ys.drop a).take (j - a))) → K v') : pSlice n v lo hi none K :=
  pSlice_mono (pSlice_all (Q := fun h' => Vw enc n h' v ys) (K := fun h' v' => Vw enc n h' v' ((ys.drop a).take (j - a))) h H fun h' H' => H'.sub he hlo hhi hij hj fun v' h => h) fun v' h => hK v' h

def QuR (enc : α → List Value) (n : Nat) (T : TypeId) (h : Heap) (v : Value) (ys : List α) : Prop :=
  (v = .slice none 0 0 ∧ ys = []) ∨ ∃ bl cap pre rest, v = .slice (some ⟨bl, pre.length, none⟩) ys.length cap ∧ h[bl]? = some (.cells (pre ++ row enc ys ++ rest).toArray T (0, 0)) ∧
    (cap - ys.length) * n ≤ rest.length ∧ ys.length ≤ cap

def quR (enc : α → List Value) (n : Nat) (T : TypeId) (v : Value) (ys : List α) : Res := ⟨blkOf v, fun h => QuR enc n T h v ys, fun {h h'} hs hq => by
  rcases hq with H | ⟨bl, cap, pre, rest, rfl, hb, a, c⟩
  · exact .inl H
  · exact .inr ⟨bl, cap, pre, rest, rfl, (hs bl rfl).trans hb, a, c⟩⟩

theorem Own.que (o : Own h0 h L) (i : Nat) (hi : L[i]? = some (slR enc n T v xs)) : Own h0 h (L.set i (quR enc n T v xs)) := by
  refine o.conv i hi ?_ fun b hb => hb
  obtain ⟨bl, H⟩ := o.get i hi
  rcases H with H | ⟨cap, rest, rfl, hb, a, c⟩
  · exact .inl H
  · exact .inr ⟨bl, cap, [], rest, rfl, hb, by omega, c⟩

theorem Own.qvw (o : Own h0 h L) (i : Nat) (hi : L[i]? = some (quR enc n T v ys)) : Vw enc n h v ys := by
  rcases o.get i hi with ⟨rfl, rfl⟩ | ⟨bl, cap, pre, rest, rfl, hb, a, c⟩
  · exact .nil
  · exact ⟨bl, _, cap, rfl, c, .inr ⟨_, pre, rest, T, _, rfl, hb, rfl⟩⟩

/-- The first one off. -/
theorem Own.qtail {y : α} {hi' : Option Value} (o : Own h0 h L) (he : ∀ a, (enc a).length = n) (i : Nat) (hi : L[i]? = some (quR enc n T v (y :: ys))) (hh : hi' = none)
    (hK : ∀ v', Own h0 h (L.set i (quR enc n T v' ys)) → K v') : pSlice n v (some (.int k 1)) hi' none K := by
  subst hh
  rcases o.get i hi with ⟨rfl, h⟩ | ⟨bl, cap, pre, rest, rfl, hb, a, c⟩
  · cases h
  · simp only [List.length_cons] at c a
    refine ⟨by simp, by simp, by simp; omega, by simp; omega, by simp, ?_⟩
    refine hK _ (o.conv i hi ?_ ?_)
    · refine .inr ?_
      simp only [List.length_cons, Int.toNat_natCast]
      unfold slBase
      by_cases hc : cap = 1
      · subst hc
        have : ys = [] := List.eq_nil_of_length_eq_zero (by omega)
        subst this
        refine ⟨bl, 0, pre, enc y ++ rest, by simp, by rw [hb]; simp [row], by simp, by simp⟩
      · refine ⟨bl, cap - 1, pre ++ enc y, rest, ?_, by rw [hb]; simp [row], ?_, by omega⟩
        · rw [if_neg (by simp; omega)]; simp [he]
        · rw [show cap - 1 - ys.length = cap - (ys.length + 1) by omega]; exact a
    · intro b hb'
      unfold slBase at hb'
      split at hb'
      · exact hb'
      · exact hb'

/-- One element more. -/
theorem Own.qapp1 {bytes : Nat} {zero zs : List Value} {parts : List (Nat × Nat × Value)} (o : Own h0 h L) (i : Nat) (a : α) (hi : L[i]? = some (quR enc n T v xs)) (hrow : spliceAll zs parts = enc a) (hsz : sizesOk zs.length parts)
    (he : ∀ a, (enc a).length = n) (hp : ∀ a, ∀ u ∈ enc a, plainCell u = true) (hz : zero.length = n) (hby : 0 < bytes) (hb : (xs.length + 1) * bytes ≤ 2 ^ 47)
    (hK : ∀ v' h', Own h0 h' (L.set i (quR enc n T v' (xs ++ [a]))) → KH v' h') : pBuildSlice T zs parts 1 h fun t h1 => pAppend T n bytes zero v t h1 KH := by
  refine o.build (enc := enc) (n := n) [a] (by rw [hrow]; simp [row]) hsz rfl fun w h1 o1 => ?_
  have hi1 : (slR enc n T w [a] :: L)[i + 1]? = some (quR enc n T v xs) := hi
  obtain ⟨xb, xc, rfl, hcx⟩ := (o1.vw 0 rfl).cells he
  have fin : ∀ v' h', Own h0 h' ((slR enc n T (.slice xb [a].length xc) [a] :: L).set (i + 1) (quR enc n T v' (xs ++ [a]))) → KH v' h' := fun v' h' o' => hK v' h' o'.tail
  rcases o1.get (i + 1) hi1 with ⟨rfl, rfl⟩ | ⟨bl, cap, pre, rest, rfl, hbk, hr, hle⟩
  · have o2 := o1.conv (r' := slR enc n T (.slice none 0 0) []) (i + 1) hi1 ⟨0, .inl ⟨rfl, rfl⟩⟩ fun b hb => hb
    refine o2.app (i + 1) (set_get hi1) he hp hz (o1.vw 0 rfl) hby (by simpa using hb) fun v' h' o3 => ?_
    rw [List.set_set] at o3
    have o4 := o3.que (i + 1) (set_get hi1)
    rw [List.set_set] at o4
    exact fin v' h' o4
  · simp only [pAppend, List.length_singleton] at hcx ⊢
    rw [hcx]
    have hrx := row_length he xs
    have hra : (row enc [a]).length = n := by simp [row, he]
    have hpl : ∀ u ∈ row enc [a], plainCell u = true := by
      intro u hu; simp [row] at hu; exact hp a u hu
    have hblt := get_lt hbk
    dsimp only
    by_cases hcap : xs.length + 1 ≤ cap
    · rw [if_pos hcap]
      have hn : n ≤ rest.length := by
        refine Nat.le_trans ?_ hr
        exact Nat.le_mul_of_pos_left n (by omega)
      refine storeL_of _ _ _ _ hbk (by simp only [List.length_append]; rw [hrx, hra]; omega) hpl ?_
      have ov : over (pre ++ row enc xs ++ rest) (pre.length + xs.length * n) (row enc [a]) = pre ++ row enc (xs ++ [a]) ++ rest.drop n := by
        unfold over
        rw [hra, row_append]
        rw [show pre.length + xs.length * n = (pre ++ row enc xs).length by simp [hrx]]
        rw [List.take_left', List.drop_append, List.drop_of_length_le (by omega)]
        · rw [show (pre ++ row enc xs).length + n - (pre ++ row enc xs).length = n by omega]; simp
        · rfl
      rw [ov]
      refine fin _ _ (o1.set (i + 1) hi1 (Upd.upd _ _ rfl) (.inr ⟨bl, cap, pre, rest.drop n, by simp, upd_self' hbk, ?_, by simpa using hcap⟩) fun b hb => ⟨.inl hb, by rw [upd_size]; exact (show b = bl from hb) ▸ hblt⟩)
      rw [List.length_drop, List.length_append, List.length_singleton]
      rw [show cap - (xs.length + 1) = cap - xs.length - 1 by omega, Nat.sub_mul]; omega
    · rw [if_neg hcap]
      obtain ⟨b0, c0, e0, hl⟩ := (o1.qvw (i + 1) hi1).cells he
      injection e0 with e0 _ _
      subst e0
      rw [hl]
      have hc' : cap < xs.length + 1 := by omega
      refine ⟨growslice_fits hc' (by omega), by have := Nat.le_mul_of_pos_right (xs.length + 1) hby; omega, fun c h1' h2 => ?_⟩
      refine fin _ _ (o1.set (i + 1) hi1 (Upd.push _ _ _) (.inr ⟨h1.size, c, [], zerosL zero (c - (xs.length + 1)), by simp, ?_, ?_, by simpa using h1'⟩) fun b hb => ⟨.inr (by rw [show b = h1.size from hb]; exact Nat.le_refl _), by rw [show b = h1.size from hb, push_size]; omega⟩)
      · rw [push_new, row_append]; simp [row]
      · simp [zerosL, hz]

/-- The end of one's own row cleared. -/
theorem Own.clearTail {xs : List Int} {j : Nat} {a : Int} (o : Own h0 h L) (i : Nat) (hi : L[i]? = some (slR encI 1 T v xs)) (hj : j ≤ xs.length)
    (hK : ∀ h', Own h0 h' (L.set i (slR encI 1 T v (xs.take j ++ List.replicate (xs.length - j) a))) → KH (.tuple #[]) h') : pSlice 1 v (some (.int k j)) none none fun t => pClear [I a] t h KH := by
  have hrow : ∀ l : List Int, row encI l = l.map I := fun l => by
    induction l with
    | nil => rfl
    | cons a l ih => simp only [row, List.flatMap_cons, List.map_cons] at ih ⊢; rw [ih]; rfl
  have same : j = xs.length → L.set i (slR encI 1 T v (xs.take j ++ List.replicate (xs.length - j) a)) = L := fun e => by
    subst e
    rw [List.take_length, Nat.sub_self, List.replicate_zero, List.append_nil]
    apply List.ext_getElem?
    intro q
    rw [List.getElem?_set]
    split
    · rename_i e; subst e; rw [hi]; simp [(List.getElem?_eq_some_iff.1 hi).1]
    · rfl
  obtain ⟨bl, H⟩ := o.get i hi
  rcases H with ⟨rfl, rfl⟩ | ⟨cap, rest, rfl, hb, hr, hle⟩
  · have e0 : j = 0 := by simpa using hj
    subst e0
    refine ⟨by simp, by simp, by simp, by simp, by simp, ?_⟩
    have e : slBase 1 (Int.toNat ((0 : Nat) : Int)) (Int.toNat ((0 : Nat) : Int)) none = none := by simp [slBase]
    rw [e]
    show KH (.tuple #[]) h
    exact hK h (by rw [same rfl]; exact o)
  · have hblt := get_lt hb
    refine ⟨by simp, by simp, by simp; omega, by simp; omega, by simp, ?_⟩
    simp only [Int.toNat_natCast]
    by_cases e : xs.length = j
    · have hlen : xs.length - j = 0 := by omega
      have ho := hK h (by rw [same e.symm]; exact o)
      rw [hlen]
      unfold slBase
      split
      · exact ho
      · exact ho
    · have hb2 : slBase 1 j cap (some ⟨bl, 0, none⟩) = some ⟨bl, j, none⟩ := by
        unfold slBase; rw [if_neg (by omega)]; simp
      rw [hb2]
      obtain ⟨q, hq⟩ : ∃ q, xs.length - j = q + 1 := ⟨xs.length - j - 1, by omega⟩
      rw [hq]
      show storeL h bl j (zerosL [I a] (q + 1)) (KH (.tuple #[]))
      rw [← hq]
      have hz : zerosL [I a] (xs.length - j) = List.replicate (xs.length - j) (I a) := by simp [zerosL]
      rw [hz]
      refine storeL_of _ _ _ _ hb (by rw [List.length_append, hrow]; simp; omega) (fun u hu => by rw [List.eq_of_mem_replicate hu]; rfl) ?_
      have ov : over (row encI xs ++ rest) j (List.replicate (xs.length - j) (I a)) = row encI (xs.take j ++ List.replicate (xs.length - j) a) ++ rest := by
        rw [hrow, hrow]
        unfold over
        have hl : (List.map (fun x => I x) xs).length = xs.length := by simp
        rw [List.length_replicate, List.take_append_of_le_length (by rw [hl]; omega), show j + (xs.length - j) = (List.map (fun x => I x) xs).length by rw [hl]; omega, List.drop_left']
        · simp [List.map_take]
        · rfl
      rw [ov]
      refine hK _ (o.set i hi (Upd.upd _ _ rfl) ⟨bl, .inr ⟨cap, rest, by simp; omega, upd_self hblt, by simp; rw [hr]; congr 1; simp; omega, by simp; omega⟩⟩ fun b hb' => ⟨.inl hb', by rw [upd_size]; exact (show b = bl from hb') ▸ hblt⟩)

/-- A front part of one's own row. -/
theorem Own.pre {j : Nat} (o : Own h0 h L) (he : ∀ a, (enc a).length = n) (i : Nat) (hi : L[i]? = some (slR enc n T v xs)) (hj : j ≤ xs.length)
    (hK : ∀ v', Own h0 h (L.set i (slR enc n T v' (xs.take j))) → K v') : pSlice n v none (some (.int k j)) none K := by
  obtain ⟨bl, H⟩ := o.get i hi
  have H0 := H
  rcases H with ⟨rfl, rfl⟩ | ⟨cap, rest, rfl, hb, hr, hle⟩
  · have : j = 0 := by simpa using hj
    subst this
    refine ⟨by simp, by simp, by simp, by simp, by simp, hK _ (o.conv i hi ⟨bl, ?_⟩ ?_)⟩
    · exact .inl ⟨by simp [slBase], by simp⟩
    · intro b hb; simp [slBase, slR, blkOf] at hb
  · exact H0.pre he hj fun v' H' => hK v' (o.conv i hi ⟨bl, H'⟩ fun b hb => H'.blk hb)

/-- A front part of one's own row, and no more room than that. -/
theorem Own.qcut {j : Nat} {k' : IntKind} (o : Own h0 h L) (he : ∀ a, (enc a).length = n) (i : Nat) (hi : L[i]? = some (slR enc n T v xs)) (hj : j ≤ xs.length)
    (hK : ∀ v', Own h0 h (L.set i (quR enc n T v' (xs.take j))) → K v') : pSlice n v none (some (.int k j)) (some (.int k' j)) K := by
  obtain ⟨bl, H⟩ := o.get i hi
  rcases H with ⟨rfl, rfl⟩ | ⟨cap, rest, rfl, hb, hr, hle⟩
  · have : j = 0 := by simpa using hj
    subst this
    refine ⟨by simp, by simp, by simp, by simp, by simp, hK _ (o.conv i hi ?_ ?_)⟩
    · exact .inl ⟨by simp [slBase], by simp⟩
    · intro b hb; simp [slBase, quR, blkOf] at hb
  · have e : slBase n 0 j (some ⟨bl, 0, none⟩) = some ⟨bl, 0, none⟩ := by simp [slBase]
    refine ⟨by simp, by simp, by simp, by simp, by omega, ?_⟩
    have e2 : (Value.slice (slBase n (Int.toNat (0 : Nat)) (Int.toNat (j : Int)) (some ⟨bl, 0, none⟩)) ((j : Int).toNat - (Int.toNat (0 : Nat))) ((j : Int).toNat - (Int.toNat (0 : Nat)))) = .slice (some ⟨bl, 0, none⟩) j j := by
      simp [e]
    rw [e2]
    refine hK _ (o.conv i hi ?_ fun b hb => hb)
    refine .inr ⟨bl, j, [], row enc (xs.drop j) ++ rest, by simp [hj], ?_, by simp [hj], by simp [hj]⟩
    rw [hb, List.nil_append, ← List.append_assoc, ← row_append, List.take_append_drop]

/-- A number set. -/
theorem Own.qsetI {xs : List Int} {z : Int} {j : Nat} (o : Own h0 h L) (i : Nat) (hi : L[i]? = some (quR encI 1 T v xs)) (hj : j < xs.length)
    (hK : ∀ h', Own h0 h' (L.set i (quR encI 1 T v (xs.set j z))) → KH undef h') : pIdx 1 v (.int k j) fun t => pStore 1 t (I z) h KH := by
  rcases o.get i hi with ⟨rfl, rfl⟩ | ⟨bl, cap, pre, rest, rfl, hb, hr, hle⟩
  · cases hj
  · have hblt := get_lt hb
    have hrow : ∀ l : List Int, row encI l = l.map I := fun l => by
      induction l with
      | nil => rfl
      | cons a l ih => simp only [row, List.flatMap_cons, List.map_cons] at ih ⊢; rw [ih]; rfl
    refine ⟨by omega, by omega, ?_⟩
    refine pStore_of (cs := pre ++ row encI xs ++ rest) (i := pre.length + j) (by simp) hb rfl (by rw [hrow]; simp [Value.cells]; omega) (fun u hu => by simp [Value.cells] at hu; subst hu; rfl) ?_
    refine hK _ (o.set i hi (Upd.upd _ _ rfl) (.inr ⟨bl, cap, pre, rest, by simp, ?_, by simpa using hr, by simpa using hle⟩) fun b hb' => ⟨.inl hb', by rw [upd_size]; exact (show b = bl from hb') ▸ hblt⟩)
    rw [upd_self hblt]
    have : over (pre ++ row encI xs ++ rest) (pre.length + j) (Value.cells (I z)).toList = pre ++ row encI (xs.set j z) ++ rest := by
      rw [hrow, hrow]
      have hc : (Value.cells (I z)).toList = [I z] := rfl
      rw [hc]
      unfold over
      have hl : (List.map (fun x => I x) xs).length = xs.length := by simp
      rw [List.append_assoc pre, List.length_singleton, Nat.add_assoc, List.take_length_add_append, List.drop_length_add_append, List.take_append_of_le_length (by rw [hl]; omega), List.drop_append_of_le_length (by rw [hl]; omega),
        List.set_eq_take_append_cons_drop, if_pos hj]
      simp [List.map_take, List.map_drop]
    rw [this]

/-- The first one off, and no more room than there are. -/
theorem Own.qtail3 {y : α} {m : Int} {k' k'' : IntKind} (o : Own h0 h L) (he : ∀ a, (enc a).length = n) (i : Nat) (hi : L[i]? = some (quR enc n T v (y :: ys))) (hm : m = ys.length + 1)
    (hK : ∀ v', Own h0 h (L.set i (quR enc n T v' ys)) → K v') : pSlice n v (some (.int k 1)) (some (.int k' m)) (some (.int k'' m)) K := by
  subst hm
  rcases o.get i hi with ⟨rfl, h⟩ | ⟨bl, cap, pre, rest, rfl, hb, a, c⟩
  · cases h
  · simp only [List.length_cons] at c a
    refine ⟨fun _ => rfl, by decide, by omega, Int.le_refl _, by omega, ?_⟩
    have e1 : (Int.toNat (1 : Int)) = 1 := rfl
    have e2 : ((ys.length : Int) + 1).toNat = ys.length + 1 := by omega
    rw [e1, e2, Nat.add_sub_cancel]
    refine hK _ (o.conv i hi ?_ ?_)
    · refine .inr ?_
      unfold slBase
      by_cases hc : ys.length = 0
      · have : ys = [] := List.eq_nil_of_length_eq_zero hc
        subst this
        refine ⟨bl, 0, pre, enc y ++ rest, by simp, by rw [hb]; simp [row], by simp, by simp⟩
      · refine ⟨bl, ys.length, pre ++ enc y, rest, ?_, by rw [hb]; simp [row], by simp, Nat.le_refl _⟩
        rw [if_neg (by omega)]; simp [he]
    · intro b hb'
      unfold slBase at hb'
      split at hb'
      · exact hb'
      · exact hb'

/-- A row copied into another one of the same length. -/
theorem Own.copyAll {x : Value} {xs ys : List α} (o : Own h0 h L) (i : Nat) (hi : L[i]? = some (slR enc n T v xs)) (he : ∀ a, (enc a).length = n) (hp : ∀ a, ∀ u ∈ enc a, plainCell u = true) (hx : Vw enc n h x ys) (hl : xs.length = ys.length)
    (hK : ∀ h', Own h0 h' (L.set i (slR enc n T v ys)) → KH (.int .i64 ys.length) h') : pCopy n v x h KH := by
  obtain ⟨xb, xc, rfl, hcx⟩ := hx.cells he
  obtain ⟨bl, H⟩ := o.get i hi
  have H0 := H
  rcases H with ⟨rfl, rfl⟩ | ⟨cap, rest, rfl, hb, hr, hle⟩
  · have : ys = [] := List.eq_nil_of_length_eq_zero hl.symm
    subst this
    unfold pCopy
    have : cellsOfSl h n (Nat.min ([] : List α).length 0) xb = some [] := by
      have e : (Nat.min ([] : List α).length 0) = ([] : List α).length := rfl
      rw [e, hcx]; rfl
    simp only [this]
    refine hK h ?_
    have : L.set i (slR enc n T (.slice none 0 0) []) = L := by
      apply List.ext_getElem?
      intro q
      rw [List.getElem?_set]
      split
      · rename_i e; subst e; rw [hi]; simp [(List.getElem?_eq_some_iff.1 hi).1]
      · rfl
    rw [this]; exact o
  · unfold pCopy
    have hmin : Nat.min ys.length xs.length = ys.length := by rw [hl]; exact Nat.min_self _
    simp only [hmin, hcx]
    have hz : (0 : Nat) = 0 * n := by simp
    rw [hz]
    refine o.storeRow i hi he hp H0 rfl (by omega) fun h' o' => hK h' ?_
    have e : xs.take 0 ++ ys ++ xs.drop (0 + ys.length) = ys := by
      rw [List.take_zero, List.nil_append, Nat.zero_add, List.drop_of_length_le (by omega), List.append_nil]
    rw [e] at o'
    exact o'

end
end Go.Mh

/-! What is always so of a disk, act by act. -/
namespace Go.Mh
open Go

section
variable {U : List Nm} {N : Nat} {s : Dk} {a b : Nm}

theorem refE_off {e : Int} {l : List Nm} (h : refE s e l = 0) : s.off = false ∧ e = 0 ∧ ∀ a ∈ l, (dlook s.now a).isSome = true := by
  unfold refE at h
  split at h
  · exact absurd h (by decide)
  · rename_i ho
    split at h
    · rename_i he; exact absurd h he
    · rename_i he
      split at h
      · rename_i ha
        exact ⟨by simpa using ho, by omega, fun a hm => List.all_eq_true.1 ha a hm⟩
      · exact absurd h (by decide)

theorem Dk.Inv.mono {M : Nat} (H : s.Inv U N) (hN : N ≤ M) : s.Inv U M :=
  ⟨H.nm, H.num, H.ok, H.inj, H.ar, Nat.le_trans H.lc hN, Nat.le_trans H.lt hN, fun t ht => Nat.le_trans (H.lw t ht) hN, H.wr⟩

theorem new_inv : Dk.new.Inv U 0 := ⟨fun _ h => (by cases h), fun _ _ h => (by cases h), trivial, .nil, by decide, Nat.le_refl _, Nat.le_refl _, fun _ h => (by cases h), fun _ h => (by cases h)⟩

theorem step_inv {e : Int} {f : Dk → Dk} {M : Nat} (H : s.Inv U N) (hN : N ≤ M) (hf : e = 0 → ∀ s' : Dk, s'.cs = s.cs → s'.cp = s.cp → s'.th = s.th → s'.Inv U N → (f s').Inv U M) : (stepD s e f).2.Inv U M := by
  unfold stepD
  split
  · exact H.mono hN
  · rename_i he
    split
    · exact (show Dk.Inv U N { s with armed := 0, off := true } from ⟨H.nm, H.num, H.ok, H.inj, (show 0 < 2 ^ 63 by decide), H.lc, H.lt, H.lw, H.wr⟩).mono hN
    · refine hf (by omega) _ rfl rfl rfl ⟨H.nm, H.num, H.ok, H.inj, ?_, H.lc, H.lt, H.lw, H.wr⟩
      have := H.ar
      show s.armed - 1 < _
      omega

theorem ch_inv {s : Dk} {c : Ch} (H : s.Inv U N) (hw : c.within U) (ht : c.there s.now) (hn : mkNo c = none) : (chD c s).Inv U (N + 1) := by
  refine ⟨fun x hx => ?_, fun a n hx => ?_, ?_, ?_, H.ar, ?_, Nat.le_succ_of_le H.lt, fun t h => Nat.le_succ_of_le (H.lw t h), H.wr⟩
  · rcases List.mem_append.1 (show x ∈ s.cs ++ (s.cp ++ [c]) from hx) with h | h
    · exact H.nm x (List.mem_append_left _ h)
    · rcases List.mem_append.1 h with h | h
      · exact H.nm x (List.mem_append_right _ h)
      · rw [List.mem_singleton.1 h]; exact hw
  · rcases List.mem_append.1 (show Ch.mk a n ∈ s.cs ++ (s.cp ++ [c]) from hx) with h | h
    · exact H.num a n (List.mem_append_left _ h)
    · rcases List.mem_append.1 h with h | h
      · exact H.num a n (List.mem_append_right _ h)
      · rw [← List.mem_singleton.1 h] at hn; cases hn
  · show OkL [] (s.cs ++ (s.cp ++ [c]))
    rw [← List.append_assoc]
    exact H.ok.snoc ht
  · show ((s.cs ++ (s.cp ++ [c])).filterMap mkNo).Nodup
    rw [← List.append_assoc, List.filterMap_append]
    have : [c].filterMap mkNo = [] := by simp [hn]
    rw [this, List.append_nil]; exact H.inj
  · show (s.cs ++ (s.cp ++ [c])).length ≤ N + 1
    have := H.lc
    rw [List.length_append] at this ⊢
    rw [List.length_append]; simp; omega

theorem make_inv (H : s.Inv U N) (ha : a ∈ U) : (mMake s a).2.Inv U (N + 1) := by
  refine step_inv H (Nat.le_succ _) fun _ s' h1 h2 h3 H' => ?_
  refine ⟨fun x hx => ?_, fun b n hx => ?_, ?_, ?_, H'.ar, ?_, ?_, fun t ht => ?_, fun t ht => ?_⟩
  · rcases List.mem_append.1 (show x ∈ s'.cs ++ (s'.cp ++ [.mk a s'.th.length]) from hx) with h | h
    · exact H'.nm x (List.mem_append_left _ h)
    · rcases List.mem_append.1 h with h | h
      · exact H'.nm x (List.mem_append_right _ h)
      · rw [List.mem_singleton.1 h]; exact ha
  · show n < (s'.th ++ [_]).length
    rw [List.length_append]
    rcases List.mem_append.1 (show Ch.mk b n ∈ s'.cs ++ (s'.cp ++ [.mk a s'.th.length]) from hx) with h | h
    · have := H'.num b n (List.mem_append_left _ h); simp; omega
    · rcases List.mem_append.1 h with h | h
      · have := H'.num b n (List.mem_append_right _ h); simp; omega
      · have := List.mem_singleton.1 h; cases this; simp
  · show OkL [] (s'.cs ++ (s'.cp ++ [_]))
    rw [← List.append_assoc]
    exact H'.ok.snoc trivial
  · show ((s'.cs ++ (s'.cp ++ [_])).filterMap mkNo).Nodup
    rw [← List.append_assoc, List.filterMap_append, List.nodup_append]
    refine ⟨H'.inj, by simp [mkNo], fun n hn m hm e => ?_⟩
    simp [mkNo] at hm
    obtain ⟨x, hx, ex⟩ := List.mem_filterMap.1 hn
    cases x with
    | mk b k =>
      simp [mkNo] at ex
      have := H'.num b k hx
      omega
    | ren _ _ => cases ex
    | rem _ => cases ex
  · show (s'.cs ++ (s'.cp ++ [_])).length ≤ N + 1
    have := H'.lc
    rw [List.length_append] at this ⊢
    rw [List.length_append]; simp; omega
  · show (s'.th ++ [_]).length ≤ N + 1
    have := H'.lt
    rw [List.length_append]; simp; omega
  · rcases List.mem_append.1 (show t ∈ s'.th ++ [_] from ht) with h | h
    · exact Nat.le_succ_of_le (H'.lw t h)
    · rw [List.mem_singleton.1 h]; exact Nat.zero_le _
  · rcases List.mem_append.1 (show t ∈ s'.th ++ [_] from ht) with h | h
    · exact H'.wr t h
    · rw [List.mem_singleton.1 h]; exact fun w hw => by cases hw

theorem mod_inv {s : Dk} {n : Nat} {f : Th → Th} {M : Nat} (H : s.Inv U N) (hN : N ≤ M) (hl : ∀ t ∈ s.th, (f t).all.length ≤ M) (hw : ∀ t ∈ s.th, ∀ w ∈ (f t).all, w.off + w.s.size ≤ 1048576) : ({ s with th := s.th.modify n f } : Dk).Inv U M := by
  have hm : ∀ t ∈ s.th.modify n f, t ∈ s.th ∨ ∃ t' ∈ s.th, t = f t' := fun t ht => by
    obtain ⟨j, hj, rfl⟩ := List.mem_iff_getElem.1 ht
    rw [List.getElem_modify]
    split
    · exact .inr ⟨_, List.getElem_mem _, rfl⟩
    · exact .inl (List.getElem_mem _)
  refine ⟨H.nm, fun a k hk => ?_, H.ok, H.inj, H.ar, Nat.le_trans H.lc hN, ?_, fun t ht => ?_, fun t ht => ?_⟩
  · show k < (s.th.modify n f).length
    rw [List.length_modify]; exact H.num a k hk
  · show (s.th.modify n f).length ≤ M
    rw [List.length_modify]; exact Nat.le_trans H.lt hN
  · rcases hm t ht with h | ⟨t', h, rfl⟩
    · exact Nat.le_trans (H.lw t h) hN
    · exact hl t' h
  · rcases hm t ht with h | ⟨t', h, rfl⟩
    · exact H.wr t h
    · exact hw t' h

theorem write_inv {z : Int} {w : ByteArray} (H : s.Inv U N) (hw : w.size ≤ 1048576) : (mWrite s a z w).2.Inv U (N + 1) := by
  refine step_inv H (Nat.le_succ _) fun he s' h1 h2 h3 H' => ?_
  obtain ⟨_, hwr, _⟩ := refE_off he
  have hz : 0 ≤ z ∧ z ≤ 1048576 - w.size := by
    unfold wrE at hwr
    split at hwr
    · cases hwr
    · rename_i hc
      exact ⟨Classical.byContradiction fun hn => hc ⟨hwr, .inl (by omega)⟩, Classical.byContradiction fun hn => hc ⟨hwr, .inr (by omega)⟩⟩
  unfold upT
  split
  · refine mod_inv H' (Nat.le_succ _) (fun t ht => ?_) fun t ht x hx => ?_
    · have := H'.lw t ht
      unfold Th.all at this ⊢
      rw [List.length_append] at this ⊢
      dsimp only
      rw [List.length_append]; simp; omega
    · unfold Th.all at hx
      dsimp only at hx
      rw [← List.append_assoc] at hx
      rcases List.mem_append.1 hx with h | h
      · exact H'.wr t ht x h
      · rw [List.mem_singleton.1 h]; dsimp only; omega
  · exact H'.mono (Nat.le_succ _)

theorem sync_inv (H : s.Inv U N) : (mSync s a).2.Inv U (N + 1) := by
  refine step_inv H (Nat.le_succ _) fun he s' h1 h2 h3 H' => ?_
  unfold upT
  split
  · refine mod_inv H' (Nat.le_succ _) (fun t ht => ?_) fun t ht x hx => ?_
    · have := H'.lw t ht
      show (t.all ++ []).length ≤ _
      rw [List.append_nil]; omega
    · have hx' : x ∈ t.all ++ [] := hx
      rw [List.append_nil] at hx'
      exact H'.wr t ht x hx'
  · exact H'.mono (Nat.le_succ _)

theorem rename_inv (H : s.Inv U N) (hb : b ∈ U) : (mRename s a b).2.Inv U (N + 1) := by
  refine step_inv H (Nat.le_succ _) fun he s' h1 h2 h3 H' => ?_
  obtain ⟨_, _, ht⟩ := refE_off he
  refine ch_inv (c := .ren a b) H' hb ?_ rfl
  show (dlook s'.now a).isSome = true
  unfold Dk.now; rw [h1, h2]
  exact ht a List.mem_cons_self

theorem remove_inv (H : s.Inv U N) : (mRemove s a).2.Inv U (N + 1) := by
  refine step_inv H (Nat.le_succ _) fun he s' h1 h2 h3 H' => ?_
  obtain ⟨_, _, ht⟩ := refE_off he
  refine ch_inv (c := .rem a) H' trivial ?_ rfl
  show (dlook s'.now a).isSome = true
  unfold Dk.now; rw [h1, h2]
  exact ht a List.mem_cons_self

theorem syncDir_inv (H : s.Inv U N) : (mSyncDir s).2.Inv U (N + 1) := by
  refine step_inv H (Nat.le_succ _) fun he s' h1 h2 h3 H' => ?_
  refine (show Dk.Inv U N { s' with cs := s'.cs ++ s'.cp, cp := [] } from ⟨?_, ?_, ?_, ?_, H'.ar, ?_, H'.lt, H'.lw, H'.wr⟩).mono (Nat.le_succ _)
  · intro c hc; dsimp only at hc; rw [List.append_nil] at hc; exact H'.nm c hc
  · intro a n hc; dsimp only at hc; rw [List.append_nil] at hc; exact H'.num a n hc
  · dsimp only; rw [List.append_nil]; exact H'.ok
  · dsimp only; rw [List.append_nil]; exact H'.inj
  · dsimp only; rw [List.append_nil]; exact H'.lc

theorem arm_inv {z : Int} (H : s.Inv U N) (hz : z ≤ 9223372036854775807) : (mArm s z).Inv U (N + 1) :=
  (show Dk.Inv U N (mArm s z) from ⟨H.nm, H.num, H.ok, H.inj, (by show z.toNat < _; omega), H.lc, H.lt, H.lw, H.wr⟩).mono (Nat.le_succ _)

theorem crW_mem : ∀ {l : List Wr} {f : List Int} {w : Wr}, w ∈ (crW l f).1 → w ∈ l
  | [], _, _, h => by simp [crW] at h
  | v :: l, f, w, h => by
    rw [crW] at h
    split at h
    · rcases List.mem_cons.1 h with rfl | h
      · exact List.mem_cons_self
      · exact List.mem_cons_of_mem _ (crW_mem h)
    · exact List.mem_cons_of_mem _ (crW_mem h)
theorem crW_le : ∀ {l : List Wr} {f : List Int}, (crW l f).1.length ≤ l.length
  | [], _ => Nat.le_refl _
  | v :: l, f => by
    have := crW_le (l := l) (f := f.tail)
    rw [crW]
    split
    · simp only [List.length_cons]; omega
    · simp only [List.length_cons]; omega

theorem crash_inv {f : List Int} (H : s.Inv U N) : (mCrash s f).Inv U (N + 1) := by
  unfold mCrash
  dsimp only
  have hk : fateOf f % (s.cp.length + 1) ≤ s.cp.length := by
    have := Nat.mod_lt (fateOf f) (show 0 < s.cp.length + 1 by omega)
    omega
  generalize fateOf f % (s.cp.length + 1) = k at hk
  generalize namedL (dirOf (s.cs ++ s.cp.take k)) s.th.length = ns
  have hsub : ∀ c ∈ s.cs ++ s.cp.take k, c ∈ s.cs ++ s.cp := fun c hc => by
    rcases List.mem_append.1 hc with hc | hc
    · exact List.mem_append_left _ hc
    · exact List.mem_append_right _ (List.mem_of_mem_take hc)
  have hth : ∀ (ns : List Nat) (y : List Th × List Int), (∀ t ∈ y.1, t.all.length ≤ N ∧ ∀ w ∈ t.all, w.off + w.s.size ≤ 1048576) →
      (ns.foldl crT y).1.length = y.1.length ∧ ∀ t ∈ (ns.foldl crT y).1, t.all.length ≤ N ∧ ∀ w ∈ t.all, w.off + w.s.size ≤ 1048576 := by
    intro ns
    induction ns with
    | nil => intro y hy; exact ⟨rfl, hy⟩
    | cons n ns ih =>
      intro y hy
      obtain ⟨h1, h2⟩ := ih (crT y n) fun t ht => by
        unfold crT at ht
        obtain ⟨j, hj, rfl⟩ := List.mem_iff_getElem.1 ht
        rw [List.getElem_modify]
        have hj' : j < y.1.length := by simpa using hj
        have hm := hy _ (List.getElem_mem hj')
        split
        · obtain ⟨m1, m2⟩ := hm
          unfold Th.all at m1 m2 ⊢
          dsimp only
          rw [List.append_nil]
          refine ⟨?_, fun w hw' => ?_⟩
          · have := crW_le (l := y.1[j].pen) (f := y.2)
            rw [List.length_append] at m1 ⊢; omega
          · rcases List.mem_append.1 hw' with hw' | hw'
            · exact m2 w (List.mem_append_left _ hw')
            · exact m2 w (List.mem_append_right _ (crW_mem hw'))
        · exact hm
      refine ⟨?_, h2⟩
      rw [List.foldl_cons, h1]
      unfold crT; simp
  obtain ⟨t1, t2⟩ := hth ns (s.th, f.tail) fun t ht => ⟨H.lw t ht, H.wr t ht⟩
  refine (show Dk.Inv U N { cs := s.cs ++ s.cp.take k, cp := [], th := (ns.foldl crT (s.th, f.tail)).1, armed := 0, off := false } from ⟨?_, ?_, ?_, ?_, (show 0 < 2 ^ 63 by decide), ?_, ?_, fun t ht => (t2 t ht).1, fun t ht => (t2 t ht).2⟩).mono (Nat.le_succ _)
  · intro c hc; dsimp only at hc; rw [List.append_nil] at hc; exact H.nm c (hsub c hc)
  · intro a n hc; dsimp only at hc; rw [List.append_nil] at hc; rw [t1]; exact H.num a n (hsub _ hc)
  · dsimp only; rw [List.append_nil]
    have := H.ok
    rw [← List.take_append_drop k s.cp, ← List.append_assoc] at this
    exact this.left
  · dsimp only; rw [List.append_nil]
    exact H.inj.sublist ((List.Sublist.append (List.Sublist.refl _) (List.take_sublist _ _)).filterMap _)
  · dsimp only; rw [List.append_nil]
    have := H.lc
    rw [List.length_append] at this ⊢
    rw [List.length_take]; omega
  · dsimp only; rw [t1]; exact H.lt

end
end Go.Mh

/-! A disk by definition: all that was done, gone through again. -/
namespace Go.Mh
open Go

/-! ### To which thing a name points -/

/-- Of changes, the latest one first. -/
def pts : List Ch → Nm → Int
  | [], _ => -1
  | .mk a n :: r, x => if a = x then n else pts r x
  | .ren a b :: r, x => if b = x then pts r a else if a = x then -1 else pts r x
  | .rem a :: r, x => if a = x then -1 else pts r x

def lookI (D : Dir) (x : Nm) : Int := match dlook D x with
  | some n => n
  | none => -1

theorem OkL.last : ∀ {l : List Ch} {D : Dir} {c : Ch}, OkL D (l ++ [c]) → c.there (l.foldl app D)
  | [], _, _, h => h.1
  | _ :: l, D, c, h => OkL.last (l := l) (show OkL _ (l ++ [c]) from h.2)

theorem rev_ind {α : Type} {P : List α → Prop} (h0 : P []) (h1 : ∀ l a, P l → P (l ++ [a])) (l : List α) : P l := by
  have : ∀ m : List α, P m.reverse := by
    intro m
    induction m with
    | nil => exact h0
    | cons a m ih => rw [List.reverse_cons]; exact h1 _ _ ih
  have := this l.reverse
  rwa [List.reverse_reverse] at this

theorem pts_look (l : List Ch) : OkL [] l → ∀ x, pts l.reverse x = lookI (dirOf l) x := by
  induction l using rev_ind with
  | h0 => intro _ x; rfl
  | h1 l c ih =>
    intro ho x
    have ih := ih ho.left
    have hc : c.there (dirOf l) := ho.last
    rw [List.reverse_append, List.reverse_singleton, List.singleton_append, dirOf_snoc]
    unfold lookI at ih ⊢
    cases c with
    | mk a n =>
      rw [pts, ih]
      show _ = match dlook (dset (dirOf l) a n) x with | some n => (n : Int) | none => -1
      rw [dlook_set]
      by_cases e : a = x
      · rw [if_pos e, if_pos e.symm]
      · rw [if_neg e, if_neg (fun h => e h.symm)]
    | ren a b =>
      rw [pts, ih, ih]
      show _ = match dlook (dset (ddel (dirOf l) a) b ((dlook (dirOf l) a).getD 0)) x with | some n => (n : Int) | none => -1
      rw [dlook_set, dlook_del]
      by_cases e : b = x
      · rw [if_pos e, if_pos e.symm]
        have hc' : (dlook (dirOf l) a).isSome = true := hc
        obtain ⟨n, hn⟩ := Option.isSome_iff_exists.1 hc'
        rw [hn]; rfl
      · rw [if_neg e, if_neg (show ¬ x = b from fun h => e h.symm)]
        by_cases e2 : a = x
        · rw [if_pos e2, if_pos e2.symm]
        · rw [if_neg e2, if_neg (show ¬ x = a from fun h => e2 h.symm)]
    | rem a =>
      rw [pts, ih]
      show _ = match dlook (ddel (dirOf l) a) x with | some n => (n : Int) | none => -1
      rw [dlook_del]
      by_cases e : a = x
      · rw [if_pos e, if_pos e.symm]
      · rw [if_neg e, if_neg (fun h => e h.symm)]

theorem lookI_neg {D : Dir} {x : Nm} : (lookI D x < 0) ↔ (dlook D x).isSome = false := by
  unfold lookI
  cases dlook D x with
  | none => simp
  | some n => simp

/-- Names that a change speaks of. -/
def Ch.A : Ch → Nm
  | .mk a _ => a
  | .ren a _ => a
  | .rem a => a
def Ch.B : Ch → Nm
  | .ren _ b => b
  | _ => ⟨#[]⟩

theorem pts_said : ∀ (l : List Ch) (x : Nm), 0 ≤ pts l x → ∃ c ∈ l, c.A = x ∨ c.B = x
  | [], x, h => by simp [pts] at h
  | .mk a n :: r, x, h => by
    rw [pts] at h
    split at h
    · rename_i e; exact ⟨_, List.mem_cons_self, .inl e⟩
    · obtain ⟨c, hc, h⟩ := pts_said r x h; exact ⟨c, List.mem_cons_of_mem _ hc, h⟩
  | .ren a b :: r, x, h => by
    rw [pts] at h
    split at h
    · rename_i e; exact ⟨_, List.mem_cons_self, .inr e⟩
    · split at h
      · omega
      · obtain ⟨c, hc, h⟩ := pts_said r x h; exact ⟨c, List.mem_cons_of_mem _ hc, h⟩
  | .rem a :: r, x, h => by
    rw [pts] at h
    split at h
    · omega
    · obtain ⟨c, hc, h⟩ := pts_said r x h; exact ⟨c, List.mem_cons_of_mem _ hc, h⟩

theorem look_said {l : List Ch} (ho : OkL [] l) {x : Nm} (h : (dlook (dirOf l) x).isSome = true) : ∃ c ∈ l, c.A = x ∨ c.B = x := by
  have h1 : 0 ≤ lookI (dirOf l) x := by
    have := lookI_neg (D := dirOf l) (x := x)
    rw [h] at this
    simp at this; exact this
  rw [← pts_look l ho] at h1
  obtain ⟨c, hc, e⟩ := pts_said _ _ h1
  exact ⟨c, List.mem_reverse.1 hc, e⟩

/-- A number is pointed to just if a name that was spoken of points to it. -/
theorem points_iff {l : List Ch} (ho : OkL [] l) {n : Nat} : (∃ c ∈ l, lookI (dirOf l) c.A = n ∨ lookI (dirOf l) c.B = n) ↔ (dirOf l).any (fun x => decide (x.2 = n)) = true := by
  have key : ∀ x : Nm, lookI (dirOf l) x = (n : Int) ↔ dlook (dirOf l) x = some n := fun x => by
    unfold lookI
    cases dlook (dirOf l) x with
    | none => simp
    | some m => simp; omega
  rw [List.any_eq_true]
  constructor
  · rintro ⟨c, _, h | h⟩
    · exact ⟨_, (dlook_mem (keys_dirOf l)).1 ((key _).1 h), by simp⟩
    · exact ⟨_, (dlook_mem (keys_dirOf l)).1 ((key _).1 h), by simp⟩
  · rintro ⟨⟨a, m⟩, hx, e⟩
    have e : m = n := by simpa using e
    subst e
    have hd := (dlook_mem (keys_dirOf l)).2 hx
    obtain ⟨c, hc, hcx⟩ := look_said ho (x := a) (by rw [hd]; rfl)
    refine ⟨c, hc, ?_⟩
    rcases hcx with rfl | rfl
    · exact .inl ((key _).2 hd)
    · exact .inr ((key _).2 hd)

/-! ### Bytes, one by one -/

def padZ (b : List UInt8) (n : Nat) : List UInt8 := b ++ List.replicate (n - b.length) 0
theorem padZ_len {b : List UInt8} {n : Nat} : (padZ b n).length = max b.length n := by unfold padZ; simp; omega
theorem padZ_get {b : List UInt8} {n i : Nat} : (padZ b n)[i]? = if i < b.length then b[i]? else if i < n then some 0 else none := by
  unfold padZ
  by_cases h : i < b.length
  · rw [List.getElem?_append_left h, if_pos h]
  · rw [List.getElem?_append_right (by omega), if_neg h, List.getElem?_replicate]
    by_cases h' : i < n
    · rw [if_pos (by omega), if_pos h']
    · rw [if_neg (by omega), if_neg h']

/-- Some bytes of a write done. -/
def putK (b : List UInt8) (off : Nat) (s : List UInt8) (k : Nat) : List UInt8 := if k = 0 then b else putL (padZ b (off + k)) off (s.take k)

theorem putL_get {xs s : List UInt8} {a i : Nat} (h : a + s.length ≤ xs.length) : (putL xs a s)[i]? = if i < a then xs[i]? else if i < a + s.length then s[i - a]? else xs[i]? := by
  unfold putL
  rw [List.append_assoc]
  by_cases h1 : i < a
  · rw [if_pos h1, List.getElem?_append_left (by simp; omega), List.getElem?_take_of_lt h1]
  · rw [if_neg h1, List.getElem?_append_right (by simp; omega)]
    have e : i - (xs.take a).length = i - a := by simp; omega
    rw [e]
    by_cases h2 : i < a + s.length
    · rw [if_pos h2, List.getElem?_append_left (by omega)]
    · rw [if_neg h2, List.getElem?_append_right (by omega), List.getElem?_drop]
      congr 1; omega

theorem putK_len {b s : List UInt8} {off k : Nat} (hk : k ≤ s.length) : (putK b off s k).length = if k = 0 then b.length else max b.length (off + k) := by
  unfold putK
  split
  · rfl
  · have : (padZ b (off + k)).length = max b.length (off + k) := padZ_len
    unfold putL
    simp only [List.length_append, List.length_take, List.length_drop]
    omega

theorem putK_succ {b s : List UInt8} {off k : Nat} (hk : k < s.length) : (padZ (putK b off s k) (off + k + 1)).set (off + k) s[k] = putK b off s (k + 1) := by
  have hl := putK_len (b := b) (off := off) (s := s) (k := k) (by omega)
  apply List.ext_getElem?
  intro i
  have hp : (padZ (putK b off s k) (off + k + 1)).length = max (putK b off s k).length (off + k + 1) := padZ_len
  rw [List.getElem?_set, padZ_get]
  unfold putK at hl hp ⊢
  rw [if_neg (show ¬ k + 1 = 0 by omega)]
  have hp1 : (padZ b (off + (k + 1))).length = max b.length (off + (k + 1)) := padZ_len
  rw [putL_get (by rw [hp1]; simp; omega), padZ_get, List.length_take, show min (k + 1) s.length = k + 1 by omega]
  by_cases h0 : k = 0
  · subst h0
    simp only [if_true] at hl hp ⊢
    rw [hp]
    by_cases e : off + 0 = i
    · subst e
      rw [if_pos rfl, if_pos (by omega), if_neg (by omega), if_pos (by omega), List.getElem?_take_of_lt (by omega), List.getElem?_eq_getElem (by omega)]
      congr 1
      simp
    · rw [if_neg e]
      by_cases h1 : i < off
      · have n1 : i < off + (0 + 1) := by omega
        have n2 : i < off + 0 + 1 := by omega
        simp only [h1, n1, n2, if_true]
      · have n1 : ¬ i < off + (0 + 1) := by omega
        have n2 : ¬ i < off + 0 + 1 := by omega
        simp only [h1, n1, n2, if_false]
  · rw [if_neg h0] at hl hp ⊢
    rw [if_neg h0] at hl
    have hp2 : (padZ b (off + k)).length = max b.length (off + k) := padZ_len
    rw [hp, hl]
    rw [putL_get (by rw [hp2]; simp; omega), padZ_get, List.length_take, show min k s.length = k by omega]
    by_cases e : off + k = i
    · subst e
      rw [if_pos rfl, if_pos (by omega), if_neg (by omega), if_pos (by omega), List.getElem?_take_of_lt (by omega), show off + k - off = k by omega, List.getElem?_eq_getElem hk]
    · rw [if_neg e]
      by_cases h1 : i < off
      · rw [if_pos h1, if_pos (show i < max b.length (off + k) by omega), if_pos h1]
        by_cases h2 : i < b.length
        · rw [if_pos h2, if_pos h2]
        · rw [if_neg h2, if_neg h2, if_pos (show i < off + k by omega), if_pos (show i < off + (k + 1) by omega)]
      · by_cases h3 : i < off + k
        · have m1 : i < max b.length (off + k) := by omega
          have m2 : i < off + (k + 1) := by omega
          simp only [h1, h3, m1, m2, if_true, if_false]
          rw [List.getElem?_take_of_lt (by omega), List.getElem?_take_of_lt (by omega)]
        · have m2 : ¬ i < off + (k + 1) := by omega
          have m3 : ¬ i < off + k + 1 := by omega
          by_cases h2 : i < b.length
          · have m1 : i < max b.length (off + k) := by omega
            simp only [h1, h2, h3, m1, m2, if_true, if_false]
          · have m1 : ¬ i < max b.length (off + k) := by omega
            simp only [h1, h2, h3, m1, m2, m3, if_false]

theorem putK_all {b : List UInt8} {w : Wr} (h : w.s.size ≠ 0) : putK b w.off w.s.data.toList w.s.size = putW b w := by
  unfold putK putW padZ
  rw [if_neg h, List.take_of_length_le (by rw [Array.length_toList]; exact Nat.le_refl _)]

theorem putW_none {b : List UInt8} {w : Wr} (h : w.s.size = 0) : padZ b w.off = putW b w := by
  have e : w.s.data.toList = [] := List.eq_nil_of_length_eq_zero (by rw [Array.length_toList]; exact h)
  unfold putW padZ putL
  rw [e, h]
  simp

/-! ### Changes and writes, with what was synced -/

def chL (s : Dk) : List (Ch × Bool) := s.cs.map (·, true) ++ s.cp.map (·, false)
def wrL (t : Th) : List (Wr × Bool) := t.syn.map (·, true) ++ t.pen.map (·, false)

theorem chL_fst {s : Dk} : (chL s).map (·.1) = s.cs ++ s.cp := by simp [chL, Function.comp_def]
theorem wrL_fst {t : Th} : (wrL t).map (·.1) = t.all := by simp [wrL, Th.all, Function.comp_def]

section
variable {α : Type} {l : List (α × Bool)} {i : Nat}

/-- The first ones synced. -/
def synTo (l : List (α × Bool)) (i : Nat) : List (α × Bool) := (l.take i).map (fun x => (x.1, true)) ++ l.drop i
theorem synTo_zero : synTo l 0 = l := by simp [synTo]
theorem synTo_len : (synTo l i).length = l.length := by simp [synTo]; omega
theorem synTo_get (h : i < l.length) : (synTo l i)[i]'(by rw [synTo_len]; exact h) = l[i] := by
  unfold synTo
  rw [List.getElem_append_right (by simp; omega)]
  simp [Nat.min_eq_left (Nat.le_of_lt h)]
theorem synTo_set (h : i < l.length) : (synTo l i).set i (l[i].1, true) = synTo l (i + 1) := by
  unfold synTo
  have hl : ((l.take i).map fun x => (x.1, true)).length = i := by simp; omega
  rw [List.set_append_right _ _ (by omega), hl, Nat.sub_self, List.drop_eq_getElem_cons h, List.set_cons_zero, List.take_succ_eq_append_getElem h, List.map_append]
  simp
theorem synTo_all (h : l.length ≤ i) : synTo l i = l.map fun x => (x.1, true) := by
  unfold synTo
  rw [List.take_of_length_le h, List.drop_of_length_le h, List.append_nil]
end

theorem wrL_syn {t : Th} : (wrL t).map (fun x => (x.1, true)) = wrL ⟨t.all, []⟩ := by
  simp [wrL, Th.all, Function.comp_def]
theorem chL_syn {s : Dk} : (chL s).map (fun x => (x.1, true)) = chL { s with cs := s.cs ++ s.cp, cp := [] } := by
  simp [chL, Function.comp_def]

/-! ### Names, brought in one by one -/

theorem insO_take {α : Type} [DecidableEq α] {lt : α → α → Bool} (H : LtOk lt) {x : α} : ∀ {l : List α} {k : Nat} (hk : k ≤ l.length), (∀ j (hj : j < k), lt (l[j]'(by omega)) x = true) → (∀ (h : k < l.length), lt l[k] x = false) →
    insO lt x l = if h : k < l.length then (if l[k] = x then l else l.take k ++ x :: l.drop k) else l.take k ++ x :: l.drop k
  | [], k, hk, _, _ => by
    have : k = 0 := by simpa using hk
    subst this
    simp [insO]
  | y :: r, 0, hk, h1, h2 => by
    have hy := h2 (by simp)
    simp only [List.getElem_cons_zero] at hy
    unfold insO
    simp only [List.length_cons, Nat.zero_lt_succ, dite_true, List.getElem_cons_zero, List.take_zero, List.drop_zero, List.nil_append, hy, Bool.false_eq_true, if_false]
    by_cases e : y = x
    · subst e; simp [H.irr]
    · rw [if_neg e]
      cases c : lt x y with
      | true => simp
      | false => exact absurd (H.tri _ _ hy c) e
  | y :: r, k + 1, hk, h1, h2 => by
    have hy := h1 0 (by omega)
    simp only [List.getElem_cons_zero] at hy
    have ih := insO_take H (x := x) (l := r) (k := k) (by simpa using hk) (fun j hj => by simpa using h1 (j + 1) (by omega)) (fun h => h2 (Nat.succ_lt_succ h))
    unfold insO
    rw [H.asy _ _ hy, if_neg (by simp), if_pos hy, ih]
    by_cases h : k < r.length
    · rw [dif_pos h, dif_pos (by simpa using h)]
      simp only [List.getElem_cons_succ, List.take_succ_cons, List.drop_succ_cons]
      split <;> simp
    · rw [dif_neg h, dif_neg (by simpa using h)]
      simp

theorem insO_len {α : Type} {lt : α → α → Bool} {x : α} : ∀ {l : List α}, (insO lt x l).length ≤ l.length + 1
  | [] => by simp [insO]
  | y :: r => by
    have := insO_len (lt := lt) (x := x) (l := r)
    unfold insO
    split
    · simp
    · split
      · simp; omega
      · simp

/-- Names that are there, of some. -/
structure NmP (s : Dk) (l ys : List Nm) : Prop where
  srt : SSrt ltS ys
  mem : ∀ x, x ∈ ys ↔ x ∈ l ∧ (dlook s.now x).isSome = true
  len : ys.length ≤ l.length

theorem NmP.nil {s : Dk} : NmP s [] [] := ⟨.nil, fun x => by simp, Nat.le_refl _⟩
theorem NmP.skip {s : Dk} {l ys : List Nm} {x : Nm} (H : NmP s l ys) (h : (dlook s.now x).isSome = false) : NmP s (l ++ [x]) ys := by
  refine ⟨H.srt, fun y => ?_, ?_⟩
  · rw [H.mem, List.mem_append, List.mem_singleton]
    constructor
    · rintro ⟨a, b⟩; exact ⟨.inl a, b⟩
    · rintro ⟨a | rfl, b⟩
      · exact ⟨a, b⟩
      · rw [h] at b; cases b
  · rw [List.length_append]; have := H.len; simp; omega
theorem NmP.put {s : Dk} {l ys : List Nm} {x : Nm} (H : NmP s l ys) (h : (dlook s.now x).isSome = true) : NmP s (l ++ [x]) (insO ltS x ys) := by
  refine ⟨insO_srt ltS_ok H.srt, fun y => ?_, ?_⟩
  · rw [insO_mem ltS_ok, H.mem, List.mem_append, List.mem_singleton]
    constructor
    · rintro (rfl | ⟨a, b⟩)
      · exact ⟨.inr rfl, h⟩
      · exact ⟨.inl a, b⟩
    · rintro ⟨a | rfl, b⟩
      · exact .inr ⟨a, b⟩
      · exact .inl rfl
  · have := H.len
    have := insO_len (lt := ltS) (x := x) (l := ys)
    rw [List.length_append]; simp; omega

def saidBy (l : List Ch) : List Nm := l.flatMap fun c => [c.A, c.B]

theorem NmP.all {s : Dk} {ys : List Nm} (H : NmP s (saidBy (s.cs ++ s.cp)) ys) (ho : OkL [] (s.cs ++ s.cp)) (hf : s.off = false) : ys = mNames s := by
  unfold mNames
  rw [hf, if_neg (by decide)]
  refine SSrt.ext ltS_ok H.srt (sortO_srt ltS_ok _) fun x => ?_
  rw [H.mem, sortO_mem ltS_ok, ← dlook_key]
  refine ⟨fun h => h.2, fun h => ⟨?_, h⟩⟩
  obtain ⟨c, hc, e⟩ := look_said ho h
  unfold saidBy
  rw [List.mem_flatMap]
  refine ⟨c, hc, ?_⟩
  rcases e with rfl | rfl <;> simp

/-! ### What a crash leaves -/

/-- Which of a thing's writes stay; synced ones do. -/
def prW : List (Wr × Bool) → List Int → List Wr × List Int
  | [], f => ([], f)
  | (w, true) :: r, f => (w :: (prW r f).1, (prW r f).2)
  | (w, false) :: r, f => if fateOf f % 2 = 1 then (w :: (prW r f.tail).1, (prW r f.tail).2) else prW r f.tail

theorem prW_pen : ∀ (l : List Wr) (f : List Int), prW (l.map (·, false)) f = crW l f
  | [], f => rfl
  | w :: r, f => by
    rw [List.map_cons, prW, crW, prW_pen r]
theorem prW_wrL {t : Th} {f : List Int} : prW (wrL t) f = (t.syn ++ (crW t.pen f).1, (crW t.pen f).2) := by
  unfold wrL
  have : ∀ l : List Wr, prW (l.map (·, true) ++ t.pen.map (·, false)) f = (l ++ (crW t.pen f).1, (crW t.pen f).2) := by
    intro l
    induction l with
    | nil => exact prW_pen _ _
    | cons w l ih => rw [List.map_cons, List.cons_append, prW, ih]; rfl
  exact this t.syn

section
variable {U : List Nm} {N : Nat} {s : Dk}

theorem cut_inv {k : Nat} (H : s.Inv U N) : ({ s with cs := s.cs ++ s.cp.take k, cp := [] } : Dk).Inv U N := by
  have hsub : ∀ c ∈ s.cs ++ s.cp.take k, c ∈ s.cs ++ s.cp := fun c hc => by
    rcases List.mem_append.1 hc with hc | hc
    · exact List.mem_append_left _ hc
    · exact List.mem_append_right _ (List.mem_of_mem_take hc)
  refine ⟨?_, ?_, ?_, ?_, H.ar, ?_, H.lt, H.lw, H.wr⟩
  · intro c hc; dsimp only at hc; rw [List.append_nil] at hc; exact H.nm c (hsub c hc)
  · intro a n hc; dsimp only at hc; rw [List.append_nil] at hc; exact H.num a n (hsub _ hc)
  · dsimp only; rw [List.append_nil]
    have := H.ok
    rw [← List.take_append_drop k s.cp, ← List.append_assoc] at this
    exact this.left
  · dsimp only; rw [List.append_nil]
    exact H.inj.sublist ((List.Sublist.append (List.Sublist.refl _) (List.take_sublist _ _)).filterMap _)
  · dsimp only; rw [List.append_nil]
    have := H.lc
    rw [List.length_append] at this ⊢
    rw [List.length_take]; omega

theorem crT_inv {ns : List Nat} {f : List Int} (H : s.Inv U N) : ({ s with th := (ns.foldl crT (s.th, f)).1 } : Dk).Inv U N := by
  have hth : ∀ (ns : List Nat) (y : List Th × List Int), (∀ t ∈ y.1, t.all.length ≤ N ∧ ∀ w ∈ t.all, w.off + w.s.size ≤ 1048576) →
      (ns.foldl crT y).1.length = y.1.length ∧ ∀ t ∈ (ns.foldl crT y).1, t.all.length ≤ N ∧ ∀ w ∈ t.all, w.off + w.s.size ≤ 1048576 := by
    intro ns
    induction ns with
    | nil => intro y hy; exact ⟨rfl, hy⟩
    | cons n ns ih =>
      intro y hy
      obtain ⟨h1, h2⟩ := ih (crT y n) fun t ht => by
        unfold crT at ht
        obtain ⟨j, hj, rfl⟩ := List.mem_iff_getElem.1 ht
        rw [List.getElem_modify]
        have hj' : j < y.1.length := by simpa using hj
        have hm := hy _ (List.getElem_mem hj')
        split
        · obtain ⟨m1, m2⟩ := hm
          unfold Th.all at m1 m2 ⊢
          dsimp only
          rw [List.append_nil]
          refine ⟨?_, fun w hw' => ?_⟩
          · have := crW_le (l := y.1[j].pen) (f := y.2)
            rw [List.length_append] at m1 ⊢; omega
          · rcases List.mem_append.1 hw' with hw' | hw'
            · exact m2 w (List.mem_append_left _ hw')
            · exact m2 w (List.mem_append_right _ (crW_mem hw'))
        · exact hm
      refine ⟨?_, h2⟩
      rw [List.foldl_cons, h1]
      unfold crT; simp
  obtain ⟨t1, t2⟩ := hth ns (s.th, f) fun t ht => ⟨H.lw t ht, H.wr t ht⟩
  refine ⟨H.nm, fun a n hm => ?_, H.ok, H.inj, H.ar, H.lc, ?_, fun t ht => (t2 t ht).1, fun t ht => (t2 t ht).2⟩
  · dsimp only; rw [t1]; exact H.num a n hm
  · dsimp only; rw [t1]; exact H.lt

theorem crT_len {ns : List Nat} {y : List Th × List Int} : (ns.foldl crT y).1.length = y.1.length := by
  induction ns generalizing y with
  | nil => rfl
  | cons n ns ih => rw [List.foldl_cons, ih]; unfold crT; simp

theorem namedL_succ {D : Dir} {m : Nat} : namedL D (m + 1) = namedL D m ++ (if D.any (fun x => decide (x.2 = m)) then [m] else []) := by
  unfold namedL
  rw [List.range_succ, List.filter_append]
  congr 1
  by_cases h : (D.any fun x => decide (x.2 = m)) = true
  · rw [if_pos h, List.filter_cons_of_pos (by exact h)]; rfl
  · rw [if_neg h, List.filter_cons_of_neg (by exact h)]; rfl
end

theorem stepD_ne {s : Dk} {e : Int} {f : Dk → Dk} (h : e ≠ 0) : stepD s e f = (e, s) := if_pos h
theorem stepD_one {s : Dk} {e : Int} {f : Dk → Dk} (h : e = 0) (ha : s.armed = 1) : stepD s e f = (22, { s with armed := 0, off := true }) := by
  unfold stepD; rw [if_neg (fun g => g h), if_pos ha]
theorem stepD_ok {s : Dk} {e : Int} {f : Dk → Dk} (h : e = 0) (ha : s.armed ≠ 1) : stepD s e f = (0, f { s with armed := s.armed - 1 }) := by
  unfold stepD; rw [if_neg (fun g => g h), if_neg ha]

/-! ### Names that may be -/

section
variable {U : List Nm} {N : Nat} {s : Dk} {a b : Nm}

theorem refE_ne {e : Int} {l : List Nm} (h : e ≠ 0) : refE s e l ≠ 0 := by
  unfold refE
  split
  · decide
  · first | (rw [if_pos h]; exact h) | exact h

theorem make_inv' (H : s.Inv U N) (ha : okN a = true → a ∈ U) : (mMake s a).2.Inv U (N + 1) := by
  by_cases h : okN a = true
  · exact make_inv H (ha h)
  · unfold mMake
    rw [stepD_ne (refE_ne (by unfold namesE; simp [h]))]
    exact H.mono (Nat.le_succ _)

theorem rename_inv' (H : s.Inv U N) (hb : okN b = true → b ∈ U) : (mRename s a b).2.Inv U (N + 1) := by
  by_cases h : okN b = true
  · exact rename_inv H (hb h)
  · unfold mRename
    rw [stepD_ne (refE_ne (by unfold namesE; simp [h]))]
    exact H.mono (Nat.le_succ _)

end
end Go.Mh

/-! One text on a disk, whole: a save as a row of acts, cut off anywhere. -/
namespace Go.Mh
open Go

def nTemp : Nm := ⟨#[116, 101, 109, 112]⟩
def nImage : Nm := ⟨#[105, 109, 97, 103, 101]⟩

/-! ### Rows of acts -/

structure ActD where
  e : Dk → Int
  f : Dk → Dk
def ActD.go (x : ActD) (s : Dk) : Int × Dk := stepD s (x.e s) x.f

def runD : List ActD → Dk → Int × Dk
  | [], s => (0, s)
  | x :: r, s => if (x.go s).1 ≠ 0 then x.go s else runD r (x.go s).2

theorem runD_append {l m : List ActD} {s : Dk} : runD (l ++ m) s = if (runD l s).1 ≠ 0 then runD l s else runD m (runD l s).2 := by
  induction l generalizing s with
  | nil => simp [runD]
  | cons x l ih =>
    rw [List.cons_append, runD, runD]
    by_cases h : (x.go s).1 ≠ 0
    · rw [if_pos h, if_pos h, if_pos h]
    · rw [if_neg h, if_neg h, ih]

def sA (s : Dk) (a : Nat) (o : Bool) : Dk := { s with armed := a, off := o }

structure ActD.Ok (x : ActD) (s : Dk) : Prop where
  e0 : ∀ a, x.e (sA s a false) = 0
  fc : ∀ a o, x.f (sA s a o) = sA (x.f s) a o

/-- Each act may be done; ahead of each one P holds. -/
def ChainD (P : Dk → Prop) : List ActD → Dk → Prop
  | [], _ => True
  | x :: r, s => x.Ok s ∧ P s ∧ ChainD P r (x.f s)
def endD (l : List ActD) (s : Dk) : Dk := l.foldl (fun s x => x.f s) s

theorem runD_ok {P : Dk → Prop} : ∀ {l : List ActD} {s : Dk} {a : Nat}, ChainD P l s → (a = 0 ∨ l.length < a) → runD l (sA s a false) = (0, sA (endD l s) (a - l.length) false)
  | [], s, a, _, _ => rfl
  | x :: r, s, a, h, ha => by
    obtain ⟨hx, _, hr⟩ := h
    have h1 : x.go (sA s a false) = (0, sA (x.f s) (a - 1) false) := by
      unfold ActD.go
      rw [stepD_ok (hx.e0 a) (show a ≠ 1 by rcases ha with h | h; omega; simp at h; omega)]
      show ((0 : Int), x.f (sA s (a - 1) false)) = _
      rw [hx.fc]
    rw [runD, h1, if_neg (by simp), runD_ok hr (by rcases ha with h | h; omega; simp at h; omega)]
    show ((0 : Int), sA (endD r (x.f s)) (a - 1 - r.length) false) = (0, sA (endD r (x.f s)) (a - (r.length + 1)) false)
    rw [show a - 1 - r.length = a - (r.length + 1) by omega]

theorem runD_off {P : Dk → Prop} : ∀ {l : List ActD} {s : Dk} {a : Nat}, ChainD P l s → 1 ≤ a → a ≤ l.length → ∃ z, P z ∧ runD l (sA s a false) = (22, sA z 0 true)
  | [], s, a, _, h1, h2 => by simp at h2; omega
  | x :: r, s, a, h, h1, h2 => by
    obtain ⟨hx, hp, hr⟩ := h
    by_cases e : a = 1
    · subst e
      refine ⟨s, hp, ?_⟩
      have h1 : x.go (sA s 1 false) = (22, sA s 0 true) := by
        unfold ActD.go
        rw [stepD_one (hx.e0 1) rfl]
        rfl
      rw [runD, h1, if_pos (by simp)]
    · obtain ⟨z, hz, hr'⟩ := runD_off (a := a - 1) hr (by omega) (by simp at h2; omega)
      refine ⟨z, hz, ?_⟩
      have h1 : x.go (sA s a false) = (0, sA (x.f s) (a - 1) false) := by
        unfold ActD.go
        rw [stepD_ok (hx.e0 a) (show a ≠ 1 from e)]
        show ((0 : Int), x.f (sA s (a - 1) false)) = _
        rw [hx.fc]
      rw [runD, h1, if_neg (by simp)]
      exact hr'

theorem runD_inv {U : List Nm} : ∀ {l : List ActD} {s : Dk} {N : Nat}, (∀ x ∈ l, ∀ s N, Dk.Inv U N s → (x.go s).2.Inv U (N + 1)) → s.Inv U N → (runD l s).2.Inv U (N + l.length)
  | [], _, _, _, h => h
  | x :: r, s, N, hl, h => by
    have h1 := hl x List.mem_cons_self s N h
    rw [runD]
    split
    · exact h1.mono (by rw [List.length_cons]; omega)
    · have := runD_inv (l := r) (fun y hy => hl y (List.mem_cons_of_mem _ hy)) h1
      rw [List.length_cons, show N + (r.length + 1) = N + 1 + r.length by omega]
      exact this

/-! ### The acts of a save -/

def aMake (a : Nm) : ActD := ⟨fun s => refE s (namesE [a]) [], mkD a⟩
def aWrite (a : Nm) (z : Int) (w : ByteArray) : ActD := ⟨fun s => refE s (wrE a z w) [a], upT (fun t => { t with pen := t.pen ++ [⟨z.toNat, w⟩] }) a⟩
def aSync (a : Nm) : ActD := ⟨fun s => refE s (namesE [a]) [a], upT (fun t => ⟨t.all, []⟩) a⟩
def aRename (a b : Nm) : ActD := ⟨fun s => refE s (namesE [a, b]) [a], chD (.ren a b)⟩
def aSyncDir : ActD := ⟨fun s => refE s 0 [], fun s => { s with cs := s.cs ++ s.cp, cp := [] }⟩

def nP (x : ByteArray) : Nat := (x.size + 63) / 64
def pieceOf (x : ByteArray) (i : Nat) : ByteArray := x.extract (64 * i) (min (64 * i + 64) x.size)
def wrA (x : ByteArray) (l : List Nat) : List ActD := l.map fun i => aWrite nTemp ((64 * i : Nat) : Int) (pieceOf x i)
def savA (x : ByteArray) : List ActD := [aMake nTemp] ++ wrA x (List.range (nP x)) ++ [aSync nTemp] ++ [aRename nTemp nImage] ++ [aSyncDir]
def mSave (s : Dk) (x : ByteArray) : Int × Dk := if x.size > 1048576 then (2, s) else runD (savA x) s

theorem savA_len {x : ByteArray} : (savA x).length = nP x + 4 := by simp [savA, wrA]

theorem piece_size {x : ByteArray} {i : Nat} : (pieceOf x i).size ≤ 64 := by unfold pieceOf; rw [ByteArray.size_extract]; omega

theorem save_inv {U : List Nm} {N : Nat} {s : Dk} {x : ByteArray} (hI : s.Inv U N) (ht : nTemp ∈ U) (hi : nImage ∈ U) : (mSave s x).2.Inv U (N + (nP x + 4)) := by
  unfold mSave
  split
  · exact hI.mono (by omega)
  · rw [← savA_len]
    refine runD_inv (fun y hy s N h => ?_) hI
    simp only [savA, wrA, List.mem_append, List.mem_singleton, List.mem_map] at hy
    rcases hy with (((rfl | ⟨i, _, rfl⟩) | rfl) | rfl) | rfl
    · exact make_inv h ht
    · exact write_inv h (Nat.le_trans piece_size (by decide))
    · exact sync_inv h
    · exact rename_inv h hi
    · exact syncDir_inv h

/-! ### What is there -/

/-- The image, by a directory: none, or a thing of which all is synced, with these bytes. -/
def GoodD (s : Dk) (D : Dir) : Option (List UInt8) → Prop
  | none => dlook D nImage = none
  | some b => ∃ m, dlook D nImage = some m ∧ m < s.th.length ∧ (s.getT m).pen = [] ∧ bytesOf (s.getT m).syn = b
structure GoodI (s : Dk) (o : Option (List UInt8)) : Prop where
  off : s.off = false
  cp : s.cp = []
  img : GoodD s s.now o

theorem new_good : GoodI Dk.new none := ⟨rfl, rfl, rfl⟩

theorem arm_good {s : Dk} {z : Int} {o : Option (List UInt8)} (H : GoodI s o) : GoodI (mArm s z) o := ⟨H.off, H.cp, H.img⟩

theorem image_ok : okN nImage = true := by decide
theorem temp_ok : okN nTemp = true := by decide

theorem read_none {s : Dk} (H : GoodI s none) : mRead s nImage = (⟨#[]⟩, 21) := by
  have h1 : dlook s.now nImage = none := H.img
  have h2 : refE s (namesE [nImage]) [nImage] = 21 := by
    unfold refE namesE
    rw [H.off]
    simp [image_ok, h1]
  unfold mRead
  rw [h2, if_pos (by decide)]
  rfl

theorem read_some {s : Dk} {b : List UInt8} (H : GoodI s (some b)) : mRead s nImage = (bstr b, 0) := by
  obtain ⟨m, h1, _, h3, h4⟩ := H.img
  have h2 : refE s (namesE [nImage]) [nImage] = 0 := by
    unfold refE namesE
    rw [H.off]
    simp [image_ok, h1]
  unfold mRead
  rw [h2, if_neg (by decide), h1]
  show (bstr (bytesOf (s.getT m).all), (0 : Int)) = _
  unfold Th.all
  rw [h3, List.append_nil, h4]

theorem crT_same {m : Nat} : ∀ (ns : List Nat) (y : List Th × List Int), m < y.1.length → (y.1.getD m default).pen = [] → (ns.foldl crT y).1.getD m default = y.1.getD m default
  | [], _, _, _ => rfl
  | n :: ns, y, hl, hp => by
    have h1 : (crT y n).1.getD m default = y.1.getD m default := by
      unfold crT
      dsimp only
      simp only [List.getD_eq_getElem?_getD, List.getElem?_modify]
      by_cases e : n = m
      · subst e
        rw [List.getD_eq_getElem?_getD, List.getElem?_eq_getElem hl] at hp
        simp only [Option.getD_some] at hp
        rw [List.getElem?_eq_getElem hl]
        have key : ∀ t : Th, t.pen = [] → (⟨t.syn ++ (crW t.pen y.2).1, []⟩ : Th) = t := by
          rintro ⟨a, b⟩ h
          have h : b = [] := h
          subst h
          simp [crW]
        simp only [if_true]
        exact key _ hp
      · simp [e]
    rw [List.foldl_cons, crT_same ns (crT y n) (by unfold crT; simpa using hl) (by rw [h1]; exact hp), h1]

theorem crash_good {z : Dk} {f : List Int} {o : Option (List UInt8)} (H : GoodD z (dirOf (z.cs ++ z.cp.take (fateOf f % (z.cp.length + 1)))) o) : GoodI (mCrash z f) o := by
  refine ⟨rfl, rfl, ?_⟩
  have e : (mCrash z f).now = dirOf (z.cs ++ z.cp.take (fateOf f % (z.cp.length + 1))) := by
    unfold mCrash Dk.now; dsimp only; rw [List.append_nil]
  rw [e]
  cases o with
  | none => exact H
  | some b =>
    obtain ⟨m, h1, h2, h3, h4⟩ := H
    have hg : (mCrash z f).getT m = z.getT m := crT_same _ (z.th, f.tail) h2 h3
    refine ⟨m, h1, ?_, by rw [hg]; exact h3, by rw [hg]; exact h4⟩
    show m < (((namedL _ _).foldl crT (z.th, f.tail)).1).length
    rw [crT_len]; exact h2

theorem good_crash {s : Dk} {f : List Int} {o : Option (List UInt8)} (H : GoodI s o) : GoodI (mCrash s f) o := by
  refine crash_good ?_
  rw [H.cp, List.take_nil, List.append_nil]
  have := H.img
  unfold Dk.now at this
  rw [H.cp, List.append_nil] at this
  exact this

theorem crash_arm {s : Dk} {a : Nat} {o : Bool} {f : List Int} : mCrash (sA s a o) f = mCrash s f := rfl

/-! ### The bytes of pieces -/

def pcs (x : ByteArray) : List Wr := (List.range (nP x)).map fun i => ⟨64 * i, pieceOf x i⟩

theorem piece_list {x : ByteArray} {i : Nat} : (pieceOf x i).data.toList = (x.data.toList.drop (64 * i)).take 64 := by
  unfold pieceOf
  have hl : x.data.toList.length = x.size := Array.length_toList
  rw [ByteArray.data_extract, Array.toList_extract]
  show (x.data.toList.drop (64 * i)).take (min (64 * i + 64) x.size - 64 * i) = _
  by_cases h : 64 * i + 64 ≤ x.size
  · rw [show min (64 * i + 64) x.size - 64 * i = 64 by omega]
  · rw [List.take_of_length_le (by rw [List.length_drop]; omega), List.take_of_length_le (by rw [List.length_drop]; omega)]

theorem pcs_take {x : ByteArray} : ∀ i, i ≤ nP x → bytesOf (((List.range i).map fun i => (⟨64 * i, pieceOf x i⟩ : Wr))) = x.data.toList.take (64 * i)
  | 0, _ => rfl
  | i + 1, h => by
    have hl : x.data.toList.length = x.size := Array.length_toList
    have ih := pcs_take (x := x) i (by omega)
    rw [List.range_succ, List.map_append]
    unfold bytesOf at ih ⊢
    rw [List.foldl_append, ih]
    show putW (x.data.toList.take (64 * i)) ⟨64 * i, pieceOf x i⟩ = _
    have hi : 64 * i < x.size := by unfold nP at h; omega
    have hp : (pieceOf x i).data.toList.length = (pieceOf x i).size := Array.length_toList
    unfold putW
    dsimp only
    have ht : (x.data.toList.take (64 * i)).length = 64 * i := by rw [List.length_take]; omega
    rw [ht, show 64 * i + (pieceOf x i).size - 64 * i = (pieceOf x i).size by omega]
    unfold putL
    rw [List.take_append_of_le_length (by omega), List.take_of_length_le (by omega), List.drop_of_length_le (by rw [List.length_append, List.length_replicate]; omega), List.append_nil, piece_list,
      show 64 * (i + 1) = 64 * i + 64 by omega, List.take_add]

theorem pcs_bytes {x : ByteArray} : bytesOf (pcs x) = x.data.toList := by
  unfold pcs
  rw [pcs_take _ (Nat.le_refl _)]
  refine List.take_of_length_le ?_
  have hl : x.data.toList.length = x.size := Array.length_toList
  rw [hl]; unfold nP; omega

/-! ### A save -/

/-- A thing more, and changes more. -/
def stT (s : Dk) (t : Th) (c : List Ch) : Dk := { s with cp := s.cp ++ c, th := s.th ++ [t] }

section
variable {s : Dk} {t : Th} {x : ByteArray} {o : Option (List UInt8)} {U : List Nm} {N : Nat}

theorem stT_now : (stT s t [.mk nTemp s.th.length]).now = dset s.now nTemp s.th.length := by
  unfold stT Dk.now
  dsimp only
  rw [← List.append_assoc, dirOf_snoc]
  rfl

theorem stT_get {c : List Ch} : (stT s t c).getT s.th.length = t := by
  unfold Dk.getT stT
  simp [List.getD_eq_getElem?_getD]
theorem stT_old {c : List Ch} {m : Nat} (h : m < s.th.length) : (stT s t c).getT m = s.getT m := by
  unfold Dk.getT stT
  simp only [List.getD_eq_getElem?_getD]
  rw [List.getElem?_append_left h]

theorem up_st (g : Th → Th) : upT g nTemp (stT s t [.mk nTemp s.th.length]) = stT s (g t) [.mk nTemp s.th.length] := by
  unfold upT
  rw [stT_now, dlook_set, if_pos rfl]
  have e : (s.th ++ [t]).modify s.th.length g = s.th ++ [g t] := by
    apply List.ext_getElem?
    intro i
    rw [List.getElem?_modify]
    by_cases e : s.th.length = i
    · subst e; simp
    · simp only [e, if_false]
      by_cases h : i < s.th.length
      · rw [List.getElem?_append_left h, List.getElem?_append_left h]; simp
      · rw [List.getElem?_eq_none (by simp; omega), List.getElem?_eq_none (by simp; omega)]; simp
  show ({ stT s t [.mk nTemp s.th.length] with th := (s.th ++ [t]).modify s.th.length g } : Dk) = { stT s t [.mk nTemp s.th.length] with th := s.th ++ [g t] }
  rw [e]

theorem up_arm (g : Th → Th) (a : Nm) (z : Dk) (m : Nat) (w : Bool) : upT g a (sA z m w) = sA (upT g a z) m w := by
  unfold upT
  have : (sA z m w).now = z.now := rfl
  rw [this]
  cases dlook z.now a <;> rfl

theorem temp_names : namesE [nTemp] = 0 := by decide
theorem both_names : namesE [nTemp, nImage] = 0 := by decide

theorem ref_st {a : Nat} {c : List Ch} (h : (dlook (stT s t c).now nTemp).isSome = true) : refE (sA (stT s t c) a false) 0 [nTemp] = 0 := by
  unfold refE
  have : (sA (stT s t c) a false).now = (stT s t c).now := rfl
  rw [this]
  simp [sA, h]

theorem mk_some : (dlook (stT s t [.mk nTemp s.th.length]).now nTemp).isSome = true := by rw [stT_now, dlook_set, if_pos rfl]; rfl

/-- How a save goes on, from what was made. -/
theorem chain_from (P : Dk → Prop) (h1 : ∀ t, P (stT s t [.mk nTemp s.th.length])) (h2 : P (stT s ⟨pcs x, []⟩ [.mk nTemp s.th.length, .ren nTemp nImage])) (hx : x.size ≤ 1048576) :
    ∀ (l : List Nat) (t : Th), (∀ i ∈ l, i < nP x) → t.all ++ l.map (fun i => ⟨64 * i, pieceOf x i⟩) = pcs x → ChainD P (wrA x l ++ [aSync nTemp] ++ [aRename nTemp nImage] ++ [aSyncDir]) (stT s t [.mk nTemp s.th.length]) ∧
      endD (wrA x l ++ [aSync nTemp] ++ [aRename nTemp nImage] ++ [aSyncDir]) (stT s t [.mk nTemp s.th.length]) = { stT s ⟨pcs x, []⟩ [.mk nTemp s.th.length, .ren nTemp nImage] with cs := s.cs ++ (s.cp ++ [.mk nTemp s.th.length, .ren nTemp nImage]), cp := [] } := by
  intro l
  induction l with
  | nil =>
    intro t _ ht
    rw [List.map_nil, List.append_nil] at ht
    have f1 : (aSync nTemp).f (stT s t [.mk nTemp s.th.length]) = stT s ⟨pcs x, []⟩ [.mk nTemp s.th.length] := by
      show upT (fun t => (⟨t.all, []⟩ : Th)) nTemp _ = _
      rw [up_st, ht]
    have f2 : (aRename nTemp nImage).f (stT s ⟨pcs x, []⟩ [.mk nTemp s.th.length]) = stT s ⟨pcs x, []⟩ [.mk nTemp s.th.length, .ren nTemp nImage] := by
      show chD (.ren nTemp nImage) _ = _
      unfold chD stT
      dsimp only
      rw [List.append_assoc]
      rfl
    have c1 : (aSync nTemp).Ok (stT s t [.mk nTemp s.th.length]) := ⟨fun a => by
      show refE (sA _ a false) (namesE [nTemp]) [nTemp] = 0
      rw [temp_names]; exact ref_st mk_some, fun a o => up_arm _ _ _ _ _⟩
    have c2 : (aRename nTemp nImage).Ok (stT s ⟨pcs x, []⟩ [.mk nTemp s.th.length]) := ⟨fun a => by
      show refE (sA _ a false) (namesE [nTemp, nImage]) [nTemp] = 0
      rw [both_names]; exact ref_st mk_some, fun a o => rfl⟩
    have c3 : aSyncDir.Ok (stT s ⟨pcs x, []⟩ [.mk nTemp s.th.length, .ren nTemp nImage]) := ⟨fun a => rfl, fun a o => rfl⟩
    refine ⟨⟨c1, h1 t, ?_⟩, ?_⟩
    · rw [f1]
      refine ⟨c2, h1 _, ?_⟩
      rw [f2]
      exact ⟨c3, h2, trivial⟩
    · show aSyncDir.f ((aRename nTemp nImage).f ((aSync nTemp).f (stT s t [.mk nTemp s.th.length]))) = _
      rw [f1, f2]
      rfl
  | cons i l ih =>
    intro t hl ht
    have hi := hl i List.mem_cons_self
    have hsz := piece_size (x := x) (i := i)
    have hix : 64 * i < x.size := by unfold nP at hi; omega
    have hps : 64 * i + (pieceOf x i).size ≤ x.size := by unfold pieceOf; rw [ByteArray.size_extract]; omega
    have f1 : (aWrite nTemp ((64 * i : Nat) : Int) (pieceOf x i)).f (stT s t [.mk nTemp s.th.length]) = stT s { t with pen := t.pen ++ [⟨64 * i, pieceOf x i⟩] } [.mk nTemp s.th.length] := by
      show upT _ nTemp _ = _
      rw [up_st]
      rfl
    have c1 : (aWrite nTemp ((64 * i : Nat) : Int) (pieceOf x i)).Ok (stT s t [.mk nTemp s.th.length]) := ⟨fun a => by
      show refE (sA _ a false) (wrE nTemp ((64 * i : Nat) : Int) (pieceOf x i)) [nTemp] = 0
      have : wrE nTemp ((64 * i : Nat) : Int) (pieceOf x i) = 0 := by
        unfold wrE
        rw [if_neg (fun h => by omega), temp_names]
      rw [this]
      exact ref_st mk_some, fun a o => up_arm _ _ _ _ _⟩
    obtain ⟨g1, g2⟩ := ih { t with pen := t.pen ++ [⟨64 * i, pieceOf x i⟩] } (fun j hj => hl j (List.mem_cons_of_mem _ hj)) (by
      rw [← ht]; unfold Th.all; simp)
    refine ⟨⟨c1, h1 t, ?_⟩, ?_⟩
    · rw [f1]; exact g1
    · show endD (wrA x l ++ [aSync nTemp] ++ [aRename nTemp nImage] ++ [aSyncDir]) ((aWrite nTemp ((64 * i : Nat) : Int) (pieceOf x i)).f (stT s t [.mk nTemp s.th.length])) = _
      rw [f1]; exact g2

theorem chain_save (P : Dk → Prop) (h0 : P s) (h1 : ∀ t, P (stT s t [.mk nTemp s.th.length])) (h2 : P (stT s ⟨pcs x, []⟩ [.mk nTemp s.th.length, .ren nTemp nImage])) (hx : x.size ≤ 1048576) :
    ChainD P (savA x) s ∧ endD (savA x) s = { stT s ⟨pcs x, []⟩ [.mk nTemp s.th.length, .ren nTemp nImage] with cs := s.cs ++ (s.cp ++ [.mk nTemp s.th.length, .ren nTemp nImage]), cp := [] } := by
  obtain ⟨g1, g2⟩ := chain_from (s := s) P h1 h2 hx (List.range (nP x)) ⟨[], []⟩ (fun i h => List.mem_range.1 h) rfl
  exact ⟨⟨⟨fun a => rfl, fun a o => rfl⟩, h0, g1⟩, g2⟩

/-- The image behind a crash of what a save has left. -/
theorem crash_mid (H : GoodI s o) {f : List Int} : GoodI (mCrash (stT s t [.mk nTemp s.th.length]) f) o := by
  refine crash_good ?_
  have hi : ∀ D, dlook D nImage = dlook s.now nImage → GoodD (stT s t [.mk nTemp s.th.length]) D o := by
    intro D hD
    have := H.img
    cases o with
    | none => exact hD.trans this
    | some b =>
      obtain ⟨m, h1, h2, h3, h4⟩ := this
      refine ⟨m, hD.trans h1, by unfold stT; simp; omega, ?_, ?_⟩
      · rw [stT_old h2]; exact h3
      · rw [stT_old h2]; exact h4
  refine hi _ ?_
  have hn : s.now = dirOf s.cs := by unfold Dk.now; rw [H.cp, List.append_nil]
  have hc : (stT s t [.mk nTemp s.th.length]).cp = [.mk nTemp s.th.length] := by unfold stT; dsimp only; rw [H.cp]; rfl
  have hs : (stT s t [.mk nTemp s.th.length]).cs = s.cs := rfl
  rw [hc, hs, hn]
  generalize fateOf f % (List.length [Ch.mk nTemp s.th.length] + 1) = k
  cases k with
  | zero => simp
  | succ k =>
    rw [List.take_succ_cons, List.take_nil, dirOf_snoc]
    show dlook (dset (dirOf s.cs) nTemp s.th.length) nImage = _
    rw [dlook_set, if_neg (by decide)]

theorem crash_end (H : GoodI s o) {f : List Int} : GoodI (mCrash (stT s ⟨pcs x, []⟩ [.mk nTemp s.th.length, .ren nTemp nImage]) f) o ∨ GoodI (mCrash (stT s ⟨pcs x, []⟩ [.mk nTemp s.th.length, .ren nTemp nImage]) f) (some x.data.toList) := by
  have hn : s.now = dirOf s.cs := by unfold Dk.now; rw [H.cp, List.append_nil]
  have hc : (stT s ⟨pcs x, []⟩ [.mk nTemp s.th.length, .ren nTemp nImage]).cp = [.mk nTemp s.th.length, .ren nTemp nImage] := by unfold stT; dsimp only; rw [H.cp]; rfl
  have hs : (stT s ⟨pcs x, []⟩ [.mk nTemp s.th.length, .ren nTemp nImage]).cs = s.cs := rfl
  have old : ∀ D, dlook D nImage = dlook s.now nImage → GoodD (stT s ⟨pcs x, []⟩ [.mk nTemp s.th.length, .ren nTemp nImage]) D o := by
    intro D hD
    have := H.img
    cases o with
    | none => exact hD.trans this
    | some b =>
      obtain ⟨m, h1, h2, h3, h4⟩ := this
      refine ⟨m, hD.trans h1, by unfold stT; simp; omega, ?_, ?_⟩
      · rw [stT_old h2]; exact h3
      · rw [stT_old h2]; exact h4
  have e1 : dlook (dset (dirOf s.cs) nTemp s.th.length) nImage = dlook s.now nImage := by rw [dlook_set, if_neg (by decide), hn]
  have hk : ∀ k, (k = 0 ∨ k = 1 ∨ ∃ j, k = j + 2) := fun k => by
    match k with
    | 0 => exact .inl rfl
    | 1 => exact .inr (.inl rfl)
    | j + 2 => exact .inr (.inr ⟨j, rfl⟩)
  rcases hk (fateOf f % ((stT s ⟨pcs x, []⟩ [.mk nTemp s.th.length, .ren nTemp nImage]).cp.length + 1)) with e | e | ⟨j, e⟩
  · left
    refine crash_good ?_
    rw [e, hc, hs]
    refine old _ ?_
    rw [hn]; simp
  · left
    refine crash_good ?_
    rw [e, hc, hs]
    refine old _ ?_
    rw [List.take_succ_cons, List.take_zero, dirOf_snoc]
    exact e1
  · right
    refine crash_good ?_
    rw [e, hc, hs, List.take_of_length_le (by simp)]
    refine ⟨s.th.length, ?_, by unfold stT; simp, ?_, ?_⟩
    · rw [show s.cs ++ [Ch.mk nTemp s.th.length, .ren nTemp nImage] = (s.cs ++ [.mk nTemp s.th.length]) ++ [.ren nTemp nImage] by simp, dirOf_snoc, dirOf_snoc]
      show dlook (dset (ddel (dset (dirOf s.cs) nTemp s.th.length) nTemp) nImage ((dlook (dset (dirOf s.cs) nTemp s.th.length) nTemp).getD 0)) nImage = _
      rw [dlook_set, if_pos rfl, dlook_set, if_pos rfl]
      rfl
    · rw [stT_get]
    · rw [stT_get]; exact pcs_bytes

/-- A save that is not cut off. -/
theorem save_good (H : GoodI s o) (hx : x.size ≤ 1048576) (ha : s.armed = 0 ∨ nP x + 4 < s.armed) :
    (mSave s x).1 = 0 ∧ GoodI (mSave s x).2 (some x.data.toList) ∧ (mSave s x).2.armed = s.armed - (nP x + 4) ∧ (mSave s x).2.now = dset (ddel (dset s.now nTemp s.th.length) nTemp) nImage s.th.length := by
  obtain ⟨g1, g2⟩ := chain_save (s := s) (x := x) (fun _ => True) trivial (fun _ => trivial) trivial hx
  have es : s = sA s s.armed false := by
    have := H.off
    cases s; simp at this; subst this; rfl
  have e : mSave s x = (0, sA (endD (savA x) s) (s.armed - (nP x + 4)) false) := by
    unfold mSave
    rw [if_neg (by omega)]
    conv => lhs; rw [es]
    rw [runD_ok g1 (by rw [savA_len]; exact ha), savA_len]
  rw [e, g2]
  have hnow : (sA { stT s ⟨pcs x, []⟩ [.mk nTemp s.th.length, .ren nTemp nImage] with cs := s.cs ++ (s.cp ++ [.mk nTemp s.th.length, .ren nTemp nImage]), cp := [] } (s.armed - (nP x + 4)) false).now = dset (ddel (dset s.now nTemp s.th.length) nTemp) nImage s.th.length := by
    unfold Dk.now sA
    dsimp only
    rw [List.append_nil, show s.cs ++ (s.cp ++ [Ch.mk nTemp s.th.length, .ren nTemp nImage]) = ((s.cs ++ s.cp) ++ [.mk nTemp s.th.length]) ++ [.ren nTemp nImage] by simp, dirOf_snoc, dirOf_snoc]
    show dset (ddel (dset (dirOf (s.cs ++ s.cp)) nTemp s.th.length) nTemp) nImage ((dlook (dset (dirOf (s.cs ++ s.cp)) nTemp s.th.length) nTemp).getD 0) = _
    rw [dlook_set, if_pos rfl]
    rfl
  refine ⟨rfl, ⟨rfl, rfl, ?_⟩, rfl, hnow⟩
  rw [hnow]
  refine ⟨s.th.length, ?_, by simp [sA, stT], ?_, ?_⟩
  · rw [dlook_set, if_pos rfl]
  · show ((stT s ⟨pcs x, []⟩ [.mk nTemp s.th.length, .ren nTemp nImage]).getT s.th.length).pen = []
    rw [stT_get]
  · show bytesOf ((stT s ⟨pcs x, []⟩ [.mk nTemp s.th.length, .ren nTemp nImage]).getT s.th.length).syn = _
    rw [stT_get]; exact pcs_bytes

/-- A save that is cut off. -/
theorem save_bad (H : GoodI s o) (hx : x.size ≤ 1048576) (h1 : 1 ≤ s.armed) (h2 : s.armed ≤ nP x + 4) :
    (mSave s x).1 = 22 ∧ (mSave s x).2.off = true ∧ ∀ f, GoodI (mCrash (mSave s x).2 f) o ∨ GoodI (mCrash (mSave s x).2 f) (some x.data.toList) := by
  obtain ⟨g1, g2⟩ := chain_save (s := s) (x := x) (fun z => ∀ f, GoodI (mCrash z f) o ∨ GoodI (mCrash z f) (some x.data.toList)) (fun f => .inl (good_crash H)) (fun t f => .inl (crash_mid H)) (fun f => crash_end H) hx
  have es : s = sA s s.armed false := by
    have := H.off
    cases s; simp at this; subst this; rfl
  obtain ⟨z, hz, hr⟩ := runD_off (a := s.armed) g1 h1 (by rw [savA_len]; exact h2)
  have e : mSave s x = (22, sA z 0 true) := by
    unfold mSave
    rw [if_neg (by omega)]
    conv => lhs; rw [es]
    exact hr
  rw [e]
  exact ⟨rfl, rfl, hz⟩

theorem save_off (ho : s.off = true) (hx : x.size ≤ 1048576) : mSave s x = (22, s) := by
  unfold mSave
  rw [if_neg (by omega)]
  have : (aMake nTemp).go s = (22, s) := by
    have hr : refE s (namesE [nTemp]) [] = 22 := by unfold refE; rw [ho]; rfl
    show stepD s (refE s (namesE [nTemp]) []) (mkD nTemp) = _
    rw [hr]; rfl
  show runD (aMake nTemp :: _) s = _
  rw [runD, this, if_pos (by simp)]

end
end Go.Mh

/-! Parts in a part: one more, one instead of another. -/
namespace Go.Mh
open Go

section
variable {h0 h : Heap} {L X Y Z l : List Res} {r : Res} {j p : Nat}

theorem Own.mid (o : Own h0 h (X ++ (Y ++ (r :: Z)))) : Own h0 h (X ++ (r :: (Y ++ Z))) := by
  have o1 := o.comm
  rw [List.append_assoc] at o1
  have o2 : Own h0 h (sepR Y :: r :: (Z ++ X)) := o1.sep
  have o3 := (o2.swap).rot
  have o4 : Own h0 h (sepR Y :: ((Z ++ X) ++ [r])) := o3
  have o5 := o4.unsep
  have o6 : Own h0 h ((Y ++ Z) ++ (X ++ [r])) := by
    have e : Y ++ ((Z ++ X) ++ [r]) = (Y ++ Z) ++ (X ++ [r]) := by simp
    rw [← e]; exact o5
  have o7 := o6.comm
  have e : (X ++ [r]) ++ (Y ++ Z) = X ++ (r :: (Y ++ Z)) := by simp
  rw [← e]; exact o7

theorem Own.mid' (o : Own h0 h (X ++ (r :: (Y ++ Z)))) : Own h0 h (X ++ (Y ++ (r :: Z))) := by
  have e : X ++ (r :: (Y ++ Z)) = (X ++ [r]) ++ (Y ++ Z) := by simp
  rw [e] at o
  have o1 := o.comm
  have e2 : (Y ++ Z) ++ (X ++ [r]) = Y ++ ((Z ++ X) ++ [r]) := by simp
  rw [e2] at o1
  have o2 : Own h0 h ((sepR Y :: (Z ++ X)) ++ [r]) := o1.sep
  have o3 : Own h0 h (r :: sepR Y :: (Z ++ X)) := o2.comm
  have o4 := o3.swap.unsep
  have e3 : Y ++ (r :: (Z ++ X)) = (Y ++ (r :: Z)) ++ X := by simp
  rw [e3] at o4
  exact o4.comm

/-- A part more in a part. -/
theorem Own.sepAdd (o : Own h0 h (r :: L)) (hj : L[j]? = some (sepR l)) : Own h0 h (L.set j (sepR (l ++ [r]))) := by
  have hlt : j < L.length := (List.getElem?_eq_some_iff.1 hj).1
  have o1 : Own h0 h (l ++ (r :: L.set j nilR)) := o.out (j + 1) hj
  have e : l ++ (r :: L.set j nilR) = (l ++ [r]) ++ L.set j nilR := by simp
  rw [e] at o1
  have o2 := o1.back j (List.getElem?_set_self hlt)
  rwa [List.set_set] at o2

/-- A part instead of another. -/
theorem Own.sepSet (o : Own h0 h (r :: L)) (hj : L[j]? = some (sepR l)) (hp : p < l.length) : Own h0 h (L.set j (sepR (l.set p r))) := by
  have hlt : j < L.length := (List.getElem?_eq_some_iff.1 hj).1
  have o1 : Own h0 h (l ++ (r :: L.set j nilR)) := o.out (j + 1) hj
  obtain ⟨l1, y, l2, rfl, rfl⟩ : ∃ l1 y l2, l = l1 ++ (y :: l2) ∧ p = l1.length := by
    refine ⟨l.take p, l[p], l.drop (p + 1), ?_, by rw [List.length_take]; omega⟩
    rw [← List.drop_eq_getElem_cons hp, List.take_append_drop]
  have es : (l1 ++ (y :: l2)).set l1.length r = l1 ++ (r :: l2) := by
    rw [List.set_append_right _ _ (Nat.le_refl _), Nat.sub_self, List.set_cons_zero]
  rw [es]
  generalize hX : L.set j nilR = X at o1
  have e1 : (l1 ++ (y :: l2)) ++ (r :: X) = (l1 ++ [y]) ++ (l2 ++ (r :: X)) := by simp
  rw [e1] at o1
  have o2 := o1.mid
  have e2 : (l1 ++ [y]) ++ (r :: (l2 ++ X)) = l1 ++ (y :: (r :: (l2 ++ X))) := by simp
  rw [e2] at o2
  have o3 := o2.erase l1.length
  have e3 : (l1 ++ (y :: (r :: (l2 ++ X)))).eraseIdx l1.length = (l1 ++ (r :: l2)) ++ X := by
    rw [List.eraseIdx_append_of_length_le (Nat.le_refl _), Nat.sub_self, List.eraseIdx_cons_zero]
    simp
  rw [e3] at o3
  have o4 := o3.back j (by rw [← hX]; exact List.getElem?_set_self hlt)
  rwa [← hX, List.set_set] at o4

end
end Go.Mh

/-! A value built of parts of one cell each. -/
namespace Go.Mh
open Go

def setAll (cs : List Value) : List (Nat × Nat × Value) → List Value
  | [] => cs
  | (off, _, v) :: r => setAll (cs.set off v) r

def onesB (n : Nat) : List (Nat × Nat × Value) → Bool
  | [] => true
  | (off, size, _) :: r => Nat.beq size 1 && (Nat.blt off n && onesB n r)

theorem splice_set {cs : List Value} {off : Nat} {v : Value} (h : off < cs.length) (hv : v.cells = #[v]) : cs.take off ++ v.cells.toList ++ cs.drop (off + v.cells.size) = cs.set off v := by
  rw [hv, List.set_eq_take_append_cons_drop, if_pos h]; simp

theorem ones_of : ∀ {parts : List (Nat × Nat × Value)} {cs : List Value}, (∀ p ∈ parts, p.2.2.cells = #[p.2.2]) → onesB cs.length parts = true → sizesOk cs.length parts ∧ spliceAll cs parts = setAll cs parts
  | [], _, _, _ => ⟨trivial, rfl⟩
  | (off, size, v) :: r, cs, h1, h2 => by
    simp only [onesB, Bool.and_eq_true] at h2
    have hs : size = 1 := Nat.eq_of_beq_eq_true h2.1
    have ho : off < cs.length := Nat.le_of_ble_eq_true h2.2.1
    have hv := h1 (off, size, v) (List.mem_cons_self ..)
    have ih := @ones_of r (cs.set off v) (fun p hp => h1 p (List.mem_cons_of_mem _ hp)) (by rw [List.length_set]; exact h2.2.2)
    rw [List.length_set] at ih
    refine ⟨⟨by rw [show v.cells = #[v] from hv, hs]; rfl, by omega, ih.1⟩, ?_⟩
    simp only [spliceAll, setAll]
    rw [splice_set ho hv]
    exact ih.2

theorem pBuild_ones {zero cs' : List Value} {parts : List (Nat × Nat × Value)} {K : Value → Prop} (h1 : ∀ p ∈ parts, p.2.2.cells = #[p.2.2]) (h2 : onesB zero.length parts = true) (hcs : setAll zero parts = cs') (hk : K (.agg cs'.toArray)) : pBuild zero parts K := by
  have := ones_of h1 h2
  refine ⟨this.1, ?_⟩
  rw [this.2, hcs]; exact hk

end Go.Mh

namespace Go.Mh
open Go Go.ChangeShapes Go.WideShapes Go.ChangeAt Go.RowKit

section
variable {H : Type} {encD : TypeId × Value → H} {P : Program} {w : World} {e t : TypeId} {v : Value} {r : Reach} {base : Nat} {d : DataW H} {p : List MemPlace}

/-- An array of three numbers, given. -/
theorem arr3_of {k : IntKind} (ht : P.underlying t = some (.array 3 e)) (he : P.underlying e = some (.int k)) (hct : P.cellsOf t = 3) (hce : P.cellsOf e = 1) (hv : Value.okWide P w r base t v) (hd : DataW.Trod encD P w 0 (fun _ => true) true t v d p) :
    ∃ a b c : Int, v = .agg #[.int k a, .int k b, .int k c] ∧ (k.min ≤ a ∧ a ≤ k.max) ∧ (k.min ≤ b ∧ b ≤ k.max) ∧ (k.min ≤ c ∧ c ≤ k.max) := by
  simp only [Value.okWide, ht] at hv
  obtain ⟨cs, rfl, hsz, _⟩ := hv
  rw [hct] at hsz
  obtain ⟨l⟩ := cs
  match l, hsz with
  | [c0, c1, c2], _ =>
    obtain ⟨fuel, hf⟩ := hd
    cases fuel with
    | zero => simp [DataW.trod] at hf
    | succ n =>
      simp only [Value.cells] at hf
      unfold DataW.trod at hf
      rw [ht] at hf
      have r3 : List.range 3 = [0, 1, 2] := rfl
      simp [r3, hce] at hf
      obtain ⟨_, hf⟩ := hf
      cases h0 : DataW.trod encD P w 0 (fun _ => true) true n e [c0] with
      | none => simp [h0] at hf
      | some y0 =>
        cases h1 : DataW.trod encD P w 0 (fun _ => true) true n e [c1] with
        | none => simp [h0, h1] at hf
        | some y1 =>
          cases h2 : DataW.trod encD P w 0 (fun _ => true) true n e [c2] with
          | none => simp [h0, h1, h2] at hf
          | some y2 =>
            obtain ⟨a, ea, ra⟩ := dec_int (k := k) he _ _ _ h0
            obtain ⟨b, eb, rb⟩ := dec_int (k := k) he _ _ _ h1
            obtain ⟨c, ec, rc⟩ := dec_int (k := k) he _ _ _ h2
            simp only [List.cons.injEq, and_true] at ea eb ec
            subst ea eb ec
            exact ⟨a, b, c, rfl, ra, rb, rc⟩

end
end Go.Mh

namespace Go.Mh
open Go Go.ChangeShapes Go.WideShapes Go.ChangeAt Go.RowKit

section
variable {H : Type} {encD : TypeId × Value → H} {P : Program} {w : World} {α : Type} {enc : α → List Value} {ok : α → Prop} {n : Nat} {e t : TypeId} {v : Value} {r : Reach} {base : Nat} {d : DataW H} {p : List MemPlace} {cs : List Value}

theorem view_at {fuel : Nat} {x0 : DataW H × List MemPlace} (he : ∀ a, (enc a).length = n) (ht : P.underlying t = some (.slice e)) (hn : P.cellsOf e = n) (hpos : 0 < n)
    (hdec : ∀ fuel cs x, DataW.trod encD P w 0 (fun _ => true) true fuel e cs = some x → ∃ a, cs = enc a ∧ ok a)
    (hf : DataW.trod encD P w 0 (fun _ => true) true fuel t [v] = some x0) (hsp0 : ∀ a l c, v = .slice (some a) l c → a.spot = none) :
    ∃ bl xs, VwR enc n w.heap v bl xs ∧ (∀ a ∈ xs, ok a) ∧ xs.length ≤ maxLen := by
  rcases Go.Deep.open_slice ht hf with ⟨hc, _⟩ | ⟨a, len, cap, m, fuel', D, Pl, hc, _, hle, hmx, hm, _, hx⟩
  · simp only [List.cons.injEq, and_true] at hc
    subst hc
    exact ⟨0, [], ⟨none, 0, rfl, Nat.le_refl _, .inl ⟨rfl, .inl rfl⟩⟩, by simp, by simp⟩
  · simp only [List.cons.injEq, and_true] at hc
    subst hc
    have hsp := hsp0 a len cap rfl
    simp only [if_true] at hm
    subst hm
    have hall : ∀ i, i < len → ∃ x : α, w.cells? 0 (a.add (i * n)) n = some (enc x) ∧ ok x := by
      intro i hi
      obtain ⟨cs', h1, h2⟩ := hx i (by omega)
      obtain ⟨x, rfl, hok⟩ := hdec _ _ _ h2
      rw [hn] at h1
      exact ⟨x, h1, hok⟩
    obtain ⟨xs, hl, hxs⟩ := choose_list (Q := fun i x => w.cells? 0 (a.add (i * n)) n = some (enc x) ∧ ok x) len hall
    refine ⟨a.block, xs, ?_, fun x hx' => ?_, by omega⟩
    · refine ⟨some a, m, by rw [hl], by omega, ?_⟩
      have ha : a = ⟨a.block, a.off, none⟩ := by
        obtain ⟨b, o, s⟩ := a; simp only at hsp; subst hsp; rfl
      by_cases h0 : xs = []
      · exact .inl ⟨h0, .inr ⟨_, _, by rw [← ha]⟩⟩
      · right
        have hlp : 0 < xs.length := List.length_pos_iff.2 h0
        have hcell : ∀ i (hi : i < xs.length) j, j < n → w.cell? ⟨a.block, a.off + i * n + j, none⟩ = (enc xs[i])[j]? := by
          intro i hi j hj
          have h1 := (hxs i hi).1
          unfold World.cells? at h1
          rw [if_pos (Nat.zero_le _), add_plain hsp] at h1
          have := mapM_get h1 j j (by simp [hj])
          rw [add_plain rfl] at this
          exact this
        have h00 := hcell 0 hlp 0 hpos
        simp only [World.cell?] at h00
        have hblk : ∃ c T fz, w.heap[a.block]? = some (.cells c T fz) := by
          split at h00
          · rename_i c T fz hb; exact ⟨c, T, fz, hb⟩
          · rw [List.getElem?_eq_getElem (by rw [he]; exact hpos)] at h00; cases h00
        obtain ⟨c, T, fz, hb⟩ := hblk
        have hcc : ∀ i (hi : i < xs.length) j, j < n → c[a.off + i * n + j]? = (enc xs[i])[j]? := by
          intro i hi j hj
          have := hcell i hi j hj
          simpa [World.cell?, hb] using this
        have hrl := row_length he xs
        have hmid : (c.toList.drop a.off).take (xs.length * n) = row enc xs := by
          apply List.ext_getElem?
          intro k
          by_cases hk : k < xs.length * n
          · have hi : k / n < xs.length := (Nat.div_lt_iff_lt_mul hpos).2 hk
            have hj : k % n < n := Nat.mod_lt _ hpos
            have hkk : k / n * n + k % n = k := by rw [Nat.mul_comm]; exact Nat.div_add_mod k n
            have g := row_get he hi hj []
            rw [List.append_nil, hkk] at g
            rw [g, ← hcc _ hi _ hj, List.getElem?_take_of_lt hk, List.getElem?_drop, Nat.add_assoc, hkk]
            simp
          · rw [List.getElem?_eq_none (by simp; omega), List.getElem?_eq_none (by omega)]
        have hsize : a.off + xs.length * n ≤ c.size := by
          have hi : xs.length - 1 < xs.length := by omega
          have h1 := hcc (xs.length - 1) hi (n - 1) (by omega)
          rw [List.getElem?_eq_getElem (by rw [he]; omega)] at h1
          have h2 := (Array.getElem?_eq_some_iff.1 h1).1
          have h3 : (xs.length - 1) * n + n = xs.length * n := by rw [← Nat.succ_mul]; congr 1; omega
          omega
        refine ⟨a.off, c.toList.take a.off, c.toList.drop (a.off + xs.length * n), T, fz, by rw [← ha], ?_, by simp; omega⟩
        rw [hb, ← hmid]
        have : c.toList.take a.off ++ (c.toList.drop a.off).take (xs.length * n) ++ c.toList.drop (a.off + xs.length * n) = c.toList := by
          rw [← List.drop_drop, List.append_assoc, List.take_append_drop, List.take_append_drop]
        rw [this]
    · obtain ⟨i, hi, rfl⟩ := List.mem_iff_getElem.1 hx'
      exact (hxs i hi).2


/-- Cells of a type, given: they can be gone through, and slices among them begin at no spot. -/
def Opn (encD : TypeId × Value → H) (P : Program) (w : World) (t : TypeId) (cs : List Value) : Prop :=
  (∃ fuel x, DataW.trod encD P w 0 (fun _ => true) true fuel t cs = some x) ∧ ∀ v ∈ cs, ∀ a l c, v = .slice (some a) l c → a.spot = none

theorem cell_spot {a : Addr} {l c : Nat} (h : Cell.okWide P w r base t (.slice (some a) l c)) : a.spot = none := by
  unfold Cell.okWide at h
  cases hu : P.underlying t with
  | none => simp [hu, Cell.ok] at h
  | some u =>
    cases u <;> simp [hu, Cell.ok] at h
    exact h.2.2.2.1

theorem Opn.of_slice (ht : P.underlying t = some (.slice e)) (hv : Value.okWide P w r base t v) (hd : DataW.Trod encD P w 0 (fun _ => true) true t v d p) : Opn encD P w t [v] := by
  obtain ⟨a0, len0, cap0, rfl⟩ := okWide_slice ht hv
  obtain ⟨fuel, hf⟩ := hd
  refine ⟨⟨fuel, _, hf⟩, fun v hv' a l c e' => ?_⟩
  simp at hv'
  subst hv'
  injection e' with e1 e2 e3
  subst e1
  exact okWide_slice_spot ht hv

def isAgg (P : Program) (t : TypeId) : Bool := match P.underlying t with
  | some (.struct _) | some (.array _ _) => true
  | _ => false

theorem agg_of (ha : isAgg P t = true) (hn : P.cellsOf t = n) (hv : Value.okWide P w r base t v) (hd : DataW.Trod encD P w 0 (fun _ => true) true t v d p) :
    ∃ cs : List Value, v = .agg cs.toArray ∧ cs.length = n ∧ Opn encD P w t cs := by
  have : ∃ cs, v = .agg cs ∧ cs.size = P.cellsOf t ∧ Row.okWide P w r base t cs := by
    unfold Value.okWide at hv
    unfold isAgg at ha
    split at hv
    · exact hv
    · exact hv
    · rename_i h1 h2
      split at ha
      · rename_i h3; exact absurd h3 (h1 _)
      · rename_i h3; exact absurd h3 (h2 _ _)
      · cases ha
  obtain ⟨cs, rfl, hs, ts, _, _, hc⟩ := this
  obtain ⟨fuel, hf⟩ := hd
  refine ⟨cs.toList, by simp, by simpa [hn] using hs, ⟨fuel, _, hf⟩, fun v hv a l c e => ?_⟩
  obtain ⟨i, hi⟩ := List.getElem?_of_mem hv
  obtain ⟨u, _, hu⟩ := hc i v (by simpa using hi)
  rw [e] at hu
  exact cell_spot hu

def fieldOf (P : Program) (t : TypeId) (i : Nat) : Option (TypeId × Nat) := match P.underlying t with
  | some (.struct fs) => fs.toList[i]?.map fun f => (f.type, f.offset)
  | _ => none

theorem Opn.field (O : Opn encD P w t cs) (i : Nat) {ft : TypeId} {off : Nat} {cs' : List Value} (hf : fieldOf P t i = some (ft, off)) (hn : P.cellsOf ft = n) (hcs : (cs.drop off).take n = cs') : Opn encD P w ft cs' := by
  obtain ⟨⟨fuel, x, h⟩, hs⟩ := O
  unfold fieldOf at hf
  split at hf
  · rename_i fs ht
    obtain ⟨xs, m, rfl, _, _, _, hfs⟩ := DataW.trod_struct ht h
    simp only [Option.map_eq_some_iff] at hf
    obtain ⟨f, hi, e⟩ := hf
    injection e with e1 e2
    subst e1 e2 hn hcs
    refine ⟨⟨m, ?_⟩, fun v hv => hs v (List.mem_of_mem_drop (List.mem_of_mem_take hv))⟩
    have hh := hfs i f (by simpa using hi)
    obtain ⟨y, hy⟩ : ∃ y, xs[i]? = some y := by
      have : i < xs.length := by
        have := (List.getElem?_eq_some_iff.1 hi).1
        simp_all
      exact ⟨_, List.getElem?_eq_getElem this⟩
    exact ⟨y, by rw [hh, hy]⟩
  · cases hf

theorem Opn.elem {m : Nat} (O : Opn encD P w t cs) (i : Nat) {cs' : List Value} (ht : P.underlying t = some (.array m e)) (hi : i < m) (hn : P.cellsOf e = n) (hcs : (cs.drop (i * n)).take n = cs') : Opn encD P w e cs' := by
  obtain ⟨⟨fuel, x, h⟩, hs⟩ := O
  obtain ⟨xs, k, rfl, _, _, hl, hfs⟩ := DataW.trod_array ht h
  subst hn hcs
  refine ⟨⟨k, xs[i], ?_⟩, fun v hv => hs v (List.mem_of_mem_drop (List.mem_of_mem_take hv))⟩
  rw [hfs i hi, List.getElem?_eq_getElem (by omega)]

theorem Opn.int {k : IntKind} (O : Opn encD P w t [v]) (ht : P.underlying t = some (.int k)) : ∃ a : Int, v = .int k a ∧ k.min ≤ a ∧ a ≤ k.max := by
  obtain ⟨⟨fuel, x, h⟩, _⟩ := O
  obtain ⟨a, e, r⟩ := dec_int ht _ _ _ h
  simp only [List.cons.injEq, and_true] at e
  exact ⟨a, e, r⟩

theorem Opn.view (he : ∀ a, (enc a).length = n) (O : Opn encD P w t [v]) (ht : P.underlying t = some (.slice e)) (hn : P.cellsOf e = n) (hpos : 0 < n)
    (hdec : ∀ fuel cs x, DataW.trod encD P w 0 (fun _ => true) true fuel e cs = some x → ∃ a, cs = enc a ∧ ok a) : ∃ bl xs, VwR enc n w.heap v bl xs ∧ (∀ a ∈ xs, ok a) ∧ xs.length ≤ maxLen := by
  obtain ⟨⟨fuel, x, h⟩, hs⟩ := O
  exact view_at he ht hn hpos hdec h (hs v (by simp))

theorem dec_bool (he : P.underlying e = some .bool) {sp : Nat → Bool} : ∀ fuel cs x, DataW.trod encD P w 0 sp true fuel e cs = some x → ∃ a : Bool, cs = [.bool a] ∧ True := by
  intro fuel cs x h
  cases fuel with
  | zero => simp [DataW.trod] at h
  | succ m =>
    unfold DataW.trod at h
    rw [he] at h
    split at h <;> simp_all

theorem len2 {l : List Value} (h : l.length = 2) : ∃ a b, l = [a, b] := by match l, h with | [a, b], _ => exact ⟨a, b, rfl⟩
theorem len3 {l : List Value} (h : l.length = 3) : ∃ a b c, l = [a, b, c] := by match l, h with | [a, b, c], _ => exact ⟨a, b, c, rfl⟩
theorem len4 {l : List Value} (h : l.length = 4) : ∃ a b c d, l = [a, b, c, d] := by match l, h with | [a, b, c, d], _ => exact ⟨a, b, c, d, rfl⟩
theorem len5 {l : List Value} (h : l.length = 5) : ∃ a b c d e, l = [a, b, c, d, e] := by match l, h with | [a, b, c, d, e], _ => exact ⟨a, b, c, d, e, rfl⟩
theorem len6 {l : List Value} (h : l.length = 6) : ∃ a b c d e f, l = [a, b, c, d, e, f] := by match l, h with | [a, b, c, d, e, f], _ => exact ⟨a, b, c, d, e, f, rfl⟩
theorem len7 {l : List Value} (h : l.length = 7) : ∃ a b c d e f g, l = [a, b, c, d, e, f, g] := by match l, h with | [a, b, c, d, e, f, g], _ => exact ⟨a, b, c, d, e, f, g, rfl⟩
theorem len8 {l : List Value} (h : l.length = 8) : ∃ a b c d e f g i, l = [a, b, c, d, e, f, g, i] := by match l, h with | [a, b, c, d, e, f, g, i], _ => exact ⟨a, b, c, d, e, f, g, i, rfl⟩

/-- Numbers of a kind. -/
def encK (k : IntKind) (x : Int) : List Value := [.int k x]
theorem encK_len (k : IntKind) (x : Int) : (encK k x).length = 1 := rfl
def encB (x : Bool) : List Value := [.bool x]

end
end Go.Mh

/-! Arguments of which it is known how much memory they take. -/
namespace Go.Mh
open Go Go.ChangeShapes Go.WideShapes Go.ChangeAt Go.RowKit

section
variable {H : Type} {enc encD : TypeId × Value → H} {P : Program} {w W W' : World} {n : Nat} {e t : TypeId} {v : Value} {r : Reach} {base : Nat} {d : DataW H} {p : List MemPlace} {cs : List Value} {B : Nat}

/-- As law_laid; the arguments take no more memory than may be. -/
theorem law_laidS {C : Checked} {os : Os} {f : FuncId} {fn : Func} {s : ChangeSpec} {conds : List PathCond} {tb : TypeId} {X : World → Array Value → Prop}
    (hX : ∀ (w w' : World) (args : Array Value), w.heap = w'.heap → X w args → X w' args)
    (own : ownKnob C.prog.godebug = none) (started : os.Started) (noInit : C.prog.inits.idxOf? f = none) (hfn : C.prog.funcs[f]? = some fn)
    (witness : ∃ (w : World) (tape : Tape) (i : Input), w.os = os ∧ (w.forCall tape i).Shaped C.prog ∧ i.vars = [] ∧ Input.okWide C.prog (w.forCall tape i) .any w.heap.size f i ∧
      ((s.pre enc C.prog fn conds false (w.forCall tape i).memory i.args ∧ X (w.forCall tape i).memory i.args) ∧ sizedMet enc C.prog fn (OpenSpec.ofChange s) false (w.forCall tape i).memory i.args) ∧ ({} : Assume).holds C.prog (lone (Frame.enter C.prog f i.args .normal) [] (w.forCall tape i)))
    (hvars : s.vars = []) (hres : fn.resultTypes = #[tb]) (htb : C.prog.underlying tb = some .bool)
    (hspec : ∀ ds : List (DataW H), ds.length = fn.params.toList.length → s.fn H ds = { results := [.lit (.bool true)], args := ds })
    (kids : Kids C.prog (· < C.prog.types.size)) (full : ∀ t e, t < C.prog.types.size → C.prog.underlying t = some (.slice e) → 0 < C.prog.cellsOf e) (hpar : ∀ t ∈ fn.params.toList, t < C.prog.types.size)
    (hcall : ∀ (W : World) (base : Nat) (args : Array Value) (ds : List (DataW H)) (ps : List MemPlace), (∀ (j : Nat) t v, fn.params[j]? = some t → args[j]? = some v → Value.okWide C.prog W .any base t v) →
      DataW.TrodAll enc C.prog W 0 (fun _ => true) true fn.params.toList args.toList ds ps → (∀ q ∈ DataW.weightsEach C.prog fn.params.toList ds, q ≤ reachBytes) →
      CallsH C.prog f args W.heap fun v h' => v = .bool true ∧ Ext W.heap h') :
    ReturnsInHanded {} C os f .any (fun w args => (s.pre enc C.prog fn conds false w args ∧ X w args) ∧ sizedMet enc C.prog fn (OpenSpec.ofChange s) false w args) (s.post enc C.prog fn false true false false) := by
  refine returnsInHanded_of_change_and hX own started noInit hfn witness ?_
  intro W base args ds gs before hval hW hcnd hwt _ _
  have hW' := hW
  obtain ⟨p, q, hA, hV, rfl, hfz, hnd⟩ := hW
  rw [hvars] at hV
  obtain ⟨rfl, rfl⟩ := trodVars_none hV
  have hvt : s.plain.varTypes C.prog = [] := by
    have : s.plain.vars = [] := hvars
    simp [DataSpec.varTypes, this]
  rw [hvt, List.append_nil, List.append_nil] at hwt
  refine calls_of_H (hcall W base args ds p hval hA fun q hq => by simpa using List.all_eq_true.1 hwt q hq) fun v w' hs hv => ⟨v, rfl, ?_⟩
  obtain ⟨rfl, hx⟩ := hv
  have hlt : ∀ x ∈ p, x.block < W.heap.size := fun x hx => hW'.lt x (by simpa using hx)
  have hsp := hspec ds (trodAll_length hA)
  unfold ChangeSpec.post
  refine ⟨ds, [], p ++ [], [], p, [], hW', ?_, ?_, ?_, kept_of_ext hs hx _, fun h => by cases h⟩
  · rw [List.append_nil, hsp, hres]
    exact trodAll_mk1 ⟨1, by simp [DataW.trod, htb, Value.cells]⟩
  · rw [List.append_nil, hsp]
    exact trodAll_carry (DataW.TrodAll.respare kids full hpar hA fun x hx => by simpa using hlt x hx) fun x hx' => sameAt_of_ext hx (hlt x hx')
  · rw [List.append_nil, hsp, hvars]; rfl

/-- Cells of a type, given, of which no part takes more memory than B. -/
def OpnW (encD : TypeId × Value → H) (P : Program) (w : World) (B : Nat) (t : TypeId) (cs : List Value) : Prop :=
  (∃ fuel x, DataW.trod encD P w 0 (fun _ => true) true fuel t cs = some x ∧ ∀ q ∈ DataW.weights P t x.1, q ≤ B) ∧ ∀ v ∈ cs, ∀ a l c, v = .slice (some a) l c → a.spot = none

theorem OpnW.opn (O : OpnW encD P w B t cs) : Opn encD P w t cs := by
  obtain ⟨⟨fuel, x, h, _⟩, hs⟩ := O
  exact ⟨⟨fuel, x, h⟩, hs⟩

theorem agg_ofW (ha : isAgg P t = true) (hn : P.cellsOf t = n) (hv : Value.okWide P w r base t v) (hd : DataW.Trod encD P w 0 (fun _ => true) true t v d p) (hw : ∀ q ∈ DataW.weights P t d, q ≤ B) :
    ∃ cs : List Value, v = .agg cs.toArray ∧ cs.length = n ∧ OpnW encD P w B t cs := by
  obtain ⟨cs, rfl, hl, ⟨_, hs⟩⟩ := agg_of ha hn hv hd
  obtain ⟨fuel, hf⟩ := hd
  exact ⟨cs, rfl, hl, ⟨fuel, _, by simpa [Value.cells] using hf, hw⟩, hs⟩

theorem weightsEach_get {q : Nat} : ∀ {ts : List TypeId} {ds : List (DataW H)} {i : Nat} {u : TypeId} {d : DataW H}, ts[i]? = some u → ds[i]? = some d → q ∈ DataW.weights P u d → q ∈ DataW.weightsEach P ts ds
  | t :: ts, d :: ds, 0, u, x, h1, h2, hq => by
    simp at h1 h2
    subst h1 h2
    simp only [DataW.weightsEach]
    exact List.mem_append_left _ hq
  | t :: ts, d :: ds, i + 1, u, x, h1, h2, hq => by
    simp only [DataW.weightsEach]
    exact List.mem_append_right _ (weightsEach_get (by simpa using h1) (by simpa using h2) hq)
  | [], _, _, _, _, h1, _, _ => by simp at h1
  | _ :: _, [], _, _, _, _, h2, _ => by simp at h2

theorem OpnW.field (O : OpnW encD P w B t cs) (i : Nat) {ft : TypeId} {off : Nat} {cs' : List Value} (hf : fieldOf P t i = some (ft, off)) (hn : P.cellsOf ft = n) (hcs : (cs.drop off).take n = cs') : OpnW encD P w B ft cs' := by
  have O' := (O.opn.field i hf hn hcs).2
  obtain ⟨⟨fuel, x, h, hw⟩, hs⟩ := O
  refine ⟨?_, O'⟩
  unfold fieldOf at hf
  split at hf
  · rename_i fs ht
    obtain ⟨xs, m, rfl, rfl, _, _, hfs⟩ := DataW.trod_struct ht h
    simp only [Option.map_eq_some_iff] at hf
    obtain ⟨f, hi, e⟩ := hf
    injection e with e1 e2
    subst e1 e2 hn hcs
    have hh := hfs i f (by simpa using hi)
    obtain ⟨y, hy⟩ : ∃ y, xs[i]? = some y := by
      have : i < xs.length := by
        have := (List.getElem?_eq_some_iff.1 hi).1
        simp_all
      exact ⟨_, List.getElem?_eq_getElem this⟩
    refine ⟨m, y, by rw [hh, hy], fun q hq => hw q ?_⟩
    simp only [DataW.weights, ht]
    exact weightsEach_get (i := i) (by simp [hi]) (by simp [hy]) hq
  · cases hf

/-- A slice takes no more memory than may be. -/
theorem OpnW.len {α : Type} {enc : α → List Value} {bl : Nat} {xs : List α} {h : Heap} {b : Nat} (O : OpnW encD P w B t [v]) (ht : P.underlying t = some (.slice e)) (hb : P.bytesOf e = b) (H : VwR enc n h v bl xs) : xs.length * b ≤ B := by
  obtain ⟨⟨fuel, x, hx, hw⟩, _⟩ := O
  obtain ⟨bs, cap, rfl, _⟩ := H
  rcases Go.Deep.open_slice ht hx with ⟨hc, _⟩ | ⟨a, len, cap', m, fuel', D, Pl, hc, _, _, _, _, rfl, _⟩
  · simp only [List.cons.injEq, and_true] at hc
    injection hc with _ hl _
    rw [hl]; simp
  · simp only [List.cons.injEq, and_true] at hc
    injection hc with _ hl _
    have := hw (((List.range len).map D).length * P.bytesOf e + ((List.range (m - len)).map fun j => D (len + j)).length * P.bytesOf e) (by
      simp only [DataW.weights, ht]
      rw [← Nat.add_mul]
      exact List.mem_cons_self ..)
    rw [hb] at this
    simp at this
    rw [hl]; omega

end
end Go.Mh

namespace Go.Mh
open Go

/-! ### Arcs by an end -/

def Arcs.off (p : A → Nat) (l : List A) (v : Nat) : Nat := l.countP fun a => decide (p a < v)
def Arcs.cnt (p : A → Nat) (l : List A) (v : Nat) : Nat := l.countP fun a => p a == v

section
variable {p : A → Nat} {l : List A} {v n : Nat}
open Arcs

theorem off_succ : off p l (v + 1) = off p l v + cnt p l v := by
  unfold off cnt
  induction l with
  | nil => rfl
  | cons a l ih =>
    simp only [List.countP_cons, ih]
    by_cases h1 : p a < v
    · simp [h1, show p a < v + 1 by omega, show ¬ p a = v by omega]; omega
    · by_cases h2 : p a = v
      · simp [h2]; omega
      · simp [h1, h2, show ¬ p a < v + 1 by omega]

theorem off_zero : off p l 0 = 0 := by simp [off]
theorem off_le : off p l v ≤ l.length := List.countP_le_length
theorem off_mono {u : Nat} (h : u ≤ v) : off p l u ≤ off p l v := by
  induction h with
  | refl => exact Nat.le_refl _
  | step h ih => rw [Nat.succ_eq_add_one, off_succ]; omega
theorem cnt_le : cnt p l v ≤ l.length := List.countP_le_length
theorem off_cnt_le : off p l v + cnt p l v ≤ l.length := by rw [← off_succ]; exact off_le

theorem outsP_length (q : A → Bool) : ∀ (l : List A) (i : Nat), (outsP q l i).length = l.countP q
  | [], _ => rfl
  | a :: l, i => by
    simp only [outsP, List.countP_cons]
    split <;> simp [outsP_length q l, *]

theorem outsP_append (q : A → Bool) : ∀ (l m : List A) (i : Nat), outsP q (l ++ m) i = outsP q l i ++ outsP q m (i + l.length)
  | [], m, i => by simp [outsP]
  | a :: l, m, i => by
    simp only [outsP, List.cons_append, outsP_append q l m, List.length_cons]
    have e : i + 1 + l.length = i + (l.length + 1) := by omega
    rw [e]
    split <;> simp

theorem outsP_mem {q : A → Bool} : ∀ {l : List A} {i x : Nat}, x ∈ outsP q l i ↔ i ≤ x ∧ ∃ h : x - i < l.length, q (l[x - i]) = true
  | [], i, x => by simp [outsP]
  | a :: l, i, x => by
    have ih := @outsP_mem q l (i + 1) x
    have key : x ∈ outsP q (a :: l) i ↔ (x = i ∧ q a = true) ∨ x ∈ outsP q l (i + 1) := by
      simp only [outsP]
      split
      · simp [*]
      · simp [*]
    rw [key, ih]
    constructor
    · rintro (⟨rfl, hq⟩ | ⟨h1, h2, h3⟩)
      · exact ⟨Nat.le_refl _, by simp, by simpa using hq⟩
      · refine ⟨by omega, by simp; omega, ?_⟩
        have e : x - i = (x - (i + 1)) + 1 := by omega
        simp only [e, List.getElem_cons_succ]; exact h3
    · rintro ⟨h1, h2, h3⟩
      by_cases e : x = i
      · subst e; left; exact ⟨rfl, by simpa using h3⟩
      · right
        have e : x - i = (x - (i + 1)) + 1 := by omega
        simp only [e, List.getElem_cons_succ] at h3
        exact ⟨by omega, by simp at h2; omega, h3⟩

/-- What of an end's arcs stands among the first i. -/
def fill (p : A → Nat) (l : List A) (i v : Nat) : List Nat := outsP (fun a => p a == v) (l.take i) 0

theorem fill_length {i : Nat} : (fill p l i v).length = cnt p (l.take i) v := outsP_length _ _ _
theorem cnt_take_le {i : Nat} : cnt p (l.take i) v ≤ cnt p l v := (List.take_sublist i l).countP_le
theorem fill_le {i : Nat} : (fill p l i v).length ≤ cnt p l v := by rw [fill_length]; exact cnt_take_le

theorem fill_succ {i : Nat} (hi : i < l.length) : fill p l (i + 1) v = fill p l i v ++ (if p l[i] = v then [i] else []) := by
  unfold fill
  rw [List.take_succ_eq_append_getElem hi, outsP_append]
  congr 1
  have : (l.take i).length = i := by simp; omega
  rw [this, Nat.zero_add]
  simp only [outsP]
  by_cases h : p l[i] = v
  · simp [h]
  · simp [h]

theorem cnt_succ {i : Nat} (hi : i < l.length) : cnt p (l.take (i + 1)) v = cnt p (l.take i) v + (if p l[i] = v then 1 else 0) := by
  rw [← fill_length, fill_succ hi, List.length_append, fill_length]
  split <;> simp

theorem cnt_lt {i : Nat} (hi : i < l.length) : cnt p (l.take i) (p l[i]) < cnt p l (p l[i]) := by
  have h1 := cnt_succ (p := p) (v := p l[i]) hi
  have h2 : cnt p (l.take (i + 1)) (p l[i]) ≤ cnt p l (p l[i]) := cnt_take_le
  simp at h1
  omega

theorem range_set {α : Type} {f : Nat → α} {k : Nat} {x : α} : ((List.range n).map f).set k x = (List.range n).map fun v => if v = k then x else f v := by
  apply List.ext_getElem
  · simp
  · intro j h1 h2
    simp only [List.getElem_set, List.getElem_map, List.getElem_range]
    split <;> rename_i h
    · subst h; simp
    · simp [show ¬ j = k from fun e => h e.symm]

end
end Go.Mh

namespace Go.Mh
open Go

/-! ### A flood, as data -/

abbrev HP := Int × Int
def hl (p q : HP) : Bool := decide (p.2 < q.2) || (decide (p.2 = q.2) && decide (p.1 < q.1))
theorem hl_iff {p q : HP} : hl p q = true ↔ p.2 < q.2 ∨ p.2 = q.2 ∧ p.1 < q.1 := by simp [hl]

def least : List HP → Option HP
  | [] => none
  | p :: l => match least l with
    | none => some p
    | some q => if hl q p then some q else some p

theorem least_none {l : List HP} : least l = none ↔ l = [] := by
  cases l with
  | nil => simp [least]
  | cons p l =>
    simp only [least]
    split
    · simp
    · split <;> simp

theorem least_spec : ∀ {l : List HP} {p : HP}, least l = some p → p ∈ l ∧ ∀ q ∈ l, ¬ hl q p = true
  | a :: l, p, h => by
    simp only [least] at h
    split at h
    · rename_i hn
      rw [least_none] at hn
      subst hn
      simp at h; subst h
      refine ⟨List.mem_cons_self, fun q hq => ?_⟩
      simp at hq; subst hq
      rw [hl_iff]; omega
    · rename_i q hq
      obtain ⟨h1, h2⟩ := least_spec hq
      split at h
      · rename_i hlt
        simp at h; subst h
        refine ⟨List.mem_cons_of_mem _ h1, fun x hx => ?_⟩
        rcases List.mem_cons.1 hx with rfl | hx
        · rw [hl_iff] at *; omega
        · exact h2 x hx
      · rename_i hlt
        simp at h; subst h
        refine ⟨List.mem_cons_self, fun x hx => ?_⟩
        rcases List.mem_cons.1 hx with rfl | hx
        · rw [hl_iff]; omega
        · have := h2 x hx
          rw [hl_iff] at *; omega

def lookH (l : List HP) (v : Nat) : Option Int := (l.find? fun p => p.1 == (v : Int)).map (·.2)

theorem lookH_none {l : List HP} {v : Nat} : lookH l v = none ↔ ∀ p ∈ l, p.1 ≠ v := by simp [lookH]
theorem lookH_some {l : List HP} {v : Nat} {k : Int} (h : lookH l v = some k) : ((v : Int), k) ∈ l := by
  simp only [lookH, Option.map_eq_some_iff] at h
  obtain ⟨p, hp, rfl⟩ := h
  have h1 := List.find?_some hp
  have h2 := List.mem_of_find?_eq_some hp
  have : p.1 = v := by simpa using h1
  rw [← this]; exact h2

structure FS where
  hp : List HP
  dist : List Int
  arc : List Int
  order : List Nat

def FS.reach (s : FS) (v a : Nat) (far : Int) : FS :=
  if v ∈ s.order then s else match lookH s.hp v with
  | some was => if was ≤ far then s else { s with hp := ((v : Int), far) :: s.hp.erase ((v : Int), was), arc := s.arc.set v a }
  | none => { s with hp := ((v : Int), far) :: s.hp, arc := s.arc.set v a }

def arcAt (l : List A) (i : Nat) : A := l.getD i ⟨0, 0, 0⟩

def FS.scan (l : List A) (head : A → Nat) (key : Int) (s : FS) (ids : List Nat) : FS :=
  ids.foldl (fun s i => s.reach (head (arcAt l i)) i (key + (arcAt l i).w)) s

/-- A node popped. -/
def FS.pop (s : FS) (v : Nat) (key : Int) : FS := { hp := s.hp.erase ((v : Int), key), dist := s.dist.set v key, arc := s.arc, order := s.order ++ [v] }

def FS.run (l : List A) (outs : Nat → List Nat) (head : A → Nat) : Nat → FS → FS
  | 0, s => s
  | k + 1, s => match least s.hp with
    | none => s
    | some p => FS.run l outs head k ((s.pop p.1.toNat p.2).scan l head p.2 (outs p.1.toNat))

def far : Int := 72057594037927936

def FS.start (n s : Nat) : FS := ⟨[((s : Int), 0)], List.replicate n far, List.replicate n (-1), []⟩

/-- A tree. -/
structure Tr where
  dist : List Int
  arc : List Int
  order : List Nat
def FS.tree (s : FS) : Tr := ⟨s.dist, s.arc, s.order⟩
def Tr.none : Tr := ⟨[], [], []⟩

def floodP (l : List A) (n : Nat) (outs : Nat → List Nat) (head : A → Nat) (s : Nat) : Tr := (FS.run l outs head (n + 1) (FS.start n s)).tree

def G.from (g : G) (s : Nat) : Tr := floodP g.arcs g.n g.out A.t s
def G.to (g : G) (s : Nat) : Tr := floodP g.arcs g.n g.in A.f s
/-- From, to a node that may be none. -/
def G.fromI (g : G) (s : Int) : Tr := if 0 ≤ s ∧ s < g.n then g.from s.toNat else .none
def G.toI (g : G) (s : Int) : Tr := if 0 ≤ s ∧ s < g.n then g.to s.toNat else .none

/-! ### What holds all the time -/

theorem nodup_le : ∀ {n : Nat} {l : List Nat}, l.Nodup → (∀ x ∈ l, x < n) → l.length ≤ n
  | 0, l, _, h => by
    cases l with
    | nil => simp
    | cons a l => exact absurd (h a List.mem_cons_self) (by omega)
  | n + 1, l, hn, h => by
    by_cases hm : n ∈ l
    · have h1 : (l.erase n).Nodup := List.Nodup.erase n hn
      have h2 : ∀ x ∈ l.erase n, x < n := fun x hx => by
        have h3 := h x (List.mem_of_mem_erase hx)
        have h4 : x ≠ n := fun e => by subst e; exact (List.Nodup.mem_erase_iff hn).1 hx |>.1 rfl
        omega
      have := nodup_le h1 h2
      rw [List.length_erase_of_mem hm] at this
      omega
    · have := nodup_le (n := n) hn fun x hx => by
        have h3 := h x hx
        have : x ≠ n := fun e => hm (e ▸ hx)
        omega
      omega

abbrev W : Int := 2147483647

structure FInv (n : Nat) (B : Int) (s : FS) : Prop where
  ids : (s.hp.map (·.1)).Nodup
  ent : ∀ p ∈ s.hp, ∃ u : Nat, p.1 = u ∧ u < n ∧ u ∉ s.order ∧ 0 ≤ p.2 ∧ p.2 ≤ B
  ord : s.order.Nodup
  ordr : ∀ v ∈ s.order, v < n
  dl : s.dist.length = n
  al : s.arc.length = n

theorem FInv.start {n s : Nat} (h : s < n) : FInv n 0 (FS.start n s) := by
  refine ⟨by simp [FS.start], fun p hp => ?_, by simp [FS.start], by simp [FS.start], by simp [FS.start], by simp [FS.start]⟩
  simp [FS.start] at hp; subst hp
  exact ⟨s, rfl, h, by simp [FS.start], by simp, by simp⟩

theorem FInv.room {n : Nat} {B : Int} {s : FS} (H : FInv n B s) (h : s.hp ≠ []) : s.order.length < n := by
  obtain ⟨p, hp⟩ := List.exists_mem_of_ne_nil _ h
  obtain ⟨u, _, hu, hno, _⟩ := H.ent p hp
  have := nodup_le (n := n) (l := u :: s.order) (List.nodup_cons.2 ⟨hno, H.ord⟩) (by
    intro x hx
    rcases List.mem_cons.1 hx with rfl | hx
    · exact hu
    · exact H.ordr x hx)
  simp at this; omega

theorem FInv.len {n : Nat} {B : Int} {s : FS} (H : FInv n B s) : s.order.length ≤ n := nodup_le H.ord H.ordr

theorem map_erase_sub {l : List HP} {p : HP} : ((l.erase p).map (·.1)).Sublist (l.map (·.1)) := List.Sublist.map _ List.erase_sublist

theorem not_mem_erase {l : List HP} (h : (l.map (·.1)).Nodup) {p q : HP} (hp : p ∈ l) (hq : q ∈ l.erase p) : q.1 ≠ p.1 := by
  induction l with
  | nil => simp at hp
  | cons a l ih =>
    simp only [List.map_cons, List.nodup_cons] at h
    by_cases e : a = p
    · subst e
      rw [List.erase_cons_head] at hq
      intro e
      exact h.1 (e ▸ List.mem_map.2 ⟨q, hq, rfl⟩)
    · have hp' : p ∈ l := by
        rcases List.mem_cons.1 hp with rfl | hp
        · exact absurd rfl e
        · exact hp
      rw [List.erase_cons_tail (by simpa using e)] at hq
      rcases List.mem_cons.1 hq with rfl | hq
      · intro e'
        exact h.1 (e' ▸ List.mem_map.2 ⟨p, hp', rfl⟩)
      · exact ih h.2 hp' hq

theorem FInv.popped {n : Nat} {B : Int} {s : FS} (H : FInv n B s) {v : Nat} {key : Int} (h : ((v : Int), key) ∈ s.hp) : FInv n B (s.pop v key) := by
  obtain ⟨u, hu, hun, hno, _, _⟩ := H.ent _ h
  have hu : v = u := by simp at hu; omega
  subst hu
  refine ⟨map_erase_sub.nodup H.ids, fun p hp => ?_, ?_, fun x hx => ?_, by simp [FS.pop, H.dl], H.al⟩
  · obtain ⟨w, h1, h2, h3, h4⟩ := H.ent p (List.mem_of_mem_erase hp)
    refine ⟨w, h1, h2, ?_, h4⟩
    simp only [FS.pop, List.mem_append, List.mem_singleton]
    rintro (hx | rfl)
    · exact h3 hx
    · exact not_mem_erase H.ids h hp h1
  · simp only [FS.pop]
    rw [List.nodup_append]
    refine ⟨H.ord, by simp, fun a ha b hb => ?_⟩
    simp at hb; subst hb
    exact fun e => hno (e ▸ ha)
  · simp only [FS.pop, List.mem_append, List.mem_singleton] at hx
    rcases hx with hx | rfl
    · exact H.ordr x hx
    · exact hun

theorem FInv.mono {n : Nat} {B B' : Int} {s : FS} (H : FInv n B s) (h : B ≤ B') : FInv n B' s :=
  ⟨H.ids, fun p hp => by obtain ⟨u, a, b, c, d, e⟩ := H.ent p hp; exact ⟨u, a, b, c, d, by omega⟩, H.ord, H.ordr, H.dl, H.al⟩

theorem FInv.reach {n : Nat} {B : Int} {s : FS} (H : FInv n B s) {v a : Nat} {d : Int} (hv : v < n) (h0 : 0 ≤ d) (hB : d ≤ B) : FInv n B (s.reach v a d) := by
  unfold FS.reach
  split
  · exact H
  · rename_i hno
    split
    · rename_i was hw
      split
      · exact H
      · have hm := lookH_some hw
        refine ⟨?_, fun p hp => ?_, H.ord, H.ordr, H.dl, by simp [H.al]⟩
        · simp only [List.map_cons, List.nodup_cons]
          refine ⟨fun hx => ?_, map_erase_sub.nodup H.ids⟩
          obtain ⟨q, hq, he⟩ := List.mem_map.1 hx
          exact not_mem_erase H.ids hm hq he
        · rcases List.mem_cons.1 hp with rfl | hp
          · exact ⟨v, rfl, hv, hno, h0, hB⟩
          · exact H.ent p (List.mem_of_mem_erase hp)
    · rename_i hw
      rw [lookH_none] at hw
      refine ⟨?_, fun p hp => ?_, H.ord, H.ordr, H.dl, by simp [H.al]⟩
      · simp only [List.map_cons, List.nodup_cons]
        refine ⟨fun hx => ?_, H.ids⟩
        obtain ⟨q, hq, he⟩ := List.mem_map.1 hx
        exact hw q hq he
      · rcases List.mem_cons.1 hp with rfl | hp
        · exact ⟨v, rfl, hv, hno, h0, hB⟩
        · exact H.ent p hp

theorem reach_order {s : FS} {v a : Nat} {d : Int} : (s.reach v a d).order = s.order ∧ (s.reach v a d).dist = s.dist := by
  unfold FS.reach
  split
  · exact ⟨rfl, rfl⟩
  · split
    · split <;> exact ⟨rfl, rfl⟩
    · exact ⟨rfl, rfl⟩

theorem FInv.scan {n : Nat} {B : Int} {l : List A} {head : A → Nat} {key : Int} (hh : ∀ a ∈ l, head a < n ∧ (a.w : Int) ≤ W) (h0 : 0 ≤ key) (hB : key + W ≤ B) : ∀ {ids : List Nat} {s : FS}, (∀ i ∈ ids, i < l.length) → FInv n B s → FInv n B (s.scan l head key ids)
  | [], s, _, H => H
  | i :: ids, s, hi, H => by
    have hlt := hi i List.mem_cons_self
    have ha : arcAt l i ∈ l := by simp [arcAt, hlt]
    obtain ⟨h1, h2⟩ := hh _ ha
    exact FInv.scan (ids := ids) hh h0 hB (fun j hj => hi j (List.mem_cons_of_mem _ hj)) (H.reach h1 (by omega) (by omega))

theorem scan_order {l : List A} {head : A → Nat} {key : Int} : ∀ {ids : List Nat} {s : FS}, (s.scan l head key ids).order = s.order ∧ (s.scan l head key ids).dist = s.dist
  | [], s => ⟨rfl, rfl⟩
  | i :: ids, s => by
    have := @scan_order l head key ids (s.reach (head (arcAt l i)) i (key + (arcAt l i).w))
    exact ⟨this.1.trans reach_order.1, this.2.trans reach_order.2⟩

end Go.Mh

namespace Go.Mh
open Go

/-! ### What a flood tells is least -/

/-- There is a way from s to a node, of a weight. -/
inductive Way (l : List A) (tl hd : A → Nat) (s : Nat) : Nat → Int → Prop
  | nil : Way l tl hd s s 0
  | step {v : Nat} {d : Int} (a : A) : Way l tl hd s v d → a ∈ l → tl a = v → Way l tl hd s (hd a) (d + a.w)

theorem Way.nonneg {l : List A} {tl hd : A → Nat} {s v : Nat} {d : Int} (h : Way l tl hd s v d) : 0 ≤ d := by
  induction h with
  | nil => exact Int.le_refl 0
  | step a _ _ _ ih => omega

abbrev dAt (dist : List Int) (v : Nat) : Int := dist.getD v far

/-- Distances that are least. -/
structure LS (l : List A) (tl hd : A → Nat) (n s : Nat) (d : List Int) : Prop where
  len : d.length = n
  zero : dAt d s = 0
  arcs : ∀ a ∈ l, dAt d (tl a) < far → dAt d (hd a) ≤ dAt d (tl a) + a.w
  way : ∀ v, v < n → dAt d v = far ∨ (dAt d v < far ∧ Way l tl hd s v (dAt d v))

theorem dAt_le {d : List Int} {v : Nat} (h : ¬ v < d.length) : dAt d v = far := by
  simp [dAt, List.getD_eq_getElem?_getD, h]

theorem LS.le_way {l : List A} {tl hd : A → Nat} {n s : Nat} {d : List Int} (H : LS l tl hd n s d) {v : Nat} {w : Int} (h : Way l tl hd s v w) : w < far → dAt d v ≤ w := by
  induction h with
  | nil => intro _; rw [H.zero]; exact Int.le_refl 0
  | step a hw hm ht ih =>
    intro hlt
    have h1 := ih (by omega)
    have := H.arcs a hm (by rw [ht]; omega)
    rw [ht] at this
    omega

theorem LS.le {l : List A} {tl hd : A → Nat} {n s : Nat} {d e : List Int} (H : LS l tl hd n s d) (H' : LS l tl hd n s e) {v : Nat} (hv : v < n) : dAt d v ≤ dAt e v := by
  rcases H'.way v hv with h | ⟨h1, h2⟩
  · rw [h]
    rcases H.way v hv with h | ⟨h, _⟩ <;> omega
  · exact H.le_way h2 h1

theorem LS.uniq {l : List A} {tl hd : A → Nat} {n s : Nat} {d e : List Int} (H : LS l tl hd n s d) (H' : LS l tl hd n s e) : d = e := by
  apply List.ext_getElem (H.len.trans H'.len.symm)
  intro i h1 h2
  have a := H.le H' (v := i) (by rw [← H.len]; exact h1)
  have b := H'.le H (v := i) (by rw [← H.len]; exact h1)
  simp only [dAt, List.getD_eq_getElem?_getD, List.getElem?_eq_getElem h1, List.getElem?_eq_getElem h2, Option.getD_some] at a b
  omega

/-! ### The invariant -/

structure DInv (l : List A) (tl hd : A → Nat) (n s : Nat) (done : List Nat) (st : FS) : Prop where
  d1 : ∀ v ∈ st.order, dAt st.dist v < far ∧ Way l tl hd s v (dAt st.dist v)
  d2 : ∀ p ∈ st.hp, Way l tl hd s p.1.toNat p.2
  d3 : ∀ v ∈ st.order, ∀ p ∈ st.hp, dAt st.dist v ≤ p.2
  d4 : ∀ i ∈ done, tl (arcAt l i) ∈ st.order ∧ ((hd (arcAt l i) ∈ st.order ∧ dAt st.dist (hd (arcAt l i)) ≤ dAt st.dist (tl (arcAt l i)) + (arcAt l i).w) ∨
    ∃ k, ((hd (arcAt l i) : Int), k) ∈ st.hp ∧ k ≤ dAt st.dist (tl (arcAt l i)) + (arcAt l i).w)
  d5 : ∀ v, v ∉ st.order → dAt st.dist v = far
  d6 : ∀ v, v < n → v ≠ s → v ∉ st.order → (∀ p ∈ st.hp, p.1 ≠ v) → st.arc.getD v (-1) = -1
  d7 : ∀ v, v ≠ s → (v ∈ st.order ∨ ∃ k, ((v : Int), k) ∈ st.hp) → ∃ i, i < l.length ∧ st.arc.getD v (-1) = (i : Int) ∧ hd (arcAt l i) = v ∧ tl (arcAt l i) ∈ st.order ∧ tl (arcAt l i) ≠ v ∧
    (v ∈ st.order → dAt st.dist v = dAt st.dist (tl (arcAt l i)) + (arcAt l i).w ∧ st.order.idxOf (tl (arcAt l i)) < st.order.idxOf v) ∧ (∀ k, ((v : Int), k) ∈ st.hp → k = dAt st.dist (tl (arcAt l i)) + (arcAt l i).w)
  d8 : s ∈ st.order ∨ (st.order = [] ∧ st.hp = [((s : Int), 0)])
  d9 : st.arc.getD s (-1) = -1
  d10 : st.order.Pairwise fun u v => dAt st.dist u ≤ dAt st.dist v
  d11 : ∀ v, st.order.head? = some v → v = s ∧ dAt st.dist s = 0

theorem dAt_set {d : List Int} {v u : Nat} {k : Int} (hv : v < d.length) : dAt (d.set v k) u = if u = v then k else dAt d u := by
  by_cases h : u = v
  · subst h; simp [dAt, List.getD_eq_getElem?_getD, hv]
  · simp [dAt, List.getD_eq_getElem?_getD, h, List.getElem?_set_ne (fun e : v = u => h e.symm)]

theorem arc_set {d : List Int} {v u : Nat} {k : Int} (hv : v < d.length) : (d.set v k).getD u (-1) = if u = v then k else d.getD u (-1) := by
  by_cases h : u = v
  · subst h; simp [List.getD_eq_getElem?_getD, hv]
  · simp [List.getD_eq_getElem?_getD, h, List.getElem?_set_ne (fun e : v = u => h e.symm)]

theorem DInv.start {l : List A} {tl hd : A → Nat} {n s : Nat} (hs : s < n) : DInv l tl hd n s [] (FS.start n s) := by
  have hd : ∀ v, dAt (List.replicate n far) v = far := fun v => by
    by_cases h : v < n <;> simp [dAt, List.getD_eq_getElem?_getD, h]
  have ha : ∀ v, (List.replicate n (-1 : Int)).getD v (-1) = -1 := fun v => by
    by_cases h : v < n <;> simp [List.getD_eq_getElem?_getD, h]
  refine ⟨by simp [FS.start], ?_, by simp [FS.start], by simp, fun v _ => hd v, fun v _ _ _ _ => ha v, ?_, .inr ⟨rfl, rfl⟩, ha s, by simp [FS.start], by simp [FS.start]⟩
  · intro p hp
    simp [FS.start] at hp; subst hp
    simpa using Way.nil
  · rintro v hv (h | ⟨k, h⟩)
    · simp [FS.start] at h
    · simp [FS.start] at h; omega

section
variable {l : List A} {tl hd : A → Nat} {n s : Nat} {done : List Nat} {st : FS} {B : Int}

/-- Popping the least one. -/
theorem DInv.popped (D : DInv l tl hd n s done st) (H : FInv n B st) {v : Nat} {key : Int} (hm : ((v : Int), key) ∈ st.hp) (hmin : ∀ q ∈ st.hp, ¬ hl q ((v : Int), key) = true) (hB : B < far) : DInv l tl hd n s done (st.pop v key) := by
  obtain ⟨u, hu, hvn, hno, hk0, hkB⟩ := H.ent _ hm
  have hu : u = v := by simp at hu; omega
  subst hu
  have hkB : key ≤ B := hkB
  have hdl : u < st.dist.length := by rw [H.dl]; exact hvn
  have hset : ∀ x, dAt (st.dist.set u key) x = if x = u then key else dAt st.dist x := fun x => dAt_set hdl
  have hold : ∀ x ∈ st.order, dAt (st.dist.set u key) x = dAt st.dist x := fun x hx => by
    have hne : ¬ x = u := fun e => hno (by rw [← e]; exact hx)
    rw [hset, if_neg hne]
  have hnew : dAt (st.dist.set u key) u = key := by rw [hset, if_pos rfl]
  have huniq : ∀ k, ((u : Int), k) ∈ st.hp → k = key := fun k hk => by
    by_cases e : ((u : Int), k) = ((u : Int), key)
    · simpa using e
    · have h2 : ((u : Int), k) ∈ st.hp.erase ((u : Int), key) := (List.mem_erase_of_ne e).2 hk
      exact absurd rfl (not_mem_erase (p := ((u : Int), key)) (q := ((u : Int), k)) H.ids hm h2)
  have hge : ∀ p ∈ st.hp, key ≤ p.2 := fun p hp => by
    have := hmin p hp
    rw [hl_iff] at this
    simp only at this
    omega
  simp only [FS.pop]
  refine ⟨?_, fun p hp => D.d2 p (List.mem_of_mem_erase hp), ?_, ?_, ?_, ?_, ?_, ?_, D.d9, ?_, ?_⟩
  · intro x hx
    rcases List.mem_append.1 hx with hx | hx
    · rw [hold x hx]; exact D.d1 x hx
    · simp at hx; subst hx
      rw [hnew]
      have := D.d2 _ hm
      exact ⟨by omega, by simpa using this⟩
  · intro x hx p hp
    have hp' := List.mem_of_mem_erase hp
    rcases List.mem_append.1 hx with hx | hx
    · rw [hold x hx]; exact D.d3 x hx p hp'
    · simp at hx; subst hx
      rw [hnew]; exact hge p hp'
  · intro i hi
    obtain ⟨h1, h2⟩ := D.d4 i hi
    refine ⟨List.mem_append_left _ h1, ?_⟩
    rw [hold _ h1]
    rcases h2 with ⟨h2, h3⟩ | ⟨k, h2, h3⟩
    · exact .inl ⟨List.mem_append_left _ h2, by rw [hold _ h2]; exact h3⟩
    · by_cases e : hd (arcAt l i) = u
      · left
        rw [e] at h2 ⊢
        exact ⟨by simp, by rw [hnew, ← huniq k h2]; exact h3⟩
      · right
        refine ⟨k, (List.mem_erase_of_ne (by simp; intro e'; omega)).2 h2, h3⟩
  · intro x hx
    simp only [List.mem_append, List.mem_singleton, not_or] at hx
    rw [hset, if_neg hx.2]
    exact D.d5 x hx.1
  · intro x hxn hxs hxo hxh
    simp only [List.mem_append, List.mem_singleton, not_or] at hxo
    refine D.d6 x hxn hxs hxo.1 fun p hp e => ?_
    refine hxh p ((List.mem_erase_of_ne fun e' => ?_).2 hp) e
    subst e'
    simp at e; omega
  · intro x hxs hx
    have hcase : x ∈ st.order ∨ ∃ k, ((x : Int), k) ∈ st.hp := by
      rcases hx with hx | ⟨k, hk⟩
      · rcases List.mem_append.1 hx with hx | hx
        · exact .inl hx
        · simp at hx; subst hx; exact .inr ⟨key, hm⟩
      · exact .inr ⟨k, List.mem_of_mem_erase hk⟩
    obtain ⟨i, h1, h2, h3, h4, h5, h6, h7⟩ := D.d7 x hxs hcase
    refine ⟨i, h1, h2, h3, List.mem_append_left _ h4, h5, fun hx' => ?_, fun k hk => ?_⟩
    · rw [hold _ h4, List.idxOf_append, List.idxOf_append, if_pos h4]
      rcases List.mem_append.1 hx' with hx' | hx'
      · rw [hold _ hx', if_pos hx']
        exact h6 hx'
      · simp at hx'; subst hx'
        rw [hnew, if_neg hno]
        refine ⟨h7 key hm, ?_⟩
        have := List.idxOf_lt_length_of_mem h4
        omega
    · rw [hold _ h4]; exact h7 k (List.mem_of_mem_erase hk)
  · rcases D.d8 with h | ⟨h1, h2⟩
    · exact .inl (List.mem_append_left _ h)
    · left
      rw [h2] at hm
      simp at hm
      have : u = s := by omega
      subst this
      exact List.mem_append_right _ List.mem_cons_self
  · rw [List.pairwise_append]
    refine ⟨?_, by simp, ?_⟩
    · refine D.d10.imp_of_mem fun {a b} ha hb hab => ?_
      rw [hold a ha, hold b hb]; exact hab
    · intro a ha b hb
      simp at hb; subst hb
      rw [hold a ha, hnew]
      exact D.d3 a ha _ hm
  · intro x hx
    cases ho : st.order with
    | nil =>
      rw [ho] at hx
      simp at hx
      rcases D.d8 with h | ⟨h1, h2⟩
      · rw [ho] at h; cases h
      · rw [h2] at hm
        simp at hm
        have : x = s := by omega
        subst this
        refine ⟨rfl, ?_⟩
        have e : x = u := by omega
        rw [e, hnew]; exact hm.2
    | cons a r =>
      have := D.d11 a (by rw [ho]; rfl)
      rw [ho] at hx
      simp at hx; subst hx
      refine ⟨this.1, ?_⟩
      have hs : s ∈ st.order := by rw [ho, ← this.1]; simp
      rw [hold _ hs]; exact this.2

/-- A node reached. -/
theorem DInv.reached (D : DInv l tl hd n s done st) (H : FInv n B st) {i : Nat} (hi : i < l.length) (ht : tl (arcAt l i) ∈ st.order) (hh : hd (arcAt l i) < n)
    (hlast : ∀ x ∈ st.order, dAt st.dist x ≤ dAt st.dist (tl (arcAt l i))) :
    DInv l tl hd n s (done ++ [i]) (st.reach (hd (arcAt l i)) i (dAt st.dist (tl (arcAt l i)) + (arcAt l i).w)) := by
  have ha : arcAt l i ∈ l := by simp [arcAt, hi]
  generalize hv : hd (arcAt l i) = v at hh
  generalize hd' : dAt st.dist (tl (arcAt l i)) + ((arcAt l i).w : Int) = d
  have hway : Way l tl hd s v d := by
    rw [← hv, ← hd']
    exact .step _ (D.d1 _ ht).2 ha rfl
  have hs : s ∈ st.order := by
    rcases D.d8 with h | ⟨h1, h2⟩
    · exact h
    · rw [h1] at ht; cases ht
  unfold FS.reach
  split
  · rename_i hvo
    refine ⟨D.d1, D.d2, D.d3, ?_, D.d5, D.d6, D.d7, D.d8, D.d9, D.d10, D.d11⟩
    intro j hj
    rcases List.mem_append.1 hj with hj | hj
    · exact D.d4 j hj
    · simp at hj; subst hj
      refine ⟨ht, .inl ⟨by rw [hv]; exact hvo, ?_⟩⟩
      have := hlast v hvo
      rw [hv]; omega
  · rename_i hvo
    have hvs : v ≠ s := fun e => hvo (e ▸ hs)
    have hty : tl (arcAt l i) ≠ v := fun e => hvo (e ▸ ht)
    have al : v < st.arc.length := by rw [H.al]; exact hh
    split
    · rename_i was hw
      have hm := lookH_some hw
      have huniq : ∀ k, ((v : Int), k) ∈ st.hp → k = was := fun k hk => by
        by_cases e : ((v : Int), k) = ((v : Int), was)
        · simpa using e
        · have h2 : ((v : Int), k) ∈ st.hp.erase ((v : Int), was) := (List.mem_erase_of_ne e).2 hk
          exact absurd rfl (not_mem_erase (p := ((v : Int), was)) (q := ((v : Int), k)) H.ids hm h2)
      split
      · rename_i hle
        refine ⟨D.d1, D.d2, D.d3, ?_, D.d5, D.d6, D.d7, D.d8, D.d9, D.d10, D.d11⟩
        intro j hj
        rcases List.mem_append.1 hj with hj | hj
        · exact D.d4 j hj
        · simp at hj; subst hj
          exact ⟨ht, .inr ⟨was, by rw [hv]; exact hm, by omega⟩⟩
      · rename_i hgt
        have hmem : ∀ p, p ∈ ((v : Int), d) :: st.hp.erase ((v : Int), was) → p = ((v : Int), d) ∨ (p ∈ st.hp ∧ p.1 ≠ v) := fun p hp => by
          rcases List.mem_cons.1 hp with rfl | hp
          · exact .inl rfl
          · exact .inr ⟨List.mem_of_mem_erase hp, not_mem_erase H.ids hm hp⟩
        have hkeep : ∀ p ∈ st.hp, p.1 ≠ v → p ∈ ((v : Int), d) :: st.hp.erase ((v : Int), was) := fun p hp hne =>
          List.mem_cons_of_mem _ ((List.mem_erase_of_ne fun e => hne (by rw [e])).2 hp)
        refine ⟨D.d1, ?_, ?_, ?_, D.d5, ?_, ?_, .inl hs, ?_, D.d10, D.d11⟩
        · intro p hp
          rcases hmem p hp with rfl | ⟨hp, _⟩
          · simpa using hway
          · exact D.d2 p hp
        · intro x hx p hp
          rcases hmem p hp with rfl | ⟨hp, _⟩
          · have := hlast x hx
            show dAt st.dist x ≤ d
            omega
          · exact D.d3 x hx p hp
        · intro j hj
          rcases List.mem_append.1 hj with hj | hj
          · obtain ⟨h1, h2⟩ := D.d4 j hj
            refine ⟨h1, ?_⟩
            rcases h2 with h2 | ⟨k, h2, h3⟩
            · exact .inl h2
            · by_cases e : hd (arcAt l j) = v
              · rw [e] at h2 ⊢
                have := huniq k h2
                refine .inr ⟨d, List.mem_cons_self, ?_⟩
                show d ≤ dAt st.dist (tl (arcAt l j)) + _
                omega
              · exact .inr ⟨k, hkeep _ h2 (by simpa using fun e' => e (by omega)), h3⟩
          · simp at hj; subst hj
            exact ⟨ht, .inr ⟨d, by rw [hv]; exact List.mem_cons_self, Int.le_of_eq hd'.symm⟩⟩
        · intro x hxn hxs hxo hxh
          have hne : x ≠ v := fun e => hxh _ List.mem_cons_self (by simp [e])
          rw [arc_set al, if_neg hne]
          refine D.d6 x hxn hxs hxo fun p hp e => ?_
          exact hxh p (hkeep p hp (by rw [e]; omega)) e
        · intro x hxs hx
          by_cases e : x = v
          · subst e
            refine ⟨i, hi, by rw [arc_set al, if_pos rfl], hv, ht, hty, fun hx' => absurd hx' hvo, fun k hk => ?_⟩
            rcases hmem _ hk with h | ⟨_, h⟩
            · simp at h; exact h.trans hd'.symm
            · exact absurd rfl h
          · have hcase : x ∈ st.order ∨ ∃ k, ((x : Int), k) ∈ st.hp := by
              rcases hx with hx | ⟨k, hk⟩
              · exact .inl hx
              · rcases hmem _ hk with h | ⟨h, _⟩
                · simp at h; omega
                · exact .inr ⟨k, h⟩
            obtain ⟨j, h1, h2, h3, h4, h5, h6, h7⟩ := D.d7 x hxs hcase
            refine ⟨j, h1, by rw [arc_set al, if_neg e]; exact h2, h3, h4, h5, h6, fun k hk => ?_⟩
            rcases hmem _ hk with h | ⟨h, _⟩
            · simp at h; omega
            · exact h7 k h
        · rw [arc_set al, if_neg (fun e => hvs e.symm)]; exact D.d9
    · rename_i hw
      rw [lookH_none] at hw
      have hmem : ∀ p, p ∈ ((v : Int), d) :: st.hp → p = ((v : Int), d) ∨ (p ∈ st.hp ∧ p.1 ≠ v) := fun p hp => by
        rcases List.mem_cons.1 hp with rfl | hp
        · exact .inl rfl
        · exact .inr ⟨hp, hw p hp⟩
      refine ⟨D.d1, ?_, ?_, ?_, D.d5, ?_, ?_, .inl hs, ?_, D.d10, D.d11⟩
      · intro p hp
        rcases hmem p hp with rfl | ⟨hp, _⟩
        · simpa using hway
        · exact D.d2 p hp
      · intro x hx p hp
        rcases hmem p hp with rfl | ⟨hp, _⟩
        · have := hlast x hx
          show dAt st.dist x ≤ d
          omega
        · exact D.d3 x hx p hp
      · intro j hj
        rcases List.mem_append.1 hj with hj | hj
        · obtain ⟨h1, h2⟩ := D.d4 j hj
          refine ⟨h1, ?_⟩
          rcases h2 with h2 | ⟨k, h2, h3⟩
          · exact .inl h2
          · exact .inr ⟨k, List.mem_cons_of_mem _ h2, h3⟩
        · simp at hj; subst hj
          exact ⟨ht, .inr ⟨d, by rw [hv]; exact List.mem_cons_self, Int.le_of_eq hd'.symm⟩⟩
      · intro x hxn hxs hxo hxh
        have hne : x ≠ v := fun e => hxh _ List.mem_cons_self (by simp [e])
        rw [arc_set al, if_neg hne]
        exact D.d6 x hxn hxs hxo fun p hp e => hxh p (List.mem_cons_of_mem _ hp) e
      · intro x hxs hx
        by_cases e : x = v
        · subst e
          refine ⟨i, hi, by rw [arc_set al, if_pos rfl], hv, ht, hty, fun hx' => absurd hx' hvo, fun k hk => ?_⟩
          rcases hmem _ hk with h | ⟨_, h⟩
          · simp at h; exact h.trans hd'.symm
          · exact absurd rfl h
        · have hcase : x ∈ st.order ∨ ∃ k, ((x : Int), k) ∈ st.hp := by
            rcases hx with hx | ⟨k, hk⟩
            · exact .inl hx
            · rcases hmem _ hk with h | ⟨h, _⟩
              · simp at h; omega
              · exact .inr ⟨k, h⟩
          obtain ⟨j, h1, h2, h3, h4, h5, h6, h7⟩ := D.d7 x hxs hcase
          refine ⟨j, h1, by rw [arc_set al, if_neg e]; exact h2, h3, h4, h5, h6, fun k hk => ?_⟩
          rcases hmem _ hk with h | ⟨h, _⟩
          · simp at h; omega
          · exact h7 k h
      · rw [arc_set al, if_neg (fun e => hvs e.symm)]; exact D.d9

end
end Go.Mh

/-! Events of searches. -/
namespace Go.Mh
open Go

structure Ev where
  kind : Int
  side : Int
  id : Int
  label : Int
  deriving DecidableEq

abbrev encE (e : Ev) : List Value := [I e.kind, I e.side, I e.id, I e.label]
theorem encE_len (e : Ev) : (encE e).length = 4 := rfl
theorem encE_plain (e : Ev) : ∀ u ∈ encE e, plainCell u = true := by
  intro u hu; simp at hu; rcases hu with rfl | rfl | rfl | rfl <;> rfl
theorem encE_cells (e : Ev) : (Value.cells (.agg (encE e).toArray)).toList = encE e := rfl

def Ev.key (e : Ev) : Key3 := (e.kind, e.side, e.id)

def mostE (n m : Nat) (k : Int) : Int := if k = 0 then n else if k = 1 then m else 0
def mayP (n m : Nat) (e : Ev) : Prop := 0 ≤ e.id ∧ e.id < mostE n m e.kind ∧ (e.side = 0 ∨ e.side = 1) ∧ (e.kind = 0 ∨ e.label = 0)
instance {n m : Nat} {e : Ev} : Decidable (mayP n m e) := by unfold mayP; infer_instance
def mayE (n m : Nat) (e : Ev) : Bool := decide (mayP n m e)

/-- Nothing is twice. -/
def OnceE (n m : Nat) (l : List Ev) : Prop := ∀ i e, l[i]? = some e → mayE n m e = true ∧ e.key ∉ (l.take i).map Ev.key

/-- The node that was popped last, on a side. -/
def lastE (l : List Ev) (side : Int) : Int := l.foldl (fun a e => if e.kind = 0 ∧ e.side = side then e.id else a) (-1)
theorem lastE_snoc {l : List Ev} {e : Ev} {side : Int} : lastE (l ++ [e]) side = if e.kind = 0 ∧ e.side = side then e.id else lastE l side := by
  unfold lastE; rw [List.foldl_append]; rfl

def tailE (g : G) (e : Ev) : Int := match g.arcs[e.id.toNat]? with
  | some a => if e.side = 1 then (a.t : Int) else (a.f : Int)
  | none => 0

/-- Scans stand behind their tails' pops. -/
def HeadsE (g : G) (l : List Ev) : Prop := ∀ i e, l[i]? = some e → mayE g.n g.arcs.length e = true ∧ (e.kind ≠ 0 → lastE (l.take i) e.side = tailE g e)

def isE (k s : Int) (e : Ev) : Bool := decide (e.kind = k ∧ e.side = s)
def ofE (k s : Int) (l : List Ev) : List Int := (l.filter (isE k s)).map Ev.id
theorem ofE_snoc {k s : Int} {l : List Ev} {e : Ev} : ofE k s (l ++ [e]) = ofE k s l ++ (if isE k s e then [e.id] else []) := by
  unfold ofE; rw [List.filter_append, List.map_append]
  congr 1
  cases h : isE k s e <;> simp [h]

/-- The label of a node's first pop, on a side. -/
def labE (l : List Ev) (s v : Int) : Option Int := ((l.filter (isE 0 s)).find? fun e => e.id == v).map Ev.label

def beyP (fs : List Int) (most : Int) (e : Ev) : Bool := decide (e.kind = 0 ∧ (e.id < 0 ∨ (fs.length : Int) ≤ e.id ∨ most < dAt fs e.id.toNat))

/-- The first of which something holds; -1: of none. -/
def Fst (p : Nat → Bool) (n : Nat) (r : Int) : Prop := (r = -1 ∧ ∀ k, k < n → p k = false) ∨ ∃ i, r = (i : Nat) ∧ i < n ∧ p i = true ∧ ∀ k, k < i → p k = false

theorem Fst.uniq {p : Nat → Bool} {n : Nat} {r s : Int} (a : Fst p n r) (b : Fst p n s) : r = s := by
  rcases a with ⟨rfl, h1⟩ | ⟨i, rfl, h1, h2, h3⟩ <;> rcases b with ⟨rfl, k1⟩ | ⟨j, rfl, k1, k2, k3⟩
  · rfl
  · rw [h1 j k1] at k2; cases k2
  · rw [k1 i h1] at h2; cases h2
  · have : i = j := by
      rcases Nat.lt_trichotomy i j with h | h | h
      · rw [k3 i h] at h2; cases h2
      · exact h
      · rw [h3 j h] at k2; cases k2
    rw [this]

theorem Fst.any {p : Nat → Bool} {n : Nat} {r : Int} (a : Fst p n r) : (decide (0 ≤ r) = true ↔ ∃ k, k < n ∧ p k = true) := by
  rw [decide_eq_true_eq]
  rcases a with ⟨rfl, h1⟩ | ⟨i, rfl, h1, h2, h3⟩
  · exact ⟨fun h => by omega, fun ⟨k, h, hk⟩ => by rw [h1 k h] at hk; cases hk⟩
  · exact ⟨fun _ => ⟨i, h1, h2⟩, fun _ => by omega⟩

/-- Between i and j there is none. -/
def GapE (k s : Int) (l : List Ev) (i j : Nat) : Prop := ∀ q e, i ≤ q → q < j → l[q]? = some e → isE k s e = false

theorem gap_filter {k s : Int} {l : List Ev} {i : Nat} : ∀ {d : Nat}, GapE k s l i (i + d) → (l.take (i + d)).filter (isE k s) = (l.take i).filter (isE k s)
  | 0, _ => rfl
  | d + 1, h => by
    have ih := gap_filter (d := d) fun q e h1 h2 h3 => h q e h1 (by omega) h3
    by_cases hl : i + d < l.length
    · rw [show i + (d + 1) = (i + d) + 1 by omega, List.take_succ_eq_append_getElem hl, List.filter_append, ih]
      have := h (i + d) l[i + d] (by omega) (by omega) (List.getElem?_eq_getElem hl)
      simp [this]
    · rw [List.take_of_length_le (l := l) (i := i + d) (by omega)] at ih
      rw [List.take_of_length_le (l := l) (i := i + (d + 1)) (by omega)]
      exact ih

theorem gap_of {k s : Int} {l : List Ev} {i j : Nat} (hij : i ≤ j) (h : GapE k s l i j) : (l.take j).filter (isE k s) = (l.take i).filter (isE k s) := by
  obtain ⟨d, rfl⟩ : ∃ d, j = i + d := ⟨j - i, by omega⟩
  exact gap_filter h

/-- The next event of a kind, on a side. -/
def NextE (k s : Int) (l : List Ev) (i : Nat) (x : List Value) (i' : Nat) : Prop :=
  ∃ (j : Nat) (e : Ev), l[j]? = some e ∧ i ≤ j ∧ isE k s e = true ∧ GapE k s l i j ∧ x = [I j, .agg (encE e).toArray] ∧ i' = j + 1

theorem next_filter {k s : Int} {l : List Ev} {i j : Nat} {e : Ev} (hj : l[j]? = some e) (hij : i ≤ j) (he : isE k s e = true) (hg : GapE k s l i j) :
    (l.take (j + 1)).filter (isE k s) = (l.take i).filter (isE k s) ++ [e] := by
  have hl : j < l.length := (List.getElem?_eq_some_iff.1 hj).1
  have e1 : l[j] = e := (List.getElem?_eq_some_iff.1 hj).2
  rw [List.take_succ_eq_append_getElem hl, List.filter_append, gap_of hij hg, e1]
  simp [he]

end Go.Mh

namespace Go.Mh
open Go Go.ChangeShapes Go.WideShapes Go.ChangeAt Go.RowKit

section
variable {H : Type} {encD : TypeId × Value → H} {P : Program} {w : World} {n : Nat} {e t : TypeId} {v : Value} {r : Reach} {base : Nat} {d : DataW H} {p : List MemPlace}

theorem trod_field {fuel : Nat} {cs : List Value} {x : DataW H × List MemPlace} {sp : Nat → Bool} (h : DataW.trod encD P w 0 sp true fuel t cs = some x) (i : Nat) {ft : TypeId} {off : Nat} {cs' : List Value}
    (hf : fieldOf P t i = some (ft, off)) (hn : P.cellsOf ft = n) (hcs : (cs.drop off).take n = cs') : ∃ m y, DataW.trod encD P w 0 sp true m ft cs' = some y := by
  unfold fieldOf at hf
  split at hf
  · rename_i fs ht
    obtain ⟨xs, m, rfl, _, _, _, hfs⟩ := DataW.trod_struct ht h
    simp only [Option.map_eq_some_iff] at hf
    obtain ⟨f, hi, e⟩ := hf
    injection e with e1 e2
    subst e1 e2 hn hcs
    refine ⟨m, ?_⟩
    have hh := hfs i f (by simpa using hi)
    obtain ⟨y, hy⟩ : ∃ y, xs[i]? = some y := by
      have : i < xs.length := by
        have := (List.getElem?_eq_some_iff.1 hi).1
        simp_all
      exact ⟨_, List.getElem?_eq_getElem this⟩
    exact ⟨y, by rw [hh, hy]⟩
  · cases hf

theorem trod_len {fuel : Nat} {cs : List Value} {x : DataW H × List MemPlace} {sp : Nat → Bool} (h : DataW.trod encD P w 0 sp true fuel t cs = some x) (hf : (fieldOf P t 0).isSome = true) : cs.length = P.cellsOf t := by
  unfold fieldOf at hf
  split at hf
  · rename_i fs ht
    obtain ⟨xs, m, rfl, _, hl, _, hfs⟩ := DataW.trod_struct ht h
    exact hl
  · cases hf

theorem Opn.bool (O : Opn encD P w t [v]) (ht : P.underlying t = some .bool) : ∃ a : Bool, v = .bool a := by
  obtain ⟨⟨fuel, x, h⟩, _⟩ := O
  obtain ⟨a, e, r⟩ := dec_bool ht _ _ _ h
  simp only [List.cons.injEq, and_true] at e
  exact ⟨a, e⟩

/-- An event, given. -/
theorem dec_ev {t0 t1 t2 t3 : TypeId} (f0 : fieldOf P e 0 = some (t0, 0)) (f1 : fieldOf P e 1 = some (t1, 1)) (f2 : fieldOf P e 2 = some (t2, 2)) (f3 : fieldOf P e 3 = some (t3, 3)) (hc : P.cellsOf e = 4)
    (h0 : P.underlying t0 = some (.int .i64)) (h1 : P.underlying t1 = some (.int .i64)) (h2 : P.underlying t2 = some (.int .i64)) (h3 : P.underlying t3 = some (.int .i64))
    (c0 : P.cellsOf t0 = 1) (c1 : P.cellsOf t1 = 1) (c2 : P.cellsOf t2 = 1) (c3 : P.cellsOf t3 = 1) {sp : Nat → Bool} :
    ∀ fuel cs x, DataW.trod encD P w 0 sp true fuel e cs = some x → ∃ a : Ev, cs = encE a ∧ True := by
  intro fuel cs x h
  have hl := trod_len h (by rw [f0]; rfl)
  rw [hc] at hl
  obtain ⟨a, b, c, d, rfl⟩ := len4 hl
  obtain ⟨m0, y0, g0⟩ := trod_field h 0 (cs' := [a]) f0 c0 rfl
  obtain ⟨m1, y1, g1⟩ := trod_field h 1 (cs' := [b]) f1 c1 rfl
  obtain ⟨m2, y2, g2⟩ := trod_field h 2 (cs' := [c]) f2 c2 rfl
  obtain ⟨m3, y3, g3⟩ := trod_field h 3 (cs' := [d]) f3 c3 rfl
  obtain ⟨za, ea, _⟩ := dec_int (k := .i64) h0 _ _ _ g0
  obtain ⟨zb, eb, _⟩ := dec_int (k := .i64) h1 _ _ _ g1
  obtain ⟨zc, ec, _⟩ := dec_int (k := .i64) h2 _ _ _ g2
  obtain ⟨zd, ed, _⟩ := dec_int (k := .i64) h3 _ _ _ g3
  simp only [List.cons.injEq, and_true] at ea eb ec ed
  subst ea eb ec ed
  exact ⟨⟨za, zb, zc, zd⟩, rfl, trivial⟩

end
end Go.Mh
