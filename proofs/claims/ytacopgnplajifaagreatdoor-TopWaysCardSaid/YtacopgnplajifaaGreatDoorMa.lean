/- Lemmas on the way to the law of this seat, joined. They have no conditions of their own. -/
import Derived.RangeFuncIn
import Derived.OrdersIn
import Derived.KernelRfl
import Derived.MapKept
set_option linter.unusedVariables false
set_option linter.unusedSimpArgs false
set_option linter.unusedSectionVars false
set_option linter.defProp false

namespace Go.Mh
open Go
abbrev af:=Array Obj
def aa{p:Prop}(h:p:=by omega):p:=h
def az{p:Prop}(h:p:=by decide):p:=h
def aP{p:Prop}(h:p:=by simp):p:=h
def bn{α:Sort _}{a b:α}(h:a=b:=by kernel_rfl):a=b:=h
def iC{p:Prop}[Decidable p](h:decide p=true:=by kernel_rfl):p:=of_decide_eq_true h
def aQ:=@if_neg
def aW:=@if_pos
def bE:=@Nat.zero_add
def bR:=@decide_eq_false
def bT:=@decide_eq_true
def cq:=@Nat.le_refl
def cu:=@List.getElem_mem
def cz:=@Bool.not_true
def cG:=@List.length_append
def cI:=@List.getD_eq_getElem?_getD
def cN:=@List.mem_cons_self
def cP:=@List.mem_map
def cS:=@List.mem_append
def cV:=@List.mem_cons
def cW:=@List.take_succ_eq_append_getElem
def cZ:=@List.mem_cons_of_mem
def c7:=@List.append_assoc
def dI:=@List.map_cons
def dD:=@List.getElem?_eq_getElem
def dL:=@Bool.not_false
def dN:=@if_false
def dO:=@List.length_take
def dQ:=@Int.le_refl
def dW:=@Option.isNone_some
def eG:=@congrArg
def eM:=@Option.some.injEq
def eO:=@List.append_nil
def eP:=@List.mem_singleton
def eR:=@List.getElem?_append_right
def eV:=@Option.some.inj
def e7:=@if_true
def e8:=@Option.getD_some
def fq:=@List.map_append
def fu:=@List.getElem?_eq_some_iff
def fE:=@Nat.zero_le
def fF:=@List.take_length
def fL:=@Int.toNat_natCast
def fM:=@List.take_of_length_le
def fO:=@List.length_cons
def gb:=@Bool.and_eq_true
def gd:=@List.length_range
def gl:=@Nat.eq_of_beq_eq_true
def gm:=@Bool.false_eq_true
def gC:=@List.nodup_cons
def gL:=@List.mem_filter
def gD:=@List.getElem?_set_ne
def gK:=@List.length_map
def gM:=@of_decide_eq_true
def gT:=@decide_eq_true_eq
def iE:=@Nat.sub_self
def gU:=@Int.ofNat.inj
def gV:=@List.flatMap_append
def aqJ:=@List.mem_append_left
def iD:=@List.drop_eq_getElem_cons
def iI:=@List.take_append_drop
def iJ:=@beq_self_eq_true
def iK:=@bne_self_eq_false
def jl:=@Nat.sub_zero
def iW:=@List.ext_getElem
def iX:=@Int.eq_ofNat_of_zero_le
def iY:=@Nat.min_eq_left
def jx:=@List.map_congr_left
def jm:=@List.flatMap_cons
def aqM:=@List.getElem?_append_left
def jo:=@List.getElem?_set_self
def jw:=@List.mem_range
def jy:=@List.flatMap_singleton
def jO:=@List.set_set
def jP:=@List.foldl_append
def ko:=@Array.ext'
def kq:=@List.nodup_append
def ku:=@List.range_succ
def kz:=@Option.isSome_some
def kR:=@Nat.le_trans
def mO:=@Prod.mk.injEq
def kS:=@List.foldl_cons
def kT:=@Bool.true_and
def mF:=@List.mem_map_of_mem
def kU:=@List.getElem?_eq_none
def kV:=@List.length_set
def kW:=@List.mem_of_mem_erase
def kX:=@List.nodup_iff_pairwise_ne
def kY:=@List.sum_cons
def lJ:=@Nat.mul_le_mul_right
def lK:=@List.mem_of_mem_take
def lM:=@Decidable.not_not
def mw:=@Option.isSome_none
def mA:=@Bool.not_eq_true'
def mC:=@Int.emod_eq_of_lt
def mD:=@List.filter_append
def mE:=@List.mem_of_getElem?
def mG:=@List.set_append_right
def mP:=@List.getElem?_toArray
def mQ:=@List.length_singleton
def mR:=@Option.getD_none
def nG:=@List.getElem?_cons_zero
def nH:=@List.eq_nil_of_length_eq_zero
def nJ:=@Nat.add_mul
def nK:=@List.ext_getElem?
def nL:=@Int.mul_le_mul_of_nonneg_right
def nM:=@Nat.mul_le_mul
def nN:=@List.length_replicate
def ox:=@List.drop_zero
def oy:=@Bool.false_and
def oB:=@List.mem_erase_of_ne
def oC:=@Int.natCast_nonneg
def pH:=@Nat.mod_eq_of_lt
def qq:=@List.cons_append
def pI:=@Bool.or_eq_false_iff
def pJ:=@Nat.lt_of_lt_of_le
def pK:=@List.getElem?_map
def pL:=@Int.add_mul
def pM:=@List.pairwise_map
def pN:=@decide_eq_decide
def qn:=@Nat.succ_mul
def qp:=@beq_iff_eq
def qt:=@List.take_append_of_le_length
def qu:=@List.mem_flatMap
def qv:=@List.getElem_map
def qw:=@List.mem_iff_getElem
def qx:=@List.getElem_set
def rz:=@List.drop_eq_nil_of_le
def rA:=@beq_eq_false_iff_ne
def rB:=@true_and
def rC:=@List.map_map
def rD:=@Nat.mod_lt
def rE:=@Nat.le_of_ble_eq_true
def rF:=@List.mem_append_right
def rG:=@List.length_filter_le
def sJ:=@Nat.add_assoc
def sK:=@List.length_drop
def sL:=@Array.getElem?_eq_getElem
def sM:=@Nat.add_zero
def sN:=@List.nil_append
def sO:=@List.map_nil
def sP:=@List.getElem_range
def sQ:=@List.idxOf_append
def sR:=@List.idxOf_lt_length_of_mem
def sS:=@Int.natCast_add
def sU:=@Bool.false_or
def tZ:=@Nat.mul_one
def ua:=@List.cons.injEq
def uc:=@Bool.or_eq_true
def ud:=@List.drop_drop
def ue:=@Array.getElem?_append_left
def uf:=@List.getElem?_take_of_lt
def ug:=@List.getElem?_of_mem
def uh:=@Bool.eq_iff_iff
def uj:=@List.pairwise_iff_getElem
def uk:=@decide_eq_false_iff_not
def um:=@Nat.mul_comm
def uo:=@List.not_mem_nil
def uq:=@Int.natCast_mul
def ur:=@List.length_pos_iff
def uu:=@List.drop_length
def uv:=@Nat.mul_add
def vS:=@Nat.add_sub_cancel
def vT:=@List.forIn_cons
def vU:=@List.foldlM_cons
def vV:=@Option.map_some
def vW:=@Array.ext
def vX:=@List.length_nil
def vY:=@List.getElem_append_left
def vZ:=@List.getElem_cons_succ
def wg:=@Array.getElem?_toList
def wh:=@Nat.add_sub_cancel_left
def wj:=@Int.one_mul
def wk:=@Int.zero_add
def wq:=@List.replicate_zero
def wu:=@List.filter_cons
def wz:=@List.pairwise_cons
def wA:=@List.length_reverse
def wB:=@List.mem_reverse
def wC:=@Int.tmod_eq_emod_of_nonneg
def wD:=@and_true
def yE:=@Nat.le_of_eq
def yF:=@List.getElem?_cons_succ
def yG:=@Nat.ne_of_lt
def yH:=@Array.getElem?_setIfInBounds_ne
def yI:=@Array.getD_eq_getD_getElem?
def yJ:=@Array.getElem_modify
def yK:=@List.getElem_set_self
def yL:=@Nat.add_comm
def yM:=@List.drop_of_length_le
def yN:=@List.getElem?_drop
def Bn:=@List.filter_eq_self
def yO:=@List.reverse_cons
def yP:=@getElem!_pos
def yQ:=@List.countP_le_length
def yR:=@List.length_erase_of_mem
def yS:=@List.pairwise_append
def yT:=@Int.le_trans
def yU:=@Bool.and_false
def yV:=@Int.add_zero
def yW:=@List.any_eq_true
def yX:=@Nat.zero_mul
def yY:=@List.count_pos_iff
def yZ:=@List.take_take
def y5:=@List.replicate_succ
def y6:=@List.set_cons_zero
def y7:=@List.length_eq_zero_iff
def y8:=@Int.tdiv_eq_ediv_of_nonneg
def y9:=@List.flatMap_nil
def za:=@Bool.eq_false_iff
def zb:=@Nat.pow_succ
def Bd:=@Array.length_toList
def Be:=@List.mapM_cons
def Bf:=@Array.toList_map
def Bg:=@List.range_add
def Bh:=@Array.getElem?_eq_some_iff
def Bi:=@Option.bind_some
def Bj:=@Nat.testBit_or
def Bl:=@List.set_eq_take_append_cons_drop
def Bm:=@List.take_left'
def Ka:=@List.filter_cons_of_neg
def Kb:=@List.filter_cons_of_pos
def Bo:=@Array.toList_modify
def Bp:=@List.findIdx?_cons
def arB:=@List.filter_sublist
def Bq:=@Option.map_eq_some_iff
def Br:=@Nat.lt_irrefl
def Bs:=@Int.mul_nonneg
def Bt:=@Int.add_assoc
def Bu:=@List.idxOf_eq_length
def Bv:=@List.nodup_range
def Bw:=@List.length_pos_of_mem
def Bx:=@List.findIdx?_eq_none_iff
def Bz:=@Nat.one_mul
def BA:=@Nat.min_self
def BB:=@List.mem_of_mem_drop
def BC:=@List.filter_eq_nil_iff
def BD:=@of_decide_eq_false
def BE:=@Bool.or_false
def BF:=@bne_iff_ne
def BG:=@Nat.le_of_lt
def EG:=@List.forIn_nil
def EH:=@List.take_set_of_le
def EI:=@List.drop_set_of_lt
def EJ:=@List.flatten_cons
def EK:=@Array.mem_append
def EL:=@Array.mem_of_getElem?
def EM:=@Nat.le_add_right
def EN:=@ByteArray.data_extract
def EO:=@List.mem_filterMap
def EP:=@Nat.testBit_two_pow
def ER:=@List.take_succ_cons
def ES:=@List.drop_succ_cons
def ET:=@List.drop_append_of_le_length
def EU:=@List.drop_left'
def EV:=@Nat.lt_succ_self
def EW:=@List.exists_mem_of_ne_nil
def EX:=@List.getElem_mapIdx
def EY:=@Int.fdiv_eq_ediv_of_nonneg
def EZ:=@Int.lt_irrefl
def E0:=@Nat.lt_trichotomy
def E1:=@List.count_set
def E2:=@Option.isNone_none
def E3:=@List.getElem_of_mem
def E4:=@List.mem_flatten
def E5:=@List.getElem?_set
def E6:=@Array.ext_getElem?
def E7:=@List.take_zero
def E8:=@Nat.div_le_self
def E9:=@Nat.lt_of_le_of_lt
def Fa:=@Nat.mul_assoc
def Fb:=@Int.toNat_of_nonneg
def Fc:=@List.getElem_of_eq
def aqU:=@Option.isSome_iff_exists
def J1:=@Std.Legacy.Range.forIn_eq_forIn_range'
def J3:=@Array.mapM_eq_mapM_toList
def J4:=@Array.setIfInBounds_comm
def J5:=@Array.all_eq_true_iff_forall_mem
def J6:=@List.eq_nil_iff_forall_not_mem
def J7:=@Array.getElem?_replicate
def J8:=@Array.getElem_setIfInBounds
def J9:=@List.getElem_append_right
def arD:=@List.eraseIdx_cons_succ
def Kc:=@List.getElem_cons_zero
def Kd:=@List.mem_take_iff_getElem
def Ke:=@List.take_length_add_append
def Kf:=@List.getElem?_replicate
def Kg:=@Nat.div_div_eq_div_mul
def Kh:=@List.length_filterMap_le
abbrev aE:Value:=.slice none 0 0
abbrev KT:=Value->af->Prop
abbrev I(n:Int):Value:=.int .i64 n
def hcell(h:af)(a:Addr):Option Value:=
 match h[a.block]? with
 |some (.cells c _ _)=>if a.spot.isSome then none else c[a.off]?
 |_=>none
def rH(h:af)(a:Addr):Bool:=
 match h[a.block]? with
 |some (.cells _ _ (lo,hi))=>lo<=a.off&&a.off<hi
 |_=>false
def Ki(h:af)(r:Nat):Option (TypeId×Nat):=
 match h[r]? with
 |some (.cells c elem _)=>some (elem,c.size)
 |_=>none
def gp(h:af)(a:Addr)(v:Value):af:=
 h.modify a.block fun
   | .cells c elem frozen=>.cells (if a.spot.isSome then c else c.setIfInBounds a.off v) elem frozen
   |o=>o
def Ff(w:World)(a:Addr):w.cell? a=hcell w.heap a:=rfl
def Z4(w:World)(a:Addr):w.frozen? a=rH w.heap a:=rfl
structure dF(w w':World):Prop where
 os:w'.os=w.os
 output:w'.output=w.output
 tape:w'.tape=w.tape
 drawn:w.drawn<=w'.drawn
def dF.refl(w:World):dF w w:=⟨rfl,rfl,rfl,cq _⟩
def dF.trans{a b c:World}(h:dF a b)(h':dF b c):dF a c:=⟨h'.os.trans h.os,h'.output.trans h.output,h'.tape.trans h.tape,kR h.drawn h'.drawn⟩
def plainCell:Value->Bool
 | .agg _| .tuple _=>false
 |_=>true
def wpS(P:Program){α:Type}:Sem α->af->(α->af->Prop)->Prop
 | .pure a,h,K=>K a h
 | .load _ a k,h,K=>match hcell h a with
  |some v=>wpS P (k v) h K
  |none=>False
 | .store _ a v k,h,K=>plainCell v=true/\(hcell h a).isSome=true/\rH h a=false/\wpS P k (gp h a v) K
 | .new o k,h,K=>wpS P (k h.size) (h.push o) K
 | .shape r k,h,K=>wpS P (k (Ki h r)) h K
 | .freeze _ _ _,_,_=>False
 | .frozen a k,h,K=>wpS P (k (rH h a)) h K
 | .getObj r k,h,K=>match h[r]? with
  |some (.cells ..)=>False
  |some o=>wpS P (k o) h K
  |none=>False
 | .setObj r o k,h,K=>match h[r]? with
  |some (.cells ..)=>False
  |some _=>wpS P k (h.setIfInBounds r o) K
  |none=>False
 | .choose q k,h,K=>if q.forced then wpS P (k 0) h K else ∀t,wpS P (k (q.cut t)) h K
 | .sys _ _,_,_=>False
 | .program k,h,K=>wpS P (k P) h K
 | .mark _ k,h,K=>wpS P k h K
 | .halt _,_,_=>False
def wE{P:Program}{α:Type}{s:Sem α}:∀{h:af}{K:α->af->Prop},wpS P s h K->∀w:World,w.heap=h->
  ∃a w',s.run P w=.ok a w'/\dF w w'/\K a w'.heap:=by
 induction s with
 |pure a=>intro h K hk w hw;subst hw;exact⟨a,w,rfl,.refl w,hk⟩
 | load m a k ih=>
  intro h K hk w hw;subst hw;simp only[wpS]at hk;split at hk
  .rename_i v hv;obtain⟨x,w',hr,hs,hK⟩:=ih v hk w rfl;refine⟨x,w',?_,hs,hK⟩;simp only[Sem.run,Ff,hv];exact hr
  .exact hk.elim
 |store m a v k ih=>intro h K hk w hw;subst hw;obtain⟨hp,hc,hf,hk⟩:=hk;obtain⟨x,w',hr,hs,hK⟩:=ih hk (w.setCell a v) rfl;refine⟨x,w',?_,⟨hs.os,hs.output,hs.tape,hs.drawn⟩,hK⟩;obtain⟨u,hu⟩:=aqU.1 hc;rw[<-Ff]at hu;rw[<-Z4]at hf;cases v<;>simp_all [Sem.run,plainCell]
 |new o k ih=>intro h K hk w hw;subst hw;obtain⟨x,w',hr,hs,hK⟩:=ih _ hk {w with heap:=w.heap.push o} rfl;exact⟨x,w',hr,⟨hs.os,hs.output,hs.tape,hs.drawn⟩,hK⟩
 |shape r k ih=>intro h K hk w hw;subst hw;exact ih _ hk w rfl
 |freeze a n k ih=>intro h K hk;exact hk.elim
 |frozen a k ih=>intro h K hk w hw;subst hw;exact ih _ hk w rfl
 | getObj r k ih=>
  intro h K hk w hw;subst hw;simp only[wpS]at hk;split at hk
  .exact hk.elim
  .rename_i o hno ho;obtain⟨x,w',hr,hs,hK⟩:=ih o hk w rfl;refine⟨x,w',?_,hs,hK⟩;simp only[Sem.run,ho];cases o<;>first |exact hr|exact(hno _ _ _ rfl).elim
  .exact hk.elim
 | setObj r o k ih=>
  intro h K hk w hw;subst hw;simp only[wpS]at hk;split at hk
  .exact hk.elim
  .rename_i o' hno ho;obtain⟨x,w',hr,hs,hK⟩:=ih hk {w with heap:=w.heap.setIfInBounds r o} rfl;refine⟨x,w',?_,⟨hs.os,hs.output,hs.tape,hs.drawn⟩,hK⟩;simp only[Sem.run,ho];cases o'<;>first |exact hr|exact(hno _ _ _ rfl).elim
  .exact hk.elim
 | choose q k ih=>
  intro h K hk w hw;subst hw;simp only[wpS]at hk;split at hk
  .rename_i hq;obtain⟨x,w',hr,hs,hK⟩:=ih _ hk w rfl;exact⟨x,w',by simp only[Sem.run,hq,e7];exact hr,hs,hK⟩
  .rename_i hq;obtain⟨x,w',hr,hs,hK⟩:=ih _ (hk (w.tape w.drawn q)) {w with drawn:=w.drawn+1} rfl;refine⟨x,w',?_,⟨hs.os,hs.output,hs.tape,kR (Nat.le_succ _) hs.drawn⟩,hK⟩;simp only[Sem.run];rw[aQ hq];exact hr
 |sys c k ih=>intro h K hk;exact hk.elim
 |program k ih=>intro h K hk w hw;subst hw;exact ih _ hk w rfl
 |mark m k ih=>intro h K hk w hw;subst hw;exact ih hk w rfl
 |halt x=>intro h K hk;exact hk.elim
def aZ(P:Program){α:Type}:Sem α->af->Option α
 | .pure a,_=>some a
 | .load _ a k,h=>match hcell h a with
  |some v=>aZ P (k v) h
  |none=>none
 | .shape r k,h=>aZ P (k (Ki h r)) h
 | .frozen a k,h=>aZ P (k (rH h a)) h
 | .getObj r k,h=>match h[r]? with
  |some (.cells ..)=>none
  |some o=>aZ P (k o) h
  |none=>none
 | .choose q k,h=>if q.forced then aZ P (k 0) h else none
 | .program k,h=>aZ P (k P) h
 | .mark _ k,h=>aZ P k h
 |_,_=>none
def pO{P:Program}{α:Type}{s:Sem α}:∀{h:af}{a:α},aZ P s h=some a->∀w:World,w.heap=h->s.run P w=.ok a w:=by
 induction s with
 |pure a=>intro h b hk w hw;simp only[aZ,eM]at hk;subst hk;rfl
 | load m a k ih=>
  intro h b hk w hw;subst hw;simp only[aZ]at hk;split at hk
  .rename_i v hv;simp only[Sem.run,Ff,hv];exact ih v hk w rfl
  .cases hk
 |store m a v k ih=>intro h b hk;cases hk
 |new o k ih=>intro h b hk;cases hk
 |shape r k ih=>intro h b hk w hw;subst hw;exact ih _ hk w rfl
 |freeze a n k ih=>intro h b hk;cases hk
 |frozen a k ih=>intro h b hk w hw;subst hw;exact ih _ hk w rfl
 | getObj r k ih=>
  intro h b hk w hw;subst hw;simp only[aZ]at hk;split at hk
  .cases hk
  .rename_i o hno ho;have hr:=ih o hk w rfl;simp only[Sem.run,ho];cases o<;>first |exact hr|exact(hno _ _ _ rfl).elim
  .cases hk
 |setObj r o k ih=>intro h b hk;cases hk
 | choose q k ih=>
  intro h b hk w hw;subst hw;simp only[aZ]at hk;split at hk
  .rename_i hq;simp only[Sem.run,hq,e7];exact ih _ hk w rfl
  .cases hk
 |sys c k ih=>intro h b hk;cases hk
 |program k ih=>intro h b hk w hw;subst hw;exact ih _ hk w rfl
 |mark m k ih=>intro h b hk w hw;subst hw;exact ih hk w rfl
 |halt x=>intro h b hk;cases hk
def ig{P:Program}{α β:Type}{s:Sem α}{f:α->Sem β}:∀{h:af}{K:β->af->Prop},
  wpS P s h (λa h'=>wpS P (f a) h' K)->wpS P (s>>=f) h K:=by
 show ∀{h:af}{K:β->af->Prop},wpS P s h (λa h'=>wpS P (f a) h' K)->wpS P (Sem.bind s f) h K
 induction s with
 |pure a=>intro h K hk;exact hk
 |load m a k ih=>
  intro h K hk;simp only[wpS,Sem.bind]at hk |-;split at hk
  .rename_i v hv;exact ih v hk
  .exact hk.elim
 |store m a v k ih=>intro h K hk;exact⟨hk.1,hk.2.1,hk.2.2.1,ih hk.2.2.2⟩
 |new o k ih=>intro h K hk;exact ih _ hk
 |shape r k ih=>intro h K hk;exact ih _ hk
 |freeze a n k ih=>intro h K hk;exact hk.elim
 |frozen a k ih=>intro h K hk;exact ih _ hk
 |getObj r k ih=>
  intro h K hk;simp only[wpS,Sem.bind]at hk |-;split at hk
  .exact hk.elim
  .exact ih _ hk
  .exact hk.elim
 |setObj r o k ih=>
  intro h K hk;simp only[wpS,Sem.bind]at hk |-;split at hk
  .exact hk.elim
  .exact ih hk
  .exact hk.elim
 |choose q k ih=>
  intro h K hk;simp only[wpS,Sem.bind]at hk |-;split at hk
  .rename_i hq;simp only[hq,e7];exact ih _ hk
  .rename_i hq;rw[aQ hq];exact λt=>ih _ (hk t)
 |sys c k ih=>intro h K hk;exact hk.elim
 |program k ih=>intro h K hk;exact ih _ hk
 |mark m k ih=>intro h K hk;exact ih hk
 |halt x=>intro h K hk;exact hk.elim
def bf{P:Program}{α β:Type}{s:Sem α}{f:α->Sem β}:∀{h:af}{a:α},
  aZ P s h=some a->aZ P (s>>=f) h=aZ P (f a) h:=by
 show ∀{h:af}{a:α},aZ P s h=some a->aZ P (Sem.bind s f) h=aZ P (f a) h
 induction s with
 |pure a=>intro h b hk;simp only[aZ,eM]at hk;subst hk;rfl
 |load m a k ih=>
  intro h b hk;simp only[aZ,Sem.bind]at hk |-;split at hk
  .exact ih _ hk
  .cases hk
 |store m a v k ih=>intro h b hk;cases hk
 |new o k ih=>intro h b hk;cases hk
 |shape r k ih=>intro h b hk;exact ih _ hk
 |freeze a n k ih=>intro h b hk;cases hk
 |frozen a k ih=>intro h b hk;exact ih _ hk
 |getObj r k ih=>
  intro h b hk;simp only[aZ,Sem.bind]at hk |-;split at hk
  .cases hk
  .exact ih _ hk
  .cases hk
 |setObj r o k ih=>intro h b hk;cases hk
 |choose q k ih=>
  intro h b hk;simp only[aZ,Sem.bind]at hk |-;split at hk
  .rename_i hq;simp only[hq,e7];exact ih _ hk
  .cases hk
 |sys c k ih=>intro h b hk;cases hk
 |program k ih=>intro h b hk;exact ih _ hk
 |mark m k ih=>intro h b hk;exact ih hk
 |halt x=>intro h b hk;cases hk
def Fg{P:Program}{α:Type}{s:Sem α}:∀{h:af}{a:α}{K:α->af->Prop},aZ P s h=some a->K a h->wpS P s h K:=by
 induction s with
 |pure a=>intro h b K hk hK;simp only[aZ,eM]at hk;subst hk;exact hK
 |load m a k ih=>
  intro h b K hk hK;simp only[aZ,wpS]at hk |-;split at hk
  .exact ih _ hk hK
  .cases hk
 |store m a v k ih=>intro h b K hk;cases hk
 |new o k ih=>intro h b K hk;cases hk
 |shape r k ih=>intro h b K hk hK;exact ih _ hk hK
 |freeze a n k ih=>intro h b K hk;cases hk
 |frozen a k ih=>intro h b K hk hK;exact ih _ hk hK
 |getObj r k ih=>
  intro h b K hk hK;simp only[aZ,wpS]at hk |-;split at hk
  .cases hk
  .exact ih _ hk hK
  .cases hk
 |setObj r o k ih=>intro h b K hk;cases hk
 |choose q k ih=>
  intro h b K hk hK;simp only[aZ,wpS]at hk |-;split at hk
  .rename_i hq;simp only[hq,e7];exact ih _ hk hK
  .cases hk
 |sys c k ih=>intro h b K hk;cases hk
 |program k ih=>intro h b K hk hK;exact ih _ hk hK
 |mark m k ih=>intro h b K hk hK;exact ih hk hK
 |halt x=>intro h b K hk;cases hk
def qy{P:Program}{α:Type}{s:Sem α}:∀{h:af}{K K':α->af->Prop},(∀a h,K a h->K' a h)->wpS P s h K->wpS P s h K':=by
 induction s with
 |pure a=>intro h K K' hm hk;exact hm _ _ hk
 |load m a k ih=>
  intro h K K' hm hk;simp only[wpS]at hk |-;split at hk
  .exact ih _ hm hk
  .exact hk
 |store m a v k ih=>intro h K K' hm hk;exact⟨hk.1,hk.2.1,hk.2.2.1,ih hm hk.2.2.2⟩
 |new o k ih=>intro h K K' hm hk;exact ih _ hm hk
 |shape r k ih=>intro h K K' hm hk;exact ih _ hm hk
 |freeze a n k ih=>intro h K K' hm hk;exact hk.elim
 |frozen a k ih=>intro h K K' hm hk;exact ih _ hm hk
 |getObj r k ih=>
  intro h K K' hm hk;simp only[wpS]at hk |-;split at hk
  .exact hk
  .exact ih _ hm hk
  .exact hk
 |setObj r o k ih=>
  intro h K K' hm hk;simp only[wpS]at hk |-;split at hk
  .exact hk
  .exact ih hm hk
  .exact hk
 |choose q k ih=>
  intro h K K' hm hk;simp only[wpS]at hk |-;split at hk
  .rename_i hq;simp only[hq,e7];exact ih _ hm hk
  .rename_i hq;rw[aQ hq];exact λt=>ih _ hm (hk t)
 |sys c k ih=>intro h K K' hm hk;exact hk.elim
 |program k ih=>intro h K K' hm hk;exact ih _ hm hk
 |mark m k ih=>intro h K K' hm hk;exact ih hm hk
 |halt x=>intro h K K' hm hk;exact hk.elim
def jQ(P:Program)(f:FuncId):Bool:=
 match P.funcs[f]? with
 |some fn=>fn.body.isSome&& !(fn.name== "runtime.NumGoroutine")
 |none=>false
def Fh(P:Program)(f:FuncId)(args:Array Value)(h:af)(K:KT):Prop:=∀w:World,w.heap=h->CallsIn Fence.wide 0 P f args w (λe w'=>∃v,e=.returned v/\dF w w'/\K v w'.heap)
def aF(P:Program)(f:FuncId)(args:Array Value)(h:af)(K:KT):Prop:=jQ P f=true/\Fh P f args h K
def wF(P:Program)(l:Nat)(f:FuncId)(tmps:Array Value)(assign body:Code)(h:af)(K:KT):Prop:=∀w:World,w.heap=h->RoundIn Fence.wide 0 P l f tmps assign body w (λe w'=>∃v,e=.returned v/\dF w w'/\K v w'.heap)
def rI(P:Program)(l:Nat)(args:Array Value)(h:af)(K:KT):Prop:=
 match h[l]? with
 |some (.loop L)=>args.size=L.params.size/\wF P l L.fn ((L.params.zip args).foldl (λtmps(t,a)=>tmps.setIfInBounds t a) L.tmps) L.assign L.body h K
 |_=>False
def aX(P:Program)(v:Value)(args:Array Value)(h:af)(K:KT):Prop:=
 match v with
 | .func (.func f) first captured=>aF P f (first ++args++captured) h K
 | .func (.yield l) first _=>rI P l (first ++args) h K
 |_=>False
def aF.mono{P:Program}{f:FuncId}{args:Array Value}{h:af}{K K':KT}
  (hc:aF P f args h K) (hm:∀v h,K v h->K' v h):aF P f args h K':=
 ⟨hc.1,λw hw=>(hc.2 w hw).mono λ_ _⟨v,he,hs,hk⟩=>⟨v,he,hs,hm _ _ hk⟩⟩
def wF.mono{P:Program}{l:Nat}{f:FuncId}{tmps:Array Value}{assign body:Code}{h:af}{K K':KT}
  (hc:wF P l f tmps assign body h K) (hm:∀v h,K v h->K' v h):wF P l f tmps assign body h K':=
 λw hw=>(hc w hw).mono λ_ _⟨v,he,hs,hk⟩=>⟨v,he,hs,hm _ _ hk⟩
def rI.mono{P:Program}{l:Nat}{args:Array Value}{h:af}{K K':KT}
  (hc:rI P l args h K) (hm:∀v h,K v h->K' v h):rI P l args h K':=by
 unfold rI at *;split
 .rename_i L hL;simp only[hL]at hc;exact⟨hc.1,hc.2.mono hm⟩
 .rename_i hno;split at hc
  .rename_i L hL;exact(hno _ hL).elim
  .exact hc
def aX.mono{P:Program}{v:Value}{args:Array Value}{h:af}{K K':KT}
  (hc:aX P v args h K) (hm:∀v h,K v h->K' v h):aX P v args h K':=by
 unfold aX at *;split
 .exact aF.mono hc hm
 .exact rI.mono hc hm
 .rename_i h1 h2;split at hc
  .exact(h1 _ _ _ rfl).elim
  .exact(h2 _ _ _ rfl).elim
  .exact hc
def ah(P:Program)(f:Nat)(args:List Value)(h:af)(K:KT):Prop:=aX P (.func (.func f) #[] #[]) args.toArray h K
def aK{P:Program}{f:Nat}{args:List Value}{h:af}{K:KT}(hc:aF P f args.toArray h K):ah P f args h K:=by show aF P f (#[]++args.toArray++ #[]) h K;simpa using hc
def aA(v:Value)(T E:Prop):Prop:=
 match v with
 | .bool true=>T
 | .bool false=>E
 |_=>False
def wG(c a b:Value)(K:Value->Prop):Prop:=
 match c with
 | .bool true=>K a
 | .bool false=>K b
 |_=>False
def ag(h:af)(a:Value)(K:Value->Prop):Prop:=
 match a with
 | .pointer (some ⟨b,o,none⟩)=>(match hcell h ⟨b,o,none⟩with
  |some v=>K v
  |none=>False)
 |_=>False
def iL(h:af)(b o:Nat):Nat->Option (List Value)
 |0=>some []
 | n+1=>match hcell h ⟨b,o,none⟩with
  |some v=>(match iL h b (o+1) n with
   |some l=>some (v::l)
   |none=>none)
  |none=>none
def bq(n:Nat)(h:af)(a:Value)(K:Value->Prop):Prop:=
 match a with
 | .pointer (some ⟨b,o,none⟩)=>(match iL h b o n with
  |some l=>K (.agg l.toArray)
  |none=>False)
 |_=>False
def aI(v:Value)(K:Value->Prop):Prop:=
 match v with
 | .pointer (some a)=>K (.pointer (some a))
 | .func (.func f) first captured=>K (.func (.func f) first captured)
 | .func (.yield l) first captured=>K (.func (.yield l) first captured)
 |_=>False
def aq(op:BinOp)(x y:Value)(K:Value->Prop):Prop:=
 match op,x,y with
 | .add,.int k a,.int k' b=>k=k'/\K (.int k (k.wrap (a+b)))
 | .sub,.int k a,.int k' b=>k=k'/\K (.int k (k.wrap (a-b)))
 | .mul,.int k a,.int k' b=>k=k'/\K (.int k (k.wrap (a*b)))
 | .quo,.int k a,.int k' b=>k=k'/\b≠0/\K (.int k (k.wrap (a.tdiv b)))
 | .rem,.int k a,.int k' b=>k=k'/\b≠0/\K (.int k (a.tmod b))
 | .and,.int k a,.int k' b=>k=k'/\K (.int k (k.wrap (BitVec.ofInt k.bits a&&& BitVec.ofInt k.bits b).toNat))
 | .or,.int k a,.int k' b=>k=k'/\K (.int k (k.wrap (BitVec.ofInt k.bits a|||BitVec.ofInt k.bits b).toNat))
 | .xor,.int k a,.int k' b=>k=k'/\K (.int k (k.wrap (BitVec.ofInt k.bits a^^^BitVec.ofInt k.bits b).toNat))
 | .andNot,.int k a,.int k' b=>k=k'/\K (.int k (k.wrap (BitVec.ofInt k.bits a&&& ~~~BitVec.ofInt k.bits b).toNat))
 | .shl,.int k a,.int _ b=>0<=b/\K (.int k (k.wrap (a*2^(min b.toNat k.bits))))
 | .shr,.int k a,.int _ b=>0<=b/\K (.int k (a.fdiv (2^(min b.toNat k.bits))))
 | .eql,.int k a,.int k' b=>k=k'/\K (.bool (a==b))
 | .neq,.int k a,.int k' b=>k=k'/\K (.bool (a != b))
 | .lss,.int k a,.int k' b=>k=k'/\K (.bool (a<b))
 | .leq,.int k a,.int k' b=>k=k'/\K (.bool (a<=b))
 | .gtr,.int k a,.int k' b=>k=k'/\K (.bool (a>b))
 | .geq,.int k a,.int k' b=>k=k'/\K (.bool (a>=b))
 | .eql,.string a,.string b=>K (.bool (a.toList==b.toList))
 | .neq,.string a,.string b=>K (.bool !(a.toList==b.toList))
 | .add,.string a,.string b=>a.size+b.size<=9223372036854775807/\K (.string (a++b))
 | .lss,.string a,.string b=>K (.bool (Op.bytesLess a.toList b.toList))
 |_,_,_=>False
inductive uw where
 |bool|ptr|slice|map|func|iface
def bL(neg:Bool)(d:uw)(x y:Value)(K:Value->Prop):Prop:=
 match d,x,y with
 | .bool,.bool a,.bool b=>K (.bool (xor neg (a==b)))
 | .ptr,.pointer none,.pointer b=>K (.bool (xor neg b.isNone))
 | .ptr,.pointer (some _),.pointer none=>K (.bool (xor neg false))
 | .slice,.slice none _ _,.slice b _ _=>K (.bool (xor neg b.isNone))
 | .slice,.slice (some _) _ _,.slice none _ _=>K (.bool (xor neg false))
 | .map,.map none,.map b=>K (.bool (xor neg b.isNone))
 | .map,.map (some _),.map none=>K (.bool (xor neg false))
 | .func,.nilFunc,.nilFunc=>K (.bool (xor neg true))
 | .func,.func (.func _) _ _,.nilFunc=>K (.bool (xor neg false))
 | .iface,.nilIface,.nilIface=>K (.bool (xor neg true))
 | .iface,.iface _ _,.nilIface=>K (.bool (xor neg false))
 |_,_,_=>False
def mS:List Value->Option (List Int)
 | []=>some []
 | .int .i64 a::r=>(match mS r with
  |some l=>some (a::l)
  |none=>none)
 |_=>none
def zc(op:BinOp)(n:Nat)(x y:Value)(K:Value->Prop):Prop:=
 match op,x,y with
 | .eql,.agg xs,.agg ys=>(match mS xs.toList,mS ys.toList with
  |some a,some b=>a.length=n/\b.length=n/\K (.bool (decide (a=b)))
  |_,_=>False)
 | .neq,.agg xs,.agg ys=>(match mS xs.toList,mS ys.toList with
  |some a,some b=>a.length=n/\b.length=n/\K (.bool (!decide (a=b)))
  |_,_=>False)
 |_,_,_=>False
def uy(op:BinOp)(x y:Value)(K:Value->Prop):Prop:=
 match op,x,y with
 | .neq,.agg xs,.agg ys=>(match xs.toList,ys.toList with
  | [.int .i64 a,.string s],[.int .i64 b,.string t]=>K (.bool (!(a==b&&s==t)))
  |_,_=>False)
 |_,_,_=>False
def bY(op:UnOp)(x:Value)(K:Value->Prop):Prop:=
 match op,x with
 | .neg,.int k n=>K (.int k (k.wrap (0-n)))
 | .xor,.int k n=>K (.int k (k.wrap (BitVec.ofInt k.bits (if k.signed then -1 else k.max)^^^BitVec.ofInt k.bits n).toNat))
 | .not,.bool b=>K (.bool !b)
 |_,_=>False
def cJ(k:IntKind)(x:Value)(K:Value->Prop):Prop:=
 match x with
 | .int _ n=>K (.int k (k.wrap n))
 |_=>False
def au(off:Nat)(x:Value)(K:Value->Prop):Prop:=
 match x with
 | .pointer (some ⟨b,o,none⟩)=>K (.pointer (some ⟨b,o+off,none⟩))
 |_=>False
def aY(size:Nat)(x i:Value)(K:Value->Prop):Prop:=
 match x,i with
 | .slice (some ⟨b,o,none⟩) len _,.int _ i=>0<=i/\i<len/\K (.pointer (some ⟨b,o+i.toNat*size,none⟩))
 |_,_=>False
def b9(size len:Nat)(x i:Value)(K:Value->Prop):Prop:=
 match x,i with
 | .pointer (some ⟨b,o,none⟩),.int _ i=>0<=i/\i<len/\K (.pointer (some ⟨b,o+i.toNat*size,none⟩))
 |_,_=>False
def aqO(d:Nat):Option Value->Option Int
 |none=>some d
 |some (.int _ i)=>some i
 |some _=>none
def gE(size l m:Nat)(a:Option Addr):Option Addr:=
 if m=l then a else match a with
  |some ⟨b,o,none⟩=>some ⟨b,o+l*size,none⟩
  |x=>x.map (·.add (l*size))
def eW(size:Nat)(x:Value)(lo hi mx:Option Value)(K:Value->Prop):Prop:=
 match x with
 | .slice a len cap=>
  (match aqO 0 lo,aqO len hi,aqO cap mx with
  |some l,some h,some m=>(mx.isSome=true->hi.isSome=true)/\0<=l/\l<=h/\h<=m/\m<=cap/\K (.slice (gE size l.toNat m.toNat a) (h.toNat-l.toNat) (m.toNat-l.toNat))
  |_,_,_=>False)
 |_=>False
def pP(size n:Nat)(x:Value)(lo hi mx:Option Value)(K:Value->Prop):Prop:=
 match x with
 | .pointer (some ⟨b,o,none⟩)=>
  (match aqO 0 lo,aqO n hi,aqO n mx with
  |some l,some h,some m=>(mx.isSome=true->hi.isSome=true)/\0<=l/\l<=h/\h<=m/\m<=n/\K (.slice (gE size l.toNat m.toNat (some ⟨b,o,none⟩)) (h.toNat-l.toNat) (m.toNat-l.toNat))
  |_,_,_=>False)
 |_=>False
def uz(x:Value)(lo hi:Option Value)(K:Value->Prop):Prop:=
 match x with
 | .string s=>
  (match aqO 0 lo,aqO s.size hi with
  |some l,some h=>0<=l/\l<=h/\h<=s.size/\K (.string (s.extract l.toNat h.toNat))
  |_,_=>False)
 |_=>False
def bp(x:Value)(i:Nat)(K:Value->Prop):Prop:=
 match x with
 | .tuple vs=>(match vs[i]? with
  |some v=>K v
  |none=>False)
 |_=>False
def oD(off:Nat)(x:Value)(K:Value->Prop):Prop:=
 match x with
 | .agg cs=>(match cs[off]? with
  |some v=>K v
  |none=>False)
 |_=>False
def wH(off n:Nat)(x:Value)(K:Value->Prop):Prop:=
 match x with
 | .agg cs=>K (.agg (cs.extract off (off+n)))
 |_=>False
def uA(len:Nat)(x i:Value)(K:Value->Prop):Prop:=
 match x,i with
 | .agg cs,.int _ i=>0<=i/\i<len/\(match cs[i.toNat]? with
  |some v=>K v
  |none=>False)
 |_,_=>False
def pQ(size len:Nat)(x i:Value)(K:Value->Prop):Prop:=
 match x,i with
 | .agg cs,.int _ i=>0<=i/\i<len/\K (.agg (cs.extract (i.toNat*size) (i.toNat*size+size)))
 |_,_=>False
def mT(x i:Value)(K:Value->Prop):Prop:=
 match x,i with
 | .string s,.int _ i=>0<=i/\(match s[i.toNat]? with
  |some b=>K (.int .u8 b.toNat)
  |none=>False)
 |_,_=>False
def bB(x:Value)(K:Value->Prop):Prop:=
 match x with
 | .slice _ n _=>K (.int .i64 n)
 |_=>False
def fQ(x:Value)(K:Value->Prop):Prop:=
 match x with
 | .string s=>K (.int .i64 s.size)
 |_=>False
def wJ(x:Value)(K:Value->Prop):Prop:=
 match x with
 | .slice _ _ c=>K (.int .i64 c)
 |_=>False
def sV(h:af)(x:Value)(K:Value->Prop):Prop:=
 match x with
 | .map none=>K (.int .i64 0)
 | .map (some r)=>(match h[r]? with
  |some (.map es _)=>K (.int .i64 es.size)
  |_=>False)
 |_=>False
def lN(x y:Value)(K:Value->Prop):Prop:=
 match x,y with
 | .int k a,.int _ b=>K (.int k (if b<a then b else a))
 |_,_=>False
def jR(x y:Value)(K:Value->Prop):Prop:=
 match x,y with
 | .int k a,.int _ b=>K (.int k (if b>a then b else a))
 |_,_=>False
def uB:Value->Option (Int×Int×Int)
 | .agg cs=>(match cs.toList with
  | [.int .i64 a,.int .i64 b,.int .i64 c]=>some (a,b,c)
  |_=>none)
 |_=>none
def oE(k:Int×Int×Int):List MapEntry->Nat->Option (Option (Nat×Value))
 | [],_=>some none
 |e::es,i=>(match uB e.key with
  |some k'=>if k=k' then some (some (i,e.val))else oE k es (i+1)
  |none=>none)
def aqQ(kd:TypeDesc)(k:Value)(es:List MapEntry):Option (Option (Nat×Value)):=
 match kd with
 | .array _ _=>(match uB k with
  |some k=>oE k es 0
  |none=>none)
 |kd=>Instr.findNow kd k es 0
def BH{q:IntKind}{k:Value}{es:List MapEntry}:aqQ (.int q) k es=Instr.findNow (.int q) k es 0:=rfl
def dP(kd:TypeDesc)(zero:Value)(ok:Bool)(h:af)(m k:Value)(K:Value->Prop):Prop:=
 match m with
 | .map none=>(match aqQ kd k []with
  |some _=>K (if ok then .tuple #[zero,.bool false]else zero)
  |none=>False)
 | .map (some r)=>(match h[r]? with
  |some (.map es _)=>(match aqQ kd k es.toList with
   |some (some (_,v))=>K (if ok then .tuple #[v,.bool true]else v)
   |some none=>K (if ok then .tuple #[zero,.bool false]else zero)
   |none=>False)
  |_=>False)
 |_=>False
def gq(cs:List Value):List (Nat×Nat×Value)->List Value
 | []=>cs
 |(off,_,v)::r=>gq (cs.take off++v.cells.toList++cs.drop (off+v.cells.size)) r
def mH(n:Nat):List (Nat×Nat×Value)->Prop
 | []=>True
 |(off,size,v)::r=>v.cells.size=size/\off+size<=n/\mH n r
def aV(zero:List Value)(parts:List (Nat×Nat×Value))(K:Value->Prop):Prop:=mH zero.length parts/\K (.agg (gq zero parts).toArray)
def aB(t:TypeId)(v:Value)(h:af)(K:KT):Prop:=K (.pointer (some ⟨h.size,0,none⟩)) (h.push (.cells v.cells t (0,0)))
def uX(t:TypeId)(zero:List Value)(parts:List (Nat×Nat×Value))(len:Nat)(h:af)(K:KT):Prop:=mH zero.length parts/\K (.slice (some ⟨h.size,0,none⟩) len len) (h.push (.cells (gq zero parts).toArray t (0,0)))
def dG(t:TypeId)(bytes:Nat)(zero:List Value)(len cap:Value)(h:af)(K:KT):Prop:=
 match len,cap with
 | .int _ l,.int _ c=>0<=l/\l<=c/\bytes*c<=2^48/\c<2^63/\
   K (.slice (some ⟨h.size,0,none⟩) l.toNat c.toNat) (h.push (.cells (List.replicate c.toNat zero).flatten.toArray t (0,0)))
 |_,_=>False
def bH(h:af)(K:KT):Prop:=K (.map (some h.size)) (h.push (.map #[] 0))
def mU(h:af)(b o:Nat):List Value->(af->Prop)->Prop
 | [],K=>K h
 |v::r,K=>plainCell v=true/\(hcell h ⟨b,o,none⟩).isSome=true/\rH h ⟨b,o,none⟩=false/\mU (gp h ⟨b,o,none⟩ v) b (o+1) r K
def aD(n:Nat)(a v:Value)(h:af)(K:KT):Prop:=
 match a with
 | .pointer (some ⟨b,o,none⟩)=>v.cells.size=n/\mU h b o v.cells.toList (K undef)
 |_=>False
def gN(h:af)(size n:Nat):Option Addr->Option (List Value)
 |none=>some []
 |some ⟨b,o,none⟩=>iL h b o (n*size)
 |_=>none
def bO(zero:List Value)(n:Nat):List Value:=(List.replicate n zero).flatten
def uY (t:TypeId) (size bytes:Nat) (zero:List Value) (s x:Value) (h:af) (K:KT):Prop:=
 match s,x with
 | .slice base sLen sCap,.slice a n _=>
  (match gN h size n a with
  | some new=>
   if sLen+n<=sCap then
    (match base with
    |some ⟨b,o,none⟩=>mU h b (o+sLen*size) new (K (.slice base (sLen+n) sCap))
    |none=>K (.slice none (sLen+n) sCap) h
    |_=>False)
   else
    (match gN h size sLen base with
    | some old=>Builtin.nextslicecap (sLen+n) sCap*bytes<=2^48/\sLen+n<2^63/\
      ∀c,sLen+n<=c->c<2^63->K (.slice (some ⟨h.size,0,none⟩) (sLen+n) c) (h.push (.cells (old++new++bO zero (c-(sLen+n))).toArray t (0,0)))
    |none=>False)
  |none=>False)
 |_,_=>False
def qz (t:TypeId) (size bytes:Nat) (zero:List Value) (s:Value) (n:Nat) (new:List Value) (h:af) (K:KT):Prop:=
 match s with
 | .slice base sLen sCap=>
   if sLen+n<=sCap then
    (match base with
    |some ⟨b,o,none⟩=>mU h b (o+sLen*size) new (K (.slice base (sLen+n) sCap))
    |none=>K (.slice none (sLen+n) sCap) h
    |_=>False)
   else
    (match gN h size sLen base with
    | some old=>Builtin.nextslicecap (sLen+n) sCap*bytes<=2^48/\sLen+n<2^63/\
      ∀c,sLen+n<=c->c<2^63->K (.slice (some ⟨h.size,0,none⟩) (sLen+n) c) (h.push (.cells (old++new++bO zero (c-(sLen+n))).toArray t (0,0)))
    |none=>False)
 |_=>False
def wK(t:TypeId)(size bytes:Nat)(zero:List Value)(s x:Value)(h:af)(K:KT):Prop:=
 match x with
 | .string y=>qz t size bytes zero s y.size (y.data.map λb=>Value.int .u8 b.toNat).toList h K
 |_=>False
def Z5{t:TypeId}{size bytes:Nat}{zero:List Value}{s x:Value}{h:af}{K:KT}(hq:uY t size bytes zero s x h K):
  ∃a n xc new,x=.slice a n xc/\gN h size n a=some new/\qz t size bytes zero s n new h K:=by
 unfold uY at hq;split at hq
 .split at hq
  .rename_i new hn;exact⟨_,_,_,new,rfl,hn,hq⟩
  .exact hq.elim
 .exact hq.elim
def wL(zero:List Value)(x:Value)(h:af)(K:KT):Prop:=
 match x with
 | .slice none _ _=>K (.tuple #[]) h
 | .slice (some ⟨b,o,none⟩) n _=>(match n with
  |0=>K (.tuple #[]) h
  |m+1=>mU h b o (bO zero (m+1)) (K (.tuple #[])))
 |_=>False
def BJ (t:TypeId) (size bytes:Nat) (zero:List Value) (s x:Value) (h:af) (K:KT):Prop:=
 match s,x with
 | .slice base sLen sCap,.int .i64 l=>0<=l/\l<2^63/\l*bytes<=2^48/\
   if sLen+l.toNat<=sCap then
    (match base with
    |some ⟨b,o,none⟩=>mU h b (o+sLen*size) (bO zero l.toNat) (K (.slice base (sLen+l.toNat) sCap))
    |none=>K (.slice none (sLen+l.toNat) sCap) h
    |_=>False)
   else
    (match gN h size sLen base with
    | some old=>Builtin.nextslicecap (sLen+l.toNat) sCap*bytes<=2^48/\sLen+l.toNat<2^63/\
      ∀c,sLen+l.toNat<=c->c<2^63->K (.slice (some ⟨h.size,0,none⟩) (sLen+l.toNat) c) (h.push (.cells (old++bO zero l.toNat++bO zero (c-(sLen+l.toNat))).toArray t (0,0)))
    |none=>False)
 |_,_=>False
def kZ(size:Nat)(d x:Value)(h:af)(K:KT):Prop:=
 match d,x with
 | .slice base dLen _,.slice a n _=>
  (match gN h size (Nat.min n dLen) a with
  |some new=>(match base with
   |some ⟨b,o,none⟩=>mU h b o new (K (.int .i64 (Nat.min n dLen)))
   |none=>K (.int .i64 (Nat.min n dLen)) h
   |_=>False)
  |none=>False)
 |_,_=>False
def e9(kd:TypeDesc)(m k v:Value)(h:af)(K:KT):Prop:=
 match m with
 | .map (some r)=>(match h[r]? with
  |some (.map es clock)=>(match aqQ kd k es.toList with
   |some (some (i,_))=>K undef (h.setIfInBounds r (.map (es.modify i λe=>{e with key:=k,val:=v}) clock))
   |some none=>K undef (h.setIfInBounds r (.map (es.push {key:=k,val:=v,born:=clock}) (clock+1)))
   |none=>False)
  |_=>False)
 |_=>False
def mI(kd:TypeDesc)(zero:Value)(m k:Value)(h:af)(K:KT):Prop:=
 match m with
 | .map (some r)=>(match h[r]? with
  |some (.map es clock)=>(match aqQ kd k es.toList with
   |some (some (i,v))=>K (.tuple #[v,.int .i64 (((es[i]?).map (·.born)).getD 0)]) (h.setIfInBounds r (.map (es.modify i λe=>{e with key:=k}) clock))
   |some none=>K (.tuple #[zero,.int .i64 clock]) (h.setIfInBounds r (.map (es.push {key:=k,val:=zero,born:=clock}) (clock+1)))
   |none=>False)
  |_=>False)
 |_=>False
def lP(m s v:Value)(h:af)(K:KT):Prop:=
 match m,s with
 | .map (some r),.int _ n=>(match h[r]? with
  |some (.map es clock)=>(match es.findIdx? (λe=>(e.born:Int)==n)with
   |some i=>K undef (h.setIfInBounds r (.map (es.modify i λe=>{e with val:=v}) clock))
   |none=>False)
  |_=>False)
 |_,_=>False
def uD(kd:TypeDesc)(m k:Value)(h:af)(K:KT):Prop:=
 match m with
 | .map none=>(match aqQ kd k []with
  |some _=>K (.tuple #[]) h
  |none=>False)
 | .map (some r)=>(match h[r]? with
  |some (.map es clock)=>(match aqQ kd k es.toList with
   |some (some (i,_))=>K (.tuple #[]) (h.setIfInBounds r (.map (es.eraseIdxIfInBounds i) clock))
   |some none=>K (.tuple #[]) (h.setIfInBounds r (.map es clock))
   |none=>False)
  |_=>False)
 |_=>False
def BK(m:Value)(h:af)(K:KT):Prop:=
 match m with
 | .map none=>K (.pointer (some ⟨h.size,0,none⟩)) (h.push (.mapIter none 0 #[] 0))
 | .map (some b)=>(match h[b]? with
  |some (.map _ clock)=>K (.pointer (some ⟨h.size,0,none⟩)) (h.push (.mapIter (some b) clock #[] clock))
  |_=>False)
 |_=>False
def Fi(es:Array MapEntry)(seen:Array Nat):Array MapEntry:=es.filter λe=> !seen.contains e.born
def BL (it:Value) (h:af) (K:KT):Prop:=
 match it with
 | .pointer (some ⟨r,0,none⟩)=>(match h[r]? with
  |some (.mapIter none _ _ _)=>K (.tuple #[.bool false]) h
  | some (.mapIter (some m) since seen last)=>(match h[m]? with
   |some (.map es clock)=>(!seen.isEmpty&& !es.isEmpty&&es.all (λe=>e.born>=last))=false/\
    (∀e∈Fi es seen,K (.tuple #[.bool true,e.key,e.val]) (h.setIfInBounds r (.mapIter (some m) since (seen.push e.born) clock)))/\
    (((Fi es seen).filter λe=>e.born<since).isEmpty=true->K (.tuple #[.bool false]) h)
   |_=>False)
  |_=>False)
 |_=>False
def wM (it:Value) (h:af) (K:Value->Prop):Prop:=
 match it with
 | .pointer (some ⟨r,0,none⟩)=>(match h[r]? with
  | some (.mapIter (some m) _ seen stepped)=>(match seen.back?,h[m]? with
   |some stamp,some (.map es clock)=>clock=stepped/\(match es.find? λe=>e.born==stamp with
    |some e=>K (.tuple #[e.key,e.val])
    |none=>False)
   |_,_=>False)
  |_=>False)
 |_=>False
def qA:List Value->ByteArray->Option ByteArray
 | [],s=>some s
 | .int .u8 n::r,s=>qA r (s.push (UInt8.ofNat n.toNat))
 |_::_,_=>none
def pR(h:af)(x:Value)(K:Value->Prop):Prop:=
 match x with
 | .slice none _ _=>K (.string .empty)
 | .slice (some ⟨b,o,none⟩) len _=>(match iL h b o len with
  |some l=>(match qA l .empty with
   |some s=>K (.string s)
   |none=>False)
  |none=>False)
 |_=>False
def uE(d x:Value)(h:af)(K:KT):Prop:=
 match d,x with
 | .slice base dLen _,.string s=>
  (match base with
   |some ⟨b,o,none⟩=>mU h b o ((s.extract 0 (Nat.min s.size dLen)).data.map λb=>Value.int .u8 b.toNat).toList (K (.int .i64 (Nat.min s.size dLen)))
   |none=>K (.int .i64 (Nat.min s.size dLen)) h
   |_=>False)
 |_,_=>False
section
variable{P:Program}{h:af}
def c8{t:TypeId}{d:TypeDesc}(hd:P.underlying t=some d):aZ P (underlying t) h=some d:=by simp[underlying,program,bind,Sem.bind,aZ,hd,pure]
def qB{t:TypeId}{i:TypeInfo}(hi:P.info? t=some i):aZ P (typeInfo t) h=some i:=by simp[typeInfo,program,bind,Sem.bind,aZ,hi,pure]
def jq{t:TypeId}{i:TypeInfo}(hi:P.info? t=some i):aZ P (sizeOf t) h=some i.size:=by unfold sizeOf;rw[bf (qB hi)];rfl
def pS{t:TypeId}{i:TypeInfo}{z:Value}(hi:P.info? t=some i)(hz:i.zero=some z):aZ P (zeroValue t) h=some z:=by unfold zeroValue;rw[bf (qB hi)];simp[hz,aZ,pure]
def Kj{a:Addr}{v:Value}(hv:hcell h a=some v):aZ P (load a) h=some v:=by simp[load,aZ,hv]
def rJ(b o n:Nat):(⟨b,o,none⟩:Addr).add n=⟨b,o+n,none⟩:=by
 unfold Addr.add;split
 .subst_vars;rfl
 .rfl
def Kk{b o:Nat}:∀(n i:Nat)(acc:Array Value){l:List Value},iL h b (o+i) n=some l->
  aZ P (loadCellsFrom ⟨b,o,none⟩ i n acc) h=some (acc++l.toArray)
 |0,i,acc,l,hl=>by simp only[iL,eM]at hl;subst hl;simp[loadCellsFrom,aZ,pure]
 | n+1,i,acc,l,hl=>by
  simp only[iL]at hl;split at hl
  .rename_i v hv;split at hl
   .rename_i l' hl';simp only[eM]at hl;subst hl;unfold loadCellsFrom;rw[bf (Kj (by rw[rJ];exact hv))];rw[Kk n (i+1) (acc.push v) (l:=l') (by rw[<-sJ];exact hl')];simp
   .cases hl
  .cases hl
def Fj{b o n:Nat}{l:List Value}(hl:iL h b o n=some l):aZ P (loadCells ⟨b,o,none⟩ n) h=some l.toArray:=by unfold loadCells;rw[Kk n 0 #[] (by simpa using hl)];simp
def jr{α:Type}(a:α):aZ P (pure a:Sem α) h=some a:=rfl
end
def k7:TypeDesc->Bool
 | .struct _| .array _ _=>true
 |_=>false
def Fk:TypeDesc->Bool
 | .int _| .string| .bool=>true
 |_=>false
def oF(P:Program):TypeDesc->Bool
 | .array n e=>Nat.beq n 3&&(match P.underlying e,P.info? e with
  |some (.int .i64),some i=>Nat.beq i.size 1
  |_,_=>false)
 |d=>Fk d
def Fl:TypeDesc->Option uw
 | .bool=>some .bool
 | .pointer _=>some .ptr
 | .slice _=>some .slice
 | .map _ _=>some .map
 | .func _ _ _=>some .func
 | .interface _=>some .iface
 |_=>none
def Z6(P:Program):Option TypeId->Bool
 |some t=>(match P.underlying t with
  |some .string=>true
  |_=>false)
 |none=>false
def wN:Operand->Bool
 | .const _=>true
 |_=>false
def Kl:uw->Bool
 | .iface=>true
 |_=>false
def zd(d:TypeDesc)(op:BinOp)(lit:Bool)(x y:Value)(K:Value->Prop):Prop:=
 match Fl d with
 | some k=>(match Kl k&& !lit with
  |true=>False
  |false=>(match op with
   | .eql=>bL false k x y K
   | .neq=>bL true k x y K
   |_=>False))
 |none=>aq op x y K
def BM(P:Program):List Field->Nat->Bool
 | [],_=>true
 |f::r,i=>Nat.beq f.offset i&&(!(f.name== "_")&&((match P.underlying f.type with
  |some (.int .i64)=>true
  |_=>false)&&BM P r (i+1)))
def ze(P:Program)(t:TypeId)(fs:Array Field):Bool:= !P.stoodInHeld t&&(!P.eqGuardType P.depth t&&BM P fs.toList 0)
def Fm(P:Program)(t:TypeId)(fs:Array Field):Bool:= !P.stoodInHeld t&&(!P.eqGuardType P.depth t&&(match fs.toList with
 | [f,g]=>Nat.beq f.offset 0&&(Nat.beq g.offset 1&&(!(f.name== "_")&&(!(g.name== "_")&&(match P.underlying f.type,P.underlying g.type with
  |some (.int .i64),some .string=>true
  |_,_=>false))))
 |_=>false))
def sW(place:Nat->Option (Nat×Nat)):List (Nat×Value)->Option (List (Nat×Nat×Value))
 | []=>some []
 | (i,v)::r=>match place i with
  |some (off,size)=>(match sW place r with
   |some l=>some ((off,size,v)::l)
   |none=>none)
  |none=>none
def jA (P:Program) (ρ:Operand->Value) (op:Op) (h:af) (K:Value->Prop):Prop:=
 match op with
 | .move x| .assign x=>K (ρ x)
 | .pick c a b=>wG (ρ c) (ρ a) (ρ b) K
 | .load t a=>(match P.underlying t,P.info? t with
  |some d,some i=>(match k7 d with
   |true=>bq i.size h (ρ a) K
   |false=>ag h (ρ a) K)
  |_,_=>False)
 | .nilCheck x=>aI (ρ x) K
 | .binOp op t x y _=>(match P.underlying t with
  | some (.struct fs)=>(match ze P t fs with
   |true=>zc op fs.size (ρ x) (ρ y) K
   |false=>(match Fm P t fs with
    |true=>uy op (ρ x) (ρ y) K
    |false=>False))
  |some d=>zd d op (wN y) (ρ x) (ρ y) K
  |none=>False)
 | .unOp op _ x=>bY op (ρ x) K
 | .convert s d x=>(match P.underlying s,P.underlying d with
  |some _,some (.int k)=>cJ k (ρ x) K
  |some (.slice e),some .string=>(match P.underlying e with
   |some (.int .u8)=>pR h (ρ x) K
   |_=>False)
  |_,_=>False)
 | .entry it=>wM (ρ it) h K
 | .makeInterface t x=>(match P.underlying t with
  |some (.interface _)=>False
  |some _=>K (.iface t (ρ x))
  |none=>False)
 | .makeFunc fn first captured=>K (.func fn (first.toList.map ρ).toArray (captured.toList.map ρ).toArray)
 | .slice t x lo hi mx=>(match P.underlying t with
  |some (.slice e)=>(match P.info? e with
   |some i=>eW i.size (ρ x) (lo.map ρ) (hi.map ρ) (mx.map ρ) K
   |none=>False)
  |some .string=>(match mx with
   |none=>uz (ρ x) (lo.map ρ) (hi.map ρ) K
   |some _=>False)
  |some (.array n e)=>(match P.info? e with
   |some i=>pP i.size n (ρ x) (lo.map ρ) (hi.map ρ) (mx.map ρ) K
   |none=>False)
  |_=>False)
 | .fieldAddr s x f=>(match P.underlying s with
  | some (.struct fs)=>(match fs[f]? with
   | some fd=>(match P.info? fd.type with
    |some i=>(match i.size with
     |0=>False
     |_+1=>au fd.offset (ρ x) K)
    |none=>False)
   |none=>False)
  |_=>False)
 | .field t x f=>(match P.underlying t with
  | some (.struct fs)=>(match fs[f]? with
   | some fd=>(match P.underlying fd.type,P.info? fd.type with
    |some d,some i=>(match k7 d with
     |true=>wH fd.offset i.size (ρ x) K
     |false=>oD fd.offset (ρ x) K)
    |_,_=>False)
   |none=>False)
  |_=>False)
 | .indexAddr t x i=>(match P.underlying t with
  |some (.slice e)=>(match P.info? e with
   |some info=>aY info.size (ρ x) (ρ i) K
   |none=>False)
  |some (.array n e)=>(match P.info? e with
   |some info=>b9 info.size n (ρ x) (ρ i) K
   |none=>False)
  |_=>False)
 | .index t x i=>(match P.underlying t with
  | some (.array n e)=>(match P.underlying e,P.info? e with
   | some d,some info=>(match k7 d with
    |true=>pQ info.size n (ρ x) (ρ i) K
    |false=>(match Nat.beq info.size 1 with
     |true=>uA n (ρ x) (ρ i) K
     |false=>False))
   |_,_=>False)
  |some .string=>mT (ρ x) (ρ i) K
  |_=>False)
 | .lookup t m k ok=>(match P.underlying t with
  | some (.map kt et)=>(match P.underlying kt,P.info? et with
   |some kd,some g=>(match oF P kd,g.zero with
    |true,some z=>dP kd z ok h (ρ m) (ρ k) K
    |_,_=>False)
   |_,_=>False)
  |_=>False)
 | .extract x i=>bp (ρ x) i K
 | .build t parts=>(match P.underlying t,P.info? t with
  | some (.struct fs),some i=>(match i.zero with
   |some z=>(match sW ((fs.toList.map λf=>(f.offset,P.cellsOf f.type))[·]?) (parts.toList.map λ(j,x)=>(j,ρ x)),fs.toList.all (λf=>(P.info? f.type).isSome)with
    |some ps,true=>aV z.cells.toList ps K
    |_,_=>False)
   |none=>False)
  |some (.array _ e),some i=>(match i.zero,P.info? e with
   |some z,some g=>aV z.cells.toList (parts.toList.map λ(j,x)=>(j*g.size,g.size,ρ x)) K
   |_,_=>False)
  |_,_=>False)
 | .call c=>(match c.callee with
  | .builtin .len=>(match c.argTypes[0]?,c.args[0]? with
   |some t,some x=>(match P.underlying t with
    |some (.slice _)=>bB (ρ x) K
    |some .string=>fQ (ρ x) K
    |some (.map _ _)=>sV h (ρ x) K
    |some (.array n _)=>K (.int .i64 n)
    |_=>False)
   |_,_=>False)
  | .builtin .cap=>(match c.argTypes[0]?,c.args[0]? with
   |some t,some x=>(match P.underlying t with
    |some (.slice _)=>wJ (ρ x) K
    |_=>False)
   |_,_=>False)
  | .builtin .min=>(match c.args.toList with
   | [x,y]=>lN (ρ x) (ρ y) K
   | [x,y,z]=>lN (ρ x) (ρ y) λu=>lN u (ρ z) K
   |_=>False)
  | .builtin .max=>(match c.args.toList with
   | [x,y]=>jR (ρ x) (ρ y) K
   | [x,y,z]=>jR (ρ x) (ρ y) λu=>jR u (ρ z) K
   |_=>False)
  |_=>False)
 |_=>False
section
variable{P:Program}{h:af}
def rdv{s:Sem Value}{v:Value}(hv:aZ P s h=some v):aZ P (do pure (Next.value (<-s)):Sem Next) h=some (.value v):=by rw[bf hv];rfl
def rK{t:TypeId}{d:TypeDesc}(hd:P.underlying t=some d):aZ P (isAgg t) h=some (k7 d):=by unfold isAgg;rw[bf (c8 hd)];cases d<;>rfl
def Km{t:TypeId}{d:TypeDesc}{i:TypeInfo}{a:Value}{K:Value->Prop}(hd:P.underlying t=some d)(hi:P.info? t=some i)
  (hq:match k7 d with
   |true=>bq i.size h a K
   |false=>ag h a K):∃v,aZ P (Instr.loadAt t a) h=some v/\K v:=by
 cases had:k7 d with
 | false=>
  simp only[had]at hq;unfold ag at hq;split at hq
  .rename_i b o;split at hq
   .rename_i v hv;refine⟨v,?_,hq⟩;unfold Instr.loadAt;rw[bf (a:=⟨b,o,none⟩) (by simp[Instr.sureAddr,aZ,pure])];unfold loadVar;rw[bf (rK hd),had];exact Kj hv
   .exact hq.elim
  .exact hq.elim
 | true=>
  simp only[had]at hq;unfold bq at hq;split at hq
  .rename_i b o;split at hq
   .rename_i l hl;refine⟨_,?_,hq⟩;unfold Instr.loadAt;rw[bf (a:=⟨b,o,none⟩) (by simp[Instr.sureAddr,aZ,pure])];unfold loadVar;rw[bf (rK hd),had];simp only[e7];rw[bf (jq hi),bf (Fj hl)];rfl
   .exact hq.elim
  .exact hq.elim
def Z7{op:BinOp}{t:TypeId}{x y:Value}{K:Value->Prop}(hq:aq op x y K):∃v,aZ P (binOp op t x y) h=some v/\K v:=by
 cases x<;>cases y<;>cases op<;>simp only[aq]at hq<;>
  first
   |exact hq.elim
   |(obtain⟨rfl,hb,hk⟩:=hq;exact⟨_,by simp[binOp,Op.intDiv,aZ,pure,hb],hk⟩)
   |(obtain⟨rfl,hk⟩:=hq;exact⟨_,by simp[binOp,Op.intArith,Op.intCmp,Op.intBits,aZ,pure],hk⟩)
   |(obtain⟨hb,hk⟩:=hq;exact⟨_,by simp only[binOp,Op.shift];rw[aQ aa];rfl,hk⟩)
   |exact⟨_,by simp[binOp,Op.stringOp,aZ,pure],hq⟩
   |(obtain⟨hb,hk⟩:=hq;exact⟨_,by simp only[binOp,Op.stringOp];rw[aQ (by rw[show IntKind.i64.max=9223372036854775807 by decide];omega)];rfl,hk⟩)
def Ko{op:BinOp}{t:TypeId}{x y:Operand}{a b:Value}(ha:∀cs,a≠ .agg cs)(hn:¬(a=.nilIface/\b=.nilIface)):
  aZ P (eqGuard op t x y a b) h=some ():=by
 unfold eqGuard;cases op<;>simp[aZ,pure]<;>
 .cases a<;>cases b<;>first |rfl|(exact(ha _ rfl).elim)|(exact(hn ⟨rfl,rfl⟩).elim)
def Z8{op:BinOp}{t:TypeId}{x y:Operand}{a b:Value}(ha:∀cs,a≠ .agg cs)(hl:wN y=true):
  aZ P (eqGuard op t x y a b) h=some ():=by
 unfold eqGuard;cases y<;>simp[wN]at hl;cases op<;>simp[aZ,pure]<;>
 .cases a<;>cases b<;>first |rfl|(exact(ha _ rfl).elim)
def Z9{op:BinOp}{x y:Value}{K:Value->Prop}(hq:aq op x y K):(∀cs,x≠ .agg cs)/\x≠ .nilIface:=by
 constructor
 .rintro cs rfl;cases op<;>exact hq.elim
 .rintro rfl;cases op<;>exact hq.elim
def aaa{neg:Bool}{t:TypeId}{d:TypeDesc}{k:uw}{x y:Value}{K:Value->Prop}(hd:P.underlying t=some d)(hk:Fl d=some k)(hq:bL neg k x y K):
  ∃b,aZ P (Op.equal t x y) h=some b/\K (.bool (xor neg b)):=by
 unfold bL at hq;split at hq<;>(try exact hq.elim)<;>cases d<;>simp only[Fl,eM,reduceCtorEq]at hk<;>
  (refine⟨_,?_,hq⟩;unfold Op.equal Op.maxDepth Op.equalIn;rw[bf (c8 hd)];rfl)
def aab{neg:Bool}{d:uw}{x y:Value}{K:Value->Prop}(hq:bL neg d x y K):(∀cs,x≠ .agg cs)/\(x=.nilIface->d=.iface/\y=.nilIface):=by
 constructor
 .rintro cs rfl;cases d<;>exact hq.elim
 .rintro rfl;unfold bL at hq;split at hq<;>simp_all
def eq_not{d:uw}{x y:Value}{neg:Bool}{K:Value->Prop}(hq:bL neg d x y K)(op:BinOp)(t:TypeId)(ho:op=.eql\/op=.neq):
  binOp op t x y=(match op with
   | .eql=>do pure (.bool (<-Op.equal t x y))
   |_=>do pure (.bool (!(<-Op.equal t x y)))):=by
 unfold bL at hq;split at hq<;>first
  |exact hq.elim
  |(rcases ho with rfl|rfl<;>rfl)
def aac{size l m:Nat}{a:Option Addr}:(if m=l then a else a.map (·.add (l*size)))=gE size l m a:=by
 unfold gE;split
 .rfl
 .split
  .simp[rJ]
  .rfl
def Fo{v:Option Value}{d y:Nat}{code:BoundsCode}{i:Int}(hb:aqO d v=some i)(h0:0<=i)(h1:i<=y):
  v=none/\i=d\/∃u,v=some u/\aZ P (Instr.sliceBound u y code) h=some i.toNat:=by
 unfold aqO at hb;split at hb
 .simp only[eM]at hb;exact .inl ⟨rfl,hb.symm⟩
 .rename_i k j;simp only[eM]at hb;subst hb;refine .inr ⟨_,rfl,?_⟩;unfold Instr.sliceBound;rw[bf (a:=(k,j)) (by simp[asIntOf,aZ,pure])];simp[h0,h1,aZ,pure]
 .cases hb
def Fp{b:Bool}{len cap:Nat}{lo hi mx:Option Value}{l hh m:Int}(hl:aqO 0 lo=some l)(a:aqO len hi=some hh)(hm:aqO cap mx=some m)
  (d:mx.isSome=true->hi.isSome=true) (h0:0<=l) (h1:l<=hh) (h2:hh<=m) (h3:m<=cap):
  aZ P (Instr.sliceBounds b len cap lo hi mx) h=some (l.toNat,hh.toNat,m.toNat):=by
 have hle:hh<=(m.toNat:Int):=aa;have hle2:l<=(hh.toNat:Int):=aa;have B:=λ(code:BoundsCode)=>Fo (P:=P) (h:=h) (code:=code) hm aa h3;have C:=λ(code:BoundsCode)=>Fo (P:=P) (h:=h) (code:=code) a aa hle;have D:=λ(code:BoundsCode)=>Fo (P:=P) (h:=h) (code:=code) hl h0 hle2;unfold Instr.sliceBounds;cases mx with
 | none=>
  have em:(m.toNat:Nat)=cap:=by rcases B .index with ⟨_,e⟩|⟨_,e,_⟩<;>simp_all
  cases hi with
  | none=>
   have eh:(hh.toNat:Nat)=len:=by rcases C .index with ⟨_,e⟩|⟨_,e,_⟩<;>simp_all
   cases lo with
   |none=>
    have el:(l.toNat:Nat)=0:=by rcases D .index with ⟨_,e⟩|⟨_,e,_⟩<;>simp_all
    dsimp only;rw[bf (jr _),bf (jr _),bf (jr _),em,eh,el];rfl
   |some u=>
    have hu:∀c,aZ P (Instr.sliceBound u hh.toNat c) h=some l.toNat:=λc=>by rcases D c with ⟨e,_⟩|⟨_,e,q⟩<;>simp_all
    dsimp only;rw[bf (jr _),bf (jr _)];rw[eh]at hu |-;rw[bf (hu _),em];rfl
  | some v=>
   have hv:∀c,aZ P (Instr.sliceBound v m.toNat c) h=some hh.toNat:=λc=>by rcases C c with ⟨e,_⟩|⟨_,e,q⟩<;>simp_all
   rw[em]at hv |-;cases lo with
   |none=>
    have el:(l.toNat:Nat)=0:=by rcases D .index with ⟨_,e⟩|⟨_,e,_⟩<;>simp_all
    dsimp only;rw[bf (jr _),bf (hv _),bf (jr _),el];rfl
   |some u=>
    have hu:∀c,aZ P (Instr.sliceBound u hh.toNat c) h=some l.toNat:=λc=>by rcases D c with ⟨e,_⟩|⟨_,e,q⟩<;>simp_all
    dsimp only;rw[bf (jr _),bf (hv _),bf (hu _)];rfl
 | some x=>
  have hx:∀c,aZ P (Instr.sliceBound x cap c) h=some m.toNat:=λc=>by rcases B c with ⟨e,_⟩|⟨_,e,q⟩<;>simp_all
  cases hi with
  |none=>simp at d
  | some v=>
   have hv:∀c,aZ P (Instr.sliceBound v m.toNat c) h=some hh.toNat:=λc=>by rcases C c with ⟨e,_⟩|⟨_,e,q⟩<;>simp_all
   cases lo with
   |none=>
    have el:(l.toNat:Nat)=0:=by rcases D .index with ⟨_,e⟩|⟨_,e,_⟩<;>simp_all
    dsimp only;rw[bf (hx _),bf (hv _),bf (jr _),el];rfl
   |some u=>
    have hu:∀c,aZ P (Instr.sliceBound u hh.toNat c) h=some l.toNat:=λc=>by rcases D c with ⟨e,_⟩|⟨_,e,q⟩<;>simp_all
    dsimp only;rw[bf (hx _),bf (hv _),bf (hu _)];rfl
def BN{kd:TypeDesc}{k:Value}:∀{es:List MapEntry}{j i:Nat}{v:Value},Instr.findNow kd k es j=some (some (i,v))->
  j<=i/\∃e,es[i-j]? =some e/\e.val=v/\Instr.sameNow kd k e.key=some true
 | [],j,i,v,hf=>by simp[Instr.findNow]at hf
 | e::es,j,i,v,hf=>by
  simp only[Instr.findNow]at hf;split at hf
  .rename_i hs;simp only[eM,mO]at hf;obtain⟨rfl,rfl⟩:=hf;exact⟨cq _,e,aP,rfl,hs⟩
  .obtain⟨hle,e',he',hv,hs⟩:=BN hf;refine⟨aa,e',?_,hv,hs⟩;have :i-j=(i-(j+1))+1:=aa;rw[this];simpa using he'
  .cases hf
def wO{k:Value}{a:Int×Int×Int}(hk:uB k=some a):k=.agg #[.int .i64 a.1,.int .i64 a.2.1,.int .i64 a.2.2]:=by
 unfold uB at hk;split at hk
 .rename_i cs;split at hk
  .rename_i x y z e;cases hk;have :cs= #[.int .i64 x,.int .i64 y,.int .i64 z]:=by apply ko;simpa using e
   rw[this]
  .cases hk
 .cases hk
def Kq{n:Nat}{e:TypeId}(hs:oF P (.array n e)=true):n=3/\P.underlying e=some (.int .i64)/\∃i,P.info? e=some i/\i.size=1:=by
 simp only[oF,gb]at hs;obtain⟨h1,h2⟩:=hs;split at h2
 .rename_i i hu hi;exact⟨gl h1,hu,i,hi,gl h2⟩
 .cases h2
def wP{e:TypeId}{i:Nat}{cs:Array Value}{v:Value}(hu:P.underlying e=some (.int .i64))(hv:cs[i]? =some v):aZ P (part e cs i) h=some v:=by unfold part;rw[bf (rK hu)];simp only[k7,gm,dN,hv];rfl
def Fq{e:TypeId}{em:Bool}{n:Nat}{x:Int}(hu:P.underlying e=some (.int .i64)):aZ P (Instr.checkKey em (n+1) e (.int .i64 x)) h=some ():=by unfold Instr.checkKey;rw[bf (c8 hu)];rfl
def qC{kt:TypeId}{kd:TypeDesc}{em:Bool}{n:Nat}{k:Value}{es:List MapEntry}{r:Option (Nat×Value)}(hd:P.underlying kt=some kd)(hs:oF P kd=true)(hf:aqQ kd k es=some r):
  aZ P (Instr.checkKey em (n+2) kt k) h=some ():=by
 by_cases ha:∃m e,kd=.array m e
 .obtain⟨m,e,rfl⟩:=ha;obtain⟨rfl,hu,i,hi,h1⟩:=Kq hs;simp only[aqQ]at hf;split at hf
  .rename_i a hk;rw[wO hk];unfold Instr.checkKey;rw[bf (c8 hd)];simp only[J1,Std.Legacy.Range.size,jl,vS,Nat.div_one,List.range'_succ,List.range'_zero,vT,EG];have hsz:=jq (h:=h) hi;rw[h1]at hsz;have c0:=Fq (h:=h) (em:=em) (n:=n) (x:=a.1) hu;have c1:=Fq (h:=h) (em:=em) (n:=n) (x:=a.2.1) hu;have c2:=Fq (h:=h) (em:=em) (n:=n) (x:=a.2.2) hu;have b:aZ P (part e #[.int .i64 a.1,.int .i64 a.2.1,.int .i64 a.2.2] (0*1)) h=some (.int .i64 a.1):=wP hu rfl;have p1:aZ P (part e #[.int .i64 a.1,.int .i64 a.2.1,.int .i64 a.2.2] ((0+1)*1)) h=some (.int .i64 a.2.1):=wP hu rfl;have p2:aZ P (part e #[.int .i64 a.1,.int .i64 a.2.1,.int .i64 a.2.2] ((0+1+1)*1)) h=some (.int .i64 a.2.2):=wP hu rfl;simp only[bind_assoc,pure_bind];rw[bf hsz,bf b,bf c0,bf hsz,bf p1,bf c1,bf hsz,bf p2,bf c2];rfl
  .cases hf
 .have :Fk kd=true:=by
   cases kd<;>first |exact hs|exact(ha ⟨_,_,rfl⟩).elim
  unfold Instr.checkKey;rw[bf (c8 hd)];cases kd<;>simp_all [Fk,aZ,pure]
def aad{d:Nat}{e:TypeId}{x y:Int}(hu:P.underlying e=some (.int .i64)):aZ P (Op.equalIn (d+1) e (.int .i64 x) (.int .i64 y)) h=some (x==y):=by unfold Op.equalIn;rw[bf (c8 hu)];rfl
def aae{kt e:TypeId}{i:TypeInfo}{a b:Int×Int×Int}(hd:P.underlying kt=some (.array 3 e))(hu:P.underlying e=some (.int .i64))(hi:P.info? e=some i)(h1:i.size=1):
  aZ P (Op.equal kt (.agg #[.int .i64 a.1,.int .i64 a.2.1,.int .i64 a.2.2]) (.agg #[.int .i64 b.1,.int .i64 b.2.1,.int .i64 b.2.2])) h=some (decide (a=b)):=by
 unfold Op.equal Op.maxDepth Op.equalIn;rw[bf (c8 hd)];simp only[J1,Std.Legacy.Range.size,jl,vS,Nat.div_one,List.range'_succ,List.range'_zero,vT,EG];have hsz:=jq (h:=h) hi;rw[h1]at hsz;have q:∀x y:Int,aZ P (Op.equalIn 9999 e (.int .i64 x) (.int .i64 y)) h=some (x==y):=λx y=>aad hu;have c:∀x y z:Int,aZ P (part e #[.int .i64 x,.int .i64 y,.int .i64 z] (0*1)) h=some (.int .i64 x):=λx y z=>wP hu rfl;have d:∀x y z:Int,aZ P (part e #[.int .i64 x,.int .i64 y,.int .i64 z] ((0+1)*1)) h=some (.int .i64 y):=λx y z=>wP hu rfl;have f:∀x y z:Int,aZ P (part e #[.int .i64 x,.int .i64 y,.int .i64 z] ((0+1+1)*1)) h=some (.int .i64 z):=λx y z=>wP hu rfl;simp only[bind_assoc,pure_bind];rw[bf hsz];rw[bf (c _ _ _),bf (c _ _ _),bf (q _ _)];obtain⟨a1,a2,a3⟩:=a;obtain⟨b1,b2,b3⟩:=b;dsimp only;cases e1:(a1==b1)with
 |false=>
  have :¬a1=b1:=by simpa using e1
  rw[bR (by rintro⟨⟩;exact this rfl)];rfl
 | true=>
  have e1:a1=b1:=by simpa using e1
  subst e1;simp only[cz,gm,dN,bind_assoc,pure_bind];rw[bf (d _ _ _),bf (d _ _ _),bf (q _ _)];cases e2:(a2==b2)with
  |false=>
   have :¬a2=b2:=by simpa using e2
   rw[bR (by rintro⟨⟩;exact this rfl)];rfl
  | true=>
   have e2:a2=b2:=by simpa using e2
   subst e2;simp only[cz,gm,dN,bind_assoc,pure_bind];rw[bf (f _ _ _),bf (f _ _ _),bf (q _ _)];cases e3:(a3==b3)with
   |false=>
    have :¬a3=b3:=by simpa using e3
    rw[bR (by rintro⟨⟩;exact this rfl)];rfl
   |true=>
    have e3:a3=b3:=by simpa using e3
    subst e3;rw[bT rfl];rfl
def Kt{kt e:TypeId}{i:TypeInfo}{k:Value}{a:Int×Int×Int}(hd:P.underlying kt=some (.array 3 e))(hu:P.underlying e=some (.int .i64))(hi:P.info? e=some i)(h1:i.size=1)(hk:uB k=some a):
  ∀{es:List MapEntry}{j:Nat}{r:Option (Nat×Value)},oE a es j=some r->aZ P (Instr.findAsking kt k es j) h=some r
 | [],j,r,hf=>by simpa[Instr.findAsking,oE,aZ,pure]using hf
 | x::es,j,r,hf=>by
  simp only[oE]at hf;split at hf
  .rename_i k' hk';unfold Instr.findAsking;rw[wO hk,wO hk',bf (aae hd hu hi h1)];by_cases e:a=k'
   .rw[aW e]at hf;rw[bT e,aW rfl];simpa[aZ,pure]using hf
   .rw[aQ e]at hf;rw[bR e,aQ aP,<-wO hk];exact Kt hd hu hi h1 hk hf
  .cases hf
def aaf{kd:TypeDesc}{k:Value}{r:Option (Nat×Value)}(hf:aqQ kd k []=some r):r=none:=by
 unfold aqQ at hf;split at hf
 .split at hf
  .simp[oE]at hf;exact hf.symm
  .cases hf
 .simp[Instr.findNow]at hf;exact hf.symm
def rL{kt:TypeId}{kd:TypeDesc}{k:Value}{es:List MapEntry}{r:Option (Nat×Value)}(hd:P.underlying kt=some kd)(hs:oF P kd=true)
  (hf:aqQ kd k es=some r):aZ P (Instr.findKey kt k es) h=some r:=by
 by_cases ha:∃m e,kd=.array m e
 .obtain⟨m,e,rfl⟩:=ha;obtain⟨rfl,hu,i,hi,h1⟩:=Kq hs;simp only[aqQ]at hf;split at hf
  .rename_i a hk;unfold Instr.findKey;rw[bf (c8 hd)];cases es with
   |nil=>simpa[Instr.findNow,oE,aZ,pure]using hf
   |cons x es=>simp only[Instr.findNow,Instr.sameNow];exact Kt hd hu hi h1 hk hf
  .cases hf
 .have hf':Instr.findNow kd k es 0=some r:=by
   cases kd<;>first |exact hf|exact(ha ⟨_,_,rfl⟩).elim
  unfold Instr.findKey;rw[bf (c8 hd)];simp[hf',aZ,pure]
def aag{t kt et:TypeId}{kd:TypeDesc}{a:TypeInfo}{z:Value}{ok:Bool}{m k:Value}{K:Value->Prop}
  (ht:P.underlying t=some (.map kt et)) (hk:P.underlying kt=some kd) (he:P.info? et=some a) (hs:oF P kd=true) (hz:a.zero=some z)
  (hq:dP kd z ok h m k K):∃v,aZ P (Instr.lookup t m k ok) h=some v/\K v:=by
 have b:=pS (h:=h) he hz;unfold dP at hq;split at hq
 .split at hq
  .rename_i r hf;obtain rfl:=aaf hf;refine⟨_,?_,hq⟩;unfold Instr.lookup;rw[bf (c8 ht)];dsimp only;rw[bf (jr _),bf (qC (n:=9998) hk hs hf),bf (rL hk hs hf)];dsimp only;rw[bf b];rfl
  .exact hq.elim
 .rename_i r;split at hq
  .rename_i es clock hm;have c:aZ P (getObj r) h=some (.map es clock):=by simp[getObj,aZ,hm]
   unfold Instr.lookup;rw[bf (c8 ht)];dsimp only;rw[bf c];dsimp only;rw[bf (jr _)];split at hq
   .rename_i i v hf;refine⟨_,?_,hq⟩;rw[bf (qC (n:=9998) hk hs hf),bf (rL hk hs hf)];rfl
   .rename_i hf;refine⟨_,?_,hq⟩;rw[bf (qC (n:=9998) hk hs hf),bf (rL hk hs hf)];dsimp only;rw[bf b];rfl
   .exact hq.elim
  .exact hq.elim
 .exact hq.elim
end
section
variable{P:Program}{h:af}
def aah{t e:TypeId}{info:TypeInfo}{x i:Value}{K:Value->Prop}(ht:P.underlying t=some (.slice e))(he:P.info? e=some info)
  (hq:aY info.size x i K):∃v,aZ P (Instr.indexAt t x i) h=some v/\K v:=by
 unfold aY at hq;split at hq
 .rename_i b o len cap k i;obtain⟨h0,h1,hk⟩:=hq;refine⟨_,?_,hk⟩;unfold Instr.indexAt;rw[bf (a:=(k,i)) (by rfl),bf (c8 ht)];dsimp only;rw[bf (jr _)];dsimp only;rw[bf (c8 ht)];dsimp only;rw[aW ⟨h0,h1⟩,bf (jq he),rJ];rfl
 .exact hq.elim
def aai{t e:TypeId}{n:Nat}{info:TypeInfo}{x i:Value}{K:Value->Prop}(ht:P.underlying t=some (.array n e))(he:P.info? e=some info)
  (hq:b9 info.size n x i K):∃v,aZ P (Instr.indexAt t x i) h=some v/\K v:=by
 unfold b9 at hq;split at hq
 .rename_i b o k i;obtain⟨h0,h1,hk⟩:=hq;refine⟨_,?_,hk⟩;unfold Instr.indexAt;rw[bf (a:=(k,i)) (by rfl),bf (c8 ht)];dsimp only;rw[bf (a:=⟨b,o,none⟩) (by rfl),bf (jr _)];dsimp only;rw[bf (c8 ht)];dsimp only;rw[aW ⟨h0,h1⟩,bf (jq he),rJ];rfl
 .exact hq.elim
def aaj{t e:TypeId}{info:TypeInfo}{x:Value}{lo hi mx:Option Value}{K:Value->Prop}(ht:P.underlying t=some (.slice e))(he:P.info? e=some info)
  (hq:eW info.size x lo hi mx K):∃v,aZ P (Instr.sliceAt t x lo hi mx) h=some v/\K v:=by
 unfold eW at hq;split at hq
 .rename_i a len cap;split at hq
  .rename_i l hh m hl b hm;obtain⟨c,h0,h1,h2,h3,hk⟩:=hq;refine⟨_,?_,hk⟩;unfold Instr.sliceAt;rw[bf (c8 ht)];dsimp only;unfold Instr.slice;rw[bf (c8 ht)];dsimp only;rw[bf (Fp hl b hm c h0 h1 h2 h3)];dsimp only;rw[bf (jq he),aac];rfl
  .exact hq.elim
 .exact hq.elim
def aak{t e:TypeId}{n:Nat}{info:TypeInfo}{x:Value}{lo hi mx:Option Value}{K:Value->Prop}(ht:P.underlying t=some (.array n e))(he:P.info? e=some info)
  (hq:pP info.size n x lo hi mx K):∃v,aZ P (Instr.sliceAt t x lo hi mx) h=some v/\K v:=by
 unfold pP at hq;split at hq
 .rename_i b o;split at hq
  .rename_i l hh m hl c hm;obtain⟨d,h0,h1,h2,h3,hk⟩:=hq;refine⟨_,?_,hk⟩;unfold Instr.sliceAt;rw[bf (c8 ht)];dsimp only;rw[bf (a:=⟨b,o,none⟩) (by rfl),bf (Fp hl c hm d h0 h1 h2 h3)];dsimp only;have es:gE info.size l.toNat m.toNat (some ⟨b,o,none⟩)=some (if m.toNat=l.toNat then⟨b,o,none⟩else(⟨b,o,none⟩:Addr).add (l.toNat*info.size)):=by
    unfold gE;split
    .rfl
    .rw[rJ]
   rw[bf (jq he),es];rfl
  .exact hq.elim
 .exact hq.elim
def aal{t:TypeId}{x:Value}{lo hi:Option Value}{K:Value->Prop}(ht:P.underlying t=some .string)
  (hq:uz x lo hi K):∃v,aZ P (Instr.sliceAt t x lo hi none) h=some v/\K v:=by
 unfold uz at hq;split at hq
 .rename_i s;split at hq
  .rename_i l hh hl a;obtain⟨h0,h1,h2,hk⟩:=hq;refine⟨_,?_,hk⟩;unfold Instr.sliceAt;rw[bf (c8 ht)];dsimp only;unfold Instr.slice;rw[bf (c8 ht)];dsimp only;have hb:=Fp (P:=P) (h:=h) (b:=false) (len:=s.size) (cap:=s.size) (mx:=none) (m:=s.size) hl a rfl aP h0 h1 h2 aa;simp only[mw,gm,dN];rw[bf hb];rfl
  .exact hq.elim
 .exact hq.elim
def aam{s:TypeId}{fs:Array Field}{f:Nat}{fd:Field}{i:TypeInfo}{x:Value}{n:Nat}{K:Value->Prop}(hs:P.underlying s=some (.struct fs))
  (hf:fs[f]? =some fd) (hi:P.info? fd.type=some i) (hn:i.size=n+1) (hq:au fd.offset x K):∃v,aZ P (Instr.fieldAt s x f) h=some v/\K v:=by
 unfold au at hq;split at hq
 .rename_i b o;refine⟨_,?_,hq⟩;unfold Instr.fieldAt;rw[bf (c8 hs)];dsimp only;rw[hf];dsimp only;rw[bf (a:=⟨b,o,none⟩) (by rfl)];unfold fieldPlace;have :aZ P (do
    if(<-sizeOf fd.type)=0 then partAt ⟨b,o,none⟩ fd.offset fd.byteOffset else pure ((⟨b,o,none⟩:Addr).add fd.offset)) h=some ⟨b,o+fd.offset,none⟩:=by
   rw[bf (jq hi),aQ aa,rJ];rfl
  rw[bf this];rfl
 .exact hq.elim
def aan{s:TypeId}{fs:Array Field}{f:Nat}{fd:Field}{d:TypeDesc}{i:TypeInfo}{x:Value}{K:Value->Prop}(hs:P.underlying s=some (.struct fs))
  (hf:fs[f]? =some fd) (hd:P.underlying fd.type=some d) (hi:P.info? fd.type=some i)
  (hq:match k7 d with
   |true=>wH fd.offset i.size x K
   |false=>oD fd.offset x K):∃v,aZ P (Instr.field s x f) h=some v/\K v:=by
 cases hag:k7 d with
 | true=>
  simp only[hag]at hq;unfold wH at hq;split at hq
  .rename_i cs;refine⟨_,?_,hq⟩;unfold Instr.field;rw[bf (c8 hs)];dsimp only;rw[hf];dsimp only;rw[bf (a:=cs) (by rfl)];unfold part;rw[bf (rK hd),hag];simp only[e7];rw[bf (jq hi)];rfl
  .exact hq.elim
 | false=>
  simp only[hag]at hq;unfold oD at hq;split at hq
  .rename_i cs;split at hq
   .rename_i v hv;refine⟨_,?_,hq⟩;unfold Instr.field;rw[bf (c8 hs)];dsimp only;rw[hf];dsimp only;rw[bf (a:=cs) (by rfl)];unfold part;rw[bf (rK hd),hag];simp[hv,aZ,pure]
   .exact hq.elim
  .exact hq.elim
def aao{t e:TypeId}{n:Nat}{d:TypeDesc}{info:TypeInfo}{x i:Value}{K:Value->Prop}(ht:P.underlying t=some (.array n e))(hd:P.underlying e=some d)(he:P.info? e=some info)(hag:k7 d=true)
  (hq:pQ info.size n x i K):∃v,aZ P (Instr.index t x i) h=some v/\K v:=by
 unfold pQ at hq;split at hq
 .rename_i cs k i;obtain⟨h0,h1,hk⟩:=hq;refine⟨_,?_,hk⟩;unfold Instr.index;rw[bf (a:=(k,i)) (by rfl),bf (c8 ht)];dsimp only;rw[aW ⟨h0,h1⟩,bf (jq he)];unfold part;rw[bf (rK hd),hag];simp only[e7];rw[bf (jq he)];rfl
 .exact hq.elim
def aap{t e:TypeId}{n:Nat}{d:TypeDesc}{info:TypeInfo}{x i:Value}{K:Value->Prop}(ht:P.underlying t=some (.array n e))(hd:P.underlying e=some d)(he:P.info? e=some info)(hag:k7 d=false)(b:info.size=1)
  (hq:uA n x i K):∃v,aZ P (Instr.index t x i) h=some v/\K v:=by
 unfold uA at hq;split at hq
 .rename_i cs k i;obtain⟨h0,h1,hk⟩:=hq;split at hk
  .rename_i v hv;refine⟨v,?_,hk⟩;unfold Instr.index;rw[bf (a:=(k,i)) (by rfl),bf (c8 ht)];dsimp only;rw[aW ⟨h0,h1⟩,bf (jq he),b,tZ];unfold part;rw[bf (rK hd),hag];simp[hv,aZ,pure]
  .exact hk.elim
 .exact hq.elim
def aaq{t:TypeId}{x i:Value}{K:Value->Prop}(ht:P.underlying t=some .string)(hq:mT x i K):∃v,aZ P (Instr.index t x i) h=some v/\K v:=by
 unfold mT at hq;split at hq
 .rename_i s k i;obtain⟨h0,hk⟩:=hq;split at hk
  .rename_i b hb;refine⟨_,?_,hk⟩;unfold Instr.index;rw[bf (a:=(k,i)) (by rfl),bf (c8 ht)];dsimp only;rw[aW h0,hb];rfl
  .exact hk.elim
 .exact hq.elim
def aar{x:Value}{i:Nat}{K:Value->Prop}(hq:bp x i K):∃v,aZ P (Instr.extract x i) h=some v/\K v:=by
 unfold bp at hq;split at hq
 .split at hq
  .rename_i v hv;exact⟨v,by simp[Instr.extract,hv,aZ,pure],hq⟩
  .exact hq.elim
 .exact hq.elim
def aas{op:UnOp}{x:Value}{K:Value->Prop}(hq:bY op x K):∃v,aZ P (Op.unary op x) h=some v/\K v:=by
 unfold bY at hq;split at hq
 .exact⟨_,by simp[Op.unary,Op.intArith,aZ,pure],hq⟩
 .exact⟨_,by simp[Op.unary,Op.intBits,aZ,pure],hq⟩
 .exact⟨_,by simp[Op.unary,aZ,pure],hq⟩
 .exact hq.elim
def aat{s d:TypeId}{ds:TypeDesc}{k:IntKind}{x:Value}{K:Value->Prop}(hs:P.underlying s=some ds)(hd:P.underlying d=some (.int k))
  (hq:cJ k x K):∃v,aZ P (convert s d x) h=some v/\K v:=by
 unfold cJ at hq;split at hq
 .rename_i k' n;refine⟨_,?_,hq⟩;unfold convert;rw[bf (c8 hs),bf (c8 hd)];cases ds<;>rfl
 .exact hq.elim
def Ku{F:Value->ByteArray->Sem (ForInStep ByteArray)}(hF:∀n s,F (.int .u8 n) s=pure (.yield (s.push (UInt8.ofNat n.toNat)))):∀{l:List Value}{s0 s:ByteArray},qA l s0=some s->aZ P (forIn l s0 F) h=some s
 | [],s0,s,hq=>by simp only[qA,eM]at hq;subst hq;rfl
 | v::l,s0,s,hq=>by
  have key:∃n,v=.int .u8 n:=by
   cases v with
   |int k n=>cases k<;>first |exact⟨n,rfl⟩|simp[qA]at hq
   |_=>simp[qA]at hq
  obtain⟨n,rfl⟩:=key;rw[vT,hF];refine(bf (a:=.yield (s0.push (UInt8.ofNat n.toNat))) rfl).trans ?_;exact Ku hF hq
def aau{s d e:TypeId}{x:Value}{K:Value->Prop}(hs:P.underlying s=some (.slice e))(hd:P.underlying d=some .string)(he:P.underlying e=some (.int .u8))(hq:pR h x K):∃v,aZ P (convert s d x) h=some v/\K v:=by
 have hc:∀{v:Value},aZ P (Conv.bytesToString x) h=some v->aZ P (convert s d x) h=some v:=λhv=>by
  unfold convert;rw[bf (c8 hs),bf (c8 hd)];unfold pR at hq;split at hq
  .refine(bf (c8 he)).trans ?_;exact hv
  .refine(bf (c8 he)).trans ?_;exact hv
  .exact hq.elim
 unfold pR at hq;split at hq
 .exact⟨_,hc rfl,hq⟩
 .split at hq
  .rename_i l hl;split at hq
   .rename_i s hs;refine⟨_,hc ?_,hq⟩;unfold Conv.bytesToString;refine(bf (Fj hl)).trans ?_;rw[List.forIn_toArray];refine(bf (Ku (λn s=>rfl) hs)).trans ?_;rfl
   .exact hq.elim
  .exact hq.elim
 .exact hq.elim
def aav{it:Value}{K:Value->Prop}(hq:wM it h K):∃v,aZ P (Instr.entry it) h=some v/\K v:=by
 unfold wM at hq;split at hq
 .rename_i r;split at hq
  .rename_i m x seen stepped hr;split at hq
   .rename_i stamp es clock hb hm;obtain⟨rfl,hq⟩:=hq;split at hq
    .rename_i e he;refine⟨_,?_,hq⟩;unfold Instr.entry;dsimp only;refine(bf (a:=Obj.mapIter (some m) x seen clock) (by simp[getObj,aZ,hr])).trans ?_;dsimp only;rw[hb];dsimp only;refine(bf (a:=Obj.map es clock) (by simp[getObj,aZ,hm])).trans ?_;dsimp only;rw[aQ aP,he];rfl
    .exact hq.elim
   .exact hq.elim
  .exact hq.elim
 .exact hq.elim
def Fs{x y:Value}{K:Value->Prop}(hq:lN x y K):∃v,aZ P (Builtin.min2 x y) h=some v/\K v:=by
 unfold lN at hq;split at hq
 .exact⟨_,by simp[Builtin.min2,aZ,pure],hq⟩
 .exact hq.elim
def Ft{x y:Value}{K:Value->Prop}(hq:jR x y K):∃v,aZ P (Builtin.max2 x y) h=some v/\K v:=by
 unfold jR at hq;split at hq
 .exact⟨_,by simp[Builtin.max2,aZ,pure],hq⟩
 .exact hq.elim
def Kv(off:Nat):∀(l:List Value)(j:Nat)(cs:Array Value),off+j+l.length<=cs.size->
  ((l.zipIdx j).foldl (λcs(x:Value×Nat)=>cs.setIfInBounds (off+x.2) x.1) cs).toList=cs.toList.take (off+j)++l++cs.toList.drop (off+j+l.length)
 | [],j,cs,_=>aP
 | c::l,j,cs,hle=>by
  simp only[fO]at hle;simp only[List.zipIdx_cons,kS];rw[Kv off l (j+1) _ (by simp;omega)];simp only[Array.toList_setIfInBounds];have hlen:off+j<cs.toList.length:=by simp;omega
  have e1:(cs.toList.set (off+j) c).take (off+(j+1))=cs.toList.take (off+j)++ [c]:=by rw[show off+(j+1)=(off+j)+1 by omega,cW (by simpa using hlen)];simp[EH]
  have e2:(cs.toList.set (off+j) c).drop (off+(j+1)+l.length)=cs.toList.drop (off+j+(l.length+1)):=by rw[EI aa,show off+(j+1)+l.length=off+j+(l.length+1) by omega]
  rw[e1,e2];simp
end
section
variable{P:Program}{h:af}
def fill_eq{place:Nat->Option (Nat×Nat)}:∀(parts:List (Nat×Value))(ps:List (Nat×Nat×Value))(cs:Array Value),sW place parts=some ps->
  mH cs.size ps->Instr.fill place cs parts=some (gq cs.toList ps).toArray
 | [],ps,cs,hp,hs=>by simp only[sW,eM]at hp;subst hp;simp[Instr.fill,gq]
 | (i,v)::r,ps,cs,hp,hs=>by
  simp only[sW]at hp;split at hp
  .rename_i off size a;split at hp
   .rename_i l hl;simp only[eM]at hp;subst hp;obtain⟨h1,h2,h3⟩:=hs;unfold Instr.fill;rw[a];dsimp only;have hb:¬((decide (v.cells.size≠size)||decide (off+v.cells.size>cs.size))=true):=by simp[h1];omega
    rw[aQ hb];have hz:v.cells.zipIdx=(v.cells.toList.zipIdx).toArray:=by cases v.cells;simp
    have hf:=Kv off v.cells.toList 0 cs (by simp;omega);have he:(v.cells.zipIdx.foldl (λcs(x:Value×Nat)=>cs.setIfInBounds (off+x.2) x.1) cs)=(cs.toList.take off++v.cells.toList++cs.toList.drop (off+v.cells.size)).toArray:=by
     apply ko;rw[hz,List.foldl_toArray',hf]
     .simp
     .simp
    have hsz:(cs.toList.take off++v.cells.toList++cs.toList.drop (off+v.cells.size)).length=cs.size:=by simp only[cG,dO,sK,Bd];omega
    show Instr.fill place (v.cells.zipIdx.foldl (λcs(x:Value×Nat)=>cs.setIfInBounds (off+x.2) x.1) cs) r=_;rw[he,fill_eq r l _ hl (by rw[List.size_toArray,hsz];exact h3)];simp[gq]
   .cases hp
  .cases hp
def aaw{fs:Array Field}(b:fs.toList.all (λf=>(P.info? f.type).isSome)=true):
  aZ P (fs.mapM λf=>do pure (f.offset,<-sizeOf f.type):Sem (Array (Nat×Nat))) h=some (fs.map λf=>(f.offset,P.cellsOf f.type)):=by
 have key:∀(l:List Field),l.all (λf=>(P.info? f.type).isSome)=true->
   aZ P (l.mapM λf=>do pure (f.offset,<-sizeOf f.type):Sem (List (Nat×Nat))) h=some (l.map λf=>(f.offset,P.cellsOf f.type)):=by
  intro l
  induction l with
  |nil=>intro _;rfl
  |cons f l ih=>intro hl;simp only[List.all_cons,gb]at hl;obtain⟨i,hi⟩:=aqU.1 hl.1;rw[Be];rw[bf (a:=(f.offset,i.size)) (by rw[bf (jq hi)];rfl),bf (ih hl.2)];simp[aZ,pure,Program.cellsOf,hi]
 rw[J3];show aZ P (Functor.map List.toArray (fs.toList.mapM _)) h=_;have e:∀{α β:Type}(f:α->β)(s:Sem α),(Functor.map f s:Sem β)=(s>>=λa=>pure (f a)):=λf s=>rfl;rw[e,bf (key fs.toList b)];simp only[aZ,pure];congr 1;cases fs;simp
def aax{t:TypeId}{fs:Array Field}{i:TypeInfo}{z:Value}{parts:Array (Nat×Value)}{ps:List (Nat×Nat×Value)}{K:Value->Prop}
  (ht:P.underlying t=some (.struct fs)) (hi:P.info? t=some i) (hz:i.zero=some z) (a:fs.toList.all (λf=>(P.info? f.type).isSome)=true)
  (hp:sW ((fs.map λf=>(f.offset,P.cellsOf f.type))[·]?) parts.toList=some ps) (hq:aV z.cells.toList ps K):
  ∃v,aZ P (Instr.build t parts) h=some v/\K v:=by
 obtain⟨hs,hk⟩:=hq;refine⟨_,?_,hk⟩;unfold Instr.build;rw[bf (pS hi hz),bf (c8 ht)];dsimp only;rw[bf (aaw a),fill_eq parts.toList ps z.cells hp (by simpa using hs)];rfl
def Fu{size:Nat}:∀(l:List (Nat×Value)),sW (λi=>some (i*size,size)) l=some (l.map λ(i,v)=>(i*size,size,v))
 | []=>rfl
 |(i,v)::r=>by simp[sW,Fu r]
def aay{t e:TypeId}{n:Nat}{i a:TypeInfo}{z:Value}{parts:Array (Nat×Value)}{K:Value->Prop}
  (ht:P.underlying t=some (.array n e)) (hi:P.info? t=some i) (hz:i.zero=some z) (he:P.info? e=some a)
  (hq:aV z.cells.toList (parts.toList.map λ(j,x)=>(j*a.size,a.size,x)) K):
  ∃v,aZ P (Instr.build t parts) h=some v/\K v:=by
 obtain⟨hs,hk⟩:=hq;refine⟨_,?_,hk⟩;unfold Instr.build;rw[bf (pS hi hz),bf (c8 ht)];dsimp only;rw[bf (jq he),fill_eq parts.toList _ z.cells (Fu _) (by simpa using hs)];rfl
end
section
variable{P:Program}{h:af}
def Fv{α β:Type}(f:α->β)(a:Array α):(a.toList.map f).toArray=a.map f:=by cases a;simp
def aaz{v:Value}{K:Value->Prop}(hq:aI v K):∃u,aZ P (match v with
  | .pointer none| .nilIface| .nilFunc=>runtimePanic .nilDeref
  | .func (.method name) first captured=>
   match(first[0]? :Option Value)with
   |some .nilIface=>runtimePanic .nilDeref
   | some (.iface t w)=>do
    if(<-nilAhead ((<-program).types.size+Made.depth) t w name) != some false then
     unsupported (.noEntry "op/nilCheck.the method's receiver behind this interface value is a nil pointer, or cannot be seen to be none, and the arguments act or may panic (ledger 612)")
    pure (.value (.func (.method name) first captured))
   |_=>pure (.value (.func (.method name) first captured))
  |x=>pure (.value x):Sem Next) h=some (.value u)/\K u:=by
 unfold aI at hq;split at hq
 .exact⟨_,rfl,hq⟩
 .exact⟨_,rfl,hq⟩
 .exact⟨_,rfl,hq⟩
 .exact hq.elim
def Kw:∀{cs:List Value}{l:List Int},mS cs=some l->∀i:Nat,cs[i]? =(l[i]?).map λa=>Value.int .i64 a
 | [],l,h,i=>by simp only[mS,eM]at h;subst h;simp
 | v::cs,l,h,i=>by
  have key:∃a l',v=.int .i64 a/\mS cs=some l'/\l=a::l':=by
   cases v with
   |int k a=>
    cases k<;>simp only[mS,reduceCtorEq]at h;cases hl:mS cs with
    |none=>rw[hl]at h;cases h
    |some l'=>rw[hl]at h;exact⟨a,l',rfl,rfl,(eV h).symm⟩
   |_=>simp[mS]at h
  obtain⟨a,l',rfl,hl',rfl⟩:=key;cases i with
  |zero=>rfl
  |succ i=>simpa using Kw hl' i
def Kx{t:TypeId}(ht:P.underlying t=some (.int .i64)){cs:Array Value}{l:List Int}(hl:mS cs.toList=some l){i:Nat}{a:Int}(hi:l[i]? =some a):aZ P (part t cs i) h=some (.int .i64 a):=by unfold part;rw[bf (rK ht)];have :=Kw hl i;rw[hi]at this;simp only[k7,gm,dN];rw[show cs[i]? =some (.int .i64 a) by simpa using this];rfl
def Kz{t:TypeId}(ht:P.underlying t=some (.int .i64)){d:Nat}{a b:Int}:aZ P (Op.equalIn (d+1) t (.int .i64 a) (.int .i64 b)) h=some (a==b):=by unfold Op.equalIn;rw[bf (c8 ht)];simp[aZ,pure]
def KA{a b:List Int}{body:Field->Option Bool×Unit->Sem (ForInStep (Option Bool×Unit))}(hb:∀(f:Field)(i:Nat)(x y:Int),P.underlying f.type=some (.int .i64)->f.offset=i->f.name≠ "_"->a[i]? =some x->b[i]? =some y->
   aZ P (body f (none,())) h=some (if x=y then .yield (none,())else .done (some false,()))):
  ∀(l:List Field)(i:Nat),BM P l i=true->a.length=i+l.length->b.length=i+l.length->aZ P (forIn l (none,()) body) h=some (if a.drop i=b.drop i then none else some false,())
 | [],i,_,h1,h2=>by have e1:a.drop i=[]:=rz (by simpa using yE h1);have e2:b.drop i=[]:=rz (by simpa using yE h2);rw[EG,e1,e2,aW rfl];rfl
 | f::l,i,hf,h1,h2=>by
  simp only[BM,gb,mA,rA,ne_eq]at hf;obtain⟨f1,f2,f3,f4⟩:=hf;have f3:P.underlying f.type=some (.int .i64):=by
   split at f3
   .assumption
   .cases f3
  have f1:=gl f1;simp only[fO]at h1 h2;have ha:i<a.length:=aa;have hb':i<b.length:=aa;rw[vT,bf (hb f i a[i] b[i] f3 f1 f2 (dD ha) (dD hb'))];rw[iD ha,iD hb'];by_cases e:a[i]=b[i]
  .rw[aW e];have :=KA hb l (i+1) f4 aa aa;simp only[e,ua,rB];exact this
  .rw[aQ e,aQ λh=>e (List.cons.inj h).1];rfl
def KB{t:TypeId}{fs:Array Field}{xs ys:Array Value}{a b:List Int}(hd:P.underlying t=some (.struct fs))(he:ze P t fs=true)(ha:mS xs.toList=some a)(hb:mS ys.toList=some b)
  (la:a.length=fs.size) (lb:b.length=fs.size):aZ P (Op.equal t (.agg xs) (.agg ys)) h=some (decide (a=b)):=by
 simp only[ze,gb,mA]at he;obtain⟨e1,e2,e3⟩:=he;unfold Op.equal Op.maxDepth Op.equalIn;rw[bf (c8 hd)];dsimp only;rw[bf (a:=P) (by simp[program,aZ])];rw[e1];simp only[gm,dN];rw[<-Array.forIn_toList];rw[bf (KA (a:=a) (b:=b) (λf i x y ht hf hn hx hy=>by
  rw[aW hn,hf,bf (Kx ht ha hx),bf (Kx ht hb hy),bf (Kz ht)];by_cases e:x=y
  .simp[e,aZ,pure]
  .rw[show(!(x==y))=true by simpa using e];simp[e,aZ,pure]) fs.toList 0 e3 (by simpa using la) (by simpa using lb))]
 simp only[ox];by_cases e:a=b
 .rw[aW e,bT e];rfl
 .rw[aQ e,bR e];rfl
def aaA{ρ:Operand->Value}{op:BinOp}{t:TypeId}{fs:Array Field}{x y:Operand}{K:Value->Prop}(hd:P.underlying t=some (.struct fs))(he:ze P t fs=true)
  (hq:zc op fs.size (ρ x) (ρ y) K):∃v,aZ P (do eqGuard op t x y (ρ x) (ρ y);binOp op t (ρ x) (ρ y)) h=some v/\K v:=by
 have e2:P.eqGuardType P.depth t=false:=by simp only[ze,gb,mA]at he;exact he.2.1
 unfold zc at hq;split at hq
 .rename_i xs ys hx hy;split at hq
  .rename_i a b ha hb;obtain⟨la,lb,hk⟩:=hq;refine⟨_,?_,hk⟩;rw[hx,hy];have hg:aZ P (eqGuard .eql t x y (.agg xs) (.agg ys)) h=some ():=by
    unfold eqGuard;simp[aZ,program,bind,Sem.bind,pure,e2]
   rw[bf hg];show aZ P (do pure (Value.bool (<-Op.equal t (.agg xs) (.agg ys)))) h=_;rw[bf (KB hd he ha hb la lb)];rfl
  .exact hq.elim
 .rename_i xs ys hx hy;split at hq
  .rename_i a b ha hb;obtain⟨la,lb,hk⟩:=hq;refine⟨_,?_,hk⟩;rw[hx,hy];have hg:aZ P (eqGuard .neq t x y (.agg xs) (.agg ys)) h=some ():=by
    unfold eqGuard;simp[aZ,program,bind,Sem.bind,pure,e2]
   rw[bf hg];show aZ P (do pure (Value.bool (!(<-Op.equal t (.agg xs) (.agg ys))))) h=_;rw[bf (KB hd he ha hb la lb)];rfl
  .exact hq.elim
 .exact hq.elim
def BO{t:TypeId}{d:TypeDesc}(ht:P.underlying t=some d)(hd:k7 d=false){cs:Array Value}{i:Nat}{v:Value}(hi:cs[i]? =some v):aZ P (part t cs i) h=some v:=by unfold part;rw[bf (rK ht)];simp only[hd,gm,dN];rw[hi];rfl
def aaB{f g:Field}{r1 r2:Bool}{body:Field->Option Bool×Unit->Sem (ForInStep (Option Bool×Unit))}(h1:aZ P (body f (none,())) h=some (if r1 then .yield (none,())else .done (some false,())))
  (h2:aZ P (body g (none,())) h=some (if r2 then .yield (none,())else .done (some false,()))):aZ P (forIn [f,g] (none,()) body) h=some (if r1&&r2 then none else some false,()):=by
 rw[vT,bf h1];cases r1
 .rfl
 .rw[aW rfl];dsimp only;rw[vT,bf h2];cases r2<;>rfl
def aaC {ρ:Operand->Value} {op:BinOp} {t:TypeId} {fs:Array Field} {x y:Operand} {K:Value->Prop} (hd:P.underlying t=some (.struct fs)) (he:Fm P t fs=true)
  (hq:uy op (ρ x) (ρ y) K):∃v,aZ P (do eqGuard op t x y (ρ x) (ρ y);binOp op t (ρ x) (ρ y)) h=some v/\K v:=by
 simp only[Fm,gb,mA]at he;obtain⟨e1,e2,e3⟩:=he;unfold uy at hq;split at hq
 .rename_i xs ys hx hy;split at hq
  .rename_i a s b u hxs hys;refine⟨_,?_,hq⟩;rw[hx,hy];have hg:aZ P (eqGuard .neq t x y (.agg xs) (.agg ys)) h=some ():=by
    unfold eqGuard;simp[aZ,program,bind,Sem.bind,pure,e2]
   rw[bf hg];show aZ P (do pure (Value.bool (!(<-Op.equal t (.agg xs) (.agg ys))))) h=_;have hxs:xs= #[.int .i64 a,.string s]:=by apply ko;simpa using hxs
   have hys:ys= #[.int .i64 b,.string u]:=by apply ko;simpa using hys
   subst hxs hys;split at e3
   .rename_i f g c;simp only[gb,mA,rA,ne_eq]at e3;obtain⟨o1,o2,n1,n2,hT⟩:=e3;have o1:=gl o1;have o2:=gl o2;split at hT
    .rename_i t1 t2;have eq:aZ P (Op.equal t (.agg #[.int .i64 a,.string s]) (.agg #[.int .i64 b,.string u])) h=some (a==b&&s==u):=by
      unfold Op.equal Op.maxDepth Op.equalIn;rw[bf (c8 hd)];dsimp only;rw[bf (a:=P) (by simp[program,aZ])];rw[e1];simp only[gm,dN];rw[<-Array.forIn_toList,c];have q1:∀d,aZ P (Op.equalIn (d+1) f.type (.int .i64 a) (.int .i64 b)) h=some (a==b):=λd=>Kz t1;have q2:∀d,aZ P (Op.equalIn (d+1) g.type (.string s) (.string u)) h=some (s==u):=λd=>by unfold Op.equalIn;rw[bf (c8 t2)];simp[aZ,pure]
      rw[bf (aaB (r1:=a==b) (r2:=s==u) (by
        rw[aW n1,o1,bf (BO (v:=.int .i64 a) t1 rfl rfl),bf (BO (v:=.int .i64 b) t1 rfl rfl),bf (q1 _)];cases a==b<;>simp[aZ,pure]) (by
        rw[aW n2,o2,bf (BO (v:=.string s) t2 rfl rfl),bf (BO (v:=.string u) t2 rfl rfl),bf (q2 _)];cases s==u<;>simp[aZ,pure]))]
      cases a==b<;>cases s==u<;>rfl
     rw[bf eq];rfl
    .cases hT
   .cases e3
  .exact hq.elim
 .exact hq.elim
def aaD{ρ:Operand->Value}{op:BinOp}{t:TypeId}{d:TypeDesc}{x y:Operand}{K:Value->Prop}(hd:P.underlying t=some d)
  (hq:zd d op (wN y) (ρ x) (ρ y) K):
  ∃v,aZ P (do eqGuard op t x y (ρ x) (ρ y);binOp op t (ρ x) (ρ y)) h=some v/\K v:=by
 unfold zd at hq;split at hq
 .rename_i k hk;split at hq
  .exact hq.elim
  .rename_i a;have main:∀neg:Bool,(op=.eql/\neg=false\/op=.neq/\neg=true)->bL neg k (ρ x) (ρ y) K->
     ∃v,aZ P (do eqGuard op t x y (ρ x) (ρ y);binOp op t (ρ x) (ρ y)) h=some v/\K v:=by
    intro neg hop hp;have hn:=aab hp;obtain⟨b,hv,hk'⟩:=aaa (h:=h) hd hk hp;refine⟨_,?_,hk'⟩;have hg:aZ P (eqGuard op t x y (ρ x) (ρ y)) h=some ():=by
     by_cases hni:ρ x=.nilIface
     .obtain⟨rfl,_⟩:=hn.2 hni;have :wN y=true:=by cases hl:wN y<;>simp_all [Kl]
      exact Z8 hn.1 this
     .exact Ko hn.1 (λe=>hni e.1)
    rw[bf hg,eq_not hp op t (by rcases hop with ⟨e,_⟩|⟨e,_⟩<;>simp[e])];rcases hop with ⟨rfl,rfl⟩|⟨rfl,rfl⟩
    .dsimp only;rw[bf hv];simp[aZ,pure]
    .dsimp only;rw[bf hv];simp[aZ,pure]
   split at hq
   .exact main false (.inl ⟨rfl,rfl⟩) hq
   .exact main true (.inr ⟨rfl,rfl⟩) hq
   .exact hq.elim
 .have hn:=Z9 hq;obtain⟨v,hv,hk⟩:=Z7 (P:=P) (h:=h) (t:=t) hq;refine⟨v,?_,hk⟩;rw[bf (Ko hn.1 (λe=>hn.2 e.1))];exact hv
def aaE{t type:TypeId}{argTypes:Array TypeId}{args:Array Value}{d:TypeDesc}{x:Value}{K:Value->Prop}(hT:argTypes[0]? =some t)(hx:args[0]? =some x)
  (hd:P.underlying t=some d)
  (hq:match some d with
    |some (.slice _)=>bB x K
    |some .string=>fQ x K
    |some (.map _ _)=>sV h x K
    |some (.array n _)=>K (.int .i64 n)
    |_=>False):∃v,aZ P (Builtin.len_ argTypes type args) h=some v/\K v:=by
 split at hq
 .rename_i e a;cases a;unfold bB at hq;split at hq
  .refine⟨_,?_,hq⟩;unfold Builtin.len_;simp only[hT,hx];rw[bf (c8 hd)];rfl
  .exact hq.elim
 .rename_i a;cases a;unfold fQ at hq;split at hq
  .refine⟨_,?_,hq⟩;unfold Builtin.len_;simp only[hT,hx];rw[bf (c8 hd)];rfl
  .exact hq.elim
 .rename_i a;cases a;unfold sV at hq;split at hq
  .refine⟨_,?_,hq⟩;unfold Builtin.len_;simp only[hT,hx];rw[bf (c8 hd)];rfl
  .rename_i r;split at hq
   .rename_i es clock hm;refine⟨_,?_,hq⟩;have b:aZ P (getObj r) h=some (.map es clock):=by simp[getObj,aZ,hm]
    unfold Builtin.len_;simp only[hT,hx];rw[bf (c8 hd)];dsimp only;rw[bf b];rfl
   .exact hq.elim
  .exact hq.elim
 .rename_i a;cases a;refine⟨_,?_,hq⟩;unfold Builtin.len_;simp only[hT,hx];rw[bf (c8 hd)];cases x<;>rfl
 .exact hq.elim
def aaF{t type:TypeId}{argTypes:Array TypeId}{args:Array Value}{e:TypeId}{x:Value}{K:Value->Prop}(hT:argTypes[0]? =some t)(hx:args[0]? =some x)
  (hd:P.underlying t=some (.slice e)) (hq:wJ x K):∃v,aZ P (Builtin.cap_ argTypes type args) h=some v/\K v:=by
 unfold wJ at hq;split at hq
 .refine⟨_,?_,hq⟩;unfold Builtin.cap_;simp only[hT,hx];rw[bf (c8 hd)];rfl
 .exact hq.elim
def KC{ρ:Operand->Value}{o:Oper}{K:Value->Prop}(hq:jA P ρ o.op h K):∃v,aZ P (execOp ρ o) h=some (.value v)/\K v:=by
 have lift:∀{s:Sem Value},(∃v,aZ P s h=some v/\K v)->∃v,aZ P (do pure (Next.value (<-s)):Sem Next) h=some (.value v)/\K v:=λ⟨v,hv,hk⟩=>⟨v,rdv hv,hk⟩
 obtain⟨dst,op,type,pos,after,guard⟩:=o;dsimp only at hq;unfold execOp;cases op<;>simp only[jA]at hq
 case move x=>exact⟨_,rfl,hq⟩
 case assign x=>exact⟨_,rfl,hq⟩
 case pick c a b=>
  unfold wG at hq;dsimp only;split at hq
  .rename_i e;exact⟨_,by rw[e];rfl,hq⟩
  .rename_i e;exact⟨_,by rw[e];rfl,hq⟩
  .exact hq.elim
 case load t a=>
  split at hq
  .rename_i d i hd hi;exact lift (Km hd hi hq)
  .exact hq.elim
 case nilCheck x=>exact aaz hq
 case binOp op t x y j=>
  split at hq
  .rename_i fs hd;split at hq
   .rename_i he;exact lift (aaA hd he hq)
   .split at hq
    .rename_i he;exact lift (aaC hd he hq)
    .exact hq.elim
  .rename_i d _ hd;exact lift (aaD hd hq)
  .exact hq.elim
 case unOp op t x=>exact lift (aas hq)
 case convert s d x=>
  split at hq
  .rename_i hs hd;exact lift (aat hs hd hq)
  .rename_i hs hd;split at hq
   .rename_i he;exact lift (aau hs hd he hq)
   .exact hq.elim
  .exact hq.elim
 case entry it=>exact lift (aav hq)
 case makeInterface t x=>
  split at hq
  .exact hq.elim
  .rename_i d hno hd;refine lift ⟨_,?_,hq⟩;unfold Instr.makeInterface;rw[bf (c8 hd)];cases d<;>first |rfl|exact(hno _ rfl).elim
  .exact hq.elim
 case makeFunc fn first captured=>exact lift ⟨_,rfl,by simpa only[Fv]using hq⟩
 case slice t x lo hi mx=>
  split at hq
  .split at hq
   .rename_i hd _ _ he;exact lift (aaj hd he hq)
   .exact hq.elim
  .rename_i hd;split at hq
   .exact lift (aal hd hq)
   .exact hq.elim
  .rename_i hd;split at hq
   .rename_i he;exact lift (aak hd he hq)
   .exact hq.elim
  .exact hq.elim
 case fieldAddr s x f=>
  split at hq
  .rename_i fs hs;split at hq
   .rename_i fd hf;split at hq
    .rename_i i hi;split at hq
     .exact hq.elim
     .rename_i n hn;exact lift (aam hs hf hi hn hq)
    .exact hq.elim
   .exact hq.elim
  .exact hq.elim
 case field t x f=>
  split at hq
  .rename_i fs hs;split at hq
   .rename_i fd hf;split at hq
    .rename_i d i hd hi;exact lift (aan hs hf hd hi hq)
    .exact hq.elim
   .exact hq.elim
  .exact hq.elim
 case indexAddr t x i=>
  split at hq
  .rename_i e ht;split at hq
   .rename_i info he;exact lift (aah ht he hq)
   .exact hq.elim
  .rename_i n e ht;split at hq
   .rename_i info he;exact lift (aai ht he hq)
   .exact hq.elim
  .exact hq.elim
 case index t x i=>
  split at hq
  .rename_i n e ht;split at hq
   .rename_i d info hd he;split at hq
    .rename_i hag;exact lift (aao ht hd he hag hq)
    .rename_i hag;split at hq
     .rename_i h1;exact lift (aap ht hd he hag (gl h1) hq)
     .exact hq.elim
   .exact hq.elim
  .rename_i ht;exact lift (aaq ht hq)
  .exact hq.elim
 case lookup t m k ok=>
  split at hq
  .rename_i kt et ht;split at hq
   .rename_i kd g hk he;split at hq
    .rename_i z hs hz;exact lift (aag ht hk he hs hz hq)
    .exact hq.elim
   .exact hq.elim
  .exact hq.elim
 case extract x i=>exact lift (aar hq)
 case build t parts=>
  split at hq
  .rename_i fs i ht hi;split at hq
   .rename_i z hz;split at hq
    .rename_i ps hp hall;exact lift (aax ht hi hz hall (by simpa using hp) hq)
    .exact hq.elim
   .exact hq.elim
  .rename_i n e i ht hi;split at hq
   .rename_i z g hz he;refine lift (aay ht hi hz he ?_);have :(parts.map λ(x:Nat×Operand)=>(x.1,ρ x.2)).toList.map (λ(x:Nat×Value)=>(x.1*g.size,g.size,x.2))=parts.toList.map λ(x:Nat×Operand)=>(x.1*g.size,g.size,ρ x.2):=aP;show aV z.cells.toList ((parts.map λ(x:Nat×Operand)=>(x.1,ρ x.2)).toList.map (λ(x:Nat×Value)=>(x.1*g.size,g.size,x.2))) K;rw[this];exact hq
   .exact hq.elim
  .exact hq.elim
 case call c=>
  obtain⟨callee,args,argTypes⟩:=c;dsimp only at hq |-;have core:∀{b:Builtin}{s:Sem Value},(∀cs,builtin b argTypes type cs (args.map ρ)=(do pure (.value (<-s))))->(∃v,aZ P s h=some v/\K v)->
    ∃v,aZ P (do let d<-resolve ρ {callee:=.builtin b,args,argTypes} type;invoke d.target d.args) h=some (.value v)/\K v:=by
   rintro b s hs ⟨v,hv,hk⟩;refine⟨v,?_,hk⟩;show aZ P (builtin b argTypes type _ (args.map ρ)) h=_;rw[hs];exact rdv hv
  have ar:∀{i:Nat}{x:Operand},args[i]? =some x->(args.map ρ)[i]? =some (ρ x):=λhx=>by simp[hx]
  have two:∀{x y:Operand},args.toList=[x,y]->(args.map ρ).toList=[ρ x,ρ y]:=λe=>by simp[e]
  have three:∀{x y z:Operand},args.toList=[x,y,z]->(args.map ρ).toList=[ρ x,ρ y,ρ z]:=λe=>by simp[e]
  split at hq
  .split at hq
   .rename_i t x hT hx;cases hd:P.underlying t with
    |none=>rw[hd]at hq;exact hq.elim
    |some d=>rw[hd]at hq;exact core (λ_=>rfl) (aaE hT (ar hx) hd hq)
   .exact hq.elim
  .split at hq
   .rename_i t x hT hx;split at hq
    .rename_i e hd;exact core (λ_=>rfl) (aaF hT (ar hx) hd hq)
    .exact hq.elim
   .exact hq.elim
  .split at hq
   .rename_i x y hxy;obtain⟨v,hv,hk⟩:=Fs (P:=P) (h:=h) hq;refine core (λ_=>rfl) ⟨v,?_,hk⟩;unfold Builtin.min_;rw[two hxy];dsimp only;rw[vU,bf hv];rfl
   .rename_i x y z hxy;obtain⟨u,hu,hk⟩:=Fs (P:=P) (h:=h) hq;obtain⟨v,hv,hk⟩:=Fs (P:=P) (h:=h) hk;refine core (λ_=>rfl) ⟨v,?_,hk⟩;unfold Builtin.min_;rw[three hxy];dsimp only;rw[vU,bf hu,vU,bf hv];rfl
   .exact hq.elim
  .split at hq
   .rename_i x y hxy;obtain⟨v,hv,hk⟩:=Ft (P:=P) (h:=h) hq;refine core (λ_=>rfl) ⟨v,?_,hk⟩;unfold Builtin.max_;rw[two hxy];dsimp only;rw[vU,bf hv];rfl
   .rename_i x y z hxy;obtain⟨u,hu,hk⟩:=Ft (P:=P) (h:=h) hq;obtain⟨v,hv,hk⟩:=Ft (P:=P) (h:=h) hk;refine core (λ_=>rfl) ⟨v,?_,hk⟩;unfold Builtin.max_;rw[three hxy];dsimp only;rw[vU,bf hu,vU,bf hv];rfl
   .exact hq.elim
  .exact hq.elim
 all_goals exact hq.elim
end
def oG(P:Program)(K:KT):Next->af->Prop
 | .value v,h=>K v h
 | .skip,h=>K undef h
 | .enter f args,h=>Fh P f args h K
 | .round l f tmps assign body,h=>wF P l f tmps assign body h K
 |_,_=>False
def lop (P:Program) (ρ:Operand->Value) (op:Op) (h:af) (K:KT):Prop:=
 match op with
 | .box t v=>aB t (ρ v) h K
 | .alloc t=>(match P.info? t with
  |some i=>(match i.zero with
   |some z=>aB t z h K
   |none=>False)
  |none=>False)
 | .buildSlice t len parts=>(match P.underlying t with
  | some (.slice e)=>(match P.info? e with
   | some i=>(match i.zero with
    |some z=>(match Nat.ble (len*i.size) 16777216,Nat.beq z.cells.size i.size with
     |true,true=>uX e (bO z.cells.toList len) (parts.toList.map λ(j,x)=>(j*i.size,i.size,ρ x)) len h K
     |_,_=>False)
    |none=>False)
   |none=>False)
  |_=>False)
 | .makeSlice t l c=>(match P.underlying t with
  | some (.slice e)=>(match P.info? e with
   | some i=>(match i.zero with
    |some z=>(match Nat.beq z.cells.size i.size with
     |true=>dG e i.bytes z.cells.toList (ρ l) (ρ c) h K
     |false=>False)
    |none=>False)
   |none=>False)
  |_=>False)
 | .makeMap _ none=>bH h K
 | .range t m=>(match P.underlying t with
  |some (.map _ _)=>BK (ρ m) h K
  |_=>False)
 | .next it s=>(match s with
  |true=>False
  |false=>BL (ρ it) h K)
 | .store t a x=>(match P.info? t with
  |some i=>aD i.size (ρ a) (ρ x) h K
  |none=>False)
 | .mapUpdate t m k x| .insert t m k x=>(match P.underlying t with
  | some (.map kt _)=>(match P.underlying kt with
   |some kd=>(match oF P kd with
    |true=>e9 kd (ρ m) (ρ k) (ρ x) h K
    |false=>False)
   |none=>False)
  |_=>False)
 | .mapEntry t m k=>(match P.underlying t with
  | some (.map kt et)=>(match P.underlying kt,P.info? et with
   |some kd,some b=>(match oF P kd,b.zero with
    |true,some z=>mI kd z (ρ m) (ρ k) h K
    |_,_=>False)
   |_,_=>False)
  |_=>False)
 | .entryStore _ m s x=>lP (ρ m) (ρ s) (ρ x) h K
 | .call c=>(match c.callee with
  | .builtin .append=>(match c.argTypes[0]?,c.argTypes[1]?,c.args.toList with
   | some t,some xt,[s,x]=>(match P.underlying t,P.underlying xt with
    | some (.slice e),some (.slice _)=>(match P.info? e with
     | some i=>(match i.zero with
      |some z=>(match Nat.beq z.cells.size i.size with
       |true=>uY e i.size i.bytes z.cells.toList (ρ s) (ρ x) h K
       |false=>False)
      |none=>False)
     |none=>False)
    | some (.slice e),some .string=>(match P.info? e with
     |some i=>(match i.zero with
      |some z=>wK e i.size i.bytes z.cells.toList (ρ s) (ρ x) h K
      |none=>False)
     |none=>False)
    | some (.slice e),some (.int _)=>(match P.info? e with
     | some i=>(match i.zero with
      |some z=>(match Nat.beq z.cells.size i.size with
       |true=>BJ e i.size i.bytes z.cells.toList (ρ s) (ρ x) h K
       |false=>False)
      |none=>False)
     |none=>False)
    |_,_=>False)
   |_,_,_=>False)
  | .builtin .copy=>(match c.argTypes[0]?,c.args.toList with
   | some t,[d,x]=>(match P.underlying t with
    | some (.slice e)=>(match P.info? e with
     |some i=>(match Z6 P c.argTypes[1]? with
      |true=>uE (ρ d) (ρ x) h K
      |false=>kZ i.size (ρ d) (ρ x) h K)
     |none=>False)
    |_=>False)
   |_,_=>False)
  | .builtin .delete=>(match c.argTypes[0]?,c.args.toList with
   | some t,[m,k]=>(match P.underlying t with
    | some (.map kt _)=>(match P.underlying kt with
     |some kd=>(match oF P kd with
      |true=>uD kd (ρ m) (ρ k) h K
      |false=>False)
     |none=>False)
    |_=>False)
   |_,_=>False)
  | .builtin .clear=>(match c.argTypes[0]?,c.args.toList with
   | some t,[x]=>(match P.underlying t with
    | some (.slice e)=>(match P.info? e with
     |some i=>(match i.zero with
      |some z=>wL z.cells.toList (ρ x) h K
      |none=>False)
     |none=>False)
    |_=>False)
   |_,_=>False)
  | .value f=>aX P (ρ f) (c.args.toList.map ρ).toArray h K
  |_=>False)
 |_=>False
section
variable{P:Program}{h:af}
def Fw{α:Type}{a:α}{K:α->af->Prop}(hk:K a h):wpS P (pure a:Sem α) h K:=hk
def cr{α β:Type}{s:Sem α}{f:α->Sem β}{a:α}{K:β->af->Prop}(hs:aZ P s h=some a)(hk:wpS P (f a) h K):wpS P (s>>=f) h K:=ig (Fg hs hk)
def rM{s:Sem Value}{K:KT}(hs:wpS P s h K):wpS P (do pure (Next.value (<-s)):Sem Next) h (oG P K):=ig (qy (λ_ _ hk=>hk) hs)
def BP{s:Sem Unit}{K:KT}(hs:wpS P s h λ_ h'=>K undef h'):wpS P (do s;pure Next.skip:Sem Next) h (oG P K):=ig (qy (λ_ _ hk=>hk) hs)
def aaG{t:TypeId}{v:Value}{K:KT}(hq:aB t v h K):wpS P (Instr.box t v) h K:=by unfold Instr.box newVar newRow;exact hq
def aaH{t:TypeId}{i:TypeInfo}{z:Value}{K:KT}(hi:P.info? t=some i)(hz:i.zero=some z)(hq:aB t z h K):
  wpS P (Instr.alloc t true (.tuple #[])) h K:=by
 unfold Instr.alloc;refine cr (pS hi hz) ?_;exact hq
def Fx(z:Array Value)(n s:Nat)(hs:z.size=s):
  (Array.range (n*s)).map (z[· %z.size]!)=(bO z.toList n).toArray:=by
 subst hs;apply ko;simp only[Bf,Array.toList_range,bO]
 induction n with
 |zero=>simp
 | succ n ih=>
  rw[qn,Bg,fq,ih,List.replicate_succ',List.flatten_append];congr 1;simp only[rC,EJ,List.flatten_nil,eO];apply iW
  .simp
  .intro i h1 h2;simp only[gK,gd]at h1;simp[Function.comp,pH h1,h1]
def aaI{t e:TypeId}{i:TypeInfo}{z:Value}{len:Nat}{parts:Array (Nat×Value)}{K:KT}(ht:P.underlying t=some (.slice e))
  (hi:P.info? e=some i) (hz:i.zero=some z) (hl:len*i.size<=16777216) (hzs:z.cells.size=i.size)
  (hq:uX e (bO z.cells.toList len) (parts.toList.map λ(j,x)=>(j*i.size,i.size,x)) len h K):
  wpS P (Instr.buildSlice t len parts) h K:=by
 obtain⟨hs,hk⟩:=hq;have a:=Fx z.cells len i.size hzs;have hsz:(bO z.cells.toList len).length=((Array.range (len*i.size)).map (z.cells[· %z.cells.size]!)).size:=by rw[a];simp
 unfold Instr.buildSlice;refine cr (c8 ht) ?_;dsimp only;refine cr (jq hi) ?_;rw[aQ aa];have fin:∀(zero:Array Value),(Array.range (len*i.size)).map (zero[· %zero.size]!)=(bO z.cells.toList len).toArray->
   wpS P (match Instr.fill (λj=>some (j*i.size,i.size)) ((Array.range (len*i.size)).map (zero[· %zero.size]!)) parts.toList with
    |some cells=>do pure (.slice (some (<-newRow e cells)) len len)
    |x=>stuck "buildSlice: a part of the wrong size") h K:=by
  intro zero hzero;rw[hzero,fill_eq parts.toList _ _ (Fu _) (by simpa using hs)];exact hk
 split
 .rename_i h0;refine fin #[] ?_;rw[<-a,h0];simp
 .refine cr (pS hi hz) ?_;exact fin z.cells a
def wrap_i64{n:Int}(h0:0<=n)(h1:n<2^63):IntKind.i64.wrap n=n:=by have e:n%(2^IntKind.i64.bits:Int)=n:=mC h0 (by show n<2^64;omega);have f:decide (n>=(2^(IntKind.i64.bits-1):Int))=false:=bR (by show ¬(n>=2^63);omega);unfold IntKind.wrap;dsimp only;rw[e,f];simp
def aaJ{t e:TypeId}{i:TypeInfo}{z:Value}{l c:Value}{K:KT}(ht:P.underlying t=some (.slice e))
  (hi:P.info? e=some i) (hz:i.zero=some z) (hzs:z.cells.size=i.size) (hq:dG e i.bytes z.cells.toList l c h K):
  wpS P (Instr.makeSlice t l c) h K:=by
 unfold dG at hq;split at hq
 .rename_i k l k' c;obtain⟨h0,h1,h2,h3,hk⟩:=hq;have wl:=wrap_i64 h0 (by omega:l<2^63);have wc:=wrap_i64 (by omega:0<=c) h3;have b:=Fx z.cells c.toNat i.size hzs;unfold Instr.makeSlice;refine cr (c8 ht) ?_;dsimp only;refine cr (a:=l) (by rfl) ?_;refine cr (a:=c) (by rfl) ?_;refine cr (qB hi) ?_;rw[wl,wc];have d:(((decide (c<0)||decide ((i.bytes:Int)*c>2^48))||decide (l<0))||decide (l>c))=false:=by
   simp;omega
  have f:¬((decide (c<0)||decide ((i.bytes:Int)*c>2^48)||decide (l<0)||decide (l>c))=true):=by rw[d];simp
  rw[aQ f];unfold askRoom;have hk':K (.slice (some ⟨h.size,0,none⟩) l.toNat c.toNat) (h.push (.cells (bO z.cells.toList c.toNat).toArray e (0,0))):=hk;have go:wpS P (do
    let n:=c.toNat*(<-sizeOf e)
    let zero<-if n=0 then pure #[]else do pure (<-zeroValue e).cells
    let a<-newRow e ((Array.range n).map (zero[· %zero.size]!))
    pure (.slice (some a) l.toNat c.toNat):Sem Value) h K:=by
   refine cr (jq hi) ?_;dsimp only;split
   .rename_i hn;show K _ _;have :(Array.range (c.toNat*i.size)).map ((#[]:Array Value)[· %(#[]:Array Value).size]!)=(bO z.cells.toList c.toNat).toArray:=by
     rw[<-b,hn];simp
    rw[this];exact hk'
   .refine cr (pS hi hz) ?_;show K _ _;rw[b];exact hk'
  split
  .exact ig (show wpS P (mark .noRoom) h _ from go)
  .exact ig (Fw go)
 .exact hq.elim
def uF{b o:Nat}:∀(vs:List Value)(i:Nat){h:af}{K:af->Prop},mU h b (o+i) vs K->
  wpS P (storeCells ⟨b,o,none⟩ vs i) h (λ_ h'=>K h')
 | [],i,h,K,hq=>hq
 |v::r,i,h,K,hq=>by obtain⟨hp,hc,hf,hk⟩:=hq;unfold storeCells;refine ig ?_;rw[rJ];exact⟨hp,hc,hf,uF r (i+1) (by rw[<-sJ];exact hk)⟩
def aaK{t:TypeId}{i:TypeInfo}{a v:Value}{K:KT}(hi:P.info? t=some i)(hq:aD i.size a v h K):
  wpS P (Instr.storeAt t a v) h (λ_ h'=>K undef h'):=by
 unfold aD at hq;split at hq
 .rename_i b o;obtain⟨hs,hk⟩:=hq;unfold Instr.storeAt;refine cr (a:=⟨b,o,none⟩) (by rfl) ?_;unfold storeVar;refine cr (jq hi) ?_;rw[aQ (by simpa using hs)];exact uF v.cells.toList 0 (by simpa using hk)
 .exact hq.elim
end
section
variable{P:Program}{h:af}
def aaL{kd:TypeDesc}{old k:Value}(hs:Instr.sameNow kd k old=some true):aZ P (Instr.keyThatStays old k) h=some k:=by
 have hb:Instr.sameBits (9999+1) old k=true:=by
  unfold Instr.sameNow at hs;split at hs
  .rename_i kk a k' b;split at hs
   .rename_i he;subst he;simp only[eM,qp]at hs;subst hs;simp[Instr.sameBits]
   .cases hs
  .simp only[eM]at hs;have :=(MapKept.bytes_beq _ _).1 hs;subst this;simp only[Instr.sameBits];exact(MapKept.bytes_beq _ _).2 rfl
  .simp only[eM,qp]at hs;subst hs;simp[Instr.sameBits]
  .cases hs
 unfold Instr.keyThatStays;rw[show(10000:Nat)=9999+1 from rfl,hb];rfl
def KD{k:Int×Int×Int}:∀{es:List MapEntry}{j i:Nat}{v:Value},oE k es j=some (some (i,v))->
  j<=i/\∃e,es[i-j]? =some e/\e.val=v/\uB e.key=some k
 | [],j,i,v,hf=>by simp[oE]at hf
 | e::es,j,i,v,hf=>by
  simp only[oE]at hf;split at hf
  .rename_i k' hk';split at hf
   .rename_i hs;simp only[eM,mO]at hf;obtain⟨rfl,rfl⟩:=hf;exact⟨cq _,e,aP,rfl,by rw[hk',hs]⟩
   .obtain⟨hle,e',he',hv,hs⟩:=KD hf;refine⟨aa,e',?_,hv,hs⟩;have :i-j=(i-(j+1))+1:=aa;rw[this];simpa using he'
  .cases hf
def KF{kd:TypeDesc}{k:Value}{es:List MapEntry}{i:Nat}{v:Value}(hf:aqQ kd k es=some (some (i,v))):
  True/\∃e,es[i]? =some e/\e.val=v/\aZ P (Instr.keyThatStays e.key k) h=some k:=by
 refine⟨trivial,?_⟩;by_cases ha:∃m e,kd=.array m e
 .obtain⟨m,e,rfl⟩:=ha;simp only[aqQ]at hf;split at hf
  .rename_i a hk;obtain⟨_,e,he,hv,hs⟩:=KD hf;refine⟨e,by simpa using he,hv,?_⟩;rw[wO hk,wO hs];unfold Instr.keyThatStays;rw[aW (by simp[Instr.sameBits])];rfl
  .cases hf
 .have hf':Instr.findNow kd k es 0=some (some (i,v)):=by
   cases kd<;>first |exact hf|exact(ha ⟨_,_,rfl⟩).elim
  obtain⟨_,e,he,hv,hs⟩:=BN hf';exact⟨e,by simpa using he,hv,aaL hs⟩
def BQ{r:Nat}{es:Array MapEntry}{clock:Nat}(hm:h[r]? =some (.map es clock)):aZ P (getObj r) h=some (.map es clock):=by simp[getObj,aZ,hm]
def uG{r:Nat}{es:Array MapEntry}{clock:Nat}{o:Obj}{K:Unit->af->Prop}(hm:h[r]? =some (.map es clock))(hk:K () (h.setIfInBounds r o)):
  wpS P (setObj r o) h K:=by
 simp[setObj,wpS,hm];exact hk
def KG{t kt et:TypeId}{kd:TypeDesc}{m k v:Value}{K:KT}(ht:P.underlying t=some (.map kt et))(hk:P.underlying kt=some kd)
  (hs:oF P kd=true) (hq:e9 kd m k v h K):wpS P (Instr.mapUpdate t m k v) h (λ_ h'=>K undef h'):=by
 unfold e9 at hq;split at hq
 .rename_i r;split at hq
  .rename_i es clock hm;unfold Instr.mapUpdate;refine cr (c8 ht) ?_;dsimp only;refine cr (BQ hm) ?_;dsimp only;split at hq
   .rename_i i old hf;refine cr (qC (n:=9998) hk hs hf) ?_;refine cr (rL hk hs hf) ?_;dsimp only;obtain⟨_,e,he,_,b⟩:=KF hf;have he':es[i]? =some e:=by simpa using he
    refine cr (a:=k) (by rw[he'];exact b) ?_;exact uG hm hq
   .rename_i hf;refine cr (qC (n:=9998) hk hs hf) ?_;refine cr (rL hk hs hf) ?_;exact uG hm hq
   .exact hq.elim
  .exact hq.elim
 .exact hq.elim
def aaM{t kt et:TypeId}{kd:TypeDesc}{b:TypeInfo}{z m k:Value}{K:KT}(ht:P.underlying t=some (.map kt et))(hk:P.underlying kt=some kd)
  (hs:oF P kd=true) (he:P.info? et=some b) (hz:b.zero=some z) (hq:mI kd z m k h K):wpS P (Instr.mapEntry t m k) h K:=by
 unfold mI at hq;split at hq
 .rename_i r;split at hq
  .rename_i es clock hm;unfold Instr.mapEntry;refine cr (c8 ht) ?_;dsimp only;refine cr (BQ hm) ?_;dsimp only;split at hq
   .rename_i i old hf;refine cr (qC (n:=9998) hk hs hf) ?_;refine cr (rL hk hs hf) ?_;dsimp only;obtain⟨_,e,he,_,c⟩:=KF hf;have he':es[i]? =some e:=by simpa using he
    refine cr (a:=k) (by rw[he'];exact c) ?_;refine ig (uG hm ?_);exact hq
   .rename_i hf;refine cr (qC (n:=9998) hk hs hf) ?_;refine cr (rL hk hs hf) ?_;dsimp only;refine cr (pS he hz) ?_;refine ig (uG hm ?_);exact hq
   .exact hq.elim
  .exact hq.elim
 .exact hq.elim
def aaN{t:TypeId}{m s v:Value}{K:KT}(hq:lP m s v h K):wpS P (Instr.entryStore t m s v) h (λ_ h'=>K undef h'):=by
 unfold lP at hq;split at hq
 .rename_i r k n;split at hq
  .rename_i es clock hm;split at hq
   .rename_i i hi;unfold Instr.entryStore;dsimp only;refine cr (BQ hm) ?_;dsimp only;refine cr (a:=n) (by rfl) ?_;rw[hi];exact uG hm hq
   .exact hq.elim
  .exact hq.elim
 .exact hq.elim
def aaO{t kt et:TypeId}{kd:TypeDesc}{argTypes:Array TypeId}{type:TypeId}{args:Array Value}{m k:Value}{K:KT}(hT:argTypes[0]? =some t)
  (hargs:args.toList=[m,k]) (ht:P.underlying t=some (.map kt et)) (hk:P.underlying kt=some kd)
  (hs:oF P kd=true) (hq:uD kd m k h K):wpS P (Builtin.delete_ argTypes type args) h K:=by
 have ha:args= #[m,k]:=by apply ko;simpa using hargs
 subst ha;unfold uD at hq;unfold Builtin.delete_;simp only[hT,mP,nG,yF];refine cr (c8 ht) ?_;dsimp only;split at hq
 .split at hq
  .rename_i r hf;refine cr (qC (n:=9998) hk hs hf) ?_;exact hq
  .exact hq.elim
 .rename_i r;split at hq
  .rename_i es clock hm;refine cr (BQ hm) ?_;dsimp only;split at hq
   .rename_i i old hf;refine cr (qC (n:=9998) hk hs hf) ?_;refine cr (rL hk hs hf) ?_;dsimp only;exact ig (uG hm hq)
   .rename_i hf;refine cr (qC (n:=9998) hk hs hf) ?_;refine cr (rL hk hs hf) ?_;dsimp only;exact ig (uG hm hq)
   .exact hq.elim
  .exact hq.elim
 .exact hq.elim
def BR{size n c l:Nat}{a:Option Addr}{vs:List Value}(hc:gN h size n a=some vs):aZ P (Builtin.firstCells size n (.slice a l c)) h=some vs.toArray:=by
 unfold gN at hc;split at hc
 .simp only[eM]at hc;subst hc;rfl
 .exact Fj hc
 .cases hc
def BT(z:Array Value)(n:Nat):Builtin.zeroCells z n=(bO z.toList n).toArray:=Fx z n z.size rfl
def aaP{t e:TypeId}{i:TypeInfo}{argTypes:Array TypeId}{type:TypeId}{args:Array Value}{d x:Value}{K:KT}
  (hT:argTypes[0]? =some t) (hargs:args.toList=[d,x]) (ht:P.underlying t=some (.slice e)) (hi:P.info? e=some i)
  (hq:kZ i.size d x h K):wpS P (Builtin.copy_ argTypes type args) h K:=by
 have ha:args= #[d,x]:=by apply ko;simpa using hargs
 subst ha;unfold kZ at hq;split at hq
 .rename_i base dLen dc c n xc;split at hq
  .rename_i new hnew;have f:aZ P (Builtin.firstCells i.size (Nat.min n dLen) (.slice c n xc)) h=some new.toArray:=BR hnew;unfold Builtin.copy_;simp only[hT,mP,nG,yF];refine cr (c8 ht) ?_;dsimp only;refine cr (a:=n) (by rfl) ?_;refine cr (jq hi) ?_;refine cr f ?_;split at hq
   .rename_i b o;dsimp only;refine ig ?_;exact qy (λ_ _ hk=>hk) (uF (P:=P) (b:=b) (o:=o) (K:=K (.int .i64 (Nat.min n dLen))) new 0 (by simpa using hq))
   .exact hq
   .exact hq.elim
  .exact hq.elim
 .exact hq.elim
def aaQ{t kt et:TypeId}{m:Value}{K:KT}(ht:P.underlying t=some (.map kt et))(hq:BK m h K):wpS P (Instr.range t m) h K:=by
 unfold BK at hq;unfold Instr.range;refine cr (c8 ht) ?_;split at hq
 .exact hq
 .rename_i b;split at hq
  .rename_i es clock hb;dsimp only;refine cr (a:=Obj.map es clock) (by simp[getObj,aZ,hb]) ?_;exact hq
  .exact hq.elim
 .exact hq.elim
def aaR{α:Type}{n:Nat}{k:Nat->Sem α}{K:α->af->Prop}(hn:0<n)(hk:∀i,i<n->wpS P (k i) h K):wpS P (choose (.mapNext n)>>=k) h K:=by
 show wpS P (Sem.choose (.mapNext n) λt=>Sem.bind (.pure t) k) h K;simp only[wpS];split
 .exact hk 0 hn
 .exact λt=>hk _ (rD _ hn)
def aaS {it:Value} {ty:TypeId} {K:KT} (hq:BL it h K):wpS P (Instr.next it false ty) h K:=by
 unfold BL at hq;split at hq
 .rename_i r;split at hq
  .rename_i a b c hr;unfold Instr.next;dsimp only;refine cr (a:=Obj.mapIter none a b c) (by simp[getObj,aZ,hr]) ?_;exact hq
  .rename_i m since seen last hr;split at hq
   .rename_i es clock hm;obtain⟨h1,h2,h3⟩:=hq;unfold Instr.next;dsimp only;refine cr (a:=Obj.mapIter (some m) since seen last) (by simp[getObj,aZ,hr]) ?_;dsimp only;refine cr (a:=Obj.map es clock) (by simp[getObj,aZ,hm]) ?_;dsimp only;rw[aQ (by simpa using h1)];generalize hl:Array.filter (λe=> !seen.contains e.born) es=left;have hl':Fi es seen=left:=hl;rw[hl']at h2 h3;have hsub:∀e,e∈Array.filter (λx=>decide (x.born<since)) left++Array.filter (λx=>decide (x.born>=since)) left->e∈left:=λe he=>by
     rcases EK.1 he with he|he
     .exact(Array.mem_filter.1 he).1
     .exact(Array.mem_filter.1 he).1
    refine aaR ?_ λi hi=> ?_
    .by_cases hem:(Array.filter (λx=>decide (x.born<since)) left).isEmpty=true
     .rw[aW hem];simp;omega
     .rw[aQ hem];simp only[Array.isEmpty_iff,<-Array.size_eq_zero_iff]at hem;simp only[Array.size_append,Array.size_map,Array.size_empty];omega
    .split
     .rename_i e he;refine ig ?_;have hmem:=EL he;have he':e∈left:=by
       rcases EK.1 hmem with hx|hx
       .split at hx<;>simp at hx
       .obtain⟨e',he',e2⟩:=Array.mem_map.1 hx;cases e2;exact hsub _ he'
      simp[setObj,wpS,hr];exact h2 e he'
     .rename_i he;have hmem:=EL he;refine h3 ?_;rcases EK.1 hmem with hx|hx
      .split at hx
       .rename_i hem;exact hem
       .simp at hx
      .obtain⟨e',_,e2⟩:=Array.mem_map.1 hx;cases e2
     .rename_i he;rw[Array.getElem?_eq_none_iff]at he;omega
   .exact hq.elim
  .exact hq.elim
 .exact hq.elim
def aaT{t e:TypeId}{i:TypeInfo}{argTypes:Array TypeId}{type:TypeId}{args:Array Value}{d x:Value}{K:KT}
  (hT:argTypes[0]? =some t) (hargs:args.toList=[d,x]) (ht:P.underlying t=some (.slice e)) (hi:P.info? e=some i)
  (hq:uE d x h K):wpS P (Builtin.copy_ argTypes type args) h K:=by
 have ha:args= #[d,x]:=by apply ko;simpa using hargs
 subst ha;unfold uE at hq;split at hq
 .rename_i base dLen dc s;unfold Builtin.copy_;simp only[hT,mP,nG,yF];refine cr (c8 ht) ?_;dsimp only;refine cr (a:=s.size) (by rfl) ?_;refine cr (jq hi) ?_;refine cr (a:=(s.extract 0 (Nat.min s.size dLen)).data.map λb=>Value.int .u8 b.toNat) (by rfl) ?_;split at hq
  .rename_i b o;dsimp only;refine ig ?_;exact qy (λ_ _ hk=>hk) (uF (P:=P) (b:=b) (o:=o) (K:=K (.int .i64 (Nat.min s.size dLen))) _ 0 (by simpa using hq))
  .exact hq
  .exact hq.elim
 .exact hq.elim
def KI{t e xt:TypeId}{d:TypeDesc}{i:TypeInfo}{z:Value}{argTypes:Array TypeId}{type:TypeId}{args:Array Value}{s x:Value}{n:Nat}{new:List Value}{K:KT}
  (hT:argTypes[0]? =some t) (hX:argTypes[1]? =some xt) (hargs:args.toList=[s,x]) (ht:P.underlying t=some (.slice e)) (hx:P.underlying xt=some d) (j:d=.string\/∃f,d=.slice f)
  (hi:P.info? e=some i) (hz:i.zero=some z) (hlen:Builtin.lenOf x=pure n) (g:aZ P (Builtin.firstCells i.size n x) h=some new.toArray)
  (hq:qz e i.size i.bytes z.cells.toList s n new h K):wpS P (Builtin.append_ argTypes type args) h K:=by
 have ha:args= #[s,x]:=by apply ko;simpa using hargs
 subst ha;unfold qz at hq;split at hq
 .rename_i base sLen sCap;unfold Builtin.append_;simp only[hT,hX,mP,nG,yF];refine cr (c8 ht) ?_;dsimp only;refine cr (jq hi) ?_;refine cr (c8 hx) ?_;rcases j with rfl|⟨f,rfl⟩
  all_goals
   dsimp only;refine cr (jr _) ?_;simp only[gm,dN,dL,e7];refine cr (a:=n) (by rw[hlen];rfl) ?_;split at hq
   .rename_i hle;rw[aW hle];refine cr g ?_;split at hq
    .rename_i b o;dsimp only;refine ig ?_;rw[rJ];exact qy (λ_ _ hk=>hk) (uF (P:=P) (b:=b) (o:=o+sLen*i.size) (K:=K (.slice (some ⟨b,o,none⟩) (sLen+n) sCap)) new 0 (by simpa using hq))
    .exact hq
    .exact hq.elim
   .rename_i hle;rw[aQ hle];split at hq
    .rename_i old hold;obtain⟨hcap,hb,hk⟩:=hq;have hold':aZ P (Builtin.firstCells i.size sLen (.slice base sLen sCap)) h=some old.toArray:=BR hold;refine cr (qB hi) ?_;rw[aQ (by
      rintro⟨h1,_⟩;have :IntKind.i64.max=2^63-1:=rfl;omega)]
     refine cr (qB hi) ?_;rw[aQ aa];refine ig ?_;have hch:∀c,sLen+n<=c->c<2^63->wpS P (do
       askRoom (c*(<-typeInfo e).bytes)
       let old<-Builtin.firstCells i.size sLen (.slice base sLen sCap)
       let new<-Builtin.firstCells i.size n x
       let rest:=Builtin.zeroCells (<-zeroValue e).cells (c-(sLen+n))
       pure (.slice (some (<-newRow e (old++new++rest))) (sLen+n) c):Sem Value) h K:=by
      intro c hc k;have fin:wpS P (do
       let old<-Builtin.firstCells i.size sLen (.slice base sLen sCap)
       let new<-Builtin.firstCells i.size n x
       let rest:=Builtin.zeroCells (<-zeroValue e).cells (c-(sLen+n))
       pure (.slice (some (<-newRow e (old++new++rest))) (sLen+n) c):Sem Value) h K:=by
       refine cr hold' (cr g (cr (pS hi hz) ?_));rw[BT];show K _ _;have :=hk c hc k;simpa using this
      refine cr (qB hi) ?_;unfold askRoom;split
      .exact ig (show wpS P (mark .noRoom) h _ from fin)
      .exact ig (Fw fin)
     show wpS P (choose _) h _;unfold choose;simp only[wpS,Question.forced,gm,dN];intro t;refine hch _ (EM _ _) ?_;show sLen+n+t%(2^63-(sLen+n))<2^63;have :=rD t (show 0<2^63-(sLen+n) by omega);omega
    .exact hq.elim
 .exact hq.elim
def aaU{t e xt a:TypeId}{i:TypeInfo}{z:Value}{argTypes:Array TypeId}{type:TypeId}{args:Array Value}{s x:Value}{K:KT}
  (hT:argTypes[0]? =some t) (hX:argTypes[1]? =some xt) (hargs:args.toList=[s,x]) (ht:P.underlying t=some (.slice e)) (hx:P.underlying xt=some (.slice a))
  (hi:P.info? e=some i) (hz:i.zero=some z)
  (hq:uY e i.size i.bytes z.cells.toList s x h K):wpS P (Builtin.append_ argTypes type args) h K:=by
 obtain⟨b,n,xc,new,rfl,hnew,hq⟩:=Z5 hq;exact KI hT hX hargs ht hx (.inr ⟨_,rfl⟩) hi hz rfl (BR hnew) hq
def aaV{t e xt:TypeId}{i:TypeInfo}{z:Value}{argTypes:Array TypeId}{type:TypeId}{args:Array Value}{s x:Value}{K:KT}
  (hT:argTypes[0]? =some t) (hX:argTypes[1]? =some xt) (hargs:args.toList=[s,x]) (ht:P.underlying t=some (.slice e)) (hx:P.underlying xt=some .string)
  (hi:P.info? e=some i) (hz:i.zero=some z)
  (hq:wK e i.size i.bytes z.cells.toList s x h K):wpS P (Builtin.append_ argTypes type args) h K:=by
 unfold wK at hq;split at hq
 .rename_i y;refine KI hT hX hargs ht hx (.inl rfl) hi hz rfl ?_ hq;have :(y.extract 0 y.size).data=y.data:=by rw[EN];exact Array.extract_size
  simp only[Builtin.firstCells,this];rfl
 .exact hq.elim
def aaW{t e:TypeId}{i:TypeInfo}{z:Value}{argTypes:Array TypeId}{type:TypeId}{args:Array Value}{x:Value}{K:KT}
  (hT:argTypes[0]? =some t) (hargs:args.toList=[x]) (ht:P.underlying t=some (.slice e)) (hi:P.info? e=some i) (hz:i.zero=some z)
  (hq:wL z.cells.toList x h K):wpS P (Builtin.clear_ argTypes type args) h K:=by
 have ha:args= #[x]:=by apply ko;simpa using hargs
 subst ha;unfold wL at hq;split at hq
 .unfold Builtin.clear_;simp only[hT,mP,nG];refine cr (c8 ht) ?_;exact hq
 .split at hq
  .unfold Builtin.clear_;simp only[hT,mP,nG];refine cr (c8 ht) ?_;exact hq
  .rename_i b o _ _ m;unfold Builtin.clear_;simp only[hT,mP,nG];refine cr (c8 ht) ?_;refine cr (pS hi hz) ?_;rw[BT];refine ig ?_;exact qy (λ_ _ hk=>hk) (uF (P:=P) (b:=b) (o:=o) (K:=K (.tuple #[])) (bO z.cells.toList (m+1)) 0 (by simpa using hq))
 .exact hq.elim
def aaX{t e xt:TypeId}{kk:IntKind}{i:TypeInfo}{z:Value}{argTypes:Array TypeId}{type:TypeId}{args:Array Value}{s x:Value}{K:KT}
  (hT:argTypes[0]? =some t) (hX:argTypes[1]? =some xt) (hargs:args.toList=[s,x]) (ht:P.underlying t=some (.slice e)) (hx:P.underlying xt=some (.int kk))
  (hi:P.info? e=some i) (hz:i.zero=some z) (hzs:z.cells.size=i.size)
  (hq:BJ e i.size i.bytes z.cells.toList s x h K):wpS P (Builtin.append_ argTypes type args) h K:=by
 have ha:args= #[s,x]:=by apply ko;simpa using hargs
 subst ha;unfold BJ at hq;split at hq
 .rename_i base sLen sCap l;obtain⟨h0,h63,hby,hq⟩:=hq;obtain⟨n,rfl⟩:=iX h0;simp only[fL]at hq;have hap:∀h',aZ P (if n*i.size=0 then pure #[]else do pure (Builtin.zeroCells (<-zeroValue e).cells n)) h'=some (bO z.cells.toList n).toArray:=by
   intro h';split
   .rename_i d;have :bO z.cells.toList n=[]:=by
     apply nH;simp[bO,hzs,d]
    rw[this];rfl
   .rw[bf (pS hi hz),BT];rfl
  unfold Builtin.append_;simp only[hT,hX,mP,nG,yF];refine cr (c8 ht) ?_;dsimp only;refine cr (jq hi) ?_;refine cr (c8 hx) ?_;dsimp only;refine cr (jr _) ?_;simp only[cz,gm,dN,e7];have hw:IntKind.i64.wrap (n:Int)=n:=by simp only[IntKind.wrap,IntKind.signed,IntKind.bits];simp;omega
  refine cr (a:=(n:Int)) (by rfl) ?_;rw[hw,aQ aa];refine cr (qB hi) ?_;rw[aQ aa];refine cr (jr _) ?_;simp only[fL];split at hq
  .rename_i hle;rw[aW hle];refine cr (hap _) ?_;split at hq
   .rename_i b o;dsimp only;refine ig ?_;rw[rJ];exact qy (λ_ _ hk=>hk) (uF (P:=P) (b:=b) (o:=o+sLen*i.size) (K:=K (.slice (some ⟨b,o,none⟩) (sLen+n) sCap)) (bO z.cells.toList n) 0 (by simpa using hq))
   .exact hq
   .exact hq.elim
  .rename_i hle;rw[aQ hle];split at hq
   .rename_i old hold;obtain⟨hcap,hb,hk⟩:=hq;have hold':aZ P (Builtin.firstCells i.size sLen (.slice base sLen sCap)) h=some old.toArray:=BR hold;refine cr (qB hi) ?_;rw[aQ (by
     rintro⟨h1,_⟩;have :IntKind.i64.max=2^63-1:=rfl;omega)]
    refine cr (qB hi) ?_;rw[aQ aa];refine ig ?_;have hch:∀c,sLen+n<=c->c<2^63->wpS P (do
      askRoom (c*(<-typeInfo e).bytes)
      let old<-Builtin.firstCells i.size sLen (.slice base sLen sCap)
      let new<-(if n*i.size=0 then pure #[]else do pure (Builtin.zeroCells (<-zeroValue e).cells n))
      let rest:=Builtin.zeroCells (<-zeroValue e).cells (c-(sLen+n))
      pure (.slice (some (<-newRow e (old++new++rest))) (sLen+n) c):Sem Value) h K:=by
     intro c hc f;have fin:wpS P (do
      let old<-Builtin.firstCells i.size sLen (.slice base sLen sCap)
      let new<-(if n*i.size=0 then pure #[]else do pure (Builtin.zeroCells (<-zeroValue e).cells n))
      let rest:=Builtin.zeroCells (<-zeroValue e).cells (c-(sLen+n))
      pure (.slice (some (<-newRow e (old++new++rest))) (sLen+n) c):Sem Value) h K:=by
      refine cr hold' (cr (hap _) (cr (pS hi hz) ?_));rw[BT];show K _ _;have :=hk c hc f;simpa using this
     refine cr (qB hi) ?_;unfold askRoom;split
     .exact ig (show wpS P (mark .noRoom) h _ from fin)
     .exact ig (Fw fin)
    show wpS P (choose _) h _;unfold choose;simp only[wpS,Question.forced,gm,dN];intro t;refine hch _ (EM _ _) ?_;show sLen+n+t%(2^63-(sLen+n))<2^63;have :=rD t (show 0<2^63-(sLen+n) by omega);omega
   .exact hq.elim
 .exact hq.elim
def KJ{f:FuncId}{args:Array Value}{K:KT}(hq:aF P f args h K):wpS P (callFunc f args) h (oG P K):=by
 obtain⟨hc,hk⟩:=hq;unfold jQ at hc;split at hc
 .rename_i fn hfn;simp only[gb,mA,rA,ne_eq]at hc;have hb:fn.body.isNone=false:=by cases hx:fn.body<;>simp_all
  unfold callFunc;refine cr (a:=P) (by rfl) ?_;simp only[hfn,hb];rw[aQ (by simpa using hc.2)];exact hk
 .cases hc
def aaY{v:Value}{args:Array Value}{K:KT}(hq:aX P v args h K):
  wpS P (do let d<-Deferred.ofValue v args;invoke d.target d.args) h (oG P K):=by
 unfold aX at hq;split at hq
 .refine cr (jr _) ?_;exact KJ hq
 .rename_i l first _
  refine cr (jr _) ?_;unfold rI at hq;split at hq
  .rename_i L hL;show wpS P (Instr.yield l (first ++args)) h _;unfold Instr.yield Instr.getLoop;refine cr (a:=L) (by rw[bf (a:=.loop L) (by simp[getObj,aZ,hL])];rfl) ?_;rw[aQ (by simpa using hq.1)];exact hq.2
  .exact hq.elim
 .exact hq.elim
end
section
variable{P:Program}{h:af}
def aaZ {ρ:Operand->Value} {o:Oper} {K:KT} (hq:lop P ρ o.op h K):wpS P (execOp ρ o) h (oG P K):=by
 obtain⟨dst,op,type,pos,after,guard⟩:=o;dsimp only at hq;unfold execOp;cases op<;>simp only[lop]at hq
 case box t v=>exact rM (aaG hq)
 case alloc t=>
  split at hq
  .rename_i i hi;split at hq
   .rename_i z hz;exact rM (aaH hi hz hq)
   .exact hq.elim
  .exact hq.elim
 case buildSlice t len parts=>
  split at hq
  .rename_i e ht;split at hq
   .rename_i i hi;split at hq
    .rename_i z hz;split at hq
     .rename_i h1 h2;refine rM (aaI ht hi hz (rE h1) (gl h2) ?_);have :(parts.map λ(x:Nat×Operand)=>(x.1,ρ x.2)).toList.map (λ(x:Nat×Value)=>(x.1*i.size,i.size,x.2))=parts.toList.map λ(x:Nat×Operand)=>(x.1*i.size,i.size,ρ x.2):=aP;show uX e _ ((parts.map λ(x:Nat×Operand)=>(x.1,ρ x.2)).toList.map (λ(x:Nat×Value)=>(x.1*i.size,i.size,x.2))) len h K;rw[this];exact hq
     .exact hq.elim
    .exact hq.elim
   .exact hq.elim
  .exact hq.elim
 case makeSlice t l c=>
  split at hq
  .rename_i e ht;split at hq
   .rename_i i hi;split at hq
    .rename_i z hz;split at hq
     .rename_i h2;exact rM (aaJ ht hi hz (gl h2) hq)
     .exact hq.elim
    .exact hq.elim
   .exact hq.elim
  .exact hq.elim
 case makeMap t r=>
  cases r with
  |none=>exact rM hq
  |some _=>exact hq.elim
 case range t m=>
  split at hq
  .rename_i kt et ht;exact rM (aaQ ht hq)
  .exact hq.elim
 case next it s=>
  split at hq
  .exact hq.elim
  .exact rM (aaS hq)
 case store t a x=>
  split at hq
  .rename_i i hi;exact BP (aaK hi hq)
  .exact hq.elim
 case mapUpdate t m k x=>
  split at hq
  .rename_i kt et ht;split at hq
   .rename_i kd hk;split at hq
    .rename_i hs;exact BP (KG ht hk hs hq)
    .exact hq.elim
   .exact hq.elim
  .exact hq.elim
 case insert t m k x=>
  split at hq
  .rename_i kt et ht;split at hq
   .rename_i kd hk;split at hq
    .rename_i hs;exact BP (KG ht hk hs hq)
    .exact hq.elim
   .exact hq.elim
  .exact hq.elim
 case mapEntry t m k=>
  split at hq
  .rename_i kt et ht;split at hq
   .rename_i kd f hk he;split at hq
    .rename_i z hs hz;exact rM (aaM ht hk hs he hz hq)
    .exact hq.elim
   .exact hq.elim
  .exact hq.elim
 case entryStore t m s x=>exact BP (aaN hq)
 case call c=>
  obtain⟨callee,args,argTypes⟩:=c;dsimp only at hq |-;have core:∀{b:Builtin}{s:Sem Value},(∀cs,builtin b argTypes type cs (args.map ρ)=(do pure (.value (<-s))))->wpS P s h K->
    wpS P (do let d<-resolve ρ {callee:=.builtin b,args,argTypes} type;invoke d.target d.args) h (oG P K):=by
   intro b s hs hk;show wpS P (builtin b argTypes type _ (args.map ρ)) h _;rw[hs];exact rM hk
  have two:∀{x y:Operand},args.toList=[x,y]->(args.map ρ).toList=[ρ x,ρ y]:=λe=>by simp[e]
  split at hq
  .split at hq
   .rename_i t xt s x hT hX hargs;split at hq
    .rename_i e g ht hx;split at hq
     .rename_i i hi;split at hq
      .rename_i z hz;split at hq
       .exact core (λ_=>rfl) (aaU hT hX (two hargs) ht hx hi hz hq)
       .exact hq.elim
      .exact hq.elim
     .exact hq.elim
    .rename_i e ht hx;split at hq
     .rename_i i hi;split at hq
      .rename_i z hz;exact core (λ_=>rfl) (aaV hT hX (two hargs) ht hx hi hz hq)
      .exact hq.elim
     .exact hq.elim
    .rename_i e kk ht hx;split at hq
     .rename_i i hi;split at hq
      .rename_i z hz;split at hq
       .rename_i hb;exact core (λ_=>rfl) (aaX hT hX (two hargs) ht hx hi hz (gl hb) hq)
       .exact hq.elim
      .exact hq.elim
     .exact hq.elim
    .exact hq.elim
   .exact hq.elim
  .split at hq
   .rename_i t d x hT hargs;split at hq
    .rename_i e ht;split at hq
     .rename_i i hi;split at hq
      .exact core (λ_=>rfl) (aaT hT (two hargs) ht hi hq)
      .exact core (λ_=>rfl) (aaP hT (two hargs) ht hi hq)
     .exact hq.elim
    .exact hq.elim
   .exact hq.elim
  .split at hq
   .rename_i t m k hT hargs;split at hq
    .rename_i kt et ht;split at hq
     .rename_i kd hk;split at hq
      .rename_i hs;exact core (λ_=>rfl) (aaO hT (two hargs) ht hk hs hq)
      .exact hq.elim
     .exact hq.elim
    .exact hq.elim
   .exact hq.elim
  .split at hq
   .rename_i t x hT hargs;split at hq
    .rename_i e ht;split at hq
     .rename_i i hi;split at hq
      .rename_i z hz;exact core (λ_=>rfl) (aaW hT (by simp[hargs]) ht hi hz hq)
      .exact hq.elim
     .exact hq.elim
    .exact hq.elim
   .exact hq.elim
  .exact aaY (by simpa only[Fv]using hq)
  .exact hq.elim
 all_goals exact hq.elim
def rN:Op->Bool
 | .move _| .assign _| .pick .. | .load .. | .nilCheck _| .binOp .. | .unOp .. | .convert .. | .makeInterface .. | .makeFunc .. | .slice .. | .fieldAddr .. | .field ..
 | .indexAddr .. | .index .. | .lookup .. | .extract .. | .build .. | .entry _=>true
 | .call {callee:=.builtin .len, ..}| .call {callee:=.builtin .cap, ..}| .call {callee:=.builtin .min, ..}| .call {callee:=.builtin .max, ..}=>true
 |_=>false
def wQ(P:Program):Op->Bool
 | .load .. | .lookup .. | .entry _=>false
 | .convert _ d _=>(match P.underlying d with
  |some .string=>false
  |_=>true)
 | .call {callee:=.builtin .len,argTypes, ..}=>(match argTypes[0]? with
  |some t=>(match P.underlying t with
   |some (.map _ _)=>false
   |_=>true)
  |none=>true)
 |_=>true
def zf:Op->Bool
 | .box .. | .alloc _| .buildSlice .. | .makeSlice .. | .makeMap .. =>true
 |_=>false
def zg{h:af}{r:Nat}{x o:Obj}(hx:h[r]? =some x):(h.push o)[r]? =some x:=by have :=(Bh.1 hx).1;rw[Array.getElem?_push];simp[yG this,hx]
def KL{h:af}{a:Addr}{v:Value}{o:Obj}(hv:hcell h a=some v):hcell (h.push o) a=some v:=by
 unfold hcell at *;split at hv
 .rename_i hb;rw[zg hb];exact hv
 .cases hv
def Fy{h:af}{b:Nat}{o:Obj}:∀{n i:Nat}{l:List Value},iL h b i n=some l->iL (h.push o) b i n=some l
 |0,_,_,hl=>hl
 | n+1,i,l,hl=>by
  simp only[iL]at *;split at hl
  .rename_i v hv;rw[KL hv];split at hl
   .rename_i l' hl';rw[Fy hl'];exact hl
   .cases hl
  .cases hl
def aa0{ρ:Operand->Value}{op:Op}{o:Obj}{K:Value->Prop}(hq:jA P ρ op h K):jA P ρ op (h.push o) K:=by
 cases op<;>simp only[jA]at hq |- <;>try exact hq
 case load t a=>
  split at hq
  .rename_i d i hd hi;split at hq
   .rename_i ha;unfold bq at *;split at hq
    .split at hq
     .rename_i l hl;rw[Fy hl];exact hq
     .exact hq.elim
    .exact hq.elim
   .rename_i ha;unfold ag at *;split at hq
    .split at hq
     .rename_i v hv;rw[KL hv];exact hq
     .exact hq.elim
    .exact hq.elim
  .exact hq.elim
 case convert s d x=>
  split at hq
  .exact hq
  .split at hq
   .unfold pR at *;split at hq
    .exact hq
    .split at hq
     .rename_i l hl;rw[Fy hl];exact hq
     .exact hq.elim
    .exact hq.elim
   .exact hq.elim
  .exact hq.elim
 case entry it=>
  unfold wM at *;split at hq
  .rename_i r;split at hq
   .rename_i m x seen stepped hr;rw[zg hr];dsimp only;split at hq
    .rename_i stamp es clock hb hm;rw[hb,zg hm];exact hq
    .exact hq.elim
   .exact hq.elim
  .exact hq.elim
 case lookup t m k ok=>
  split at hq
  .split at hq
   .split at hq
    .unfold dP at *;split at hq
     .exact hq
     .rename_i r;split at hq
      .rename_i es clock hm;rw[zg hm];exact hq
      .exact hq.elim
     .exact hq.elim
    .exact hq.elim
   .exact hq.elim
  .exact hq.elim
 case call c=>
  split at hq
  .split at hq
   .split at hq
    .exact hq
    .exact hq
    .unfold sV at *;split at hq
     .exact hq
     .rename_i r;split at hq
      .rename_i es clock hm;rw[zg hm];exact hq
      .exact hq.elim
     .exact hq.elim
    .exact hq
    .exact hq.elim
   .exact hq.elim
  all_goals exact hq
def aa1{ρ:Operand->Value}{op:Op}{h':af}{K:Value->Prop}(hp:wQ P op=true)(hq:jA P ρ op h K):jA P ρ op h' K:=by
 cases op<;>simp only[jA]at hq |- <;>try exact hq
 case convert s d x=>
  split at hq
  .exact hq
  .rename_i hs hd;simp[wQ,hd]at hp
  .exact hq.elim
 case entry it=>cases hp
 case load t a=>cases hp
 case lookup t m k ok=>cases hp
 case call c=>
  obtain⟨callee,args,argTypes⟩:=c;dsimp only at hq |-;split at hq
  .split at hq
   .rename_i t x hT hx;split at hq
    .exact hq
    .exact hq
    .rename_i hd;simp[wQ,hT,hd]at hp
    .exact hq
    .exact hq.elim
   .exact hq.elim
  all_goals exact hq
def sX{b:Nat}{K K':af->Prop}(hm:∀h,K h->K' h):∀(l:List Value)(o:Nat)(h:af),mU h b o l K->mU h b o l K'
 | [],_,_,hl=>hm _ hl
 |_::r,o,_,hl=>⟨hl.1,hl.2.1,hl.2.2.1,sX hm r _ _ hl.2.2.2⟩
def aa2 {ρ:Operand->Value} {op:Op} {K K':KT} (hm:∀v h,K v h->K' v h) (hl:lop P ρ op h K):lop P ρ op h K':=by
 cases op<;>simp only[lop]at hl |- <;>try exact hl.elim
 case box t v=>exact hm _ _ hl
 case alloc t=>
  split at hl
  .split at hl
   .exact hm _ _ hl
   .exact hl.elim
  .exact hl.elim
 case buildSlice t len parts=>
  split at hl
  .split at hl
   .split at hl
    .split at hl
     .exact⟨hl.1,hm _ _ hl.2⟩
     .exact hl.elim
    .exact hl.elim
   .exact hl.elim
  .exact hl.elim
 case makeSlice t l c=>
  split at hl
  .split at hl
   .split at hl
    .split at hl
     .unfold dG at *;split at hl
      .exact⟨hl.1,hl.2.1,hl.2.2.1,hl.2.2.2.1,hm _ _ hl.2.2.2.2⟩
      .exact hl.elim
     .exact hl.elim
    .exact hl.elim
   .exact hl.elim
  .exact hl.elim
 case range t m=>
  split at hl
  .unfold BK at *;split at hl
   .exact hm _ _ hl
   .split at hl
    .exact hm _ _ hl
    .exact hl.elim
   .exact hl.elim
  .exact hl.elim
 case next it s=>
  split at hl
  .exact hl.elim
  .unfold BL at *;split at hl
   .split at hl
    .exact hm _ _ hl
    .split at hl
     .exact⟨hl.1,λe he=>hm _ _ (hl.2.1 e he),λh=>hm _ _ (hl.2.2 h)⟩
     .exact hl.elim
    .exact hl.elim
   .exact hl.elim
 case makeMap t r=>
  cases r with
  |none=>exact hm _ _ hl
  |some _=>exact hl.elim
 case store t a x=>
  split at hl
  .unfold aD at *;split at hl
   .exact⟨hl.1,sX (hm _) _ _ _ hl.2⟩
   .exact hl.elim
  .exact hl.elim
 case mapUpdate t m k x=>
  split at hl
  .split at hl
   .split at hl
    .unfold e9 at *;split at hl
     .split at hl
      .split at hl
       .exact hm _ _ hl
       .exact hm _ _ hl
       .exact hl.elim
      .exact hl.elim
     .exact hl.elim
    .exact hl.elim
   .exact hl.elim
  .exact hl.elim
 case insert t m k x=>
  split at hl
  .split at hl
   .split at hl
    .unfold e9 at *;split at hl
     .split at hl
      .split at hl
       .exact hm _ _ hl
       .exact hm _ _ hl
       .exact hl.elim
      .exact hl.elim
     .exact hl.elim
    .exact hl.elim
   .exact hl.elim
  .exact hl.elim
 case mapEntry t m k=>
  split at hl
  .split at hl
   .split at hl
    .unfold mI at *;split at hl
     .split at hl
      .split at hl
       .exact hm _ _ hl
       .exact hm _ _ hl
       .exact hl.elim
      .exact hl.elim
     .exact hl.elim
    .exact hl.elim
   .exact hl.elim
  .exact hl.elim
 case entryStore t m s x=>
  unfold lP at *;split at hl
  .split at hl
   .split at hl
    .exact hm _ _ hl
    .exact hl.elim
   .exact hl.elim
  .exact hl.elim
 case call c=>
  split at hl
  .split at hl
   .split at hl
    .split at hl
     .split at hl
      .split at hl
       .unfold uY at *;split at hl
        .split at hl
         .split at hl
          .rename_i hle;rw[aW hle];split at hl
           .exact sX (hm _) _ _ _ hl
           .exact hm _ _ hl
           .exact hl.elim
          .rename_i hle;rw[aQ hle];split at hl
           .exact⟨hl.1,hl.2.1,λc h1 h2=>hm _ _ (hl.2.2 c h1 h2)⟩
           .exact hl.elim
         .exact hl.elim
        .exact hl.elim
       .exact hl.elim
      .exact hl.elim
     .exact hl.elim
    .split at hl
     .split at hl
      .unfold wK at *;split at hl
       .unfold qz at *;split at hl
        .split at hl
         .rename_i hle;rw[aW hle];split at hl
          .exact sX (hm _) _ _ _ hl
          .exact hm _ _ hl
          .exact hl.elim
         .rename_i hle;rw[aQ hle];split at hl
          .exact⟨hl.1,hl.2.1,λc h1 h2=>hm _ _ (hl.2.2 c h1 h2)⟩
          .exact hl.elim
        .exact hl.elim
       .exact hl.elim
      .exact hl.elim
     .exact hl.elim
    .split at hl
     .split at hl
      .split at hl
       .unfold BJ at *;split at hl
        .obtain⟨h0,h1,h2,hl⟩:=hl;refine⟨h0,h1,h2,?_⟩;split at hl
         .rename_i hle;rw[aW hle];split at hl
          .exact sX (hm _) _ _ _ hl
          .exact hm _ _ hl
          .exact hl.elim
         .rename_i hle;rw[aQ hle];split at hl
          .exact⟨hl.1,hl.2.1,λc h1 h2=>hm _ _ (hl.2.2 c h1 h2)⟩
          .exact hl.elim
        .exact hl.elim
       .exact hl.elim
      .exact hl.elim
     .exact hl.elim
    .exact hl.elim
   .exact hl.elim
  .split at hl
   .split at hl
    .split at hl
     .split at hl
      .unfold uE at *;split at hl
       .split at hl
        .exact sX (hm _) _ _ _ hl
        .exact hm _ _ hl
        .exact hl.elim
       .exact hl.elim
      .unfold kZ at *;split at hl
       .split at hl
        .split at hl
         .exact sX (hm _) _ _ _ hl
         .exact hm _ _ hl
         .exact hl.elim
        .exact hl.elim
       .exact hl.elim
     .exact hl.elim
    .exact hl.elim
   .exact hl.elim
  .split at hl
   .split at hl
    .split at hl
     .split at hl
      .unfold uD at *;split at hl
       .split at hl
        .exact hm _ _ hl
        .exact hl.elim
       .split at hl
        .split at hl
         .exact hm _ _ hl
         .exact hm _ _ hl
         .exact hl.elim
        .exact hl.elim
       .exact hl.elim
      .exact hl.elim
     .exact hl.elim
    .exact hl.elim
   .exact hl.elim
  .split at hl
   .split at hl
    .split at hl
     .split at hl
      .unfold wL at *;split at hl
       .exact hm _ _ hl
       .split at hl
        .exact hm _ _ hl
        .exact sX (hm _) _ _ _ hl
       .exact hl.elim
      .exact hl.elim
     .exact hl.elim
    .exact hl.elim
   .exact hl.elim
  .exact aX.mono hl hm
  .exact hl.elim
def aa3{op:Op}(ha:zf op=true):rN op=false:=by cases op<;>first |rfl|cases ha
def KN{t:TypeId}{v:Value}{K:KT}(hq:aB t v h K):aB t v h (λv h'=>K v h'/\∃o,h'=h.push o):=⟨hq,_,rfl⟩
def aa4{ρ:Operand->Value}{op:Op}{K:KT}(ha:zf op=true)(hq:lop P ρ op h K):lop P ρ op h (λv h'=>K v h'/\∃o,h'=h.push o):=by
 cases op<;>simp only[lop]at hq |- <;>try(cases ha)
 case box t v=>exact KN hq
 case alloc t=>
  split at hq
  .split at hq
   .exact KN hq
   .exact hq.elim
  .exact hq.elim
 case buildSlice t len parts=>
  split at hq
  .split at hq
   .split at hq
    .split at hq
     .exact⟨hq.1,hq.2,_,rfl⟩
     .exact hq.elim
    .exact hq.elim
   .exact hq.elim
  .exact hq.elim
 case makeSlice t l c=>
  split at hq
  .split at hq
   .split at hq
    .split at hq
     .unfold dG at *;split at hq
      .exact⟨hq.1,hq.2.1,hq.2.2.1,hq.2.2.2.1,hq.2.2.2.2,_,rfl⟩
      .exact hq.elim
     .exact hq.elim
    .exact hq.elim
   .exact hq.elim
  .exact hq.elim
 case makeMap t r=>
  cases r with
  |none=>exact⟨hq,_,rfl⟩
  |some _=>exact hq.elim
def th(T:(Value->Prop)->Prop):Prop:=∀K,T K->∃v,K v/\∀K':Value->Prop,K' v->T K'
def aa5(c a b:Value):th (wG c a b):=by
 intro K hK;unfold wG at *;split at hK
 .exact⟨_,hK,λ_ h=>h⟩
 .exact⟨_,hK,λ_ h=>h⟩
 .exact hK.elim
def aa6(h:af)(a:Value):th (ag h a):=by
 intro K hK;unfold ag at *;split at hK
 .split at hK
  .rename_i v hv;exact⟨_,hK,λ_ h=>h⟩
  .exact hK.elim
 .exact hK.elim
def aa7(n:Nat)(h:af)(a:Value):th (bq n h a):=by
 intro K hK;unfold bq at *;split at hK
 .split at hK
  .rename_i v hv;exact⟨_,hK,λ_ h=>h⟩
  .exact hK.elim
 .exact hK.elim
def aa8(v:Value):th (aI v):=by
 intro K hK;unfold aI at *;split at hK
 .exact⟨_,hK,λ_ h=>h⟩
 .exact⟨_,hK,λ_ h=>h⟩
 .exact⟨_,hK,λ_ h=>h⟩
 .exact hK.elim
def aa9(op:BinOp)(x y:Value):th (aq op x y):=by
 intro K hK;unfold aq at *;split at hK<;>first
  |exact hK.elim
  |(obtain⟨h1,h2,hk⟩:=hK;exact⟨_,hk,λ_ h=>⟨h1,h2,h⟩⟩)
  |(obtain⟨h1,hk⟩:=hK;exact⟨_,hk,λ_ h=>⟨h1,h⟩⟩)
  |exact⟨_,hK,λ_ h=>h⟩
def KO(neg:Bool)(d:uw)(x y:Value):th (bL neg d x y):=by
 intro K hK;unfold bL at *;split at hK<;>first
  |exact hK.elim
  |exact⟨_,hK,λ_ h=>h⟩
def aba(d:TypeDesc)(op:BinOp)(lit:Bool)(x y:Value):th (zd d op lit x y):=by
 intro K hK;unfold zd at *;split at hK
 .split at hK
  .exact hK.elim
  .split at hK
   .exact KO _ _ _ _ K hK
   .exact KO _ _ _ _ K hK
   .exact hK.elim
 .exact aa9 _ _ _ K hK
def abb(op:BinOp)(n:Nat)(x y:Value):th (zc op n x y):=by
 intro K hK;unfold zc at *;split at hK
 .split at hK
  .obtain⟨h1,h2,hk⟩:=hK;exact⟨_,hk,λ_ h=>⟨h1,h2,h⟩⟩
  .exact hK.elim
 .split at hK
  .obtain⟨h1,h2,hk⟩:=hK;exact⟨_,hk,λ_ h=>⟨h1,h2,h⟩⟩
  .exact hK.elim
 .exact hK.elim
def abc(op:BinOp)(x y:Value):th (uy op x y):=by
 intro K hK;unfold uy at *;split at hK
 .split at hK
  .exact⟨_,hK,λ_ h=>h⟩
  .exact hK.elim
 .exact hK.elim
def abd(op:UnOp)(x:Value):th (bY op x):=by
 intro K hK;unfold bY at *;split at hK<;>first
  |exact hK.elim
  |exact⟨_,hK,λ_ h=>h⟩
def abe(k:IntKind)(x:Value):th (cJ k x):=by
 intro K hK;unfold cJ at *;split at hK<;>first
  |exact hK.elim
  |exact⟨_,hK,λ_ h=>h⟩
def abf(off:Nat)(x:Value):th (au off x):=by
 intro K hK;unfold au at *;split at hK<;>first
  |exact hK.elim
  |exact⟨_,hK,λ_ h=>h⟩
def abg(size:Nat)(x i:Value):th (aY size x i):=by
 intro K hK;unfold aY at *;split at hK<;>first
  |exact hK.elim
  |exact⟨_,hK.2.2,λ_ h=>⟨hK.1,hK.2.1,h⟩⟩
def abh(size len:Nat)(x i:Value):th (b9 size len x i):=by
 intro K hK;unfold b9 at *;split at hK<;>first
  |exact hK.elim
  |exact⟨_,hK.2.2,λ_ h=>⟨hK.1,hK.2.1,h⟩⟩
def abi(size:Nat)(x:Value)(lo hi mx:Option Value):th (eW size x lo hi mx):=by
 intro K hK;unfold eW at *;split at hK
 .split at hK
  .obtain⟨h1,h2,h3,h4,h5,hk⟩:=hK;exact⟨_,hk,λ_ h=>⟨h1,h2,h3,h4,h5,h⟩⟩
  .exact hK.elim
 .exact hK.elim
def abj(size n:Nat)(x:Value)(lo hi mx:Option Value):th (pP size n x lo hi mx):=by
 intro K hK;unfold pP at *;split at hK
 .split at hK
  .obtain⟨h1,h2,h3,h4,h5,hk⟩:=hK;exact⟨_,hk,λ_ h=>⟨h1,h2,h3,h4,h5,h⟩⟩
  .exact hK.elim
 .exact hK.elim
def abk(x:Value)(lo hi:Option Value):th (uz x lo hi):=by
 intro K hK;unfold uz at *;split at hK
 .split at hK
  .obtain⟨h1,h2,h3,hk⟩:=hK;exact⟨_,hk,λ_ h=>⟨h1,h2,h3,h⟩⟩
  .exact hK.elim
 .exact hK.elim
def abl(x:Value)(i:Nat):th (bp x i):=by
 intro K hK;unfold bp at *;split at hK
 .split at hK
  .exact⟨_,hK,λ_ h=>h⟩
  .exact hK.elim
 .exact hK.elim
def abm(len:Nat)(x i:Value):th (uA len x i):=by
 intro K hK;unfold uA at *;split at hK
 .obtain⟨h1,h2,h3⟩:=hK;split at h3
  .rename_i v hv;exact⟨_,h3,λ_ h=>⟨h1,h2,h⟩⟩
  .exact h3.elim
 .exact hK.elim
def abn(size len:Nat)(x i:Value):th (pQ size len x i):=by
 intro K hK;unfold pQ at *;split at hK<;>first
  |exact hK.elim
  |exact⟨_,hK.2.2,λ_ h=>⟨hK.1,hK.2.1,h⟩⟩
def abo(x i:Value):th (mT x i):=by
 intro K hK;unfold mT at *;split at hK
 .obtain⟨h1,h3⟩:=hK;split at h3
  .rename_i v hv;exact⟨_,h3,λ_ h=>⟨h1,h⟩⟩
  .exact h3.elim
 .exact hK.elim
def abp(off:Nat)(x:Value):th (oD off x):=by
 intro K hK;unfold oD at *;split at hK
 .split at hK
  .exact⟨_,hK,λ_ h=>h⟩
  .exact hK.elim
 .exact hK.elim
def abq(off n:Nat)(x:Value):th (wH off n x):=by
 intro K hK;unfold wH at *;split at hK
 .exact⟨_,hK,λ_ h=>h⟩
 .exact hK.elim
def abr(x:Value):th (bB x):=by
 intro K hK;unfold bB at *;split at hK
 .exact⟨_,hK,λ_ h=>h⟩
 .exact hK.elim
def abt(x:Value):th (fQ x):=by
 intro K hK;unfold fQ at *;split at hK
 .exact⟨_,hK,λ_ h=>h⟩
 .exact hK.elim
def abu(x:Value):th (wJ x):=by
 intro K hK;unfold wJ at *;split at hK
 .exact⟨_,hK,λ_ h=>h⟩
 .exact hK.elim
def abv(h:af)(x:Value):th (sV h x):=by
 intro K hK;unfold sV at *;split at hK
 .exact⟨_,hK,λ_ h=>h⟩
 .split at hK
  .exact⟨_,hK,λ_ h=>h⟩
  .exact hK.elim
 .exact hK.elim
def Fz(x y:Value):th (lN x y):=by
 intro K hK;unfold lN at *;split at hK
 .exact⟨_,hK,λ_ h=>h⟩
 .exact hK.elim
def FA(x y:Value):th (jR x y):=by
 intro K hK;unfold jR at *;split at hK
 .exact⟨_,hK,λ_ h=>h⟩
 .exact hK.elim
def abw(kd:TypeDesc)(zero:Value)(ok:Bool)(h:af)(m k:Value):th (dP kd zero ok h m k):=by
 intro K hK;unfold dP at *;split at hK
 .split at hK
  .exact⟨_,hK,λ_ h=>h⟩
  .exact hK.elim
 .split at hK
  .split at hK
   .exact⟨_,hK,λ_ h=>h⟩
   .exact⟨_,hK,λ_ h=>h⟩
   .exact hK.elim
  .exact hK.elim
 .exact hK.elim
def abx(h:af)(x:Value):th (pR h x):=by
 intro K hK;unfold pR at *;split at hK
 .exact⟨_,hK,λ_ h=>h⟩
 .split at hK
  .split at hK
   .exact⟨_,hK,λ_ h=>h⟩
   .exact hK.elim
  .exact hK.elim
 .exact hK.elim
def aby(h:af)(x:Value):th (wM x h):=by
 intro K hK;unfold wM at *;split at hK
 .split at hK
  .split at hK
   .obtain⟨h1,hK⟩:=hK;split at hK
    .exact⟨_,hK,λ_ h=>⟨h1,h⟩⟩
    .exact hK.elim
   .exact hK.elim
  .exact hK.elim
 .exact hK.elim
def KQ(zero:List Value)(parts:List (Nat×Nat×Value)):th (aV zero parts):=by intro K hK;exact⟨_,hK.2,λ_ h=>⟨hK.1,h⟩⟩
def KR{T a:(Value->Prop)->Prop}{b:Value->(Value->Prop)->Prop}(hT:th T)(d:∀u,th (b u))(c:∀K,a K=T λu=>b u K):th a:=by intro K hK;rw[c]at hK;obtain⟨u,hu,h1⟩:=hT _ hK;obtain⟨v,hv,h2⟩:=d u K hu;exact⟨v,hv,λK' e=>by rw[c];exact h1 _ (h2 K' e)⟩
def abz(ρ:Operand->Value)(op:Op):th (jA P ρ op h):=by
 intro K hq;cases op<;>simp only[jA]at hq |- <;>try exact hq.elim
 case move x=>exact⟨_,hq,λ_ h=>h⟩
 case assign x=>exact⟨_,hq,λ_ h=>h⟩
 case pick c a b=>exact aa5 _ _ _ K hq
 case load t a=>
  split at hq
  .split at hq
   .exact aa7 _ _ _ K hq
   .exact aa6 _ _ K hq
  .exact hq.elim
 case nilCheck x=>exact aa8 _ K hq
 case binOp op t x y e=>
  split at hq
  .split at hq
   .exact abb _ _ _ _ K hq
   .split at hq
    .exact abc _ _ _ K hq
    .exact hq.elim
  .exact aba _ _ _ _ _ K hq
  .exact hq.elim
 case unOp op t x=>exact abd _ _ K hq
 case convert s d x=>
  split at hq
  .exact abe _ _ K hq
  .split at hq
   .exact abx _ _ K hq
   .exact hq.elim
  .exact hq.elim
 case entry it=>exact aby _ _ K hq
 case makeInterface t x=>
  split at hq
  .exact hq.elim
  .exact⟨_,hq,λ_ h=>h⟩
  .exact hq.elim
 case makeFunc fn first captured=>exact⟨_,hq,λ_ h=>h⟩
 case slice t x lo hi mx=>
  split at hq
  .split at hq
   .exact abi _ _ _ _ _ K hq
   .exact hq.elim
  .split at hq
   .exact abk _ _ _ K hq
   .exact hq.elim
  .split at hq
   .exact abj _ _ _ _ _ _ K hq
   .exact hq.elim
  .exact hq.elim
 case fieldAddr s x f=>
  split at hq
  .split at hq
   .split at hq
    .split at hq
     .exact hq.elim
     .exact abf _ _ K hq
    .exact hq.elim
   .exact hq.elim
  .exact hq.elim
 case field t x f=>
  split at hq
  .split at hq
   .split at hq
    .split at hq
     .exact abq _ _ _ K hq
     .exact abp _ _ K hq
    .exact hq.elim
   .exact hq.elim
  .exact hq.elim
 case indexAddr t x i=>
  split at hq
  .split at hq
   .exact abg _ _ _ K hq
   .exact hq.elim
  .split at hq
   .exact abh _ _ _ _ K hq
   .exact hq.elim
  .exact hq.elim
 case index t x i=>
  split at hq
  .split at hq
   .split at hq
    .exact abn _ _ _ _ K hq
    .split at hq
     .exact abm _ _ _ K hq
     .exact hq.elim
   .exact hq.elim
  .exact abo _ _ K hq
  .exact hq.elim
 case lookup t m k ok=>
  split at hq
  .split at hq
   .split at hq
    .exact abw _ _ _ _ _ _ K hq
    .exact hq.elim
   .exact hq.elim
  .exact hq.elim
 case extract x i=>exact abl _ _ K hq
 case build t parts=>
  split at hq
  .split at hq
   .split at hq
    .exact KQ _ _ K hq
    .exact hq.elim
   .exact hq.elim
  .split at hq
   .exact KQ _ _ K hq
   .exact hq.elim
  .exact hq.elim
 case call c=>
  split at hq
  .split at hq
   .split at hq
    .exact abr _ K hq
    .exact abt _ K hq
    .exact abv _ _ K hq
    .exact⟨_,hq,λ_ h=>h⟩
    .exact hq.elim
   .exact hq.elim
  .split at hq
   .split at hq
    .exact abu _ K hq
    .exact hq.elim
   .exact hq.elim
  .split at hq
   .exact Fz _ _ K hq
   .exact KR (Fz _ _) (λu=>Fz u _) (λ_=>rfl) K hq
   .exact hq.elim
  .split at hq
   .exact FA _ _ K hq
   .exact KR (FA _ _) (λu=>FA u _) (λ_=>rfl) K hq
   .exact hq.elim
  .exact hq.elim
end
def WF(ro:Option Nat):Fence:={Fence.wide with round:=ro}
def wR(ro:Option Nat)(f:FuncId):(WF ro).fn f:=trivial
def zh(ro:Option Nat):(WF ro).depth=none:=rfl
def FB{ro:Option Nat}{n:Nat}{P:Program}{f:FuncId}{args:Array Value}{w:World}{R:Ending->World->Prop}
  (h:CallsIn Fence.wide n P f args w R):CallsIn (WF ro) n P f args w R:=h
def KS{ro:Option Nat}{n l:Nat}{P:Program}{f:FuncId}{tmps:Array Value}{assign body:Code}{w:World}{R:Ending->World->Prop}
  (h:RoundIn Fence.wide n P l f tmps assign body w R):RoundIn (WF ro) n P l f tmps assign body w R:=h
def kA(t:Array Value):Operand->Value
 | .tmp s=>t.getD s undef
 | .const v=>v
 | .global g=>.pointer (some ⟨g,0,none⟩)
 | .func f=>.func (.func f) #[] #[]
def qD(a:Act):a.eval=kA a.tmps:=by funext x;cases x<;>rfl
def gr(t:Array Value)(dst:Option Tmp)(v:Value):Array Value:=
 match dst with
 |some d=>t.setIfInBounds d v
 |none=>t
def rO(a:Act)(dst:Option Tmp)(v:Value):(a.put dst v).tmps=gr a.tmps dst v:=by cases dst<;>rfl
def put_defers(a:Act)(dst:Option Tmp)(v:Value):(a.put dst v).defers=a.defers:=by cases dst<;>rfl
def sY(t:Array Value)(dst:Option Tmp)(v:Value):(gr t dst v).size=t.size:=by cases dst<;>simp[gr]
def pT:Op->Bool
 | .defer _| .select .. =>false
 |_=>true
def sZ(ops:Array Oper):Prop:=∀(i:Nat)(o:Oper),ops[i]? =some o->pT o.op=true
section
variable{P:Program}{ops:Array Oper}
def jB(P:Program)(ops:Array Oper)(i:Nat)(t:Array Value)(h:af)(K:Array Value->af->Prop):Prop:=
 match ops[i]? with
 |none=>K t h
 |some o=>if Region.wanted o (yielded ops t)then wpS P (execOp (kA t) o) h (oG P λv h'=>K (gr t o.dst v) h')else K (gr t o.dst undef) h
def FC{K K':KT}(hm:∀v h,K v h->K' v h):∀n h,oG P K n h->oG P K' n h:=by
 intro n h hk;cases n<;>simp only[oG]at hk |-
 .exact hm _ _ hk
 .exact hm _ _ hk
 .exact λw hw=>(hk w hw).mono λ_ _⟨v,he,hs,hk⟩=>⟨v,he,hs,hm _ _ hk⟩
 .exact wF.mono hk hm
def uH{i:Nat}{t:Array Value}{h:af}{K K':Array Value->af->Prop}(hm:∀t h,K t h->K' t h)(hk:jB P ops i t h K):jB P ops i t h K':=by
 unfold jB at *;split
 .rename_i e;rw[e]at hk;exact hm _ _ hk
 .rename_i o e;rw[e]at hk;dsimp only at hk;split
  .rename_i hw;rw[aW hw]at hk;exact qy (FC λv h hk=>hm _ _ hk) hk
  .rename_i hw;rw[aQ hw]at hk;exact hm _ _ hk
def BU{ro:Option Nat}{ρ:Operand->Value}{o:Oper}(hp:pT o.op=true):Oper.semAt ro ρ o=execOp ρ o:=Oper.semAt_eq ro ρ o λc hc=>by rw[hc]at hp;cases hp
def abA{ro:Option Nat}{o:Oper}{a:Act}{w:World}{Q:Exit->Act->World->Prop}{K:KT}{K':Act->World->Prop}
  (hp:pT o.op=true) (hs:wpS P (execOp a.eval o) w.heap (oG P K))
  (hk:∀v w',dF w w'->K v w'.heap->K' (a.put o.dst v) w'):o.wpIn (WF ro) 0 P a w K' Q:=by
 refine⟨λf _=>wR ro f,?_⟩;rw[BU hp];obtain⟨x,w',hr,hsame,hx⟩:=wE hs w rfl;rw[hr];cases x<;>simp only[oG]at hx<;>try exact hx.elim
 .exact hk _ _ hsame hx
 .exact hk _ _ hsame hx
 .refine⟨λh=>by simp[zh]at h,?_⟩;refine(FB (hx w' rfl)).mono ?_;rintro e w'' ⟨v,rfl,hs',hv⟩;exact hk _ _ (hsame.trans hs') hv
 .refine⟨λh=>by simp[zh]at h,?_⟩;refine(KS (hx w' rfl)).mono ?_;rintro e w'' ⟨v,rfl,hs',hv⟩;exact hk _ _ (hsame.trans hs') hv
def FD{ro:Option Nat}{i:Nat}{a:Act}{w:World}{Q:Exit->Act->World->Prop}{K:Array Value->af->Prop}{K':Act->World->Prop}
  (hp:∀o,ops[i]? =some o->pT o.op=true) (hs:jB P ops i a.tmps w.heap K)
  (hk:∀a' w',a'.defers=a.defers->dF w w'->K a'.tmps w'.heap->K' a' w'):wpOpIn (WF ro) 0 P ops Q i K' a w:=by
 unfold jB at hs;unfold wpOpIn;split
 .rename_i e;rw[e]at hs;exact hk _ _ rfl (.refl _) hs
 .rename_i o e;rw[e]at hs;dsimp only at hs;split
  .rename_i hw;rw[aW hw]at hs;rw[<-qD]at hs;exact abA (hp o e) hs λv w' hs' hv=>hk _ _ (put_defers _ _ _) hs' (by rw[rO];exact hv)
  .rename_i hw;rw[aQ hw]at hs;exact⟨λf _=>wR ro f,hk _ _ (put_defers _ _ _) (.refl _) (by rw[rO];exact hs)⟩
def FE(P:Program)(ops:Array Oper)(Q:Array Value->af->Prop):Nat->Array Bool->Array Value->af->Prop
 |0,listed,t,h=>Region.ready .any ops listed=[]/\Q t h
 |fuel+1,listed,t,h=>
  (Region.ready .any ops listed=[]->Q t h)/\
  ∀i∈Region.ready .any ops listed,jB P ops i t h (FE P ops Q fuel (listed.setIfInBounds i true))
def abB{ro:Option Nat}{Q:Exit->Act->World->Prop}{K:Array Value->af->Prop}(hp:sZ ops):
  ∀(fuel:Nat)(listed:Array Bool)(a:Act)(w:World),FE P ops K fuel listed a.tmps w.heap->
   (∀a' w',a'.defers=a.defers->dF w w'->K a'.tmps w'.heap->Q .normal a' w')->wpAnyIn (WF ro) 0 P .any ops Q fuel listed a w:=by
 intro fuel
 induction fuel with
 |zero=>intro listed a w hk hq;exact⟨hk.1,hq _ _ rfl (.refl _) hk.2⟩
 |succ fuel ih=>intro listed a w hk hq;refine⟨λhr=>hq _ _ rfl (.refl _) (hk.1 hr),λi hi=> ?_⟩;refine FD (hp i) (hk.2 i hi) λa' w' hd hs h'=>ih _ a' w' h' λb w'' hd' hs' h''=>hq _ _ (hd'.trans hd) (hs.trans hs') h''
def abC{t:Array Value}{dst:Option Tmp}{v:Value}{x:Operand}(hx:∀d,dst=some d->x≠ .tmp d):kA (gr t dst v) x=kA t x:=by
 cases dst with
 |none=>rfl
 | some d=>
  cases x with
  |tmp s=>have :d≠s:=λe=>hx d rfl (e▸rfl);simp[kA,gr,yH this]
  |_=>rfl
def KU{t:Array Value}{o:Oper}{dst:Option Tmp}{v:Value}(hp:pT o.op=true)(hd:∀d,dst=some d->d∉o.looksAt ops):
  execOp (kA (gr t dst v)) o=execOp (kA t) o:=by
 refine execOp_congr o (λcs b hc=>by rw[hc]at hp;cases hp) λx hx=>abC λd hd' a=>hd d hd' ?_;subst a;exact aqJ _ (EO.2 ⟨.tmp d,by simpa using hx,rfl⟩)
def KV{t:Array Value}{o:Oper}{dst:Option Tmp}{v:Value}(hd:∀d,dst=some d->d∉o.looksAt ops):
  Region.wanted o (yielded ops (gr t dst v))=Region.wanted o (yielded ops t):=by
 have :=wanted_put (ops:=ops) o {tmps:=t,defers:=[]} dst v hd;rw[rO]at this;exact this
def KW{t:Array Value}{x y:Option Tmp}{v u:Value}(h:∀d,x=some d->y≠some d):gr (gr t x v) y u=gr (gr t y u) x v:=by
 cases x with
 |none=>rfl
 | some d=>
  cases y with
  |none=>rfl
  |some e=>have :d≠e:=λhe=>h d rfl (he▸rfl);simp[gr,J4 _ _ this]
def kB(P:Program)(ops:Array Oper)(c:Nat)(v:Value)(t:Array Value)(h:af):Prop:=∃o,ops[c]? =some o/\if Region.wanted o (yielded ops t)then aZ P (execOp (kA t) o) h=some (.value v)else v=undef
def jS(ops:Array Oper)(c:Nat):Option Tmp:=(ops[c]?).bind (·.dst)
def kB.jB{c:Nat}{v:Value}{t:Array Value}{h:af}{K:Array Value->af->Prop}(hg:kB P ops c v t h)(hk:K (gr t (jS ops c) v) h):Mh.jB P ops c t h K:=by
 obtain⟨o,ho,hv⟩:=hg;unfold Mh.jB;simp only[ho,jS,Bi]at *;split
 .rename_i hw;rw[aW hw]at hv;exact Fg hv hk
 .rename_i hw;rw[aQ hw]at hv;subst hv;exact hk
def uI(ops:Array Oper)(c i:Nat):Bool:=
 match ops[c]?,ops[i]? with
 |some x,some y=>x.apart ops y
 |_,_=>false
def kB.put{c i:Nat}{v u:Value}{t:Array Value}{h:af}(hp:sZ ops)(ha:uI ops c i=true):
  kB P ops c v (gr t (jS ops i) u) h↔kB P ops c v t h:=by
 unfold uI at ha;split at ha
 .rename_i x y hx hy;obtain⟨_,_,h3⟩:=Oper.apart_spec ha;unfold kB;simp only[hx,jS,hy,Bi,eM,exists_eq_left'];rw[KV h3,KU (hp c x hx) h3]
 .cases ha
def abD{c i:Nat}{v:Value}{t:Array Value}{h:af}{K:Array Value->af->Prop}(hp:sZ ops)
  (ha:uI ops c i=true) (hk:jB P ops i (gr t (jS ops c) v) h K):
  jB P ops i t h (λt' h'=>(∃u,t'=gr t (jS ops i) u)/\K (gr t' (jS ops c) v) h'):=by
 unfold uI at ha;split at ha
 .rename_i x y hx hy;obtain⟨h1,h2,h3⟩:=Oper.apart_spec ha;have a:=hp i y hy;unfold jB at *;simp only[hx,jS,hy,Bi]at hk |-;rw[KV h1,KU a h1]at hk;split
  .rename_i hw;rw[aW hw]at hk;refine qy (FC λu h' hk'=>⟨⟨u,rfl⟩,?_⟩) hk;rw[<-KW h2];exact hk'
  .rename_i hw;rw[aQ hw]at hk;refine⟨⟨_,rfl⟩,?_⟩;rw[<-KW h2];exact hk
 .cases ha
end
def BV(acc:List Nat)(o:Oper):Nat:=o.after.toList.foldl (λs e=>bif Region.binds .any e then s|||(2^e.on|||acc.getD e.on 0)else s) 0
def zi:List Oper->List Nat->List Nat
 | [],acc=>acc
 |o::r,acc=>zi r (acc++ [BV acc o])
section
variable{P:Program}{ops:Array Oper}{bQ:List Nat}
def k8(bQ:List Nat)(i c:Nat):Bool:=(bQ.getD i 0).testBit c
def rP(bQ:List Nat):List Oper->Nat->Bool
 | [],_=>true
 |o::r,i=>Nat.beq (bQ.getD i 0) (BV bQ o)&&rP bQ r (i+1)
def abE(bQ:List Nat)(o:Oper)(c:Nat)(h:(BV bQ o).testBit c=true):
  ∃e∈o.after,Region.binds .any e=true/\(c=e.on\/k8 bQ e.on c=true):=by
 have key:∀(l:List Edge)(s:Nat),(l.foldl (λs e=>bif Region.binds .any e then s|||(2^e.on|||bQ.getD e.on 0)else s) s).testBit c=true->
   s.testBit c=true\/∃e∈l,Region.binds .any e=true/\(c=e.on\/k8 bQ e.on c=true):=by
  intro l
  induction l with
  |nil=>intro s h;exact .inl h
  | cons e l ih=>
   intro s h;rw[kS]at h;rcases ih _ h with h|⟨e',he',hb⟩
   .cases hb:Region.binds .any e with
    |false=>rw[hb]at h;exact .inl h
    |true=>
     rw[hb,cond_true,Bj,Bj,EP]at h;simp only[uc,gT]at h;rcases h with h|h|h
     .exact .inl h
     .exact .inr ⟨e,cN,hb,.inl h.symm⟩
     .exact .inr ⟨e,cN,hb,.inr h⟩
   .exact .inr ⟨e',cZ _ he',hb⟩
 rcases key o.after.toList 0 h with h|⟨e,he,h⟩
 .simp at h
 .exact⟨e,Array.mem_def.2 he,h⟩
def KX{bQ:List Nat}:∀(l:List Oper)(k:Nat),rP bQ l k=true->∀(i:Nat)(o:Oper),l[i]? =some o->bQ.getD (k+i) 0=BV bQ o
 | [],_,_,i,o,ho=>by simp at ho
 | x::l,k,h,i,o,ho=>by
  simp only[rP,gb]at h;cases i with
  |zero=>simp only[nG,eM]at ho;subst ho;exact gl h.1
  |succ i=>rw[show k+(i+1)=k+1+i by omega];exact KX l (k+1) h.2 i o (by simpa using ho)
def abF(hok:rP bQ ops.toList 0=true){i c:Nat}{o:Oper}(ho:ops[i]? =some o)(hb:k8 bQ i c=true):
  ∃e∈o.after,Region.binds .any e=true/\(c=e.on\/k8 bQ e.on c=true):=by
 have h:=KX ops.toList 0 hok i o (by simpa using ho);rw[bE]at h;unfold k8 at hb;rw[h]at hb;exact abE bQ o c hb
def quietAt(ops:Array Oper)(i:Nat):Bool:=
 match ops[i]? with
 |some o=>rN o.op
 |none=>false
def FG(ops:Array Oper)(bQ:List Nat):Prop:=∀c i:Nat,c<ops.size->i<ops.size->c≠i->quietAt ops c=true->k8 bQ i c=false->k8 bQ c i=false->uI ops c i=true
def mem_ready{listed:Array Bool}{i:Nat}:i∈Region.ready .any ops listed↔
  i<ops.size/\listed.getD i true=false/\∃o,ops[i]? =some o/\∀e∈o.after,Region.binds .any e=true->listed.getD e.on false=true:=by
 unfold Region.ready;simp only[gL,jw,gb,mA];constructor
 .rintro⟨h1,h2,h3⟩;refine⟨h1,h2,?_⟩;cases ho:ops[i]? with
  |none=>rw[ho]at h3;simp at h3
  |some o=>
   rw[ho]at h3;simp only[vV,e8,J5,uc,mA]at h3;refine⟨o,rfl,λe he hb=> ?_⟩;rcases h3 e he with h|h
   .rw[hb]at h;cases h
   .exact h
 .rintro⟨h1,h2,o,ho,h3⟩;refine⟨h1,h2,?_⟩;rw[ho];simp only[vV,e8,J5,uc,mA];intro e he;cases hb:Region.binds .any e with
  |false=>exact .inl rfl
  |true=>exact .inr (h3 e he hb)
def wS(ops:Array Oper)(bQ:List Nat)(listed:Array Bool):Prop:=listed.size=ops.size/\∀i c,listed.getD i false=true->k8 bQ i c=true->listed.getD c false=true
def BX{listed:Array Bool}{i j:Nat}{d:Bool}(hi:i<listed.size):(listed.setIfInBounds i true).getD j d=if i=j then true else listed.getD j d:=by
 simp only[yI,Array.getElem?_setIfInBounds];split
 .rename_i e;subst e;simp[hi]
 .rfl
def FH(hok:rP bQ ops.toList 0=true){listed:Array Bool}{i c:Nat}(hc:wS ops bQ listed)(hi:i∈Region.ready .any ops listed)
  (hb:k8 bQ i c=true):listed.getD c false=true:=by
 obtain⟨_,_,o,ho,h⟩:=mem_ready.1 hi;obtain⟨e,he,a,rfl|b⟩:=abF hok ho hb
 .exact h e he a
 .exact hc.2 _ _ (h e he a) b
def s7{listed:Array Bool}{i:Nat}(hi:i∈Region.ready .any ops listed):i<ops.size:=(mem_ready.1 hi).1
def KY{listed:Array Bool}{i:Nat}(hs:listed.size=ops.size)(hi:i∈Region.ready .any ops listed):listed.getD i false=false:=by obtain⟨h1,h2,_⟩:=mem_ready.1 hi;have :i<listed.size:=aa;simpa[yI,this]using h2
def KZ(hok:rP bQ ops.toList 0=true){listed:Array Bool}{i:Nat}(hc:wS ops bQ listed)(hi:i∈Region.ready .any ops listed):
  wS ops bQ (listed.setIfInBounds i true):=by
 have hl:i<listed.size:=by rw[hc.1];exact s7 hi
 refine⟨by simp[hc.1],λj c hj hb=> ?_⟩;rw[BX hl]at hj |-;split
 .rfl
 .split at hj
  .rename_i e;subst e;exact FH hok hc hi hb
  .exact hc.2 _ _ hj hb
def FI{listed:Array Bool}{i c:Nat}(hs:listed.size=ops.size)(hne:i≠c)(hi:i∈Region.ready .any ops listed)(hc:c<ops.size):
  i∈Region.ready .any ops (listed.setIfInBounds c true):=by
 obtain⟨h1,h2,o,ho,h⟩:=mem_ready.1 hi;have hl:c<listed.size:=aa;refine mem_ready.2 ⟨h1,?_,o,ho,λe he hb=> ?_⟩
 .rw[BX hl,aQ (λe=>hne e.symm)];exact h2
 .rw[BX hl];split
  .rfl
  .exact h e he hb
abbrev qE:=List (Nat×(af->Prop))
def mJ(bQ:List Nat)(i:Nat)(H:qE):qE:=H.filter λx=> !k8 bQ i x.1
def FJ{i:Nat}{H:qE}:mJ bQ i H ⊆ H:=λ_ h=>(gL.1 h).1
def K0{i:Nat}{H H':qE}(h:H' ⊆ H):mJ bQ i H' ⊆ mJ bQ i H:=λx hx=>by obtain⟨h1,h2⟩:=gL.1 hx;exact gL.2 ⟨h h1,h2⟩
def RW(P:Program)(ops:Array Oper)(bQ:List Nat)(Q:Array Value->af->Prop):Nat->qE->Array Bool->Array Value->af->Prop
 |0,_,listed,t,h=>Region.ready .any ops listed=[]/\Q t h
 | f+1,H,listed,t,h=>
  (Region.ready .any ops listed=[]/\Q t h)\/
  (∃c v,c∈Region.ready .any ops listed/\quietAt ops c=true/\kB P ops c v t h/\
   RW P ops bQ Q f (H++ [(c,kB P ops c v t)]) (listed.setIfInBounds c true) (gr t (jS ops c) v) h)\/
  (Region.ready .any ops listed≠ []/\∀i∈Region.ready .any ops listed,
   jB P ops i t h λt' h'=>(∀x∈mJ bQ i H,x.2 h')/\RW P ops bQ Q f (mJ bQ i H) (listed.setIfInBounds i true) t' h')
def FK{Q:Array Value->af->Prop}:∀(f:Nat){H H':qE}{listed:Array Bool}{t:Array Value}{h:af},H' ⊆ H->RW P ops bQ Q f H listed t h->RW P ops bQ Q f H' listed t h
 |0,_,_,_,_,_,_,hr=>hr
 | f+1,H,H',listed,t,h,hs,hr=>by
  rcases hr with hr|⟨c,v,hc,hq,hg,hr⟩|⟨hne,hr⟩
  .exact .inl hr
  .refine .inr (.inl ⟨c,v,hc,hq,hg,FK f ?_ hr⟩);intro x hx;rcases cS.1 hx with hx|hx
   .exact cS.2 (.inl (hs hx))
   .exact cS.2 (.inr hx)
  .refine .inr (.inr ⟨hne,λi hi=>uH ?_ (hr i hi)⟩);rintro t' h' ⟨h1,h2⟩;exact⟨λx hx=>h1 x (K0 hs hx),FK f (K0 hs) h2⟩
def abG(hok:rP bQ ops.toList 0=true)(hap:FG ops bQ)(hp:sZ ops){Q:Array Value->af->Prop}:
  ∀(f:Nat){H:qE}{listed:Array Bool}{t:Array Value}{h:af}{i:Nat},wS ops bQ listed->RW P ops bQ Q (f+1) H listed t h->
   i∈Region.ready .any ops listed->(∀x∈H,x.2 h)->
   jB P ops i t h λt' h'=>(∀x∈mJ bQ i H,x.2 h')/\RW P ops bQ Q f (mJ bQ i H) (listed.setIfInBounds i true) t' h':=by
 intro f
 induction f with
 | zero=>
  intro H listed t h i a hr hi hH;rcases hr with ⟨hr,_⟩|⟨c,v,hc,hq,hg,hr⟩|⟨_,hr⟩
  .rw[hr]at hi;cases hi
  .by_cases hic:i=c
   .subst hic;exact hg.jB ⟨λx hx=>hH x (FJ hx),hr⟩
   .have :=FI a.1 hic hi (s7 hc);rw[hr.1]at this;cases this
  .exact hr i hi
 | succ f ih=>
  intro H listed t h i a hr hi hH;rcases hr with ⟨hr,_⟩|⟨c,v,hc,hq,hg,hr⟩|⟨_,hr⟩
  .rw[hr]at hi;cases hi
  .by_cases hic:i=c
   .subst hic;exact hg.jB ⟨λx hx=>hH x (FJ hx),FK _ (λx hx=>cS.2 (.inl (FJ hx))) hr⟩
   .have d:k8 bQ i c=false:=by
     cases hb:k8 bQ i c with
     |false=>rfl
     |true=>have :=FH hok a hi hb;rw[KY a.1 hc]at this;cases this
    have g:k8 bQ c i=false:=by
     cases hb:k8 bQ c i with
     |false=>rfl
     |true=>have :=FH hok a hc hb;rw[KY a.1 hi]at this;cases this
    have ha:uI ops c i=true:=hap c i (s7 hc) (s7 hi) (λe=>hic e.symm) hq d g;have j:∀x∈H++ [(c,kB P ops c v t)],x.2 h:=by
     intro x hx;rcases cS.1 hx with hx|hx
     .exact hH x hx
     .rw[eP.1 hx];exact hg
    have :=ih (KZ hok a hc) hr (FI a.1 hic hi (s7 hc)) j;refine uH ?_ (abD hp ha this);rintro t' h' ⟨⟨u,rfl⟩,b,hrw⟩;have hd:mJ bQ i (H++ [(c,kB P ops c v t)])=mJ bQ i H++ [(c,kB P ops c v t)]:=by unfold mJ;rw[mD];simp[d]
    rw[hd]at b hrw;have hg':kB P ops c v (gr t (jS ops i) u)=kB P ops c v t:=funext λh''=>propext (kB.put hp ha);refine⟨λx hx=>b x (cS.2 (.inl hx)),.inr (.inl ⟨c,v,FI a.1 (λe=>hic e.symm) hc (s7 hi),hq,?_,?_⟩)⟩
    .rw[hg'];exact b _ (cS.2 (.inr (eP.2 rfl)))
    .rw[hg',J4 _ _ (λe=>hic e)];exact hrw
  .exact hr i hi
def abH(hok:rP bQ ops.toList 0=true)(hap:FG ops bQ)(hp:sZ ops){Q:Array Value->af->Prop}:
  ∀(f:Nat){listed:Array Bool}{t:Array Value}{h:af},wS ops bQ listed->RW P ops bQ Q f [] listed t h->FE P ops Q f listed t h:=by
 intro f
 induction f with
 |zero=>intro listed t h _ hr;exact hr
 |succ f ih=>
  intro listed t h a hr;refine⟨λhe=> ?_,λi hi=>uH (λt' h' hk=>ih (KZ hok a hi) hk.2) (abG hok hap hp f a hr hi aP)⟩;rcases hr with ⟨_,hq⟩|⟨c,v,hc,_⟩|⟨hne,_⟩
  .exact hq
  .rw[he]at hc;cases hc
  .exact(hne he).elim
end
abbrev bU:=List (Nat×Value)
def look:bU->Nat->Option Value
 | [],_=>none
 |(s,v)::r,t=>match Nat.beq s t with
  |true=>some v
  |false=>look r t
def ev(e:bU):Operand->Value
 | .tmp t=>(match look e t with
  |some v=>v
  |none=>undef)
 | .const v=>v
 | .global g=>.pointer (some ⟨g,0,none⟩)
 | .func f=>.func (.func f) #[] #[]
def rQ(e:bU):Operand->Bool
 | .tmp t=>(match look e t with
  |some _=>true
  |none=>false)
 |_=>true
def pU(e:bU):List Operand->Bool
 | []=>true
 |x::r=>match rQ e x with
  |true=>pU e r
  |false=>false
def mV(e:bU)(dst:Option Tmp)(v:Value):bU:=
 match dst with
 |some d=>(d,v)::e
 |none=>e
def qF(n:Nat):Option Tmp->Bool
 |some d=>Nat.blt d n
 |none=>true
def Rel(e:bU)(t:Array Value):Prop:=∀s v,look e s=some v->t[s]? =some v
def Rel.ev{e:bU}{t:Array Value}(h:Rel e t){x:Operand}(hk:rQ e x=true):ev e x=kA t x:=by
 cases x with
 | tmp s=>
  simp only[rQ]at hk;split at hk
  .rename_i v hv;simp[Mh.ev,kA,hv,h s v hv]
  .cases hk
 |_=>rfl
def zk{e:bU}:∀{l:List Operand},pU e l=true->∀x∈l,rQ e x=true
 | x::r,h,y,hy=>by
  simp only[pU]at h;split at h
  .rename_i hx;rcases cV.1 hy with rfl|hy
   .exact hx
   .exact zk h y hy
  .cases h
def Rel.put{e:bU}{t:Array Value}(h:Rel e t){dst:Option Tmp}{v:Value}(hd:qF t.size dst=true):Rel (mV e dst v) (gr t dst v):=by
 cases dst with
 |none=>exact h
 | some d=>
  intro s u hs;have hlt:d<t.size:=rE hd;simp only[mV,look]at hs;split at hs
  .rename_i he;have :=gl he;subst this;simp only[eM]at hs;subst hs;simp[gr,hlt]
  .rename_i he;have hne:d≠s:=λh=>by subst h;simp at he
   simp only[gr,yH hne];exact h s u hs
def Rel.lit{e:bU}{t:Array Value}(h:Rel e t){s:Nat}{v:Value}(hs:look e s=some v):Rel ((s,v)::e) t:=by
 intro s' u hu;simp only[look]at hu;split at hu
 .rename_i he;have :=gl he;subst this;simp only[eM]at hu;subst hu;exact h s v hs
 .exact h s' u hu
def wT(n:Nat)(o:Oper)(e:bU):Bool:=
 match pT o.op with
 |true=>(match pU e o.op.operands.toList with
  |true=>qF n o.dst
  |false=>false)
 |false=>false
def zl(P:Program)(n:Nat)(o:Oper)(e:bU)(h:af)(K:bU->af->Prop):Prop:=
 match wT n o e with
 |true=>(match rN o.op with
  |true=>jA P (ev e) o.op h λv=>K (mV e o.dst v) h
  |false=>lop P (ev e) o.op h λv h'=>K (mV e o.dst v) h')
 |false=>False
def abI (ops:Array Oper) (e:bU) (j:Nat):Bool:=
 match ops[j]? with
 | some o=>(match o.guard with
  |none=>false
  | some (j',want)=>(match jS ops j' with
   |some s=>(match look e s with
    |some (.bool true)=> !want
    |some (.bool false)=>want
    |some (.tuple _)=>true
    |_=>false)
   |none=>false))
 |none=>false
def FL(v:Value)(X:Prop):Prop:=
 match v with
 | .tuple _=>X
 |_=>False
def zm (ops:Array Oper) (o:Oper) (e:bU) (F:Bool->bU->Prop):Prop:=
 match o.guard with
 |none=>F true e
 | some (j,want)=>(match jS ops j with
  | some s=>(match look e s with
   |some v=>(match abI ops e j with
    |true=>FL v (F false e)
    |false=>aA v (F want ((s,.bool true)::e)) (F (!want) ((s,.bool false)::e)))
   |none=>False)
  |none=>False)
def qG(P:Program)(n:Nat)(ops:Array Oper)(o:Oper)(e:bU)(h:af)(K:bU->af->Prop):Prop:=
 zm ops o e λw e'=>match w with
  |true=>zl P n o e' h K
  |false=>(match qF n o.dst with
   |true=>K (mV e' o.dst undef) h
   |false=>False)
section
variable{P:Program}{ops:Array Oper}{n:Nat}
def K3{o:Oper}{e:bU}{t:Array Value}{F:Bool->bU->Prop}(hr:Rel e t)(hg:zm ops o e F):
  ∃e',Rel e' t/\F (Region.wanted o (yielded ops t)) e':=by
 unfold zm at hg;unfold Region.wanted;cases hgd:o.guard with
 |none=>rw[hgd]at hg;exact⟨e,hr,hg⟩
 | some p=>
  obtain⟨j,want⟩:=p;rw[hgd]at hg;dsimp only at hg |-;split at hg
  .rename_i s hs;split at hg
   .rename_i v hv;have ht:=hr s v hv;have hy:yielded ops t j=(match v with| .bool b=>some b|_=>none):=by
     unfold yielded;unfold jS at hs;rw[hs];simp only[Bi,ht];cases v<;>rfl
    split at hg
    .unfold FL at hg;split at hg
     .refine⟨_,hr,?_⟩;rw[hy];exact hg
     .exact hg.elim
    .unfold aA at hg;split at hg
     .refine⟨_,hr.lit hv,?_⟩;rw[hy];cases want<;>exact hg
     .refine⟨_,hr.lit hv,?_⟩;rw[hy];cases want<;>exact hg
     .exact hg.elim
   .exact hg.elim
  .exact hg.elim
def BZ{o:Oper}{e:bU}(h:wT n o e=true):pT o.op=true/\pU e o.op.operands.toList=true/\qF n o.dst=true:=by
 unfold wT at h;split at h
 .rename_i h1;split at h
  .rename_i h2;exact⟨h1,h2,h⟩
  .cases h
 .cases h
def B0{o:Oper}{e:bU}{t:Array Value}(hr:Rel e t)(hp:pT o.op=true)(hk:pU e o.op.operands.toList=true):execOp (ev e) o=execOp (kA t) o:=execOp_congr o (λcs b hc=>by rw[hc]at hp;cases hp) λx hx=>hr.ev (zk hk x (by simpa using hx))
def Fr(ops:Array Oper)(t t':Array Value):Prop:=t'.size=t.size/\∀s,(∀i,jS ops i≠some s)->t'[s]? =t[s]?
def Fr.refl(t:Array Value):Fr ops t t:=⟨rfl,λ_ _=>rfl⟩
def Fr.trans{a b c:Array Value}(h:Fr ops a b)(h':Fr ops b c):Fr ops a c:=⟨h'.1.trans h.1,λs hs=>(h'.2 s hs).trans (h.2 s hs)⟩
def Fr.put{t:Array Value}{i:Nat}{o:Oper}{v:Value}(ho:ops[i]? =some o):Fr ops t (gr t o.dst v):=by
 refine⟨sY _ _ _,λs hs=> ?_⟩;cases hd:o.dst with
 |none=>rfl
 |some d=>have hne:d≠s:=λe=>hs i (by simp[jS,ho,hd,e]);simp[gr,yH hne]
def B2{i:Nat}{o:Oper}{e:bU}{t:Array Value}{h:af}{K:bU->af->Prop}(ho:ops[i]? =some o)(hr:Rel e t)(hn:t.size=n)
  (hc:qG P n ops o e h K):jB P ops i t h λt' h'=>Fr ops t t'/\∃e',Rel e' t'/\K e' h':=by
 unfold qG at hc;obtain⟨e',hr',hc⟩:=K3 hr hc;unfold jB;rw[ho];dsimp only;cases hw:Region.wanted o (yielded ops t)with
 | true=>
  rw[hw]at hc;simp only[e7];unfold zl at hc;dsimp only at hc;split at hc
  .rename_i hok;obtain⟨hp,hk,hd⟩:=BZ hok;rw[<-hn]at hd;rw[<-B0 hr' hp hk];split at hc
   .obtain⟨v,hv,hK⟩:=KC hc;exact Fg hv ⟨Fr.put ho,_,hr'.put hd,hK⟩
   .exact qy (FC λv h' hK=>⟨Fr.put ho,_,hr'.put hd,hK⟩) (aaZ hc)
  .exact hc.elim
 | false=>
  rw[hw]at hc;simp only[gm,dN];dsimp only at hc;split at hc
  .rename_i hd;rw[<-hn]at hd;exact⟨Fr.put ho,_,hr'.put hd,hc⟩
  .exact hc.elim
def abJ{o:Oper}{e:bU}{h:af}{K:bU->af->Prop}(ha:zf o.op=true)(hc:qG P n ops o e h K):
  qG P n ops o e h λe' h'=>K e' h'/\(h'=h\/∃x,h'=h.push x):=by
 have hF:∀(w:Bool)(e':bU),(match w with
   |true=>zl P n o e' h K
   |false=>(match qF n o.dst with
    |true=>K (mV e' o.dst undef) h
    |false=>False))->(match w with
   |true=>zl P n o e' h λe' h'=>K e' h'/\(h'=h\/∃x,h'=h.push x)
   |false=>(match qF n o.dst with
    |true=>K (mV e' o.dst undef) h/\(h=h\/∃x,h=h.push x)
    |false=>False)):=by
  intro w e' hx;cases w with
  | true=>
   dsimp only at hx |-;unfold zl at *;split at hx
   .split at hx
    .rename_i hq;rw[aa3 ha]at hq;cases hq
    .exact aa2 (λv h' hk=>⟨hk.1,.inr hk.2⟩) (aa4 ha hx)
   .exact hx.elim
  |false=>
   dsimp only at hx |-;split at hx
   .exact⟨hx,.inl rfl⟩
   .exact hx.elim
 unfold qG at *;unfold zm at *;split at hc
 .exact hF true e hc
 .rename_i j want _;split at hc
  .rename_i s _;split at hc
   .split at hc
    .unfold FL at *;split at hc
     .exact hF false e hc
     .exact hc.elim
    .unfold aA at *;split at hc
     .exact hF want ((s,.bool true)::e) hc
     .exact hF (!want) ((s,.bool false)::e) hc
     .exact hc.elim
   .exact hc.elim
  .exact hc.elim
def FM(P:Program)(n:Nat)(ops:Array Oper):List Oper->bU->af->(bU->af->Prop)->Prop
 | [],e,h,K=>K e h
 |o::r,e,h,K=>qG P n ops o e h λe' h'=>FM P n ops r e' h' K
def zn(P:Program)(ops:Array Oper)(Q:Array Value->af->Prop):List Nat->Array Value->af->Prop
 | [],t,h=>Q t h
 |i::r,t,h=>jB P ops i t h (zn P ops Q r)
def K4{ro:Option Nat}{Q:Exit->Act->World->Prop}{K:Array Value->af->Prop}(hp:sZ ops):∀(l:List Nat)(a:Act)(w:World),
  zn P ops K l a.tmps w.heap->(∀a' w',a'.defers=a.defers->dF w w'->K a'.tmps w'.heap->Q .normal a' w')->wpOpsIn (WF ro) 0 P ops Q l a w
 | [],a,w,hk,hq=>hq _ _ rfl (.refl _) hk
 |i::r,a,w,hk,hq=>by rw[wpOpsIn_cons];exact FD (hp i) hk λa' w' hd hs hk'=>K4 hp r a' w' hk' λc w'' hd' hs' b=>hq _ _ (hd'.trans hd) (hs.trans hs') b
def K5:∀(l:List Oper)(k:Nat){e:bU}{t:Array Value}{h:af}{K:bU->af->Prop},ops.toList.drop k=l->Rel e t->t.size=n->
  FM P n ops l e h K->zn P ops (λt' h'=>Fr ops t t'/\∃e',Rel e' t'/\K e' h') ((List.range ops.size).drop k) t h
 | [],k,e,t,h,K,hl,hr,hn,hc=>by
  have :ops.size<=k:=by have :=eG List.length hl;simp at this;omega
  rw[rz (by simpa using this)];exact⟨.refl _,e,hr,hc⟩
 | o::r,k,e,t,h,K,hl,hr,hn,hc=>by
  have hk:k<ops.size:=by have :=eG List.length hl;simp at this;omega
  have ho:ops[k]? =some o:=by
   have :(ops.toList.drop k)[0]? =some o:=by rw[hl];rfl
   simpa using this
  have hl':ops.toList.drop (k+1)=r:=by rw[<-ud,hl];rfl
  have hd:(List.range ops.size).drop k=k::(List.range ops.size).drop (k+1):=by rw[iD (by simpa using hk)];simp
  rw[hd];refine uH ?_ (B2 ho hr hn hc);rintro t' h' ⟨hf,e',hr',a⟩;have :=K5 r (k+1) hl' hr' (hf.1.trans hn) a;have mono:∀(l:List Nat)(t:Array Value)(h:af){K K':Array Value->af->Prop},(∀t h,K t h->K' t h)->zn P ops K l t h->zn P ops K' l t h:=by
   intro l
   induction l with
   |nil=>intro t h K K' hm hk;exact hm _ _ hk
   |cons i r ih=>intro t h K K' hm hk;exact uH (λt h=>ih t h hm) hk
  exact mono _ _ _ (λt'' h''⟨hf',hx⟩=>⟨hf.trans hf',hx⟩) this
end
end Go.Mh
