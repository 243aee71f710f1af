/- Texts of the proofs of seat YthglofkkjoiepaaGreatDoor, joined: Base, Prims, Ops, QSound, QSound2, QSound3, QSound4, LSound, LSound2, LSound3, Region, Drawn, CReg, CDrawn. They have no conditions of their own. -/
import Derived.RangeFuncIn
import Derived.OrdersIn
import Derived.MapKept
set_option linter.unusedVariables false
set_option linter.unusedSimpArgs false
set_option linter.unusedSectionVars false

namespace Go.Mh
open Go
abbrev aa:=Array Obj
abbrev KT:=Value->aa->Prop
abbrev I(n:Int):Value:=.int .i64 n
def hcell(h:aa)(a:Addr):Option Value:=
 match h[a.block]? with
 |some (.cells c _ _)=>if a.spot.isSome then none else c[a.off]?
 |_=>none
def oh(h:aa)(a:Addr):Bool:=
 match h[a.block]? with
 |some (.cells _ _ (lo,hi))=>lo<=a.off&&a.off<hi
 |_=>false
def IM(h:aa)(r:Nat):Option (TypeId×Nat):=
 match h[r]? with
 |some (.cells c elem _)=>some (elem,c.size)
 |_=>none
def e8(h:aa)(a:Addr)(v:Value):aa:=
 h.modify a.block fun
   | .cells c elem frozen=>.cells (if a.spot.isSome then c else c.setIfInBounds a.off v) elem frozen
   |o=>o
theorem Ck(w:World)(a:Addr):w.cell? a=hcell w.heap a:=rfl
theorem W9(w:World)(a:Addr):w.frozen? a=oh w.heap a:=rfl
structure cU(w w':World):Prop where
 os:w'.os=w.os
 output:w'.output=w.output
 tape:w'.tape=w.tape
 drawn:w.drawn<=w'.drawn
theorem cU.refl(w:World):cU w w:=⟨rfl,rfl,rfl,Nat.le_refl _⟩
theorem cU.trans{a b c:World}(h:cU a b)(h':cU b c):cU a c:=
 ⟨h'.os.trans h.os,h'.output.trans h.output,h'.tape.trans h.tape,Nat.le_trans h.drawn h'.drawn⟩
def plainCell:Value->Bool
 | .agg _| .tuple _=>false
 |_=>true
def wpS(P:Program){α:Type}:Sem α->aa->(α->aa->Prop)->Prop
 | .pure a,h,K=>K a h
 | .load _ a k,h,K=>match hcell h a with
  |some v=>wpS P (k v) h K
  |none=>False
 | .store _ a v k,h,K=>plainCell v=true/\(hcell h a).isSome=true/\oh h a=false/\wpS P k (e8 h a v) K
 | .new o k,h,K=>wpS P (k h.size) (h.push o) K
 | .shape r k,h,K=>wpS P (k (IM h r)) h K
 | .freeze _ _ _,_,_=>False
 | .frozen a k,h,K=>wpS P (k (oh h a)) h K
 | .getObj r k,h,K=>match h[r]? with
  |some (.cells ..)=>False
  |some o=>wpS P (k o) h K
  |none=>False
 | .setObj r o k,h,K=>match h[r]? with
  |some (.cells ..)=>False
  |some _=>wpS P k (h.setIfInBounds r o) K
  |none=>False
 | .choose q k,h,K=>if q.forced then wpS P (k 0) h K else ∀t,wpS P (k (q.cut t)) h K
 | .sys _ _,_,_=>False
 | .program k,h,K=>wpS P (k P) h K
 | .mark _ k,h,K=>wpS P k h K
 | .halt _,_,_=>False
theorem sA{P:Program}{α:Type}{s:Sem α}:∀{h:aa}{K:α->aa->Prop},wpS P s h K->∀w:World,w.heap=h->
  ∃a w',s.run P w=.ok a w'/\cU w w'/\K a w'.heap:=by
 induction s with
 |pure a=>intro h K hk w hw;subst hw;exact⟨a,w,rfl,.refl w,hk⟩
 | load m a k ih=>
  intro h K hk w hw;subst hw;simp only[wpS]at hk;split at hk
  ·rename_i v hv;obtain⟨x,w',hr,hs,hK⟩:=ih v hk w rfl;refine⟨x,w',?_,hs,hK⟩;simp only[Sem.run,Ck,hv];exact hr
  ·exact hk.elim
 |store m a v k ih=>
  intro h K hk w hw;subst hw;obtain⟨hp,hc,hf,hk⟩:=hk;obtain⟨x,w',hr,hs,hK⟩:=ih hk (w.setCell a v) rfl;refine⟨x,w',?_,⟨hs.os,hs.output,hs.tape,hs.drawn⟩,hK⟩;obtain⟨u,hu⟩:=Option.isSome_iff_exists.1 hc;rw[<-Ck]at hu;rw[<-W9]at hf;cases v<;>simp_all [Sem.run,plainCell]
 |new o k ih=>
  intro h K hk w hw;subst hw;obtain⟨x,w',hr,hs,hK⟩:=ih _ hk {w with heap:=w.heap.push o} rfl;exact⟨x,w',hr,⟨hs.os,hs.output,hs.tape,hs.drawn⟩,hK⟩
 |shape r k ih=>intro h K hk w hw;subst hw;exact ih _ hk w rfl
 |freeze a n k ih=>intro h K hk;exact hk.elim
 |frozen a k ih=>intro h K hk w hw;subst hw;exact ih _ hk w rfl
 | getObj r k ih=>
  intro h K hk w hw;subst hw;simp only[wpS]at hk;split at hk
  ·exact hk.elim
  ·rename_i o hno ho;obtain⟨x,w',hr,hs,hK⟩:=ih o hk w rfl;refine⟨x,w',?_,hs,hK⟩;simp only[Sem.run,ho];cases o<;>first |exact hr|exact(hno _ _ _ rfl).elim
  ·exact hk.elim
 | setObj r o k ih=>
  intro h K hk w hw;subst hw;simp only[wpS]at hk;split at hk
  ·exact hk.elim
  ·rename_i o' hno ho;obtain⟨x,w',hr,hs,hK⟩:=ih hk {w with heap:=w.heap.setIfInBounds r o} rfl;refine⟨x,w',?_,⟨hs.os,hs.output,hs.tape,hs.drawn⟩,hK⟩;simp only[Sem.run,ho];cases o'<;>first |exact hr|exact(hno _ _ _ rfl).elim
  ·exact hk.elim
 | choose q k ih=>
  intro h K hk w hw;subst hw;simp only[wpS]at hk;split at hk
  ·rename_i hq;obtain⟨x,w',hr,hs,hK⟩:=ih _ hk w rfl;exact⟨x,w',by simp only[Sem.run,hq,if_true];exact hr,hs,hK⟩
  ·rename_i hq;obtain⟨x,w',hr,hs,hK⟩:=ih _ (hk (w.tape w.drawn q)) {w with drawn:=w.drawn+1} rfl;refine⟨x,w',?_,⟨hs.os,hs.output,hs.tape,Nat.le_trans (Nat.le_succ _) hs.drawn⟩,hK⟩;simp only[Sem.run];rw[if_neg hq];exact hr
 |sys c k ih=>intro h K hk;exact hk.elim
 |program k ih=>intro h K hk w hw;subst hw;exact ih _ hk w rfl
 |mark m k ih=>intro h K hk w hw;subst hw;exact ih hk w rfl
 |halt x=>intro h K hk;exact hk.elim
def aT(P:Program){α:Type}:Sem α->aa->Option α
 | .pure a,_=>some a
 | .load _ a k,h=>match hcell h a with
  |some v=>aT P (k v) h
  |none=>none
 | .shape r k,h=>aT P (k (IM h r)) h
 | .frozen a k,h=>aT P (k (oh h a)) h
 | .getObj r k,h=>match h[r]? with
  |some (.cells ..)=>none
  |some o=>aT P (k o) h
  |none=>none
 | .choose q k,h=>if q.forced then aT P (k 0) h else none
 | .program k,h=>aT P (k P) h
 | .mark _ k,h=>aT P k h
 |_,_=>none
theorem om{P:Program}{α:Type}{s:Sem α}:∀{h:aa}{a:α},aT P s h=some a->∀w:World,w.heap=h->s.run P w=.ok a w:=by
 induction s with
 |pure a=>intro h b hk w hw;simp only[aT,Option.some.injEq]at hk;subst hk;rfl
 | load m a k ih=>
  intro h b hk w hw;subst hw;simp only[aT]at hk;split at hk
  ·rename_i v hv;simp only[Sem.run,Ck,hv];exact ih v hk w rfl
  ·cases hk
 |store m a v k ih=>intro h b hk;cases hk
 |new o k ih=>intro h b hk;cases hk
 |shape r k ih=>intro h b hk w hw;subst hw;exact ih _ hk w rfl
 |freeze a n k ih=>intro h b hk;cases hk
 |frozen a k ih=>intro h b hk w hw;subst hw;exact ih _ hk w rfl
 | getObj r k ih=>
  intro h b hk w hw;subst hw;simp only[aT]at hk;split at hk
  ·cases hk
  ·rename_i o hno ho;have hr:=ih o hk w rfl;simp only[Sem.run,ho];cases o<;>first |exact hr|exact(hno _ _ _ rfl).elim
  ·cases hk
 |setObj r o k ih=>intro h b hk;cases hk
 | choose q k ih=>
  intro h b hk w hw;subst hw;simp only[aT]at hk;split at hk
  ·rename_i hq;simp only[Sem.run,hq,if_true];exact ih _ hk w rfl
  ·cases hk
 |sys c k ih=>intro h b hk;cases hk
 |program k ih=>intro h b hk w hw;subst hw;exact ih _ hk w rfl
 |mark m k ih=>intro h b hk w hw;subst hw;exact ih hk w rfl
 |halt x=>intro h b hk;cases hk
theorem gb{P:Program}{α β:Type}{s:Sem α}{f:α->Sem β}:∀{h:aa}{K:β->aa->Prop},
  wpS P s h (λa h'=>wpS P (f a) h' K)->wpS P (s>>=f) h K:=by
 show ∀{h:aa}{K:β->aa->Prop},wpS P s h (λa h'=>wpS P (f a) h' K)->wpS P (Sem.bind s f) h K
 induction s with
 |pure a=>intro h K hk;exact hk
 |load m a k ih=>
  intro h K hk;simp only[wpS,Sem.bind]at hk ⊢;split at hk
  ·rename_i v hv;exact ih v hk
  ·exact hk.elim
 |store m a v k ih=>intro h K hk;exact⟨hk.1,hk.2.1,hk.2.2.1,ih hk.2.2.2⟩
 |new o k ih=>intro h K hk;exact ih _ hk
 |shape r k ih=>intro h K hk;exact ih _ hk
 |freeze a n k ih=>intro h K hk;exact hk.elim
 |frozen a k ih=>intro h K hk;exact ih _ hk
 |getObj r k ih=>
  intro h K hk;simp only[wpS,Sem.bind]at hk ⊢;split at hk
  ·exact hk.elim
  ·exact ih _ hk
  ·exact hk.elim
 |setObj r o k ih=>
  intro h K hk;simp only[wpS,Sem.bind]at hk ⊢;split at hk
  ·exact hk.elim
  ·exact ih hk
  ·exact hk.elim
 |choose q k ih=>
  intro h K hk;simp only[wpS,Sem.bind]at hk ⊢;split at hk
  ·rename_i hq;simp only[hq,if_true];exact ih _ hk
  ·rename_i hq;rw[if_neg hq];exact λt=>ih _ (hk t)
 |sys c k ih=>intro h K hk;exact hk.elim
 |program k ih=>intro h K hk;exact ih _ hk
 |mark m k ih=>intro h K hk;exact ih hk
 |halt x=>intro h K hk;exact hk.elim
theorem aU{P:Program}{α β:Type}{s:Sem α}{f:α->Sem β}:∀{h:aa}{a:α},
  aT P s h=some a->aT P (s>>=f) h=aT P (f a) h:=by
 show ∀{h:aa}{a:α},aT P s h=some a->aT P (Sem.bind s f) h=aT P (f a) h
 induction s with
 |pure a=>intro h b hk;simp only[aT,Option.some.injEq]at hk;subst hk;rfl
 |load m a k ih=>
  intro h b hk;simp only[aT,Sem.bind]at hk ⊢;split at hk
  ·exact ih _ hk
  ·cases hk
 |store m a v k ih=>intro h b hk;cases hk
 |new o k ih=>intro h b hk;cases hk
 |shape r k ih=>intro h b hk;exact ih _ hk
 |freeze a n k ih=>intro h b hk;cases hk
 |frozen a k ih=>intro h b hk;exact ih _ hk
 |getObj r k ih=>
  intro h b hk;simp only[aT,Sem.bind]at hk ⊢;split at hk
  ·cases hk
  ·exact ih _ hk
  ·cases hk
 |setObj r o k ih=>intro h b hk;cases hk
 |choose q k ih=>
  intro h b hk;simp only[aT,Sem.bind]at hk ⊢;split at hk
  ·rename_i hq;simp only[hq,if_true];exact ih _ hk
  ·cases hk
 |sys c k ih=>intro h b hk;cases hk
 |program k ih=>intro h b hk;exact ih _ hk
 |mark m k ih=>intro h b hk;exact ih hk
 |halt x=>intro h b hk;cases hk
theorem Cl{P:Program}{α:Type}{s:Sem α}:∀{h:aa}{a:α}{K:α->aa->Prop},aT P s h=some a->K a h->wpS P s h K:=by
 induction s with
 |pure a=>intro h b K hk hK;simp only[aT,Option.some.injEq]at hk;subst hk;exact hK
 |load m a k ih=>
  intro h b K hk hK;simp only[aT,wpS]at hk ⊢;split at hk
  ·exact ih _ hk hK
  ·cases hk
 |store m a v k ih=>intro h b K hk;cases hk
 |new o k ih=>intro h b K hk;cases hk
 |shape r k ih=>intro h b K hk hK;exact ih _ hk hK
 |freeze a n k ih=>intro h b K hk;cases hk
 |frozen a k ih=>intro h b K hk hK;exact ih _ hk hK
 |getObj r k ih=>
  intro h b K hk hK;simp only[aT,wpS]at hk ⊢;split at hk
  ·cases hk
  ·exact ih _ hk hK
  ·cases hk
 |setObj r o k ih=>intro h b K hk;cases hk
 |choose q k ih=>
  intro h b K hk hK;simp only[aT,wpS]at hk ⊢;split at hk
  ·rename_i hq;simp only[hq,if_true];exact ih _ hk hK
  ·cases hk
 |sys c k ih=>intro h b K hk;cases hk
 |program k ih=>intro h b K hk hK;exact ih _ hk hK
 |mark m k ih=>intro h b K hk hK;exact ih hk hK
 |halt x=>intro h b K hk;cases hk
theorem nE{P:Program}{α:Type}{s:Sem α}:∀{h:aa}{K K':α->aa->Prop},(∀a h,K a h->K' a h)->wpS P s h K->wpS P s h K':=by
 induction s with
 |pure a=>intro h K K' hm hk;exact hm _ _ hk
 |load m a k ih=>
  intro h K K' hm hk;simp only[wpS]at hk ⊢;split at hk
  ·exact ih _ hm hk
  ·exact hk
 |store m a v k ih=>intro h K K' hm hk;exact⟨hk.1,hk.2.1,hk.2.2.1,ih hm hk.2.2.2⟩
 |new o k ih=>intro h K K' hm hk;exact ih _ hm hk
 |shape r k ih=>intro h K K' hm hk;exact ih _ hm hk
 |freeze a n k ih=>intro h K K' hm hk;exact hk.elim
 |frozen a k ih=>intro h K K' hm hk;exact ih _ hm hk
 |getObj r k ih=>
  intro h K K' hm hk;simp only[wpS]at hk ⊢;split at hk
  ·exact hk
  ·exact ih _ hm hk
  ·exact hk
 |setObj r o k ih=>
  intro h K K' hm hk;simp only[wpS]at hk ⊢;split at hk
  ·exact hk
  ·exact ih hm hk
  ·exact hk
 |choose q k ih=>
  intro h K K' hm hk;simp only[wpS]at hk ⊢;split at hk
  ·rename_i hq;simp only[hq,if_true];exact ih _ hm hk
  ·rename_i hq;rw[if_neg hq];exact λt=>ih _ hm (hk t)
 |sys c k ih=>intro h K K' hm hk;exact hk.elim
 |program k ih=>intro h K K' hm hk;exact ih _ hm hk
 |mark m k ih=>intro h K K' hm hk;exact ih hm hk
 |halt x=>intro h K K' hm hk;exact hk.elim
open Go
def iS(P:Program)(f:FuncId):Bool:=
 match P.funcs[f]? with
 |some fn=>fn.body.isSome&& !(fn.name== "runtime.NumGoroutine")
 |none=>false
def Cm(P:Program)(f:FuncId)(args:Array Value)(h:aa)(K:KT):Prop:=
 ∀w:World,w.heap=h->CallsIn Fence.wide 0 P f args w (λe w'=>∃v,e=.returned v/\cU w w'/\K v w'.heap)
def aE(P:Program)(f:FuncId)(args:Array Value)(h:aa)(K:KT):Prop:=
 iS P f=true/\Cm P f args h K
def sB(P:Program)(l:Nat)(f:FuncId)(tmps:Array Value)(assign body:Code)(h:aa)(K:KT):Prop:=
 ∀w:World,w.heap=h->RoundIn Fence.wide 0 P l f tmps assign body w (λe w'=>∃v,e=.returned v/\cU w w'/\K v w'.heap)
def ot(P:Program)(l:Nat)(args:Array Value)(h:aa)(K:KT):Prop:=
 match h[l]? with
 |some (.loop L)=>args.size=L.params.size/\sB P l L.fn ((L.params.zip args).foldl (λtmps(t,a)=>tmps.setIfInBounds t a) L.tmps) L.assign L.body h K
 |_=>False
def aS(P:Program)(v:Value)(args:Array Value)(h:aa)(K:KT):Prop:=
 match v with
 | .func (.func f) first captured=>aE P f (first ++args++captured) h K
 | .func (.yield l) first _=>ot P l (first ++args) h K
 |_=>False
theorem aE.mono{P:Program}{f:FuncId}{args:Array Value}{h:aa}{K K':KT}
  (hc:aE P f args h K) (hm:∀v h,K v h->K' v h):aE P f args h K':=
 ⟨hc.1,λw hw=>(hc.2 w hw).mono λ_ _⟨v,he,hs,hk⟩=>⟨v,he,hs,hm _ _ hk⟩⟩
theorem sB.mono{P:Program}{l:Nat}{f:FuncId}{tmps:Array Value}{assign body:Code}{h:aa}{K K':KT}
  (hc:sB P l f tmps assign body h K) (hm:∀v h,K v h->K' v h):sB P l f tmps assign body h K':=
 λw hw=>(hc w hw).mono λ_ _⟨v,he,hs,hk⟩=>⟨v,he,hs,hm _ _ hk⟩
theorem ot.mono{P:Program}{l:Nat}{args:Array Value}{h:aa}{K K':KT}
  (hc:ot P l args h K) (hm:∀v h,K v h->K' v h):ot P l args h K':=by
 unfold ot at *;split
 ·rename_i L hL;simp only[hL]at hc;exact⟨hc.1,hc.2.mono hm⟩
 ·rename_i hno;split at hc
  ·rename_i L hL;exact(hno _ hL).elim
  ·exact hc
theorem aS.mono{P:Program}{v:Value}{args:Array Value}{h:aa}{K K':KT}
  (hc:aS P v args h K) (hm:∀v h,K v h->K' v h):aS P v args h K':=by
 unfold aS at *;split
 ·exact aE.mono hc hm
 ·exact ot.mono hc hm
 ·rename_i h1 h2;split at hc
  ·exact(h1 _ _ _ rfl).elim
  ·exact(h2 _ _ _ rfl).elim
  ·exact hc
def ah(P:Program)(f:Nat)(args:List Value)(h:aa)(K:KT):Prop:=aS P (.func (.func f) #[] #[]) args.toArray h K
theorem aK{P:Program}{f:Nat}{args:List Value}{h:aa}{K:KT}(hc:aE P f args.toArray h K):ah P f args h K:=by
 show aE P f (#[]++args.toArray++ #[]) h K;simpa using hc
def az(v:Value)(T E:Prop):Prop:=
 match v with
 | .bool true=>T
 | .bool false=>E
 |_=>False
def sC(c a b:Value)(K:Value->Prop):Prop:=
 match c with
 | .bool true=>K a
 | .bool false=>K b
 |_=>False
def af(h:aa)(a:Value)(K:Value->Prop):Prop:=
 match a with
 | .pointer (some ⟨b,o,none⟩)=>(match hcell h ⟨b,o,none⟩with
  |some v=>K v
  |none=>False)
 |_=>False
def gL(h:aa)(b o:Nat):Nat->Option (List Value)
 |0=>some []
 | n+1=>match hcell h ⟨b,o,none⟩with
  |some v=>(match gL h b (o+1) n with
   |some l=>some (v::l)
   |none=>none)
  |none=>none
def aZ(n:Nat)(h:aa)(a:Value)(K:Value->Prop):Prop:=
 match a with
 | .pointer (some ⟨b,o,none⟩)=>(match gL h b o n with
  |some l=>K (.agg l.toArray)
  |none=>False)
 |_=>False
def aJ(v:Value)(K:Value->Prop):Prop:=
 match v with
 | .pointer (some a)=>K (.pointer (some a))
 | .func (.func f) first captured=>K (.func (.func f) first captured)
 | .func (.yield l) first captured=>K (.func (.yield l) first captured)
 |_=>False
def ak(op:BinOp)(x y:Value)(K:Value->Prop):Prop:=
 match op,x,y with
 | .add,.int k a,.int k' b=>k=k'/\K (.int k (k.wrap (a+b)))
 | .sub,.int k a,.int k' b=>k=k'/\K (.int k (k.wrap (a-b)))
 | .mul,.int k a,.int k' b=>k=k'/\K (.int k (k.wrap (a*b)))
 | .quo,.int k a,.int k' b=>k=k'/\b≠0/\K (.int k (k.wrap (a.tdiv b)))
 | .rem,.int k a,.int k' b=>k=k'/\b≠0/\K (.int k (a.tmod b))
 | .and,.int k a,.int k' b=>k=k'/\K (.int k (k.wrap (BitVec.ofInt k.bits a&&& BitVec.ofInt k.bits b).toNat))
 | .or,.int k a,.int k' b=>k=k'/\K (.int k (k.wrap (BitVec.ofInt k.bits a|||BitVec.ofInt k.bits b).toNat))
 | .xor,.int k a,.int k' b=>k=k'/\K (.int k (k.wrap (BitVec.ofInt k.bits a^^^BitVec.ofInt k.bits b).toNat))
 | .andNot,.int k a,.int k' b=>k=k'/\K (.int k (k.wrap (BitVec.ofInt k.bits a&&& ~~~BitVec.ofInt k.bits b).toNat))
 | .shl,.int k a,.int _ b=>0<=b/\K (.int k (k.wrap (a*2^(min b.toNat k.bits))))
 | .shr,.int k a,.int _ b=>0<=b/\K (.int k (a.fdiv (2^(min b.toNat k.bits))))
 | .eql,.int k a,.int k' b=>k=k'/\K (.bool (a==b))
 | .neq,.int k a,.int k' b=>k=k'/\K (.bool (a != b))
 | .lss,.int k a,.int k' b=>k=k'/\K (.bool (a<b))
 | .leq,.int k a,.int k' b=>k=k'/\K (.bool (a<=b))
 | .gtr,.int k a,.int k' b=>k=k'/\K (.bool (a>b))
 | .geq,.int k a,.int k' b=>k=k'/\K (.bool (a>=b))
 | .eql,.string a,.string b=>K (.bool (a.toList==b.toList))
 | .neq,.string a,.string b=>K (.bool !(a.toList==b.toList))
 | .add,.string a,.string b=>a.size+b.size<=9223372036854775807/\K (.string (a++b))
 | .lss,.string a,.string b=>K (.bool (Op.bytesLess a.toList b.toList))
 |_,_,_=>False
inductive qG where
 |bool|ptr|slice|map|func|iface
def bL(neg:Bool)(d:qG)(x y:Value)(K:Value->Prop):Prop:=
 match d,x,y with
 | .bool,.bool a,.bool b=>K (.bool (xor neg (a==b)))
 | .ptr,.pointer none,.pointer b=>K (.bool (xor neg b.isNone))
 | .ptr,.pointer (some _),.pointer none=>K (.bool (xor neg false))
 | .slice,.slice none _ _,.slice b _ _=>K (.bool (xor neg b.isNone))
 | .slice,.slice (some _) _ _,.slice none _ _=>K (.bool (xor neg false))
 | .map,.map none,.map b=>K (.bool (xor neg b.isNone))
 | .map,.map (some _),.map none=>K (.bool (xor neg false))
 | .func,.nilFunc,.nilFunc=>K (.bool (xor neg true))
 | .func,.func (.func _) _ _,.nilFunc=>K (.bool (xor neg false))
 | .iface,.nilIface,.nilIface=>K (.bool (xor neg true))
 | .iface,.iface _ _,.nilIface=>K (.bool (xor neg false))
 |_,_,_=>False
def kA:List Value->Option (List Int)
 | []=>some []
 | .int .i64 a::r=>(match kA r with
  |some l=>some (a::l)
  |none=>none)
 |_=>none
def uV(op:BinOp)(n:Nat)(x y:Value)(K:Value->Prop):Prop:=
 match op,x,y with
 | .eql,.agg xs,.agg ys=>(match kA xs.toList,kA ys.toList with
  |some a,some b=>a.length=n/\b.length=n/\K (.bool (decide (a=b)))
  |_,_=>False)
 | .neq,.agg xs,.agg ys=>(match kA xs.toList,kA ys.toList with
  |some a,some b=>a.length=n/\b.length=n/\K (.bool (!decide (a=b)))
  |_,_=>False)
 |_,_,_=>False
def bS(op:UnOp)(x:Value)(K:Value->Prop):Prop:=
 match op,x with
 | .neg,.int k n=>K (.int k (k.wrap (0-n)))
 | .not,.bool b=>K (.bool !b)
 |_,_=>False
def fR(k:IntKind)(x:Value)(K:Value->Prop):Prop:=
 match x with
 | .int _ n=>K (.int k (k.wrap n))
 |_=>False
def aq(off:Nat)(x:Value)(K:Value->Prop):Prop:=
 match x with
 | .pointer (some ⟨b,o,none⟩)=>K (.pointer (some ⟨b,o+off,none⟩))
 |_=>False
def aW(size:Nat)(x i:Value)(K:Value->Prop):Prop:=
 match x,i with
 | .slice (some ⟨b,o,none⟩) len _,.int _ i=>0<=i/\i<len/\K (.pointer (some ⟨b,o+i.toNat*size,none⟩))
 |_,_=>False
def bV(size len:Nat)(x i:Value)(K:Value->Prop):Prop:=
 match x,i with
 | .pointer (some ⟨b,o,none⟩),.int _ i=>0<=i/\i<len/\K (.pointer (some ⟨b,o+i.toNat*size,none⟩))
 |_,_=>False
def jk(d:Nat):Option Value->Option Int
 |none=>some d
 |some (.int _ i)=>some i
 |some _=>none
def fN(size l m:Nat)(a:Option Addr):Option Addr:=
 if m=l then a else match a with
  |some ⟨b,o,none⟩=>some ⟨b,o+l*size,none⟩
  |x=>x.map (·.add (l*size))
def dY(size:Nat)(x:Value)(lo hi mx:Option Value)(K:Value->Prop):Prop:=
 match x with
 | .slice a len cap=>
  (match jk 0 lo,jk len hi,jk cap mx with
  |some l,some h,some m=>(mx.isSome=true->hi.isSome=true)/\0<=l/\l<=h/\h<=m/\m<=cap/\K (.slice (fN size l.toNat m.toNat a) (h.toNat-l.toNat) (m.toNat-l.toNat))
  |_,_,_=>False)
 |_=>False
def uW(x:Value)(lo hi:Option Value)(K:Value->Prop):Prop:=
 match x with
 | .string s=>
  (match jk 0 lo,jk s.size hi with
  |some l,some h=>0<=l/\l<=h/\h<=s.size/\K (.string (s.extract l.toNat h.toNat))
  |_,_=>False)
 |_=>False
def aX(x:Value)(i:Nat)(K:Value->Prop):Prop:=
 match x with
 | .tuple vs=>(match vs[i]? with
  |some v=>K v
  |none=>False)
 |_=>False
def lV(off:Nat)(x:Value)(K:Value->Prop):Prop:=
 match x with
 | .agg cs=>(match cs[off]? with
  |some v=>K v
  |none=>False)
 |_=>False
def sD(off n:Nat)(x:Value)(K:Value->Prop):Prop:=
 match x with
 | .agg cs=>K (.agg (cs.extract off (off+n)))
 |_=>False
def qH(len:Nat)(x i:Value)(K:Value->Prop):Prop:=
 match x,i with
 | .agg cs,.int _ i=>0<=i/\i<len/\(match cs[i.toNat]? with
  |some v=>K v
  |none=>False)
 |_,_=>False
def ou(size len:Nat)(x i:Value)(K:Value->Prop):Prop:=
 match x,i with
 | .agg cs,.int _ i=>0<=i/\i<len/\K (.agg (cs.extract (i.toNat*size) (i.toNat*size+size)))
 |_,_=>False
def qI(x i:Value)(K:Value->Prop):Prop:=
 match x,i with
 | .string s,.int _ i=>0<=i/\(match s[i.toNat]? with
  |some b=>K (.int .u8 b.toNat)
  |none=>False)
 |_,_=>False
def bx(x:Value)(K:Value->Prop):Prop:=
 match x with
 | .slice _ n _=>K (.int .i64 n)
 |_=>False
def sE(x:Value)(K:Value->Prop):Prop:=
 match x with
 | .string s=>K (.int .i64 s.size)
 |_=>False
def sF(x:Value)(K:Value->Prop):Prop:=
 match x with
 | .slice _ _ c=>K (.int .i64 c)
 |_=>False
def pK(h:aa)(x:Value)(K:Value->Prop):Prop:=
 match x with
 | .map none=>K (.int .i64 0)
 | .map (some r)=>(match h[r]? with
  |some (.map es _)=>K (.int .i64 es.size)
  |_=>False)
 |_=>False
def jD(x y:Value)(K:Value->Prop):Prop:=
 match x,y with
 | .int k a,.int _ b=>K (.int k (if b<a then b else a))
 |_,_=>False
def iH(x y:Value)(K:Value->Prop):Prop:=
 match x,y with
 | .int k a,.int _ b=>K (.int k (if b>a then b else a))
 |_,_=>False
def qJ:Value->Option (Int×Int×Int)
 | .agg cs=>(match cs.toList with
  | [.int .i64 a,.int .i64 b,.int .i64 c]=>some (a,b,c)
  |_=>none)
 |_=>none
def lW(k:Int×Int×Int):List MapEntry->Nat->Option (Option (Nat×Value))
 | [],_=>some none
 |e::es,i=>(match qJ e.key with
  |some k'=>if k=k' then some (some (i,e.val))else lW k es (i+1)
  |none=>none)
def jE(kd:TypeDesc)(k:Value)(es:List MapEntry):Option (Option (Nat×Value)):=
 match kd with
 | .array _ _=>(match qJ k with
  |some k=>lW k es 0
  |none=>none)
 |kd=>Instr.findNow kd k es 0
theorem yH{q:IntKind}{k:Value}{es:List MapEntry}:jE (.int q) k es=Instr.findNow (.int q) k es 0:=rfl
def de(kd:TypeDesc)(zero:Value)(ok:Bool)(h:aa)(m k:Value)(K:Value->Prop):Prop:=
 match m with
 | .map none=>(match jE kd k []with
  |some _=>K (if ok then .tuple #[zero,.bool false]else zero)
  |none=>False)
 | .map (some r)=>(match h[r]? with
  |some (.map es _)=>(match jE kd k es.toList with
   |some (some (_,v))=>K (if ok then .tuple #[v,.bool true]else v)
   |some none=>K (if ok then .tuple #[zero,.bool false]else zero)
   |none=>False)
  |_=>False)
 |_=>False
def fC(cs:List Value):List (Nat×Nat×Value)->List Value
 | []=>cs
 |(off,_,v)::r=>fC (cs.take off++v.cells.toList++cs.drop (off+v.cells.size)) r
def kW(n:Nat):List (Nat×Nat×Value)->Prop
 | []=>True
 |(off,size,v)::r=>v.cells.size=size/\off+size<=n/\kW n r
def aP(zero:List Value)(parts:List (Nat×Nat×Value))(K:Value->Prop):Prop:=
 kW zero.length parts/\K (.agg (fC zero parts).toArray)
def aB(t:TypeId)(v:Value)(h:aa)(K:KT):Prop:=
 K (.pointer (some ⟨h.size,0,none⟩)) (h.push (.cells v.cells t (0,0)))
def cz(t:TypeId)(zero:List Value)(parts:List (Nat×Nat×Value))(len:Nat)(h:aa)(K:KT):Prop:=
 kW zero.length parts/\K (.slice (some ⟨h.size,0,none⟩) len len) (h.push (.cells (fC zero parts).toArray t (0,0)))
def c9(t:TypeId)(bytes:Nat)(zero:List Value)(len cap:Value)(h:aa)(K:KT):Prop:=
 match len,cap with
 | .int _ l,.int _ c=>0<=l/\l<=c/\bytes*c<=2^48/\c<2^63/\
   K (.slice (some ⟨h.size,0,none⟩) l.toNat c.toNat) (h.push (.cells (List.replicate c.toNat zero).flatten.toArray t (0,0)))
 |_,_=>False
def bp(h:aa)(K:KT):Prop:=K (.map (some h.size)) (h.push (.map #[] 0))
def kX(h:aa)(b o:Nat):List Value->(aa->Prop)->Prop
 | [],K=>K h
 |v::r,K=>plainCell v=true/\(hcell h ⟨b,o,none⟩).isSome=true/\oh h ⟨b,o,none⟩=false/\kX (e8 h ⟨b,o,none⟩ v) b (o+1) r K
def aC(n:Nat)(a v:Value)(h:aa)(K:KT):Prop:=
 match a with
 | .pointer (some ⟨b,o,none⟩)=>v.cells.size=n/\kX h b o v.cells.toList (K undef)
 |_=>False
def gM(h:aa)(size n:Nat):Option Addr->Option (List Value)
 |none=>some []
 |some ⟨b,o,none⟩=>gL h b o (n*size)
 |_=>none
def bO(zero:List Value)(n:Nat):List Value:=(List.replicate n zero).flatten
def cZ (t:TypeId) (size bytes:Nat) (zero:List Value) (s x:Value) (h:aa) (K:KT):Prop:=
 match s,x with
 | .slice base sLen sCap,.slice a n _=>
  (match gM h size n a with
  | some new=>
   if sLen+n<=sCap then
    (match base with
    |some ⟨b,o,none⟩=>kX h b (o+sLen*size) new (K (.slice base (sLen+n) sCap))
    |none=>K (.slice none (sLen+n) sCap) h
    |_=>False)
   else
    (match gM h size sLen base with
    | some old=>Builtin.nextslicecap (sLen+n) sCap*bytes<=2^48/\sLen+n<2^63/\
      ∀c,sLen+n<=c->c<2^63->K (.slice (some ⟨h.size,0,none⟩) (sLen+n) c) (h.push (.cells (old++new++bO zero (c-(sLen+n))).toArray t (0,0)))
    |none=>False)
  |none=>False)
 |_,_=>False
def sG(zero:List Value)(x:Value)(h:aa)(K:KT):Prop:=
 match x with
 | .slice none _ _=>K (.tuple #[]) h
 | .slice (some ⟨b,o,none⟩) n _=>(match n with
  |0=>K (.tuple #[]) h
  |m+1=>kX h b o (bO zero (m+1)) (K (.tuple #[])))
 |_=>False
def yI (t:TypeId) (size bytes:Nat) (zero:List Value) (s x:Value) (h:aa) (K:KT):Prop:=
 match s,x with
 | .slice base sLen sCap,.int .i64 l=>0<=l/\l<2^63/\l*bytes<=2^48/\
   if sLen+l.toNat<=sCap then
    (match base with
    |some ⟨b,o,none⟩=>kX h b (o+sLen*size) (bO zero l.toNat) (K (.slice base (sLen+l.toNat) sCap))
    |none=>K (.slice none (sLen+l.toNat) sCap) h
    |_=>False)
   else
    (match gM h size sLen base with
    | some old=>Builtin.nextslicecap (sLen+l.toNat) sCap*bytes<=2^48/\sLen+l.toNat<2^63/\
      ∀c,sLen+l.toNat<=c->c<2^63->K (.slice (some ⟨h.size,0,none⟩) (sLen+l.toNat) c) (h.push (.cells (old++bO zero l.toNat++bO zero (c-(sLen+l.toNat))).toArray t (0,0)))
    |none=>False)
 |_,_=>False
def jl(size:Nat)(d x:Value)(h:aa)(K:KT):Prop:=
 match d,x with
 | .slice base dLen _,.slice a n _=>
  (match gM h size (Nat.min n dLen) a with
  |some new=>(match base with
   |some ⟨b,o,none⟩=>kX h b o new (K (.int .i64 (Nat.min n dLen)))
   |none=>K (.int .i64 (Nat.min n dLen)) h
   |_=>False)
  |none=>False)
 |_,_=>False
def dQ(kd:TypeDesc)(m k v:Value)(h:aa)(K:KT):Prop:=
 match m with
 | .map (some r)=>(match h[r]? with
  |some (.map es clock)=>(match jE kd k es.toList with
   |some (some (i,_))=>K undef (h.setIfInBounds r (.map (es.modify i λe=>{e with key:=k,val:=v}) clock))
   |some none=>K undef (h.setIfInBounds r (.map (es.push {key:=k,val:=v,born:=clock}) (clock+1)))
   |none=>False)
  |_=>False)
 |_=>False
def j8(kd:TypeDesc)(zero:Value)(m k:Value)(h:aa)(K:KT):Prop:=
 match m with
 | .map (some r)=>(match h[r]? with
  |some (.map es clock)=>(match jE kd k es.toList with
   |some (some (i,v))=>K (.tuple #[v,.int .i64 (((es[i]?).map (·.born)).getD 0)]) (h.setIfInBounds r (.map (es.modify i λe=>{e with key:=k}) clock))
   |some none=>K (.tuple #[zero,.int .i64 clock]) (h.setIfInBounds r (.map (es.push {key:=k,val:=zero,born:=clock}) (clock+1)))
   |none=>False)
  |_=>False)
 |_=>False
def jF(m s v:Value)(h:aa)(K:KT):Prop:=
 match m,s with
 | .map (some r),.int _ n=>(match h[r]? with
  |some (.map es clock)=>(match es.findIdx? (λe=>(e.born:Int)==n)with
   |some i=>K undef (h.setIfInBounds r (.map (es.modify i λe=>{e with val:=v}) clock))
   |none=>False)
  |_=>False)
 |_,_=>False
def qK(kd:TypeDesc)(m k:Value)(h:aa)(K:KT):Prop:=
 match m with
 | .map none=>(match jE kd k []with
  |some _=>K (.tuple #[]) h
  |none=>False)
 | .map (some r)=>(match h[r]? with
  |some (.map es clock)=>(match jE kd k es.toList with
   |some (some (i,_))=>K (.tuple #[]) (h.setIfInBounds r (.map (es.eraseIdxIfInBounds i) clock))
   |some none=>K (.tuple #[]) (h.setIfInBounds r (.map es clock))
   |none=>False)
  |_=>False)
 |_=>False
def yJ(m:Value)(h:aa)(K:KT):Prop:=
 match m with
 | .map none=>K (.pointer (some ⟨h.size,0,none⟩)) (h.push (.mapIter none 0 #[] 0))
 | .map (some b)=>(match h[b]? with
  |some (.map _ clock)=>K (.pointer (some ⟨h.size,0,none⟩)) (h.push (.mapIter (some b) clock #[] clock))
  |_=>False)
 |_=>False
def Cn(es:Array MapEntry)(seen:Array Nat):Array MapEntry:=es.filter λe=> !seen.contains e.born
def yK (it:Value) (h:aa) (K:KT):Prop:=
 match it with
 | .pointer (some ⟨r,0,none⟩)=>(match h[r]? with
  |some (.mapIter none _ _ _)=>K (.tuple #[.bool false]) h
  | some (.mapIter (some m) since seen last)=>(match h[m]? with
   |some (.map es clock)=>(!seen.isEmpty&& !es.isEmpty&&es.all (λe=>e.born>=last))=false/\
    (∀e∈Cn es seen,K (.tuple #[.bool true,e.key,e.val]) (h.setIfInBounds r (.mapIter (some m) since (seen.push e.born) clock)))/\
    (((Cn es seen).filter λe=>e.born<since).isEmpty=true->K (.tuple #[.bool false]) h)
   |_=>False)
  |_=>False)
 |_=>False
def sH (it:Value) (h:aa) (K:Value->Prop):Prop:=
 match it with
 | .pointer (some ⟨r,0,none⟩)=>(match h[r]? with
  | some (.mapIter (some m) _ seen stepped)=>(match seen.back?,h[m]? with
   |some stamp,some (.map es clock)=>clock=stepped/\(match es.find? λe=>e.born==stamp with
    |some e=>K (.tuple #[e.key,e.val])
    |none=>False)
   |_,_=>False)
  |_=>False)
 |_=>False
def sJ:List Value->ByteArray->Option ByteArray
 | [],s=>some s
 | .int .u8 n::r,s=>sJ r (s.push (UInt8.ofNat n.toNat))
 |_::_,_=>none
def qL(h:aa)(x:Value)(K:Value->Prop):Prop:=
 match x with
 | .slice none _ _=>K (.string .empty)
 | .slice (some ⟨b,o,none⟩) len _=>(match gL h b o len with
  |some l=>(match sJ l .empty with
   |some s=>K (.string s)
   |none=>False)
  |none=>False)
 |_=>False
def yL(d x:Value)(h:aa)(K:KT):Prop:=
 match d,x with
 | .slice base dLen _,.string s=>
  (match base with
   |some ⟨b,o,none⟩=>kX h b o ((s.extract 0 (Nat.min s.size dLen)).data.map λb=>Value.int .u8 b.toNat).toList (K (.int .i64 (Nat.min s.size dLen)))
   |none=>K (.int .i64 (Nat.min s.size dLen)) h
   |_=>False)
 |_,_=>False
open Go
section
variable{P:Program}{h:aa}
theorem cM{t:TypeId}{d:TypeDesc}(hd:P.underlying t=some d):aT P (underlying t) h=some d:=by
 simp[underlying,program,bind,Sem.bind,aT,hd,pure]
theorem nF{t:TypeId}{i:TypeInfo}(hi:P.info? t=some i):aT P (typeInfo t) h=some i:=by
 simp[typeInfo,program,bind,Sem.bind,aT,hi,pure]
theorem ic{t:TypeId}{i:TypeInfo}(hi:P.info? t=some i):aT P (sizeOf t) h=some i.size:=by
 unfold sizeOf;rw[aU (nF hi)];rfl
theorem mM{t:TypeId}{i:TypeInfo}{z:Value}(hi:P.info? t=some i)(hz:i.zero=some z):aT P (zeroValue t) h=some z:=by
 unfold zeroValue;rw[aU (nF hi)];simp[hz,aT,pure]
theorem IN{a:Addr}{v:Value}(hv:hcell h a=some v):aT P (load a) h=some v:=by
 simp[load,aT,hv]
theorem pL(b o n:Nat):(⟨b,o,none⟩:Addr).add n=⟨b,o+n,none⟩:=by
 unfold Addr.add;split
 ·subst_vars;rfl
 ·rfl
theorem IP{b o:Nat}:∀(n i:Nat)(acc:Array Value){l:List Value},gL h b (o+i) n=some l->
  aT P (loadCellsFrom ⟨b,o,none⟩ i n acc) h=some (acc++l.toArray)
 |0,i,acc,l,hl=>by
  simp only[gL,Option.some.injEq]at hl;subst hl;simp[loadCellsFrom,aT,pure]
 | n+1,i,acc,l,hl=>by
  simp only[gL]at hl;split at hl
  ·rename_i v hv;split at hl
   ·rename_i l' hl';simp only[Option.some.injEq]at hl;subst hl;unfold loadCellsFrom;rw[aU (IN (by rw[pL];exact hv))];rw[IP n (i+1) (acc.push v) (l:=l') (by rw[<-Nat.add_assoc];exact hl')];simp
   ·cases hl
  ·cases hl
theorem Co{b o n:Nat}{l:List Value}(hl:gL h b o n=some l):aT P (loadCells ⟨b,o,none⟩ n) h=some l.toArray:=by
 unfold loadCells;rw[IP n 0 #[] (by simpa using hl)];simp
theorem gX{α:Type}(a:α):aT P (pure a:Sem α) h=some a:=rfl
end
def jG:TypeDesc->Bool
 | .struct _| .array _ _=>true
 |_=>false
def Cp:TypeDesc->Bool
 | .int _| .string| .bool=>true
 |_=>false
def lX(P:Program):TypeDesc->Bool
 | .array n e=>Nat.beq n 3&&(match P.underlying e,P.info? e with
  |some (.int .i64),some i=>Nat.beq i.size 1
  |_,_=>false)
 |d=>Cp d
def Cq:TypeDesc->Option qG
 | .bool=>some .bool
 | .pointer _=>some .ptr
 | .slice _=>some .slice
 | .map _ _=>some .map
 | .func _ _ _=>some .func
 | .interface _=>some .iface
 |_=>none
def Xa(P:Program):Option TypeId->Bool
 |some t=>(match P.underlying t with
  |some .string=>true
  |_=>false)
 |none=>false
def sK:Operand->Bool
 | .const _=>true
 |_=>false
def IQ:qG->Bool
 | .iface=>true
 |_=>false
def uX(d:TypeDesc)(op:BinOp)(lit:Bool)(x y:Value)(K:Value->Prop):Prop:=
 match Cq d with
 | some k=>(match IQ k&& !lit with
  |true=>False
  |false=>(match op with
   | .eql=>bL false k x y K
   | .neq=>bL true k x y K
   |_=>False))
 |none=>ak op x y K
def yM(P:Program):List Field->Nat->Bool
 | [],_=>true
 |f::r,i=>Nat.beq f.offset i&&(!(f.name== "_")&&((match P.underlying f.type with
  |some (.int .i64)=>true
  |_=>false)&&yM P r (i+1)))
def uY(P:Program)(t:TypeId)(fs:Array Field):Bool:= !P.stoodInHeld t&&(!P.eqGuardType P.depth t&&yM P fs.toList 0)
def pM(place:Nat->Option (Nat×Nat)):List (Nat×Value)->Option (List (Nat×Nat×Value))
 | []=>some []
 | (i,v)::r=>match place i with
  |some (off,size)=>(match pM place r with
   |some l=>some ((off,size,v)::l)
   |none=>none)
  |none=>none
def ig (P:Program) (ρ:Operand->Value) (op:Op) (h:aa) (K:Value->Prop):Prop:=
 match op with
 | .move x| .assign x=>K (ρ x)
 | .pick c a b=>sC (ρ c) (ρ a) (ρ b) K
 | .load t a=>(match P.underlying t,P.info? t with
  |some d,some i=>(match jG d with
   |true=>aZ i.size h (ρ a) K
   |false=>af h (ρ a) K)
  |_,_=>False)
 | .nilCheck x=>aJ (ρ x) K
 | .binOp op t x y _=>(match P.underlying t with
  |some (.struct fs)=>(match uY P t fs with
   |true=>uV op fs.size (ρ x) (ρ y) K
   |false=>False)
  |some d=>uX d op (sK y) (ρ x) (ρ y) K
  |none=>False)
 | .unOp op _ x=>bS op (ρ x) K
 | .convert s d x=>(match P.underlying s,P.underlying d with
  |some _,some (.int k)=>fR k (ρ x) K
  |some (.slice e),some .string=>(match P.underlying e with
   |some (.int .u8)=>qL h (ρ x) K
   |_=>False)
  |_,_=>False)
 | .entry it=>sH (ρ it) h K
 | .makeInterface t x=>(match P.underlying t with
  |some (.interface _)=>False
  |some _=>K (.iface t (ρ x))
  |none=>False)
 | .makeFunc fn first captured=>K (.func fn (first.toList.map ρ).toArray (captured.toList.map ρ).toArray)
 | .slice t x lo hi mx=>(match P.underlying t with
  |some (.slice e)=>(match P.info? e with
   |some i=>dY i.size (ρ x) (lo.map ρ) (hi.map ρ) (mx.map ρ) K
   |none=>False)
  |some .string=>(match mx with
   |none=>uW (ρ x) (lo.map ρ) (hi.map ρ) K
   |some _=>False)
  |_=>False)
 | .fieldAddr s x f=>(match P.underlying s with
  | some (.struct fs)=>(match fs[f]? with
   | some fd=>(match P.info? fd.type with
    |some i=>(match i.size with
     |0=>False
     |_+1=>aq fd.offset (ρ x) K)
    |none=>False)
   |none=>False)
  |_=>False)
 | .field t x f=>(match P.underlying t with
  | some (.struct fs)=>(match fs[f]? with
   | some fd=>(match P.underlying fd.type,P.info? fd.type with
    |some d,some i=>(match jG d with
     |true=>sD fd.offset i.size (ρ x) K
     |false=>lV fd.offset (ρ x) K)
    |_,_=>False)
   |none=>False)
  |_=>False)
 | .indexAddr t x i=>(match P.underlying t with
  |some (.slice e)=>(match P.info? e with
   |some info=>aW info.size (ρ x) (ρ i) K
   |none=>False)
  |some (.array n e)=>(match P.info? e with
   |some info=>bV info.size n (ρ x) (ρ i) K
   |none=>False)
  |_=>False)
 | .index t x i=>(match P.underlying t with
  | some (.array n e)=>(match P.underlying e,P.info? e with
   | some d,some info=>(match jG d with
    |true=>ou info.size n (ρ x) (ρ i) K
    |false=>(match Nat.beq info.size 1 with
     |true=>qH n (ρ x) (ρ i) K
     |false=>False))
   |_,_=>False)
  |some .string=>qI (ρ x) (ρ i) K
  |_=>False)
 | .lookup t m k ok=>(match P.underlying t with
  | some (.map kt et)=>(match P.underlying kt,P.info? et with
   |some kd,some g=>(match lX P kd,g.zero with
    |true,some z=>de kd z ok h (ρ m) (ρ k) K
    |_,_=>False)
   |_,_=>False)
  |_=>False)
 | .extract x i=>aX (ρ x) i K
 | .build t parts=>(match P.underlying t,P.info? t with
  | some (.struct fs),some i=>(match i.zero with
   |some z=>(match pM ((fs.toList.map λf=>(f.offset,P.cellsOf f.type))[·]?) (parts.toList.map λ(j,x)=>(j,ρ x)),fs.toList.all (λf=>(P.info? f.type).isSome)with
    |some ps,true=>aP z.cells.toList ps K
    |_,_=>False)
   |none=>False)
  |some (.array _ e),some i=>(match i.zero,P.info? e with
   |some z,some g=>aP z.cells.toList (parts.toList.map λ(j,x)=>(j*g.size,g.size,ρ x)) K
   |_,_=>False)
  |_,_=>False)
 | .call c=>(match c.callee with
  | .builtin .len=>(match c.argTypes[0]?,c.args[0]? with
   |some t,some x=>(match P.underlying t with
    |some (.slice _)=>bx (ρ x) K
    |some .string=>sE (ρ x) K
    |some (.map _ _)=>pK h (ρ x) K
    |some (.array n _)=>K (.int .i64 n)
    |_=>False)
   |_,_=>False)
  | .builtin .cap=>(match c.argTypes[0]?,c.args[0]? with
   |some t,some x=>(match P.underlying t with
    |some (.slice _)=>sF (ρ x) K
    |_=>False)
   |_,_=>False)
  | .builtin .min=>(match c.args.toList with
   | [x,y]=>jD (ρ x) (ρ y) K
   | [x,y,z]=>jD (ρ x) (ρ y) λu=>jD u (ρ z) K
   |_=>False)
  | .builtin .max=>(match c.args.toList with
   | [x,y]=>iH (ρ x) (ρ y) K
   | [x,y,z]=>iH (ρ x) (ρ y) λu=>iH u (ρ z) K
   |_=>False)
  |_=>False)
 |_=>False
open Go
section
variable{P:Program}{h:aa}
theorem rdv{s:Sem Value}{v:Value}(hv:aT P s h=some v):aT P (do pure (Next.value (<-s)):Sem Next) h=some (.value v):=by
 rw[aU hv];rfl
theorem pN{t:TypeId}{d:TypeDesc}(hd:P.underlying t=some d):aT P (isAgg t) h=some (jG d):=by
 unfold isAgg;rw[aU (cM hd)];cases d<;>rfl
theorem IS{t:TypeId}{d:TypeDesc}{i:TypeInfo}{a:Value}{K:Value->Prop}(hd:P.underlying t=some d)(hi:P.info? t=some i)
  (hq:match jG d with
   |true=>aZ i.size h a K
   |false=>af h a K):∃v,aT P (Instr.loadAt t a) h=some v/\K v:=by
 cases had:jG d with
 | false=>
  simp only[had]at hq;unfold af at hq;split at hq
  ·rename_i b o;split at hq
   ·rename_i v hv;refine⟨v,?_,hq⟩;unfold Instr.loadAt;rw[aU (a:=⟨b,o,none⟩) (by simp[Instr.sureAddr,aT,pure])];unfold loadVar;rw[aU (pN hd),had];exact IN hv
   ·exact hq.elim
  ·exact hq.elim
 | true=>
  simp only[had]at hq;unfold aZ at hq;split at hq
  ·rename_i b o;split at hq
   ·rename_i l hl;refine⟨_,?_,hq⟩;unfold Instr.loadAt;rw[aU (a:=⟨b,o,none⟩) (by simp[Instr.sureAddr,aT,pure])];unfold loadVar;rw[aU (pN hd),had];simp only[if_true];rw[aU (ic hi),aU (Co hl)];rfl
   ·exact hq.elim
  ·exact hq.elim
theorem Xb{op:BinOp}{t:TypeId}{x y:Value}{K:Value->Prop}(hq:ak op x y K):∃v,aT P (binOp op t x y) h=some v/\K v:=by
 cases x<;>cases y<;>cases op<;>simp only[ak]at hq<;>
  first
   |exact hq.elim
   |(obtain⟨rfl,hb,hk⟩:=hq;exact⟨_,by simp[binOp,Op.intDiv,aT,pure,hb],hk⟩)
   |(obtain⟨rfl,hk⟩:=hq;exact⟨_,by simp[binOp,Op.intArith,Op.intCmp,Op.intBits,aT,pure],hk⟩)
   |(obtain⟨hb,hk⟩:=hq;exact⟨_,by simp only[binOp,Op.shift];rw[if_neg (by omega)];rfl,hk⟩)
   |exact⟨_,by simp[binOp,Op.stringOp,aT,pure],hq⟩
   |(obtain⟨hb,hk⟩:=hq;exact⟨_,by simp only[binOp,Op.stringOp];rw[if_neg (by rw[show IntKind.i64.max=9223372036854775807 by decide];omega)];rfl,hk⟩)
theorem IT{op:BinOp}{t:TypeId}{x y:Operand}{a b:Value}(ha:∀cs,a≠ .agg cs)(hn:¬(a=.nilIface/\b=.nilIface)):
  aT P (eqGuard op t x y a b) h=some ():=by
 unfold eqGuard;cases op<;>simp[aT,pure]<;>
 ·cases a<;>cases b<;>first |rfl|(exact(ha _ rfl).elim)|(exact(hn ⟨rfl,rfl⟩).elim)
theorem Xc{op:BinOp}{t:TypeId}{x y:Operand}{a b:Value}(ha:∀cs,a≠ .agg cs)(hl:sK y=true):
  aT P (eqGuard op t x y a b) h=some ():=by
 unfold eqGuard;cases y<;>simp[sK]at hl;cases op<;>simp[aT,pure]<;>
 ·cases a<;>cases b<;>first |rfl|(exact(ha _ rfl).elim)
theorem Xd{op:BinOp}{x y:Value}{K:Value->Prop}(hq:ak op x y K):(∀cs,x≠ .agg cs)/\x≠ .nilIface:=by
 constructor
 ·rintro cs rfl;cases op<;>exact hq.elim
 ·rintro rfl;cases op<;>exact hq.elim
theorem Xe{neg:Bool}{t:TypeId}{d:TypeDesc}{k:qG}{x y:Value}{K:Value->Prop}(hd:P.underlying t=some d)(hk:Cq d=some k)(hq:bL neg k x y K):
  ∃b,aT P (Op.equal t x y) h=some b/\K (.bool (xor neg b)):=by
 unfold bL at hq;split at hq<;>(try exact hq.elim)<;>cases d<;>simp only[Cq,Option.some.injEq,reduceCtorEq]at hk<;>
  (refine⟨_,?_,hq⟩;unfold Op.equal Op.maxDepth Op.equalIn;rw[aU (cM hd)];rfl)
theorem Xf{neg:Bool}{d:qG}{x y:Value}{K:Value->Prop}(hq:bL neg d x y K):(∀cs,x≠ .agg cs)/\(x=.nilIface->d=.iface/\y=.nilIface):=by
 constructor
 ·rintro cs rfl;cases d<;>exact hq.elim
 ·rintro rfl;unfold bL at hq;split at hq<;>simp_all
theorem eq_not{d:qG}{x y:Value}{neg:Bool}{K:Value->Prop}(hq:bL neg d x y K)(op:BinOp)(t:TypeId)(ho:op=.eql\/op=.neq):
  binOp op t x y=(match op with
   | .eql=>do pure (.bool (<-Op.equal t x y))
   |_=>do pure (.bool (!(<-Op.equal t x y)))):=by
 unfold bL at hq;split at hq<;>first
  |exact hq.elim
  |(rcases ho with rfl|rfl<;>rfl)
theorem Xg{size l m:Nat}{a:Option Addr}:(if m=l then a else a.map (·.add (l*size)))=fN size l m a:=by
 unfold fN;split
 ·rfl
 ·split
  ·simp[pL]
  ·rfl
theorem Cr{v:Option Value}{d y:Nat}{code:BoundsCode}{i:Int}(hb:jk d v=some i)(h0:0<=i)(h1:i<=y):
  v=none/\i=d\/∃u,v=some u/\aT P (Instr.sliceBound u y code) h=some i.toNat:=by
 unfold jk at hb;split at hb
 ·simp only[Option.some.injEq]at hb;exact .inl ⟨rfl,hb.symm⟩
 ·rename_i k j;simp only[Option.some.injEq]at hb;subst hb;refine .inr ⟨_,rfl,?_⟩;unfold Instr.sliceBound;rw[aU (a:=(k,j)) (by simp[asIntOf,aT,pure])];simp[h0,h1,aT,pure]
 ·cases hb
theorem IU{b:Bool}{len cap:Nat}{lo hi mx:Option Value}{l hh m:Int}(hl:jk 0 lo=some l)(a:jk len hi=some hh)(hm:jk cap mx=some m)
  (d:mx.isSome=true->hi.isSome=true) (h0:0<=l) (h1:l<=hh) (h2:hh<=m) (h3:m<=cap):
  aT P (Instr.sliceBounds b len cap lo hi mx) h=some (l.toNat,hh.toNat,m.toNat):=by
 have hle:hh<=(m.toNat:Int):=by omega
 have hle2:l<=(hh.toNat:Int):=by omega
 have B:=λ(code:BoundsCode)=>Cr (P:=P) (h:=h) (code:=code) hm (by omega) h3;have C:=λ(code:BoundsCode)=>Cr (P:=P) (h:=h) (code:=code) a (by omega) hle;have D:=λ(code:BoundsCode)=>Cr (P:=P) (h:=h) (code:=code) hl h0 hle2;unfold Instr.sliceBounds;cases mx with
 | none=>
  have em:(m.toNat:Nat)=cap:=by rcases B .index with ⟨_,e⟩|⟨_,e,_⟩<;>simp_all
  cases hi with
  | none=>
   have eh:(hh.toNat:Nat)=len:=by rcases C .index with ⟨_,e⟩|⟨_,e,_⟩<;>simp_all
   cases lo with
   |none=>
    have el:(l.toNat:Nat)=0:=by rcases D .index with ⟨_,e⟩|⟨_,e,_⟩<;>simp_all
    dsimp only;rw[aU (gX _),aU (gX _),aU (gX _),em,eh,el];rfl
   |some u=>
    have hu:∀c,aT P (Instr.sliceBound u hh.toNat c) h=some l.toNat:=λc=>by rcases D c with ⟨e,_⟩|⟨_,e,q⟩<;>simp_all
    dsimp only;rw[aU (gX _),aU (gX _)];rw[eh]at hu ⊢;rw[aU (hu _),em];rfl
  | some v=>
   have hv:∀c,aT P (Instr.sliceBound v m.toNat c) h=some hh.toNat:=λc=>by rcases C c with ⟨e,_⟩|⟨_,e,q⟩<;>simp_all
   rw[em]at hv ⊢;cases lo with
   |none=>
    have el:(l.toNat:Nat)=0:=by rcases D .index with ⟨_,e⟩|⟨_,e,_⟩<;>simp_all
    dsimp only;rw[aU (gX _),aU (hv _),aU (gX _),el];rfl
   |some u=>
    have hu:∀c,aT P (Instr.sliceBound u hh.toNat c) h=some l.toNat:=λc=>by rcases D c with ⟨e,_⟩|⟨_,e,q⟩<;>simp_all
    dsimp only;rw[aU (gX _),aU (hv _),aU (hu _)];rfl
 | some x=>
  have hx:∀c,aT P (Instr.sliceBound x cap c) h=some m.toNat:=λc=>by rcases B c with ⟨e,_⟩|⟨_,e,q⟩<;>simp_all
  cases hi with
  |none=>simp at d
  | some v=>
   have hv:∀c,aT P (Instr.sliceBound v m.toNat c) h=some hh.toNat:=λc=>by rcases C c with ⟨e,_⟩|⟨_,e,q⟩<;>simp_all
   cases lo with
   |none=>
    have el:(l.toNat:Nat)=0:=by rcases D .index with ⟨_,e⟩|⟨_,e,_⟩<;>simp_all
    dsimp only;rw[aU (hx _),aU (hv _),aU (gX _),el];rfl
   |some u=>
    have hu:∀c,aT P (Instr.sliceBound u hh.toNat c) h=some l.toNat:=λc=>by rcases D c with ⟨e,_⟩|⟨_,e,q⟩<;>simp_all
    dsimp only;rw[aU (hx _),aU (hv _),aU (hu _)];rfl
theorem yN{kd:TypeDesc}{k:Value}:∀{es:List MapEntry}{j i:Nat}{v:Value},Instr.findNow kd k es j=some (some (i,v))->
  j<=i/\∃e,es[i-j]? =some e/\e.val=v/\Instr.sameNow kd k e.key=some true
 | [],j,i,v,hf=>by simp[Instr.findNow]at hf
 | e::es,j,i,v,hf=>by
  simp only[Instr.findNow]at hf;split at hf
  ·rename_i hs;simp only[Option.some.injEq,Prod.mk.injEq]at hf;obtain⟨rfl,rfl⟩:=hf;exact⟨Nat.le_refl _,e,by simp,rfl,hs⟩
  ·obtain⟨hle,e',he',hv,hs⟩:=yN hf;refine⟨by omega,e',?_,hv,hs⟩;have :i-j=(i-(j+1))+1:=by omega
   rw[this];simpa using he'
  ·cases hf
theorem sL{k:Value}{a:Int×Int×Int}(hk:qJ k=some a):k=.agg #[.int .i64 a.1,.int .i64 a.2.1,.int .i64 a.2.2]:=by
 unfold qJ at hk;split at hk
 ·rename_i cs;split at hk
  ·rename_i x y z e;cases hk;have :cs= #[.int .i64 x,.int .i64 y,.int .i64 z]:=by apply Array.ext';simpa using e
   rw[this]
  ·cases hk
 ·cases hk
theorem IV{n:Nat}{e:TypeId}(hs:lX P (.array n e)=true):n=3/\P.underlying e=some (.int .i64)/\∃i,P.info? e=some i/\i.size=1:=by
 simp only[lX,Bool.and_eq_true]at hs;obtain⟨h1,h2⟩:=hs;split at h2
 ·rename_i i hu hi;exact⟨Nat.eq_of_beq_eq_true h1,hu,i,hi,Nat.eq_of_beq_eq_true h2⟩
 ·cases h2
theorem sM{e:TypeId}{i:Nat}{cs:Array Value}{v:Value}(hu:P.underlying e=some (.int .i64))(hv:cs[i]? =some v):aT P (part e cs i) h=some v:=by
 unfold part;rw[aU (pN hu)];simp only[jG,Bool.false_eq_true,if_false,hv];rfl
theorem Cs{e:TypeId}{em:Bool}{n:Nat}{x:Int}(hu:P.underlying e=some (.int .i64)):aT P (Instr.checkKey em (n+1) e (.int .i64 x)) h=some ():=by
 unfold Instr.checkKey;rw[aU (cM hu)];rfl
theorem nG{kt:TypeId}{kd:TypeDesc}{em:Bool}{n:Nat}{k:Value}{es:List MapEntry}{r:Option (Nat×Value)}(hd:P.underlying kt=some kd)(hs:lX P kd=true)(hf:jE kd k es=some r):
  aT P (Instr.checkKey em (n+2) kt k) h=some ():=by
 by_cases ha:∃m e,kd=.array m e
 ·obtain⟨m,e,rfl⟩:=ha;obtain⟨rfl,hu,i,hi,h1⟩:=IV hs;simp only[jE]at hf;split at hf
  ·rename_i a hk;rw[sL hk];unfold Instr.checkKey;rw[aU (cM hd)];simp only[Std.Legacy.Range.forIn_eq_forIn_range',Std.Legacy.Range.size,Nat.sub_zero,Nat.add_sub_cancel,Nat.div_one,List.range'_succ,List.range'_zero,List.forIn_cons,List.forIn_nil];have hsz:=ic (h:=h) hi;rw[h1]at hsz;have c0:=Cs (h:=h) (em:=em) (n:=n) (x:=a.1) hu;have c1:=Cs (h:=h) (em:=em) (n:=n) (x:=a.2.1) hu;have c2:=Cs (h:=h) (em:=em) (n:=n) (x:=a.2.2) hu;have b:aT P (part e #[.int .i64 a.1,.int .i64 a.2.1,.int .i64 a.2.2] (0*1)) h=some (.int .i64 a.1):=sM hu rfl;have p1:aT P (part e #[.int .i64 a.1,.int .i64 a.2.1,.int .i64 a.2.2] ((0+1)*1)) h=some (.int .i64 a.2.1):=sM hu rfl;have p2:aT P (part e #[.int .i64 a.1,.int .i64 a.2.1,.int .i64 a.2.2] ((0+1+1)*1)) h=some (.int .i64 a.2.2):=sM hu rfl;simp only[bind_assoc,pure_bind];rw[aU hsz,aU b,aU c0,aU hsz,aU p1,aU c1,aU hsz,aU p2,aU c2];rfl
  ·cases hf
 ·have :Cp kd=true:=by
   cases kd<;>first |exact hs|exact(ha ⟨_,_,rfl⟩).elim
  unfold Instr.checkKey;rw[aU (cM hd)];cases kd<;>simp_all [Cp,aT,pure]
theorem Xh{d:Nat}{e:TypeId}{x y:Int}(hu:P.underlying e=some (.int .i64)):aT P (Op.equalIn (d+1) e (.int .i64 x) (.int .i64 y)) h=some (x==y):=by
 unfold Op.equalIn;rw[aU (cM hu)];rfl
theorem Xi{kt e:TypeId}{i:TypeInfo}{a b:Int×Int×Int}(hd:P.underlying kt=some (.array 3 e))(hu:P.underlying e=some (.int .i64))(hi:P.info? e=some i)(h1:i.size=1):
  aT P (Op.equal kt (.agg #[.int .i64 a.1,.int .i64 a.2.1,.int .i64 a.2.2]) (.agg #[.int .i64 b.1,.int .i64 b.2.1,.int .i64 b.2.2])) h=some (decide (a=b)):=by
 unfold Op.equal Op.maxDepth Op.equalIn;rw[aU (cM hd)];simp only[Std.Legacy.Range.forIn_eq_forIn_range',Std.Legacy.Range.size,Nat.sub_zero,Nat.add_sub_cancel,Nat.div_one,List.range'_succ,List.range'_zero,List.forIn_cons,List.forIn_nil];have hsz:=ic (h:=h) hi;rw[h1]at hsz;have q:∀x y:Int,aT P (Op.equalIn 9999 e (.int .i64 x) (.int .i64 y)) h=some (x==y):=λx y=>Xh hu;have c:∀x y z:Int,aT P (part e #[.int .i64 x,.int .i64 y,.int .i64 z] (0*1)) h=some (.int .i64 x):=λx y z=>sM hu rfl;have d:∀x y z:Int,aT P (part e #[.int .i64 x,.int .i64 y,.int .i64 z] ((0+1)*1)) h=some (.int .i64 y):=λx y z=>sM hu rfl;have f:∀x y z:Int,aT P (part e #[.int .i64 x,.int .i64 y,.int .i64 z] ((0+1+1)*1)) h=some (.int .i64 z):=λx y z=>sM hu rfl;simp only[bind_assoc,pure_bind];rw[aU hsz];rw[aU (c _ _ _),aU (c _ _ _),aU (q _ _)];obtain⟨a1,a2,a3⟩:=a;obtain⟨b1,b2,b3⟩:=b;dsimp only;cases e1:(a1==b1)with
 |false=>
  have :¬a1=b1:=by simpa using e1
  rw[decide_eq_false (by rintro⟨⟩;exact this rfl)];rfl
 | true=>
  have e1:a1=b1:=by simpa using e1
  subst e1;simp only[Bool.not_true,Bool.false_eq_true,if_false,bind_assoc,pure_bind];rw[aU (d _ _ _),aU (d _ _ _),aU (q _ _)];cases e2:(a2==b2)with
  |false=>
   have :¬a2=b2:=by simpa using e2
   rw[decide_eq_false (by rintro⟨⟩;exact this rfl)];rfl
  | true=>
   have e2:a2=b2:=by simpa using e2
   subst e2;simp only[Bool.not_true,Bool.false_eq_true,if_false,bind_assoc,pure_bind];rw[aU (f _ _ _),aU (f _ _ _),aU (q _ _)];cases e3:(a3==b3)with
   |false=>
    have :¬a3=b3:=by simpa using e3
    rw[decide_eq_false (by rintro⟨⟩;exact this rfl)];rfl
   |true=>
    have e3:a3=b3:=by simpa using e3
    subst e3;rw[decide_eq_true rfl];rfl
theorem IW{kt e:TypeId}{i:TypeInfo}{k:Value}{a:Int×Int×Int}(hd:P.underlying kt=some (.array 3 e))(hu:P.underlying e=some (.int .i64))(hi:P.info? e=some i)(h1:i.size=1)(hk:qJ k=some a):
  ∀{es:List MapEntry}{j:Nat}{r:Option (Nat×Value)},lW a es j=some r->aT P (Instr.findAsking kt k es j) h=some r
 | [],j,r,hf=>by simpa[Instr.findAsking,lW,aT,pure]using hf
 | x::es,j,r,hf=>by
  simp only[lW]at hf;split at hf
  ·rename_i k' hk';unfold Instr.findAsking;rw[sL hk,sL hk',aU (Xi hd hu hi h1)];by_cases e:a=k'
   ·rw[if_pos e]at hf;rw[decide_eq_true e,if_pos rfl];simpa[aT,pure]using hf
   ·rw[if_neg e]at hf;rw[decide_eq_false e,if_neg (by simp),<-sL hk];exact IW hd hu hi h1 hk hf
  ·cases hf
theorem Xj{kd:TypeDesc}{k:Value}{r:Option (Nat×Value)}(hf:jE kd k []=some r):r=none:=by
 unfold jE at hf;split at hf
 ·split at hf
  ·simp[lW]at hf;exact hf.symm
  ·cases hf
 ·simp[Instr.findNow]at hf;exact hf.symm
theorem ow{kt:TypeId}{kd:TypeDesc}{k:Value}{es:List MapEntry}{r:Option (Nat×Value)}(hd:P.underlying kt=some kd)(hs:lX P kd=true)
  (hf:jE kd k es=some r):aT P (Instr.findKey kt k es) h=some r:=by
 by_cases ha:∃m e,kd=.array m e
 ·obtain⟨m,e,rfl⟩:=ha;obtain⟨rfl,hu,i,hi,h1⟩:=IV hs;simp only[jE]at hf;split at hf
  ·rename_i a hk;unfold Instr.findKey;rw[aU (cM hd)];cases es with
   |nil=>simpa[Instr.findNow,lW,aT,pure]using hf
   |cons x es=>
    simp only[Instr.findNow,Instr.sameNow];exact IW hd hu hi h1 hk hf
  ·cases hf
 ·have hf':Instr.findNow kd k es 0=some r:=by
   cases kd<;>first |exact hf|exact(ha ⟨_,_,rfl⟩).elim
  unfold Instr.findKey;rw[aU (cM hd)];simp[hf',aT,pure]
theorem Xk{t kt et:TypeId}{kd:TypeDesc}{a:TypeInfo}{z:Value}{ok:Bool}{m k:Value}{K:Value->Prop}
  (ht:P.underlying t=some (.map kt et)) (hk:P.underlying kt=some kd) (he:P.info? et=some a) (hs:lX P kd=true) (hz:a.zero=some z)
  (hq:de kd z ok h m k K):∃v,aT P (Instr.lookup t m k ok) h=some v/\K v:=by
 have b:=mM (h:=h) he hz;unfold de at hq;split at hq
 ·split at hq
  ·rename_i r hf;obtain rfl:=Xj hf;refine⟨_,?_,hq⟩;unfold Instr.lookup;rw[aU (cM ht)];dsimp only;rw[aU (gX _),aU (nG (n:=9998) hk hs hf),aU (ow hk hs hf)];dsimp only;rw[aU b];rfl
  ·exact hq.elim
 ·rename_i r;split at hq
  ·rename_i es clock hm;have c:aT P (getObj r) h=some (.map es clock):=by simp[getObj,aT,hm]
   unfold Instr.lookup;rw[aU (cM ht)];dsimp only;rw[aU c];dsimp only;rw[aU (gX _)];split at hq
   ·rename_i i v hf;refine⟨_,?_,hq⟩;rw[aU (nG (n:=9998) hk hs hf),aU (ow hk hs hf)];rfl
   ·rename_i hf;refine⟨_,?_,hq⟩;rw[aU (nG (n:=9998) hk hs hf),aU (ow hk hs hf)];dsimp only;rw[aU b];rfl
   ·exact hq.elim
  ·exact hq.elim
 ·exact hq.elim
end
open Go
section
variable{P:Program}{h:aa}
theorem Xl{t e:TypeId}{info:TypeInfo}{x i:Value}{K:Value->Prop}(ht:P.underlying t=some (.slice e))(he:P.info? e=some info)
  (hq:aW info.size x i K):∃v,aT P (Instr.indexAt t x i) h=some v/\K v:=by
 unfold aW at hq;split at hq
 ·rename_i b o len cap k i;obtain⟨h0,h1,hk⟩:=hq;refine⟨_,?_,hk⟩;unfold Instr.indexAt;rw[aU (a:=(k,i)) (by rfl),aU (cM ht)];dsimp only;rw[aU (gX _)];dsimp only;rw[aU (cM ht)];dsimp only;rw[if_pos ⟨h0,h1⟩,aU (ic he),pL];rfl
 ·exact hq.elim
theorem Xm{t e:TypeId}{n:Nat}{info:TypeInfo}{x i:Value}{K:Value->Prop}(ht:P.underlying t=some (.array n e))(he:P.info? e=some info)
  (hq:bV info.size n x i K):∃v,aT P (Instr.indexAt t x i) h=some v/\K v:=by
 unfold bV at hq;split at hq
 ·rename_i b o k i;obtain⟨h0,h1,hk⟩:=hq;refine⟨_,?_,hk⟩;unfold Instr.indexAt;rw[aU (a:=(k,i)) (by rfl),aU (cM ht)];dsimp only;rw[aU (a:=⟨b,o,none⟩) (by rfl),aU (gX _)];dsimp only;rw[aU (cM ht)];dsimp only;rw[if_pos ⟨h0,h1⟩,aU (ic he),pL];rfl
 ·exact hq.elim
theorem Xn{t e:TypeId}{info:TypeInfo}{x:Value}{lo hi mx:Option Value}{K:Value->Prop}(ht:P.underlying t=some (.slice e))(he:P.info? e=some info)
  (hq:dY info.size x lo hi mx K):∃v,aT P (Instr.sliceAt t x lo hi mx) h=some v/\K v:=by
 unfold dY at hq;split at hq
 ·rename_i a len cap;split at hq
  ·rename_i l hh m hl b hm;obtain⟨c,h0,h1,h2,h3,hk⟩:=hq;refine⟨_,?_,hk⟩;unfold Instr.sliceAt;rw[aU (cM ht)];dsimp only;unfold Instr.slice;rw[aU (cM ht)];dsimp only;rw[aU (IU hl b hm c h0 h1 h2 h3)];dsimp only;rw[aU (ic he),Xg];rfl
  ·exact hq.elim
 ·exact hq.elim
theorem Xo{t:TypeId}{x:Value}{lo hi:Option Value}{K:Value->Prop}(ht:P.underlying t=some .string)
  (hq:uW x lo hi K):∃v,aT P (Instr.sliceAt t x lo hi none) h=some v/\K v:=by
 unfold uW at hq;split at hq
 ·rename_i s;split at hq
  ·rename_i l hh hl a;obtain⟨h0,h1,h2,hk⟩:=hq;refine⟨_,?_,hk⟩;unfold Instr.sliceAt;rw[aU (cM ht)];dsimp only;unfold Instr.slice;rw[aU (cM ht)];dsimp only;have hb:=IU (P:=P) (h:=h) (b:=false) (len:=s.size) (cap:=s.size) (mx:=none) (m:=s.size) hl a rfl (by simp) h0 h1 h2 (by omega);simp only[Option.isSome_none,Bool.false_eq_true,if_false];rw[aU hb];rfl
  ·exact hq.elim
 ·exact hq.elim
theorem Xp{s:TypeId}{fs:Array Field}{f:Nat}{fd:Field}{i:TypeInfo}{x:Value}{n:Nat}{K:Value->Prop}(hs:P.underlying s=some (.struct fs))
  (hf:fs[f]? =some fd) (hi:P.info? fd.type=some i) (hn:i.size=n+1) (hq:aq fd.offset x K):∃v,aT P (Instr.fieldAt s x f) h=some v/\K v:=by
 unfold aq at hq;split at hq
 ·rename_i b o;refine⟨_,?_,hq⟩;unfold Instr.fieldAt;rw[aU (cM hs)];dsimp only;rw[hf];dsimp only;rw[aU (a:=⟨b,o,none⟩) (by rfl)];unfold fieldPlace;have :aT P (do
    if(<-sizeOf fd.type)=0 then partAt ⟨b,o,none⟩ fd.offset fd.byteOffset else pure ((⟨b,o,none⟩:Addr).add fd.offset)) h=some ⟨b,o+fd.offset,none⟩:=by
   rw[aU (ic hi),if_neg (by omega),pL];rfl
  rw[aU this];rfl
 ·exact hq.elim
theorem Xq{s:TypeId}{fs:Array Field}{f:Nat}{fd:Field}{d:TypeDesc}{i:TypeInfo}{x:Value}{K:Value->Prop}(hs:P.underlying s=some (.struct fs))
  (hf:fs[f]? =some fd) (hd:P.underlying fd.type=some d) (hi:P.info? fd.type=some i)
  (hq:match jG d with
   |true=>sD fd.offset i.size x K
   |false=>lV fd.offset x K):∃v,aT P (Instr.field s x f) h=some v/\K v:=by
 cases hag:jG d with
 | true=>
  simp only[hag]at hq;unfold sD at hq;split at hq
  ·rename_i cs;refine⟨_,?_,hq⟩;unfold Instr.field;rw[aU (cM hs)];dsimp only;rw[hf];dsimp only;rw[aU (a:=cs) (by rfl)];unfold part;rw[aU (pN hd),hag];simp only[if_true];rw[aU (ic hi)];rfl
  ·exact hq.elim
 | false=>
  simp only[hag]at hq;unfold lV at hq;split at hq
  ·rename_i cs;split at hq
   ·rename_i v hv;refine⟨_,?_,hq⟩;unfold Instr.field;rw[aU (cM hs)];dsimp only;rw[hf];dsimp only;rw[aU (a:=cs) (by rfl)];unfold part;rw[aU (pN hd),hag];simp[hv,aT,pure]
   ·exact hq.elim
  ·exact hq.elim
theorem Xr{t e:TypeId}{n:Nat}{d:TypeDesc}{info:TypeInfo}{x i:Value}{K:Value->Prop}(ht:P.underlying t=some (.array n e))(hd:P.underlying e=some d)(he:P.info? e=some info)(hag:jG d=true)
  (hq:ou info.size n x i K):∃v,aT P (Instr.index t x i) h=some v/\K v:=by
 unfold ou at hq;split at hq
 ·rename_i cs k i;obtain⟨h0,h1,hk⟩:=hq;refine⟨_,?_,hk⟩;unfold Instr.index;rw[aU (a:=(k,i)) (by rfl),aU (cM ht)];dsimp only;rw[if_pos ⟨h0,h1⟩,aU (ic he)];unfold part;rw[aU (pN hd),hag];simp only[if_true];rw[aU (ic he)];rfl
 ·exact hq.elim
theorem Xs{t e:TypeId}{n:Nat}{d:TypeDesc}{info:TypeInfo}{x i:Value}{K:Value->Prop}(ht:P.underlying t=some (.array n e))(hd:P.underlying e=some d)(he:P.info? e=some info)(hag:jG d=false)(b:info.size=1)
  (hq:qH n x i K):∃v,aT P (Instr.index t x i) h=some v/\K v:=by
 unfold qH at hq;split at hq
 ·rename_i cs k i;obtain⟨h0,h1,hk⟩:=hq;split at hk
  ·rename_i v hv;refine⟨v,?_,hk⟩;unfold Instr.index;rw[aU (a:=(k,i)) (by rfl),aU (cM ht)];dsimp only;rw[if_pos ⟨h0,h1⟩,aU (ic he),b,Nat.mul_one];unfold part;rw[aU (pN hd),hag];simp[hv,aT,pure]
  ·exact hk.elim
 ·exact hq.elim
theorem Xt{t:TypeId}{x i:Value}{K:Value->Prop}(ht:P.underlying t=some .string)(hq:qI x i K):∃v,aT P (Instr.index t x i) h=some v/\K v:=by
 unfold qI at hq;split at hq
 ·rename_i s k i;obtain⟨h0,hk⟩:=hq;split at hk
  ·rename_i b hb;refine⟨_,?_,hk⟩;unfold Instr.index;rw[aU (a:=(k,i)) (by rfl),aU (cM ht)];dsimp only;rw[if_pos h0,hb];rfl
  ·exact hk.elim
 ·exact hq.elim
theorem Xu{x:Value}{i:Nat}{K:Value->Prop}(hq:aX x i K):∃v,aT P (Instr.extract x i) h=some v/\K v:=by
 unfold aX at hq;split at hq
 ·split at hq
  ·rename_i v hv;exact⟨v,by simp[Instr.extract,hv,aT,pure],hq⟩
  ·exact hq.elim
 ·exact hq.elim
theorem Xv{op:UnOp}{x:Value}{K:Value->Prop}(hq:bS op x K):∃v,aT P (Op.unary op x) h=some v/\K v:=by
 unfold bS at hq;split at hq
 ·exact⟨_,by simp[Op.unary,Op.intArith,aT,pure],hq⟩
 ·exact⟨_,by simp[Op.unary,aT,pure],hq⟩
 ·exact hq.elim
theorem Xw{s d:TypeId}{ds:TypeDesc}{k:IntKind}{x:Value}{K:Value->Prop}(hs:P.underlying s=some ds)(hd:P.underlying d=some (.int k))
  (hq:fR k x K):∃v,aT P (convert s d x) h=some v/\K v:=by
 unfold fR at hq;split at hq
 ·rename_i k' n;refine⟨_,?_,hq⟩;unfold convert;rw[aU (cM hs),aU (cM hd)];cases ds<;>rfl
 ·exact hq.elim
theorem IX{F:Value->ByteArray->Sem (ForInStep ByteArray)}(hF:∀n s,F (.int .u8 n) s=pure (.yield (s.push (UInt8.ofNat n.toNat)))):∀{l:List Value}{s0 s:ByteArray},sJ l s0=some s->aT P (forIn l s0 F) h=some s
 | [],s0,s,hq=>by
  simp only[sJ,Option.some.injEq]at hq;subst hq;rfl
 | v::l,s0,s,hq=>by
  have key:∃n,v=.int .u8 n:=by
   cases v with
   |int k n=>cases k<;>first |exact⟨n,rfl⟩|simp[sJ]at hq
   |_=>simp[sJ]at hq
  obtain⟨n,rfl⟩:=key;rw[List.forIn_cons,hF];refine(aU (a:=.yield (s0.push (UInt8.ofNat n.toNat))) rfl).trans ?_;exact IX hF hq
theorem Xx{s d e:TypeId}{x:Value}{K:Value->Prop}(hs:P.underlying s=some (.slice e))(hd:P.underlying d=some .string)(he:P.underlying e=some (.int .u8))(hq:qL h x K):∃v,aT P (convert s d x) h=some v/\K v:=by
 have hc:∀{v:Value},aT P (Conv.bytesToString x) h=some v->aT P (convert s d x) h=some v:=λhv=>by
  unfold convert;rw[aU (cM hs),aU (cM hd)];unfold qL at hq;split at hq
  ·refine(aU (cM he)).trans ?_;exact hv
  ·refine(aU (cM he)).trans ?_;exact hv
  ·exact hq.elim
 unfold qL at hq;split at hq
 ·exact⟨_,hc rfl,hq⟩
 ·split at hq
  ·rename_i l hl;split at hq
   ·rename_i s hs;refine⟨_,hc ?_,hq⟩;unfold Conv.bytesToString;refine(aU (Co hl)).trans ?_;rw[List.forIn_toArray];refine(aU (IX (λn s=>rfl) hs)).trans ?_;rfl
   ·exact hq.elim
  ·exact hq.elim
 ·exact hq.elim
theorem Xy{it:Value}{K:Value->Prop}(hq:sH it h K):∃v,aT P (Instr.entry it) h=some v/\K v:=by
 unfold sH at hq;split at hq
 ·rename_i r;split at hq
  ·rename_i m x seen stepped hr;split at hq
   ·rename_i stamp es clock hb hm;obtain⟨rfl,hq⟩:=hq;split at hq
    ·rename_i e he;refine⟨_,?_,hq⟩;unfold Instr.entry;dsimp only;refine(aU (a:=Obj.mapIter (some m) x seen clock) (by simp[getObj,aT,hr])).trans ?_;dsimp only;rw[hb];dsimp only;refine(aU (a:=Obj.map es clock) (by simp[getObj,aT,hm])).trans ?_;dsimp only;rw[if_neg (by simp),he];rfl
    ·exact hq.elim
   ·exact hq.elim
  ·exact hq.elim
 ·exact hq.elim
theorem Ct{x y:Value}{K:Value->Prop}(hq:jD x y K):∃v,aT P (Builtin.min2 x y) h=some v/\K v:=by
 unfold jD at hq;split at hq
 ·exact⟨_,by simp[Builtin.min2,aT,pure],hq⟩
 ·exact hq.elim
theorem Cu{x y:Value}{K:Value->Prop}(hq:iH x y K):∃v,aT P (Builtin.max2 x y) h=some v/\K v:=by
 unfold iH at hq;split at hq
 ·exact⟨_,by simp[Builtin.max2,aT,pure],hq⟩
 ·exact hq.elim
theorem IY(off:Nat):∀(l:List Value)(j:Nat)(cs:Array Value),off+j+l.length<=cs.size->
  ((l.zipIdx j).foldl (λcs(x:Value×Nat)=>cs.setIfInBounds (off+x.2) x.1) cs).toList=cs.toList.take (off+j)++l++cs.toList.drop (off+j+l.length)
 | [],j,cs,_=>by simp
 | c::l,j,cs,hle=>by
  simp only[List.length_cons]at hle;simp only[List.zipIdx_cons,List.foldl_cons];rw[IY off l (j+1) _ (by simp;omega)];simp only[Array.toList_setIfInBounds];have hlen:off+j<cs.toList.length:=by simp;omega
  have e1:(cs.toList.set (off+j) c).take (off+(j+1))=cs.toList.take (off+j)++ [c]:=by
   rw[show off+(j+1)=(off+j)+1 by omega,List.take_succ_eq_append_getElem (by simpa using hlen)];simp[List.take_set_of_le]
  have e2:(cs.toList.set (off+j) c).drop (off+(j+1)+l.length)=cs.toList.drop (off+j+(l.length+1)):=by
   rw[List.drop_set_of_lt (by omega),show off+(j+1)+l.length=off+j+(l.length+1) by omega]
  rw[e1,e2];simp
end
open Go
section
variable{P:Program}{h:aa}
theorem fill_eq{place:Nat->Option (Nat×Nat)}:∀(parts:List (Nat×Value))(ps:List (Nat×Nat×Value))(cs:Array Value),pM place parts=some ps->
  kW cs.size ps->Instr.fill place cs parts=some (fC cs.toList ps).toArray
 | [],ps,cs,hp,hs=>by
  simp only[pM,Option.some.injEq]at hp;subst hp;simp[Instr.fill,fC]
 | (i,v)::r,ps,cs,hp,hs=>by
  simp only[pM]at hp;split at hp
  ·rename_i off size a;split at hp
   ·rename_i l hl;simp only[Option.some.injEq]at hp;subst hp;obtain⟨h1,h2,h3⟩:=hs;unfold Instr.fill;rw[a];dsimp only;have hb:¬((decide (v.cells.size≠size)||decide (off+v.cells.size>cs.size))=true):=by simp[h1];omega
    rw[if_neg hb];have hz:v.cells.zipIdx=(v.cells.toList.zipIdx).toArray:=by cases v.cells;simp
    have hf:=IY off v.cells.toList 0 cs (by simp;omega);have he:(v.cells.zipIdx.foldl (λcs(x:Value×Nat)=>cs.setIfInBounds (off+x.2) x.1) cs)=(cs.toList.take off++v.cells.toList++cs.toList.drop (off+v.cells.size)).toArray:=by
     apply Array.ext';rw[hz,List.foldl_toArray',hf]
     ·simp
     ·simp
    have hsz:(cs.toList.take off++v.cells.toList++cs.toList.drop (off+v.cells.size)).length=cs.size:=by
     simp only[List.length_append,List.length_take,List.length_drop,Array.length_toList];omega
    show Instr.fill place (v.cells.zipIdx.foldl (λcs(x:Value×Nat)=>cs.setIfInBounds (off+x.2) x.1) cs) r=_;rw[he,fill_eq r l _ hl (by rw[List.size_toArray,hsz];exact h3)];simp[fC]
   ·cases hp
  ·cases hp
theorem Xz{fs:Array Field}(b:fs.toList.all (λf=>(P.info? f.type).isSome)=true):
  aT P (fs.mapM λf=>do pure (f.offset,<-sizeOf f.type):Sem (Array (Nat×Nat))) h=some (fs.map λf=>(f.offset,P.cellsOf f.type)):=by
 have key:∀(l:List Field),l.all (λf=>(P.info? f.type).isSome)=true->
   aT P (l.mapM λf=>do pure (f.offset,<-sizeOf f.type):Sem (List (Nat×Nat))) h=some (l.map λf=>(f.offset,P.cellsOf f.type)):=by
  intro l
  induction l with
  |nil=>intro _;rfl
  |cons f l ih=>
   intro hl;simp only[List.all_cons,Bool.and_eq_true]at hl;obtain⟨i,hi⟩:=Option.isSome_iff_exists.1 hl.1;rw[List.mapM_cons];rw[aU (a:=(f.offset,i.size)) (by rw[aU (ic hi)];rfl),aU (ih hl.2)];simp[aT,pure,Program.cellsOf,hi]
 rw[Array.mapM_eq_mapM_toList];show aT P (Functor.map List.toArray (fs.toList.mapM _)) h=_;have e:∀{α β:Type}(f:α->β)(s:Sem α),(Functor.map f s:Sem β)=(s>>=λa=>pure (f a)):=λf s=>rfl;rw[e,aU (key fs.toList b)];simp only[aT,pure];congr 1;cases fs;simp
theorem XA{t:TypeId}{fs:Array Field}{i:TypeInfo}{z:Value}{parts:Array (Nat×Value)}{ps:List (Nat×Nat×Value)}{K:Value->Prop}
  (ht:P.underlying t=some (.struct fs)) (hi:P.info? t=some i) (hz:i.zero=some z) (a:fs.toList.all (λf=>(P.info? f.type).isSome)=true)
  (hp:pM ((fs.map λf=>(f.offset,P.cellsOf f.type))[·]?) parts.toList=some ps) (hq:aP z.cells.toList ps K):
  ∃v,aT P (Instr.build t parts) h=some v/\K v:=by
 obtain⟨hs,hk⟩:=hq;refine⟨_,?_,hk⟩;unfold Instr.build;rw[aU (mM hi hz),aU (cM ht)];dsimp only;rw[aU (Xz a),fill_eq parts.toList ps z.cells hp (by simpa using hs)];rfl
theorem Cv{size:Nat}:∀(l:List (Nat×Value)),pM (λi=>some (i*size,size)) l=some (l.map λ(i,v)=>(i*size,size,v))
 | []=>rfl
 |(i,v)::r=>by simp[pM,Cv r]
theorem XB{t e:TypeId}{n:Nat}{i a:TypeInfo}{z:Value}{parts:Array (Nat×Value)}{K:Value->Prop}
  (ht:P.underlying t=some (.array n e)) (hi:P.info? t=some i) (hz:i.zero=some z) (he:P.info? e=some a)
  (hq:aP z.cells.toList (parts.toList.map λ(j,x)=>(j*a.size,a.size,x)) K):
  ∃v,aT P (Instr.build t parts) h=some v/\K v:=by
 obtain⟨hs,hk⟩:=hq;refine⟨_,?_,hk⟩;unfold Instr.build;rw[aU (mM hi hz),aU (cM ht)];dsimp only;rw[aU (ic he),fill_eq parts.toList _ z.cells (Cv _) (by simpa using hs)];rfl
end
open Go
section
variable{P:Program}{h:aa}
theorem Cw{α β:Type}(f:α->β)(a:Array α):(a.toList.map f).toArray=a.map f:=by cases a;simp
theorem XC{v:Value}{K:Value->Prop}(hq:aJ v K):∃u,aT P (match v with
  | .pointer none| .nilIface| .nilFunc=>runtimePanic .nilDeref
  | .func (.method name) first captured=>
   match(first[0]? :Option Value)with
   |some .nilIface=>runtimePanic .nilDeref
   | some (.iface t w)=>do
    if(<-nilAhead ((<-program).types.size+Made.depth) t w name) != some false then
     unsupported (.noEntry "op/nilCheck.the method's receiver behind this interface value is a nil pointer, or cannot be seen to be none, and the arguments act or may panic (ledger 612)")
    pure (.value (.func (.method name) first captured))
   |_=>pure (.value (.func (.method name) first captured))
  |x=>pure (.value x):Sem Next) h=some (.value u)/\K u:=by
 unfold aJ at hq;split at hq
 ·exact⟨_,rfl,hq⟩
 ·exact⟨_,rfl,hq⟩
 ·exact⟨_,rfl,hq⟩
 ·exact hq.elim
theorem IZ:∀{cs:List Value}{l:List Int},kA cs=some l->∀i:Nat,cs[i]? =(l[i]?).map λa=>Value.int .i64 a
 | [],l,h,i=>by simp only[kA,Option.some.injEq]at h;subst h;simp
 | v::cs,l,h,i=>by
  have key:∃a l',v=.int .i64 a/\kA cs=some l'/\l=a::l':=by
   cases v with
   |int k a=>
    cases k<;>simp only[kA,reduceCtorEq]at h;cases hl:kA cs with
    |none=>rw[hl]at h;cases h
    |some l'=>rw[hl]at h;exact⟨a,l',rfl,rfl,(Option.some.inj h).symm⟩
   |_=>simp[kA]at h
  obtain⟨a,l',rfl,hl',rfl⟩:=key;cases i with
  |zero=>rfl
  |succ i=>simpa using IZ hl' i
theorem I1{t:TypeId}(ht:P.underlying t=some (.int .i64)){cs:Array Value}{l:List Int}(hl:kA cs.toList=some l){i:Nat}{a:Int}(hi:l[i]? =some a):aT P (part t cs i) h=some (.int .i64 a):=by
 unfold part;rw[aU (pN ht)];have :=IZ hl i;rw[hi]at this;simp only[jG,Bool.false_eq_true,if_false];rw[show cs[i]? =some (.int .i64 a) by simpa using this];rfl
theorem XD{t:TypeId}(ht:P.underlying t=some (.int .i64)){d:Nat}{a b:Int}:aT P (Op.equalIn (d+1) t (.int .i64 a) (.int .i64 b)) h=some (a==b):=by
 unfold Op.equalIn;rw[aU (cM ht)];simp[aT,pure]
theorem I2{a b:List Int}{body:Field->Option Bool×Unit->Sem (ForInStep (Option Bool×Unit))}(hb:∀(f:Field)(i:Nat)(x y:Int),P.underlying f.type=some (.int .i64)->f.offset=i->f.name≠ "_"->a[i]? =some x->b[i]? =some y->
   aT P (body f (none,())) h=some (if x=y then .yield (none,())else .done (some false,()))):
  ∀(l:List Field)(i:Nat),yM P l i=true->a.length=i+l.length->b.length=i+l.length->aT P (forIn l (none,()) body) h=some (if a.drop i=b.drop i then none else some false,())
 | [],i,_,h1,h2=>by
  have e1:a.drop i=[]:=List.drop_eq_nil_of_le (by simpa using Nat.le_of_eq h1);have e2:b.drop i=[]:=List.drop_eq_nil_of_le (by simpa using Nat.le_of_eq h2);rw[List.forIn_nil,e1,e2,if_pos rfl];rfl
 | f::l,i,hf,h1,h2=>by
  simp only[yM,Bool.and_eq_true,Bool.not_eq_true',beq_eq_false_iff_ne,ne_eq]at hf;obtain⟨f1,f2,f3,f4⟩:=hf;have f3:P.underlying f.type=some (.int .i64):=by
   split at f3
   ·assumption
   ·cases f3
  have f1:=Nat.eq_of_beq_eq_true f1;simp only[List.length_cons]at h1 h2;have ha:i<a.length:=by omega
  have hb':i<b.length:=by omega
  rw[List.forIn_cons,aU (hb f i a[i] b[i] f3 f1 f2 (List.getElem?_eq_getElem ha) (List.getElem?_eq_getElem hb'))];rw[List.drop_eq_getElem_cons ha,List.drop_eq_getElem_cons hb'];by_cases e:a[i]=b[i]
  ·rw[if_pos e];have :=I2 hb l (i+1) f4 (by omega) (by omega);simp only[e,List.cons.injEq,true_and];exact this
  ·rw[if_neg e,if_neg λh=>e (List.cons.inj h).1];rfl
theorem I3{t:TypeId}{fs:Array Field}{xs ys:Array Value}{a b:List Int}(hd:P.underlying t=some (.struct fs))(he:uY P t fs=true)(ha:kA xs.toList=some a)(hb:kA ys.toList=some b)
  (la:a.length=fs.size) (lb:b.length=fs.size):aT P (Op.equal t (.agg xs) (.agg ys)) h=some (decide (a=b)):=by
 simp only[uY,Bool.and_eq_true,Bool.not_eq_true']at he;obtain⟨e1,e2,e3⟩:=he;unfold Op.equal Op.maxDepth Op.equalIn;rw[aU (cM hd)];dsimp only;rw[aU (a:=P) (by simp[program,aT])];rw[e1];simp only[Bool.false_eq_true,if_false];rw[<-Array.forIn_toList];rw[aU (I2 (a:=a) (b:=b) (λf i x y ht hf hn hx hy=>by
  rw[if_pos hn,hf,aU (I1 ht ha hx),aU (I1 ht hb hy),aU (XD ht)];by_cases e:x=y
  ·simp[e,aT,pure]
  ·rw[show(!(x==y))=true by simpa using e];simp[e,aT,pure]) fs.toList 0 e3 (by simpa using la) (by simpa using lb))]
 simp only[List.drop_zero];by_cases e:a=b
 ·rw[if_pos e,decide_eq_true e];rfl
 ·rw[if_neg e,decide_eq_false e];rfl
theorem XE{ρ:Operand->Value}{op:BinOp}{t:TypeId}{fs:Array Field}{x y:Operand}{K:Value->Prop}(hd:P.underlying t=some (.struct fs))(he:uY P t fs=true)
  (hq:uV op fs.size (ρ x) (ρ y) K):∃v,aT P (do eqGuard op t x y (ρ x) (ρ y);binOp op t (ρ x) (ρ y)) h=some v/\K v:=by
 have e2:P.eqGuardType P.depth t=false:=by
  simp only[uY,Bool.and_eq_true,Bool.not_eq_true']at he;exact he.2.1
 unfold uV at hq;split at hq
 ·rename_i xs ys hx hy;split at hq
  ·rename_i a b ha hb;obtain⟨la,lb,hk⟩:=hq;refine⟨_,?_,hk⟩;rw[hx,hy];have hg:aT P (eqGuard .eql t x y (.agg xs) (.agg ys)) h=some ():=by
    unfold eqGuard;simp[aT,program,bind,Sem.bind,pure,e2]
   rw[aU hg];show aT P (do pure (Value.bool (<-Op.equal t (.agg xs) (.agg ys)))) h=_;rw[aU (I3 hd he ha hb la lb)];rfl
  ·exact hq.elim
 ·rename_i xs ys hx hy;split at hq
  ·rename_i a b ha hb;obtain⟨la,lb,hk⟩:=hq;refine⟨_,?_,hk⟩;rw[hx,hy];have hg:aT P (eqGuard .neq t x y (.agg xs) (.agg ys)) h=some ():=by
    unfold eqGuard;simp[aT,program,bind,Sem.bind,pure,e2]
   rw[aU hg];show aT P (do pure (Value.bool (!(<-Op.equal t (.agg xs) (.agg ys))))) h=_;rw[aU (I3 hd he ha hb la lb)];rfl
  ·exact hq.elim
 ·exact hq.elim
theorem XF{ρ:Operand->Value}{op:BinOp}{t:TypeId}{d:TypeDesc}{x y:Operand}{K:Value->Prop}(hd:P.underlying t=some d)
  (hq:uX d op (sK y) (ρ x) (ρ y) K):
  ∃v,aT P (do eqGuard op t x y (ρ x) (ρ y);binOp op t (ρ x) (ρ y)) h=some v/\K v:=by
 unfold uX at hq;split at hq
 ·rename_i k hk;split at hq
  ·exact hq.elim
  ·rename_i a;have main:∀neg:Bool,(op=.eql/\neg=false\/op=.neq/\neg=true)->bL neg k (ρ x) (ρ y) K->
     ∃v,aT P (do eqGuard op t x y (ρ x) (ρ y);binOp op t (ρ x) (ρ y)) h=some v/\K v:=by
    intro neg hop hp;have hn:=Xf hp;obtain⟨b,hv,hk'⟩:=Xe (h:=h) hd hk hp;refine⟨_,?_,hk'⟩;have hg:aT P (eqGuard op t x y (ρ x) (ρ y)) h=some ():=by
     by_cases hni:ρ x=.nilIface
     ·obtain⟨rfl,_⟩:=hn.2 hni;have :sK y=true:=by cases hl:sK y<;>simp_all [IQ]
      exact Xc hn.1 this
     ·exact IT hn.1 (λe=>hni e.1)
    rw[aU hg,eq_not hp op t (by rcases hop with ⟨e,_⟩|⟨e,_⟩<;>simp[e])];rcases hop with ⟨rfl,rfl⟩|⟨rfl,rfl⟩
    ·dsimp only;rw[aU hv];simp[aT,pure]
    ·dsimp only;rw[aU hv];simp[aT,pure]
   split at hq
   ·exact main false (.inl ⟨rfl,rfl⟩) hq
   ·exact main true (.inr ⟨rfl,rfl⟩) hq
   ·exact hq.elim
 ·have hn:=Xd hq;obtain⟨v,hv,hk⟩:=Xb (P:=P) (h:=h) (t:=t) hq;refine⟨v,?_,hk⟩;rw[aU (IT hn.1 (λe=>hn.2 e.1))];exact hv
theorem XG{t type:TypeId}{argTypes:Array TypeId}{args:Array Value}{d:TypeDesc}{x:Value}{K:Value->Prop}(hT:argTypes[0]? =some t)(hx:args[0]? =some x)
  (hd:P.underlying t=some d)
  (hq:match some d with
    |some (.slice _)=>bx x K
    |some .string=>sE x K
    |some (.map _ _)=>pK h x K
    |some (.array n _)=>K (.int .i64 n)
    |_=>False):∃v,aT P (Builtin.len_ argTypes type args) h=some v/\K v:=by
 split at hq
 ·rename_i e a;cases a;unfold bx at hq;split at hq
  ·refine⟨_,?_,hq⟩;unfold Builtin.len_;simp only[hT,hx];rw[aU (cM hd)];rfl
  ·exact hq.elim
 ·rename_i a;cases a;unfold sE at hq;split at hq
  ·refine⟨_,?_,hq⟩;unfold Builtin.len_;simp only[hT,hx];rw[aU (cM hd)];rfl
  ·exact hq.elim
 ·rename_i a;cases a;unfold pK at hq;split at hq
  ·refine⟨_,?_,hq⟩;unfold Builtin.len_;simp only[hT,hx];rw[aU (cM hd)];rfl
  ·rename_i r;split at hq
   ·rename_i es clock hm;refine⟨_,?_,hq⟩;have b:aT P (getObj r) h=some (.map es clock):=by simp[getObj,aT,hm]
    unfold Builtin.len_;simp only[hT,hx];rw[aU (cM hd)];dsimp only;rw[aU b];rfl
   ·exact hq.elim
  ·exact hq.elim
 ·rename_i a;cases a;refine⟨_,?_,hq⟩;unfold Builtin.len_;simp only[hT,hx];rw[aU (cM hd)];cases x<;>rfl
 ·exact hq.elim
theorem XH{t type:TypeId}{argTypes:Array TypeId}{args:Array Value}{e:TypeId}{x:Value}{K:Value->Prop}(hT:argTypes[0]? =some t)(hx:args[0]? =some x)
  (hd:P.underlying t=some (.slice e)) (hq:sF x K):∃v,aT P (Builtin.cap_ argTypes type args) h=some v/\K v:=by
 unfold sF at hq;split at hq
 ·refine⟨_,?_,hq⟩;unfold Builtin.cap_;simp only[hT,hx];rw[aU (cM hd)];rfl
 ·exact hq.elim
theorem I4{ρ:Operand->Value}{o:Oper}{K:Value->Prop}(hq:ig P ρ o.op h K):∃v,aT P (execOp ρ o) h=some (.value v)/\K v:=by
 have lift:∀{s:Sem Value},(∃v,aT P s h=some v/\K v)->∃v,aT P (do pure (Next.value (<-s)):Sem Next) h=some (.value v)/\K v:=
  λ⟨v,hv,hk⟩=>⟨v,rdv hv,hk⟩
 obtain⟨dst,op,type,pos,after,guard⟩:=o;dsimp only at hq;unfold execOp;cases op<;>simp only[ig]at hq
 case move x=>exact⟨_,rfl,hq⟩
 case assign x=>exact⟨_,rfl,hq⟩
 case pick c a b=>
  unfold sC at hq;dsimp only;split at hq
  ·rename_i e;exact⟨_,by rw[e];rfl,hq⟩
  ·rename_i e;exact⟨_,by rw[e];rfl,hq⟩
  ·exact hq.elim
 case load t a=>
  split at hq
  ·rename_i d i hd hi;exact lift (IS hd hi hq)
  ·exact hq.elim
 case nilCheck x=>exact XC hq
 case binOp op t x y j=>
  split at hq
  ·rename_i fs hd;split at hq
   ·rename_i he;exact lift (XE hd he hq)
   ·exact hq.elim
  ·rename_i d _ hd;exact lift (XF hd hq)
  ·exact hq.elim
 case unOp op t x=>exact lift (Xv hq)
 case convert s d x=>
  split at hq
  ·rename_i hs hd;exact lift (Xw hs hd hq)
  ·rename_i hs hd;split at hq
   ·rename_i he;exact lift (Xx hs hd he hq)
   ·exact hq.elim
  ·exact hq.elim
 case entry it=>exact lift (Xy hq)
 case makeInterface t x=>
  split at hq
  ·exact hq.elim
  ·rename_i d hno hd;refine lift ⟨_,?_,hq⟩;unfold Instr.makeInterface;rw[aU (cM hd)];cases d<;>first |rfl|exact(hno _ rfl).elim
  ·exact hq.elim
 case makeFunc fn first captured=>exact lift ⟨_,rfl,by simpa only[Cw]using hq⟩
 case slice t x lo hi mx=>
  split at hq
  ·split at hq
   ·rename_i hd _ _ he;exact lift (Xn hd he hq)
   ·exact hq.elim
  ·rename_i hd;split at hq
   ·exact lift (Xo hd hq)
   ·exact hq.elim
  ·exact hq.elim
 case fieldAddr s x f=>
  split at hq
  ·rename_i fs hs;split at hq
   ·rename_i fd hf;split at hq
    ·rename_i i hi;split at hq
     ·exact hq.elim
     ·rename_i n hn;exact lift (Xp hs hf hi hn hq)
    ·exact hq.elim
   ·exact hq.elim
  ·exact hq.elim
 case field t x f=>
  split at hq
  ·rename_i fs hs;split at hq
   ·rename_i fd hf;split at hq
    ·rename_i d i hd hi;exact lift (Xq hs hf hd hi hq)
    ·exact hq.elim
   ·exact hq.elim
  ·exact hq.elim
 case indexAddr t x i=>
  split at hq
  ·rename_i e ht;split at hq
   ·rename_i info he;exact lift (Xl ht he hq)
   ·exact hq.elim
  ·rename_i n e ht;split at hq
   ·rename_i info he;exact lift (Xm ht he hq)
   ·exact hq.elim
  ·exact hq.elim
 case index t x i=>
  split at hq
  ·rename_i n e ht;split at hq
   ·rename_i d info hd he;split at hq
    ·rename_i hag;exact lift (Xr ht hd he hag hq)
    ·rename_i hag;split at hq
     ·rename_i h1;exact lift (Xs ht hd he hag (Nat.eq_of_beq_eq_true h1) hq)
     ·exact hq.elim
   ·exact hq.elim
  ·rename_i ht;exact lift (Xt ht hq)
  ·exact hq.elim
 case lookup t m k ok=>
  split at hq
  ·rename_i kt et ht;split at hq
   ·rename_i kd g hk he;split at hq
    ·rename_i z hs hz;exact lift (Xk ht hk he hs hz hq)
    ·exact hq.elim
   ·exact hq.elim
  ·exact hq.elim
 case extract x i=>exact lift (Xu hq)
 case build t parts=>
  split at hq
  ·rename_i fs i ht hi;split at hq
   ·rename_i z hz;split at hq
    ·rename_i ps hp hall;exact lift (XA ht hi hz hall (by simpa using hp) hq)
    ·exact hq.elim
   ·exact hq.elim
  ·rename_i n e i ht hi;split at hq
   ·rename_i z g hz he;refine lift (XB ht hi hz he ?_);have :(parts.map λ(x:Nat×Operand)=>(x.1,ρ x.2)).toList.map (λ(x:Nat×Value)=>(x.1*g.size,g.size,x.2))=parts.toList.map λ(x:Nat×Operand)=>(x.1*g.size,g.size,ρ x.2):=by simp
    show aP z.cells.toList ((parts.map λ(x:Nat×Operand)=>(x.1,ρ x.2)).toList.map (λ(x:Nat×Value)=>(x.1*g.size,g.size,x.2))) K;rw[this];exact hq
   ·exact hq.elim
  ·exact hq.elim
 case call c=>
  obtain⟨callee,args,argTypes⟩:=c;dsimp only at hq ⊢;have core:∀{b:Builtin}{s:Sem Value},(∀cs,builtin b argTypes type cs (args.map ρ)=(do pure (.value (<-s))))->(∃v,aT P s h=some v/\K v)->
    ∃v,aT P (do let d<-resolve ρ {callee:=.builtin b,args,argTypes} type;invoke d.target d.args) h=some (.value v)/\K v:=by
   rintro b s hs ⟨v,hv,hk⟩;refine⟨v,?_,hk⟩;show aT P (builtin b argTypes type _ (args.map ρ)) h=_;rw[hs];exact rdv hv
  have ar:∀{i:Nat}{x:Operand},args[i]? =some x->(args.map ρ)[i]? =some (ρ x):=λhx=>by simp[hx]
  have two:∀{x y:Operand},args.toList=[x,y]->(args.map ρ).toList=[ρ x,ρ y]:=λe=>by simp[e]
  have three:∀{x y z:Operand},args.toList=[x,y,z]->(args.map ρ).toList=[ρ x,ρ y,ρ z]:=λe=>by simp[e]
  split at hq
  ·split at hq
   ·rename_i t x hT hx;cases hd:P.underlying t with
    |none=>rw[hd]at hq;exact hq.elim
    |some d=>rw[hd]at hq;exact core (λ_=>rfl) (XG hT (ar hx) hd hq)
   ·exact hq.elim
  ·split at hq
   ·rename_i t x hT hx;split at hq
    ·rename_i e hd;exact core (λ_=>rfl) (XH hT (ar hx) hd hq)
    ·exact hq.elim
   ·exact hq.elim
  ·split at hq
   ·rename_i x y hxy;obtain⟨v,hv,hk⟩:=Ct (P:=P) (h:=h) hq;refine core (λ_=>rfl) ⟨v,?_,hk⟩;unfold Builtin.min_;rw[two hxy];dsimp only;rw[List.foldlM_cons,aU hv];rfl
   ·rename_i x y z hxy;obtain⟨u,hu,hk⟩:=Ct (P:=P) (h:=h) hq;obtain⟨v,hv,hk⟩:=Ct (P:=P) (h:=h) hk;refine core (λ_=>rfl) ⟨v,?_,hk⟩;unfold Builtin.min_;rw[three hxy];dsimp only;rw[List.foldlM_cons,aU hu,List.foldlM_cons,aU hv];rfl
   ·exact hq.elim
  ·split at hq
   ·rename_i x y hxy;obtain⟨v,hv,hk⟩:=Cu (P:=P) (h:=h) hq;refine core (λ_=>rfl) ⟨v,?_,hk⟩;unfold Builtin.max_;rw[two hxy];dsimp only;rw[List.foldlM_cons,aU hv];rfl
   ·rename_i x y z hxy;obtain⟨u,hu,hk⟩:=Cu (P:=P) (h:=h) hq;obtain⟨v,hv,hk⟩:=Cu (P:=P) (h:=h) hk;refine core (λ_=>rfl) ⟨v,?_,hk⟩;unfold Builtin.max_;rw[three hxy];dsimp only;rw[List.foldlM_cons,aU hu,List.foldlM_cons,aU hv];rfl
   ·exact hq.elim
  ·exact hq.elim
 all_goals exact hq.elim
end
open Go
def lY(P:Program)(K:KT):Next->aa->Prop
 | .value v,h=>K v h
 | .skip,h=>K undef h
 | .enter f args,h=>Cm P f args h K
 | .round l f tmps assign body,h=>sB P l f tmps assign body h K
 |_,_=>False
def lop (P:Program) (ρ:Operand->Value) (op:Op) (h:aa) (K:KT):Prop:=
 match op with
 | .box t v=>aB t (ρ v) h K
 | .alloc t=>(match P.info? t with
  |some i=>(match i.zero with
   |some z=>aB t z h K
   |none=>False)
  |none=>False)
 | .buildSlice t len parts=>(match P.underlying t with
  | some (.slice e)=>(match P.info? e with
   | some i=>(match i.zero with
    |some z=>(match Nat.ble (len*i.size) 16777216,Nat.beq z.cells.size i.size with
     |true,true=>cz e (bO z.cells.toList len) (parts.toList.map λ(j,x)=>(j*i.size,i.size,ρ x)) len h K
     |_,_=>False)
    |none=>False)
   |none=>False)
  |_=>False)
 | .makeSlice t l c=>(match P.underlying t with
  | some (.slice e)=>(match P.info? e with
   | some i=>(match i.zero with
    |some z=>(match Nat.beq z.cells.size i.size with
     |true=>c9 e i.bytes z.cells.toList (ρ l) (ρ c) h K
     |false=>False)
    |none=>False)
   |none=>False)
  |_=>False)
 | .makeMap _ none=>bp h K
 | .range t m=>(match P.underlying t with
  |some (.map _ _)=>yJ (ρ m) h K
  |_=>False)
 | .next it s=>(match s with
  |true=>False
  |false=>yK (ρ it) h K)
 | .store t a x=>(match P.info? t with
  |some i=>aC i.size (ρ a) (ρ x) h K
  |none=>False)
 | .mapUpdate t m k x| .insert t m k x=>(match P.underlying t with
  | some (.map kt _)=>(match P.underlying kt with
   |some kd=>(match lX P kd with
    |true=>dQ kd (ρ m) (ρ k) (ρ x) h K
    |false=>False)
   |none=>False)
  |_=>False)
 | .mapEntry t m k=>(match P.underlying t with
  | some (.map kt et)=>(match P.underlying kt,P.info? et with
   |some kd,some b=>(match lX P kd,b.zero with
    |true,some z=>j8 kd z (ρ m) (ρ k) h K
    |_,_=>False)
   |_,_=>False)
  |_=>False)
 | .entryStore _ m s x=>jF (ρ m) (ρ s) (ρ x) h K
 | .call c=>(match c.callee with
  | .builtin .append=>(match c.argTypes[0]?,c.argTypes[1]?,c.args.toList with
   | some t,some xt,[s,x]=>(match P.underlying t,P.underlying xt with
    | some (.slice e),some (.slice _)=>(match P.info? e with
     | some i=>(match i.zero with
      |some z=>(match Nat.beq z.cells.size i.size with
       |true=>cZ e i.size i.bytes z.cells.toList (ρ s) (ρ x) h K
       |false=>False)
      |none=>False)
     |none=>False)
    | some (.slice e),some (.int _)=>(match P.info? e with
     | some i=>(match i.zero with
      |some z=>(match Nat.beq z.cells.size i.size with
       |true=>yI e i.size i.bytes z.cells.toList (ρ s) (ρ x) h K
       |false=>False)
      |none=>False)
     |none=>False)
    |_,_=>False)
   |_,_,_=>False)
  | .builtin .copy=>(match c.argTypes[0]?,c.args.toList with
   | some t,[d,x]=>(match P.underlying t with
    | some (.slice e)=>(match P.info? e with
     |some i=>(match Xa P c.argTypes[1]? with
      |true=>yL (ρ d) (ρ x) h K
      |false=>jl i.size (ρ d) (ρ x) h K)
     |none=>False)
    |_=>False)
   |_,_=>False)
  | .builtin .delete=>(match c.argTypes[0]?,c.args.toList with
   | some t,[m,k]=>(match P.underlying t with
    | some (.map kt _)=>(match P.underlying kt with
     |some kd=>(match lX P kd with
      |true=>qK kd (ρ m) (ρ k) h K
      |false=>False)
     |none=>False)
    |_=>False)
   |_,_=>False)
  | .builtin .clear=>(match c.argTypes[0]?,c.args.toList with
   | some t,[x]=>(match P.underlying t with
    | some (.slice e)=>(match P.info? e with
     |some i=>(match i.zero with
      |some z=>sG z.cells.toList (ρ x) h K
      |none=>False)
     |none=>False)
    |_=>False)
   |_,_=>False)
  | .value f=>aS P (ρ f) (c.args.toList.map ρ).toArray h K
  |_=>False)
 |_=>False
section
variable{P:Program}{h:aa}
theorem Cx{α:Type}{a:α}{K:α->aa->Prop}(hk:K a h):wpS P (pure a:Sem α) h K:=hk
theorem bQ{α β:Type}{s:Sem α}{f:α->Sem β}{a:α}{K:β->aa->Prop}(hs:aT P s h=some a)(hk:wpS P (f a) h K):wpS P (s>>=f) h K:=
 gb (Cl hs hk)
theorem ox{s:Sem Value}{K:KT}(hs:wpS P s h K):wpS P (do pure (Next.value (<-s)):Sem Next) h (lY P K):=
 gb (nE (λ_ _ hk=>hk) hs)
theorem yO{s:Sem Unit}{K:KT}(hs:wpS P s h λ_ h'=>K undef h'):wpS P (do s;pure Next.skip:Sem Next) h (lY P K):=
 gb (nE (λ_ _ hk=>hk) hs)
theorem XI{t:TypeId}{v:Value}{K:KT}(hq:aB t v h K):wpS P (Instr.box t v) h K:=by
 unfold Instr.box newVar newRow;exact hq
theorem XJ{t:TypeId}{i:TypeInfo}{z:Value}{K:KT}(hi:P.info? t=some i)(hz:i.zero=some z)(hq:aB t z h K):
  wpS P (Instr.alloc t true (.tuple #[])) h K:=by
 unfold Instr.alloc;refine bQ (mM hi hz) ?_;exact hq
theorem Cy(z:Array Value)(n s:Nat)(hs:z.size=s):
  (Array.range (n*s)).map (z[· %z.size]!)=(bO z.toList n).toArray:=by
 subst hs;apply Array.ext';simp only[Array.toList_map,Array.toList_range,bO]
 induction n with
 |zero=>simp
 | succ n ih=>
  rw[Nat.succ_mul,List.range_add,List.map_append,ih,List.replicate_succ',List.flatten_append];congr 1;simp only[List.map_map,List.flatten_cons,List.flatten_nil,List.append_nil];apply List.ext_getElem
  ·simp
  ·intro i h1 h2;simp only[List.length_map,List.length_range]at h1;simp[Function.comp,Nat.mod_eq_of_lt h1,h1]
theorem XK{t e:TypeId}{i:TypeInfo}{z:Value}{len:Nat}{parts:Array (Nat×Value)}{K:KT}(ht:P.underlying t=some (.slice e))
  (hi:P.info? e=some i) (hz:i.zero=some z) (hl:len*i.size<=16777216) (hzs:z.cells.size=i.size)
  (hq:cz e (bO z.cells.toList len) (parts.toList.map λ(j,x)=>(j*i.size,i.size,x)) len h K):
  wpS P (Instr.buildSlice t len parts) h K:=by
 obtain⟨hs,hk⟩:=hq;have a:=Cy z.cells len i.size hzs;have hsz:(bO z.cells.toList len).length=((Array.range (len*i.size)).map (z.cells[· %z.cells.size]!)).size:=by
  rw[a];simp
 unfold Instr.buildSlice;refine bQ (cM ht) ?_;dsimp only;refine bQ (ic hi) ?_;rw[if_neg (by omega)];have fin:∀(zero:Array Value),(Array.range (len*i.size)).map (zero[· %zero.size]!)=(bO z.cells.toList len).toArray->
   wpS P (match Instr.fill (λj=>some (j*i.size,i.size)) ((Array.range (len*i.size)).map (zero[· %zero.size]!)) parts.toList with
    |some cells=>do pure (.slice (some (<-newRow e cells)) len len)
    |x=>stuck "buildSlice: a part of the wrong size") h K:=by
  intro zero hzero;rw[hzero,fill_eq parts.toList _ _ (Cv _) (by simpa using hs)];exact hk
 split
 ·rename_i h0;refine fin #[] ?_;rw[<-a,h0];simp
 ·refine bQ (mM hi hz) ?_;exact fin z.cells a
theorem wrap_i64{n:Int}(h0:0<=n)(h1:n<2^63):IntKind.i64.wrap n=n:=by
 have e:n%(2^IntKind.i64.bits:Int)=n:=Int.emod_eq_of_lt h0 (by show n<2^64;omega);have f:decide (n>=(2^(IntKind.i64.bits-1):Int))=false:=decide_eq_false (by show ¬(n>=2^63);omega);unfold IntKind.wrap;dsimp only;rw[e,f];simp
theorem XL{t e:TypeId}{i:TypeInfo}{z:Value}{l c:Value}{K:KT}(ht:P.underlying t=some (.slice e))
  (hi:P.info? e=some i) (hz:i.zero=some z) (hzs:z.cells.size=i.size) (hq:c9 e i.bytes z.cells.toList l c h K):
  wpS P (Instr.makeSlice t l c) h K:=by
 unfold c9 at hq;split at hq
 ·rename_i k l k' c;obtain⟨h0,h1,h2,h3,hk⟩:=hq;have wl:=wrap_i64 h0 (by omega:l<2^63);have wc:=wrap_i64 (by omega:0<=c) h3;have b:=Cy z.cells c.toNat i.size hzs;unfold Instr.makeSlice;refine bQ (cM ht) ?_;dsimp only;refine bQ (a:=l) (by rfl) ?_;refine bQ (a:=c) (by rfl) ?_;refine bQ (nF hi) ?_;rw[wl,wc];have d:(((decide (c<0)||decide ((i.bytes:Int)*c>2^48))||decide (l<0))||decide (l>c))=false:=by
   simp;omega
  have f:¬((decide (c<0)||decide ((i.bytes:Int)*c>2^48)||decide (l<0)||decide (l>c))=true):=by rw[d];simp
  rw[if_neg f];unfold askRoom;have hk':K (.slice (some ⟨h.size,0,none⟩) l.toNat c.toNat) (h.push (.cells (bO z.cells.toList c.toNat).toArray e (0,0))):=hk;have go:wpS P (do
    let n:=c.toNat*(<-sizeOf e)
    let zero<-if n=0 then pure #[]else do pure (<-zeroValue e).cells
    let a<-newRow e ((Array.range n).map (zero[· %zero.size]!))
    pure (.slice (some a) l.toNat c.toNat):Sem Value) h K:=by
   refine bQ (ic hi) ?_;dsimp only;split
   ·rename_i hn;show K _ _;have :(Array.range (c.toNat*i.size)).map ((#[]:Array Value)[· %(#[]:Array Value).size]!)=(bO z.cells.toList c.toNat).toArray:=by
     rw[<-b,hn];simp
    rw[this];exact hk'
   ·refine bQ (mM hi hz) ?_;show K _ _;rw[b];exact hk'
  split
  ·exact gb (show wpS P (mark .noRoom) h _ from go)
  ·exact gb (Cx go)
 ·exact hq.elim
theorem qM{b o:Nat}:∀(vs:List Value)(i:Nat){h:aa}{K:aa->Prop},kX h b (o+i) vs K->
  wpS P (storeCells ⟨b,o,none⟩ vs i) h (λ_ h'=>K h')
 | [],i,h,K,hq=>hq
 |v::r,i,h,K,hq=>by
  obtain⟨hp,hc,hf,hk⟩:=hq;unfold storeCells;refine gb ?_;rw[pL];exact⟨hp,hc,hf,qM r (i+1) (by rw[<-Nat.add_assoc];exact hk)⟩
theorem XM{t:TypeId}{i:TypeInfo}{a v:Value}{K:KT}(hi:P.info? t=some i)(hq:aC i.size a v h K):
  wpS P (Instr.storeAt t a v) h (λ_ h'=>K undef h'):=by
 unfold aC at hq;split at hq
 ·rename_i b o;obtain⟨hs,hk⟩:=hq;unfold Instr.storeAt;refine bQ (a:=⟨b,o,none⟩) (by rfl) ?_;unfold storeVar;refine bQ (ic hi) ?_;rw[if_neg (by simpa using hs)];exact qM v.cells.toList 0 (by simpa using hk)
 ·exact hq.elim
end
open Go
section
variable{P:Program}{h:aa}
theorem XN{kd:TypeDesc}{old k:Value}(hs:Instr.sameNow kd k old=some true):aT P (Instr.keyThatStays old k) h=some k:=by
 have hb:Instr.sameBits (9999+1) old k=true:=by
  unfold Instr.sameNow at hs;split at hs
  ·rename_i kk a k' b;split at hs
   ·rename_i he;subst he;simp only[Option.some.injEq,beq_iff_eq]at hs;subst hs;simp[Instr.sameBits]
   ·cases hs
  ·simp only[Option.some.injEq]at hs;have :=(MapKept.bytes_beq _ _).1 hs;subst this;simp only[Instr.sameBits];exact(MapKept.bytes_beq _ _).2 rfl
  ·simp only[Option.some.injEq,beq_iff_eq]at hs;subst hs;simp[Instr.sameBits]
  ·cases hs
 unfold Instr.keyThatStays;rw[show(10000:Nat)=9999+1 from rfl,hb];rfl
theorem I5{k:Int×Int×Int}:∀{es:List MapEntry}{j i:Nat}{v:Value},lW k es j=some (some (i,v))->
  j<=i/\∃e,es[i-j]? =some e/\e.val=v/\qJ e.key=some k
 | [],j,i,v,hf=>by simp[lW]at hf
 | e::es,j,i,v,hf=>by
  simp only[lW]at hf;split at hf
  ·rename_i k' hk';split at hf
   ·rename_i hs;simp only[Option.some.injEq,Prod.mk.injEq]at hf;obtain⟨rfl,rfl⟩:=hf;exact⟨Nat.le_refl _,e,by simp,rfl,by rw[hk',hs]⟩
   ·obtain⟨hle,e',he',hv,hs⟩:=I5 hf;refine⟨by omega,e',?_,hv,hs⟩;have :i-j=(i-(j+1))+1:=by omega
    rw[this];simpa using he'
  ·cases hf
theorem I6{kd:TypeDesc}{k:Value}{es:List MapEntry}{i:Nat}{v:Value}(hf:jE kd k es=some (some (i,v))):
  True/\∃e,es[i]? =some e/\e.val=v/\aT P (Instr.keyThatStays e.key k) h=some k:=by
 refine⟨trivial,?_⟩;by_cases ha:∃m e,kd=.array m e
 ·obtain⟨m,e,rfl⟩:=ha;simp only[jE]at hf;split at hf
  ·rename_i a hk;obtain⟨_,e,he,hv,hs⟩:=I5 hf;refine⟨e,by simpa using he,hv,?_⟩;rw[sL hk,sL hs];unfold Instr.keyThatStays;rw[if_pos (by simp[Instr.sameBits])];rfl
  ·cases hf
 ·have hf':Instr.findNow kd k es 0=some (some (i,v)):=by
   cases kd<;>first |exact hf|exact(ha ⟨_,_,rfl⟩).elim
  obtain⟨_,e,he,hv,hs⟩:=yN hf';exact⟨e,by simpa using he,hv,XN hs⟩
theorem yP{r:Nat}{es:Array MapEntry}{clock:Nat}(hm:h[r]? =some (.map es clock)):aT P (getObj r) h=some (.map es clock):=by
 simp[getObj,aT,hm]
theorem qN{r:Nat}{es:Array MapEntry}{clock:Nat}{o:Obj}{K:Unit->aa->Prop}(hm:h[r]? =some (.map es clock))(hk:K () (h.setIfInBounds r o)):
  wpS P (setObj r o) h K:=by
 simp[setObj,wpS,hm];exact hk
theorem I7{t kt et:TypeId}{kd:TypeDesc}{m k v:Value}{K:KT}(ht:P.underlying t=some (.map kt et))(hk:P.underlying kt=some kd)
  (hs:lX P kd=true) (hq:dQ kd m k v h K):wpS P (Instr.mapUpdate t m k v) h (λ_ h'=>K undef h'):=by
 unfold dQ at hq;split at hq
 ·rename_i r;split at hq
  ·rename_i es clock hm;unfold Instr.mapUpdate;refine bQ (cM ht) ?_;dsimp only;refine bQ (yP hm) ?_;dsimp only;split at hq
   ·rename_i i old hf;refine bQ (nG (n:=9998) hk hs hf) ?_;refine bQ (ow hk hs hf) ?_;dsimp only;obtain⟨_,e,he,_,b⟩:=I6 hf;have he':es[i]? =some e:=by simpa using he
    refine bQ (a:=k) (by rw[he'];exact b) ?_;exact qN hm hq
   ·rename_i hf;refine bQ (nG (n:=9998) hk hs hf) ?_;refine bQ (ow hk hs hf) ?_;exact qN hm hq
   ·exact hq.elim
  ·exact hq.elim
 ·exact hq.elim
theorem XO{t kt et:TypeId}{kd:TypeDesc}{b:TypeInfo}{z m k:Value}{K:KT}(ht:P.underlying t=some (.map kt et))(hk:P.underlying kt=some kd)
  (hs:lX P kd=true) (he:P.info? et=some b) (hz:b.zero=some z) (hq:j8 kd z m k h K):wpS P (Instr.mapEntry t m k) h K:=by
 unfold j8 at hq;split at hq
 ·rename_i r;split at hq
  ·rename_i es clock hm;unfold Instr.mapEntry;refine bQ (cM ht) ?_;dsimp only;refine bQ (yP hm) ?_;dsimp only;split at hq
   ·rename_i i old hf;refine bQ (nG (n:=9998) hk hs hf) ?_;refine bQ (ow hk hs hf) ?_;dsimp only;obtain⟨_,e,he,_,c⟩:=I6 hf;have he':es[i]? =some e:=by simpa using he
    refine bQ (a:=k) (by rw[he'];exact c) ?_;refine gb (qN hm ?_);exact hq
   ·rename_i hf;refine bQ (nG (n:=9998) hk hs hf) ?_;refine bQ (ow hk hs hf) ?_;dsimp only;refine bQ (mM he hz) ?_;refine gb (qN hm ?_);exact hq
   ·exact hq.elim
  ·exact hq.elim
 ·exact hq.elim
theorem XP{t:TypeId}{m s v:Value}{K:KT}(hq:jF m s v h K):wpS P (Instr.entryStore t m s v) h (λ_ h'=>K undef h'):=by
 unfold jF at hq;split at hq
 ·rename_i r k n;split at hq
  ·rename_i es clock hm;split at hq
   ·rename_i i hi;unfold Instr.entryStore;dsimp only;refine bQ (yP hm) ?_;dsimp only;refine bQ (a:=n) (by rfl) ?_;rw[hi];exact qN hm hq
   ·exact hq.elim
  ·exact hq.elim
 ·exact hq.elim
theorem XQ{t kt et:TypeId}{kd:TypeDesc}{argTypes:Array TypeId}{type:TypeId}{args:Array Value}{m k:Value}{K:KT}(hT:argTypes[0]? =some t)
  (hargs:args.toList=[m,k]) (ht:P.underlying t=some (.map kt et)) (hk:P.underlying kt=some kd)
  (hs:lX P kd=true) (hq:qK kd m k h K):wpS P (Builtin.delete_ argTypes type args) h K:=by
 have ha:args= #[m,k]:=by apply Array.ext';simpa using hargs
 subst ha;unfold qK at hq;unfold Builtin.delete_;simp only[hT,List.getElem?_toArray,List.getElem?_cons_zero,List.getElem?_cons_succ];refine bQ (cM ht) ?_;dsimp only;split at hq
 ·split at hq
  ·rename_i r hf;refine bQ (nG (n:=9998) hk hs hf) ?_;exact hq
  ·exact hq.elim
 ·rename_i r;split at hq
  ·rename_i es clock hm;refine bQ (yP hm) ?_;dsimp only;split at hq
   ·rename_i i old hf;refine bQ (nG (n:=9998) hk hs hf) ?_;refine bQ (ow hk hs hf) ?_;dsimp only;exact gb (qN hm hq)
   ·rename_i hf;refine bQ (nG (n:=9998) hk hs hf) ?_;refine bQ (ow hk hs hf) ?_;dsimp only;exact gb (qN hm hq)
   ·exact hq.elim
  ·exact hq.elim
 ·exact hq.elim
theorem yQ{size n c l:Nat}{a:Option Addr}{vs:List Value}(hc:gM h size n a=some vs):aT P (Builtin.firstCells size n (.slice a l c)) h=some vs.toArray:=by
 unfold gM at hc;split at hc
 ·simp only[Option.some.injEq]at hc;subst hc;rfl
 ·exact Co hc
 ·cases hc
theorem yR(z:Array Value)(n:Nat):Builtin.zeroCells z n=(bO z.toList n).toArray:=Cy z n z.size rfl
theorem XR{t e:TypeId}{i:TypeInfo}{argTypes:Array TypeId}{type:TypeId}{args:Array Value}{d x:Value}{K:KT}
  (hT:argTypes[0]? =some t) (hargs:args.toList=[d,x]) (ht:P.underlying t=some (.slice e)) (hi:P.info? e=some i)
  (hq:jl i.size d x h K):wpS P (Builtin.copy_ argTypes type args) h K:=by
 have ha:args= #[d,x]:=by apply Array.ext';simpa using hargs
 subst ha;unfold jl at hq;split at hq
 ·rename_i base dLen dc c n xc;split at hq
  ·rename_i new hnew;have f:aT P (Builtin.firstCells i.size (Nat.min n dLen) (.slice c n xc)) h=some new.toArray:=yQ hnew;unfold Builtin.copy_;simp only[hT,List.getElem?_toArray,List.getElem?_cons_zero,List.getElem?_cons_succ];refine bQ (cM ht) ?_;dsimp only;refine bQ (a:=n) (by rfl) ?_;refine bQ (ic hi) ?_;refine bQ f ?_;split at hq
   ·rename_i b o;dsimp only;refine gb ?_;exact nE (λ_ _ hk=>hk) (qM (P:=P) (b:=b) (o:=o) (K:=K (.int .i64 (Nat.min n dLen))) new 0 (by simpa using hq))
   ·exact hq
   ·exact hq.elim
  ·exact hq.elim
 ·exact hq.elim
theorem XS{t kt et:TypeId}{m:Value}{K:KT}(ht:P.underlying t=some (.map kt et))(hq:yJ m h K):wpS P (Instr.range t m) h K:=by
 unfold yJ at hq;unfold Instr.range;refine bQ (cM ht) ?_;split at hq
 ·exact hq
 ·rename_i b;split at hq
  ·rename_i es clock hb;dsimp only;refine bQ (a:=Obj.map es clock) (by simp[getObj,aT,hb]) ?_;exact hq
  ·exact hq.elim
 ·exact hq.elim
theorem XT{α:Type}{n:Nat}{k:Nat->Sem α}{K:α->aa->Prop}(hn:0<n)(hk:∀i,i<n->wpS P (k i) h K):wpS P (choose (.mapNext n)>>=k) h K:=by
 show wpS P (Sem.choose (.mapNext n) λt=>Sem.bind (.pure t) k) h K;simp only[wpS];split
 ·exact hk 0 hn
 ·exact λt=>hk _ (Nat.mod_lt _ hn)
theorem XU {it:Value} {ty:TypeId} {K:KT} (hq:yK it h K):wpS P (Instr.next it false ty) h K:=by
 unfold yK at hq;split at hq
 ·rename_i r;split at hq
  ·rename_i a b c hr;unfold Instr.next;dsimp only;refine bQ (a:=Obj.mapIter none a b c) (by simp[getObj,aT,hr]) ?_;exact hq
  ·rename_i m since seen last hr;split at hq
   ·rename_i es clock hm;obtain⟨h1,h2,h3⟩:=hq;unfold Instr.next;dsimp only;refine bQ (a:=Obj.mapIter (some m) since seen last) (by simp[getObj,aT,hr]) ?_;dsimp only;refine bQ (a:=Obj.map es clock) (by simp[getObj,aT,hm]) ?_;dsimp only;rw[if_neg (by simpa using h1)];generalize hl:Array.filter (λe=> !seen.contains e.born) es=left;have hl':Cn es seen=left:=hl;rw[hl']at h2 h3;have hsub:∀e,e∈Array.filter (λx=>decide (x.born<since)) left++Array.filter (λx=>decide (x.born>=since)) left->e∈left:=λe he=>by
     rcases Array.mem_append.1 he with he|he
     ·exact(Array.mem_filter.1 he).1
     ·exact(Array.mem_filter.1 he).1
    refine XT ?_ λi hi=> ?_
    ·by_cases hem:(Array.filter (λx=>decide (x.born<since)) left).isEmpty=true
     ·rw[if_pos hem];simp;omega
     ·rw[if_neg hem];simp only[Array.isEmpty_iff,<-Array.size_eq_zero_iff]at hem;simp only[Array.size_append,Array.size_map,Array.size_empty];omega
    ·split
     ·rename_i e he;refine gb ?_;have hmem:=Array.mem_of_getElem? he;have he':e∈left:=by
       rcases Array.mem_append.1 hmem with hx|hx
       ·split at hx<;>simp at hx
       ·obtain⟨e',he',e2⟩:=Array.mem_map.1 hx;cases e2;exact hsub _ he'
      simp[setObj,wpS,hr];exact h2 e he'
     ·rename_i he;have hmem:=Array.mem_of_getElem? he;refine h3 ?_;rcases Array.mem_append.1 hmem with hx|hx
      ·split at hx
       ·rename_i hem;exact hem
       ·simp at hx
      ·obtain⟨e',_,e2⟩:=Array.mem_map.1 hx;cases e2
     ·rename_i he;rw[Array.getElem?_eq_none_iff]at he;omega
   ·exact hq.elim
  ·exact hq.elim
 ·exact hq.elim
theorem XV{t e:TypeId}{i:TypeInfo}{argTypes:Array TypeId}{type:TypeId}{args:Array Value}{d x:Value}{K:KT}
  (hT:argTypes[0]? =some t) (hargs:args.toList=[d,x]) (ht:P.underlying t=some (.slice e)) (hi:P.info? e=some i)
  (hq:yL d x h K):wpS P (Builtin.copy_ argTypes type args) h K:=by
 have ha:args= #[d,x]:=by apply Array.ext';simpa using hargs
 subst ha;unfold yL at hq;split at hq
 ·rename_i base dLen dc s;unfold Builtin.copy_;simp only[hT,List.getElem?_toArray,List.getElem?_cons_zero,List.getElem?_cons_succ];refine bQ (cM ht) ?_;dsimp only;refine bQ (a:=s.size) (by rfl) ?_;refine bQ (ic hi) ?_;refine bQ (a:=(s.extract 0 (Nat.min s.size dLen)).data.map λb=>Value.int .u8 b.toNat) (by rfl) ?_;split at hq
  ·rename_i b o;dsimp only;refine gb ?_;exact nE (λ_ _ hk=>hk) (qM (P:=P) (b:=b) (o:=o) (K:=K (.int .i64 (Nat.min s.size dLen))) _ 0 (by simpa using hq))
  ·exact hq
  ·exact hq.elim
 ·exact hq.elim
theorem XW{t e xt g:TypeId}{i:TypeInfo}{z:Value}{argTypes:Array TypeId}{type:TypeId}{args:Array Value}{s x:Value}{K:KT}
  (hT:argTypes[0]? =some t) (hX:argTypes[1]? =some xt) (hargs:args.toList=[s,x]) (ht:P.underlying t=some (.slice e)) (hx:P.underlying xt=some (.slice g))
  (hi:P.info? e=some i) (hz:i.zero=some z)
  (hq:cZ e i.size i.bytes z.cells.toList s x h K):wpS P (Builtin.append_ argTypes type args) h K:=by
 have ha:args= #[s,x]:=by apply Array.ext';simpa using hargs
 subst ha;unfold cZ at hq;split at hq
 ·rename_i base sLen sCap d n xc;split at hq
  ·rename_i new hnew;have f:aT P (Builtin.firstCells i.size n (.slice d n xc)) h=some new.toArray:=yQ hnew;unfold Builtin.append_;simp only[hT,hX,List.getElem?_toArray,List.getElem?_cons_zero,List.getElem?_cons_succ];refine bQ (cM ht) ?_;dsimp only;refine bQ (ic hi) ?_;refine bQ (cM hx) ?_;dsimp only;refine bQ (gX _) ?_;simp only[Bool.false_eq_true,if_false,Bool.not_false,if_true];refine bQ (a:=n) (by rfl) ?_;split at hq
   ·rename_i hle;rw[if_pos hle];refine bQ f ?_;split at hq
    ·rename_i b o;dsimp only;refine gb ?_;rw[pL];exact nE (λ_ _ hk=>hk) (qM (P:=P) (b:=b) (o:=o+sLen*i.size) (K:=K (.slice (some ⟨b,o,none⟩) (sLen+n) sCap)) new 0 (by simpa using hq))
    ·exact hq
    ·exact hq.elim
   ·rename_i hle;rw[if_neg hle];split at hq
    ·rename_i old hold;obtain⟨hcap,hb,hk⟩:=hq;have hold':aT P (Builtin.firstCells i.size sLen (.slice base sLen sCap)) h=some old.toArray:=yQ hold;refine bQ (nF hi) ?_;rw[if_neg (by
      rintro⟨h1,_⟩;have :IntKind.i64.max=2^63-1:=rfl;omega)]
     refine bQ (nF hi) ?_;rw[if_neg (by omega)];refine gb ?_;have hch:∀c,sLen+n<=c->c<2^63->wpS P (do
       askRoom (c*(<-typeInfo e).bytes)
       let old<-Builtin.firstCells i.size sLen (.slice base sLen sCap)
       let new<-Builtin.firstCells i.size n (.slice d n xc)
       let rest:=Builtin.zeroCells (<-zeroValue e).cells (c-(sLen+n))
       pure (.slice (some (<-newRow e (old++new++rest))) (sLen+n) c):Sem Value) h K:=by
      intro c hc j;have fin:wpS P (do
       let old<-Builtin.firstCells i.size sLen (.slice base sLen sCap)
       let new<-Builtin.firstCells i.size n (.slice d n xc)
       let rest:=Builtin.zeroCells (<-zeroValue e).cells (c-(sLen+n))
       pure (.slice (some (<-newRow e (old++new++rest))) (sLen+n) c):Sem Value) h K:=by
       refine bQ hold' (bQ f (bQ (mM hi hz) ?_));rw[yR];show K _ _;have :=hk c hc j;simpa using this
      refine bQ (nF hi) ?_;unfold askRoom;split
      ·exact gb (show wpS P (mark .noRoom) h _ from fin)
      ·exact gb (Cx fin)
     show wpS P (choose _) h _;unfold choose;simp only[wpS,Question.forced,Bool.false_eq_true,if_false];intro t;refine hch _ (Nat.le_add_right _ _) ?_;show sLen+n+t%(2^63-(sLen+n))<2^63;have :=Nat.mod_lt t (show 0<2^63-(sLen+n) by omega);omega
    ·exact hq.elim
  ·exact hq.elim
 ·exact hq.elim
theorem XX{t e:TypeId}{i:TypeInfo}{z:Value}{argTypes:Array TypeId}{type:TypeId}{args:Array Value}{x:Value}{K:KT}
  (hT:argTypes[0]? =some t) (hargs:args.toList=[x]) (ht:P.underlying t=some (.slice e)) (hi:P.info? e=some i) (hz:i.zero=some z)
  (hq:sG z.cells.toList x h K):wpS P (Builtin.clear_ argTypes type args) h K:=by
 have ha:args= #[x]:=by apply Array.ext';simpa using hargs
 subst ha;unfold sG at hq;split at hq
 ·unfold Builtin.clear_;simp only[hT,List.getElem?_toArray,List.getElem?_cons_zero];refine bQ (cM ht) ?_;exact hq
 ·split at hq
  ·unfold Builtin.clear_;simp only[hT,List.getElem?_toArray,List.getElem?_cons_zero];refine bQ (cM ht) ?_;exact hq
  ·rename_i b o _ _ m;unfold Builtin.clear_;simp only[hT,List.getElem?_toArray,List.getElem?_cons_zero];refine bQ (cM ht) ?_;refine bQ (mM hi hz) ?_;rw[yR];refine gb ?_;exact nE (λ_ _ hk=>hk) (qM (P:=P) (b:=b) (o:=o) (K:=K (.tuple #[])) (bO z.cells.toList (m+1)) 0 (by simpa using hq))
 ·exact hq.elim
theorem XY{t e xt:TypeId}{kk:IntKind}{i:TypeInfo}{z:Value}{argTypes:Array TypeId}{type:TypeId}{args:Array Value}{s x:Value}{K:KT}
  (hT:argTypes[0]? =some t) (hX:argTypes[1]? =some xt) (hargs:args.toList=[s,x]) (ht:P.underlying t=some (.slice e)) (hx:P.underlying xt=some (.int kk))
  (hi:P.info? e=some i) (hz:i.zero=some z) (hzs:z.cells.size=i.size)
  (hq:yI e i.size i.bytes z.cells.toList s x h K):wpS P (Builtin.append_ argTypes type args) h K:=by
 have ha:args= #[s,x]:=by apply Array.ext';simpa using hargs
 subst ha;unfold yI at hq;split at hq
 ·rename_i base sLen sCap l;obtain⟨h0,h63,hby,hq⟩:=hq;obtain⟨n,rfl⟩:=Int.eq_ofNat_of_zero_le h0;simp only[Int.toNat_natCast]at hq;have hap:∀h',aT P (if n*i.size=0 then pure #[]else do pure (Builtin.zeroCells (<-zeroValue e).cells n)) h'=some (bO z.cells.toList n).toArray:=by
   intro h';split
   ·rename_i d;have :bO z.cells.toList n=[]:=by
     apply List.eq_nil_of_length_eq_zero;simp[bO,hzs,d]
    rw[this];rfl
   ·rw[aU (mM hi hz),yR];rfl
  unfold Builtin.append_;simp only[hT,hX,List.getElem?_toArray,List.getElem?_cons_zero,List.getElem?_cons_succ];refine bQ (cM ht) ?_;dsimp only;refine bQ (ic hi) ?_;refine bQ (cM hx) ?_;dsimp only;refine bQ (gX _) ?_;simp only[Bool.not_true,Bool.false_eq_true,if_false,if_true];have hw:IntKind.i64.wrap (n:Int)=n:=by
   simp only[IntKind.wrap,IntKind.signed,IntKind.bits];simp;omega
  refine bQ (a:=(n:Int)) (by rfl) ?_;rw[hw,if_neg (by omega)];refine bQ (nF hi) ?_;rw[if_neg (by omega)];refine bQ (gX _) ?_;simp only[Int.toNat_natCast];split at hq
  ·rename_i hle;rw[if_pos hle];refine bQ (hap _) ?_;split at hq
   ·rename_i b o;dsimp only;refine gb ?_;rw[pL];exact nE (λ_ _ hk=>hk) (qM (P:=P) (b:=b) (o:=o+sLen*i.size) (K:=K (.slice (some ⟨b,o,none⟩) (sLen+n) sCap)) (bO z.cells.toList n) 0 (by simpa using hq))
   ·exact hq
   ·exact hq.elim
  ·rename_i hle;rw[if_neg hle];split at hq
   ·rename_i old hold;obtain⟨hcap,hb,hk⟩:=hq;have hold':aT P (Builtin.firstCells i.size sLen (.slice base sLen sCap)) h=some old.toArray:=yQ hold;refine bQ (nF hi) ?_;rw[if_neg (by
     rintro⟨h1,_⟩;have :IntKind.i64.max=2^63-1:=rfl;omega)]
    refine bQ (nF hi) ?_;rw[if_neg (by omega)];refine gb ?_;have hch:∀c,sLen+n<=c->c<2^63->wpS P (do
      askRoom (c*(<-typeInfo e).bytes)
      let old<-Builtin.firstCells i.size sLen (.slice base sLen sCap)
      let new<-(if n*i.size=0 then pure #[]else do pure (Builtin.zeroCells (<-zeroValue e).cells n))
      let rest:=Builtin.zeroCells (<-zeroValue e).cells (c-(sLen+n))
      pure (.slice (some (<-newRow e (old++new++rest))) (sLen+n) c):Sem Value) h K:=by
     intro c hc f;have fin:wpS P (do
      let old<-Builtin.firstCells i.size sLen (.slice base sLen sCap)
      let new<-(if n*i.size=0 then pure #[]else do pure (Builtin.zeroCells (<-zeroValue e).cells n))
      let rest:=Builtin.zeroCells (<-zeroValue e).cells (c-(sLen+n))
      pure (.slice (some (<-newRow e (old++new++rest))) (sLen+n) c):Sem Value) h K:=by
      refine bQ hold' (bQ (hap _) (bQ (mM hi hz) ?_));rw[yR];show K _ _;have :=hk c hc f;simpa using this
     refine bQ (nF hi) ?_;unfold askRoom;split
     ·exact gb (show wpS P (mark .noRoom) h _ from fin)
     ·exact gb (Cx fin)
    show wpS P (choose _) h _;unfold choose;simp only[wpS,Question.forced,Bool.false_eq_true,if_false];intro t;refine hch _ (Nat.le_add_right _ _) ?_;show sLen+n+t%(2^63-(sLen+n))<2^63;have :=Nat.mod_lt t (show 0<2^63-(sLen+n) by omega);omega
   ·exact hq.elim
 ·exact hq.elim
theorem I8{f:FuncId}{args:Array Value}{K:KT}(hq:aE P f args h K):wpS P (callFunc f args) h (lY P K):=by
 obtain⟨hc,hk⟩:=hq;unfold iS at hc;split at hc
 ·rename_i fn hfn;simp only[Bool.and_eq_true,Bool.not_eq_true',beq_eq_false_iff_ne,ne_eq]at hc;have hb:fn.body.isNone=false:=by cases hx:fn.body<;>simp_all
  unfold callFunc;refine bQ (a:=P) (by rfl) ?_;simp only[hfn,hb];rw[if_neg (by simpa using hc.2)];exact hk
 ·cases hc
theorem XZ{v:Value}{args:Array Value}{K:KT}(hq:aS P v args h K):
  wpS P (do let d<-Deferred.ofValue v args;invoke d.target d.args) h (lY P K):=by
 unfold aS at hq;split at hq
 ·refine bQ (gX _) ?_;exact I8 hq
 ·rename_i l first _
  refine bQ (gX _) ?_;unfold ot at hq;split at hq
  ·rename_i L hL;show wpS P (Instr.yield l (first ++args)) h _;unfold Instr.yield Instr.getLoop;refine bQ (a:=L) (by rw[aU (a:=.loop L) (by simp[getObj,aT,hL])];rfl) ?_;rw[if_neg (by simpa using hq.1)];exact hq.2
  ·exact hq.elim
 ·exact hq.elim
end
open Go
section
variable{P:Program}{h:aa}
theorem X0 {ρ:Operand->Value} {o:Oper} {K:KT} (hq:lop P ρ o.op h K):wpS P (execOp ρ o) h (lY P K):=by
 obtain⟨dst,op,type,pos,after,guard⟩:=o;dsimp only at hq;unfold execOp;cases op<;>simp only[lop]at hq
 case box t v=>exact ox (XI hq)
 case alloc t=>
  split at hq
  ·rename_i i hi;split at hq
   ·rename_i z hz;exact ox (XJ hi hz hq)
   ·exact hq.elim
  ·exact hq.elim
 case buildSlice t len parts=>
  split at hq
  ·rename_i e ht;split at hq
   ·rename_i i hi;split at hq
    ·rename_i z hz;split at hq
     ·rename_i h1 h2;refine ox (XK ht hi hz (Nat.le_of_ble_eq_true h1) (Nat.eq_of_beq_eq_true h2) ?_);have :(parts.map λ(x:Nat×Operand)=>(x.1,ρ x.2)).toList.map (λ(x:Nat×Value)=>(x.1*i.size,i.size,x.2))=parts.toList.map λ(x:Nat×Operand)=>(x.1*i.size,i.size,ρ x.2):=by simp
      show cz e _ ((parts.map λ(x:Nat×Operand)=>(x.1,ρ x.2)).toList.map (λ(x:Nat×Value)=>(x.1*i.size,i.size,x.2))) len h K;rw[this];exact hq
     ·exact hq.elim
    ·exact hq.elim
   ·exact hq.elim
  ·exact hq.elim
 case makeSlice t l c=>
  split at hq
  ·rename_i e ht;split at hq
   ·rename_i i hi;split at hq
    ·rename_i z hz;split at hq
     ·rename_i h2;exact ox (XL ht hi hz (Nat.eq_of_beq_eq_true h2) hq)
     ·exact hq.elim
    ·exact hq.elim
   ·exact hq.elim
  ·exact hq.elim
 case makeMap t r=>
  cases r with
  |none=>exact ox hq
  |some _=>exact hq.elim
 case range t m=>
  split at hq
  ·rename_i kt et ht;exact ox (XS ht hq)
  ·exact hq.elim
 case next it s=>
  split at hq
  ·exact hq.elim
  ·exact ox (XU hq)
 case store t a x=>
  split at hq
  ·rename_i i hi;exact yO (XM hi hq)
  ·exact hq.elim
 case mapUpdate t m k x=>
  split at hq
  ·rename_i kt et ht;split at hq
   ·rename_i kd hk;split at hq
    ·rename_i hs;exact yO (I7 ht hk hs hq)
    ·exact hq.elim
   ·exact hq.elim
  ·exact hq.elim
 case insert t m k x=>
  split at hq
  ·rename_i kt et ht;split at hq
   ·rename_i kd hk;split at hq
    ·rename_i hs;exact yO (I7 ht hk hs hq)
    ·exact hq.elim
   ·exact hq.elim
  ·exact hq.elim
 case mapEntry t m k=>
  split at hq
  ·rename_i kt et ht;split at hq
   ·rename_i kd f hk he;split at hq
    ·rename_i z hs hz;exact ox (XO ht hk hs he hz hq)
    ·exact hq.elim
   ·exact hq.elim
  ·exact hq.elim
 case entryStore t m s x=>exact yO (XP hq)
 case call c=>
  obtain⟨callee,args,argTypes⟩:=c;dsimp only at hq ⊢;have core:∀{b:Builtin}{s:Sem Value},(∀cs,builtin b argTypes type cs (args.map ρ)=(do pure (.value (<-s))))->wpS P s h K->
    wpS P (do let d<-resolve ρ {callee:=.builtin b,args,argTypes} type;invoke d.target d.args) h (lY P K):=by
   intro b s hs hk;show wpS P (builtin b argTypes type _ (args.map ρ)) h _;rw[hs];exact ox hk
  have two:∀{x y:Operand},args.toList=[x,y]->(args.map ρ).toList=[ρ x,ρ y]:=λe=>by simp[e]
  split at hq
  ·split at hq
   ·rename_i t xt s x hT hX hargs;split at hq
    ·rename_i e g ht hx;split at hq
     ·rename_i i hi;split at hq
      ·rename_i z hz;split at hq
       ·exact core (λ_=>rfl) (XW hT hX (two hargs) ht hx hi hz hq)
       ·exact hq.elim
      ·exact hq.elim
     ·exact hq.elim
    ·rename_i e kk ht hx;split at hq
     ·rename_i i hi;split at hq
      ·rename_i z hz;split at hq
       ·rename_i hb;exact core (λ_=>rfl) (XY hT hX (two hargs) ht hx hi hz (Nat.eq_of_beq_eq_true hb) hq)
       ·exact hq.elim
      ·exact hq.elim
     ·exact hq.elim
    ·exact hq.elim
   ·exact hq.elim
  ·split at hq
   ·rename_i t d x hT hargs;split at hq
    ·rename_i e ht;split at hq
     ·rename_i i hi;split at hq
      ·exact core (λ_=>rfl) (XV hT (two hargs) ht hi hq)
      ·exact core (λ_=>rfl) (XR hT (two hargs) ht hi hq)
     ·exact hq.elim
    ·exact hq.elim
   ·exact hq.elim
  ·split at hq
   ·rename_i t m k hT hargs;split at hq
    ·rename_i kt et ht;split at hq
     ·rename_i kd hk;split at hq
      ·rename_i hs;exact core (λ_=>rfl) (XQ hT (two hargs) ht hk hs hq)
      ·exact hq.elim
     ·exact hq.elim
    ·exact hq.elim
   ·exact hq.elim
  ·split at hq
   ·rename_i t x hT hargs;split at hq
    ·rename_i e ht;split at hq
     ·rename_i i hi;split at hq
      ·rename_i z hz;exact core (λ_=>rfl) (XX hT (by simp[hargs]) ht hi hz hq)
      ·exact hq.elim
     ·exact hq.elim
    ·exact hq.elim
   ·exact hq.elim
  ·exact XZ (by simpa only[Cw]using hq)
  ·exact hq.elim
 all_goals exact hq.elim
def oy:Op->Bool
 | .move _| .assign _| .pick .. | .load .. | .nilCheck _| .binOp .. | .unOp .. | .convert .. | .makeInterface .. | .makeFunc .. | .slice .. | .fieldAddr .. | .field ..
 | .indexAddr .. | .index .. | .lookup .. | .extract .. | .build .. | .entry _=>true
 | .call {callee:=.builtin .len, ..}| .call {callee:=.builtin .cap, ..}| .call {callee:=.builtin .min, ..}| .call {callee:=.builtin .max, ..}=>true
 |_=>false
def sN(P:Program):Op->Bool
 | .load .. | .lookup .. | .entry _=>false
 | .convert _ d _=>(match P.underlying d with
  |some .string=>false
  |_=>true)
 | .call {callee:=.builtin .len,argTypes, ..}=>(match argTypes[0]? with
  |some t=>(match P.underlying t with
   |some (.map _ _)=>false
   |_=>true)
  |none=>true)
 |_=>true
def uZ:Op->Bool
 | .box .. | .alloc _| .buildSlice .. | .makeSlice .. | .makeMap .. =>true
 |_=>false
theorem u0{h:aa}{r:Nat}{x o:Obj}(hx:h[r]? =some x):(h.push o)[r]? =some x:=by
 have :=(Array.getElem?_eq_some_iff.1 hx).1;rw[Array.getElem?_push];simp[Nat.ne_of_lt this,hx]
theorem I9{h:aa}{a:Addr}{v:Value}{o:Obj}(hv:hcell h a=some v):hcell (h.push o) a=some v:=by
 unfold hcell at *;split at hv
 ·rename_i hb;rw[u0 hb];exact hv
 ·cases hv
theorem Cz{h:aa}{b:Nat}{o:Obj}:∀{n i:Nat}{l:List Value},gL h b i n=some l->gL (h.push o) b i n=some l
 |0,_,_,hl=>hl
 | n+1,i,l,hl=>by
  simp only[gL]at *;split at hl
  ·rename_i v hv;rw[I9 hv];split at hl
   ·rename_i l' hl';rw[Cz hl'];exact hl
   ·cases hl
  ·cases hl
theorem X1{ρ:Operand->Value}{op:Op}{o:Obj}{K:Value->Prop}(hq:ig P ρ op h K):ig P ρ op (h.push o) K:=by
 cases op<;>simp only[ig]at hq ⊢ <;>try exact hq
 case load t a=>
  split at hq
  ·rename_i d i hd hi;split at hq
   ·rename_i ha;unfold aZ at *;split at hq
    ·split at hq
     ·rename_i l hl;rw[Cz hl];exact hq
     ·exact hq.elim
    ·exact hq.elim
   ·rename_i ha;unfold af at *;split at hq
    ·split at hq
     ·rename_i v hv;rw[I9 hv];exact hq
     ·exact hq.elim
    ·exact hq.elim
  ·exact hq.elim
 case convert s d x=>
  split at hq
  ·exact hq
  ·split at hq
   ·unfold qL at *;split at hq
    ·exact hq
    ·split at hq
     ·rename_i l hl;rw[Cz hl];exact hq
     ·exact hq.elim
    ·exact hq.elim
   ·exact hq.elim
  ·exact hq.elim
 case entry it=>
  unfold sH at *;split at hq
  ·rename_i r;split at hq
   ·rename_i m x seen stepped hr;rw[u0 hr];dsimp only;split at hq
    ·rename_i stamp es clock hb hm;rw[hb,u0 hm];exact hq
    ·exact hq.elim
   ·exact hq.elim
  ·exact hq.elim
 case lookup t m k ok=>
  split at hq
  ·split at hq
   ·split at hq
    ·unfold de at *;split at hq
     ·exact hq
     ·rename_i r;split at hq
      ·rename_i es clock hm;rw[u0 hm];exact hq
      ·exact hq.elim
     ·exact hq.elim
    ·exact hq.elim
   ·exact hq.elim
  ·exact hq.elim
 case call c=>
  split at hq
  ·split at hq
   ·split at hq
    ·exact hq
    ·exact hq
    ·unfold pK at *;split at hq
     ·exact hq
     ·rename_i r;split at hq
      ·rename_i es clock hm;rw[u0 hm];exact hq
      ·exact hq.elim
     ·exact hq.elim
    ·exact hq
    ·exact hq.elim
   ·exact hq.elim
  all_goals exact hq
theorem X2{ρ:Operand->Value}{op:Op}{h':aa}{K:Value->Prop}(hp:sN P op=true)(hq:ig P ρ op h K):ig P ρ op h' K:=by
 cases op<;>simp only[ig]at hq ⊢ <;>try exact hq
 case convert s d x=>
  split at hq
  ·exact hq
  ·rename_i hs hd;simp[sN,hd]at hp
  ·exact hq.elim
 case entry it=>cases hp
 case load t a=>cases hp
 case lookup t m k ok=>cases hp
 case call c=>
  obtain⟨callee,args,argTypes⟩:=c;dsimp only at hq ⊢;split at hq
  ·split at hq
   ·rename_i t x hT hx;split at hq
    ·exact hq
    ·exact hq
    ·rename_i hd;simp[sN,hT,hd]at hp
    ·exact hq
    ·exact hq.elim
   ·exact hq.elim
  all_goals exact hq
theorem qO{b:Nat}{K K':aa->Prop}(hm:∀h,K h->K' h):∀(l:List Value)(o:Nat)(h:aa),kX h b o l K->kX h b o l K'
 | [],_,_,hl=>hm _ hl
 |_::r,o,_,hl=>⟨hl.1,hl.2.1,hl.2.2.1,qO hm r _ _ hl.2.2.2⟩
theorem X3 {ρ:Operand->Value} {op:Op} {K K':KT} (hm:∀v h,K v h->K' v h) (hl:lop P ρ op h K):lop P ρ op h K':=by
 cases op<;>simp only[lop]at hl ⊢ <;>try exact hl.elim
 case box t v=>exact hm _ _ hl
 case alloc t=>
  split at hl
  ·split at hl
   ·exact hm _ _ hl
   ·exact hl.elim
  ·exact hl.elim
 case buildSlice t len parts=>
  split at hl
  ·split at hl
   ·split at hl
    ·split at hl
     ·exact⟨hl.1,hm _ _ hl.2⟩
     ·exact hl.elim
    ·exact hl.elim
   ·exact hl.elim
  ·exact hl.elim
 case makeSlice t l c=>
  split at hl
  ·split at hl
   ·split at hl
    ·split at hl
     ·unfold c9 at *;split at hl
      ·exact⟨hl.1,hl.2.1,hl.2.2.1,hl.2.2.2.1,hm _ _ hl.2.2.2.2⟩
      ·exact hl.elim
     ·exact hl.elim
    ·exact hl.elim
   ·exact hl.elim
  ·exact hl.elim
 case range t m=>
  split at hl
  ·unfold yJ at *;split at hl
   ·exact hm _ _ hl
   ·split at hl
    ·exact hm _ _ hl
    ·exact hl.elim
   ·exact hl.elim
  ·exact hl.elim
 case next it s=>
  split at hl
  ·exact hl.elim
  ·unfold yK at *;split at hl
   ·split at hl
    ·exact hm _ _ hl
    ·split at hl
     ·exact⟨hl.1,λe he=>hm _ _ (hl.2.1 e he),λh=>hm _ _ (hl.2.2 h)⟩
     ·exact hl.elim
    ·exact hl.elim
   ·exact hl.elim
 case makeMap t r=>
  cases r with
  |none=>exact hm _ _ hl
  |some _=>exact hl.elim
 case store t a x=>
  split at hl
  ·unfold aC at *;split at hl
   ·exact⟨hl.1,qO (hm _) _ _ _ hl.2⟩
   ·exact hl.elim
  ·exact hl.elim
 case mapUpdate t m k x=>
  split at hl
  ·split at hl
   ·split at hl
    ·unfold dQ at *;split at hl
     ·split at hl
      ·split at hl
       ·exact hm _ _ hl
       ·exact hm _ _ hl
       ·exact hl.elim
      ·exact hl.elim
     ·exact hl.elim
    ·exact hl.elim
   ·exact hl.elim
  ·exact hl.elim
 case insert t m k x=>
  split at hl
  ·split at hl
   ·split at hl
    ·unfold dQ at *;split at hl
     ·split at hl
      ·split at hl
       ·exact hm _ _ hl
       ·exact hm _ _ hl
       ·exact hl.elim
      ·exact hl.elim
     ·exact hl.elim
    ·exact hl.elim
   ·exact hl.elim
  ·exact hl.elim
 case mapEntry t m k=>
  split at hl
  ·split at hl
   ·split at hl
    ·unfold j8 at *;split at hl
     ·split at hl
      ·split at hl
       ·exact hm _ _ hl
       ·exact hm _ _ hl
       ·exact hl.elim
      ·exact hl.elim
     ·exact hl.elim
    ·exact hl.elim
   ·exact hl.elim
  ·exact hl.elim
 case entryStore t m s x=>
  unfold jF at *;split at hl
  ·split at hl
   ·split at hl
    ·exact hm _ _ hl
    ·exact hl.elim
   ·exact hl.elim
  ·exact hl.elim
 case call c=>
  split at hl
  ·split at hl
   ·split at hl
    ·split at hl
     ·split at hl
      ·split at hl
       ·unfold cZ at *;split at hl
        ·split at hl
         ·split at hl
          ·rename_i hle;rw[if_pos hle];split at hl
           ·exact qO (hm _) _ _ _ hl
           ·exact hm _ _ hl
           ·exact hl.elim
          ·rename_i hle;rw[if_neg hle];split at hl
           ·exact⟨hl.1,hl.2.1,λc h1 h2=>hm _ _ (hl.2.2 c h1 h2)⟩
           ·exact hl.elim
         ·exact hl.elim
        ·exact hl.elim
       ·exact hl.elim
      ·exact hl.elim
     ·exact hl.elim
    ·split at hl
     ·split at hl
      ·split at hl
       ·unfold yI at *;split at hl
        ·obtain⟨h0,h1,h2,hl⟩:=hl;refine⟨h0,h1,h2,?_⟩;split at hl
         ·rename_i hle;rw[if_pos hle];split at hl
          ·exact qO (hm _) _ _ _ hl
          ·exact hm _ _ hl
          ·exact hl.elim
         ·rename_i hle;rw[if_neg hle];split at hl
          ·exact⟨hl.1,hl.2.1,λc h1 h2=>hm _ _ (hl.2.2 c h1 h2)⟩
          ·exact hl.elim
        ·exact hl.elim
       ·exact hl.elim
      ·exact hl.elim
     ·exact hl.elim
    ·exact hl.elim
   ·exact hl.elim
  ·split at hl
   ·split at hl
    ·split at hl
     ·split at hl
      ·unfold yL at *;split at hl
       ·split at hl
        ·exact qO (hm _) _ _ _ hl
        ·exact hm _ _ hl
        ·exact hl.elim
       ·exact hl.elim
      ·unfold jl at *;split at hl
       ·split at hl
        ·split at hl
         ·exact qO (hm _) _ _ _ hl
         ·exact hm _ _ hl
         ·exact hl.elim
        ·exact hl.elim
       ·exact hl.elim
     ·exact hl.elim
    ·exact hl.elim
   ·exact hl.elim
  ·split at hl
   ·split at hl
    ·split at hl
     ·split at hl
      ·unfold qK at *;split at hl
       ·split at hl
        ·exact hm _ _ hl
        ·exact hl.elim
       ·split at hl
        ·split at hl
         ·exact hm _ _ hl
         ·exact hm _ _ hl
         ·exact hl.elim
        ·exact hl.elim
       ·exact hl.elim
      ·exact hl.elim
     ·exact hl.elim
    ·exact hl.elim
   ·exact hl.elim
  ·split at hl
   ·split at hl
    ·split at hl
     ·split at hl
      ·unfold sG at *;split at hl
       ·exact hm _ _ hl
       ·split at hl
        ·exact hm _ _ hl
        ·exact qO (hm _) _ _ _ hl
       ·exact hl.elim
      ·exact hl.elim
     ·exact hl.elim
    ·exact hl.elim
   ·exact hl.elim
  ·exact aS.mono hl hm
  ·exact hl.elim
theorem X4{op:Op}(ha:uZ op=true):oy op=false:=by
 cases op<;>first |rfl|cases ha
theorem Ja{t:TypeId}{v:Value}{K:KT}(hq:aB t v h K):aB t v h (λv h'=>K v h'/\∃o,h'=h.push o):=⟨hq,_,rfl⟩
theorem X5{ρ:Operand->Value}{op:Op}{K:KT}(ha:uZ op=true)(hq:lop P ρ op h K):lop P ρ op h (λv h'=>K v h'/\∃o,h'=h.push o):=by
 cases op<;>simp only[lop]at hq ⊢ <;>try(cases ha)
 case box t v=>exact Ja hq
 case alloc t=>
  split at hq
  ·split at hq
   ·exact Ja hq
   ·exact hq.elim
  ·exact hq.elim
 case buildSlice t len parts=>
  split at hq
  ·split at hq
   ·split at hq
    ·split at hq
     ·exact⟨hq.1,hq.2,_,rfl⟩
     ·exact hq.elim
    ·exact hq.elim
   ·exact hq.elim
  ·exact hq.elim
 case makeSlice t l c=>
  split at hq
  ·split at hq
   ·split at hq
    ·split at hq
     ·unfold c9 at *;split at hq
      ·exact⟨hq.1,hq.2.1,hq.2.2.1,hq.2.2.2.1,hq.2.2.2.2,_,rfl⟩
      ·exact hq.elim
     ·exact hq.elim
    ·exact hq.elim
   ·exact hq.elim
  ·exact hq.elim
 case makeMap t r=>
  cases r with
  |none=>exact⟨hq,_,rfl⟩
  |some _=>exact hq.elim
def eF(T:(Value->Prop)->Prop):Prop:=∀K,T K->∃v,K v/\∀K':Value->Prop,K' v->T K'
theorem X6(c a b:Value):eF (sC c a b):=by
 intro K hK;unfold sC at *;split at hK
 ·exact⟨_,hK,λ_ h=>h⟩
 ·exact⟨_,hK,λ_ h=>h⟩
 ·exact hK.elim
theorem X7(h:aa)(a:Value):eF (af h a):=by
 intro K hK;unfold af at *;split at hK
 ·split at hK
  ·rename_i v hv;exact⟨_,hK,λ_ h=>h⟩
  ·exact hK.elim
 ·exact hK.elim
theorem X8(n:Nat)(h:aa)(a:Value):eF (aZ n h a):=by
 intro K hK;unfold aZ at *;split at hK
 ·split at hK
  ·rename_i v hv;exact⟨_,hK,λ_ h=>h⟩
  ·exact hK.elim
 ·exact hK.elim
theorem X9(v:Value):eF (aJ v):=by
 intro K hK;unfold aJ at *;split at hK
 ·exact⟨_,hK,λ_ h=>h⟩
 ·exact⟨_,hK,λ_ h=>h⟩
 ·exact⟨_,hK,λ_ h=>h⟩
 ·exact hK.elim
theorem Ya(op:BinOp)(x y:Value):eF (ak op x y):=by
 intro K hK;unfold ak at *;split at hK<;>first
  |exact hK.elim
  |(obtain⟨h1,h2,hk⟩:=hK;exact⟨_,hk,λ_ h=>⟨h1,h2,h⟩⟩)
  |(obtain⟨h1,hk⟩:=hK;exact⟨_,hk,λ_ h=>⟨h1,h⟩⟩)
  |exact⟨_,hK,λ_ h=>h⟩
theorem Jb(neg:Bool)(d:qG)(x y:Value):eF (bL neg d x y):=by
 intro K hK;unfold bL at *;split at hK<;>first
  |exact hK.elim
  |exact⟨_,hK,λ_ h=>h⟩
theorem Yb(d:TypeDesc)(op:BinOp)(lit:Bool)(x y:Value):eF (uX d op lit x y):=by
 intro K hK;unfold uX at *;split at hK
 ·split at hK
  ·exact hK.elim
  ·split at hK
   ·exact Jb _ _ _ _ K hK
   ·exact Jb _ _ _ _ K hK
   ·exact hK.elim
 ·exact Ya _ _ _ K hK
theorem Yc(op:BinOp)(n:Nat)(x y:Value):eF (uV op n x y):=by
 intro K hK;unfold uV at *;split at hK
 ·split at hK
  ·obtain⟨h1,h2,hk⟩:=hK;exact⟨_,hk,λ_ h=>⟨h1,h2,h⟩⟩
  ·exact hK.elim
 ·split at hK
  ·obtain⟨h1,h2,hk⟩:=hK;exact⟨_,hk,λ_ h=>⟨h1,h2,h⟩⟩
  ·exact hK.elim
 ·exact hK.elim
theorem Yd(op:UnOp)(x:Value):eF (bS op x):=by
 intro K hK;unfold bS at *;split at hK<;>first
  |exact hK.elim
  |exact⟨_,hK,λ_ h=>h⟩
theorem Ye(k:IntKind)(x:Value):eF (fR k x):=by
 intro K hK;unfold fR at *;split at hK<;>first
  |exact hK.elim
  |exact⟨_,hK,λ_ h=>h⟩
theorem Yf(off:Nat)(x:Value):eF (aq off x):=by
 intro K hK;unfold aq at *;split at hK<;>first
  |exact hK.elim
  |exact⟨_,hK,λ_ h=>h⟩
theorem Yg(size:Nat)(x i:Value):eF (aW size x i):=by
 intro K hK;unfold aW at *;split at hK<;>first
  |exact hK.elim
  |exact⟨_,hK.2.2,λ_ h=>⟨hK.1,hK.2.1,h⟩⟩
theorem Yh(size len:Nat)(x i:Value):eF (bV size len x i):=by
 intro K hK;unfold bV at *;split at hK<;>first
  |exact hK.elim
  |exact⟨_,hK.2.2,λ_ h=>⟨hK.1,hK.2.1,h⟩⟩
theorem Yi(size:Nat)(x:Value)(lo hi mx:Option Value):eF (dY size x lo hi mx):=by
 intro K hK;unfold dY at *;split at hK
 ·split at hK
  ·obtain⟨h1,h2,h3,h4,h5,hk⟩:=hK;exact⟨_,hk,λ_ h=>⟨h1,h2,h3,h4,h5,h⟩⟩
  ·exact hK.elim
 ·exact hK.elim
theorem Yj(x:Value)(lo hi:Option Value):eF (uW x lo hi):=by
 intro K hK;unfold uW at *;split at hK
 ·split at hK
  ·obtain⟨h1,h2,h3,hk⟩:=hK;exact⟨_,hk,λ_ h=>⟨h1,h2,h3,h⟩⟩
  ·exact hK.elim
 ·exact hK.elim
theorem Yk(x:Value)(i:Nat):eF (aX x i):=by
 intro K hK;unfold aX at *;split at hK
 ·split at hK
  ·exact⟨_,hK,λ_ h=>h⟩
  ·exact hK.elim
 ·exact hK.elim
theorem Yl(len:Nat)(x i:Value):eF (qH len x i):=by
 intro K hK;unfold qH at *;split at hK
 ·obtain⟨h1,h2,h3⟩:=hK;split at h3
  ·rename_i v hv;exact⟨_,h3,λ_ h=>⟨h1,h2,h⟩⟩
  ·exact h3.elim
 ·exact hK.elim
theorem Ym(size len:Nat)(x i:Value):eF (ou size len x i):=by
 intro K hK;unfold ou at *;split at hK<;>first
  |exact hK.elim
  |exact⟨_,hK.2.2,λ_ h=>⟨hK.1,hK.2.1,h⟩⟩
theorem Yn(x i:Value):eF (qI x i):=by
 intro K hK;unfold qI at *;split at hK
 ·obtain⟨h1,h3⟩:=hK;split at h3
  ·rename_i v hv;exact⟨_,h3,λ_ h=>⟨h1,h⟩⟩
  ·exact h3.elim
 ·exact hK.elim
theorem Yo(off:Nat)(x:Value):eF (lV off x):=by
 intro K hK;unfold lV at *;split at hK
 ·split at hK
  ·exact⟨_,hK,λ_ h=>h⟩
  ·exact hK.elim
 ·exact hK.elim
theorem Yp(off n:Nat)(x:Value):eF (sD off n x):=by
 intro K hK;unfold sD at *;split at hK
 ·exact⟨_,hK,λ_ h=>h⟩
 ·exact hK.elim
theorem Yq(x:Value):eF (bx x):=by
 intro K hK;unfold bx at *;split at hK
 ·exact⟨_,hK,λ_ h=>h⟩
 ·exact hK.elim
theorem Yr(x:Value):eF (sE x):=by
 intro K hK;unfold sE at *;split at hK
 ·exact⟨_,hK,λ_ h=>h⟩
 ·exact hK.elim
theorem Ys(x:Value):eF (sF x):=by
 intro K hK;unfold sF at *;split at hK
 ·exact⟨_,hK,λ_ h=>h⟩
 ·exact hK.elim
theorem Yt(h:aa)(x:Value):eF (pK h x):=by
 intro K hK;unfold pK at *;split at hK
 ·exact⟨_,hK,λ_ h=>h⟩
 ·split at hK
  ·exact⟨_,hK,λ_ h=>h⟩
  ·exact hK.elim
 ·exact hK.elim
theorem CA(x y:Value):eF (jD x y):=by
 intro K hK;unfold jD at *;split at hK
 ·exact⟨_,hK,λ_ h=>h⟩
 ·exact hK.elim
theorem CB(x y:Value):eF (iH x y):=by
 intro K hK;unfold iH at *;split at hK
 ·exact⟨_,hK,λ_ h=>h⟩
 ·exact hK.elim
theorem Yu(kd:TypeDesc)(zero:Value)(ok:Bool)(h:aa)(m k:Value):eF (de kd zero ok h m k):=by
 intro K hK;unfold de at *;split at hK
 ·split at hK
  ·exact⟨_,hK,λ_ h=>h⟩
  ·exact hK.elim
 ·split at hK
  ·split at hK
   ·exact⟨_,hK,λ_ h=>h⟩
   ·exact⟨_,hK,λ_ h=>h⟩
   ·exact hK.elim
  ·exact hK.elim
 ·exact hK.elim
theorem Yv(h:aa)(x:Value):eF (qL h x):=by
 intro K hK;unfold qL at *;split at hK
 ·exact⟨_,hK,λ_ h=>h⟩
 ·split at hK
  ·split at hK
   ·exact⟨_,hK,λ_ h=>h⟩
   ·exact hK.elim
  ·exact hK.elim
 ·exact hK.elim
theorem Yw(h:aa)(x:Value):eF (sH x h):=by
 intro K hK;unfold sH at *;split at hK
 ·split at hK
  ·split at hK
   ·obtain⟨h1,hK⟩:=hK;split at hK
    ·exact⟨_,hK,λ_ h=>⟨h1,h⟩⟩
    ·exact hK.elim
   ·exact hK.elim
  ·exact hK.elim
 ·exact hK.elim
theorem Jc(zero:List Value)(parts:List (Nat×Nat×Value)):eF (aP zero parts):=by
 intro K hK;exact⟨_,hK.2,λ_ h=>⟨hK.1,h⟩⟩
theorem Jd{T a:(Value->Prop)->Prop}{b:Value->(Value->Prop)->Prop}(hT:eF T)(d:∀u,eF (b u))(c:∀K,a K=T λu=>b u K):eF a:=by
 intro K hK;rw[c]at hK;obtain⟨u,hu,h1⟩:=hT _ hK;obtain⟨v,hv,h2⟩:=d u K hu;exact⟨v,hv,λK' e=>by rw[c];exact h1 _ (h2 K' e)⟩
theorem Yx(ρ:Operand->Value)(op:Op):eF (ig P ρ op h):=by
 intro K hq;cases op<;>simp only[ig]at hq ⊢ <;>try exact hq.elim
 case move x=>exact⟨_,hq,λ_ h=>h⟩
 case assign x=>exact⟨_,hq,λ_ h=>h⟩
 case pick c a b=>exact X6 _ _ _ K hq
 case load t a=>
  split at hq
  ·split at hq
   ·exact X8 _ _ _ K hq
   ·exact X7 _ _ K hq
  ·exact hq.elim
 case nilCheck x=>exact X9 _ K hq
 case binOp op t x y e=>
  split at hq
  ·split at hq
   ·exact Yc _ _ _ _ K hq
   ·exact hq.elim
  ·exact Yb _ _ _ _ _ K hq
  ·exact hq.elim
 case unOp op t x=>exact Yd _ _ K hq
 case convert s d x=>
  split at hq
  ·exact Ye _ _ K hq
  ·split at hq
   ·exact Yv _ _ K hq
   ·exact hq.elim
  ·exact hq.elim
 case entry it=>exact Yw _ _ K hq
 case makeInterface t x=>
  split at hq
  ·exact hq.elim
  ·exact⟨_,hq,λ_ h=>h⟩
  ·exact hq.elim
 case makeFunc fn first captured=>exact⟨_,hq,λ_ h=>h⟩
 case slice t x lo hi mx=>
  split at hq
  ·split at hq
   ·exact Yi _ _ _ _ _ K hq
   ·exact hq.elim
  ·split at hq
   ·exact Yj _ _ _ K hq
   ·exact hq.elim
  ·exact hq.elim
 case fieldAddr s x f=>
  split at hq
  ·split at hq
   ·split at hq
    ·split at hq
     ·exact hq.elim
     ·exact Yf _ _ K hq
    ·exact hq.elim
   ·exact hq.elim
  ·exact hq.elim
 case field t x f=>
  split at hq
  ·split at hq
   ·split at hq
    ·split at hq
     ·exact Yp _ _ _ K hq
     ·exact Yo _ _ K hq
    ·exact hq.elim
   ·exact hq.elim
  ·exact hq.elim
 case indexAddr t x i=>
  split at hq
  ·split at hq
   ·exact Yg _ _ _ K hq
   ·exact hq.elim
  ·split at hq
   ·exact Yh _ _ _ _ K hq
   ·exact hq.elim
  ·exact hq.elim
 case index t x i=>
  split at hq
  ·split at hq
   ·split at hq
    ·exact Ym _ _ _ _ K hq
    ·split at hq
     ·exact Yl _ _ _ K hq
     ·exact hq.elim
   ·exact hq.elim
  ·exact Yn _ _ K hq
  ·exact hq.elim
 case lookup t m k ok=>
  split at hq
  ·split at hq
   ·split at hq
    ·exact Yu _ _ _ _ _ _ K hq
    ·exact hq.elim
   ·exact hq.elim
  ·exact hq.elim
 case extract x i=>exact Yk _ _ K hq
 case build t parts=>
  split at hq
  ·split at hq
   ·split at hq
    ·exact Jc _ _ K hq
    ·exact hq.elim
   ·exact hq.elim
  ·split at hq
   ·exact Jc _ _ K hq
   ·exact hq.elim
  ·exact hq.elim
 case call c=>
  split at hq
  ·split at hq
   ·split at hq
    ·exact Yq _ K hq
    ·exact Yr _ K hq
    ·exact Yt _ _ K hq
    ·exact⟨_,hq,λ_ h=>h⟩
    ·exact hq.elim
   ·exact hq.elim
  ·split at hq
   ·split at hq
    ·exact Ys _ K hq
    ·exact hq.elim
   ·exact hq.elim
  ·split at hq
   ·exact CA _ _ K hq
   ·exact Jd (CA _ _) (λu=>CA u _) (λ_=>rfl) K hq
   ·exact hq.elim
  ·split at hq
   ·exact CB _ _ K hq
   ·exact Jd (CB _ _) (λu=>CB u _) (λ_=>rfl) K hq
   ·exact hq.elim
  ·exact hq.elim
end
open Go
def WF(ro:Option Nat):Fence:={Fence.wide with round:=ro}
theorem sO(ro:Option Nat)(f:FuncId):(WF ro).fn f:=trivial
theorem u7(ro:Option Nat):(WF ro).depth=none:=rfl
theorem CC{ro:Option Nat}{n:Nat}{P:Program}{f:FuncId}{args:Array Value}{w:World}{R:Ending->World->Prop}
  (h:CallsIn Fence.wide n P f args w R):CallsIn (WF ro) n P f args w R:=h
theorem Je{ro:Option Nat}{n l:Nat}{P:Program}{f:FuncId}{tmps:Array Value}{assign body:Code}{w:World}{R:Ending->World->Prop}
  (h:RoundIn Fence.wide n P l f tmps assign body w R):RoundIn (WF ro) n P l f tmps assign body w R:=h
def iT(t:Array Value):Operand->Value
 | .tmp s=>t.getD s undef
 | .const v=>v
 | .global g=>.pointer (some ⟨g,0,none⟩)
 | .func f=>.func (.func f) #[] #[]
theorem nH(a:Act):a.eval=iT a.tmps:=by funext x;cases x<;>rfl
def e9(t:Array Value)(dst:Option Tmp)(v:Value):Array Value:=
 match dst with
 |some d=>t.setIfInBounds d v
 |none=>t
theorem oB(a:Act)(dst:Option Tmp)(v:Value):(a.put dst v).tmps=e9 a.tmps dst v:=by cases dst<;>rfl
theorem put_defers(a:Act)(dst:Option Tmp)(v:Value):(a.put dst v).defers=a.defers:=by cases dst<;>rfl
theorem pO(t:Array Value)(dst:Option Tmp)(v:Value):(e9 t dst v).size=t.size:=by cases dst<;>simp[e9]
def mN:Op->Bool
 | .defer _| .select .. =>false
 |_=>true
def pP(ops:Array Oper):Prop:=∀(i:Nat)(o:Oper),ops[i]? =some o->mN o.op=true
section
variable{P:Program}{ops:Array Oper}
def ij(P:Program)(ops:Array Oper)(i:Nat)(t:Array Value)(h:aa)(K:Array Value->aa->Prop):Prop:=
 match ops[i]? with
 |none=>K t h
 |some o=>if Region.wanted o (yielded ops t)then wpS P (execOp (iT t) o) h (lY P λv h'=>K (e9 t o.dst v) h')else K (e9 t o.dst undef) h
theorem CD{K K':KT}(hm:∀v h,K v h->K' v h):∀n h,lY P K n h->lY P K' n h:=by
 intro n h hk;cases n<;>simp only[lY]at hk ⊢
 ·exact hm _ _ hk
 ·exact hm _ _ hk
 ·exact λw hw=>(hk w hw).mono λ_ _⟨v,he,hs,hk⟩=>⟨v,he,hs,hm _ _ hk⟩
 ·exact sB.mono hk hm
theorem qP{i:Nat}{t:Array Value}{h:aa}{K K':Array Value->aa->Prop}(hm:∀t h,K t h->K' t h)(hk:ij P ops i t h K):ij P ops i t h K':=by
 unfold ij at *;split
 ·rename_i e;rw[e]at hk;exact hm _ _ hk
 ·rename_i o e;rw[e]at hk;dsimp only at hk;split
  ·rename_i hw;rw[if_pos hw]at hk;exact nE (CD λv h hk=>hm _ _ hk) hk
  ·rename_i hw;rw[if_neg hw]at hk;exact hm _ _ hk
theorem yS{ro:Option Nat}{ρ:Operand->Value}{o:Oper}(hp:mN o.op=true):Oper.semAt ro ρ o=execOp ρ o:=
 Oper.semAt_eq ro ρ o λc hc=>by rw[hc]at hp;cases hp
theorem Yy{ro:Option Nat}{o:Oper}{a:Act}{w:World}{Q:Exit->Act->World->Prop}{K:KT}{K':Act->World->Prop}
  (hp:mN o.op=true) (hs:wpS P (execOp a.eval o) w.heap (lY P K))
  (hk:∀v w',cU w w'->K v w'.heap->K' (a.put o.dst v) w'):o.wpIn (WF ro) 0 P a w K' Q:=by
 refine⟨λf _=>sO ro f,?_⟩;rw[yS hp];obtain⟨x,w',hr,hsame,hx⟩:=sA hs w rfl;rw[hr];cases x<;>simp only[lY]at hx<;>try exact hx.elim
 ·exact hk _ _ hsame hx
 ·exact hk _ _ hsame hx
 ·refine⟨λh=>by simp[u7]at h,?_⟩;refine(CC (hx w' rfl)).mono ?_;rintro e w'' ⟨v,rfl,hs',hv⟩;exact hk _ _ (hsame.trans hs') hv
 ·refine⟨λh=>by simp[u7]at h,?_⟩;refine(Je (hx w' rfl)).mono ?_;rintro e w'' ⟨v,rfl,hs',hv⟩;exact hk _ _ (hsame.trans hs') hv
theorem CE{ro:Option Nat}{i:Nat}{a:Act}{w:World}{Q:Exit->Act->World->Prop}{K:Array Value->aa->Prop}{K':Act->World->Prop}
  (hp:∀o,ops[i]? =some o->mN o.op=true) (hs:ij P ops i a.tmps w.heap K)
  (hk:∀a' w',a'.defers=a.defers->cU w w'->K a'.tmps w'.heap->K' a' w'):wpOpIn (WF ro) 0 P ops Q i K' a w:=by
 unfold ij at hs;unfold wpOpIn;split
 ·rename_i e;rw[e]at hs;exact hk _ _ rfl (.refl _) hs
 ·rename_i o e;rw[e]at hs;dsimp only at hs;split
  ·rename_i hw;rw[if_pos hw]at hs;rw[<-nH]at hs;exact Yy (hp o e) hs λv w' hs' hv=>hk _ _ (put_defers _ _ _) hs' (by rw[oB];exact hv)
  ·rename_i hw;rw[if_neg hw]at hs;exact⟨λf _=>sO ro f,hk _ _ (put_defers _ _ _) (.refl _) (by rw[oB];exact hs)⟩
def CF(P:Program)(ops:Array Oper)(Q:Array Value->aa->Prop):Nat->Array Bool->Array Value->aa->Prop
 |0,listed,t,h=>Region.ready .any ops listed=[]/\Q t h
 |fuel+1,listed,t,h=>
  (Region.ready .any ops listed=[]->Q t h)/\
  ∀i∈Region.ready .any ops listed,ij P ops i t h (CF P ops Q fuel (listed.setIfInBounds i true))
theorem Yz{ro:Option Nat}{Q:Exit->Act->World->Prop}{K:Array Value->aa->Prop}(hp:pP ops):
  ∀(fuel:Nat)(listed:Array Bool)(a:Act)(w:World),CF P ops K fuel listed a.tmps w.heap->
   (∀a' w',a'.defers=a.defers->cU w w'->K a'.tmps w'.heap->Q .normal a' w')->wpAnyIn (WF ro) 0 P .any ops Q fuel listed a w:=by
 intro fuel
 induction fuel with
 |zero=>intro listed a w hk hq;exact⟨hk.1,hq _ _ rfl (.refl _) hk.2⟩
 |succ fuel ih=>
  intro listed a w hk hq;refine⟨λhr=>hq _ _ rfl (.refl _) (hk.1 hr),λi hi=> ?_⟩;refine CE (hp i) (hk.2 i hi) λa' w' hd hs h'=>ih _ a' w' h' λb w'' hd' hs' h''=>hq _ _ (hd'.trans hd) (hs.trans hs') h''
theorem YA{t:Array Value}{dst:Option Tmp}{v:Value}{x:Operand}(hx:∀d,dst=some d->x≠ .tmp d):iT (e9 t dst v) x=iT t x:=by
 cases dst with
 |none=>rfl
 | some d=>
  cases x with
  |tmp s=>
   have :d≠s:=λe=>hx d rfl (e▸rfl);simp[iT,e9,Array.getElem?_setIfInBounds_ne this]
  |_=>rfl
theorem Jf{t:Array Value}{o:Oper}{dst:Option Tmp}{v:Value}(hp:mN o.op=true)(hd:∀d,dst=some d->d∉o.looksAt ops):
  execOp (iT (e9 t dst v)) o=execOp (iT t) o:=by
 refine execOp_congr o (λcs b hc=>by rw[hc]at hp;cases hp) λx hx=>YA λd hd' a=>hd d hd' ?_;subst a;exact List.mem_append_left _ (List.mem_filterMap.2 ⟨.tmp d,by simpa using hx,rfl⟩)
theorem Jg{t:Array Value}{o:Oper}{dst:Option Tmp}{v:Value}(hd:∀d,dst=some d->d∉o.looksAt ops):
  Region.wanted o (yielded ops (e9 t dst v))=Region.wanted o (yielded ops t):=by
 have :=wanted_put (ops:=ops) o {tmps:=t,defers:=[]} dst v hd;rw[oB]at this;exact this
theorem Jh{t:Array Value}{x y:Option Tmp}{v u:Value}(h:∀d,x=some d->y≠some d):e9 (e9 t x v) y u=e9 (e9 t y u) x v:=by
 cases x with
 |none=>rfl
 | some d=>
  cases y with
  |none=>rfl
  |some e=>
   have :d≠e:=λhe=>h d rfl (he▸rfl);simp[e9,Array.setIfInBounds_comm _ _ this]
def iU(P:Program)(ops:Array Oper)(c:Nat)(v:Value)(t:Array Value)(h:aa):Prop:=
 ∃o,ops[c]? =some o/\if Region.wanted o (yielded ops t)then aT P (execOp (iT t) o) h=some (.value v)else v=undef
def iI(ops:Array Oper)(c:Nat):Option Tmp:=(ops[c]?).bind (·.dst)
theorem iU.ij{c:Nat}{v:Value}{t:Array Value}{h:aa}{K:Array Value->aa->Prop}(hg:iU P ops c v t h)(hk:K (e9 t (iI ops c) v) h):Mh.ij P ops c t h K:=by
 obtain⟨o,ho,hv⟩:=hg;unfold Mh.ij;simp only[ho,iI,Option.bind_some]at *;split
 ·rename_i hw;rw[if_pos hw]at hv;exact Cl hv hk
 ·rename_i hw;rw[if_neg hw]at hv;subst hv;exact hk
def qQ(ops:Array Oper)(c i:Nat):Bool:=
 match ops[c]?,ops[i]? with
 |some x,some y=>x.apart ops y
 |_,_=>false
theorem iU.put{c i:Nat}{v u:Value}{t:Array Value}{h:aa}(hp:pP ops)(ha:qQ ops c i=true):
  iU P ops c v (e9 t (iI ops i) u) h↔iU P ops c v t h:=by
 unfold qQ at ha;split at ha
 ·rename_i x y hx hy;obtain⟨_,_,h3⟩:=Oper.apart_spec ha;unfold iU;simp only[hx,iI,hy,Option.bind_some,Option.some.injEq,exists_eq_left'];rw[Jg h3,Jf (hp c x hx) h3]
 ·cases ha
theorem YB{c i:Nat}{v:Value}{t:Array Value}{h:aa}{K:Array Value->aa->Prop}(hp:pP ops)
  (ha:qQ ops c i=true) (hk:ij P ops i (e9 t (iI ops c) v) h K):
  ij P ops i t h (λt' h'=>(∃u,t'=e9 t (iI ops i) u)/\K (e9 t' (iI ops c) v) h'):=by
 unfold qQ at ha;split at ha
 ·rename_i x y hx hy;obtain⟨h1,h2,h3⟩:=Oper.apart_spec ha;have a:=hp i y hy;unfold ij at *;simp only[hx,iI,hy,Option.bind_some]at hk ⊢;rw[Jg h1,Jf a h1]at hk;split
  ·rename_i hw;rw[if_pos hw]at hk;refine nE (CD λu h' hk'=>⟨⟨u,rfl⟩,?_⟩) hk;rw[<-Jh h2];exact hk'
  ·rename_i hw;rw[if_neg hw]at hk;refine⟨⟨_,rfl⟩,?_⟩;rw[<-Jh h2];exact hk
 ·cases ha
end
open Go
def yT(acc:List Nat)(o:Oper):Nat:=
 o.after.toList.foldl (λs e=>bif Region.binds .any e then s|||(2^e.on|||acc.getD e.on 0)else s) 0
def u9:List Oper->List Nat->List Nat
 | [],acc=>acc
 |o::r,acc=>u9 r (acc++ [yT acc o])
section
variable{P:Program}{ops:Array Oper}{bE:List Nat}
def jm(bE:List Nat)(i c:Nat):Bool:=(bE.getD i 0).testBit c
def oC(bE:List Nat):List Oper->Nat->Bool
 | [],_=>true
 |o::r,i=>Nat.beq (bE.getD i 0) (yT bE o)&&oC bE r (i+1)
theorem YC(bE:List Nat)(o:Oper)(c:Nat)(h:(yT bE o).testBit c=true):
  ∃e∈o.after,Region.binds .any e=true/\(c=e.on\/jm bE e.on c=true):=by
 have key:∀(l:List Edge)(s:Nat),(l.foldl (λs e=>bif Region.binds .any e then s|||(2^e.on|||bE.getD e.on 0)else s) s).testBit c=true->
   s.testBit c=true\/∃e∈l,Region.binds .any e=true/\(c=e.on\/jm bE e.on c=true):=by
  intro l
  induction l with
  |nil=>intro s h;exact .inl h
  | cons e l ih=>
   intro s h;rw[List.foldl_cons]at h;rcases ih _ h with h|⟨e',he',hb⟩
   ·cases hb:Region.binds .any e with
    |false=>rw[hb]at h;exact .inl h
    |true=>
     rw[hb,cond_true,Nat.testBit_or,Nat.testBit_or,Nat.testBit_two_pow]at h;simp only[Bool.or_eq_true,decide_eq_true_eq]at h;rcases h with h|h|h
     ·exact .inl h
     ·exact .inr ⟨e,List.mem_cons_self,hb,.inl h.symm⟩
     ·exact .inr ⟨e,List.mem_cons_self,hb,.inr h⟩
   ·exact .inr ⟨e',List.mem_cons_of_mem _ he',hb⟩
 rcases key o.after.toList 0 h with h|⟨e,he,h⟩
 ·simp at h
 ·exact⟨e,Array.mem_def.2 he,h⟩
theorem Ji{bE:List Nat}:∀(l:List Oper)(k:Nat),oC bE l k=true->∀(i:Nat)(o:Oper),l[i]? =some o->bE.getD (k+i) 0=yT bE o
 | [],_,_,i,o,ho=>by simp at ho
 | x::l,k,h,i,o,ho=>by
  simp only[oC,Bool.and_eq_true]at h;cases i with
  |zero=>simp only[List.getElem?_cons_zero,Option.some.injEq]at ho;subst ho;exact Nat.eq_of_beq_eq_true h.1
  |succ i=>
   rw[show k+(i+1)=k+1+i by omega];exact Ji l (k+1) h.2 i o (by simpa using ho)
theorem YD(hok:oC bE ops.toList 0=true){i c:Nat}{o:Oper}(ho:ops[i]? =some o)(hb:jm bE i c=true):
  ∃e∈o.after,Region.binds .any e=true/\(c=e.on\/jm bE e.on c=true):=by
 have h:=Ji ops.toList 0 hok i o (by simpa using ho);rw[Nat.zero_add]at h;unfold jm at hb;rw[h]at hb;exact YC bE o c hb
def quietAt(ops:Array Oper)(i:Nat):Bool:=
 match ops[i]? with
 |some o=>oy o.op
 |none=>false
def CG(ops:Array Oper)(bE:List Nat):Prop:=
 ∀c i:Nat,c<ops.size->i<ops.size->c≠i->quietAt ops c=true->jm bE i c=false->jm bE c i=false->qQ ops c i=true
theorem mem_ready{listed:Array Bool}{i:Nat}:i∈Region.ready .any ops listed↔
  i<ops.size/\listed.getD i true=false/\∃o,ops[i]? =some o/\∀e∈o.after,Region.binds .any e=true->listed.getD e.on false=true:=by
 unfold Region.ready;simp only[List.mem_filter,List.mem_range,Bool.and_eq_true,Bool.not_eq_true'];constructor
 ·rintro⟨h1,h2,h3⟩;refine⟨h1,h2,?_⟩;cases ho:ops[i]? with
  |none=>rw[ho]at h3;simp at h3
  |some o=>
   rw[ho]at h3;simp only[Option.map_some,Option.getD_some,Array.all_eq_true_iff_forall_mem,Bool.or_eq_true,Bool.not_eq_true']at h3;refine⟨o,rfl,λe he hb=> ?_⟩;rcases h3 e he with h|h
   ·rw[hb]at h;cases h
   ·exact h
 ·rintro⟨h1,h2,o,ho,h3⟩;refine⟨h1,h2,?_⟩;rw[ho];simp only[Option.map_some,Option.getD_some,Array.all_eq_true_iff_forall_mem,Bool.or_eq_true,Bool.not_eq_true'];intro e he;cases hb:Region.binds .any e with
  |false=>exact .inl rfl
  |true=>exact .inr (h3 e he hb)
def sP(ops:Array Oper)(bE:List Nat)(listed:Array Bool):Prop:=
 listed.size=ops.size/\∀i c,listed.getD i false=true->jm bE i c=true->listed.getD c false=true
theorem yU{listed:Array Bool}{i j:Nat}{d:Bool}(hi:i<listed.size):(listed.setIfInBounds i true).getD j d=if i=j then true else listed.getD j d:=by
 simp only[Array.getD_eq_getD_getElem?,Array.getElem?_setIfInBounds];split
 ·rename_i e;subst e;simp[hi]
 ·rfl
theorem CH(hok:oC bE ops.toList 0=true){listed:Array Bool}{i c:Nat}(hc:sP ops bE listed)(hi:i∈Region.ready .any ops listed)
  (hb:jm bE i c=true):listed.getD c false=true:=by
 obtain⟨_,_,o,ho,h⟩:=mem_ready.1 hi;obtain⟨e,he,a,rfl|b⟩:=YD hok ho hb
 ·exact h e he a
 ·exact hc.2 _ _ (h e he a) b
theorem pQ{listed:Array Bool}{i:Nat}(hi:i∈Region.ready .any ops listed):i<ops.size:=(mem_ready.1 hi).1
theorem Jj{listed:Array Bool}{i:Nat}(hs:listed.size=ops.size)(hi:i∈Region.ready .any ops listed):listed.getD i false=false:=by
 obtain⟨h1,h2,_⟩:=mem_ready.1 hi;have :i<listed.size:=by omega
 simpa[Array.getD_eq_getD_getElem?,this]using h2
theorem Jk(hok:oC bE ops.toList 0=true){listed:Array Bool}{i:Nat}(hc:sP ops bE listed)(hi:i∈Region.ready .any ops listed):
  sP ops bE (listed.setIfInBounds i true):=by
 have hl:i<listed.size:=by rw[hc.1];exact pQ hi
 refine⟨by simp[hc.1],λj c hj hb=> ?_⟩;rw[yU hl]at hj ⊢;split
 ·rfl
 ·split at hj
  ·rename_i e;subst e;exact CH hok hc hi hb
  ·exact hc.2 _ _ hj hb
theorem CI{listed:Array Bool}{i c:Nat}(hs:listed.size=ops.size)(hne:i≠c)(hi:i∈Region.ready .any ops listed)(hc:c<ops.size):
  i∈Region.ready .any ops (listed.setIfInBounds c true):=by
 obtain⟨h1,h2,o,ho,h⟩:=mem_ready.1 hi;have hl:c<listed.size:=by omega
 refine mem_ready.2 ⟨h1,?_,o,ho,λe he hb=> ?_⟩
 ·rw[yU hl,if_neg (λe=>hne e.symm)];exact h2
 ·rw[yU hl];split
  ·rfl
  ·exact h e he hb
abbrev nJ:=List (Nat×(aa->Prop))
def kf(bE:List Nat)(i:Nat)(H:nJ):nJ:=H.filter λx=> !jm bE i x.1
theorem CJ{i:Nat}{H:nJ}:kf bE i H ⊆ H:=λ_ h=>(List.mem_filter.1 h).1
theorem Jl{i:Nat}{H H':nJ}(h:H' ⊆ H):kf bE i H' ⊆ kf bE i H:=λx hx=>by
 obtain⟨h1,h2⟩:=List.mem_filter.1 hx;exact List.mem_filter.2 ⟨h h1,h2⟩
def RW(P:Program)(ops:Array Oper)(bE:List Nat)(Q:Array Value->aa->Prop):Nat->nJ->Array Bool->Array Value->aa->Prop
 |0,_,listed,t,h=>Region.ready .any ops listed=[]/\Q t h
 | f+1,H,listed,t,h=>
  (Region.ready .any ops listed=[]/\Q t h)\/
  (∃c v,c∈Region.ready .any ops listed/\quietAt ops c=true/\iU P ops c v t h/\
   RW P ops bE Q f (H++ [(c,iU P ops c v t)]) (listed.setIfInBounds c true) (e9 t (iI ops c) v) h)\/
  (Region.ready .any ops listed≠ []/\∀i∈Region.ready .any ops listed,
   ij P ops i t h λt' h'=>(∀x∈kf bE i H,x.2 h')/\RW P ops bE Q f (kf bE i H) (listed.setIfInBounds i true) t' h')
theorem CK{Q:Array Value->aa->Prop}:∀(f:Nat){H H':nJ}{listed:Array Bool}{t:Array Value}{h:aa},H' ⊆ H->RW P ops bE Q f H listed t h->RW P ops bE Q f H' listed t h
 |0,_,_,_,_,_,_,hr=>hr
 | f+1,H,H',listed,t,h,hs,hr=>by
  rcases hr with hr|⟨c,v,hc,hq,hg,hr⟩|⟨hne,hr⟩
  ·exact .inl hr
  ·refine .inr (.inl ⟨c,v,hc,hq,hg,CK f ?_ hr⟩);intro x hx;rcases List.mem_append.1 hx with hx|hx
   ·exact List.mem_append.2 (.inl (hs hx))
   ·exact List.mem_append.2 (.inr hx)
  ·refine .inr (.inr ⟨hne,λi hi=>qP ?_ (hr i hi)⟩);rintro t' h' ⟨h1,h2⟩;exact⟨λx hx=>h1 x (Jl hs hx),CK f (Jl hs) h2⟩
theorem YE(hok:oC bE ops.toList 0=true)(hap:CG ops bE)(hp:pP ops){Q:Array Value->aa->Prop}:
  ∀(f:Nat){H:nJ}{listed:Array Bool}{t:Array Value}{h:aa}{i:Nat},sP ops bE listed->RW P ops bE Q (f+1) H listed t h->
   i∈Region.ready .any ops listed->(∀x∈H,x.2 h)->
   ij P ops i t h λt' h'=>(∀x∈kf bE i H,x.2 h')/\RW P ops bE Q f (kf bE i H) (listed.setIfInBounds i true) t' h':=by
 intro f
 induction f with
 | zero=>
  intro H listed t h i a hr hi hH;rcases hr with ⟨hr,_⟩|⟨c,v,hc,hq,hg,hr⟩|⟨_,hr⟩
  ·rw[hr]at hi;cases hi
  ·by_cases hic:i=c
   ·subst hic;exact hg.ij ⟨λx hx=>hH x (CJ hx),hr⟩
   ·have :=CI a.1 hic hi (pQ hc);rw[hr.1]at this;cases this
  ·exact hr i hi
 | succ f ih=>
  intro H listed t h i a hr hi hH;rcases hr with ⟨hr,_⟩|⟨c,v,hc,hq,hg,hr⟩|⟨_,hr⟩
  ·rw[hr]at hi;cases hi
  ·by_cases hic:i=c
   ·subst hic;exact hg.ij ⟨λx hx=>hH x (CJ hx),CK _ (λx hx=>List.mem_append.2 (.inl (CJ hx))) hr⟩
   ·have d:jm bE i c=false:=by
     cases hb:jm bE i c with
     |false=>rfl
     |true=>have :=CH hok a hi hb;rw[Jj a.1 hc]at this;cases this
    have g:jm bE c i=false:=by
     cases hb:jm bE c i with
     |false=>rfl
     |true=>have :=CH hok a hc hb;rw[Jj a.1 hi]at this;cases this
    have ha:qQ ops c i=true:=hap c i (pQ hc) (pQ hi) (λe=>hic e.symm) hq d g;have j:∀x∈H++ [(c,iU P ops c v t)],x.2 h:=by
     intro x hx;rcases List.mem_append.1 hx with hx|hx
     ·exact hH x hx
     ·rw[List.mem_singleton.1 hx];exact hg
    have :=ih (Jk hok a hc) hr (CI a.1 hic hi (pQ hc)) j;refine qP ?_ (YB hp ha this);rintro t' h' ⟨⟨u,rfl⟩,b,hrw⟩;have hd:kf bE i (H++ [(c,iU P ops c v t)])=kf bE i H++ [(c,iU P ops c v t)]:=by
     unfold kf;rw[List.filter_append];simp[d]
    rw[hd]at b hrw;have hg':iU P ops c v (e9 t (iI ops i) u)=iU P ops c v t:=funext λh''=>propext (iU.put hp ha);refine⟨λx hx=>b x (List.mem_append.2 (.inl hx)),.inr (.inl ⟨c,v,CI a.1 (λe=>hic e.symm) hc (pQ hi),hq,?_,?_⟩)⟩
    ·rw[hg'];exact b _ (List.mem_append.2 (.inr (List.mem_singleton.2 rfl)))
    ·rw[hg',Array.setIfInBounds_comm _ _ (λe=>hic e)];exact hrw
  ·exact hr i hi
theorem YF(hok:oC bE ops.toList 0=true)(hap:CG ops bE)(hp:pP ops){Q:Array Value->aa->Prop}:
  ∀(f:Nat){listed:Array Bool}{t:Array Value}{h:aa},sP ops bE listed->RW P ops bE Q f [] listed t h->CF P ops Q f listed t h:=by
 intro f
 induction f with
 |zero=>intro listed t h _ hr;exact hr
 |succ f ih=>
  intro listed t h a hr;refine⟨λhe=> ?_,λi hi=>qP (λt' h' hk=>ih (Jk hok a hi) hk.2) (YE hok hap hp f a hr hi (by simp))⟩;rcases hr with ⟨_,hq⟩|⟨c,v,hc,_⟩|⟨hne,_⟩
  ·exact hq
  ·rw[he]at hc;cases hc
  ·exact(hne he).elim
end
open Go
abbrev bM:=List (Nat×Value)
def look:bM->Nat->Option Value
 | [],_=>none
 |(s,v)::r,t=>match Nat.beq s t with
  |true=>some v
  |false=>look r t
def ev(e:bM):Operand->Value
 | .tmp t=>(match look e t with
  |some v=>v
  |none=>undef)
 | .const v=>v
 | .global g=>.pointer (some ⟨g,0,none⟩)
 | .func f=>.func (.func f) #[] #[]
def oD(e:bM):Operand->Bool
 | .tmp t=>(match look e t with
  |some _=>true
  |none=>false)
 |_=>true
def mO(e:bM):List Operand->Bool
 | []=>true
 |x::r=>match oD e x with
  |true=>mO e r
  |false=>false
def kB(e:bM)(dst:Option Tmp)(v:Value):bM:=
 match dst with
 |some d=>(d,v)::e
 |none=>e
def nK(n:Nat):Option Tmp->Bool
 |some d=>Nat.blt d n
 |none=>true
def Rel(e:bM)(t:Array Value):Prop:=∀s v,look e s=some v->t[s]? =some v
theorem Rel.ev{e:bM}{t:Array Value}(h:Rel e t){x:Operand}(hk:oD e x=true):ev e x=iT t x:=by
 cases x with
 | tmp s=>
  simp only[oD]at hk;split at hk
  ·rename_i v hv;simp[Mh.ev,iT,hv,h s v hv]
  ·cases hk
 |_=>rfl
theorem vf{e:bM}:∀{l:List Operand},mO e l=true->∀x∈l,oD e x=true
 | x::r,h,y,hy=>by
  simp only[mO]at h;split at h
  ·rename_i hx;rcases List.mem_cons.1 hy with rfl|hy
   ·exact hx
   ·exact vf h y hy
  ·cases h
theorem Rel.put{e:bM}{t:Array Value}(h:Rel e t){dst:Option Tmp}{v:Value}(hd:nK t.size dst=true):Rel (kB e dst v) (e9 t dst v):=by
 cases dst with
 |none=>exact h
 | some d=>
  intro s u hs;have hlt:d<t.size:=Nat.le_of_ble_eq_true hd;simp only[kB,look]at hs;split at hs
  ·rename_i he;have :=Nat.eq_of_beq_eq_true he;subst this;simp only[Option.some.injEq]at hs;subst hs;simp[e9,hlt]
  ·rename_i he;have hne:d≠s:=λh=>by subst h;simp at he
   simp only[e9,Array.getElem?_setIfInBounds_ne hne];exact h s u hs
theorem Rel.lit{e:bM}{t:Array Value}(h:Rel e t){s:Nat}{v:Value}(hs:look e s=some v):Rel ((s,v)::e) t:=by
 intro s' u hu;simp only[look]at hu;split at hu
 ·rename_i he;have :=Nat.eq_of_beq_eq_true he;subst this;simp only[Option.some.injEq]at hu;subst hu;exact h s v hs
 ·exact h s' u hu
def sQ(n:Nat)(o:Oper)(e:bM):Bool:=
 match mN o.op with
 |true=>(match mO e o.op.operands.toList with
  |true=>nK n o.dst
  |false=>false)
 |false=>false
def vg(P:Program)(n:Nat)(o:Oper)(e:bM)(h:aa)(K:bM->aa->Prop):Prop:=
 match sQ n o e with
 |true=>(match oy o.op with
  |true=>ig P (ev e) o.op h λv=>K (kB e o.dst v) h
  |false=>lop P (ev e) o.op h λv h'=>K (kB e o.dst v) h')
 |false=>False
def YG (ops:Array Oper) (e:bM) (j:Nat):Bool:=
 match ops[j]? with
 | some o=>(match o.guard with
  |none=>false
  | some (j',want)=>(match iI ops j' with
   |some s=>(match look e s with
    |some (.bool true)=> !want
    |some (.bool false)=>want
    |some (.tuple _)=>true
    |_=>false)
   |none=>false))
 |none=>false
def CL(v:Value)(X:Prop):Prop:=
 match v with
 | .tuple _=>X
 |_=>False
def vh (ops:Array Oper) (o:Oper) (e:bM) (F:Bool->bM->Prop):Prop:=
 match o.guard with
 |none=>F true e
 | some (j,want)=>(match iI ops j with
  | some s=>(match look e s with
   |some v=>(match YG ops e j with
    |true=>CL v (F false e)
    |false=>az v (F want ((s,.bool true)::e)) (F (!want) ((s,.bool false)::e)))
   |none=>False)
  |none=>False)
def nL(P:Program)(n:Nat)(ops:Array Oper)(o:Oper)(e:bM)(h:aa)(K:bM->aa->Prop):Prop:=
 vh ops o e λw e'=>match w with
  |true=>vg P n o e' h K
  |false=>(match nK n o.dst with
   |true=>K (kB e' o.dst undef) h
   |false=>False)
section
variable{P:Program}{ops:Array Oper}{n:Nat}
theorem Jm{o:Oper}{e:bM}{t:Array Value}{F:Bool->bM->Prop}(hr:Rel e t)(hg:vh ops o e F):
  ∃e',Rel e' t/\F (Region.wanted o (yielded ops t)) e':=by
 unfold vh at hg;unfold Region.wanted;cases hgd:o.guard with
 |none=>rw[hgd]at hg;exact⟨e,hr,hg⟩
 | some p=>
  obtain⟨j,want⟩:=p;rw[hgd]at hg;dsimp only at hg ⊢;split at hg
  ·rename_i s hs;split at hg
   ·rename_i v hv;have ht:=hr s v hv;have hy:yielded ops t j=(match v with| .bool b=>some b|_=>none):=by
     unfold yielded;unfold iI at hs;rw[hs];simp only[Option.bind_some,ht];cases v<;>rfl
    split at hg
    ·unfold CL at hg;split at hg
     ·refine⟨_,hr,?_⟩;rw[hy];exact hg
     ·exact hg.elim
    ·unfold az at hg;split at hg
     ·refine⟨_,hr.lit hv,?_⟩;rw[hy];cases want<;>exact hg
     ·refine⟨_,hr.lit hv,?_⟩;rw[hy];cases want<;>exact hg
     ·exact hg.elim
   ·exact hg.elim
  ·exact hg.elim
theorem yV{o:Oper}{e:bM}(h:sQ n o e=true):mN o.op=true/\mO e o.op.operands.toList=true/\nK n o.dst=true:=by
 unfold sQ at h;split at h
 ·rename_i h1;split at h
  ·rename_i h2;exact⟨h1,h2,h⟩
  ·cases h
 ·cases h
theorem yW{o:Oper}{e:bM}{t:Array Value}(hr:Rel e t)(hp:mN o.op=true)(hk:mO e o.op.operands.toList=true):execOp (ev e) o=execOp (iT t) o:=
 execOp_congr o (λcs b hc=>by rw[hc]at hp;cases hp) λx hx=>hr.ev (vf hk x (by simpa using hx))
def Fr(ops:Array Oper)(t t':Array Value):Prop:=t'.size=t.size/\∀s,(∀i,iI ops i≠some s)->t'[s]? =t[s]?
theorem Fr.refl(t:Array Value):Fr ops t t:=⟨rfl,λ_ _=>rfl⟩
theorem Fr.trans{a b c:Array Value}(h:Fr ops a b)(h':Fr ops b c):Fr ops a c:=⟨h'.1.trans h.1,λs hs=>(h'.2 s hs).trans (h.2 s hs)⟩
theorem Fr.put{t:Array Value}{i:Nat}{o:Oper}{v:Value}(ho:ops[i]? =some o):Fr ops t (e9 t o.dst v):=by
 refine⟨pO _ _ _,λs hs=> ?_⟩;cases hd:o.dst with
 |none=>rfl
 |some d=>
  have hne:d≠s:=λe=>hs i (by simp[iI,ho,hd,e]);simp[e9,Array.getElem?_setIfInBounds_ne hne]
theorem yX{i:Nat}{o:Oper}{e:bM}{t:Array Value}{h:aa}{K:bM->aa->Prop}(ho:ops[i]? =some o)(hr:Rel e t)(hn:t.size=n)
  (hc:nL P n ops o e h K):ij P ops i t h λt' h'=>Fr ops t t'/\∃e',Rel e' t'/\K e' h':=by
 unfold nL at hc;obtain⟨e',hr',hc⟩:=Jm hr hc;unfold ij;rw[ho];dsimp only;cases hw:Region.wanted o (yielded ops t)with
 | true=>
  rw[hw]at hc;simp only[if_true];unfold vg at hc;dsimp only at hc;split at hc
  ·rename_i hok;obtain⟨hp,hk,hd⟩:=yV hok;rw[<-hn]at hd;rw[<-yW hr' hp hk];split at hc
   ·obtain⟨v,hv,hK⟩:=I4 hc;exact Cl hv ⟨Fr.put ho,_,hr'.put hd,hK⟩
   ·exact nE (CD λv h' hK=>⟨Fr.put ho,_,hr'.put hd,hK⟩) (X0 hc)
  ·exact hc.elim
 | false=>
  rw[hw]at hc;simp only[Bool.false_eq_true,if_false];dsimp only at hc;split at hc
  ·rename_i hd;rw[<-hn]at hd;exact⟨Fr.put ho,_,hr'.put hd,hc⟩
  ·exact hc.elim
theorem YH{o:Oper}{e:bM}{h:aa}{K:bM->aa->Prop}(ha:uZ o.op=true)(hc:nL P n ops o e h K):
  nL P n ops o e h λe' h'=>K e' h'/\(h'=h\/∃x,h'=h.push x):=by
 have hF:∀(w:Bool)(e':bM),(match w with
   |true=>vg P n o e' h K
   |false=>(match nK n o.dst with
    |true=>K (kB e' o.dst undef) h
    |false=>False))->(match w with
   |true=>vg P n o e' h λe' h'=>K e' h'/\(h'=h\/∃x,h'=h.push x)
   |false=>(match nK n o.dst with
    |true=>K (kB e' o.dst undef) h/\(h=h\/∃x,h=h.push x)
    |false=>False)):=by
  intro w e' hx;cases w with
  | true=>
   dsimp only at hx ⊢;unfold vg at *;split at hx
   ·split at hx
    ·rename_i hq;rw[X4 ha]at hq;cases hq
    ·exact X3 (λv h' hk=>⟨hk.1,.inr hk.2⟩) (X5 ha hx)
   ·exact hx.elim
  |false=>
   dsimp only at hx ⊢;split at hx
   ·exact⟨hx,.inl rfl⟩
   ·exact hx.elim
 unfold nL at *;unfold vh at *;split at hc
 ·exact hF true e hc
 ·rename_i j want _;split at hc
  ·rename_i s _;split at hc
   ·split at hc
    ·unfold CL at *;split at hc
     ·exact hF false e hc
     ·exact hc.elim
    ·unfold az at *;split at hc
     ·exact hF want ((s,.bool true)::e) hc
     ·exact hF (!want) ((s,.bool false)::e) hc
     ·exact hc.elim
   ·exact hc.elim
  ·exact hc.elim
def CM(P:Program)(n:Nat)(ops:Array Oper):List Oper->bM->aa->(bM->aa->Prop)->Prop
 | [],e,h,K=>K e h
 |o::r,e,h,K=>nL P n ops o e h λe' h'=>CM P n ops r e' h' K
def vj(P:Program)(ops:Array Oper)(Q:Array Value->aa->Prop):List Nat->Array Value->aa->Prop
 | [],t,h=>Q t h
 |i::r,t,h=>ij P ops i t h (vj P ops Q r)
theorem Jn{ro:Option Nat}{Q:Exit->Act->World->Prop}{K:Array Value->aa->Prop}(hp:pP ops):∀(l:List Nat)(a:Act)(w:World),
  vj P ops K l a.tmps w.heap->(∀a' w',a'.defers=a.defers->cU w w'->K a'.tmps w'.heap->Q .normal a' w')->wpOpsIn (WF ro) 0 P ops Q l a w
 | [],a,w,hk,hq=>hq _ _ rfl (.refl _) hk
 |i::r,a,w,hk,hq=>by
  rw[wpOpsIn_cons];exact CE (hp i) hk λa' w' hd hs hk'=>Jn hp r a' w' hk' λc w'' hd' hs' b=>hq _ _ (hd'.trans hd) (hs.trans hs') b
theorem Jo:∀(l:List Oper)(k:Nat){e:bM}{t:Array Value}{h:aa}{K:bM->aa->Prop},ops.toList.drop k=l->Rel e t->t.size=n->
  CM P n ops l e h K->vj P ops (λt' h'=>Fr ops t t'/\∃e',Rel e' t'/\K e' h') ((List.range ops.size).drop k) t h
 | [],k,e,t,h,K,hl,hr,hn,hc=>by
  have :ops.size<=k:=by
   have :=congrArg List.length hl;simp at this;omega
  rw[List.drop_eq_nil_of_le (by simpa using this)];exact⟨.refl _,e,hr,hc⟩
 | o::r,k,e,t,h,K,hl,hr,hn,hc=>by
  have hk:k<ops.size:=by
   have :=congrArg List.length hl;simp at this;omega
  have ho:ops[k]? =some o:=by
   have :(ops.toList.drop k)[0]? =some o:=by rw[hl];rfl
   simpa using this
  have hl':ops.toList.drop (k+1)=r:=by
   rw[<-List.drop_drop,hl];rfl
  have hd:(List.range ops.size).drop k=k::(List.range ops.size).drop (k+1):=by
   rw[List.drop_eq_getElem_cons (by simpa using hk)];simp
  rw[hd];refine qP ?_ (yX ho hr hn hc);rintro t' h' ⟨hf,e',hr',a⟩;have :=Jo r (k+1) hl' hr' (hf.1.trans hn) a;have mono:∀(l:List Nat)(t:Array Value)(h:aa){K K':Array Value->aa->Prop},(∀t h,K t h->K' t h)->vj P ops K l t h->vj P ops K' l t h:=by
   intro l
   induction l with
   |nil=>intro t h K K' hm hk;exact hm _ _ hk
   |cons i r ih=>intro t h K K' hm hk;exact qP (λt h=>ih t h hm) hk
  exact mono _ _ _ (λt'' h''⟨hf',hx⟩=>⟨hf.trans hf',hx⟩) this
end
open Go
def pR(o:Oper):Nat:=o.after.toList.foldl (λs e=>bif Region.binds .any e then s|||2^e.on else s) 0
def pS(o:Oper)(i listed:Nat):Bool:=
 match Nat.testBit listed i with
 |true=>false
 |false=>Nat.beq (pR o&&& listed) (pR o)
def sR(listed:Nat):List Oper->Nat->Option (Nat×Oper)
 | [],_=>none
 | o::r,i=>match oy o.op with
  |true=>(match pS o i listed with
   |true=>some (i,o)
   |false=>sR listed r (i+1))
  |false=>sR listed r (i+1)
def kY(listed:Nat):List Oper->Nat->List (Nat×Oper)
 | [],_=>[]
 |o::r,i=>match pS o i listed with
  |true=>(i,o)::kY listed r (i+1)
  |false=>kY listed r (i+1)
abbrev oE:=List (Nat×Oper×bM×Value)
def kC(a:Nat):oE->oE
 | []=>[]
 |x::r=>match Nat.testBit a x.1 with
  |true=>kC a r
  |false=>x::kC a r
def recheck(P:Program)(h:aa):oE->Prop->Prop
 | [],R=>R
 |x::r,R=>ig P (ev x.2.2.1) x.2.1.op h (λv=>v=x.2.2.2)/\recheck P h r R
def CN{α:Type}(F:α->Prop):List α->Prop
 | []=>True
 | [x]=>F x
 |x::y::r=>F x/\CN F (y::r)
def mP (P:Program) (n:Nat) (ops:Array Oper) (bE:List Nat):Nat->Nat->oE->bM->aa->(bM->aa->Prop)->Prop
 |0,listed,_,e,h,K=>(match kY listed ops.toList 0 with
  | []=>K e h
  |_=>False)
 | f +1,listed,H,e,h,K=>
  match sR listed ops.toList 0 with
  | some (c,o)=>vh ops o e fun w e'=>(match w with
   | true=>(match sQ n o e' with
    |true=>ig P (ev e') o.op h λv=>mP P n ops bE f (listed|||2^c) (match sN P o.op with
     |true=>H
     |false=>H++ [(c,o,e',v)]) (kB e' o.dst v) h K
    |false=>False)
   |false=>(match nK n o.dst with
    |true=>mP P n ops bE f (listed|||2^c) H (kB e' o.dst undef) h K
    |false=>False))
  | none=>(match kY listed ops.toList 0 with
   | []=>K e h
   |l=>CN (λ(x:Nat×Oper)=>nL P n ops x.2 e h λe' h'=>(match uZ x.2.op with
    |true=>mP P n ops bE f (listed|||2^x.1) (kC (bE.getD x.1 0) H) e' h' K
    |false=>recheck P h' (kC (bE.getD x.1 0) H) (mP P n ops bE f (listed|||2^x.1) (kC (bE.getD x.1 0) H) e' h' K))) l)
section
variable{P:Program}{ops:Array Oper}{n:Nat}{bE:List Nat}
def LR(ops:Array Oper)(listed:Nat)(lA:Array Bool):Prop:=lA.size=ops.size/\∀j,lA.getD j false=listed.testBit j
theorem LR.set{listed:Nat}{lA:Array Bool}{i:Nat}(h:LR ops listed lA)(hi:i<ops.size):LR ops (listed|||2^i) (lA.setIfInBounds i true):=by
 refine⟨by simp[h.1],λj=> ?_⟩;rw[yU (by rw[h.1];exact hi),Nat.testBit_or,Nat.testBit_two_pow,<-h.2 j];by_cases e:i=j<;>simp[e]
theorem Jp(o:Oper)(c:Nat):(pR o).testBit c=true↔∃e∈o.after,Region.binds .any e=true/\e.on=c:=by
 have key:∀(l:List Edge)(s:Nat),(l.foldl (λs e=>bif Region.binds .any e then s|||2^e.on else s) s).testBit c=true↔
   s.testBit c=true\/∃e∈l,Region.binds .any e=true/\e.on=c:=by
  intro l
  induction l with
  |nil=>intro s;simp
  | cons e l ih=>
   intro s;rw[List.foldl_cons,ih];cases hb:Region.binds .any e with
   |false=>simp[hb]
   | true=>
    simp only[cond_true,Nat.testBit_or,Nat.testBit_two_pow,Bool.or_eq_true,decide_eq_true_eq,List.mem_cons,exists_eq_or_imp,hb,true_and];constructor
    ·rintro((h|h)|h)
     ·exact .inl h
     ·exact .inr (.inl h)
     ·exact .inr (.inr h)
    ·rintro(h|h|h)
     ·exact .inl (.inl h)
     ·exact .inl (.inr h)
     ·exact .inr h
 unfold pR;rw[key,Nat.zero_testBit];simp only[Bool.false_eq_true,false_or,<-Array.mem_def]
theorem vk{listed:Nat}{lA:Array Bool}{i:Nat}{o:Oper}(h:LR ops listed lA)(ho:ops[i]? =some o):pS o i listed=true↔i∈Region.ready .any ops lA:=by
 have hi:i<ops.size:=(Array.getElem?_eq_some_iff.1 ho).1;rw[mem_ready];have hd:lA.getD i true=listed.testBit i:=by
  rw[<-h.2 i];have :i<lA.size:=by rw[h.1];exact hi
  simp[Array.getD_eq_getD_getElem?,this]
 unfold pS;constructor
 ·intro hr;split at hr
  ·cases hr
  ·rename_i hb;refine⟨hi,by rw[hd,hb],o,ho,λe he a=> ?_⟩;have heq:=Nat.eq_of_beq_eq_true hr;have :(pR o).testBit e.on=true:=(Jp o e.on).2 ⟨e,he,a,rfl⟩;rw[<-heq,Nat.testBit_and,Bool.and_eq_true]at this;rw[h.2];exact this.2
 ·rintro⟨_,h2,o',ho',h3⟩;rw[ho]at ho';cases ho';rw[hd]at h2;rw[h2];dsimp only;have :pR o&&& listed=pR o:=by
   apply Nat.eq_of_testBit_eq;intro j;rw[Nat.testBit_and];cases hb:(pR o).testBit j with
   |false=>rfl
   |true=>
    obtain⟨e,he,a,rfl⟩:=(Jp o j).1 hb;rw[<-h.2,h3 e he a];rfl
  rw[this];exact Nat.beq_refl _
theorem Jq{listed:Nat}:∀(l:List Oper)(k:Nat){c:Nat}{o:Oper},sR listed l k=some (c,o)->
  k<=c/\l[c-k]? =some o/\oy o.op=true/\pS o c listed=true
 | [],k,c,o,h=>by cases h
 | x::l,k,c,o,h=>by
  have step:sR listed l (k+1)=some (c,o)->k<=c/\(x::l)[c-k]? =some o/\oy o.op=true/\pS o c listed=true:=by
   intro h;obtain⟨h1,h2,h3,h4⟩:=Jq l (k+1) h;refine⟨by omega,?_,h3,h4⟩;rw[show c-k=(c-(k+1))+1 by omega];simpa using h2
  simp only[sR]at h;split at h
  ·rename_i hq;split at h
   ·rename_i hr;simp only[Option.some.injEq,Prod.mk.injEq]at h;obtain⟨rfl,rfl⟩:=h;exact⟨Nat.le_refl _,by simp,hq,hr⟩
   ·exact step h
  ·exact step h
theorem vq{listed:Nat}:∀(l:List Oper)(k:Nat)(c:Nat)(o:Oper),(c,o)∈kY listed l k↔
  k<=c/\l[c-k]? =some o/\pS o c listed=true
 | [],k,c,o=>by simp[kY]
 | x ::l,k,c,o=>by
  have ih:=vq (listed:=listed) l (k+1) c o;have tail:(c,o)∈kY listed l (k+1)↔k<c/\(x::l)[c-k]? =some o/\pS o c listed=true:=by
   rw[ih];constructor
   ·rintro⟨h1,h2,h3⟩;refine⟨by omega,?_,h3⟩;rw[show c-k=(c-(k+1))+1 by omega];simpa using h2
   ·rintro⟨h1,h2,h3⟩;refine⟨by omega,?_,h3⟩;rw[show c-k=(c-(k+1))+1 by omega]at h2;simpa using h2
  simp only[kY];split
  ·rename_i hr;rw[List.mem_cons,tail];constructor
   ·rintro(h|⟨h1,h2,h3⟩)
    ·simp only[Prod.mk.injEq]at h;obtain⟨rfl,rfl⟩:=h;exact⟨Nat.le_refl _,by simp,hr⟩
    ·exact⟨by omega,h2,h3⟩
   ·rintro⟨h1,h2,h3⟩;rcases Nat.lt_or_ge k c with hlt|hge
    ·exact .inr ⟨hlt,h2,h3⟩
    ·have :c=k:=by omega
     subst this;simp at h2;subst h2;exact .inl rfl
  ·rename_i hr;rw[tail];constructor
   ·rintro⟨h1,h2,h3⟩;exact⟨by omega,h2,h3⟩
   ·rintro⟨h1,h2,h3⟩;rcases Nat.lt_or_ge k c with hlt|hge
    ·exact⟨hlt,h2,h3⟩
    ·have :c=k:=by omega
     subst this;simp at h2;subst h2;rw[h3]at hr;cases hr
theorem Jr{α:Type}{F:α->Prop}:∀{l:List α},CN F l->∀x∈l,F x
 | [x],h,y,hy=>by rw[List.mem_singleton.1 hy];exact h
 |x::y::r,h,z,hz=>by
  rcases List.mem_cons.1 hz with rfl|hz
  ·exact h.1
  ·exact Jr h.2 z hz
theorem Js{h:aa}{R:Prop}:∀{H:oE},recheck P h H R->R/\∀x∈H,ig P (ev x.2.2.1) x.2.1.op h (λv=>v=x.2.2.2)
 | [],hr=>⟨hr,by simp⟩
 | x::H,hr=>by
  obtain⟨h1,h2⟩:=Js hr.2;exact⟨h1,λy hy=>by
   rcases List.mem_cons.1 hy with rfl|hy
   ·exact hr.1
   ·exact h2 y hy⟩
theorem yY{a:Nat}:∀{H:oE}{x:Nat×Oper×bM×Value},x∈kC a H↔x∈H/\a.testBit x.1=false
 | [],x=>by simp[kC]
 | y::H,x=>by
  simp only[kC];split
  ·rename_i hb;rw[yY,List.mem_cons];constructor
   ·rintro⟨h1,h2⟩;exact⟨.inr h1,h2⟩
   ·rintro⟨rfl|h1,h2⟩
    ·rw[hb]at h2;cases h2
    ·exact⟨h1,h2⟩
  ·rename_i hb;rw[List.mem_cons,yY,List.mem_cons];constructor
   ·rintro(rfl|⟨h1,h2⟩)
    ·exact⟨.inl rfl,hb⟩
    ·exact⟨.inr h1,h2⟩
   ·rintro⟨rfl|h1,h2⟩
    ·exact .inl rfl
    ·exact .inr ⟨h1,h2⟩
def HR(P:Program)(H:oE)(HA:nJ):Prop:=
 ∀x∈HA,(∀h,x.2 h)\/∃y∈H,y.1=x.1/\∀h,ig P (ev y.2.2.1) y.2.1.op h (λv=>v=y.2.2.2)->x.2 h
theorem HR.drop{H:oE}{HA:nJ}{i:Nat}(hh:HR P H HA):HR P (kC (bE.getD i 0) H) (kf bE i HA):=by
 intro x hx;obtain⟨hx1,hx2⟩:=List.mem_filter.1 hx;rcases hh x hx1 with h|⟨y,hy,he,h⟩
 ·exact .inl h
 ·refine .inr ⟨y,yY.2 ⟨hy,?_⟩,he,h⟩;rw[he];simpa[jm]using hx2
def QK(ops:Array Oper)(K:bM->aa->Prop)(t₀:Array Value):Array Value->aa->Prop:=
 λt h=>Fr ops t₀ t/\∃e,Rel e t/\K e h
theorem Jt{c:Nat}{o:Oper}(ho:ops[c]? =some o)(hq:oy o.op=true):quietAt ops c=true:=by
 simp[quietAt,ho,hq]
theorem yZ {K:bM->aa->Prop} {t₀:Array Value}:∀(f:Nat){listed:Nat}{lA:Array Bool}{H:oE}{HA:nJ}{e:bM}{t:Array Value}{h:aa},
  LR ops listed lA->HR P H HA->(∀x∈H,ig P (ev x.2.2.1) x.2.1.op h (λv=>v=x.2.2.2))->Rel e t->t.size=n->Fr ops t₀ t->
  mP P n ops bE f listed H e h K->RW P ops bE (QK ops K t₀) f HA lA t h
 | 0,listed,lA,H,HA,e,t,h,hl,hh,a,hr,hn,hfr,hc=>by
  unfold mP at hc;split at hc
  ·rename_i hnone;refine⟨?_,hfr,e,hr,hc⟩;apply List.eq_nil_iff_forall_not_mem.2;intro i hi;obtain⟨_,_,o,ho,_⟩:=mem_ready.1 hi;have :(i,o)∈kY listed ops.toList 0:=(vq _ _ _ _).2 ⟨Nat.zero_le _,by simpa using ho,(vk hl ho).2 hi⟩;rw[hnone]at this;cases this
  ·exact hc.elim
 | f + 1,listed,lA,H,HA,e,t,h,hl,hh,a,hr,hn,hfr,hc=>by
  unfold mP at hc;split at hc
  ·rename_i c o q;obtain⟨_,ho,hq,hrd⟩:=Jq _ _ q;have ho:ops[c]? =some o:=by simpa using ho
   have b:=(vk hl ho).1 hrd;obtain⟨e',hr',hc⟩:=Jm hr hc;have hcs:c<ops.size:=pQ b;have m:iI ops c=o.dst:=by simp[iI,ho]
   cases hw:Region.wanted o (yielded ops t)with
   | true=>
    rw[hw]at hc;dsimp only at hc;split at hc
    ·rename_i hok;obtain⟨hp,hk,hd⟩:=yV hok;rw[<-hn]at hd;obtain⟨v,hK,hall⟩:=Yx _ _ _ hc;have hg:∀h',ig P (ev e') o.op h' (λu=>u=v)->iU P ops c v t h':=by
      intro h' s;obtain⟨u,hu,rfl⟩:=I4 s;refine⟨o,ho,?_⟩;rw[if_pos hw,<-yW hr' hp hk];exact hu
     have d:ig P (ev e') o.op h (λu=>u=v):=hall _ rfl;have g:HR P (match sN P o.op with
      |true=>H
      |false=>H++ [(c,o,e',v)]) (HA++ [(c,iU P ops c v t)]):=by
      intro x hx;rcases List.mem_append.1 hx with hx|hx
      ·rcases hh x hx with hx|⟨y,hy,he,hx⟩
       ·exact .inl hx
       ·refine .inr ⟨y,?_,he,hx⟩;split
        ·exact hy
        ·exact List.mem_append.2 (.inl hy)
      ·rw[List.mem_singleton.1 hx];split
       ·rename_i hpure;exact .inl λh'=>hg h' (X2 hpure d)
       ·exact .inr ⟨(c,o,e',v),List.mem_append.2 (.inr (List.mem_singleton.2 rfl)),rfl,λh'=>hg h'⟩
     have hF:∀x∈(match sN P o.op with
      |true=>H
      |false=>H++ [(c,o,e',v)]),ig P (ev x.2.2.1) x.2.1.op h (λu=>u=x.2.2.2):=by
      intro x hx;split at hx
      ·exact a x hx
      ·rcases List.mem_append.1 hx with hx|hx
       ·exact a x hx
       ·rw[List.mem_singleton.1 hx];exact d
     have hrw:=yZ f (hl.set hcs) g hF (hr'.put hd) (by rw[pO];exact hn) (hfr.trans (Fr.put ho)) hK;exact .inr (.inl ⟨c,v,b,Jt ho hq,hg h d,by rw[m];exact hrw⟩)
    ·exact hc.elim
   | false=>
    rw[hw]at hc;dsimp only at hc;split at hc
    ·rename_i hd;rw[<-hn]at hd;have hg:∀h',iU P ops c undef t h':=λh'=>⟨o,ho,by rw[hw];simp⟩;have g:HR P H (HA++ [(c,iU P ops c undef t)]):=by
      intro x hx;rcases List.mem_append.1 hx with hx|hx
      ·exact hh x hx
      ·rw[List.mem_singleton.1 hx];exact .inl hg
     have hrw:=yZ f (hl.set hcs) g a (hr'.put hd) (by rw[pO];exact hn) (hfr.trans (Fr.put ho)) hc;exact .inr (.inl ⟨c,undef,b,Jt ho hq,hg h,by rw[m];exact hrw⟩)
    ·exact hc.elim
  ·split at hc
   ·rename_i hnone;refine .inl ⟨?_,hfr,e,hr,hc⟩;apply List.eq_nil_iff_forall_not_mem.2;intro i hi;obtain⟨_,_,o,ho,_⟩:=mem_ready.1 hi;have :(i,o)∈kY listed ops.toList 0:=(vq _ _ _ _).2 ⟨Nat.zero_le _,by simpa using ho,(vk hl ho).2 hi⟩;rw[hnone]at this;cases this
   ·rename_i l hne;have key:∀i∈Region.ready .any ops lA,ij P ops i t h λt' h'=>(∀x∈kf bE i HA,x.2 h')/\RW P ops bE (QK ops K t₀) f (kf bE i HA) (lA.setIfInBounds i true) t' h':=by
     intro i hi;obtain⟨_,_,o,ho,_⟩:=mem_ready.1 hi;have hmem:(i,o)∈kY listed ops.toList 0:=(vq _ _ _ _).2 ⟨Nat.zero_le _,by simpa using ho,(vk hl ho).2 hi⟩;have hx:=Jr hc (i,o) hmem;have w:i<ops.size:=pQ hi;have fin:∀(e':bM)(t':Array Value)(h':aa),Fr ops t t'->Rel e' t'->(∀x∈kC (bE.getD i 0) H,ig P (ev x.2.2.1) x.2.1.op h' (λv=>v=x.2.2.2))->
       mP P n ops bE f (listed|||2^i) (kC (bE.getD i 0) H) e' h' K->
       (∀x∈kf bE i HA,x.2 h')/\RW P ops bE (QK ops K t₀) f (kf bE i HA) (lA.setIfInBounds i true) t' h':=by
      intro e' t' h' hf hr' hF hcd;have hrw:=yZ f (hl.set w) (HR.drop hh) hF hr' (hf.1.trans hn) (hfr.trans hf) hcd;refine⟨λx hx=> ?_,hrw⟩;rcases HR.drop (bE:=bE) (i:=i) hh x hx with h1|⟨y,hy,_,h1⟩
      ·exact h1 h'
      ·exact h1 h' (hF y hy)
     cases j:uZ o.op with
     | true=>
      have hx:nL P n ops o e h λe' h'=>mP P n ops bE f (listed|||2^i) (kC (bE.getD i 0) H) e' h' K:=by
       dsimp only at hx;rw[j]at hx;exact hx
      refine qP ?_ (yX ho hr hn (YH j hx));rintro t' h' ⟨hf,e',hr',hcd,z⟩;refine fin e' t' h' hf hr' ?_ hcd;intro x hx;have :=a x (yY.1 hx).1;rcases z with rfl|⟨y,rfl⟩
      ·exact this
      ·exact X1 this
     | false=>
      have hx:nL P n ops o e h λe' h'=>recheck P h' (kC (bE.getD i 0) H) (mP P n ops bE f (listed|||2^i) (kC (bE.getD i 0) H) e' h' K):=by
       dsimp only at hx;rw[j]at hx;exact hx
      refine qP ?_ (yX ho hr hn hx);rintro t' h' ⟨hf,e',hr',hcd⟩;obtain⟨h1,h2⟩:=Js hcd;exact fin e' t' h' hf hr' h2 h1
    by_cases k:Region.ready .any ops lA=[]
    ·refine .inl ⟨k,?_⟩;exfalso;cases p:kY listed ops.toList 0 with
     |nil=>exact hne p
     |cons x r=>
      obtain⟨i,o⟩:=x;have hm:(i,o)∈kY listed ops.toList 0:=by rw[p];exact List.mem_cons_self
      obtain⟨_,ho,hrd⟩:=(vq _ _ _ _).1 hm;have :=(vk hl (by simpa using ho)).1 hrd;rw[k]at this;cases this
    ·exact .inr (.inr ⟨k,key⟩)
end
end Go.Mh
