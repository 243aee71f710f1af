/- Lemmas on the way to the law of this seat, joined. They have no conditions of their own. -/
import Derived.Test.YtacopgnplajifaaGreatDoorMb
import Derived.WalkKit
import Derived.ProofKit
import Derived.ReadAgain
import Derived.Handed
import Derived.RecoverIn
set_option linter.unusedVariables false
set_option linter.unusedSimpArgs false
set_option linter.unusedSectionVars false
set_option linter.defProp false

namespace Go.Mh
open Go
structure A where
 f:Nat
 t:Nat
 w:Nat
 deriving DecidableEq
structure G where
 n:Nat
 X:List Int
 Y:List Int
 aj:List A
def fI(a:A):List Value:=[I a.f,I a.t,I a.w]
def qJ(a:A):(fI a).length=3:=rfl
def gQ(a:A):∀u∈fI a,plainCell u=true:=by intro u hu;simp[fI]at hu;rcases hu with rfl|rfl|rfl<;>rfl
abbrev vA(a:A):Value:=.agg #[I a.f,I a.t,I a.w]
structure G.Right(g:G):Prop where
 pos:1<=g.n
 most:g.n<=16777216
 x:g.X.length=g.n
 y:g.Y.length=g.n
 xr:∀c∈g.X,-2147483648<=c/\c<=2147483647
 yr:∀c∈g.Y,-2147483648<=c/\c<=2147483647
 many:g.aj.length<=67108864
 ends:∀a∈g.aj,a.f<g.n/\a.t<g.n/\a.w<=2147483647
def qK(h:af)(vx vy va:Value)(g:G):Prop:=Vw aJ 1 h vx g.X/\Vw aJ 1 h vy g.Y/\Vw fI 3 h va g.aj
def qL(h:af)(v:Value)(g:G):Prop:=∃vx vy va,v=.agg #[I g.n,vx,vy,va]/\qK h vx vy va g
def qK.more{h h':af}{vx vy va:Value}{g:G}(H:qK h vx vy va g)(x:Ext h h'):qK h' vx vy va g:=⟨H.1.more x,H.2.1.more x,H.2.2.more x⟩
def qL.more{h h':af}{v:Value}{g:G}(H:qL h v g)(x:Ext h h'):qL h' v g:=by obtain⟨vx,vy,va,e,H⟩:=H;exact⟨vx,vy,va,e,H.more x⟩
def rW(x:Int):List Value:=[.int .u8 x]
def acu(x:Int):(rW x).length=1:=rfl
def lT(v:Value):List Value:=[v]
def LL(v:Value):(lT v).length=1:=rfl
def gY(p:A->Bool):List A->Nat->List Nat
 | [],_=>[]
 |a::l,i=>if p a then i::gY p l (i+1)else gY p l (i+1)
def G.out(g:G)(v:Nat):List Nat:=gY (λa=>a.f==v) g.aj 0
def G.in(g:G)(v:Nat):List Nat:=gY (λa=>a.t==v) g.aj 0
def bg(x:Nat):List Value:=[I x]
def uV(x:Nat):(bg x).length=1:=rfl
def qM(x:Nat):∀u∈bg x,plainCell u=true:=by intro u hu;simp[bg]at hu;subst hu;rfl
def acv(x:Int):0<=IntKind.u8.wrap x/\IntKind.u8.wrap x<256:=by simp only[IntKind.wrap,IntKind.bits,IntKind.signed,oy,gm,dN];omega
def Arcs.off(p:A->Nat)(l:List A)(v:Nat):Nat:=l.countP λa=>decide (p a<v)
def Arcs.cnt(p:A->Nat)(l:List A)(v:Nat):Nat:=l.countP λa=>p a==v
section
variable{p:A->Nat}{l:List A}{v n:Nat}
open Arcs
def zQ:off p l (v+1)=off p l v+cnt p l v:=by
 unfold off cnt
 induction l with
 |nil=>rfl
 | cons a l ih=>
  simp only[List.countP_cons,ih];by_cases h1:p a<v
  .simp[h1,show p a<v+1 by omega,show ¬p a=v by omega];omega
  .by_cases h2:p a=v
   .simp[h2];omega
   .simp[h1,h2,show ¬p a<v+1 by omega]
def acw:off p l 0=0:=by simp[off]
def acy:off p l v<=l.length:=yQ
def LM{u:Nat}(h:u<=v):off p l u<=off p l v:=by
 induction h with
 |refl=>exact cq _
 |step h ih=>rw[Nat.succ_eq_add_one,zQ];omega
def acz:cnt p l v<=l.length:=yQ
def Cm:off p l v+cnt p l v<=l.length:=by rw[<-zQ];exact acy
def zR(q:A->Bool):∀(l:List A)(i:Nat),(gY q l i).length=l.countP q
 | [],_=>rfl
 |a::l,i=>by simp only[gY,List.countP_cons];split<;>simp[zR q l, *]
def LN(q:A->Bool):∀(l m:List A)(i:Nat),gY q (l++m) i=gY q l i++gY q m (i+l.length)
 | [],m,i=>by simp[gY]
 |a::l,m,i=>by simp only[gY,qq,LN q l m,fO];have e:i+1+l.length=i+(l.length+1):=aa;rw[e];split<;>simp
def oM{q:A->Bool}:∀{l:List A}{i x:Nat},x∈gY q l i↔i<=x/\∃h:x-i<l.length,q (l[x-i])=true
 | [],i,x=>by simp[gY]
 | a::l,i,x=>by
  have ih:=@oM q l (i+1) x;have key:x∈gY q (a::l) i↔(x=i/\q a=true)\/x∈gY q l (i+1):=by
   simp only[gY];split
   .simp[*]
   .simp[*]
  rw[key,ih];constructor
  .rintro(⟨rfl,hq⟩|⟨h1,h2,h3⟩)
   .exact⟨cq _,aP,by simpa using hq⟩
   .refine⟨aa,by simp;omega,?_⟩;have e:x-i=(x-(i+1))+1:=aa;simp only[e,vZ];exact h3
  .rintro⟨h1,h2,h3⟩;by_cases e:x=i
   .subst e;left;exact⟨rfl,by simpa using h3⟩
   .right;have e:x-i=(x-(i+1))+1:=aa;simp only[e,vZ]at h3;exact⟨aa,by simp at h2;omega,h3⟩
def fill(p:A->Nat)(l:List A)(i v:Nat):List Nat:=gY (λa=>p a==v) (l.take i) 0
def xw{i:Nat}:(fill p l i v).length=cnt p (l.take i) v:=zR _ _ _
def LO{i:Nat}:cnt p (l.take i) v<=cnt p l v:=(List.take_sublist i l).countP_le
def LP{i:Nat}:(fill p l i v).length<=cnt p l v:=by rw[xw];exact LO
def Cn{i:Nat}(hi:i<l.length):fill p l (i+1) v=fill p l i v++(if p l[i]=v then[i]else[]):=by
 unfold fill;rw[cW hi,LN];congr 1;have :(l.take i).length=i:=by simp;omega
 rw[this,bE];simp only[gY];by_cases h:p l[i]=v
 .simp[h]
 .simp[h]
def LQ{i:Nat}(hi:i<l.length):cnt p (l.take (i+1)) v=cnt p (l.take i) v+(if p l[i]=v then 1 else 0):=by rw[<-xw,Cn hi,cG,xw];split<;>simp
def LU{i:Nat}(hi:i<l.length):cnt p (l.take i) (p l[i])<cnt p l (p l[i]):=by have h1:=LQ (p:=p) (v:=p l[i]) hi;have h2:cnt p (l.take (i+1)) (p l[i])<=cnt p l (p l[i]):=LO;simp at h1;omega
def Gj{α:Type}{f:Nat->α}{k:Nat}{x:α}:((List.range n).map f).set k x=(List.range n).map λv=>if v=k then x else f v:=by
 apply iW
 .simp
 .intro j h1 h2;simp only[qx,qv,sP];split<;>rename_i h
  .subst h;simp
  .simp[show ¬j=k from λe=>h e.symm]
end
abbrev HP:=Int×Int
def hl(p q:HP):Bool:=decide (p.2<q.2)||(decide (p.2=q.2)&&decide (p.1<q.1))
def oO{p q:HP}:hl p q=true↔p.2<q.2\/p.2=q.2/\p.1<q.1:=by simp[hl]
def least:List HP->Option HP
 | []=>none
 |p::l=>match least l with
  |none=>some p
  |some q=>if hl q p then some q else some p
def uW{l:List HP}:least l=none↔l=[]:=by
 cases l with
 |nil=>simp[least]
 |cons p l=>
  simp only[least];split
  .simp
  .split<;>simp
def jF:∀{l:List HP}{p:HP},least l=some p->p∈l/\∀q∈l,¬hl q p=true
 | a ::l,p,h=>by
  simp only[least]at h;split at h
  .rename_i hn;rw[uW]at hn;subst hn;simp at h;subst h;refine⟨cN,λq hq=> ?_⟩;simp at hq;subst hq;rw[oO];omega
  .rename_i q hq;obtain⟨h1,h2⟩:=jF hq;split at h
   .rename_i hlt;simp at h;subst h;refine⟨cZ _ h1,λx hx=> ?_⟩;rcases cV.1 hx with rfl|hx
    .rw[oO]at *;omega
    .exact h2 x hx
   .rename_i hlt;simp at h;subst h;refine⟨cN,λx hx=> ?_⟩;rcases cV.1 hx with rfl|hx
    .rw[oO];omega
    .have :=h2 x hx;rw[oO]at *;omega
def nU(l:List HP)(v:Nat):Option Int:=(l.find? λp=>p.1==(v:Int)).map (·.2)
def tu{l:List HP}{v:Nat}:nU l v=none↔∀p∈l,p.1≠v:=by simp[nU]
def tw{l:List HP}{v:Nat}{k:Int}(h:nU l v=some k):((v:Int),k)∈l:=by
 simp only[nU,Bq]at h;obtain⟨p,hp,rfl⟩:=h;have h1:=List.find?_some hp;have h2:=List.mem_of_find?_eq_some hp;have :p.1=v:=by simpa using h1
 rw[<-this];exact h2
structure FS where
 hp:List HP
 aM:List Int
 bS:List Int
 order:List Nat
def FS.reach(s:FS)(v a:Nat)(aN:Int):FS:=
 if v∈s.order then s else match nU s.hp v with
 |some was=>if was<=aN then s else{s with hp:=((v:Int),aN)::s.hp.erase ((v:Int),was),bS:=s.bS.set v a}
 |none=>{s with hp:=((v:Int),aN)::s.hp,bS:=s.bS.set v a}
def aH(l:List A)(i:Nat):A:=l.getD i ⟨0,0,0⟩
def FS.scan(l:List A)(head:A->Nat)(key:Int)(s:FS)(ids:List Nat):FS:=ids.foldl (λs i=>s.reach (head (aH l i)) i (key+(aH l i).w)) s
def FS.pop(s:FS)(v:Nat)(key:Int):FS:={hp:=s.hp.erase ((v:Int),key),aM:=s.aM.set v key,bS:=s.bS,order:=s.order++ [v]}
def FS.run(l:List A)(outs:Nat->List Nat)(head:A->Nat):Nat->FS->FS
 |0,s=>s
 |k+1,s=>match least s.hp with
  |none=>s
  |some p=>FS.run l outs head k ((s.pop p.1.toNat p.2).scan l head p.2 (outs p.1.toNat))
def aN:Int:=72057594037927936
def FS.start(n s:Nat):FS:=⟨[((s:Int),0)],List.replicate n aN,List.replicate n (-1),[]⟩
structure Tr where
 aM:List Int
 bS:List Int
 order:List Nat
def FS.tree(s:FS):Tr:=⟨s.aM,s.bS,s.order⟩
def Tr.none:Tr:=⟨[],[],[]⟩
def Co(l:List A)(n:Nat)(outs:Nat->List Nat)(head:A->Nat)(s:Nat):Tr:=(FS.run l outs head (n+1) (FS.start n s)).tree
def G.from(g:G)(s:Nat):Tr:=Co g.aj g.n g.out A.t s
def G.to(g:G)(s:Nat):Tr:=Co g.aj g.n g.in A.f s
def G.cU(g:G)(s:Int):Tr:=if 0<=s/\s<g.n then g.from s.toNat else .none
def G.toI(g:G)(s:Int):Tr:=if 0<=s/\s<g.n then g.to s.toNat else .none
def kH:∀{n:Nat}{l:List Nat},l.Nodup->(∀x∈l,x<n)->l.length<=n
 |0,l,_,h=>by
  cases l with
  |nil=>simp
  |cons a l=>exact absurd (h a cN) aa
 | n+1,l,hn,h=>by
  by_cases hm:n∈l
  .have h1:(l.erase n).Nodup:=List.Nodup.erase n hn;have h2:∀x∈l.erase n,x<n:=λx hx=>by
    have h3:=h x (kW hx);have h4:x≠n:=λe=>by subst e;exact(List.Nodup.mem_erase_iff hn).1 hx |>.1 rfl
    omega
   have :=kH h1 h2;rw[yR hm]at this;omega
  .have :=kH (n:=n) hn λx hx=>by
    have h3:=h x hx;have :x≠n:=λe=>hm (e▸hx);omega
   omega
abbrev W:Int:=2147483647
structure fB(n:Nat)(B:Int)(s:FS):Prop where
 ids:(s.hp.map (·.1)).Nodup
 cK:∀p∈s.hp,∃u:Nat,p.1=u/\u<n/\u∉s.order/\0<=p.2/\p.2<=B
 ord:s.order.Nodup
 lU:∀v∈s.order,v<n
 dl:s.aM.length=n
 al:s.bS.length=n
def fB.start{n s:Nat}(h:s<n):fB n 0 (FS.start n s):=by refine⟨by simp[FS.start],λp hp=> ?_,by simp[FS.start],by simp[FS.start],by simp[FS.start],by simp[FS.start]⟩;simp[FS.start]at hp;subst hp;exact⟨s,rfl,h,by simp[FS.start],aP,aP⟩
def fB.room{n:Nat}{B:Int}{s:FS}(H:fB n B s)(h:s.hp≠ []):s.order.length<n:=by
 obtain⟨p,hp⟩:=EW _ h;obtain⟨u,_,hu,hno,_⟩:=H.cK p hp;have :=kH (n:=n) (l:=u::s.order) (gC.2 ⟨hno,H.ord⟩) (by
  intro x hx;rcases cV.1 hx with rfl|hx
  .exact hu
  .exact H.lU x hx)
 simp at this;omega
def fB.len{n:Nat}{B:Int}{s:FS}(H:fB n B s):s.order.length<=n:=kH H.ord H.lU
def xy{l:List HP}{p:HP}:((l.erase p).map (·.1)).Sublist (l.map (·.1)):=List.Sublist.map _ List.erase_sublist
def not_mem_erase{l:List HP}(h:(l.map (·.1)).Nodup){p q:HP}(hp:p∈l)(hq:q∈l.erase p):q.1≠p.1:=by
 induction l with
 |nil=>simp at hp
 | cons a l ih=>
  simp only[dI,gC]at h;by_cases e:a=p
  .subst e;rw[List.erase_cons_head]at hq;intro e;exact h.1 (e▸cP.2 ⟨q,hq,rfl⟩)
  .have hp':p∈l:=by
    rcases cV.1 hp with rfl|hp
    .exact absurd rfl e
    .exact hp
   rw[List.erase_cons_tail (by simpa using e)]at hq;rcases cV.1 hq with rfl|hq
   .intro e';exact h.1 (e'▸cP.2 ⟨p,hp',rfl⟩)
   .exact ih h.2 hp' hq
def fB.nV{n:Nat}{B:Int}{s:FS}(H:fB n B s){v:Nat}{key:Int}(h:((v:Int),key)∈s.hp):fB n B (s.pop v key):=by
 obtain⟨u,hu,hun,hno,_,_⟩:=H.cK _ h;have hu:v=u:=by simp at hu;omega
 subst hu;refine⟨xy.nodup H.ids,λp hp=> ?_,?_,λx hx=> ?_,by simp[FS.pop,H.dl],H.al⟩
 .obtain⟨w,h1,h2,h3,h4⟩:=H.cK p (kW hp);refine⟨w,h1,h2,?_,h4⟩;simp only[FS.pop,cS,eP];rintro(hx|rfl)
  .exact h3 hx
  .exact not_mem_erase H.ids h hp h1
 .simp only[FS.pop];rw[kq];refine⟨H.ord,aP,λa ha b hb=> ?_⟩;simp at hb;subst hb;exact λe=>hno (e▸ha)
 .simp only[FS.pop,cS,eP]at hx;rcases hx with hx|rfl
  .exact H.lU x hx
  .exact hun
def fB.mono{n:Nat}{B B':Int}{s:FS}(H:fB n B s)(h:B<=B'):fB n B' s:=⟨H.ids,λp hp=>by obtain⟨u,a,b,c,d,e⟩:=H.cK p hp;exact⟨u,a,b,c,d,aa⟩,H.ord,H.lU,H.dl,H.al⟩
def fB.reach{n:Nat}{B:Int}{s:FS}(H:fB n B s){v a:Nat}{d:Int}(hv:v<n)(h0:0<=d)(hB:d<=B):fB n B (s.reach v a d):=by
 unfold FS.reach;split
 .exact H
 .rename_i hno;split
  .rename_i was hw;split
   .exact H
   .have hm:=tw hw;refine⟨?_,λp hp=> ?_,H.ord,H.lU,H.dl,by simp[H.al]⟩
    .simp only[dI,gC];refine⟨λhx=> ?_,xy.nodup H.ids⟩;obtain⟨q,hq,he⟩:=cP.1 hx;exact not_mem_erase H.ids hm hq he
    .rcases cV.1 hp with rfl|hp
     .exact⟨v,rfl,hv,hno,h0,hB⟩
     .exact H.cK p (kW hp)
  .rename_i hw;rw[tu]at hw;refine⟨?_,λp hp=> ?_,H.ord,H.lU,H.dl,by simp[H.al]⟩
   .simp only[dI,gC];refine⟨λhx=> ?_,H.ids⟩;obtain⟨q,hq,he⟩:=cP.1 hx;exact hw q hq he
   .rcases cV.1 hp with rfl|hp
    .exact⟨v,rfl,hv,hno,h0,hB⟩
    .exact H.cK p hp
def Cp{s:FS}{v a:Nat}{d:Int}:(s.reach v a d).order=s.order/\(s.reach v a d).aM=s.aM:=by
 unfold FS.reach;split
 .exact⟨rfl,rfl⟩
 .split
  .split<;>exact⟨rfl,rfl⟩
  .exact⟨rfl,rfl⟩
def fB.scan{n:Nat}{B:Int}{l:List A}{head:A->Nat}{key:Int}(hh:∀a∈l,head a<n/\(a.w:Int)<=W)(h0:0<=key)(hB:key+W<=B):∀{ids:List Nat}{s:FS},(∀i∈ids,i<l.length)->fB n B s->fB n B (s.scan l head key ids)
 | [],s,_,H=>H
 |i::ids,s,hi,H=>by
  have hlt:=hi i cN;have ha:aH l i∈l:=by simp[aH,hlt]
  obtain⟨h1,h2⟩:=hh _ ha;exact fB.scan (ids:=ids) hh h0 hB (λj hj=>hi j (cZ _ hj)) (H.reach h1 aa aa)
def Gk{l:List A}{head:A->Nat}{key:Int}:∀{ids:List Nat}{s:FS},(s.scan l head key ids).order=s.order/\(s.scan l head key ids).aM=s.aM
 | [],s=>⟨rfl,rfl⟩
 |i::ids,s=>by have :=@Gk l head key ids (s.reach (head (aH l i)) i (key+(aH l i).w));exact⟨this.1.trans Cp.1,this.2.trans Cp.2⟩
inductive Way(l:List A)(tl hd:A->Nat)(s:Nat):Nat->Int->Prop
 |nil:Way l tl hd s s 0
 |step {v:Nat} {d:Int} (a:A):Way l tl hd s v d->a∈l->tl a=v->Way l tl hd s (hd a) (d+a.w)
def Way.iP{l:List A}{tl hd:A->Nat}{s v:Nat}{d:Int}(h:Way l tl hd s v d):0<=d:=by
 induction h with
 |nil=>exact dQ 0
 |step a _ _ _ ih=>omega
abbrev aL(aM:List Int)(v:Nat):Int:=aM.getD v aN
structure LS(l:List A)(tl hd:A->Nat)(n s:Nat)(d:List Int):Prop where
 len:d.length=n
 zero:aL d s=0
 aj:∀a∈l,aL d (tl a)<aN->aL d (hd a)<=aL d (tl a)+a.w
 way:∀v,v<n->aL d v=aN\/(aL d v<aN/\Way l tl hd s v (aL d v))
def LV{d:List Int}{v:Nat}(h:¬v<d.length):aL d v=aN:=by simp[aL,cI,h]
def LS.qa{l:List A}{tl hd:A->Nat}{n s:Nat}{d:List Int}(H:LS l tl hd n s d){v:Nat}{w:Int}(h:Way l tl hd s v w):w<aN->aL d v<=w:=by
 induction h with
 |nil=>intro _;rw[H.zero];exact dQ 0
 |step a hw hm ht ih=>intro hlt;have h1:=ih aa;have :=H.aj a hm (by rw[ht];omega);rw[ht]at this;omega
structure lg(l:List A)(tl hd:A->Nat)(n s:Nat)(done:List Nat)(st:FS):Prop where
 d1:∀v∈st.order,aL st.aM v<aN/\Way l tl hd s v (aL st.aM v)
 d2:∀p∈st.hp,Way l tl hd s p.1.toNat p.2
 d3:∀v∈st.order,∀p∈st.hp,aL st.aM v<=p.2
 d4:∀i∈done,tl (aH l i)∈st.order/\((hd (aH l i)∈st.order/\aL st.aM (hd (aH l i))<=aL st.aM (tl (aH l i))+(aH l i).w)\/
  ∃k,((hd (aH l i):Int),k)∈st.hp/\k<=aL st.aM (tl (aH l i))+(aH l i).w)
 d5:∀v,v∉st.order->aL st.aM v=aN
 d6:∀v,v<n->v≠s->v∉st.order->(∀p∈st.hp,p.1≠v)->st.bS.getD v (-1)= -1
 d7:∀v,v≠s->(v∈st.order\/∃k,((v:Int),k)∈st.hp)->∃i,i<l.length/\st.bS.getD v (-1)=(i:Int)/\hd (aH l i)=v/\tl (aH l i)∈st.order/\tl (aH l i)≠v/\
  (v∈st.order->aL st.aM v=aL st.aM (tl (aH l i))+(aH l i).w/\st.order.idxOf (tl (aH l i))<st.order.idxOf v)/\(∀k,((v:Int),k)∈st.hp->k=aL st.aM (tl (aH l i))+(aH l i).w)
 d8:s∈st.order\/(st.order=[]/\st.hp=[((s:Int),0)])
 d9:st.bS.getD s (-1)= -1
 d10:st.order.Pairwise λu v=>aL st.aM u<=aL st.aM v
 d11:∀v,st.order.head? =some v->v=s/\aL st.aM s=0
def Cq{d:List Int}{v u:Nat}{k:Int}(hv:v<d.length):aL (d.set v k) u=if u=v then k else aL d u:=by
 by_cases h:u=v
 .subst h;simp[aL,cI,hv]
 .simp[aL,cI,h,gD (λe:v=u=>h e.symm)]
def tA{d:List Int}{v u:Nat}{k:Int}(hv:v<d.length):(d.set v k).getD u (-1)=if u=v then k else d.getD u (-1):=by
 by_cases h:u=v
 .subst h;simp[cI,hv]
 .simp[cI,h,gD (λe:v=u=>h e.symm)]
def lg.start{l:List A}{tl hd:A->Nat}{n s:Nat}(hs:s<n):lg l tl hd n s [] (FS.start n s):=by
 have hd:∀v,aL (List.replicate n aN) v=aN:=λv=>by by_cases h:v<n<;>simp[aL,cI,h]
 have ha:∀v,(List.replicate n (-1:Int)).getD v (-1)= -1:=λv=>by by_cases h:v<n<;>simp[cI,h]
 refine⟨by simp[FS.start],?_,by simp[FS.start],aP,λv _=>hd v,λv _ _ _ _=>ha v,?_,.inr ⟨rfl,rfl⟩,ha s,by simp[FS.start],by simp[FS.start]⟩
 .intro p hp;simp[FS.start]at hp;subst hp;simpa using Way.nil
 .rintro v hv (h|⟨k,h⟩)
  .simp[FS.start]at h
  .simp[FS.start]at h;omega
section
variable{l:List A}{tl hd:A->Nat}{n s:Nat}{done:List Nat}{st:FS}{B:Int}
def lg.nV(D:lg l tl hd n s done st)(H:fB n B st){v:Nat}{key:Int}(hm:((v:Int),key)∈st.hp)(hmin:∀q∈st.hp,¬hl q ((v:Int),key)=true)(hB:B<aN):lg l tl hd n s done (st.pop v key):=by
 obtain⟨u,hu,f,hno,w,c⟩:=H.cK _ hm;have hu:u=v:=by simp at hu;omega
 subst hu;have c:key<=B:=c;have g:u<st.aM.length:=by rw[H.dl];exact f
 have gp:∀x,aL (st.aM.set u key) x=if x=u then key else aL st.aM x:=λx=>Cq g;have hold:∀x∈st.order,aL (st.aM.set u key) x=aL st.aM x:=λx hx=>by have hne:¬x=u:=λe=>hno (by rw[<-e];exact hx);rw[gp,aQ hne]
 have hnew:aL (st.aM.set u key) u=key:=by rw[gp,aW rfl]
 have j:∀k,((u:Int),k)∈st.hp->k=key:=λk hk=>by
  by_cases e:((u:Int),k)=((u:Int),key)
  .simpa using e
  .have h2:((u:Int),k)∈st.hp.erase ((u:Int),key):=(oB e).2 hk;exact absurd rfl (not_mem_erase (p:=((u:Int),key)) (q:=((u:Int),k)) H.ids hm h2)
 have hge:∀p∈st.hp,key<=p.2:=λp hp=>by have :=hmin p hp;rw[oO]at this;simp only at this;omega
 simp only[FS.pop];refine⟨?_,λp hp=>D.d2 p (kW hp),?_,?_,?_,?_,?_,?_,D.d9,?_,?_⟩
 .intro x hx;rcases cS.1 hx with hx|hx
  .rw[hold x hx];exact D.d1 x hx
  .simp at hx;subst hx;rw[hnew];have :=D.d2 _ hm;exact⟨aa,by simpa using this⟩
 .intro x hx p hp;have hp':=kW hp;rcases cS.1 hx with hx|hx
  .rw[hold x hx];exact D.d3 x hx p hp'
  .simp at hx;subst hx;rw[hnew];exact hge p hp'
 .intro i hi;obtain⟨h1,h2⟩:=D.d4 i hi;refine⟨aqJ _ h1,?_⟩;rw[hold _ h1];rcases h2 with ⟨h2,h3⟩|⟨k,h2,h3⟩
  .exact .inl ⟨aqJ _ h2,by rw[hold _ h2];exact h3⟩
  .by_cases e:hd (aH l i)=u
   .left;rw[e]at h2 |-;exact⟨aP,by rw[hnew,<-j k h2];exact h3⟩
   .right;refine⟨k,(oB (by simp;intro e';omega)).2 h2,h3⟩
 .intro x hx;simp only[cS,eP,not_or]at hx;rw[gp,aQ hx.2];exact D.d5 x hx.1
 .intro x m hxs d o;simp only[cS,eP,not_or]at d;refine D.d6 x m hxs d.1 λp hp e=> ?_;refine o p ((oB λe'=> ?_).2 hp) e;subst e';simp at e;omega
 .intro x hxs hx;have t:x∈st.order\/∃k,((x:Int),k)∈st.hp:=by
   rcases hx with hx|⟨k,hk⟩
   .rcases cS.1 hx with hx|hx
    .exact .inl hx
    .simp at hx;subst hx;exact .inr ⟨key,hm⟩
   .exact .inr ⟨k,kW hk⟩
  obtain⟨i,h1,h2,h3,h4,h5,h6,h7⟩:=D.d7 x hxs t;refine⟨i,h1,h2,h3,aqJ _ h4,h5,λhx'=> ?_,λk hk=> ?_⟩
  .rw[hold _ h4,sQ,sQ,aW h4];rcases cS.1 hx' with hx'|hx'
   .rw[hold _ hx',aW hx'];exact h6 hx'
   .simp at hx';subst hx';rw[hnew,aQ hno];refine⟨h7 key hm,?_⟩;have :=sR h4;omega
  .rw[hold _ h4];exact h7 k (kW hk)
 .rcases D.d8 with h|⟨h1,h2⟩
  .exact .inl (aqJ _ h)
  .left;rw[h2]at hm;simp at hm;have :u=s:=aa;subst this;exact rF _ cN
 .rw[yS];refine⟨?_,aP,?_⟩
  .refine D.d10.imp_of_mem λ{a b} ha hb hab=> ?_;rw[hold a ha,hold b hb];exact hab
  .intro a ha b hb;simp at hb;subst hb;rw[hold a ha,hnew];exact D.d3 a ha _ hm
 .intro x hx;cases ho:st.order with
  | nil=>
   rw[ho]at hx;simp at hx;rcases D.d8 with h|⟨h1,h2⟩
   .rw[ho]at h;cases h
   .rw[h2]at hm;simp at hm;have :x=s:=aa;subst this;refine⟨rfl,?_⟩;have e:x=u:=aa;rw[e,hnew];exact hm.2
  |cons a r=>
   have :=D.d11 a (by rw[ho];rfl);rw[ho]at hx;simp at hx;subst hx;refine⟨this.1,?_⟩;have hs:s∈st.order:=by rw[ho,<-this.1];simp
   rw[hold _ hs];exact this.2
def lg.reached (D:lg l tl hd n s done st) (H:fB n B st) {i:Nat} (hi:i<l.length) (ht:tl (aH l i)∈st.order) (hh:hd (aH l i)<n)
  (c:∀x∈st.order,aL st.aM x<=aL st.aM (tl (aH l i))):
  lg l tl hd n s (done++ [i]) (st.reach (hd (aH l i)) i (aL st.aM (tl (aH l i))+(aH l i).w)):=by
 have ha:aH l i∈l:=by simp[aH,hi]
 generalize hv:hd (aH l i)=v at hh;generalize hd':aL st.aM (tl (aH l i))+((aH l i).w:Int)=d;have o:Way l tl hd s v d:=by rw[<-hv,<-hd'];exact .step _ (D.d1 _ ht).2 ha rfl
 have hs:s∈st.order:=by
  rcases D.d8 with h|⟨h1,h2⟩
  .exact h
  .rw[h1]at ht;cases ht
 unfold FS.reach;split
 .rename_i a;refine⟨D.d1,D.d2,D.d3,?_,D.d5,D.d6,D.d7,D.d8,D.d9,D.d10,D.d11⟩;intro j hj;rcases cS.1 hj with hj|hj
  .exact D.d4 j hj
  .simp at hj;subst hj;refine⟨ht,.inl ⟨by rw[hv];exact a,?_⟩⟩;have :=c v a;rw[hv];omega
 .rename_i a;have hvs:v≠s:=λe=>a (e▸hs);have r:tl (aH l i)≠v:=λe=>a (e▸ht);have al:v<st.bS.length:=by rw[H.al];exact hh
  split
  .rename_i was hw;have hm:=tw hw;have t:∀k,((v:Int),k)∈st.hp->k=was:=λk hk=>by
    by_cases e:((v:Int),k)=((v:Int),was)
    .simpa using e
    .have h2:((v:Int),k)∈st.hp.erase ((v:Int),was):=(oB e).2 hk;exact absurd rfl (not_mem_erase (p:=((v:Int),was)) (q:=((v:Int),k)) H.ids hm h2)
   split
   .rename_i hle;refine⟨D.d1,D.d2,D.d3,?_,D.d5,D.d6,D.d7,D.d8,D.d9,D.d10,D.d11⟩;intro j hj;rcases cS.1 hj with hj|hj
    .exact D.d4 j hj
    .simp at hj;subst hj;exact⟨ht,.inr ⟨was,by rw[hv];exact hm,aa⟩⟩
   .rename_i hgt;have hmem:∀p,p∈((v:Int),d)::st.hp.erase ((v:Int),was)->p=((v:Int),d)\/(p∈st.hp/\p.1≠v):=λp hp=>by
     rcases cV.1 hp with rfl|hp
     .exact .inl rfl
     .exact .inr ⟨kW hp,not_mem_erase H.ids hm hp⟩
    have hkeep:∀p∈st.hp,p.1≠v->p∈((v:Int),d)::st.hp.erase ((v:Int),was):=λp hp hne=>cZ _ ((oB λe=>hne (by rw[e])).2 hp)
    refine⟨D.d1,?_,?_,?_,D.d5,?_,?_,.inl hs,?_,D.d10,D.d11⟩
    .intro p hp;rcases hmem p hp with rfl|⟨hp,_⟩
     .simpa using o
     .exact D.d2 p hp
    .intro x hx p hp;rcases hmem p hp with rfl|⟨hp,_⟩
     .have :=c x hx;show aL st.aM x<=d;omega
     .exact D.d3 x hx p hp
    .intro j hj;rcases cS.1 hj with hj|hj
     .obtain⟨h1,h2⟩:=D.d4 j hj;refine⟨h1,?_⟩;rcases h2 with h2|⟨k,h2,h3⟩
      .exact .inl h2
      .by_cases e:hd (aH l j)=v
       .rw[e]at h2 |-;have :=t k h2;refine .inr ⟨d,cN,?_⟩;show d<=aL st.aM (tl (aH l j))+_;omega
       .exact .inr ⟨k,hkeep _ h2 (by simpa using λe'=>e aa),h3⟩
     .simp at hj;subst hj;exact⟨ht,.inr ⟨d,by rw[hv];exact cN,Int.le_of_eq hd'.symm⟩⟩
    .intro x f hxs g b;have hne:x≠v:=λe=>b _ cN (by simp[e]);rw[tA al,aQ hne];refine D.d6 x f hxs g λp hp e=> ?_;exact b p (hkeep p hp (by rw[e];omega)) e
    .intro x hxs hx;by_cases e:x=v
     .subst e;refine⟨i,hi,by rw[tA al,aW rfl],hv,ht,r,λhx'=>absurd hx' a,λk hk=> ?_⟩;rcases hmem _ hk with h|⟨_,h⟩
      .simp at h;exact h.trans hd'.symm
      .exact absurd rfl h
     .have m:x∈st.order\/∃k,((x:Int),k)∈st.hp:=by
       rcases hx with hx|⟨k,hk⟩
       .exact .inl hx
       .rcases hmem _ hk with h|⟨h,_⟩
        .simp at h;omega
        .exact .inr ⟨k,h⟩
      obtain⟨j,h1,h2,h3,h4,h5,h6,h7⟩:=D.d7 x hxs m;refine⟨j,h1,by rw[tA al,aQ e];exact h2,h3,h4,h5,h6,λk hk=> ?_⟩;rcases hmem _ hk with h|⟨h,_⟩
      .simp at h;omega
      .exact h7 k h
    .rw[tA al,aQ (λe=>hvs e.symm)];exact D.d9
  .rename_i hw;rw[tu]at hw;have hmem:∀p,p∈((v:Int),d)::st.hp->p=((v:Int),d)\/(p∈st.hp/\p.1≠v):=λp hp=>by
    rcases cV.1 hp with rfl|hp
    .exact .inl rfl
    .exact .inr ⟨hp,hw p hp⟩
   refine⟨D.d1,?_,?_,?_,D.d5,?_,?_,.inl hs,?_,D.d10,D.d11⟩
   .intro p hp;rcases hmem p hp with rfl|⟨hp,_⟩
    .simpa using o
    .exact D.d2 p hp
   .intro x hx p hp;rcases hmem p hp with rfl|⟨hp,_⟩
    .have :=c x hx;show aL st.aM x<=d;omega
    .exact D.d3 x hx p hp
   .intro j hj;rcases cS.1 hj with hj|hj
    .obtain⟨h1,h2⟩:=D.d4 j hj;refine⟨h1,?_⟩;rcases h2 with h2|⟨k,h2,h3⟩
     .exact .inl h2
     .exact .inr ⟨k,cZ _ h2,h3⟩
    .simp at hj;subst hj;exact⟨ht,.inr ⟨d,by rw[hv];exact cN,Int.le_of_eq hd'.symm⟩⟩
   .intro x f hxs g b;have hne:x≠v:=λe=>b _ cN (by simp[e]);rw[tA al,aQ hne];exact D.d6 x f hxs g λp hp e=>b p (cZ _ hp) e
   .intro x hxs hx;by_cases e:x=v
    .subst e;refine⟨i,hi,by rw[tA al,aW rfl],hv,ht,r,λhx'=>absurd hx' a,λk hk=> ?_⟩;rcases hmem _ hk with h|⟨_,h⟩
     .simp at h;exact h.trans hd'.symm
     .exact absurd rfl h
    .have m:x∈st.order\/∃k,((x:Int),k)∈st.hp:=by
      rcases hx with hx|⟨k,hk⟩
      .exact .inl hx
      .rcases hmem _ hk with h|⟨h,_⟩
       .simp at h;omega
       .exact .inr ⟨k,h⟩
     obtain⟨j,h1,h2,h3,h4,h5,h6,h7⟩:=D.d7 x hxs m;refine⟨j,h1,by rw[tA al,aQ e];exact h2,h3,h4,h5,h6,λk hk=> ?_⟩;rcases hmem _ hk with h|⟨h,_⟩
     .simp at h;omega
     .exact h7 k h
   .rw[tA al,aQ (λe=>hvs e.symm)];exact D.d9
end
section
variable{l:List A}{tl hd:A->Nat}{n s:Nat}{B:Int}{outs:Nat->List Nat}
def lg.LW{v:Nat}{key:Int}(hB:key+W<=B)(h0:0<=key)(hh:∀a∈l,hd a<n/\(a.w:Int)<=W):
  ∀(ids:List Nat){done:List Nat}{st:FS},lg l tl hd n s done st->fB n B st->v∈st.order->aL st.aM v=key->(∀x∈st.order,aL st.aM x<=key)->(∀i∈ids,i<l.length/\tl (aH l i)=v)->
   lg l tl hd n s (done++ids) (st.scan l hd key ids)
 | [],done,st,D,_,_,_,_,_=>by rw[eO];exact D
 |i::ids,done,st,D,H,hv,hk,b,hi=>by
  obtain⟨h1,h2⟩:=hi i cN;have ha:aH l i∈l:=by simp[aH,h1]
  have h3:=hh _ ha;have c:=D.reached H h1 (by rw[h2];exact hv) h3.1 (by rw[h2,hk];exact b);rw[h2,hk]at c;have H1:fB n B (st.reach (hd (aH l i)) i (key+(aH l i).w)):=H.reach h3.1 aa aa;have ho:=@Cp st (hd (aH l i)) i (key+(aH l i).w);have :=lg.LW hB h0 hh ids c H1 (by rw[ho.1];exact hv) (by rw[ho.2];exact hk) (by rw[ho.1,ho.2];exact b) λj hj=>hi j (cZ _ hj);rw[c7]at this;exact this
def lg.Av(hn:n<=16777216)(hh:∀a∈l,hd a<n/\(a.w:Int)<=W)(hout:∀v,v<n->∀i∈outs v,i<l.length/\tl (aH l i)=v):
  ∀(k:Nat){done:List Nat}{st:FS},lg l tl hd n s done st->fB n (st.order.length*W) st->n+1<=k+st.order.length->(∀u∈st.order,∀i∈outs u,i∈done)->
   ∃done',lg l tl hd n s done' (FS.run l outs hd k st)/\fB n (n*W) (FS.run l outs hd k st)/\(FS.run l outs hd k st).hp=[]/\(∀u∈(FS.run l outs hd k st).order,∀i∈outs u,i∈done'):=by
 intro k
 induction k with
 |zero=>intro done st D H hk hd';have :=H.len;omega
 | succ k ih=>
  intro done st D H hk hd';have hW:(0:Int)<=W:=az;have hmul:(st.order.length:Int)*W<=n*W:=nL (by have :=H.len;omega) hW;simp only[FS.run];cases hl:least st.hp with
  |none=>exact⟨done,D,H.mono hmul,uW.1 hl,hd'⟩
  | some p=>
   have hm:=(jF hl).1;obtain⟨u,hu,hun,hno,b,g⟩:=H.cK p hm;obtain⟨pv,key⟩:=p;dsimp only at hu b g |-;subst hu;have hroom:=H.room (by intro e;rw[e]at hm;cases hm);have r:(16777216:Int)*W<aN:=az;have h:(st.order.length:Int)<=16777216:=aa;have t:(st.order.length:Int)*W<=16777216*W:=nL h hW;have d:=D.nV H hm (jF hl).2 aa;have H1:fB n (st.order.length*W+W) (st.pop u key):=(H.nV hm).mono aa;have c:aL (st.pop u key).aM u=key:=by simp only[FS.pop];rw[Cq (by rw[H.dl];exact hun),aW rfl]
   have hmem:u∈(st.pop u key).order:=by simp[FS.pop]
   have j:∀x∈(st.pop u key).order,aL (st.pop u key).aM x<=key:=by
    intro x hx;have :=d.d10;simp only[FS.pop]at this hx;rcases cS.1 hx with hx|hx
    .have :=(yS.1 this).2.2 x hx u aP;exact yT this (Int.le_of_eq c)
    .simp at hx;subst hx;rw[c];exact dQ _
   simp only[fL];have m:=d.LW (B:=st.order.length*W+W) (v:=u) (key:=key) aa b hh (outs u) H1 hmem c j (hout u hun);have H2:fB n (st.order.length*W+W) ((st.pop u key).scan l hd key (outs u)):=fB.scan hh b aa (λi hi=>(hout u hun i hi).1) H1;have f:=@Gk l hd key (outs u) (st.pop u key);have o:((st.pop u key).scan l hd key (outs u)).order.length=st.order.length+1:=by rw[f.1];simp[FS.pop]
   have q:((((st.pop u key).scan l hd key (outs u)).order.length:Nat):Int)*W=st.order.length*W+W:=by rw[o,sS,pL];rfl
   refine ih m (by rw[q];exact H2) aa ?_;intro x hx i hi;rw[f.1]at hx;simp only[FS.pop]at hx;rcases cS.1 hx with hx|hx
   .exact aqJ _ (hd' x hx i hi)
   .simp at hx;subst hx;exact rF _ hi
structure oP(l:List A)(tl hd:A->Nat)(n s:Nat)(t:Tr):Prop where
 ls:LS l tl hd n s t.aM
 al:t.bS.length=n
 nodup:t.order.Nodup
 range:∀v∈t.order,v<n
 reached:∀v,v<n->(v∈t.order↔aL t.aM v<aN)
 first :t.order.head? =some s
 root:t.bS.getD s (-1)= -1
 none:∀v,v<n->v∉t.order->aL t.aM v=aN/\t.bS.getD v (-1)= -1
 bS:∀v∈t.order,v≠s->∃i,i<l.length/\t.bS.getD v (-1)=(i:Int)/\hd (aH l i)=v/\tl (aH l i)∈t.order/\aL t.aM v=aL t.aM (tl (aH l i))+(aH l i).w/\t.order.idxOf (tl (aH l i))<t.order.idxOf v
 rising:t.order.Pairwise λu v=>aL t.aM u<=aL t.aM v
 bound:∀v∈t.order,0<=aL t.aM v
def LX(hs:s<n)(hn:n<=16777216)(hh:∀a∈l,hd a<n/\(a.w:Int)<=W)(hout:∀v,v<n->∀i∈outs v,i<l.length/\tl (aH l i)=v)(g:∀i,i<l.length->i∈outs (tl (aH l i))):
  oP l tl hd n s (Co l n outs hd s):=by
 obtain⟨done,D,H,b,j⟩:=lg.Av (s:=s) (tl:=tl) (outs:=outs) hn hh hout (n+1) (lg.start hs) ((fB.start hs).mono (by simp[FS.start])) aa (by simp[FS.start]);have d:∀v,v∈(FS.run l outs hd (n+1) (FS.start n s)).order↔aL (FS.run l outs hd (n+1) (FS.start n s)).aM v<aN:=λv=>
  ⟨λh=>(D.d1 v h).1,λh=>by
   by_cases hx:v∈(FS.run l outs hd (n+1) (FS.start n s)).order
   .exact hx
   .have :=D.d5 v hx;omega⟩
 have c:s∈(FS.run l outs hd (n+1) (FS.start n s)).order:=by
  rcases D.d8 with h|⟨_,h⟩
  .exact h
  .rw[b]at h;cases h
 have f:(FS.run l outs hd (n+1) (FS.start n s)).order.head?=some s:=by
  cases ho:(FS.run l outs hd (n+1) (FS.start n s)).order with
  |nil=>rw[ho]at c;cases c
  |cons a r=>rw[List.head?_cons,(D.d11 a (by rw[ho];rfl)).1]
 refine⟨⟨H.dl,(D.d11 s f).2,?_,?_⟩,H.al,H.ord,H.lU,λv _=>d v,f,D.d9,?_,?_,D.d10,λv hv=>(D.d1 v hv).2.iP⟩
 .intro a ha hlt;obtain⟨i,hi,rfl⟩:=qw.1 ha;have e:aH l i=l[i]:=by simp[aH,hi]
  have h1:=(d (tl l[i])).2 hlt;have h2:=j _ h1 i (by rw[<-e];exact g i hi);have h3:=(D.d4 i h2).2;rw[e]at h3;rcases h3 with ⟨_,h⟩|⟨k,h,_⟩
  .exact h
  .rw[b]at h;cases h
 .intro v hv;by_cases hx:v∈(FS.run l outs hd (n+1) (FS.start n s)).order
  .exact .inr (D.d1 v hx)
  .exact .inl (D.d5 v hx)
 .intro v hv hx;refine⟨D.d5 v hx,D.d6 v hv (λe=>hx (e▸c)) hx λp hp=> ?_⟩;rw[b]at hp;cases hp
 .intro v hv hvs;obtain⟨i,h1,h2,h3,h4,_,h6,_⟩:=D.d7 v hvs (.inl hv);exact⟨i,h1,h2,h3,h4,(h6 hv).1,(h6 hv).2⟩
end
def uZ{g:G}(hR:g.Right):(∀v,v<g.n->∀i∈g.out v,i<g.aj.length/\(aH g.aj i).f=v)/\∀i,i<g.aj.length->i∈g.out (aH g.aj i).f:=by
 constructor
 .intro v _ i hi;obtain⟨_,h1,h2⟩:=oM.1 hi;simp only[jl]at h1 h2;refine⟨h1,?_⟩;simp[aH,h1];simpa using h2
 .intro i hi;refine oM.2 ⟨fE _,by simpa using hi,?_⟩;simp[aH,hi]
def Gl{g:G}(hR:g.Right):(∀v,v<g.n->∀i∈g.in v,i<g.aj.length/\(aH g.aj i).t=v)/\∀i,i<g.aj.length->i∈g.in (aH g.aj i).t:=by
 constructor
 .intro v _ i hi;obtain⟨_,h1,h2⟩:=oM.1 hi;simp only[jl]at h1 h2;refine⟨h1,?_⟩;simp[aH,h1];simpa using h2
 .intro i hi;refine oM.2 ⟨fE _,by simpa using hi,?_⟩;simp[aH,hi]
def gj{g:G}(hR:g.Right){s:Nat}(hs:s<g.n):oP g.aj A.f A.t g.n s (g.from s):=LX hs hR.most (λa ha=>⟨(hR.ends a ha).2.1,by have :=(hR.ends a ha).2.2;show(a.w:Int)<=2147483647;omega⟩) (uZ hR).1 (uZ hR).2
def oQ{g:G}(hR:g.Right){s:Nat}(hs:s<g.n):oP g.aj A.t A.f g.n s (g.to s):=LX hs hR.most (λa ha=>⟨(hR.ends a ha).1,by have :=(hR.ends a ha).2.2;show(a.w:Int)<=2147483647;omega⟩) (Gl hR).1 (Gl hR).2
def oP.top{l:List A}{tl hd:A->Nat}{n s:Nat}{t:Tr}(T:oP l tl hd n s t)(hw:∀a∈l,(a.w:Int)<=W):∀v∈t.order,aL t.aM v<=t.order.idxOf v*W:=by
 intro v hv;generalize hk:t.order.idxOf v=k
 induction k using Nat.strongRecOn generalizing v with
 | _ k ih=>
  by_cases e:v=s
  .subst e;rw[T.ls.zero];have :(0:Int)<=W:=az;exact Bs aa this
  .obtain⟨i,hi,_,_,hu,hd',hlt⟩:=T.bS v hv e;have h1:=ih _ aa _ hu rfl;have h2:=hw (aH l i) (by simp[aH,hi]);have h3:((t.order.idxOf (tl (aH l i)):Int)+1)*W<=k*W:=nL aa az;rw[pL,wj]at h3;omega
def jc{d:List Int}{v:Nat}(hv:v<d.length):d[v]=aL d v:=by simp[aL,cI,hv]
def acA{d:List Int}{v:Nat}(hv:v<d.length):d[v]=d.getD v (-1):=by simp[cI,hv]
def acB{g:G}(hR:g.Right){s:Int}:(g.cU s).bS.length=(g.cU s).aM.length/\(g.cU s).aM.length<=g.n/\(g.cU s).order.length<=g.n:=by
 unfold G.cU;split
 .rename_i h;have T:=gj hR (s:=s.toNat) aa;exact⟨T.al.trans T.ls.len.symm,yE T.ls.len,kH T.nodup T.range⟩
 .simp[Tr.none]
def tgt(d:List Int)(a:A):Bool:=decide (min (aL d a.t+a.w) aN<aN)&&(min (aL d a.t+a.w) aN==aL d a.f)
def jd(g:G)(b:Int)(a:A):Bool:=decide (0<=b)&&(decide (b<g.n)&&tgt (g.toI b).aM a)
def jG(g:G)(bs:List Int)(a:A):Bool:=bs.any λb=>jd g b a
def acC{g:G}{bs cs:List Int}{a:A}:jG g (bs++cs) a=(jG g bs a||jG g cs a):=by simp[jG]
def LY{g:G}{b:Int}{a:A}:jG g [b] a=jd g b a:=by simp[jG]
def acD{g:G}(hR:g.Right){b:Nat}(hb:b<g.n){s:Nat}(hs:s<g.n)(h:0<=(g.to b).bS.getD s (-1)):∃i:Nat,(g.to b).bS.getD s (-1)=i/\i<g.aj.length/\tgt (g.to b).aM (aH g.aj i)=true:=by
 have T:=oQ hR hb;have a:s∈(g.to b).order:=by
  by_cases h':s∈(g.to b).order
  .exact h'
  .have :=(T.none s hs h').2;omega
 have c:s≠b:=λe=>by rw[e,T.root]at h;omega
 obtain⟨i,h1,h2,h3,h4,h5,_⟩:=T.bS s a c;refine⟨i,h2,h1,?_⟩;have hlt:=(T.reached s hs).1 a;unfold tgt;rw[h3,<-h5,Int.min_eq_left (Int.le_of_lt hlt)];rw[bT hlt,iJ];rfl
def zS(n:Nat)(f:Nat->Bool)(i:Nat)(x:List Value)(i':Nat):Prop:=∃j,i<=j/\j<n/\f j=true/\(∀k,i<=k->k<j->f k=false)/\x=[I j]/\i'=j+1
def u0(n:Nat)(f:Nat->Bool)(i:Nat):Prop:=∀k,i<=k->k<n->f k=false
def jH(l:List Bool)(f:Nat->Bool)(i:Nat):List Bool:=l.mapIdx λk b=>b||(decide (k<i)&&f k)
def LZ{l:List Bool}{f:Nat->Bool}{i:Nat}:(jH l f i).length=l.length:=by simp[jH]
def acE{l:List Bool}{f:Nat->Bool}:jH l f 0=l:=by apply iW (by simp[jH]);intro k h1 h2;simp[jH]
def acF{l:List Bool}{f:Nat->Bool}{i j:Nat}(hij:i<=j)(hj:j<l.length)(hf:f j=true)(hno:∀k,i<=k->k<j->f k=false):(jH l f i).set j true=jH l f (j+1):=by
 apply iW (by simp[jH]);intro k h1 h2;rw[qx];split
 .rename_i e;subst e;simp[jH,hf]
 .rename_i e;simp only[jH,EX];by_cases h3:k<i
  .rw[bT h3,bT (show k<j+1 by omega)]
  .by_cases h4:k<j
   .rw[hno k aa h4,yU,yU]
   .rw[bR h3,bR (show ¬k<j+1 by omega)]
def acG{l:List Bool}{f:Nat->Bool}{i:Nat}(h:u0 l.length f i)(hi:i<=l.length):jH l f i=jH l f l.length:=by
 apply iW (by simp[jH]);intro k h1 h2;have hk:k<l.length:=by rw[LZ]at h1;exact h1
 simp only[jH,EX];by_cases h3:k<i
 .rw[bT h3,bT hk]
 .rw[h k aa hk,yU,yU]
def acH{l:List A}{p q:A->Bool}{f:Nat->Bool}(hf:∀i(h:i<l.length),f i=q l[i]):jH (l.map p) f l.length=l.map λa=>p a||q a:=by
 apply iW (by simp[jH]);intro k h1 h2;have hk:k<l.length:=by simpa using h2
 simp[jH,hk,hf k hk]
def Way.mono{l l':List A}{tl hd:A->Nat}{s v:Nat}{d:Int}(h:Way l tl hd s v d)(hs:∀a∈l,a∈l'):Way l' tl hd s v d:=by
 induction h with
 |nil=>exact .nil
 |step a _ hm ht ih=>exact .step a ih (hs a hm) ht
def LS.jX{l:List A}{tl hd:A->Nat}{n s:Nat}{d:List Int}(H:LS l tl hd n s d){v:Nat}(hv:v<n):aL d v<=aN:=by rcases H.way v hv with h|⟨h,_⟩<;>omega
def LS.iP{l:List A}{tl hd:A->Nat}{n s:Nat}{d:List Int}(H:LS l tl hd n s d){v:Nat}(hv:v<n):0<=aL d v:=by
 rcases H.way v hv with h|⟨_,h⟩
 .rw[h];decide
 .exact h.iP
def x7(d:Int):Int:=if d=aN then aN else 7*d
def mv(a:Int)(n v:Nat):Nat:=(((v:Int)+a)%n).toNat
def Trail(l:List A):Nat->List Nat->Nat->Prop
 |s,[],t=>s=t
 |s,i::r,t=>i<l.length/\(aH l i).f=s/\Trail l (aH l i).t r t
def dm(l:List A)(r:List Nat):Int:=(r.map λi=>((aH l i).w:Int)).sum
def lq{l:List A}{i:Nat}{r:List Nat}:dm l (i::r)=(aH l i).w+dm l r:=by simp[dm]
def qN{l:List A}:dm l []=0:=rfl
def xz{l:List A}{r q:List Nat}:dm l (r++q)=dm l r+dm l q:=by simp[dm]
def L1{l:List A}{r:List Nat}:0<=dm l r:=by
 induction r with
 |nil=>exact dQ _
 |cons i r ih=>rw[lq];omega
def Trail.append{l:List A}:∀{r q:List Nat}{s t u:Nat},Trail l s r t->Trail l t q u->Trail l s (r++q) u
 | [],_,_,_,_,h,h'=>by cases h;exact h'
 |_::_,_,_,_,_,⟨a,b,h⟩,h'=>⟨a,b,h.append h'⟩
def Trail.split{l:List A}:∀{r q:List Nat}{s u:Nat},Trail l s (r++q) u->∃t,Trail l s r t/\Trail l t q u
 | [],_,s,_,h=>⟨s,rfl,h⟩
 |_::_,_,_,_,⟨a,b,h⟩=>by obtain⟨t,h1,h2⟩:=Trail.split h;exact⟨t,⟨a,b,h1⟩,h2⟩
def Trail.lt{l:List A}:∀{r:List Nat}{s t:Nat},Trail l s r t->∀i∈r,i<l.length
 | [],_,_,_,_,h=>by cases h
 |_::_,_,_,⟨a,_,h⟩,i,hi=>by
  rcases cV.1 hi with rfl|hi
  .exact a
  .exact h.lt i hi
def jf{l:List A}{i:Nat}(h:i<l.length):aH l i∈l:=by rw[show aH l i=l[i] by simp[aH,h]];exact cu h
def Trail.way{l:List A}:∀{r:List Nat}{s u t:Nat}{d:Int},Way l A.f A.t s u d->Trail l u r t->Way l A.f A.t s t (d+dm l r)
 | [],_,_,_,_,hw,h=>by cases h;rw[qN,yV];exact hw
 |i::r,_,u,_,d,hw,⟨a,b,h⟩=>by have :=Trail.way (Way.step _ hw (jf a) b) h;rw[lq,<-Bt];exact this
def nh(l:List A):Int->Int->List Int->Option (Int×Int)
 |s,w,[]=>some (s,w)
 |s,w,i::r=>if 0<=i/\i<l.length/\((aH l i.toNat).f:Int)=s then nh l (aH l i.toNat).t (w+(aH l i.toNat).w) r else none
def L3{l:List A}:∀{r:List Nat}{s t:Nat}{w:Int},Trail l s r t->nh l s w (r.map λ(i:Nat)=>(i:Int))=some ((t:Int),w+dm l r)
 | [],_,_,w,h=>by cases h;simp[nh,qN]
 |i::r,_,_,w,⟨a,b,h⟩=>by simp only[dI,nh];rw[aW ⟨aa,aa,by rw[fL,b]⟩,fL,L3 h,lq,Bt]
def nI(l:List Nat):List Int:=l.map λ(i:Nat)=>(i:Int)
def L4{l:List Nat}:(nI l).reverse=nI l.reverse:=by simp[nI]
def dr{l:List Nat}:(nI l).length=l.length:=by simp[nI]
def akT(l:List A)(z:Int):A×Bool:=if 0<=z/\z<l.length then(aH l z.toNat,true)else(⟨0,0,0⟩,false)
def L5(l:List A)(aj:List Int)(p:Nat×Int)(x:List Value)(p':Nat×Int):Prop:=∃hi:p.1<aj.length,x=[vA (akT l aj[p.1]).1,.bool ((akT l aj[p.1]).2&&decide (((akT l aj[p.1]).1.f:Int)=p.2))]/\p'=(p.1+1,((akT l aj[p.1]).1.t:Int))
def acI{l:List A}{aj:List Int}{i:Nat}{s w:Int}(hi:i<aj.length):
  nh l s w (aj.drop i)=if((akT l aj[i]).2&&decide (((akT l aj[i]).1.f:Int)=s))=true then nh l (akT l aj[i]).1.t (w+(akT l aj[i]).1.w) (aj.drop (i+1))else none:=by
 rw[iD hi];simp only[nh];by_cases h:0<=aj[i]/\aj[i]<l.length
 .simp only[akT,aW h];by_cases h2:((aH l aj[i].toNat).f:Int)=s
  .rw[aW ⟨h.1,h.2,h2⟩,bT h2,kT,aW rfl]
  .rw[aQ λe=>h2 e.2.2,bR h2,yU,aQ az]
 .simp only[akT,aQ h];rw[aQ λe=>h ⟨e.1,e.2.1⟩,oy,aQ az]
section
variable{g:G}{b s:Nat}
def L6{l:List A}{d:List Int}{b:Nat}(hb:aL d b=0):∀{r:List Nat}{s:Nat},Trail l s r b->(∀i∈r,tgt d (aH l i)=true)->aL d s=dm l r
 | [],_,h,_=>by cases h;rw[hb];rfl
 |i::r,s,⟨_,b',h⟩,ht=>by have ih:=L6 hb h λj hj=>ht j (cZ _ hj);have h1:=ht i (cN ..);unfold tgt at h1;rw[gb,gT,qp]at h1;rw[lq,<-b',<-ih,<-h1.2];omega
def acJ(hR:g.Right)(hb:b<g.n):∀{k:Nat}{s:Nat},s<g.n->(g.to b).order.idxOf s<=k->aL (g.to b).aM s<aN->∃r,Trail g.aj s r b/\∀i∈r,tgt (g.to b).aM (aH g.aj i)=true:=by
 have T:=oQ hR hb;intro k
 induction k with
 | zero=>
  intro s hs hk hd;by_cases e:s=b
  .subst e;exact⟨[],rfl,λ_ h=>by cases h⟩
  .obtain⟨i,_,_,_,_,_,h6⟩:=T.bS s ((T.reached s hs).2 hd) e;omega
 | succ k ih=>
  intro s hs hk hd;by_cases e:s=b
  .subst e;exact⟨[],rfl,λ_ h=>by cases h⟩
  .have a:=(T.reached s hs).2 hd;obtain⟨i,h1,h2,h3,h4,h5,h6⟩:=T.bS s a e;obtain⟨j,e1,_,ht⟩:=acD hR hb hs (by rw[h2];omega);have :j=i:=aa;subst this;have hn:=T.range _ h4;obtain⟨r,hr,c⟩:=ih hn aa ((T.reached _ hn).1 h4);refine⟨j::r,⟨h1,h3,hr⟩,λi hi=> ?_⟩;rcases cV.1 hi with rfl|hi
   .exact ht
   .exact c i hi
end
def gZ(ns:List Int)(z:Int):List Int:=if z∈ns then ns else ns++ [z]
def jI:List Int->List Int->List Int
 |_,[]=>[]
 |ns,z::r=>(ns.idxOf z:Int)::jI (gZ ns z) r
def norm(l:List Int):List Int:=jI [] l
def gx(ns l:List Int):List Int:=l.foldl gZ ns
def Gm:∀{l ns:List Int},(jI ns l).length=l.length
 | [],_=>rfl
 |_::l,_=>by rw[jI,fO,Gm,fO]
def acK{ns:List Int}{z:Int}(h:ns.Nodup):(gZ ns z).Nodup:=by
 unfold gZ;split
 .exact h
 .rename_i hz;rw[kq];exact⟨h,aP,λa ha b hb e=>hz (by simp at hb;rw[<-hb,<-e];exact ha)⟩
def acL{ns:List Int}{z:Int}:ns.length<=(gZ ns z).length:=by
 unfold gZ;split
 .exact cq _
 .simp
def L7:∀{l ns:List Int},ns.length<=(gx ns l).length
 | [],_=>cq _
 |z::l,ns=>kR acL (L7 (l:=l))
def Gn:∀{l ns:List Int},ns.Nodup->(gx ns l).Nodup
 | [],_,h=>h
 |z::l,ns,h=>Gn (l:=l) (acK h)
def L8:∀{l ns:List Int}{x:Int},x∈gx ns l->x∈ns\/x∈l
 | [],_,_,h=>.inl h
 | z::l,ns,x,h=>by
  rcases L8 (l:=l) h with h|h
  .unfold gZ at h;split at h
   .exact .inl h
   .rcases cS.1 h with h|h
    .exact .inl h
    .exact .inr (by simp at h;rw[h];exact cN)
  .exact .inr (cZ _ h)
def L9{ns:List Int}{z:Int}:ns.idxOf z<(gZ ns z).length:=by
 unfold gZ;split
 .rename_i h;exact sR h
 .rename_i h;rw[Bu h];simp
def Cr:∀{l ns:List Int}{z:Int},z∈jI ns l->0<=z/\z<(gx ns l).length
 | [],_,_,h=>by cases h
 | y::l,ns,z,h=>by
  rcases cV.1 h with rfl|h
  .have h1:=L9 (ns:=ns) (z:=y);have h2:=L7 (l:=l) (ns:=gZ ns y);refine⟨aa,?_⟩;show((ns.idxOf y:Nat):Int)<((gx (gZ ns y) l).length:Nat);omega
  .exact Cr (l:=l) h
def acM:∀{m:Nat}{l:List Int},l.Nodup->(∀z∈l,0<=z/\z<m)->l.length<=m:=by
 intro m l hn h;have :(l.map Int.toNat).length<=m:=by
  refine kH ?_ λx hx=> ?_
  .rw[List.Nodup,pM];exact hn.imp_of_mem λ{a b} ha hb hne e=>hne (by have :=h a ha;have :=h b hb;omega)
  .obtain⟨z,hz,rfl⟩:=cP.1 hx;have :=h z hz;omega
 simpa using this
def acN{l:List Int}{m:Nat}(h:∀z∈l,0<=z/\z<m){z:Int}(hz:z∈norm l):0<=z/\z<m:=by have h1:=Cr hz;have h2:=acM (Gn (l:=l) (ns:=[]) .nil) λx hx=>h x ((L8 hx).resolve_left aP);omega
def acO{k:Nat}{z:Nat}(h:z<k):(List.map (λ(i:Nat)=>(i:Int)) (List.range k)).idxOf (z:Int)=z:=by
 have hn:(List.map (λ(i:Nat)=>(i:Int)) (List.range k)).Nodup:=by rw[List.Nodup,pM];exact Bv.imp λh e=>h aa
 have hg:(List.map (λ(i:Nat)=>(i:Int)) (List.range k))[z]'(by simpa using h)=(z:Int):=aP;rw[<-hg,List.Nodup.idxOf_getElem hn]
def Gp:∀{l ns:List Int}{k:Nat},ns.length=k->jI (List.map (λ(i:Nat)=>(i:Int)) (List.range k)) (jI ns l)=jI ns l
 | [],_,_,_=>rfl
 | z::l,ns,k,hk=>by
  have h1:=L9 (ns:=ns) (z:=z);rw[jI,jI];by_cases hz:z∈ns
  .have hi:ns.idxOf z<k:=by rw[<-hk];exact sR hz
   have hm:((ns.idxOf z:Nat):Int)∈List.map (λ(i:Nat)=>(i:Int)) (List.range k):=cP.2 ⟨_,jw.2 hi,rfl⟩;have e1:gZ (List.map (λ(i:Nat)=>(i:Int)) (List.range k)) ((ns.idxOf z:Nat):Int)=List.map (λ(i:Nat)=>(i:Int)) (List.range k):=by unfold gZ;rw[aW hm]
   have e2:gZ ns z=ns:=by unfold gZ;rw[aW hz]
   rw[e1,e2,Gp hk,acO hi]
  .have hi:ns.idxOf z=k:=by rw[<-hk];exact Bu hz
   rw[hi];have hm:¬((k:Nat):Int)∈List.map (λ(i:Nat)=>(i:Int)) (List.range k):=by intro h;obtain⟨i,h2,h3⟩:=cP.1 h;have :=jw.1 h2;omega
   have e1:gZ (List.map (λ(i:Nat)=>(i:Int)) (List.range k)) ((k:Nat):Int)=List.map (λ(i:Nat)=>(i:Int)) (List.range (k+1)):=by unfold gZ;rw[aQ hm,ku,fq];rfl
   have e2:(gZ ns z).length=k+1:=by unfold gZ;rw[aQ hz];simp[hk]
   rw[e1,Gp e2,Bu hm];simp
def acP{l:List Int}:norm (norm l)=norm l:=Gp (k:=0) rfl
def jg:List Int->Int
 | []=>0
 |z::r=>r.foldl max z
def foldl_max:∀{r:List Int}{z:Int},z<=r.foldl max z/\(∀x∈r,x<=r.foldl max z)/\(r.foldl max z=z\/r.foldl max z∈r)
 | [],z=>⟨dQ _,(λ_ h=>by cases h),.inl rfl⟩
 | y::r,z=>by
  obtain⟨h1,h2,h3⟩:=foldl_max (r:=r) (z:=max z y);rw[kS];refine⟨aa,λx hx=> ?_,?_⟩
  .rcases cV.1 hx with rfl|hx
   .omega
   .exact h2 x hx
  .rcases h3 with h3|h3
   .rcases(show max z y=z\/max z y=y by omega)with e|e
    .exact .inl (h3.trans e)
    .exact .inr (by rw[h3,e];exact cN)
   .exact .inr (cZ _ h3)
def Gq{l:List Int}{x:Int}(h:x∈l):x<=jg l:=by
 cases l with
 |nil=>cases h
 |cons z r=>
  rcases cV.1 h with rfl|h
  .exact foldl_max.1
  .exact foldl_max.2.1 x h
def Ma{l:List Int}(h:l≠ []):jg l∈l:=by
 cases l with
 |nil=>exact absurd rfl h
 |cons z r=>
  rcases(foldl_max (r:=r) (z:=z)).2.2 with e|e
  .show r.foldl max z∈_;rw[e];exact cN
  .exact cZ _ e
section
variable{g:G}{c:Nat->Int}{k:Int}{s t:Nat}
def nW(g:G)(c:Nat->Int)(k:Int)(v:Nat):Bool:=decide (c v=k)&&(g.in v).any λi=> !decide (c (aH g.aj i).f=k)
def oR(g:G)(c:Nat->Int)(k:Int)(i:Nat):Bool:=decide (c (aH g.aj i).f=k)&&decide (c (aH g.aj i).t=k)
def tB(g:G)(c:Nat->Int)(k:Int)(i:Nat):Bool:=oR g c k i||(List.range g.n).any λb=>nW g c k b&&jd g b (aH g.aj i)
def Way.bwd{l:List A}:∀{r:List Nat}{s u t:Nat}{d:Int},Way l A.t A.f t u d->Trail l s r u->Way l A.t A.f t s (d+dm l r)
 | [],_,_,_,d,hw,h=>by cases h;rw[qN,yV];exact hw
 |i::r,s,u,t,d,hw,⟨h1,h2,h3⟩=>by have :=Way.bwd hw h3;have w:=Way.step (aH l i) this (jf h1) rfl;rw[h2]at w;rw[lq,show d+((aH l i).w+dm l r)=d+dm l r+(aH l i).w by omega];exact w
def Mb(hR:g.Right):∀(r:List Nat){s:Nat},Trail g.aj s r t->c t=k->(∀i∈r,oR g c k i=true)\/∃p i q,r=p++i::q/\c (aH g.aj i).f≠k/\c (aH g.aj i).t=k/\∀j∈q,oR g c k j=true
 | [],_,_,_=>.inl λ_ h=>by cases h
 | i ::r,s,⟨h1,h2,h3⟩,hc=>by
  rcases Mb hR r h3 hc with h|⟨p,j,q,e,a,b,d⟩
  .have hit:c (aH g.aj i).t=k:=by
    cases r with
    |nil=>cases h3;exact hc
    |cons j r=>have :=h j cN;unfold oR at this;rw[gb,gT,gT,h3.2.1]at this;exact this.1
   by_cases hf:c (aH g.aj i).f=k
   .left;intro j hj;rcases cV.1 hj with rfl|hj
    .unfold oR;rw[hf,hit];simp
    .exact h j hj
   .exact .inr ⟨[],i,r,rfl,hf,hit,h⟩
  .exact .inr ⟨i::p,j,q,by rw[e];rfl,a,b,d⟩
def Cs(hR:g.Right)(hs:s<g.n)(ht:t<g.n)(hc:c t=k)(hd:aL (g.from s).aM t<aN):∃r,Trail g.aj s r t/\dm g.aj r=aL (g.from s).aM t/\∀i∈r,tB g c k i=true:=by
 have T:=gj hR hs;have hw:=(T.ls.way t ht).resolve_left aa;have tr:∀{v:Nat}{d:Int},Way g.aj A.f A.t s v d->∃r,Trail g.aj s r v/\dm g.aj r=d:=by
  intro v d h
  induction h with
  |nil=>exact⟨[],rfl,rfl⟩
  |step a _ ha hv ih=>
   obtain⟨r,h1,h2⟩:=ih;obtain⟨i,hi,e⟩:=qw.1 ha;have ea:aH g.aj i=a:=by simp[aH,hi,e]
   refine⟨r++ [i],h1.append ⟨hi,by rw[ea];exact hv,by rw[ea];rfl⟩,?_⟩;rw[xz,h2,lq,qN,ea];omega
 obtain⟨r,h1,h2⟩:=tr hw.2;have ins:∀{i:Nat},oR g c k i=true->tB g c k i=true:=λh=>by unfold tB;rw[h];rfl
 rcases Mb hR r h1 hc with h|⟨p,i,q,e,a,b,hq⟩
 .exact⟨r,h1,h2,λj hj=>ins (h j hj)⟩
 .have e':r=(p++ [i])++q:=by rw[e];simp
  rw[e']at h1;obtain⟨v,h3,h4⟩:=Trail.split h1;obtain⟨u,h5,h6⟩:=Trail.split h3;have hi:i<g.aj.length:=h6.1;have z:(aH g.aj i).f=u:=h6.2.1;have o:(aH g.aj i).t=v:=h6.2.2;have m:v<g.n:=by rw[<-o];exact(hR.ends _ (jf hi)).2.1
  have hb:nW g c k v=true:=by unfold nW;rw[<-o,b,bT rfl,kT,yW];exact⟨i,(Gl hR).2 i hi,by simp[a]⟩
  have w:=oQ hR m;have x:Way g.aj A.t A.f v s (0+dm g.aj (p++ [i])):=Way.bwd .nil h3;rw[wk]at x;have B:dm g.aj r=dm g.aj (p++ [i])+dm g.aj q:=(eG (dm g.aj) e').trans xz;have C:=L1 (l:=g.aj) (r:=q);have hpf:dm g.aj (p++ [i])<aN:=aa;have hle:=w.ls.qa x hpf;obtain⟨r',h7,h8⟩:=acJ hR m hs (cq _) aa;have hsum:=L6 w.ls.zero h7 h8;refine⟨r'++q,h7.append h4,?_,λj hj=> ?_⟩
  .have h9:dm g.aj (r'++q)<=aL (g.from s).aM t:=by
    rw[xz,<-hsum];omega
   have y:=Trail.way (l:=g.aj) (d:=0) (.nil:Way g.aj A.f A.t s s 0) (h7.append h4);rw[wk]at y;have :=T.ls.qa y aa;omega
  .rcases cS.1 hj with hj|hj
   .unfold tB;rw[uc];right;rw[yW];refine⟨v,jw.2 m,?_⟩;rw[hb,kT];unfold jd G.toI;rw[bT (by omega:(0:Int)<=(v:Int)),bT (by omega:((v:Int)<g.n)),aW ⟨aa,aa⟩];simpa using h8 j hj
   .exact ins (hq j hj)
end
section
variable{g:G}{mk:Nat->Bool}{s t:Nat}
def Mc(hR:g.Right):∀a∈g.aj,a.t<g.n/\(a.w:Int)<=W:=λa ha=>⟨(hR.ends a ha).2.1,by have :=(hR.ends a ha).2.2;unfold W;omega⟩
end
def qO(ns:List Int):Int->Option Value:=λz=>if z∈ns then some (.int .i64 (ns.idxOf z:Nat))else none
def Md{k:Int}:∀{t:List fR},(lk k t).isSome↔k∈t.map (·.1)
 | []=>by simp[lk]
 | x::t=>by
  unfold lk;split
  .rename_i h;simp[h]
  .rename_i h;rw[Md (t:=t),dI,cV];exact⟨.inr,λh'=>h'.resolve_left λe=>h e.symm⟩
def Gr{α:Type}[DecidableEq α]:∀{l m:List α},l.Nodup->(∀x∈l,x∈m)->l.length<=m.length
 | [],_,_,_=>fE _
 |x::l,m,hn,h=>by have hx:=h x cN;have h1:=gC.1 hn;have :=Gr (l:=l) (m:=m.erase x) h1.2 λy hy=>(oB (λe=>h1.1 (by rw[<-e];exact hy))).2 (h y (cZ _ hy));rw[yR hx]at this;have :0<m.length:=Bw hx;rw[fO];omega
def acQ{es:Array MapEntry}{c:Nat}{ns:List Int}(H:IMap es c (qO ns))(hn:ns.Nodup):es.size=ns.length:=by
 obtain⟨t,ht,hf⟩:=H;have hk:∀z,z∈t.map (·.1)↔z∈ns:=λz=>by rw[<-Md,<-hf z];unfold qO;split<;>simp[*]
 have h1:=Gr ht.keys λz hz=>(hk z).1 hz;have h2:=Gr hn λz hz=>(hk z).2 hz;have :es.toList.length=t.length:=by rw[ht.ja,gK]
 rw[gK]at h1 h2;rw[Bd]at this;omega
def acR{ns:List Int}{z:Int}(hz:z∉ns)(x:Int):qO (ns++ [z]) x=cM (qO ns) z (.int .i64 (ns.length:Nat)) x:=by
 show(if x∈ns++ [z]then some (Value.int .i64 ((ns++ [z]).idxOf x:Nat))else none)=if x=z then some (Value.int .i64 (ns.length:Nat))else if x∈ns then some (Value.int .i64 (ns.idxOf x:Nat))else none;by_cases e:x=z
 .subst e;rw[aW aP,aW rfl,sQ,aQ hz];simp
 .rw[aQ e];by_cases hx:x∈ns
  .rw[aW (by simp[hx]),aW hx,sQ,aW hx]
  .rw[aQ (by simp[hx,e]),aQ hx]
def Me:∀{l ns r:List Int},jI ns (l++r)=jI ns l++jI (gx ns l) r
 | [],_,_=>rfl
 |z::l,ns,r=>by rw[qq,jI,jI,Me,qq];rfl
def acS{ns l r:List Int}:gx ns (l++r)=gx (gx ns l) r:=by unfold gx;rw[jP]
def Mf:∀{l ns:List Int},(gx ns l).length<=ns.length+l.length
 | [],_=>cq _
 | z::l,ns=>by
  have :=Mf (l:=l) (ns:=gZ ns z);have h2:(gZ ns z).length<=ns.length+1:=by unfold gZ;split<;>simp
  show(gx (gZ ns z) l).length<=_;rw[fO];omega
open Go Go.ChangeShapes Go.WideShapes Go.ChangeAt Go.RowKit
section
variable{H:Type}{enc:TypeId×Value->H}{P:Program}{W W':World}
def acT(hx:Ext W.heap W'.heap){p:MemPlace}(hp:p.block<W.heap.size):W.sameAt W' p:=by
 cases p with
 |cell b off=>have :=hx.same b hp id;show W'.cell? _=W.cell? _;simp only[World.cell?,this]
 |map b=>exact hx.same b hp id
def Mg{base:Nat}{spare:Nat->Bool}{held:Bool}:∀{ts:List TypeId}{vs:List Value}{ds:List (DataW H)}{ps:List MemPlace},DataW.TrodAll enc P W base spare held ts vs ds ps->
  (∀p∈ps,W.sameAt W' p)->DataW.TrodAll enc P W' base spare held ts vs ds ps
 | [],[],[],_,h,_=>h
 |_::_,_::_,_::_,_,⟨p,q,⟨n,hn⟩,hs,e⟩,ha=>by subst e;exact⟨p,q,⟨n,DataW.trod_carry n _ _ _ hn λx hx=>ha x (aqJ _ hx)⟩,Mg hs λx hx=>ha x (rF _ hx),rfl⟩
def acU(hs:dF W W')(hx:Ext W.heap W'.heap)(may:MemPlace->Prop):W.keptBut W' may:=by
 refine⟨hs.os,hs.output,λi hi=> ?_⟩;rw[hx.same i hi id];have :W.heap[i]? =some W.heap[i]:=by simp[hi]
 rw[this];cases W.heap[i]<;>simp
def Mi{base:Nat}{spare:Nat->Bool}{held:Bool}:∀{ts:List TypeId}{vs:List Value}{ds:List (DataW H)}{ps:List MemPlace},DataW.TrodAll enc P W base spare held ts vs ds ps->ds.length=ts.length
 | [],[],[],_,_=>rfl
 |_::_,_::_,_::_,_,⟨_,_,_,hs,_⟩=>by simp[Mi hs]
def acV{C:Checked}{os:Os}{f:FuncId}{fn:Func}{s:ChangeSpec}{conds:List PathCond}{tb:TypeId}{X:World->Array Value->Prop}
  (hX:∀(w w':World)(args:Array Value),w.heap=w'.heap->X w args->X w' args)
  (own:ownKnob C.prog.godebug=none) (started:os.Started) (noInit:C.prog.inits.idxOf? f=none) (hfn:C.prog.funcs[f]? =some fn)
  (witness:∃(w:World)(tape:Tape)(i:Input),w.os=os/\(w.forCall tape i).Shaped C.prog/\i.vars=[]/\Input.okWide C.prog (w.forCall tape i) .any w.heap.size f i/\
   ((s.pre enc C.prog fn conds false (w.forCall tape i).memory i.args/\X (w.forCall tape i).memory i.args)/\sizedMet enc C.prog fn (OpenSpec.ofChange s) false (w.forCall tape i).memory i.args)/\({}:Assume).holds C.prog (lone (Frame.enter C.prog f i.args .normal) [] (w.forCall tape i)))
  (hvars:s.vars=[]) (hres:fn.resultTypes= #[tb]) (htb:C.prog.underlying tb=some .bool)
  (hspec:∀ds:List (DataW H),ds.length=fn.params.toList.length->s.fn H ds={results:=[.lit (.bool true)],args:=ds})
  (kids:Kids C.prog (· <C.prog.types.size)) (full:∀t e,t<C.prog.types.size->C.prog.underlying t=some (.slice e)->0<C.prog.cellsOf e) (hpar:∀t∈fn.params.toList,t<C.prog.types.size)
  (b:∀(W:World)(base:Nat)(args:Array Value)(ds:List (DataW H))(ps:List MemPlace),(∀(j:Nat) t v,fn.params[j]? =some t->args[j]? =some v->Value.okWide C.prog W .any base t v)->
   DataW.TrodAll enc C.prog W 0 (λ_=>true) true fn.params.toList args.toList ds ps->
   aF C.prog f args W.heap λv h'=>v=.bool true/\Ext W.heap h'):
  ReturnsInHanded {} C os f .any (λw args=>(s.pre enc C.prog fn conds false w args/\X w args)/\sizedMet enc C.prog fn (OpenSpec.ofChange s) false w args) (s.post enc C.prog fn false true false false):=by
 refine returnsInHanded_of_change_and hX own started noInit hfn witness ?_;intro W base args ds gs before hval hW c _ _ _;have a:=hW;obtain⟨p,q,hA,hV,rfl,hfz,d⟩:=hW;rw[hvars]at hV;obtain⟨rfl,rfl⟩:=trodVars_none hV;refine abW (b W base args ds p hval hA) λv w' hs hv=>⟨v,rfl,?_⟩;obtain⟨rfl,hx⟩:=hv;have hlt:∀x∈p,x.block<W.heap.size:=λx hx=>a.lt x (by simpa using hx);have hsp:=hspec ds (Mi hA);unfold ChangeSpec.post;refine⟨ds,[],p++ [],[],p,[],a,?_,?_,?_,acU hs hx _,λh=>by cases h⟩
 .rw[eO,hsp,hres];exact trodAll_mk1 ⟨1,by simp[DataW.trod,htb,Value.cells]⟩
 .rw[eO,hsp];exact Mg (DataW.TrodAll.respare kids full hpar hA λx hx=>by simpa using hlt x hx) λx hx'=>acT hx (hlt x hx')
 .rw[eO,hsp,hvars];rfl
end
def aeP(P:Program)(rs:List ResultVar)(f:FuncId)(args:Array Value)(K:KT):Exit->bU->List Nat->af->Prop
 | .ret,e,m,h=>de m h λh'=>js P f args h' λh''=>gu P e h'' rs λl=>K (lQ l) h''
 |_,_,_,_=>False
def Pn(P:Program)(n:Nat)(c:Operand)(B:Code)(iF:Ann)(C:Code)(zZ:Ann)(rs:List ResultVar)(s:Tmp)(f:FuncId)(caps:List Operand)(K:KT):Exit->bU->List Nat->af->Prop
 | .normal,e,[],h=>(match rQ e c with
  |true=>aA (ev e c) (match pU e caps,Nat.blt s n with
   |true,true=>compile P n false B iF ((s,.func (.func f) #[] (caps.map (ev e)).toArray)::e) [] h (aeP P rs f (caps.map (ev e)).toArray K)
   |_,_=>False) (compile P n false C zZ e [] h (zy P rs K))
  |false=>False)
 |_,_,_,_=>False
def aeQ(P:Program)(n:Nat)(A:Code)(eH:Ann)(K:Exit->bU->List Nat->af->Prop):Exit->bU->List Nat->af->Prop
 | .normal,e,[],h=>compile P n false A eH e [] h K
 |_,_,_,_=>False
def cT:Code->Code
 | .cond _ a _=>a
 |c=>c
section
variable{P:Program}
def aeR{f g:FuncId}{fn:Func}{A A' B C:Code}{lR GR iF zZ:Ann}{id:Nat}{o1 o2:Oper}{s:Tmp}{co:Operand}{caps:Array Operand}{c:Call}{args:List Value}{h:af}{K:KT}
  (hf:P.funcs[f]? =some fn) (hb:fn.body=some (.seq A (.seq (.seq A' (.cond co (.seq (.region id #[o1,o2] false) B) .skip)) C))) (t:jQ P f=true) (hm:P.follows .mixedOrders=true) (hlen:args.length<=fn.ntmps)
  (h1:o1.op=.makeFunc (.func g) #[] caps) (u:o1.dst=some s) (hg1:o1.guard=none) (h2:o2.op=.defer c) (hc:c.callee=.value (.tmp s)) (hca:c.args= #[]) (hd2:o2.dst=none) (hg2:o2.guard=none)
  (hq:compile P fn.ntmps false A lR (aqP args 0) [] h (aeQ P fn.ntmps A' GR (Pn P fn.ntmps co B iF C zZ fn.results.toList s g caps.toList K))):aF P f args.toArray h K:=by
 refine⟨t,λw hw=> ?_⟩;refine callsIn_of_wp_marks hf hb trivial ?_;have y:Rel (aqP args 0) (args.toArray++Array.replicate (fn.ntmps-args.toArray.size) undef):=by intro s v hs;obtain⟨_,h2⟩:=wZ hs;rw[jl]at h2;have hlt:s<args.length:=(fu.1 h2).1;rw[ue (by simpa using hlt)];simpa using h2
 have hsz:(args.toArray++Array.replicate (fn.ntmps-args.toArray.size) undef).size=fn.ntmps:=by simp;omega
 refine wpIn_seq ?_;refine jT A lR none _ [] h _ hq hm [] _ w _ y hsz rfl hw ?_;intro ex e' m' a' w' hr' hn' hd' hs' _ _ hk;cases ex<;>try exact hk.elim
 cases m' with
 |cons D m=>exact hk.elim
 |nil=>
 show(Code.seq _ C).wpIn Fence.wide 0 P _ a' w';refine wpIn_seq (wpIn_seq ?_);refine jT A' GR none _ [] w'.heap _ hk hm [] _ w' _ hr' hn' hd' rfl ?_;intro z e1 m1 a1 w1 b d r hs1 _ _ a;cases z<;>try exact a.elim
 cases m1 with
 |cons D m=>exact a.elim
 |nil=>
 simp only[Pn]at a;split at a
 .rename_i hkc;have he:a1.eval co=ev e1 co:=by rw[qD,b.ev hkc]
  unfold aA at a;split at a
  .rename_i hv;refine wpIn_cond_true (he.trans hv) ?_;split at a
   .rename_i hkn i;have i:s<fn.ntmps:=rE i;refine wpIn_seq ?_;refine FW (ro:=none) rfl h1 u hg1 h2 hc hca hd2 hg2 (by rw[d];exact i) ?_;have E:caps.map (kA a1.tmps)=(caps.toList.map (ev e1)).toArray:=by
     apply ko;rw[Bf];apply jx;intro x hx;exact(b.ev (zk hkn x hx)).symm
    have F:a1.defers=[]:=r;rw[E,F];have G:Rel ((s,.func (.func g) #[] (caps.toList.map (ev e1)).toArray)::e1) (gr a1.tmps (some s) (.func (.func g) #[] (caps.toList.map (ev e1)).toArray)):=b.put (dst:=some s) (by rw[d];simpa[qF]using i)
    refine jT B iF none _ [] w1.heap _ a hm [{target:=.fn (.func g) (caps.toList.map (ev e1)).toArray,args:= #[]}] _ w1 _ G (by rw[sY];exact d) rfl rfl ?_;intro j e2 m2 a2 w2 k H n o _ _ hk2;have fin:de m2 w2.heap (λh'=>js P g (caps.toList.map (ev e1)).toArray h' λh''=>gu P e2 h'' fn.results.toList λl=>K (lQ l) h'')->
      LeavesInM Fence.wide 0 P fn a2.tmps (λe w'=>∃v,e=.returned v/\dF w w'/\K v w'.heap) a2.defers .returning w2:=by
     intro hk;rw[n];refine B6 (dargs:= #[]) (w0:=w2) k (λv w'' p q=>⟨v,rfl,((hs'.trans hs1).trans o).trans p,q⟩) m2 w2 (.refl _) ?_;simpa using hk
    cases j<;>try exact hk2.elim
    exact fin hk2
   .exact a.elim
  .rename_i hv;refine wpIn_cond_false (he.trans hv) (wpIn_skip ?_);show C.wpIn Fence.wide 0 P _ a1 w1;refine jT C zZ none _ [] w1.heap _ a hm [] _ w1 _ b d r rfl ?_;intro j e2 m2 a2 w2 k H n o _ _ hk2;have fin:de m2 w2.heap (λh'=>gu P e2 h' fn.results.toList λl=>K (lQ l) h')->
     LeavesInM Fence.wide 0 P fn a2.tmps (λe w'=>∃v,e=.returned v/\dF w w'/\K v w'.heap) a2.defers .returning w2:=by
    intro hk;rw[n,eO];exact xd k (λv w'' p q=>⟨v,rfl,((hs'.trans hs1).trans o).trans p,q⟩) m2 w2 (.refl _) hk
   cases j<;>try exact hk2.elim
   .exact fin hk2
   .exact fin hk2
  .exact a.elim
 .exact a.elim
def aeS(P:Program)(rs:List ResultVar)(K:KT):Exit->bU->List Nat->af->Prop
 | .normal,e,[],h| .ret,e,[],h=>gu P e h rs λl=>K (lQ l) h
 |_,_,_,_=>False
def aeT{f:FuncId}{fn:Func}{c:Code}{eH:Ann}{args:List Value}{h:af}{K:af->Prop}(hf:P.funcs[f]? =some fn)(hb:fn.body=some c)
  (a:jQ P f=true) (hm:P.follows .mixedOrders=true) (hlen:args.length<=fn.ntmps)
  (hc:compile P fn.ntmps false c eH (aqP args 0) [] h (aeS P fn.results.toList λ_ h'=>K h')):js P f args.toArray h K:=by
 refine⟨a,λw hw=> ?_⟩;have b:Rel (aqP args 0) (args.toArray++Array.replicate (fn.ntmps-args.toArray.size) undef):=by intro s v hs;obtain⟨_,h2⟩:=wZ hs;rw[jl]at h2;have hlt:s<args.length:=(fu.1 h2).1;rw[ue (by simpa using hlt)];simpa using h2
 have hsz:(args.toArray++Array.replicate (fn.ntmps-args.toArray.size) undef).size=fn.ntmps:=by simp;omega
 refine(callsDIn_of_wp (R:=λe w'=>∃v,e=.returned v/\dF w w'/\K w'.heap) hf hb trivial ?_).mono λe u w'⟨hu,v,he,hs,hk⟩=>⟨v,he,hu,hs,hk⟩;refine jT c eH none _ [] h _ hc hm [] _ w _ b hsz rfl hw ?_;intro ex e' m' a' w' hr' hn' hd' hs' _ _ hk;have fin:m'=[]->gu P e' w'.heap fn.results.toList (λl=>K w'.heap)->a'.defers=[]/\∃v,(results fn a'.tmps).run P w'=.ok v w'/\∃v',Ending.returned v=.returned v'/\dF w w'/\K w'.heap:=by intro hm' d;subst hm';obtain⟨l,hl,g⟩:=tc hr' d;exact⟨hd',_,pO hl w' rfl,_,rfl,hs',g⟩
 cases ex<;>try exact hk.elim
 .cases m' with
  |nil=>exact fin rfl hk
  |cons _ _=>exact hk.elim
 .cases m' with
  |nil=>exact fin rfl hk
  |cons _ _=>exact hk.elim
end
def qQ(n:Nat)(l:List Int):List Nat:=(l.filter λ(z:Int)=>decide (0<=z/\z<n)).map Int.toNat
def Wj{n:Nat}{l:List Int}{z:Int}:qQ n (l++ [z])=qQ n l++(if 0<=z/\z<n then[z.toNat]else[]):=by
 unfold qQ;rw[mD,fq];congr 1;by_cases h:0<=z/\z<n
 .simp only[aW h,wu,List.filter_nil,gT,dI,sO]
 .simp only[aQ h,wu,List.filter_nil,gT,sO]
def akh{n:Nat}{l:List Nat}(h:∀m∈l,m<n):qQ n (nI l)=l:=by unfold qQ nI;rw[Bn.2 (λz hz=>by obtain⟨m,hm,rfl⟩:=cP.1 hz;have :=h m hm;exact bT ⟨aa,aa⟩),rC];simp[Function.comp_def]
def aki{l:List Nat}:row bg l=row aJ (nI l):=by unfold row nI;rw[List.flatMap_map];rfl
def Wk{h:af}{v:Value}{l:List Nat}(H:Vw bg 1 h v l):Vw aJ 1 h v (nI l):=by
 obtain⟨bl,base,cap,rfl,hc,H⟩:=H;refine⟨bl,base,cap,by rw[dr],by rw[dr];exact hc,?_⟩;rcases H with ⟨rfl,H⟩|⟨o,pre,post,T,fz,h1,h2,h3⟩
 .exact .inl ⟨rfl,H⟩
 .exact .inr ⟨o,pre,post,T,fz,h1,by rw[<-aki];exact h2,h3⟩
def fP(g:G)(d v:Nat):Int:=if d=0 then g.X.getD v 0 else if d=1 then g.Y.getD v 0 else if d=2 then g.X.getD v 0+g.Y.getD v 0 else g.X.getD v 0-g.Y.getD v 0
def nZ(f:Nat->Int)(l:List Nat)(z:Int):Int:=l.foldl (λa x=>min a (f x)) z
def n5(f:Nat->Int)(l:List Nat)(z:Int):Int:=l.foldl (λa x=>max a (f x)) z
def n7(f:Nat->Int):List Nat->Int
 | []=>0
 |x::l=>n5 f (x::l) (f x)-nZ f (x::l) (f x)
def jJ(f:Nat->Int):Nat->Nat×Int
 |0=>(0,0)
 |i+1=>if(jJ f i).2<f i then(i,f i)else jJ f i
def oU(g:G)(l:List Nat):Nat×Int:=jJ (λd=>n7 (fP g d) l) 4
def akj{f:Nat->Int}{l:List Nat}{x:Nat}{z:Int}:nZ f (l++ [x]) z=min (nZ f l z) (f x):=by simp[nZ]
def akk{f:Nat->Int}{l:List Nat}{x:Nat}{z:Int}:n5 f (l++ [x]) z=max (n5 f l z) (f x):=by simp[n5]
def Dt{f:Nat->Int}:∀{l:List Nat}{z:Int},nZ f l z<=z/\∀x∈l,nZ f l z<=f x
 | [],z=>⟨dQ _,λx h=>by cases h⟩
 |a::l,z=>by
  obtain⟨h1,h2⟩:=@Dt f l (min z (f a));have e:nZ f (a::l) z=nZ f l (min z (f a)):=rfl;rw[e];refine⟨aa,λx hx=> ?_⟩;rcases cV.1 hx with rfl|hx
  .omega
  .exact h2 x hx
def Du{f:Nat->Int}:∀{l:List Nat}{z:Int},z<=n5 f l z/\∀x∈l,f x<=n5 f l z
 | [],z=>⟨dQ _,λx h=>by cases h⟩
 |a::l,z=>by
  obtain⟨h1,h2⟩:=@Du f l (max z (f a));have e:n5 f (a::l) z=n5 f l (max z (f a)):=rfl;rw[e];refine⟨aa,λx hx=> ?_⟩;rcases cV.1 hx with rfl|hx
  .omega
  .exact h2 x hx
def Wl{f:Nat->Int}{B:Int}:∀{l:List Nat}{z:Int},B<=z->(∀x∈l,B<=f x)->B<=nZ f l z
 | [],z,h,_=>h
 |a::l,z,h,hl=>Wl (l:=l) (z:=min z (f a)) (by have :=hl a cN;omega) λx hx=>hl x (cZ _ hx)
def Wm{f:Nat->Int}{B:Int}:∀{l:List Nat}{z:Int},z<=B->(∀x∈l,f x<=B)->n5 f l z<=B
 | [],z,h,_=>h
 |a::l,z,h,hl=>Wm (l:=l) (z:=max z (f a)) (by have :=hl a cN;omega) λx hx=>hl x (cZ _ hx)
def Wn{f:Nat->Int}{l:List Nat}:0<=n7 f l:=by
 cases l with
 |nil=>exact dQ _
 |cons x l=>have h1:=(@Dt f (x::l) (f x)).1;have h2:=(@Du f (x::l) (f x)).1;show 0<=n5 f (x::l) (f x)-nZ f (x::l) (f x);omega
def akl{f:Nat->Int}{l:List Nat}{v w:Nat}(hv:v∈l)(hw:w∈l):f v-f w<=n7 f l:=by
 cases l with
 |nil=>cases hv
 |cons x l=>have h1:=(@Dt f (x::l) (f x)).2 w hw;have h2:=(@Du f (x::l) (f x)).2 v hv;show f v-f w<=n5 f (x::l) (f x)-nZ f (x::l) (f x);omega
def Wo{f:Nat->Int}(hf:∀d,0<=f d):∀{i:Nat},1<=i->(jJ f i).1<i/\(jJ f i).2=f (jJ f i).1/\(∀k,k<i->f k<=(jJ f i).2)/\∀k,k<(jJ f i).1->f k<(jJ f i).2
 | 1,_=>by
  have h0:=hf 0;have e:jJ f 1=(0,f 0):=by
   show(if(0:Int)<f 0 then((0:Nat),f 0)else(0,0))=_;split
   .rfl
   .rw[show f 0=0 by omega]
  rw[e];exact⟨Nat.zero_lt_one,rfl,λk hk=>by rw[show k=0 by omega];exact dQ _,λk hk=>aa⟩
 | i+2,_=>by
  obtain⟨h1,h2,h3,h4⟩:=Wo hf (i:=i+1) aa;rw[show jJ f (i+2)=if(jJ f (i+1)).2<f (i+1)then(i+1,f (i+1))else jJ f (i+1)from rfl];by_cases hc:(jJ f (i+1)).2<f (i+1)
  .rw[aW hc];refine⟨by dsimp only;omega,rfl,λk hk=> ?_,λk hk=> ?_⟩
   .by_cases e:k=i+1
    .rw[e];exact dQ _
    .have :=h3 k aa;dsimp only;omega
   .have :=h3 k hk;dsimp only;omega
  .rw[aQ hc];refine⟨aa,h2,λk hk=> ?_,h4⟩;by_cases e:k=i+1
   .rw[e];omega
   .exact h3 k aa
def fJ(f:Nat->Int)(a b:Nat):Bool:=decide (f b<f a\/(f a=f b/\b<a))
def aqG(v:Nat)(l:List Nat)(k:Nat):List Nat:=l.take k++v::l.drop k
def lX(f:Nat->Int)(v:Nat)(l:List Nat):Nat->Nat
 |0=>0
 |k+1=>if fJ f (l.getD k 0) v then lX f v l k else k+1
def r7(f:Nat->Int)(l:List Nat)(v:Nat):List Nat:=aqG v l (lX f v l l.length)
def ir(f:Nat->Int)(l:List Nat):List Nat:=l.foldl (r7 f) []
def Wp{f:Nat->Int}{v:Nat}{l:List Nat}:∀{k:Nat},lX f v l k<=k
 |0=>cq _
 |k+1=>by
  unfold lX;split
  .exact Nat.le_succ_of_le Wp
  .exact cq _
def Wq{f:Nat->Int}{v:Nat}{l:List Nat}:∀{k i:Nat},lX f v l k<=i->i<k->fJ f (l.getD i 0) v=true
 |0,i,_,h=>aa
 | k+1,i,h,hi=>by
  unfold lX at h;by_cases c:fJ f (l.getD k 0) v=true
  .rw[aW c]at h;by_cases e:i=k
   .rw[e];exact c
   .exact Wq h aa
  .rw[aQ c]at h;omega
def Ws{f:Nat->Int}{v:Nat}{l:List Nat}:∀{k i:Nat},lX f v l k=i+1->fJ f (l.getD i 0) v=false
 |0,i,h=>by cases h
 | k+1,i,h=>by
  unfold lX at h;by_cases c:fJ f (l.getD k 0) v=true
  .rw[aW c]at h;exact Ws h
  .rw[aQ c]at h;have :k=i:=aa;subst this;simpa using c
def Wt{v k:Nat}{l:List Nat}:(aqG v l k).Perm (v::l):=by unfold aqG;have :=List.perm_middle (a:=v) (l₁:=l.take k) (l₂:=l.drop k);rwa[iI]at this
def akm{v k:Nat}{l:List Nat}:(aqG v l k).length=l.length+1:=Wt.length_eq
def akn{f:Nat->Int}{l:List Nat}{v:Nat}:ir f (l++ [v])=r7 f (ir f l) v:=by simp[ir]
def Wu{f:Nat->Int}:∀{l m:List Nat},(l.foldl (r7 f) m).Perm (m++l)
 | [],m=>by rw[eO];exact List.Perm.refl _
 |v::l,m=>by have h:=@Wu f l (r7 f m v);refine h.trans ?_;have h2:(r7 f m v++l).Perm ((v::m)++l):=List.Perm.append_right l (Wt (v:=v) (l:=m));exact h2.trans (List.perm_middle (a:=v) (l₁:=m) (l₂:=l)).symm
def Aj{f:Nat->Int}{l:List Nat}:(ir f l).Perm l:=Wu (m:=[])
def Wv{f:Nat->Int}{l:List Nat}:(ir f l).length=l.length:=Aj.length_eq
def ako{f:Nat->Int}{a b:Nat}(h:fJ f a b=true):fJ f b a=false:=by unfold fJ at h |-;rw[gT]at h;rw[uk];omega
def akp{f:Nat->Int}{a b c:Nat}(h:fJ f a b=false)(h2:fJ f b c=false):fJ f a c=false:=by unfold fJ at h h2 |-;rw[uk]at h h2 |-;omega
def akq{f:Nat->Int}{l:List Nat}{v:Nat}(h:l.Pairwise λa b=>fJ f a b=false):(r7 f l v).Pairwise λa b=>fJ f a b=false:=by
 unfold r7 aqG;have hle:=@Wp f v l l.length;have hgt:=λi=>@Wq f v l l.length i;have hno:=λi=>@Ws f v l l.length i;generalize lX f v l l.length=p at hle hgt hno;rw[yS];refine⟨h.sublist (List.take_sublist _ _),wz.2 ⟨λb hb=> ?_,h.sublist (List.drop_sublist _ _)⟩,λa ha b hb=> ?_⟩
 .obtain⟨i,hi,rfl⟩:=E3 hb;rw[List.getElem_drop];rw[sK]at hi;have :=hgt (p+i) aa aa;rw[cI,dD aa]at this;exact ako this
 .have c:fJ f a v=false:=by
   obtain⟨i,hi,rfl⟩:=E3 ha;rw[dO]at hi;rw[List.getElem_take];obtain⟨q,rfl⟩:∃q,p=q+1:=⟨p-1,aa⟩;have h1:=hno q rfl;rw[cI,dD (show q<l.length by omega)]at h1;by_cases e:i=q
   .subst e;exact h1
   .exact akp (uj.1 h i q aa aa aa) h1
  rcases cV.1 hb with rfl|hb
  .exact c
  .have h3:=yS.1 (by rw[iI];exact h:(l.take p++l.drop p).Pairwise λa b=>fJ f a b=false);exact h3.2.2 a ha b hb
def akr{f:Nat->Int}{l:List Nat}:(ir f l).Pairwise λa b=>fJ f a b=false:=by
 have :∀{l m:List Nat},m.Pairwise (λa b=>fJ f a b=false)->(l.foldl (r7 f) m).Pairwise λa b=>fJ f a b=false:=by
  intro l
  induction l with
  |nil=>exact λh=>h
  |cons v l ih=>exact λh=>ih (akq h)
 exact this (l:=l) (m:=[]) .nil
def jh(g:G):Nat->Nat->List Nat->List (List Nat)
 |0,_,l=>[l]
 |k+1,c,l=>if c=1 then[l]else
  jh g k (c/2) ((ir (fP g (oU g l).1) l).take (l.length*(c/2)/c))++jh g k (c-c/2) ((ir (fP g (oU g l).1) l).drop (l.length*(c/2)/c))
def lB(c:Int)(l:List Nat)(out:List Int):List Int:=l.foldl (λo v=>o.set v c) out
def kK:List (List Nat)->Nat->List Int->List Int
 | [],_,out=>out
 |p::r,i,out=>kK r (i+1) (lB i p out)
def vv(g:G)(c:Nat):List Int:=kK (jh g c c (List.range g.n)) 0 (List.replicate g.n 0)
def Ww:∀{a b:List (List Nat)}{i:Nat}{out:List Int},kK (a++b) i out=kK b (i+a.length) (kK a i out)
 | [],b,i,out=>by simp[kK]
 |p::a,b,i,out=>by show kK (a++b) (i+1) (lB i p out)=_;rw[Ww];show _=kK b (i+(a.length+1)) (kK a (i+1) (lB i p out));rw[show i+1+a.length=i+(a.length+1) by omega]
def xL{c:Int}:∀{l:List Nat}{out:List Int},(lB c l out).length=out.length
 | [],out=>rfl
 |v::l,out=>by show(lB c l (out.set v c)).length=_;rw[xL,kV]
def Ic:∀{a:List (List Nat)}{i:Nat}{out:List Int},(kK a i out).length=out.length
 | [],i,out=>rfl
 |p::a,i,out=>by show(kK a (i+1) (lB i p out)).length=_;rw[Ic,xL]
def Dv{g:G}{c:Nat}:(vv g c).length=g.n:=by unfold vv;rw[Ic,nN]
def Ie{c:Int}{w:Nat}:∀{l:List Nat}{out:List Int},w<out.length->(lB c l out)[w]? =if w∈l then some c else out[w]?
 | [],out,_=>by simp[lB]
 | v::l,out,h=>by
  show(lB c l (out.set v c))[w]? =_;rw[Ie (by rw[kV];exact h)];by_cases e:w=v
  .subst e;rw[jo h];simp
  .rw[gD (λh=>e h.symm)];simp[e]
def Wx{w:Nat}:∀{a:List (List Nat)}{i:Nat}{out:List Int},w<out.length->(∀p∈a,w∉p)->(kK a i out)[w]? =out[w]?
 | [],i,out,_,_=>rfl
 |p::a,i,out,h,hw=>by show(kK a (i+1) (lB i p out))[w]? =_;rw[Wx (by rw[xL];exact h) λp hp=>hw p (cZ _ hp),Ie h,aQ (hw p cN)]
def Wy{w:Nat}:∀{a:List (List Nat)}{i j:Nat}{out:List Int},w<out.length->a.flatten.Nodup->(hj:j<a.length)->w∈a[j]->(kK a i out)[w]? =some ((i+j:Nat):Int)
 | [],i,j,out,_,_,hj,_=>by simp at hj
 |p::a,i,0,out,h,hn,_,hw=>by replace hw:w∈p:=hw;show(kK a (i+1) (lB i p out))[w]? =_;rw[EJ,kq]at hn;rw[Wx (by rw[xL];exact h) λq hq b=>hn.2.2 w hw w (E4.2 ⟨q,hq,b⟩) rfl,Ie h,aW hw];rfl
 |p::a,i,j+1,out,h,hn,hj,hw=>by show(kK a (i+1) (lB i p out))[w]? =_;rw[EJ,kq]at hn;rw[Wy (by rw[xL];exact h) hn.2.1 (by simpa using hj) (by simpa using hw)];congr 2;omega
def Dw{g:G}:∀{k c:Nat}{l:List Nat},1<=c->c<=k->(jh g k c l).length=c
 |0,c,l,h1,h2=>aa
 | k+1,c,l,h1,h2=>by
  unfold jh;by_cases e:c=1
  .rw[aW e,e];rfl
  .rw[aQ e,cG,Dw aa aa,Dw aa aa];omega
def Ak{g:G}:∀{k c:Nat}{l:List Nat},(jh g k c l).flatten.Perm l
 |0,c,l=>by unfold jh;simp
 | k+1,c,l=>by
  unfold jh;by_cases e:c=1
  .rw[aW e];simp
  .rw[aQ e,List.flatten_append];refine(List.Perm.append Ak Ak).trans ?_;rw[iI];exact Aj
def aks{m c:Nat}(hc:2<=c):m*(c/2)/c<=m:=by apply Nat.div_le_of_le_mul;rw[um c m];exact Nat.mul_le_mul_left m aa
section
variable{g:G}{c:Nat}
def akt:(jh g c c (List.range g.n)).flatten.Nodup:=(Ak (g:=g)).nodup_iff.2 Bv
def aku{v j:Nat}(hj:j<(jh g c c (List.range g.n)).length)(hv:v∈(jh g c c (List.range g.n))[j]):(vv g c)[v]? =some (j:Int):=by
 have a:v<g.n:=by have :v∈(jh g c c (List.range g.n)).flatten:=E4.2 ⟨_,cu hj,hv⟩;exact jw.1 ((Ak (g:=g)).mem_iff.1 this)
 unfold vv;rw[Wy (by rw[nN];exact a) akt hj hv];simp
def akv{v:Nat}(hv:v<g.n):∃j,∃hj:j<(jh g c c (List.range g.n)).length,v∈(jh g c c (List.range g.n))[j]:=by have :v∈(jh g c c (List.range g.n)).flatten:=(Ak (g:=g)).mem_iff.2 (jw.2 hv);obtain⟨p,hp,a⟩:=E4.1 this;obtain⟨j,hj,e⟩:=E3 hp;exact⟨j,hj,by rw[e];exact a⟩
def akw(hc:1<=c){v:Nat}(hv:v<g.n):∃j:Nat,(vv g c)[v]? =some (j:Int)/\j<c:=by obtain⟨j,hj,hm⟩:=akv (c:=c) hv;exact⟨j,aku hj hm,by rw[Dw hc (cq _)]at hj;exact hj⟩
def akx{l:List Nat}:(oU g l).1<4/\0<=(oU g l).2/\∀k,k<4->∀v∈l,∀w∈l,fP g k v-fP g k w<=(oU g l).2/\(k<(oU g l).1->fP g k v-fP g k w<(oU g l).2):=by
 obtain⟨h1,h2,h3,h4⟩:=Wo (f:=λd=>n7 (fP g d) l) (λd=>Wn) (i:=4) az;refine⟨h1,?_,λk hk v hv w hw=> ?_⟩
 .show 0<=(jJ _ 4).2;rw[h2];exact Wn
 .have h5:=akl (f:=fP g k) hv hw;have h6:=h3 k hk;refine⟨yT h5 h6,λa=> ?_⟩;have h7:=h4 k a;exact Int.lt_of_le_of_lt h5 h7
end
def tI{α:Type}{L:List α}{i:Nat}{r:α}(hi:L[i]? =some r):L.set i r=L:=by
 apply nK;intro j;rw[E5];split
 .rename_i e;subst e;rw[hi];simp[(fu.1 hi).1]
 .rfl
def rv(xs:List Int)(k:Nat):List Int:=(List.range xs.length).map λm=>if m<k\/xs.length-k<=m then xs.getD (xs.length-1-m) 0 else xs.getD m 0
def sj{xs:List Int}{k:Nat}:(rv xs k).length=xs.length:=by simp[rv]
def xM{xs:List Int}{k m:Nat}(h:m<(rv xs k).length):(rv xs k)[m]=if m<k\/xs.length-k<=m then xs.getD (xs.length-1-m) 0 else xs.getD m 0:=by simp[rv]
def akF{xs:List Int}:rv xs 0=xs:=by apply iW sj;intro m h1 h2;rw[xM,aQ aa,cI,dD h2];rfl
def akG{xs:List Int}{k:Nat}(h:xs.length<=2*k+1):rv xs k=xs.reverse:=by
 apply iW (by rw[sj,wA]);intro m h1 h2;have h3:m<xs.length:=by rw[sj]at h1;exact h1
 rw[xM,List.getElem_reverse];split
 .rw[cI,dD aa];rfl
 .have e:xs.length-1-m=m:=aa;rw[cI,dD h3];simp only[e,e8]
def akH{xs:List Int}{k:Nat}(h:2*k+1<xs.length):
  ((rv xs k).set k ((rv xs k)[xs.length-1-k]'(by rw[sj];omega))).set (xs.length-1-k) ((rv xs k)[k]'(by rw[sj];omega))=rv xs (k+1):=by
 apply iW (by simp[sj]);intro m h1 h2;have h3:m<xs.length:=by rw[sj]at h2;exact h2
 rw[qx,xM h2];split
 .rename_i e;subst e;rw[xM,aQ aa,aW aa,show xs.length-1-(xs.length-1-k)=k by omega]
 .rw[qx];split
  .rename_i e;subst e;rw[xM,aQ aa,aW aa]
  .rw[xM];by_cases c:m<k\/xs.length-k<=m
   .rw[aW c,aW aa]
   .rw[aQ c,aQ aa]
abbrev lY:=List PanicEntry->af->Prop
def Am(w:World)(K:KT)(a:lY)(e:Ending)(w':World):Prop:=(∃v,e=.returned v/\dF w w'/\K v w'.heap)\/(∃c,e=.panicked c/\dF w w'/\a c w'.heap)
def An(P:Program)(f:FuncId)(args:Array Value)(h:af)(K:KT)(a:lY):Prop:=jQ P f=true/\∀w:World,w.heap=h->CallsIn Fence.wide 0 P f args w (Am w K a)
def WI(P:Program)(l:Nat)(f:FuncId)(tmps:Array Value)(assign body:Code)(h:af)(K:KT)(a:lY):Prop:=∀w:World,w.heap=h->RoundIn Fence.wide 0 P l f tmps assign body w (Am w K a)
def Ao(P:Program)(v:Value)(args:Array Value)(h:af)(K:KT)(b:lY):Prop:=
 match v with
 | .func (.func f) first captured=>An P f (first ++args++captured) h K b
 | .func (.yield l) first _=>(match h[l]? with
  |some (.loop L)=>(first ++args).size=L.params.size/\WI P l L.fn ((L.params.zip (first ++args)).foldl (λtmps(t,a)=>tmps.setIfInBounds t a) L.tmps) L.assign L.body h K b
  |_=>False)
 |_=>False
def Dy(P:Program)(K:KT)(a:lY):Next->af->Prop
 | .enter f args,h=>∀w:World,w.heap=h->CallsIn Fence.wide 0 P f args w (Am w K a)
 | .round l f tmps assign body,h=>WI P l f tmps assign body h K a
 |_,_=>False
section
variable{P:Program}
def akK{v:Value}{args:Array Value}{h:af}{K:KT}{b:lY}(hq:Ao P v args h K b):
  wpS P (do let d<-Deferred.ofValue v args;invoke d.target d.args) h (Dy P K b):=by
 unfold Ao at hq;split at hq
 .refine cr (jr _) ?_;obtain⟨hc,hk⟩:=hq;unfold jQ at hc;split at hc
  .rename_i fn hfn;simp only[gb,mA,rA,ne_eq]at hc;have hb:fn.body.isNone=false:=by cases hx:fn.body<;>simp_all
   show wpS P (callFunc _ _) h _;unfold callFunc;refine cr (a:=P) (by rfl) ?_;simp only[hfn,hb];rw[aQ (by simpa using hc.2)];exact hk
  .cases hc
 .rename_i l first _
  refine cr (jr _) ?_;split at hq
  .rename_i L hL;show wpS P (Instr.yield l (first ++args)) h _;unfold Instr.yield Instr.getLoop;refine cr (a:=L) (by rw[bf (a:=.loop L) (by simp[getObj,aZ,hL])];rfl) ?_;rw[aQ (by simpa using hq.1)];exact hq.2
  .exact hq.elim
 .exact hq.elim
def Dk(o:Oper):Bool:=
 match o.op with
 | .panic _=>true
 | .call {callee:=.value _, ..}=>true
 | .typeAssert _ _ _ true=>true
 |_=>false
def akL:TypeDesc->Bool
 | .interface _=>true
 |_=>false
def Ij (P:Program) (n:Nat) (o:Oper) (e:bU) (h:af) (K:bU->af->Prop) (a:lY):Prop:=
 match o.guard with
 |some _=>False
 | none=>(match o.op with
  | .panic x=>(match rQ e x,ev e x with
   |true,.iface t v=>a [{v:=.iface t v,recovered:=false}] h
   |_,_=>False)
  | .call c=>(match c.callee,wT n o e with
   | .value f,true=>Ao P (ev e f) (c.args.toList.map (ev e)).toArray h (λv h'=>K (mV e o.dst v) h') a
   |_,_=>False)
  | .typeAssert x _ t true=>(match wT n o e,P.underlying t,ev e x with
   |true,some d,.iface t' v=>(match akL d,Nat.beq t' t with
    |false,true=>K (mV e o.dst (.tuple #[v,.bool true])) h
    |_,_=>False)
   |_,_,_=>False)
  |_=>False)
def sk(P:Program)(n:Nat)(ops:Array Oper)(a:lY):List Oper->bU->af->(bU->af->Prop)->Prop
 | [],e,h,K=>K e h
 |o::r,e,h,K=>(match Dk o with
  |true=>Ij P n o e h (λe' h'=>sk P n ops a r e' h' K) a
  |false=>qG P n ops o e h λe' h'=>sk P n ops a r e' h' K)
variable{ops:Array Oper}{n:Nat}
def akM{ro:Option Nat}{o:Oper}{a:Act}{w:World}{Q:Exit->Act->World->Prop}{K:KT}{b:lY}{K':Act->World->Prop}
  (hp:pT o.op=true) (hs:wpS P (execOp a.eval o) w.heap (Dy P K b))
  (hk:∀v w',dF w w'->K v w'.heap->K' (a.put o.dst v) w') (hkp:∀c w',dF w w'->b c w'.heap->Q (.panic c) a w'):o.wpIn (WF ro) 0 P a w K' Q:=by
 refine⟨λf _=>wR ro f,?_⟩;rw[BU hp];obtain⟨x,w',hr,hsame,hx⟩:=wE hs w rfl;rw[hr];cases x<;>simp only[Dy]at hx<;>try exact hx.elim
 .refine⟨λh=>by simp[zh]at h,?_⟩;refine(FB (hx w' rfl)).mono ?_;rintro e w'' (⟨v,rfl,hs',hv⟩|⟨c,rfl,hs',hv⟩)
  .exact hk _ _ (hsame.trans hs') hv
  .exact hkp _ _ (hsame.trans hs') hv
 .refine⟨λh=>by simp[zh]at h,?_⟩;refine(KS (hx w' rfl)).mono ?_;rintro e w'' (⟨v,rfl,hs',hv⟩|⟨c,rfl,hs',hv⟩)
  .exact hk _ _ (hsame.trans hs') hv
  .exact hkp _ _ (hsame.trans hs') hv
def akN{ro:Option Nat}{i:Nat}{o:Oper}{e:bU}{a:Act}{w:World}{h:af}{K:bU->af->Prop}{b:lY}{K':Act->World->Prop}{Q:Exit->Act->World->Prop}
  (ho:ops[i]? =some o) (hr:Rel e a.tmps) (hn:a.tmps.size=n) (hw:w.heap=h) (hc:Ij P n o e h K b)
  (hk:∀e' a' w',Rel e' a'.tmps->a'.tmps.size=n->a'.defers=a.defers->dF w w'->Fr ops a.tmps a'.tmps->K e' w'.heap->K' a' w')
  (hkp:∀c w',dF w w'->b c w'.heap->Q (.panic c) a w'):wpOpIn (WF ro) 0 P ops Q i K' a w:=by
 subst hw;unfold Ij at hc;unfold wpOpIn;rw[ho];dsimp only;split at hc
 .exact hc.elim
 .rename_i hg;have l:Region.wanted o (yielded ops a.tmps)=true:=by simp[Region.wanted,hg]
  rw[aW l];split at hc
  .rename_i x hop;split at hc
   .rename_i hkn g;rename_i t v;refine⟨λf _=>wR ro f,?_⟩;rw[BU (by rw[hop];rfl)];have :(execOp a.eval o).run P w=.halt (.panic (.iface t v)) w:=by
     have he:a.eval x=.iface t v:=by rw[qD,<-hr.ev hkn];exact g
     unfold execOp;simp only[hop,he];rfl
    rw[this];exact hkp _ _ (.refl _) hc
   .exact hc.elim
  .rename_i c hop;split at hc
   .rename_i f m hok;obtain⟨hp,j,hd⟩:=BZ hok;rw[<-hn]at hd;have hs:wpS P (execOp (ev e) o) w.heap (Dy P (λv h'=>K (mV e o.dst v) h') b):=by
     have core:execOp (ev e) o=(do let d<-Deferred.ofValue (ev e f) (c.args.map (ev e));invoke d.target d.args):=by unfold execOp;simp only[hop];unfold resolve;simp only[m]
     rw[core];have :=akK hc;simpa only[Fv]using this
    rw[B0 hr hp j,<-qD]at hs;refine akM hp hs (λv w' hs' hv=> ?_) hkp;refine hk (mV e o.dst v) _ _ ?_ ?_ (put_defers _ _ _) hs' ?_ hv
    .rw[rO];exact hr.put hd
    .rw[rO,sY];exact hn
    .rw[rO];exact Fr.put ho
   .exact hc.elim
  .rename_i x xt t hop;split at hc
   .rename_i d t' v hok hd g;split at hc
    .rename_i hni p;have q:=gl p;subst q;obtain⟨hp,j,k⟩:=BZ hok;rw[<-hn]at k;have hs:aZ P (execOp (ev e) o) w.heap=some (.value (.tuple #[v,.bool true])):=by
      unfold execOp;simp only[hop,g];refine(bf (a:=.tuple #[v,.bool true]) ?_).trans rfl;unfold Instr.typeAssert;rw[bf (c8 hd)];cases d<;>first |(cases hni;done)|simp[jr]
     rw[B0 hr hp j,<-qD]at hs;refine⟨λf _=>wR ro f,?_⟩;rw[BU hp,pO hs w rfl];refine hk (mV e o.dst _) _ _ ?_ ?_ (put_defers _ _ _) (.refl _) ?_ hc
     .rw[rO];exact hr.put k
     .rw[rO,sY];exact hn
     .rw[rO];exact Fr.put ho
    .exact hc.elim
   .exact hc.elim
  .exact hc.elim
def Ik{ro:Option Nat}{b:lY}{K:bU->af->Prop}{Q:Exit->Act->World->Prop}(hp:sZ ops):∀(l:List Oper)(k:Nat){e:bU}{a:Act}{w:World}{h:af},ops.toList.drop k=l->Rel e a.tmps->a.tmps.size=n->w.heap=h->
  sk P n ops b l e h K->
  (∀e' a' w',Rel e' a'.tmps->a'.tmps.size=n->a'.defers=a.defers->dF w w'->Fr ops a.tmps a'.tmps->K e' w'.heap->Q .normal a' w')->
  (∀c a' w',a'.tmps.size=n->a'.defers=a.defers->dF w w'->Fr ops a.tmps a'.tmps->b c w'.heap->Q (.panic c) a' w')->
  wpOpsIn (WF ro) 0 P ops Q ((List.range ops.size).drop k) a w
 | [],k,e,a,w,h,hl,hr,hn,hw,hc,hq,_=>by
  subst hw;have :ops.size<=k:=by have :=eG List.length hl;simp at this;omega
  rw[rz (by simpa using this)];exact hq e a w hr hn rfl (.refl _) (.refl _) hc
 | o::r,k,e,a,w,h,hl,hr,hn,hw,hc,hq,g=>by
  subst hw;have hk:k<ops.size:=by have :=eG List.length hl;simp at this;omega
  have ho:ops[k]? =some o:=by
   have :(ops.toList.drop k)[0]? =some o:=by rw[hl];rfl
   simpa using this
  have hl':ops.toList.drop (k+1)=r:=by rw[<-ud,hl];rfl
  have hd:(List.range ops.size).drop k=k::(List.range ops.size).drop (k+1):=by rw[iD (by simpa using hk)];simp
  rw[hd,wpOpsIn_cons];have next :∀e' a' w',Rel e' a'.tmps->a'.tmps.size=n->a'.defers=a.defers->dF w w'->Fr ops a.tmps a'.tmps->sk P n ops b r e' w'.heap K->
    wpOpsIn (WF ro) 0 P ops Q ((List.range ops.size).drop (k+1)) a' w':=λe' a' w' hr' hn' hd' hs' hf' d=>
   Ik hp r (k+1) hl' hr' hn' rfl d (λe2 a2 w2 i hn2 hd2 hs2 f hk2=>hq e2 a2 w2 i hn2 (hd2.trans hd') (hs'.trans hs2) (hf'.trans f) hk2)
    λc a2 w2 hn2 hd2 hs2 f hk2=>g c a2 w2 hn2 (hd2.trans hd') (hs'.trans hs2) (hf'.trans f) hk2
  simp only[sk]at hc;split at hc
  .exact akN ho hr hn rfl hc next λc w' hs' hk'=>g c a w' hn rfl hs' (.refl _) hk'
  .refine FD (hp k) (B2 ho hr hn hc) ?_;rintro a' w' hd' hs' ⟨hf,e',hr',d⟩;exact next e' a' w' hr' (hf.1.trans hn) hd' hs' hf d
end
section
variable{P:Program}
def WJ{fn:Func}{t:Array Value}{R:Ending->World->Prop}{c:List PanicEntry}{a:af->Prop}{w0:World}
  (hR:∀w,dF w0 w->a w.heap->R (.panicked c) w):∀(m:List Nat)(w:World),dF w0 w->de m w.heap a->
  LeavesInM Fence.wide 0 P fn t R (marks m) (.panicking c) w
 | [],w,hs,hq=>hR _ hs hq
 |D::m,w,hs,hq=>by obtain⟨hD,hq⟩:=hq;refine⟨aP,.inl ⟨D,{w with heap:=w.heap.setIfInBounds D (.deferred none)},rfl,?_,WJ hR m _ ⟨hs.os,hs.output,hs.tape,hs.drawn⟩ hq⟩⟩;simp[Instr.takeDeferred,getObj,setObj,bind,Sem.bind,Sem.run,hD,pure]
def akO(P:Program)(rs:List ResultVar)(K:KT)(a:lY):Exit->bU->List Nat->af->Prop
 | .panic c,_,m,h=>de m h (a c)
 |ex,e,m,h=>zy P rs K ex e m h
def WK{fn:Func}{args:List Value}(hlen:args.length<=fn.ntmps):Rel (aqP args 0) (args.toArray++Array.replicate (fn.ntmps-args.toArray.size) undef)/\
  (args.toArray++Array.replicate (fn.ntmps-args.toArray.size) undef).size=fn.ntmps:=by
 refine⟨λs v hs=> ?_,by simp;omega⟩;obtain⟨_,h2⟩:=wZ hs;rw[jl]at h2;have hlt:s<args.length:=(fu.1 h2).1;rw[ue (by simpa using hlt)];simpa using h2
def Dz(P:Program)(f:FuncId)(args:Array Value)(c:List PanicEntry)(h:af)(K:af->Prop):Prop:=jQ P f=true/\∀w:World,w.heap=h->CallsDIn Fence.wide 0 P f args (.panicking c) w λe u w'=>∃v,e=.returned v/\settle u=.returning/\dF w w'/\K w'.heap
def WL{f:FuncId}(b:jQ P f=true)(args:Array Value)(w:World):(callFunc f args).run P w=.ok (.enter f args) w:=by
 unfold jQ at b;split at b
 .rename_i fn' hfn;simp only[gb,mA,rA,ne_eq]at b;have hb:fn'.body.isNone=false:=by cases hx:fn'.body<;>simp_all
  have hrd:aZ P (callFunc f args) w.heap=some (.enter f args):=by unfold callFunc;refine(bf (a:=P) (by rfl)).trans ?_;simp only[hfn,hb];rw[aQ (by simpa using b.2)];rfl
  exact pO hrd w rfl
 .cases b
def WM{fn:Func}{t:Array Value}{e:bU}{R:Ending->World->Prop}{K:KT}{w0:World}{f:FuncId}{cap:Array Value}{c:List PanicEntry}(hr:Rel e t)
  (hR:∀v w,dF w0 w->K v w.heap->R (.returned v) w):∀(m:List Nat)(w:World),dF w0 w->
  de m w.heap (λh'=>Dz P f cap c h' λh''=>gu P e h'' fn.results.toList λl=>K (lQ l) h'')->
  LeavesInM Fence.wide 0 P fn t R (marks m++ [{target:=.fn (.func f) cap,args:= #[]}]) (.panicking c) w
 | [],w,hs,hq=>by
  obtain⟨a,hq⟩:=hq;refine⟨aP,.inr ⟨(λh=>by cases h),.func f,cap,f,cap,rfl,?_,λ_ _=>trivial,(hq w rfl).mono ?_⟩⟩
  .show(callFunc f (#[]++cap)).run P w=_;rw[Array.empty_append];exact WL a _ w
  .rintro e' u w' ⟨v,rfl,hu,hs',hk⟩;show LeavesInM Fence.wide 0 P fn t R [] (settle u) w';rw[hu];exact xd (K:=K) hr hR [] w' (hs.trans hs') hk
 |D::m,w,hs,hq=>by obtain⟨hD,hq⟩:=hq;refine⟨aP,.inl ⟨D,{w with heap:=w.heap.setIfInBounds D (.deferred none)},rfl,?_,WM hr hR m _ ⟨hs.os,hs.output,hs.tape,hs.drawn⟩ hq⟩⟩;simp[Instr.takeDeferred,getObj,setObj,bind,Sem.bind,Sem.run,hD,pure]
def akP{n:Nat}{ro:Option Nat}{id:Nat}{ops:Array Oper}{e:bU}{a:Act}{w:World}{h:af}{K:bU->af->Prop}{Q:Exit->Act->World->Prop}(b:uJ ops.toList=true)(hr:Rel e a.tmps)(hn:a.tmps.size=n)(hw:w.heap=h)
  (hc:sk P n ops (λ_ _=>False) ops.toList e h K)
  (hq:∀e' a' w',Rel e' a'.tmps->a'.tmps.size=n->a'.defers=a.defers->dF w w'->K e' w'.heap->Q .normal a' w'):(Code.region id ops false).wpIn (WF ro) 0 P Q a w:=by
 refine wpIn_region ?_;have :=Ik (ro:=ro) (Q:=Q) (n:=n) (FO b) ops.toList 0 (a:=a) (w:=w) aP hr hn hw hc
  (λe' a' w' hr' hn' hd' hs' _ hk'=>hq e' a' w' hr' hn' hd' hs' hk') (λc a' w' _ _ _ _ hk'=>hk'.elim)
 rwa[ox]at this
def Ap:Code->Array Oper
 | .region _ ops _=>ops
 |_=> #[]
end
section
variable{α:Type}{enc:α->List Value}{n:Nat}{T:TypeId}{h0 h h':af}{v w:Value}{ys xs:List α}{K:Value->Prop}{KH:KT}{k:IntKind}{i:Nat}{L:List aS}
def akZ{x:Value}{lo hi mx:Option Value}{a b:Value->Prop}(h1:eW n x lo hi mx a)(h2:∀v,a v->b v):eW n x lo hi mx b:=by
 unfold eW at *;split at h1
 .split at h1
  .rename_i e1 e2 e3;exact⟨h1.1,h1.2.1,h1.2.2.1,h1.2.2.2.1,h1.2.2.2.2.1,h2 _ h1.2.2.2.2.2⟩
  .exact h1.elim
 .exact h1.elim
def ak0{β:Type}{x:Value}{lo hi mx:Option Value}{Q:β->Prop}{K:β->Value->Prop}(b0:β)(hb:Q b0)(h:∀b,Q b->eW n x lo hi mx (K b)):eW n x lo hi mx λv=>∀b,Q b->K b v:=by
 have h1:=h b0 hb;unfold eW at h h1 |-;split at h1
 .split at h1
  .rename_i e1 e2 e3;simp only[e1,e2,e3]at h |-;exact⟨h1.1,h1.2.1,h1.2.2.1,h1.2.2.2.1,h1.2.2.2.2.1,λb hb=>(h b hb).2.2.2.2.2⟩
  .exact h1.elim
 .exact h1.elim
def Vw.xN{lo hi:Option Value}{a j:Nat}(he:∀a,(enc a).length=n)(H:Vw enc n h v ys)(hlo:aqO 0 lo=some (a:Int))(hhi:aqO ys.length hi=some (j:Int))(hij:a<=j)(hj:j<=ys.length)
  (hK:∀v',(∀h',Vw enc n h' v ys->Vw enc n h' v' ((ys.drop a).take (j-a)))->K v'):eW n v lo hi none K:=
 akZ (ak0 (Q:=λh'=>Vw enc n h' v ys) (K:=λh' v'=>Vw enc n h' v' ((ys.drop a).take (j-a))) h H λh' H'=>H'.sub he hlo hhi hij hj λv' h=>h) λv' h=>hK v' h
def Ds(enc:α->List Value)(n:Nat)(T:TypeId)(h:af)(v:Value)(ys:List α):Prop:=
 (v=.slice none 0 0/\ys=[])\/∃bl cap pre rest,v=.slice (some ⟨bl,pre.length,none⟩) ys.length cap/\h[bl]? =some (.cells (pre++row enc ys++rest).toArray T (0,0))/\
  (cap-ys.length)*n<=rest.length/\ys.length<=cap
def lC(enc:α->List Value)(n:Nat)(T:TypeId)(v:Value)(ys:List α):aS:=⟨rV v,λh=>Ds enc n T h v ys,λ{h h'} hs hq=>by
 rcases hq with H|⟨bl,cap,pre,rest,rfl,hb,a,c⟩
 .exact .inl H
 .exact .inr ⟨bl,cap,pre,rest,rfl,(hs bl rfl).trans hb,a,c⟩⟩
def Own.It(o:Own h0 h L)(i:Nat)(hi:L[i]? =some (aC enc n T v xs)):Own h0 h (L.set i (lC enc n T v xs)):=by
 refine o.conv i hi ?_ λb hb=>hb;obtain⟨bl,H⟩:=o.get i hi;rcases H with H|⟨cap,rest,rfl,hb,a,c⟩
 .exact .inl H
 .exact .inr ⟨bl,cap,[],rest,rfl,hb,aa,c⟩
def Own.Aq(o:Own h0 h L)(i:Nat)(hi:L[i]? =some (lC enc n T v ys)):Vw enc n h v ys:=by
 rcases o.get i hi with ⟨rfl,rfl⟩|⟨bl,cap,pre,rest,rfl,hb,a,c⟩
 .exact .nil
 .exact⟨bl,_,cap,rfl,c,.inr ⟨_,pre,rest,T,_,rfl,hb,rfl⟩⟩
def Own.ak1{xs:List Int}{j:Nat}{a:Int}(o:Own h0 h L)(i:Nat)(hi:L[i]? =some (aC aJ 1 T v xs))(hj:j<=xs.length)
  (hK:∀h',Own h0 h' (L.set i (aC aJ 1 T v (xs.take j++List.replicate (xs.length-j) a)))->KH (.tuple #[]) h'):eW 1 v (some (.int k j)) none none λt=>wL [I a] t h KH:=by
 have hrow:∀l:List Int,row aJ l=l.map I:=λl=>by
  induction l with
  |nil=>rfl
  |cons a l ih=>simp only[row,jm,dI]at ih |-;rw[ih];rfl
 have same:j=xs.length->L.set i (aC aJ 1 T v (xs.take j++List.replicate (xs.length-j) a))=L:=λe=>by
  subst e;rw[fF,iE,wq,eO];apply nK;intro q;rw[E5];split
  .rename_i e;subst e;rw[hi];simp[(fu.1 hi).1]
  .rfl
 obtain⟨bl,H⟩:=o.get i hi;rcases H with ⟨rfl,rfl⟩|⟨cap,rest,rfl,hb,hr,hle⟩
 .have e0:j=0:=by simpa using hj
  subst e0;refine⟨aP,aP,aP,aP,aP,?_⟩;have e:gE 1 (Int.toNat ((0:Nat):Int)) (Int.toNat ((0:Nat):Int)) none=none:=by simp[gE]
  rw[e];show KH (.tuple #[]) h;exact hK h (by rw[same rfl];exact o)
 .have c:=eY hb;refine⟨aP,aP,by simp;omega,by simp;omega,aP,?_⟩;simp only[fL];by_cases e:xs.length=j
  .have hlen:xs.length-j=0:=aa;have ho:=hK h (by rw[same e.symm];exact o);rw[hlen];unfold gE;split
   .exact ho
   .exact ho
  .have d:gE 1 j cap (some ⟨bl,0,none⟩)=some ⟨bl,j,none⟩:=by
    unfold gE;rw[aQ aa];simp
   rw[d];obtain⟨q,hq⟩:∃q,xs.length-j=q+1:=⟨xs.length-j-1,aa⟩;rw[hq];show mU h bl j (bO [I a] (q+1)) (KH (.tuple #[]));rw[<-hq];have hz:bO [I a] (xs.length-j)=List.replicate (xs.length-j) (I a):=by simp[bO]
   rw[hz];refine xg _ _ _ _ hb (by rw[cG,hrow];simp;omega) (λu hu=>by rw[List.eq_of_mem_replicate hu];rfl) ?_;have f:over (row aJ xs++rest) j (List.replicate (xs.length-j) (I a))=row aJ (xs.take j++List.replicate (xs.length-j) a)++rest:=by
    rw[hrow,hrow];unfold over;have hl:(List.map (λx=>I x) xs).length=xs.length:=aP;rw[nN,qt (by rw[hl];omega),show j+(xs.length-j)=(List.map (λx=>I x) xs).length by rw[hl];omega,EU]
    .simp[List.map_take]
    .rfl
   rw[f];refine hK _ (o.set i hi (bN.bG _ _ rfl) ⟨bl,.inr ⟨cap,rest,by simp;omega,aqK c,by simp;rw[hr];congr 1;simp;omega,by simp;omega⟩⟩ λb hb'=>⟨.inl hb',by rw[iM];exact(show b=bl from hb')▸c⟩)
def Own.pre{j:Nat}(o:Own h0 h L)(he:∀a,(enc a).length=n)(i:Nat)(hi:L[i]? =some (aC enc n T v xs))(hj:j<=xs.length)
  (hK:∀v',Own h0 h (L.set i (aC enc n T v' (xs.take j)))->K v'):eW n v none (some (.int k j)) none K:=by
 obtain⟨bl,H⟩:=o.get i hi;have H0:=H;rcases H with ⟨rfl,rfl⟩|⟨cap,rest,rfl,hb,hr,hle⟩
 .have :j=0:=by simpa using hj
  subst this;refine⟨aP,aP,aP,aP,aP,hK _ (o.conv i hi ⟨bl,?_⟩ ?_)⟩
  .exact .inl ⟨by simp[gE],aP⟩
  .intro b hb;simp[gE,aC,rV]at hb
 .exact H0.pre he hj λv' H'=>hK v' (o.conv i hi ⟨bl,H'⟩ λb hb=>H'.blk hb)
def Own.ak2{y:α}{m:Int}{k' k'':IntKind}(o:Own h0 h L)(he:∀a,(enc a).length=n)(i:Nat)(hi:L[i]? =some (lC enc n T v (y::ys)))(hm:m=ys.length+1)
  (hK:∀v',Own h0 h (L.set i (lC enc n T v' ys))->K v'):eW n v (some (.int k 1)) (some (.int k' m)) (some (.int k'' m)) K:=by
 subst hm;rcases o.get i hi with ⟨rfl,h⟩|⟨bl,cap,pre,rest,rfl,hb,a,c⟩
 .cases h
 .simp only[fO]at c a;refine⟨λ_=>rfl,az,aa,dQ _,aa,?_⟩;have e1:(Int.toNat (1:Int))=1:=rfl;have e2:((ys.length:Int)+1).toNat=ys.length+1:=aa;rw[e1,e2,vS];refine hK _ (o.conv i hi ?_ ?_)
  .refine .inr ?_;unfold gE;by_cases hc:ys.length=0
   .have :ys=[]:=nH hc;subst this;refine⟨bl,0,pre,enc y++rest,aP,by rw[hb];simp[row],aP,aP⟩
   .refine⟨bl,ys.length,pre++enc y,rest,?_,by rw[hb];simp[row],aP,cq _⟩;rw[aQ aa];simp[he]
  .intro b hb';unfold gE at hb';split at hb'
   .exact hb'
   .exact hb'
def Own.ak3{x:Value}{xs ys:List α}(o:Own h0 h L)(i:Nat)(hi:L[i]? =some (aC enc n T v xs))(he:∀a,(enc a).length=n)(hp:∀a,∀u∈enc a,plainCell u=true)(hx:Vw enc n h x ys)(hl:xs.length=ys.length)
  (hK:∀h',Own h0 h' (L.set i (aC enc n T v ys))->KH (.int .i64 ys.length) h'):kZ n v x h KH:=by
 obtain⟨c,xc,rfl,b⟩:=hx.cells he;obtain⟨bl,H⟩:=o.get i hi;have H0:=H;rcases H with ⟨rfl,rfl⟩|⟨cap,rest,rfl,hb,hr,hle⟩
 .have :ys=[]:=nH hl.symm;subst this;unfold kZ;have :gN h n (Nat.min ([]:List α).length 0) c=some []:=by
   have e:(Nat.min ([]:List α).length 0)=([]:List α).length:=rfl;rw[e,b];rfl
  simp only[this];refine hK h ?_;have :L.set i (aC enc n T (.slice none 0 0) [])=L:=by
   apply nK;intro q;rw[E5];split
   .rename_i e;subst e;rw[hi];simp[(fu.1 hi).1]
   .rfl
  rw[this];exact o
 .unfold kZ;have hmin:Nat.min ys.length xs.length=ys.length:=by rw[hl];exact BA _
  simp only[hmin,b];have hz:(0:Nat)=0*n:=aP;rw[hz];refine o.xq i hi he hp H0 rfl aa λh' o'=>hK h' ?_;have e:xs.take 0++ys++xs.drop (0+ys.length)=ys:=by rw[E7,sN,bE,yM aa,eO]
  rw[e]at o';exact o'
end
structure Ev where
 kind:Int
 side:Int
 id:Int
 label:Int
 deriving DecidableEq
abbrev eE(e:Ev):List Value:=[I e.kind,I e.side,I e.id,I e.label]
def qS(e:Ev):(eE e).length=4:=rfl
def xQ(e:Ev):∀u∈eE e,plainCell u=true:=by intro u hu;simp at hu;rcases hu with rfl|rfl|rfl|rfl<;>rfl
def Ir(e:Ev):(Value.cells (.agg (eE e).toArray)).toList=eE e:=rfl
def Ev.key(e:Ev):uU:=(e.kind,e.side,e.id)
def nj(n m:Nat)(k:Int):Int:=if k=0 then n else if k=1 then m else 0
def Au(n m:Nat)(e:Ev):Prop:=0<=e.id/\e.id<nj n m e.kind/\(e.side=0\/e.side=1)/\(e.kind=0\/e.label=0)
instance {n m:Nat} {e:Ev}:Decidable (Au n m e):=by unfold Au;infer_instance
def lE(n m:Nat)(e:Ev):Bool:=decide (Au n m e)
def oV(n m:Nat)(l:List Ev):Prop:=∀i e,l[i]? =some e->lE n m e=true/\e.key∉(l.take i).map Ev.key
def j4(l:List Ev)(side:Int):Int:=l.foldl (λa e=>if e.kind=0/\e.side=side then e.id else a) (-1)
def Is{l:List Ev}{e:Ev}{side:Int}:j4 (l++ [e]) side=if e.kind=0/\e.side=side then e.id else j4 l side:=by unfold j4;rw[jP];rfl
def tK(g:G)(e:Ev):Int:=match g.aj[e.id.toNat]? with
 |some a=>if e.side=1 then(a.t:Int)else(a.f:Int)
 |none=>0
def ob(g:G)(l:List Ev):Prop:=∀i e,l[i]? =some e->lE g.n g.aj.length e=true/\(e.kind≠0->j4 (l.take i) e.side=tK g e)
def xS(p:Nat->Bool)(n:Nat)(r:Int):Prop:=(r= -1/\∀k,k<n->p k=false)\/∃i,r=(i:Nat)/\i<n/\p i=true/\∀k,k<i->p k=false
def xS.any{p:Nat->Bool}{n:Nat}{r:Int}(a:xS p n r):(decide (0<=r)=true↔∃k,k<n/\p k=true):=by
 rw[gT];rcases a with ⟨rfl,h1⟩|⟨i,rfl,h1,h2,h3⟩
 .exact⟨λh=>aa,λ⟨k,h,hk⟩=>by rw[h1 k h]at hk;cases hk⟩
 .exact⟨λ_=>⟨i,h1,h2⟩,λ_=>aa⟩
structure BS where
 hp:List HP
 lab:Int->Option Int
 bS:Int->Option Int
 ord:List Nat
def BS.zero:BS:=⟨[],λ_=>none,λ_=>none,[]⟩
def BS.put(π:Nat->Int)(b:BS)(v:Nat)(a d:Int):BS where
 hp:=((v:Int),2*d+π v)::(match b.lab v with
  |some was=>b.hp.erase ((v:Int),2*was+π v)
  |none=>b.hp)
 lab:=λz=>if z=(v:Int)then some d else b.lab z
 bS:=λz=>if z=(v:Int)then some a else b.bS z
 ord:=b.ord
def BS.takes(cQ:Nat->Bool)(b:BS)(v:Nat)(d:Int):Bool:=cQ v&&(!b.ord.contains v&&(match b.lab v with
 |some was=> !decide (was<=d)
 |none=>true))
def BS.pop(b:BS)(v:Nat)(k:Int):BS:={b with hp:=b.hp.erase ((v:Int),k),ord:=b.ord++ [v]}
inductive Bk(l:List A)(tl hd:A->Nat)(ok:Nat->Bool)(bS:Int->Option Int)(ord:List Nat)(src:Nat):Nat->List Nat->Int->Prop
 |nil:bS src=some (-1)->Bk l tl hd ok bS ord src src [] 0
 | cons {i:Nat} {r:List Nat} {d:Int}:bS (hd (aH l i))=some (i:Int)->i<l.length->ok i=true->tl (aH l i)∈ord->Bk l tl hd ok bS ord src (tl (aH l i)) r d->
   Bk l tl hd ok bS ord src (hd (aH l i)) (i::r) (d+(aH l i).w)
section
variable{l:List A}{tl hd:A->Nat}{ok:Nat->Bool}{n src:Nat}{cQ:Nat->Bool}{π:Nat->Int}{Fe:Prop}
def Bk.keep{bS a:Int->Option Int}{ord ord':List Nat}{u:Nat}{r:List Nat}{d:Int}(h:Bk l tl hd ok bS ord src u r d)(ha:∀w∈ord,a (w:Int)=bS w)(hs:∀w∈ord,w∈ord'):
  a (u:Int)=bS u->Bk l tl hd ok a ord' src u r d:=by
 induction h with
 |nil h=>intro hu;exact .nil (hu.trans h)
 |cons h1 h2 h3 h4 _ ih=>intro hu;exact .cons (hu.trans h1) h2 h3 (hs _ h4) (ih (ha _ h4))
structure SI(l:List A)(tl hd:A->Nat)(ok:Nat->Bool)(n src:Nat)(cQ:Nat->Bool)(π:Nat->Int)(Fe:Prop)(b:BS)(B:Int):Prop where
 ids:(b.hp.map (·.1)).Nodup
 cK:∀p∈b.hp,∃u:Nat,p.1=u/\u∉b.ord/\∃d,b.lab u=some d/\p.2=2*d+π u
 lab:∀z d,b.lab z=some d->∃u:Nat,z=u/\u<n/\cQ u=true/\0<=d/\d<=B/\(u∈b.ord\/((u:Int),2*d+π u)∈b.hp)
 ord:b.ord.Nodup
 Aw:∀v∈b.ord,∃d,b.lab (v:Int)=some d
 bk:∀(u:Nat) d,b.lab u=some d->∃r,Bk l tl hd ok b.bS b.ord src u r d/\r.length<=(if u∈b.ord then b.ord.idxOf u else b.ord.length)
 mono:Fe->∀c∈b.ord,∀dc,b.lab (c:Int)=some dc->∀p∈b.hp,2*dc+π c<=p.2
 zero:∀d,b.lab (src:Int)=some d->d=0
 fst:b.ord=[]->∀p∈b.hp,p.1=(src:Int)
 hd:∀v,b.ord.head? =some v->v=src
variable{b:BS}{B B':Int}
def SI.start:SI l tl hd ok n src cQ π Fe BS.zero 0:=by
 refine⟨by simp[BS.zero],λp h=>by simp[BS.zero]at h,λz d h=>by simp[BS.zero]at h,by simp[BS.zero],λv h=>by simp[BS.zero]at h,λu d h=>by simp[BS.zero]at h,
  λ_ c h=>by simp[BS.zero]at h,λd h=>by simp[BS.zero]at h,λ_ p h=>by simp[BS.zero]at h,λv h=>by simp[BS.zero]at h⟩
def SI.more(H:SI l tl hd ok n src cQ π Fe b B)(h:B<=B'):SI l tl hd ok n src cQ π Fe b B':=⟨H.ids,H.cK,λz d hz=>by obtain⟨u,a,c,e,f,g,k⟩:=H.lab z d hz;exact⟨u,a,c,e,f,aa,k⟩,H.ord,H.Aw,H.bk,H.mono,H.zero,H.fst,H.hd⟩
def SI.WY(H:SI l tl hd ok n src cQ π Fe b B):∀v∈b.ord,v<n/\cQ v=true:=λv hv=>by obtain⟨d,hd⟩:=H.Aw v hv;obtain⟨u,e,h1,h2,_⟩:=H.lab _ _ hd;obtain rfl:=gU e;exact⟨h1,h2⟩
def SI.sn(H:SI l tl hd ok n src cQ π Fe b B):b.ord.length<=n:=kH H.ord λv hv=>(H.WY v hv).1
def SI.Iu(H:SI l tl hd ok n src cQ π Fe b B){v:Nat}(h:b.lab v=none):∀p∈b.hp,p.1≠(v:Int):=λp hp e=>by obtain⟨u,h1,h2,d,h3,_⟩:=H.cK p hp;rw[<-h1,e,h]at h3;cases h3
def SI.hlen(H:SI l tl hd ok n src cQ π Fe b B):b.hp.length<=n:=by
 have h1:(b.hp.map (·.1.toNat)).length<=n:=kH (by
  have e:b.hp.map (·.1.toNat)=(b.hp.map (·.1)).map Int.toNat:=aP;rw[e,kX,pM];refine(kX.1 H.ids).imp_of_mem λ{x y} hx hy hne e=>hne ?_;obtain⟨p,hp,rfl⟩:=cP.1 hx;obtain⟨q,hq,rfl⟩:=cP.1 hy;obtain⟨u,e1,_⟩:=H.cK p hp;obtain⟨w,e2,_⟩:=H.cK q hq;rw[e1,e2]at e |-;have e':u=w:=by simpa using e
  rw[e']) (λx hx=>by
  obtain⟨p,hp,rfl⟩:=cP.1 hx;obtain⟨u,e1,_,d,e2,_⟩:=H.cK p hp;obtain⟨u',e3,a,_⟩:=H.lab _ _ e2;obtain rfl:=gU e3;rw[e1];simpa using a)
 simpa using h1
def Ax{v:Nat}{a d:Int}{p:HP}:p∈(b.put π v a d).hp↔p=((v:Int),2*d+π v)\/p∈(match b.lab v with|some was=>b.hp.erase ((v:Int),2*was+π v)|none=>b.hp):=by simp[BS.put]
def SI.put(H:SI l tl hd ok n src cQ π Fe b B){v:Nat}{a d:Int}(hv:v<n)(ho:cQ v=true)(hno:v∉b.ord)(h0:0<=d)(hB:d<=B)
  (hbk:∃r,Bk l tl hd ok (b.put π v a d).bS b.ord src v r d/\r.length<=b.ord.length) (hm:Fe->∀c∈b.ord,∀dc,b.lab (c:Int)=some dc->2*dc+π c<=2*d+π v)
  (hz:v=src->d=0) (hf:b.ord=[]->v=src):SI l tl hd ok n src cQ π Fe (b.put π v a d) B:=by
 have rest:∀p,p∈(match b.lab v with|some was=>b.hp.erase ((v:Int),2*was+π v)|none=>b.hp)->p∈b.hp/\p.1≠(v:Int):=by
  intro p hp;cases hl:b.lab v with
  |none=>rw[hl]at hp;exact⟨hp,H.Iu hl p hp⟩
  |some was=>rw[hl]at hp;obtain⟨u,e,_,_,_,_,h1⟩:=H.lab _ _ hl;obtain rfl:=gU e;exact⟨kW hp,not_mem_erase H.ids (h1.resolve_left hno) hp⟩
 have back:∀p∈b.hp,p.1≠(v:Int)->p∈(b.put π v a d).hp:=by
  intro p hp hne;refine Ax.2 (.inr ?_);cases hl:b.lab v with
  |none=>exact hp
  |some was=>exact(oB λe=>hne (by rw[e])).2 hp
 have f:∀z,(b.put π v a d).lab z=if z=(v:Int)then some d else b.lab z:=λz=>rfl;have keep:∀w∈b.ord,(b.put π v a d).bS (w:Int)=b.bS w:=λw hw=>by have :¬(w:Int)=v:=λe=>hno (by rw[<-gU e];exact hw);show(if(w:Int)=(v:Int)then some a else b.bS w)=_;rw[aQ this]
 refine⟨?_,?_,?_,H.ord,?_,?_,?_,?_,?_,H.hd⟩
 .simp only[BS.put,dI,gC];refine⟨λhx=> ?_,?_⟩
  .obtain⟨p,hp,e⟩:=cP.1 hx;exact(rest p hp).2 e
  .cases hl:b.lab v with
   |none=>exact H.ids
   |some was=>exact xy.nodup H.ids
 .intro p hp;rcases Ax.1 hp with rfl|hp
  .exact⟨v,rfl,hno,d,by rw[f,aW rfl],rfl⟩
  .obtain⟨h1,h2⟩:=rest p hp;obtain⟨u,e1,e2,d',e3,i⟩:=H.cK p h1;refine⟨u,e1,e2,d',?_,i⟩;rw[f,aQ (by rw[<-e1];exact h2)];exact e3
 .intro z d' g;rw[f]at g;split at g
  .rename_i e;obtain rfl:=eV g;exact⟨v,e,hv,ho,h0,hB,.inr (Ax.2 (.inl rfl))⟩
  .rename_i hne;obtain⟨u,e,c1,c2,c3,c4,j⟩:=H.lab z d' g;refine⟨u,e,c1,c2,c3,c4,j.imp id λh=>back _ h ?_⟩;rw[<-e];exact hne
 .intro w hw;obtain⟨d',hd'⟩:=H.Aw w hw;refine⟨d',?_⟩;rw[f,aQ λe=>hno (by rw[<-gU e];exact hw)];exact hd'
 .intro u d' hu;rw[f]at hu;split at hu
  .rename_i e;obtain rfl:=gU e;obtain rfl:=eV hu;obtain⟨r,h1,h2⟩:=hbk;refine⟨r,h1,?_⟩;show r.length<=if u∈b.ord then _ else _;rw[aQ hno];exact h2
  .rename_i hne;obtain⟨r,h1,h2⟩:=H.bk u d' hu;refine⟨r,h1.keep keep (λw h=>h) ?_,h2⟩;show(if(u:Int)=(v:Int)then some a else b.bS u)=_;rw[aQ hne]
 .intro hF c hc dc hdc p hp;rw[f,aQ λe=>hno (by rw[<-gU e];exact hc)]at hdc;rcases Ax.1 hp with rfl|hp
  .exact hm hF c hc dc hdc
  .exact H.mono hF c hc dc hdc p (rest p hp).1
 .intro d' hd';rw[f]at hd';split at hd'
  .rename_i e;obtain rfl:=eV hd';exact hz (gU e).symm
  .exact H.zero d' hd'
 .intro he p hp;rcases Ax.1 hp with rfl|hp
  .show(v:Int)=src;rw[hf he]
  .exact H.fst he p (rest p hp).1
def SI.pop(H:SI l tl hd ok n src cQ π Fe b B){v:Nat}{k:Int}(hm:((v:Int),k)∈b.hp)(hmin:∀q∈b.hp,¬hl q ((v:Int),k)=true):
  SI l tl hd ok n src cQ π Fe (b.pop v k) B/\v∉b.ord/\v<n/\cQ v=true/\(∃d,b.lab v=some d/\k=2*d+π v/\0<=d/\d<=B)/\
   (Fe->∀c∈(b.pop v k).ord,∀dc,b.lab (c:Int)=some dc->2*dc+π c<=k):=by
 obtain⟨u,e,hno,d,hd,hk⟩:=H.cK _ hm;obtain rfl:=gU e;obtain⟨u',e',hn,ho,h0,hB,_⟩:=H.lab _ _ hd;obtain rfl:=gU e';have hk:k=2*d+π v:=hk;have i:Fe->∀c∈b.ord++ [v],∀dc,b.lab (c:Int)=some dc->2*dc+π c<=k:=by
  intro hF c hc dc hdc;rcases cS.1 hc with hc|hc
  .exact H.mono hF c hc dc hdc _ hm
  .obtain rfl:=eP.1 hc;rw[hd]at hdc;obtain rfl:=eV hdc;omega
 refine⟨⟨xy.nodup H.ids,λp hp=> ?_,λz d' hz=> ?_,?_,λw hw=> ?_,λw d' hw=> ?_,λhF c hc dc hdc p hp=> ?_,H.zero,λh=> ?_,λw hw=> ?_⟩,hno,hn,ho,⟨d,hd,hk,h0,hB⟩,i⟩
 .have h1:=kW hp;obtain⟨w,e1,e2,e3⟩:=H.cK p h1;refine⟨w,e1,λh=> ?_,e3⟩;rcases cS.1 h with h|h
  .exact e2 h
  .obtain rfl:=eP.1 h;exact not_mem_erase H.ids hm hp e1
 .obtain⟨w,e1,c1,c2,c3,c4,j⟩:=H.lab z d' hz;refine⟨w,e1,c1,c2,c3,c4,?_⟩;by_cases f:w=v
  .exact .inl (by rw[f];exact rF _ cN)
  .refine j.imp (aqJ _) λh=>(oB λe=>f ?_).2 h;exact gU (eG Prod.fst e)
 .show(b.ord++ [v]).Nodup;rw[kq];refine⟨H.ord,aP,λa ha c hc e'=> ?_⟩;have hc:=eP.1 hc;rw[hc]at e';exact hno (e'▸ha)
 .rcases cS.1 hw with hw|hw
  .exact H.Aw w hw
  .obtain rfl:=eP.1 hw;exact⟨d,hd⟩
 .obtain⟨r,h1,h2⟩:=H.bk w d' hw;refine⟨r,h1.keep (λ_ _=>rfl) (λ_ h=>aqJ _ h) rfl,?_⟩;show r.length<=if w∈b.ord++ [v]then(b.ord++ [v]).idxOf w else(b.ord++ [v]).length;by_cases g:w∈b.ord
  .rw[aW g]at h2;rw[aW (aqJ _ g),sQ,aW g];exact h2
  .rw[aQ g]at h2;by_cases f:w=v
   .subst f;rw[aW (rF _ cN),sQ,aQ hno];omega
   .rw[aQ (by simp[g,f]),cG];omega
 .have h1:=i hF c hc dc hdc;have h2:=hmin p (kW hp);rw[oO]at h2;omega
 .simp[BS.pop]at h
 .cases ho:b.ord with
  |nil=>have hw:(b.ord++ [v]).head?=some w:=hw;rw[ho]at hw;obtain rfl:=eV hw;exact gU (H.fst ho _ hm)
  |cons a r=>have hw:(b.ord++ [v]).head?=some w:=hw;rw[ho]at hw;exact H.hd w (by rw[ho];exact hw)
end
def sI(x:Bool):Int:=if x then 1 else 0
def DF{x y:Bool}:sI x=sI y↔x=y:=by cases x<;>cases y<;>decide
def WZ(x:Bool):sI x=0\/sI x=1:=by cases x<;>decide
def dH(x:Bool)(a:A):Nat:=if x then a.t else a.f
def dz(x:Bool)(a:A):Nat:=if x then a.f else a.t
structure dJ where
 x:Bool
 v:Nat
 d:Int
def iQ(x:Bool)(i:Nat):Ev:=⟨1,sI x,i,0⟩
def kL(s:dJ):Ev:=⟨0,sI s.x,s.v,s.d⟩
def oW(outs:Bool->Nat->List Nat)(s:dJ):List Ev:=kL s::(outs s.x s.v).map (iQ s.x)
def dg(outs:Bool->Nat->List Nat)(st:List dJ):List Ev:=st.flatMap (oW outs)
def als{outs:Bool->Nat->List Nat}:dg outs []=[]:=rfl
def Iv{outs:Bool->Nat->List Nat}{a b:List dJ}:dg outs (a++b)=dg outs a++dg outs b:=gV
def Iw{outs:Bool->Nat->List Nat}{s:dJ}{b:List dJ}:dg outs (s::b)=oW outs s++dg outs b:=rfl
def Ix{outs:Bool->Nat->List Nat}{s:dJ}:dg outs [s]=oW outs s:=by simp[dg]
structure qe(g:G)(outs:Bool->Nat->List Nat):Prop where
 mem:∀x v i,i∈outs x v->i<g.aj.length/\dH x (aH g.aj i)=v
 nd:∀x v,(outs x v).Nodup
def Iy{q:A->Bool}:∀{l:List A}{i:Nat},(gY q l i).Pairwise (· < ·)
 | [],_=>.nil
 | a::l,i=>by
  simp only[gY];split
  .refine wz.2 ⟨λj hj=> ?_,Iy⟩;have :=(oM.1 hj).1;omega
  .exact Iy
def W0{q:A->Bool}{l:List A}{i:Nat}:(gY q l i).Nodup:=List.Pairwise.imp (λh=>yG h) Iy
def iH(g:G)(x:Bool)(v:Nat):List Nat:=if x then g.in v else g.out v
def xT{g:G}:qe g (iH g):=by
 refine⟨λx v i hi=> ?_,λx v=> ?_⟩
 .cases x with
  |false=>obtain⟨_,h1,h2⟩:=oM.1 (show i∈g.out v from hi);simp only[jl]at h1 h2;refine⟨h1,?_⟩;show(aH g.aj i).f=v;simpa[aH,h1]using h2
  |true=>obtain⟨_,h1,h2⟩:=oM.1 (show i∈g.in v from hi);simp only[jl]at h1 h2;refine⟨h1,?_⟩;show(aH g.aj i).t=v;simpa[aH,h1]using h2
 .cases x
  .exact W0
  .exact W0
def qe.filter{g:G}{outs:Bool->Nat->List Nat}(H:qe g outs)(p:Nat->Bool):qe g (λx v=>(outs x v).filter p):=⟨λx v i hi=>H.mem x v i (gL.1 hi).1,λx v=>(H.nd x v).filter p⟩
section
variable{g:G}{outs:Bool->Nat->List Nat}{st:List dJ}{l:List Ev}
def Iz{e:Ev}:e∈dg outs st↔∃s∈st,e=kL s\/∃i∈outs s.x s.v,e=iQ s.x i:=by simp only[dg,qu,oW,cV,cP];exact⟨λ⟨s,hs,h⟩=>⟨s,hs,h.imp id λ⟨i,a,b⟩=>⟨i,a,b.symm⟩⟩,λ⟨s,hs,h⟩=>⟨s,hs,h.imp id λ⟨i,a,b⟩=>⟨i,a,b.symm⟩⟩⟩
def W1{s:dJ}(h:s.v<g.n):lE g.n g.aj.length (kL s)=true:=bT ⟨by simp[kL],by show(s.v:Int)<nj _ _ 0;unfold nj;rw[aW rfl];omega,WZ _,.inl rfl⟩
def W2{x:Bool}{i:Nat}(h:i<g.aj.length):lE g.n g.aj.length (iQ x i)=true:=bT ⟨by simp[iQ],by show(i:Int)<nj _ _ 1;unfold nj;rw[aQ az,aW rfl];omega,WZ _,.inr rfl⟩
def alu(H:qe g outs)(hv:∀s∈st,s.v<g.n):∀e∈dg outs st,lE g.n g.aj.length e=true:=by
 intro e he;obtain⟨s,hs,rfl|⟨i,hi,rfl⟩⟩:=Iz.1 he
 .exact W1 (hv s hs)
 .exact W2 (H.mem _ _ _ hi).1
def W3{n m:Nat}:oV n m l↔(∀e∈l,lE n m e=true)/\(l.map Ev.key).Nodup:=by
 constructor
 .intro h;refine⟨λe he=> ?_,?_⟩
  .obtain⟨i,hi⟩:=ug he;exact(h i e hi).1
  .rw[kX,pM,uj];intro i j hi hj hij e;refine(h j _ (dD hj)).2 ?_;rw[<-e];exact mF (Kd.2 ⟨i,aa,rfl⟩)
 .rintro⟨h1,h2⟩ i e hi;refine⟨h1 e (mE hi),λhm=> ?_⟩;obtain⟨e',he',hk⟩:=cP.1 hm;obtain⟨j,hj,rfl⟩:=Kd.1 he';obtain⟨hi',rfl⟩:=fu.1 hi;rw[kX,pM,uj]at h2;exact h2 j i aa hi' aa hk
def DG(s:dJ):(kL s).key=(0,sI s.x,(s.v:Int)):=rfl
def Ay(x:Bool)(i:Nat):(iQ x i).key=(1,sI x,(i:Int)):=rfl
def alv(H:qe g outs){s:dJ}:((oW outs s).map Ev.key).Nodup:=by
 simp only[oW,dI,rC,gC];refine⟨λh=> ?_,?_⟩
 .obtain⟨i,_,e⟩:=cP.1 h;simp[Ay,DG]at e
 .rw[kX,pM];refine(kX.1 (H.nd s.x s.v)).imp λ{a b} hne e=>hne ?_;exact gU (by simpa[Ay]using e)
def W4(H:qe g outs)(hv:∀s∈st,s.v<g.n)(hn:(st.map λs=>(s.x,s.v)).Nodup):oV g.n g.aj.length (dg outs st):=by
 rw[W3];refine⟨alu H hv,?_⟩;clear hv
 induction st with
 |nil=>simp[dg]
 | cons s st ih=>
  simp only[dI,gC]at hn;rw[Iw,fq,kq];refine⟨alv H,ih hn.2,λa ha b hb e=>hn.1 ?_⟩;subst e;obtain⟨e1,h1,rfl⟩:=cP.1 ha;obtain⟨e2,h2,hk⟩:=cP.1 hb;obtain⟨s',hs',h2⟩:=Iz.1 h2;simp only[oW,cV,cP]at h1;refine cP.2 ⟨s',hs',?_⟩;rcases h1 with rfl|⟨i,hi,rfl⟩<;>rcases h2 with rfl|⟨j,hj,rfl⟩
  .simp only[DG,mO,DF,rB]at hk;rw[hk.1,gU hk.2]
  .simp[DG,Ay]at hk
  .simp[DG,Ay]at hk
  .simp only[Ay,mO,DF,rB]at hk;obtain⟨hx,hk⟩:=hk;have hk:=gU hk;have e1:=(H.mem _ _ _ hi).2;have e2:=(H.mem _ _ _ hj).2;rw[hk,hx,e1]at e2;rw[hx,e2]
def alx{q:List Ev}{side:Int}(h:∀e∈q,e.kind≠0):j4 (l++q) side=j4 l side:=by
 unfold j4;rw[jP]
 induction q generalizing l with
 |nil=>rfl
 |cons e q ih=>rw[kS,aQ λhh=>h e cN hh.1];exact ih λe he=>h e (cZ _ he)
def aly(H:qe g outs){s:dJ}(hv:s.v<g.n)(h:ob g l){k:Nat}:ob g (l++(oW outs s).take k):=by
 intro i e he;by_cases hi:i<l.length
 .rw[aqM hi]at he;have :=h i e he;rw[qt aa];exact this
 .rw [List.getElem?_append_right (by omega)]at he;obtain⟨j,rfl⟩:∃j,i=l.length+j:=⟨i-l.length,aa⟩;rw[wh]at he;rw[Ke];have hj:j<k:=by
   have :=(fu.1 he).1;rw[dO]at this;omega
  rw[uf hj]at he;rw[yZ,iY aa];cases j with
  |zero=>
   have :e=kL s:=by simpa[oW]using he.symm
   subst this;exact⟨W1 hv,λhk=>absurd rfl hk⟩
  | succ j=>
   have he:((outs s.x s.v).map (iQ s.x))[j]? =some e:=he;rw[pK]at he;cases ho:(outs s.x s.v)[j]? with
   |none=>rw[ho]at he;cases he
   | some a=>
    rw[ho]at he;obtain rfl:=eV he;obtain⟨h1,h2⟩:=H.mem _ _ _ (mE ho);refine⟨W2 h1,λ_=> ?_⟩;show j4 (l++kL s::((outs s.x s.v).map (iQ s.x)).take j) (sI s.x)=_;rw[show l++kL s::((outs s.x s.v).map (iQ s.x)).take j=(l++ [kL s])++((outs s.x s.v).map (iQ s.x)).take j by simp];rw[alx (by intro e he;obtain⟨i,_,rfl⟩:=cP.1 (lK he);show(1:Int)≠0;decide),Is,aW ⟨rfl,rfl⟩]
    have h3:g.aj[a]? =some (aH g.aj a):=by simp[aH,h1]
    show(s.v:Int)=match g.aj[((a:Int)).toNat]? with
     |some b=>if sI s.x=1 then(b.t:Int)else(b.f:Int)
     |none=>0
    rw[fL,h3];dsimp only;rw[<-h2];cases s.x<;>rfl
def W5(H:qe g outs):∀{st:List dJ}{l:List Ev},(∀s∈st,s.v<g.n)->ob g l->ob g (l++dg outs st)
 | [],l,_,h=>by rw[als,eO];exact h
 |s::st,l,hv,h=>by rw[Iw,<-c7];refine W5 H (λs hs=>hv s (cZ _ hs)) ?_;have :=aly H (hv s cN) h (k:=(oW outs s).length);rwa[fF]at this
def W6(H:qe g outs)(hv:∀s∈st,s.v<g.n):ob g (dg outs st):=by
 have :=W5 (l:=[]) H hv λi e h=>by simp at h
 rwa[sN]at this
def ob.take(h:ob g l)(k:Nat):ob g (l.take k):=by
 intro i e he;have hi:i<k:=by have :=(fu.1 he).1;rw[dO]at this;omega
 rw[uf hi]at he;rw[yZ,iY aa];exact h i e he
def oV.take{n m:Nat}(h:oV n m l)(k:Nat):oV n m (l.take k):=by
 intro i e he;have hi:i<k:=by have :=(fu.1 he).1;rw[dO]at this;omega
 rw[uf hi]at he;rw[yZ,iY aa];exact h i e he
def lZ(x:Bool)(st:List dJ):List dJ:=st.filter λs=>decide (s.x=x)
def IA{x:Bool}{s:dJ}{st:List dJ}:lZ x (s::st)=if decide (s.x=x)=true then s::lZ x st else lZ x st:=by unfold lZ;rw[wu]
def W7{x:Bool}{a b:List dJ}:lZ x (a++b)=lZ x a++lZ x b:=mD ..
def xU{x:Bool}{s:dJ}{st:List dJ}:s∈lZ x st↔s∈st/\s.x=x:=by simp[lZ]
end
def alC{st:List dJ}(h:∀x,((lZ x st).map dJ.v).Nodup):(st.map λs=>(s.x,s.v)).Nodup:=by
 induction st with
 |nil=>simp
 | cons s st ih=>
  rw[dI,gC];refine⟨λhm=> ?_,ih λx=> ?_⟩
  .obtain⟨s',hs',e⟩:=cP.1 hm;simp only[mO]at e;have :=h s.x;rw[IA,aW aP,dI,gC]at this;exact this.1 (cP.2 ⟨s',xU.2 ⟨hs',e.1⟩,e.2⟩)
  .have :=h x;rw[IA]at this;split at this
   .rw[dI,gC]at this;exact this.2
   .exact this
def W9{g:G}{x:Bool}{v:Nat}:(iH g x v).length<=g.aj.length:=by
 cases x
 .exact kR (yE (zR _ _ _)) yQ
 .exact kR (yE (zR _ _ _)) yQ
def Xa{x:Bool}{a:List dJ}(h:∀s∈a,s.x=x):lZ x a=a:=Bn.2 λs hs=>by simpa using h s hs
def Xb{x:Bool}{a:List dJ}(h:∀s∈a,s.x≠x):lZ x a=[]:=BC.2 λs hs=>by simpa using h s hs
structure Qs where
 g:G
 s:Nat
 t:Nat
 allow:List Bool
 pi:List Int
namespace Qs
variable(Q:Qs)
def cQ(v:Nat):Bool:=Q.pi.isEmpty||(decide (-aN<Q.pi.getD v 0)&&decide (Q.pi.getD v 0<aN))
def j5(i:Nat):Bool:=Q.allow.isEmpty||Q.allow.getD i false
def ok(i:Nat):Bool:=Q.j5 i&&(Q.cQ (aH Q.g.aj i).f&&Q.cQ (aH Q.g.aj i).t)
def p(v:Nat):Int:=Q.pi.getD v 0
def cH(x:Bool)(v:Nat):Int:=if x then - Q.p v else Q.p v
def src(x:Bool):Nat:=if x then Q.t else Q.s
def aqH:Prop:=∀i,i<Q.g.aj.length->Q.ok i=true->Q.p (aH Q.g.aj i).f<=Q.p (aH Q.g.aj i).t+2*(aH Q.g.aj i).w
def outs(x:Bool)(v:Nat):List Nat:=(iH Q.g x v).filter Q.j5
structure Ok:Prop where
 r:Q.g.Right
 s:Q.s<Q.g.n
 t:Q.t<Q.g.n
 allow:Q.allow=[]\/Q.allow.length=Q.g.aj.length
 pi:Q.pi=[]\/Q.pi.length=Q.g.n
end Qs
def Qs.xV{Q:Qs}{i:Nat}{x:Bool}:Q.ok i=true↔Q.j5 i=true/\Q.cQ (dH x (aH Q.g.aj i))=true/\Q.cQ (dz x (aH Q.g.aj i))=true:=by
 unfold Qs.ok;cases x
 .simp[dH,dz]
 .simp only[dH,dz,e7,gb];exact⟨λh=>⟨h.1,h.2.2,h.2.1⟩,λh=>⟨h.1,h.2.2,h.2.1⟩⟩
def Qs.IB{Q:Qs}(h:Q.aqH){i:Nat}(hi:i<Q.g.aj.length)(ho:Q.ok i=true)(x:Bool):Q.cH x (dH x (aH Q.g.aj i))<=Q.cH x (dz x (aH Q.g.aj i))+2*(aH Q.g.aj i).w:=by
 have :=h i hi ho;cases x
 .exact this
 .show - Q.p (aH Q.g.aj i).t<= - Q.p (aH Q.g.aj i).f+_;omega
def Qs.Az{Q:Qs}{v:Nat}(h:Q.cQ v=true): -aN<Q.p v/\Q.p v<aN:=by
 unfold Qs.cQ at h;unfold Qs.p;cases hp:Q.pi with
 |nil=>simp[aN]
 |cons a l=>rw[hp]at h;simpa using h
structure BW where
 sd:Bool->BS
 ev:List Ev
 aM:Int
 meet:Int
def fN(f:Bool->BS)(x:Bool)(b:BS):Bool->BS:=λy=>if y=x then b else f y
def nk{f:Bool->BS}{x:Bool}{b:BS}:fN f x b x=b:=aW rfl
def qT{f:Bool->BS}{x:Bool}{b:BS}:fN f x b (!x)=f (!x):=aQ (by cases x<;>decide)
def AA{f:Bool->BS}{x y:Bool}{b:BS}(h:y≠x):fN f x b y=f y:=aQ h
def BW.near(S:BW)(x:Bool)(v:Nat)(d:Int):Option Int:=match(S.sd !x).lab v with
 |some m=>if d+m<S.aM then some (d+m)else none
 |none=>none
def Qs.put(Q:Qs)(S:BW)(x:Bool)(v:Nat)(a d:Int):BW:=⟨fN S.sd x ((S.sd x).put (Q.cH x) v a d),S.ev,(S.near x v d).getD S.aM,if(S.near x v d).isSome then(v:Int)else S.meet⟩
def Qs.reach(Q:Qs)(S:BW)(x:Bool)(v:Nat)(a d:Int):BW:=if(S.sd x).takes Q.cQ v d then Q.put S x v a d else S
def Xc{S:BW}{x:Bool}{v:Nat}{d:Int}:(S.near x v d).getD S.aM<=S.aM:=by
 unfold BW.near;split
 .split
  .rw[e8];omega
  .exact dQ _
 .exact dQ _
abbrev Qs.DH(Q:Qs)(x:Bool)(b:BS)(B:Int):Prop:=SI Q.g.aj (dH x) (dz x) Q.ok Q.g.n (Q.src x) Q.cQ (Q.cH x) Q.aqH b B
structure BI(Q:Qs)(S:BW)(B:Bool->Int):Prop where
 si:∀x,Q.DH x (S.sd x) (B x)
 c1:∀x(u:Nat) d d',(S.sd x).lab u=some d->(S.sd !x).lab u=some d'->S.aM<=d+d'
 c2:S.aM=aN\/∃(u:Nat)(d0 d1:Int),S.meet=u/\(S.sd false).lab u=some d0/\(S.sd true).lab u=some d1/\S.aM=d0+d1
 c3:S.aM<=aN
section
variable{Q:Qs}{S:BW}{B:Bool->Int}
def BI.put(H:BI Q S B){x:Bool}{v:Nat}{a d:Int}(hsi:Q.DH x ((S.sd x).put (Q.cH x) v a d) (B x))(f:∀was,(S.sd x).lab v=some was->d<was):BI Q (Q.put S x v a d) B:=by
 have b:∀z,((Q.put S x v a d).sd x).lab z=if z=(v:Int)then some d else(S.sd x).lab z:=λz=>by show(fN S.sd x _ x).lab z=_;rw[nk];rfl
 have c:∀z,((Q.put S x v a d).sd (!x)).lab z=(S.sd (!x)).lab z:=λz=>by show(fN S.sd x _ (!x)).lab z=_;rw[qT]
 have i:∀m,(S.sd (!x)).lab v=some m->(Q.put S x v a d).aM<=d+m:=λm hm=>by
  show(S.near x v d).getD S.aM<=_;unfold BW.near;rw[hm];dsimp only;split
  .rw[e8];exact dQ _
  .rw[mR];omega
 have key:∀(u:Nat) e e',((Q.put S x v a d).sd x).lab u=some e->((Q.put S x v a d).sd (!x)).lab u=some e'->(Q.put S x v a d).aM<=e+e':=by
  intro u e e' h1 h2;rw[b]at h1;rw[c]at h2;split at h1
  .rename_i he;obtain rfl:=gU he;obtain rfl:=eV h1;exact i _ h2
  .exact yT Xc (H.c1 x u e e' h1 h2)
 refine⟨λy=> ?_,λy u e e' h1 h2=> ?_,?_,yT Xc H.c3⟩
 .by_cases h:y=x
  .subst h;show Q.DH y (fN S.sd y _ y) (B y);rw[nk];exact hsi
  .show Q.DH y (fN S.sd x _ y) (B y);rw[AA h];exact H.si y
 .by_cases h:y=x
  .subst h;exact key u e e' h1 h2
  .have hy:y= !x:=by cases x<;>cases y<;>simp_all
   subst hy;rw[Bool.not_not]at h2;have :=key u e' e h2 h1;omega
 .cases hn:S.near x v d with
  | some z=>
   right;have hn0:=hn;unfold BW.near at hn;cases hm:(S.sd (!x)).lab v with
   |none=>rw[hm]at hn;cases hn
   | some m=>
    rw[hm]at hn;dsimp only at hn;split at hn
    .rename_i hlt;obtain rfl:=eV hn;have hd:(Q.put S x v a d).aM=d+m:=by
      show(S.near x v d).getD S.aM=_;rw[hn0];rfl
     have hme:(Q.put S x v a d).meet=(v:Int):=by show(if(S.near x v d).isSome=true then(v:Int)else S.meet)=_;rw[hn0];rfl
     have l1:((Q.put S x v a d).sd x).lab v=some d:=by rw[b,aW rfl]
     have l2:((Q.put S x v a d).sd (!x)).lab v=some m:=by rw[c];exact hm
     cases x
     .exact⟨v,d,m,hme,l1,l2,hd⟩
     .exact⟨v,m,d,hme,l2,l1,aa⟩
    .cases hn
  | none=>
   have hd:(Q.put S x v a d).aM=S.aM:=by show(S.near x v d).getD S.aM=_;rw[hn];rfl
   have hme:(Q.put S x v a d).meet=S.meet:=by show(if(S.near x v d).isSome=true then(v:Int)else S.meet)=_;rw[hn];rfl
   rw[hd,hme];refine H.c2.imp id λ⟨u,d0,d1,h1,h2,h3,h4⟩=>⟨u,d0,d1,h1,?_⟩;have hne:u≠v:=λe=>by
    subst e;unfold BW.near at hn;cases x
    .rw[show(!false)=true from rfl,h3]at hn;dsimp only at hn;have :=f d0 h2;rw[aW aa]at hn;cases hn
    .rw[show(!true)=false from rfl,h2]at hn;dsimp only at hn;have :=f d1 h3;rw[aW aa]at hn;cases hn
   have g:¬(u:Int)=(v:Int):=λe=>hne (gU e);cases x
   .refine⟨?_,?_,h4⟩
    .rw[b,aQ g];exact h2
    .rw[show true= !false from rfl,c];exact h3
   .refine⟨?_,?_,h4⟩
    .rw[show false= !true from rfl,c];exact h2
    .rw[b,aQ g];exact h3
def l8{cQ:Nat->Bool}{b:BS}{v:Nat}{d:Int}:b.takes cQ v d=true↔cQ v=true/\v∉b.ord/\∀was,b.lab v=some was->d<was:=by
 unfold BS.takes;cases b.lab v with
 |none=>simp
 |some w=>simp
def BW.zero:BW:=⟨λ_=>BS.zero,[],aN,0⟩
def Qs.start(Q:Qs):BW:=Q.reach (Q.reach BW.zero false Q.s (-1) 0) true Q.t (-1) 0
def BI.zero:BI Q BW.zero λ_=>0:=⟨λx=>SI.start,λx u d d' h=>by simp[BW.zero,BS.zero]at h,.inl rfl,dQ _⟩
def BI.first(H:BI Q S λ_=>0)(hQ:Q.Ok){x:Bool}(he:S.sd x=BS.zero):BI Q (Q.reach S x (Q.src x) (-1) 0) (λ_=>0)/\
  (Q.cQ (Q.src x)=true->((Q.reach S x (Q.src x) (-1) 0).sd x).lab (Q.src x)=some 0)/\(Q.reach S x (Q.src x) (-1) 0).sd (!x)=S.sd (!x)/\((Q.reach S x (Q.src x) (-1) 0).sd x).ord=[]/\(Q.reach S x (Q.src x) (-1) 0).ev=S.ev:=by
 unfold Qs.reach;by_cases ht:(S.sd x).takes Q.cQ (Q.src x) 0=true
 .rw[aW ht];have hs:Q.src x<Q.g.n:=match x with|false=>hQ.s|true=>hQ.t
  have ho:=(l8.1 ht).1;refine⟨H.put ?_ (l8.1 ht).2.2,λ_=> ?_,?_,?_,rfl⟩
  .rw[he];refine SI.start.put hs ho (by simp[BS.zero]) (dQ _) (dQ _) ⟨[],.nil ?_,aP⟩ (λ_ c hc=>by simp[BS.zero]at hc) (λ_=>rfl) λ_=>rfl;show(if _ then _ else _)=_;rw[aW rfl]
  .show(fN S.sd x _ x).lab _=_;rw[nk];show(if _ then _ else _)=_;rw[aW rfl]
  .show fN S.sd x _ (!x)=_;rw[qT]
  .show(fN S.sd x _ x).ord=_;rw[nk,he];rfl
 .rw[aQ ht];refine⟨H,λho=>absurd (l8.2 ⟨ho,?_,?_⟩) ht,rfl,by rw[he];rfl,rfl⟩
  .rw[he];simp[BS.zero]
  .rw[he];intro was h;simp[BS.zero]at h
structure BW.Le(x:Bool)(S S':BW):Prop where
 xW:S'.sd (!x)=S.sd (!x)
 ord:(S'.sd x).ord=(S.sd x).ord
 low:∀z d,(S.sd x).lab z=some d->∃d',d'<=d/\(S'.sd x).lab z=some d'
 same:∀c∈(S.sd x).ord,(S'.sd x).lab (c:Int)=(S.sd x).lab c
def BW.Le.refl{x:Bool}:BW.Le x S S:=⟨rfl,rfl,λz d h=>⟨d,dQ _,h⟩,λ_ _=>rfl⟩
def BW.Le.trans{x:Bool}{S' e:BW}(a:BW.Le x S S')(b:BW.Le x S' e):BW.Le x S e:=
 ⟨b.xW.trans a.xW,b.ord.trans a.ord,λz d h=>by obtain⟨d',h1,h2⟩:=a.low z d h;obtain⟨d'',h3,h4⟩:=b.low z d' h2;exact⟨d'',aa,h4⟩,λc hc=>(b.same c (by rw[a.ord];exact hc)).trans (a.same c hc)⟩
def Rx(Q:Qs)(S:BW)(x:Bool)(i:Nat):Prop:=∃d',(S.sd x).lab (dz x (aH Q.g.aj i))=some d'/\(Q.aqH->∀dv,(S.sd x).lab (dH x (aH Q.g.aj i))=some dv->d'<=dv+(aH Q.g.aj i).w)
def Rx.le{x:Bool}{i:Nat}{S':BW}(h:Rx Q S x i)(a:BW.Le x S S')(ho:dH x (aH Q.g.aj i)∈(S.sd x).ord):Rx Q S' x i:=by obtain⟨d',h1,h2⟩:=h;obtain⟨d'',h3,h4⟩:=a.low _ _ h1;refine⟨d'',h4,λhF dv hv=> ?_⟩;rw[a.same _ ho]at hv;have :=h2 hF dv hv;omega
def Qs.iw(Q:Qs)(x:Bool)(v:Nat)(S:BW)(i:Nat):BW:=if Q.j5 i then Q.reach {S with ev:=S.ev++ [iQ x i]} x (dz x (aH Q.g.aj i)) i ((((S.sd x).lab v).getD 0)+(aH Q.g.aj i).w)else S
def BI.ev(H:BI Q S B)(ev:List Ev):BI Q {S with ev:=ev} B:=⟨H.si,H.c1,H.c2,H.c3⟩
def Xd{x:Bool}{v:Nat}{a d:Int}:(Q.reach S x v a d).ev=S.ev:=by unfold Qs.reach;split<;>rfl
def BI.iw(H:BI Q S B)(hQ:Q.Ok){x:Bool}{v i:Nat}{dv:Int}(hv:v∈(S.sd x).ord)(b:(S.sd x).lab v=some dv)(m:Q.aqH->∀c∈(S.sd x).ord,∀dc,(S.sd x).lab (c:Int)=some dc->2*dc+Q.cH x c<=2*dv+Q.cH x v)
  (hi:i<Q.g.aj.length) (ht:dH x (aH Q.g.aj i)=v) (hB:dv+(aH Q.g.aj i).w<=B x) (hz:Q.cQ (Q.src x)=true->(S.sd x).lab (Q.src x)=some 0):
  BI Q (Q.iw x v S i) B/\BW.Le x S (Q.iw x v S i)/\(Q.ok i=true->Rx Q (Q.iw x v S i) x i)/\(Q.iw x v S i).ev=S.ev++(if Q.j5 i=true then[iQ x i]else[]):=by
 unfold Qs.iw;by_cases ha:Q.j5 i=true
 .rw [if_pos ha,if_pos ha,Xd,b,Option.getD_some];have o:dz x (aH Q.g.aj i)<Q.g.n:=by
   have :=hQ.r.ends _ (jf hi);cases x
   .exact this.2.1
   .exact this.1
  have h0:0<=dv:=by obtain⟨_,_,_,_,h,_⟩:=(H.si x).lab _ _ b;exact h
  have p:Q.cQ v=true:=((H.si x).WY v hv).2;unfold Qs.reach;by_cases hk:BS.takes Q.cQ (S.sd x) (dz x (aH Q.g.aj i)) (dv+(aH Q.g.aj i).w)=true
  .rw [if_pos hk];obtain⟨ho,hno,j⟩:=l8.1 hk;have hok:Q.ok i=true:=(Qs.xV (x:=x)).2 ⟨ha,by rw[ht];exact p,ho⟩;have k:∀z,((Q.put {S with ev:=S.ev++ [iQ x i]} x (dz x (aH Q.g.aj i)) i (dv+(aH Q.g.aj i).w)).sd x).lab z=if z=((dz x (aH Q.g.aj i):Nat):Int)then some (dv+(aH Q.g.aj i).w:Int)else(S.sd x).lab z:=λz=>by
    show(fN S.sd x _ x).lab z=_;rw[nk];rfl
   have hsame:∀c∈(S.sd x).ord,((Q.put {S with ev:=S.ev++ [iQ x i]} x (dz x (aH Q.g.aj i)) i (dv+(aH Q.g.aj i).w)).sd x).lab (c:Int)=(S.sd x).lab c:=λc hc=>by rw[k,aQ λe=>hno (by rw[<-gU e];exact hc)]
   refine⟨BI.put (H.ev _) ?_ j,⟨?_,?_,λz d l=> ?_,hsame⟩,λ_=>⟨_,by rw[k,aW rfl],λhF f a=> ?_⟩,rfl⟩
   .refine(H.si x).put o ho hno aa hB ?_ ?_ ?_ ?_
    .obtain⟨r,h1,h2⟩:=(H.si x).bk v dv b;rw[aW hv]at h2;refine⟨i::r,.cons ?_ hi hok (by rw[ht];exact hv) ?_,?_⟩
     .show(if _ then _ else _)=_;rw[aW rfl]
     .have kp:∀w∈(S.sd x).ord,(BS.put (Q.cH x) (S.sd x) (dz x (aH Q.g.aj i)) (i:Int) (dv+(aH Q.g.aj i).w)).bS (w:Int)=(S.sd x).bS w:=λw hw=>by
       show(if(w:Int)=_ then _ else(S.sd x).bS w)=_;rw[aQ λe=>hno (by rw[<-gU e];exact hw)]
      rw[ht];exact h1.keep kp (λ_ h=>h) (kp v hv)
     .have :=sR hv;rw[fO];omega
    .intro hF c hc dc hdc;have h1:=m hF c hc dc hdc;have h2:=Qs.IB hF hi hok x;rw[ht]at h2;omega
    .intro e;have hs:=hz (by rw[<-e];exact ho);rw[<-e]at hs;have :=j 0 hs;omega
    .intro e;rw[e]at hv;cases hv
   .show fN S.sd x _ (!x)=_;rw[qT]
   .show(fN S.sd x _ x).ord=_;rw[nk];rfl
   .rw[k];split
    .rename_i e;rw[e]at l;have :=j d l;exact⟨_,aa,rfl⟩
    .exact⟨d,dQ _,l⟩
   .rw[ht,hsame v hv,b]at a;obtain rfl:=eV a;exact dQ _
  .rw[aQ hk];refine⟨H.ev _,⟨rfl,rfl,λz d h=>⟨d,dQ _,h⟩,λ_ _=>rfl⟩,λhok=> ?_,rfl⟩;have ho:=((Qs.xV (x:=x)).1 hok).2.2;by_cases hm:dz x (aH Q.g.aj i)∈(S.sd x).ord
   .obtain⟨d',hd'⟩:=(H.si x).Aw _ hm;refine⟨d',hd',λhF f a=> ?_⟩;have a:(S.sd x).lab (dH x (aH Q.g.aj i))=some f:=a;rw[ht,b]at a;obtain rfl:=eV a;have h1:=m hF _ hm _ hd';have h2:=Qs.IB hF hi hok x;rw[ht]at h2;omega
   .cases hl:(S.sd x).lab (dz x (aH Q.g.aj i))with
    |none=>exact absurd (l8.2 ⟨ho,hm,λwas h=>by rw[hl]at h;cases h⟩) hk
    |some was=>
     refine⟨was,hl,λhF f a=> ?_⟩;have a:(S.sd x).lab (dH x (aH Q.g.aj i))=some f:=a;rw[ht,b]at a;obtain rfl:=eV a;rcases Int.lt_or_le (dv+(aH Q.g.aj i).w) was with h|h
     .exact absurd (l8.2 ⟨ho,hm,λq h'=>by rw[hl]at h';rw[<-eV h'];exact h⟩) hk
     .exact h
 .rw[aQ ha,aQ ha,eO];exact⟨H,.refl,λhok=>absurd ((Qs.xV (x:=x)).1 hok).1 ha,rfl⟩
def Qs.scan(Q:Qs)(x:Bool)(v:Nat)(S:BW)(ids:List Nat):BW:=ids.foldl (Q.iw x v) S
def BI.scan(hQ:Q.Ok){x:Bool}{v:Nat}{dv:Int}(hB:dv+W<=B x):∀{ids:List Nat}{S:BW},BI Q S B->v∈(S.sd x).ord->(S.sd x).lab v=some dv->
  (Q.aqH->∀c∈(S.sd x).ord,∀dc,(S.sd x).lab (c:Int)=some dc->2*dc+Q.cH x c<=2*dv+Q.cH x v)->(∀i∈ids,i<Q.g.aj.length/\dH x (aH Q.g.aj i)=v)->(Q.cQ (Q.src x)=true->(S.sd x).lab (Q.src x)=some 0)->
  BI Q (Q.scan x v S ids) B/\BW.Le x S (Q.scan x v S ids)/\(∀i∈ids,Q.ok i=true->Rx Q (Q.scan x v S ids) x i)/\(Q.scan x v S ids).ev=S.ev++(ids.filter Q.j5).map (iQ x)/\(Q.cQ (Q.src x)=true->((Q.scan x v S ids).sd x).lab (Q.src x)=some 0)
 | [],S,H,_,_,_,_,hz=>⟨H,.refl,λi h=>absurd h uo,(eO _).symm,hz⟩
 | i::ids,S,H,hv,a,b,d,hz=>by
  obtain⟨hi,ht⟩:=d i cN;have hw:((aH Q.g.aj i).w:Int)<=W:=by have :=(hQ.r.ends _ (jf hi)).2.2;show((aH Q.g.aj i).w:Int)<=2147483647;omega
  obtain⟨h1,h2,h3,h4⟩:=H.iw hQ hv a b hi ht aa hz;have f:Q.cQ (Q.src x)=true->((Q.iw x v S i).sd x).lab (Q.src x)=some 0:=λho=>by obtain⟨d',e1,e2⟩:=h2.low _ _ (hz ho);rw[e2,(h1.si x).zero d' e2]
  have e:v∈((Q.iw x v S i).sd x).ord:=by rw[h2.ord];exact hv
  have k:((Q.iw x v S i).sd x).lab v=some dv:=(h2.same v hv).trans a;obtain⟨g1,g2,g3,g4,g5⟩:=BI.scan hQ hB (ids:=ids) h1 e k (λhF c hc dc hdc=>by rw[h2.ord]at hc;rw[h2.same c hc]at hdc;exact b hF c hc dc hdc) (λj hj=>d j (cZ _ hj)) f
  refine⟨g1,h2.trans g2,λj hj hok=> ?_,?_,g5⟩
  .rcases cV.1 hj with rfl|hj
   .exact(h3 hok).le g2 (by rw[ht];exact e)
   .exact g3 j hj hok
  .show(Q.scan x v (Q.iw x v S i) ids).ev=_;rw[g4,h4,wu];split
   .simp
   .simp
end
open Go
def Way.cat{l:List A}{tl hd:A->Nat}{s u v:Nat}{d e:Int}(h:Way l tl hd s u d)(h':Way l tl hd u v e):Way l tl hd s v (d+e):=by
  induction h' with
  |nil=>rw[yV];exact h
  |step a _ hm ht ih=>rw[<-Bt];exact .step a ih hm ht
def Way.rev{l:List A}{tl hd:A->Nat}{s v:Nat}{d:Int}(h:Way l tl hd s v d):Way l hd tl v s d:=by
  induction h with
  |nil=>exact .nil
  | step a _ hm ht ih=>rename_i v d _;have h1:Way l hd tl (hd a) (tl a) (0+a.w):=.step a .nil hm rfl;rw[ht]at h1;have :=h1.cat ih;rw[show 0+(a.w:Int)+d=d+a.w by omega]at this;exact this
def Qs.H(Q:Qs):List A:=((List.range Q.g.aj.length).filter Q.ok).map (aH Q.g.aj)
section
variable{Q:Qs}{S:BW}
def sq{a:A}:a∈Q.H↔∃i,i<Q.g.aj.length/\Q.ok i=true/\aH Q.g.aj i=a:=by simp only[Qs.H,cP,gL,jw];exact⟨λ⟨i,⟨a,b⟩,c⟩=>⟨i,a,b,c⟩,λ⟨i,a,b,c⟩=>⟨i,⟨a,b⟩,c⟩⟩
def IC{x:Bool}{s v:Nat}{d:Int}(h:Way Q.H (dH x) (dz x) s v d):v=s\/(Q.cQ s=true/\Q.cQ v=true):=by
  induction h with
  |nil=>exact .inl rfl
  | step a _ hm ht ih=>
    obtain⟨i,hi,ho,rfl⟩:=sq.1 hm;obtain⟨_,h1,h2⟩:=(Qs.xV (x:=x)).1 ho;right;rcases ih with e|e
    · exact⟨by rw[<-e,<-ht];exact h1,h2⟩
    · exact⟨e.1,h2⟩
def Xe(hF:Q.aqH){x:Bool}{s v:Nat}{d:Int}(h:Way Q.H (dH x) (dz x) s v d):Q.cH x s<=Q.cH x v+2*d:=by
  induction h with
  |nil=>omega
  | step a _ hm ht ih=>obtain⟨i,hi,ho,rfl⟩:=sq.1 hm;have :=Qs.IB hF hi ho x;rw[ht]at this;omega
def alD{x:Bool}{s v:Nat}{d:Int}(h:Way Q.H (dH x) (dz x) s v d):Way Q.H (dH (!x)) (dz (!x)) v s d:=by
  cases x
  · exact h.rev
  · exact h.rev
def Bk.way{x:Bool}{bS:Int->Option Int}{ord:List Nat}{u:Nat}{r:List Nat}{d:Int}(h:Bk Q.g.aj (dH x) (dz x) Q.ok bS ord (Q.src x) u r d):Way Q.H (dH x) (dz x) (Q.src x) u d:=by
  induction h with
  |nil=>exact .nil
  |cons _ hi ho _ _ ih=>exact .step _ ih (sq.2 ⟨_,hi,ho,rfl⟩) rfl
def Bk.all{x:Bool}{bS:Int->Option Int}{ord:List Nat}{u:Nat}{r:List Nat}{d:Int}(h:Bk Q.g.aj (dH x) (dz x) Q.ok bS ord (Q.src x) u r d):dm Q.g.aj r=d/\∀i∈r,i<Q.g.aj.length/\Q.ok i=true:=by
  induction h with
  |nil=>exact⟨rfl,λi h=>absurd h uo⟩
  | cons _ hi ho _ _ ih=>
    refine⟨by rw[lq,ih.1];omega,λj hj=> ?_⟩;rcases cV.1 hj with rfl|hj
    · exact⟨hi,ho⟩
    · exact ih.2 j hj
def Bk.alE{bS:Int->Option Int}{ord:List Nat}{u:Nat}{r:List Nat}{d:Int}(h:Bk Q.g.aj (dH true) (dz true) Q.ok bS ord (Q.src true) u r d):Trail Q.g.aj u r Q.t:=by
  induction h with
  |nil=>exact rfl
  |cons _ hi _ _ _ ih=>exact⟨hi,rfl,ih⟩
def Bk.alF{bS:Int->Option Int}{ord:List Nat}{u:Nat}{r:List Nat}{d:Int}(h:Bk Q.g.aj (dH false) (dz false) Q.ok bS ord (Q.src false) u r d):Trail Q.g.aj Q.s r.reverse u:=by
  induction h with
  |nil=>exact rfl
  | cons _ hi _ _ _ ih=>rw[yO];exact ih.append ⟨hi,rfl,rfl⟩
def BW.next(S:BW):Option Bool:=match least (S.sd false).hp,least (S.sd true).hp with
  |some p,some q=>if 2*S.aM<=p.2+q.2 then none else if p.2<=q.2 then some false else some true
  |_,_=>none
def Qs.pop(Q:Qs)(x:Bool)(p:HP)(S:BW):BW:={S with sd:=fN S.sd x ((S.sd x).pop p.1.toNat p.2),ev:=S.ev++ [kL ⟨x,p.1.toNat,((S.sd x).lab p.1).getD 0⟩]}
def Qs.step(Q:Qs)(x:Bool)(S:BW):BW:=match least (S.sd x).hp with
  |some p=>Q.scan x p.1.toNat (Q.pop x p S) (iH Q.g x p.1.toNat)
  |none=>S
def Qs.run (Q:Qs):Nat->BW->BW
  |0,S=>S
  | k+1,S=>match S.next with
    |none=>S
    |some x=>Q.run k (Q.step x S)
structure WO(Q:Qs)(S:BW)(st:List dJ):Prop where
  bi:BI Q S (λx=>(S.sd x).ord.length*W)
  z:∀x,Q.cQ (Q.src x)=true->(S.sd x).lab (Q.src x)=some 0
  r:∀x i,i<Q.g.aj.length->Q.ok i=true->dH x (aH Q.g.aj i)∈(S.sd x).ord->Rx Q S x i
  ev:S.ev=dg Q.outs st
  s1:∀x,(lZ x st).map dJ.v=(S.sd x).ord
  s2:∀e∈st,(S.sd e.x).lab e.v=some e.d
  s3:Q.aqH->∀x,(lZ x st).Pairwise λa b=>2*a.d+Q.cH x a.v<=2*b.d+Q.cH x b.v
  s4:Q.s≠Q.t->Q.aqH->∀e∈st,∀D,Way Q.H A.f A.t Q.s Q.t D->2*e.d+Q.cH e.x e.v<=D
def WO.ID{st:List dJ}(R:WO Q S st)(hF:Q.aqH){x:Bool}(ho:Q.cQ (Q.src x)=true){u:Nat}{D:Int}(h:Way Q.H (dH x) (dz x) (Q.src x) u D):
    (u∈(S.sd x).ord/\∃d,(S.sd x).lab u=some d/\d<=D)\/
    ∃(w:Nat)(b c:Int),w∉(S.sd x).ord/\(S.sd x).lab w=some b/\((w:Int),2*b+Q.cH x w)∈(S.sd x).hp/\Way Q.H (dH x) (dz x) w u c/\b+c<=D:=by
  have lb:∀(w:Nat)(b D:Int),(S.sd x).lab w=some b->b<=D->(w∈(S.sd x).ord/\∃d,(S.sd x).lab w=some d/\d<=D)\/
      ∃(w':Nat)(b c:Int),w'∉(S.sd x).ord/\(S.sd x).lab w'=some b/\((w':Int),2*b+Q.cH x w')∈(S.sd x).hp/\Way Q.H (dH x) (dz x) w' w c/\b+c<=D:=λw b D hl hle=>by
    obtain⟨w',e,_,_,_,_,hh⟩:=(R.bi.si x).lab _ _ hl;obtain rfl:=gU e;by_cases hw:w∈(S.sd x).ord
    · exact .inl ⟨hw,b,hl,hle⟩
    · exact .inr ⟨w,b,0,hw,hl,hh.resolve_left hw,.nil,aa⟩
  induction h with
  |nil=>exact lb _ _ _ (R.z x ho) (dQ _)
  | step a _ hm ht ih=>
    rcases ih with ⟨h1,d,h2,h3⟩|⟨w,b,c,h1,h2,h3,h4,h5⟩
    · obtain⟨i,hi,hok,rfl⟩:=sq.1 hm;obtain⟨d',e1,e2⟩:=R.r x i hi hok (by rw[ht];exact h1);refine lb _ _ _ e1 ?_;have :=e2 hF d (by rw[ht];exact h2);omega
    · exact .inr ⟨w,b,c+a.w,h1,h2,h3,.step a h4 hm ht,aa⟩
def WO.meet{st:List dJ}(R:WO Q S st)(hne:Q.s≠Q.t)(hF:Q.aqH){D:Int}(h:Way Q.H A.f A.t Q.s Q.t D):
    S.aM<=D\/∃p∈(S.sd false).hp,∃q∈(S.sd true).hp,p.2+q.2<=2*D:=by
  have h:Way Q.H (dH false) (dz false) Q.s Q.t D:=h;obtain⟨o1,o2⟩:=(IC h).resolve_left λe=>hne e.symm;rcases R.ID hF (x:=false) o1 h with ⟨_,d,h2,h3⟩|⟨w,a,c,h1,h2,h3,h4,h5⟩
  · left;have :=R.bi.c1 false Q.t d 0 h2 (R.z true o2);omega
  · rcases R.ID hF (x:=true) o2 (alD h4)with ⟨_,d,g2,g3⟩|⟨w',b,g,g1,g2,g3,g4,g5⟩
    · left;have :=R.bi.c1 false w a d h2 g2;omega
    · right;refine⟨_,h3,_,g3,?_⟩;have hf:=Xe hF g4;have e1:Q.cH true w'= - Q.p w':=rfl;have e2:Q.cH true w= - Q.p w:=rfl;have e3:Q.cH false w=Q.p w:=rfl;rw[e1,e2]at hf;rw[e1,e3];show 2*a+Q.p w+(2*b+ -Q.p w')<=2*D;omega
def Xf {x:Bool} (h:S.next=some x):∃p q,least (S.sd x).hp=some p/\least (S.sd !x).hp=some q/\p.2+q.2<2*S.aM/\p.2<=q.2:=by
  unfold BW.next at h;split at h
  · rename_i p q hp hq;split at h
    · cases h
    · split at h
      · obtain rfl:=eV h;exact⟨p,q,hp,hq,aa,aa⟩
      · obtain rfl:=eV h;exact⟨q,p,hq,hp,aa,aa⟩
  · cases h
def alG{g:G}{x:Bool}{i:Nat}(hi:i<g.aj.length):i∈iH g x (dH x (aH g.aj i)):=by
  have e:g.aj[i]=aH g.aj i:=by simp[aH,hi]
  cases x
  · exact oM.2 ⟨fE _,by simpa using hi,by simp[e,dH]⟩
  · exact oM.2 ⟨fE _,by simpa using hi,by simp[e,dH]⟩
def WO.step {st:List dJ} (R:WO Q S st) (hQ:Q.Ok) {x:Bool} (hn:S.next=some x):
    ∃(v:Nat)(k d:Int),least (S.sd x).hp=some ((v:Int),k)/\v<Q.g.n/\v∉(S.sd x).ord/\(S.sd x).lab v=some d/\WO Q (Q.step x S) (st++ [⟨x,v,d⟩])/\((Q.step x S).sd x).ord=(S.sd x).ord++ [v]/\(Q.step x S).sd (!x)=S.sd (!x):=by
  obtain⟨⟨z,k⟩,q,hp,hq,hlt,hle⟩:=Xf hn;have hm:=jF hp;obtain⟨v,e,_⟩:=(R.bi.si x).cK _ hm.1;have e:z=(v:Int):=e;subst e;obtain⟨P1,P2,G,L,⟨d,m,p,M,N⟩,t⟩:=(R.bi.si x).pop hm.1 hm.2;refine⟨v,k,d,hp,G,P2,m,?_⟩;have hstep:Q.step x S=Q.scan x v (Q.pop x ((v:Int),k) S) (iH Q.g x v):=by unfold Qs.step;rw[hp];dsimp only;rw[fL]
  rw[hstep];have l:(Q.pop x ((v:Int),k) S).sd=fN S.sd x ((S.sd x).pop v k):=by show fN S.sd x ((S.sd x).pop ((v:Int)).toNat k)=_;rw[fL]
  have w:(Q.pop x ((v:Int),k) S).ev=S.ev++ [kL ⟨x,v,d⟩]:=by show S.ev++ [kL ⟨x,((v:Int)).toNat,((S.sd x).lab (v:Int)).getD 0⟩]=_;rw[fL,m];rfl
  have hdist:(Q.pop x ((v:Int),k) S).aM=S.aM:=rfl;have A:(Q.pop x ((v:Int),k) S).meet=S.meet:=rfl;generalize Q.pop x ((v:Int),k) S=S1 at l w hdist A;have hx:S1.sd x=(S.sd x).pop v k:=by rw[l,nk]
  have H:S1.sd (!x)=S.sd (!x):=by rw[l,qT]
  have f:∀y z,(S1.sd y).lab z=(S.sd y).lab z:=λy z=>by
    by_cases h:y=x
    · subst h;rw[hx];rfl
    · rw[l,AA h]
  have I:BI Q S1 (λy=>if y=x then(S.sd x).ord.length*W+W else(S.sd y).ord.length*W):=by
    refine⟨λy=> ?_,λy u e e' h1 h2=> ?_,?_,by rw[hdist];exact R.bi.c3⟩
    · by_cases h:y=x
      · subst h;rw[hx,aW rfl]
        exact P1.more (by have :(0:Int)<=W:=by decide
                          omega)
      · rw[l,AA h,aQ h];exact R.bi.si y
    · rw[f]at h1 h2;rw[hdist];exact R.bi.c1 y u e e' h1 h2
    · rw[hdist,A];refine R.bi.c2.imp id λ⟨u,d0,d1,h1,h2,h3,h4⟩=>⟨u,d0,d1,h1,?_,?_,h4⟩
      · rw[f];exact h2
      · rw[f];exact h3
  have C:v∈(S1.sd x).ord:=by rw[hx];exact rF _ cN
  have hout:∀i∈iH Q.g x v,i<Q.g.aj.length/\dH x (aH Q.g.aj i)=v:=λi hi=>xT.mem x v i hi;have J:Q.aqH->∀c∈(S1.sd x).ord,∀dc,(S1.sd x).lab (c:Int)=some dc->2*dc+Q.cH x c<=2*d+Q.cH x v:=λhF c hc dc hdc=>by rw[hx]at hc;rw[f]at hdc;rw[<-p];exact t hF c hc dc hdc
  obtain⟨g1,g2,g3,g4,g5⟩:=BI.scan hQ (x:=x) (v:=v) (dv:=d) (B:=λy=>if y=x then(S.sd x).ord.length*W+W else(S.sd y).ord.length*W) (by rw[aW rfl];omega) (ids:=iH Q.g x v) I C ((f x v).trans m) J hout (λh=>(f x _).trans (R.z x h));have o:((Q.scan x v S1 (iH Q.g x v)).sd x).ord=(S.sd x).ord++ [v]:=by rw[g2.ord,hx];rfl
  have xW:(Q.scan x v S1 (iH Q.g x v)).sd (!x)=S.sd (!x):=g2.xW.trans H;have j:∀y,y≠x->(Q.scan x v S1 (iH Q.g x v)).sd y=S.sd y:=λy hy=>by
    have :y= !x:=by cases x<;>cases y<;>simp_all
    rw[this];exact xW
  refine⟨⟨?_,λy hy=> ?_,λy i hi hok ho=> ?_,?_,λy=> ?_,λe he=> ?_,λhF y=> ?_,λhne hF e he D hD=> ?_⟩,o,xW⟩
  · refine⟨fun y=> ?_,g1.c1,g1.c2,g1.c3⟩;have :=g1.si y;by_cases h:y=x
    · subst h;refine this.more ?_;rw[aW rfl,o,cG,mQ];have e1:(((S.sd y).ord.length+1:Nat):Int)*W=(S.sd y).ord.length*W+W:=by
        rw[sS,pL];rfl
      omega
    · rw[aQ h]at this;rw[j y h]at this |-;exact this
  · by_cases h:y=x
    · subst h;exact g5 hy
    · rw[j y h];exact R.z y hy
  · by_cases h:y=x
    · subst h;by_cases ht:dH y (aH Q.g.aj i)=v
      · exact g3 i (by rw[<-ht];exact alG hi) hok
      · rw[o]at ho;have ho':dH y (aH Q.g.aj i)∈(S.sd y).ord:=(cS.1 ho).resolve_right λh=>ht (eP.1 h);have h1:=R.r y i hi hok ho';have h2:Rx Q S1 y i:=by
          obtain⟨d',e1,e2⟩:=h1;exact⟨d',(f y _).trans e1,λhF dv K=>e2 hF dv ((f y _).symm.trans K)⟩
        exact h2.le g2 (by rw[hx];exact aqJ _ ho')
    · rw[j y h]at ho;obtain⟨d',e1,e2⟩:=R.r y i hi hok ho;refine⟨d',?_,?_⟩
      · rw[j y h];exact e1
      · rw[j y h];exact e2
  · rw[g4,w,R.ev,Iv,Ix];simp[oW,Qs.outs]
  · rw[W7,fq,R.s1];by_cases h:y=x
    · subst h;rw[o,Xa (a:=[⟨y,v,d⟩]) aP];rfl
    · rw[j y h,Xb (a:=[⟨x,v,d⟩]) (by simpa using λe=>h e.symm)];simp
  · rcases cS.1 he with he|he
    · have h1:=R.s2 e he;by_cases h:e.x=x
      · have hm:e.v∈(S.sd e.x).ord:=by rw[<-R.s1];exact mF (xU.2 ⟨he,rfl⟩)
        rw[h]at h1 hm |-;rw[g2.same e.v (by rw[hx];exact aqJ _ hm),f];exact h1
      · rw[j _ h];exact h1
    · obtain rfl:=eP.1 he;show((Q.scan x v S1 (iH Q.g x v)).sd x).lab (v:Int)=some d;rw[g2.same v C,f];exact m
  · rw[W7,yS];refine⟨R.s3 hF y,?_,λa ha b hb=> ?_⟩
    · by_cases h:x=y
      · rw[Xa (by simpa using h)];exact List.pairwise_singleton _ _
      · rw[Xb (by simpa using h)];exact .nil
    · obtain⟨hb,s⟩:=xU.1 hb;obtain rfl:=eP.1 hb;have s:x=y:=s;subst s;obtain⟨ha1,ha2⟩:=xU.1 ha;have h1:=R.s2 a ha1;have hm:a.v∈(S.sd a.x).ord:=by rw[<-R.s1];exact mF (xU.2 ⟨ha1,rfl⟩)
      rw[ha2]at h1 hm;show 2*a.d+Q.cH x a.v<=2*d+Q.cH x v;rw[<-p];exact t hF a.v (aqJ _ hm) a.d h1
  · rcases cS.1 he with he|he
    · exact R.s4 hne hF e he D hD
    · obtain rfl:=eP.1 he;show 2*d+Q.cH x v<=D;rw[<-p];have E:=(jF hq).2;rcases R.meet hne hF hD with h|⟨p',hp',q',F,h⟩
      · have :k+q.2<2*S.aM:=hlt;have :k<=q.2:=hle;omega
      · have :k<=q.2:=hle;have l0:=hm.2;cases x
        · have a1:=l0 p' hp';have a2:=E q' F;rw[oO]at a1 a2;omega
        · have a1:=l0 q' F;have a2:=E p' hp';rw[oO]at a1 a2;omega
def WO.start(hQ:Q.Ok):WO Q Q.start []:=by
  obtain⟨a1,a2,a3,a4,a5⟩:=BI.first (Q:=Q) (S:=BW.zero) BI.zero hQ (x:=false) rfl;have a3:((Q.reach BW.zero false Q.s (-1) 0).sd true)=BS.zero:=a3;obtain⟨b1,b2,b3,b4,b5⟩:=BI.first a1 hQ (x:=true) a3;have b1:BI Q Q.start λ_=>0:=b1;have b3:Q.start.sd false=(Q.reach BW.zero false Q.s (-1) 0).sd false:=b3;have b4:(Q.start.sd true).ord=[]:=b4;have ho:∀x,(Q.start.sd x).ord=[]:=λx=>by
    cases x
    · rw[b3];exact a4
    · exact b4
  refine⟨?_,λx hx=> ?_,λx i _ _ h=> ?_,?_,λx=> ?_,λe h=>absurd h uo,λ_ x=>.nil,λ_ _ e h=>absurd h uo⟩
  · refine⟨fun x=> ?_,b1.c1,b1.c2,b1.c3⟩;have :=b1.si x;rw[ho];simpa using this
  · cases x
    · rw[b3];exact a2 hx
    · exact b2 hx
  · rw[ho]at h;cases h
  · exact b5.trans a5
  · rw[ho];rfl
def WO.run (hQ:Q.Ok):∀{k:Nat}{S:BW}{st:List dJ},WO Q S st->2*Q.g.n<k+(S.sd false).ord.length+(S.sd true).ord.length->∃st',WO Q (Q.run k S) st'/\(Q.run k S).next=none
  | 0,S,st,R,h=>by have h0:=(R.bi.si false).sn;have h1:=(R.bi.si true).sn;omega
  | k + 1,S,st,R,h=>by
    unfold Qs.run;cases hn:S.next with
    |none=>exact⟨st,R,hn⟩
    | some x=>
      dsimp only;obtain⟨v,kk,d,_,_,_,_,R',e1,e2⟩:=R.step hQ hn;refine WO.run hQ R' ?_;cases x
      · rw[e1,show(true:Bool)= !false from rfl,e2,cG,mQ];show _<_+_+(S.sd true).ord.length;omega
      · rw[e1,show(false:Bool)= !true from rfl,e2,cG,mQ];show _<k+(S.sd false).ord.length+_;omega
def Qs.fin(Q:Qs):BW:=Q.run (2*Q.g.n+1) Q.start
def Qs.Xg(hQ:Q.Ok):∃st,WO Q Q.fin st/\Q.fin.next=none:=WO.run hQ (WO.start hQ) aa
def WO.least {st:List dJ} (R:WO Q S st) (hn:S.next=none) (hne:Q.s≠Q.t) (hF:Q.aqH) {D:Int} (h:Way Q.H A.f A.t Q.s Q.t D):S.aM<=D:=by
  rcases R.meet hne hF h with h|⟨p,hp,q,hq,hle⟩
  · exact h
  · unfold BW.next at hn;split at hn
    · rename_i p' q' hp' a;have a1:=(jF hp').2 p hp;have a2:=(jF a).2 q hq;rw[oO]at a1 a2;split at hn
      · omega
      · split at hn<;>cases hn
    · rename_i hno;cases h1:Mh.least (S.sd false).hp with
      |none=>rw[uW.1 h1]at hp;cases hp
      | some p'=>
        cases h2:Mh.least (S.sd true).hp with
        |none=>rw[uW.1 h2]at hq;cases hq
        |some q'=>exact absurd h2 (hno p' q' h1)
def WO.found{st:List dJ}(R:WO Q S st)(hlt:S.aM≠aN):∃(u:Nat)(b r1:List Nat)(d0 d1:Int),S.meet=u/\(S.sd false).lab u=some d0/\(S.sd true).lab u=some d1/\
    Bk Q.g.aj (dH false) (dz false) Q.ok (S.sd false).bS (S.sd false).ord Q.s u b d0/\Bk Q.g.aj (dH true) (dz true) Q.ok (S.sd true).bS (S.sd true).ord Q.t u r1 d1/\b.length<=Q.g.n/\r1.length<=Q.g.n/\
    Trail Q.g.aj Q.s (b.reverse++r1) Q.t/\dm Q.g.aj (b.reverse++r1)=S.aM/\∀i∈b.reverse++r1,i<Q.g.aj.length/\Q.ok i=true:=by
  obtain⟨u,d0,d1,h1,h2,h3,h4⟩:=R.bi.c2.resolve_left hlt;have sh:∀x d,(S.sd x).lab u=some d->∃r,Bk Q.g.aj (dH x) (dz x) Q.ok (S.sd x).bS (S.sd x).ord (Q.src x) u r d/\r.length<=Q.g.n:=λx d hd=>by
    obtain⟨r,k1,k2⟩:=(R.bi.si x).bk u d hd;have :=(R.bi.si x).sn;refine⟨r,k1,?_⟩;split at k2
    · have :=List.idxOf_le_length (a:=u) (l:=(S.sd x).ord);omega
    · omega
  obtain⟨b,a1,a2⟩:=sh false d0 h2;obtain⟨r1,b1,b2⟩:=sh true d1 h3;refine⟨u,b,r1,d0,d1,h1,h2,h3,a1,b1,a2,b2,a1.alF.append b1.alE,?_,λi hi=> ?_⟩
  · rw[xz,b1.all.1,h4];congr 1;rw[<-a1.all.1];unfold dm;rw[List.map_reverse,List.sum_reverse]
  · rcases cS.1 hi with h|h
    · exact a1.all.2 i (wB.1 h)
    · exact b1.all.2 i h
def WO.way{st:List dJ}(R:WO Q S st)(hlt:S.aM≠aN):Way Q.H A.f A.t Q.s Q.t S.aM:=by obtain⟨u,c,r1,d0,d1,h1,h2,h3,a1,b1,_⟩:=R.found hlt;obtain⟨u',e0,e1,k1,k2,a,b⟩:=R.bi.c2.resolve_left hlt;have :u=u':=gU (h1.symm.trans k1);subst this;rw[h2]at k2;rw[h3]at a;obtain rfl:=eV k2;obtain rfl:=eV a;rw[b];have w0:Way Q.H A.f A.t Q.s u d0:=Bk.way (x:=false) a1;have w1:Way Q.H A.f A.t u Q.t d1:=(Bk.way (x:=true) b1).rev;exact w0.cat w1
def WO.iP{st:List dJ}(R:WO Q S st):0<=S.aM/\S.aM<=aN:=by
  refine⟨?_,R.bi.c3⟩;by_cases h:S.aM=aN
  · rw[h];decide
  · exact(R.way h).iP
end
open Go
section
variable{Q:Qs}{S:BW}
structure AB(Q:Qs)(x:Bool)(d:List Int):Prop where
 len:d.length=Q.g.n
 zero:Q.cQ (Q.src x)=true->aL d (Q.src x)=0
 shut:Q.cQ (Q.src x)=false->∀v,v<Q.g.n->aL d v=aN
 way:∀v,v<Q.g.n->aL d v=aN\/(aL d v<aN/\Way Q.H (dH x) (dz x) (Q.src x) v (aL d v))
def AB.xJ{x:Bool}{d:List Int}(H:AB Q x d){v:Nat}(hv:v<Q.g.n):0<=aL d v/\aL d v<=aN:=by
 rcases H.way v hv with h|⟨h,hw⟩
 .rw[h];exact⟨az,dQ _⟩
 .exact⟨hw.iP,Int.le_of_lt h⟩
structure RL(Q:Qs)(x:Bool)(d:List Int):Prop extends AB Q x d where
 aj:∀i,i<Q.g.aj.length->Q.ok i=true->aL d (dH x (aH Q.g.aj i))<aN->aL d (dz x (aH Q.g.aj i))<=aL d (dH x (aH Q.g.aj i))+(aH Q.g.aj i).w
def RL.qa{x:Bool}{d:List Int}(H:RL Q x d)(ho:Q.cQ (Q.src x)=true){v:Nat}{w:Int}(h:Way Q.H (dH x) (dz x) (Q.src x) v w):w<aN->aL d v<=w:=by
 induction h with
 |nil=>intro _;rw[H.zero ho];exact dQ 0
 |step a hw hm ht ih=>intro hlt;have h1:=ih aa;obtain⟨i,hi,hok,rfl⟩:=sq.1 hm;have :=H.aj i hi hok (by rw[ht];omega);rw[ht]at this;omega
def alI(hQ:Q.Ok)(hne:Q.s≠Q.t)(hF:Q.aqH){d:List Int}(H:RL Q false d):Q.fin.aM=if Q.cQ Q.t=true then aL d Q.t else aN:=by
 obtain⟨st,R,hn⟩:=Q.Xg hQ;have hr:=H.xJ hQ.t;by_cases hf:Q.fin.aM=aN
 .by_cases ho:Q.cQ Q.t=true
  .rw[aW ho,hf];rcases H.way Q.t hQ.t with h|⟨_,h⟩
   .exact h.symm
   .have :=R.least hn hne hF h;omega
  .rw[aQ ho,hf]
 .have hw:=R.way hf;have hw':Way Q.H (dH false) (dz false) Q.s Q.t Q.fin.aM:=hw;obtain⟨o1,o2⟩:=(IC hw').resolve_left λe=>hne e.symm;rw[aW o2];have h1:=H.qa o1 hw' (by have :=R.iP;omega);rcases H.way Q.t hQ.t with h|⟨_,h⟩
  .have :=R.iP;omega
  .have :=R.least hn hne hF h;omega
def iz(v t:Int):Int:=if aN<=t then 0 else if aN<=v then aN else if 0<v-t then v-t else 0
end
open Go
open Go
def Xh(d:List Int)(v:Int):Bool:=decide (0<=v)&&(decide (v<d.length)&&(decide (0<=d.getD v.toNat aN)&&decide (d.getD v.toNat aN<aN)))
def Xi(a b:List Int):Nat->Int×Int
 |0=>(-1,aN)
 |i+1=>let p:=Xi a b i
  if Xh a i=true/\Xh b i=true/\(p.1<0\/a.getD i aN+b.getD i aN<p.2)then((i:Int),a.getD i aN+b.getD i aN)else p
def meet(a b:List Int):Int×Int:=Xi a b (min a.length b.length)
open Go
def ji(g:G)(r v:Nat)(b:Int)(m:Nat):Int:=max (max b (iz (aL (g.to m).aM r) (aL (g.to m).aM v))) (iz (aL (g.from m).aM v) (aL (g.from m).aM r))
def hG(g:G)(ms:List Nat)(r v:Nat):Int:=ms.foldl (ji g r v) 0
section
variable{g:G}{r v m:Nat}{ms:List Nat}
def Xj:hG g (ms++ [m]) r v=ji g r v (hG g ms r v) m:=by simp[hG]
def alJ{b:Int}:b<=ji g r v b m:=by unfold ji;omega
def DI:∀{ms:List Nat}{b:Int},b<=ms.foldl (ji g r v) b
 | [],_=>dQ _
 |_::_,_=>yT alJ DI
def vD:0<=hG g ms r v:=DI
def AD{l:List A}{tl hd:A->Nat}{n s:Nat}{t:Tr}(T:oP l tl hd n s t)(hw:∀a∈l,(a.w:Int)<=W){v:Nat}(hv:v<n)(hf:aL t.aM v<aN):aL t.aM v+W<=n*W/\Way l tl hd s v (aL t.aM v):=by have hm:=(T.reached v hv).2 hf;have h1:=T.top hw v hm;have h2:t.order.idxOf v<n:=pJ (sR hm) (kH T.nodup T.range);refine⟨?_,((T.ls.way v hv).resolve_left aa).2⟩;have h3:((t.order.idxOf v:Int)+1)*W<=n*W:=nL aa az;rw[pL,wj]at h3;omega
def alL(hR:g.Right)(hr:r<g.n)(hv:v<g.n)(hm:m<g.n):iz (aL (g.to m).aM r) (aL (g.to m).aM v)<=aL (g.from r).aM v/\iz (aL (g.from m).aM v) (aL (g.from m).aM r)<=aL (g.from r).aM v:=by
 have hw:∀a∈g.aj,(a.w:Int)<=W:=λa ha=>by have :=(hR.ends a ha).2.2;show(a.w:Int)<=2147483647;omega
 have Tr:=gj hR hr;have b:=gj hR hm;have d:=oQ hR hm;have f:aN=72057594037927936:=rfl;have hW:W=2147483647:=rfl;have h:=hR.most;have n0:=Tr.ls.iP hv;have n1:=Tr.ls.jX hv;have a0:=d.ls.iP hv;have c0:=b.ls.iP hr;have a1:=d.ls.jX hr;have c1:=b.ls.jX hv;by_cases hd:aL (g.from r).aM v<aN
 .obtain⟨b1,w1⟩:=AD Tr hw hv hd;constructor
  .by_cases ha:aL (g.to m).aM v<aN
   .obtain⟨b2,w2⟩:=AD d hw hv ha;have :=d.ls.qa (w2.cat w1.rev) (by rw[hW]at b1 b2;omega);unfold iz;split
    .omega
    .split
     .rw[hW]at b1 b2;omega
     .split<;>omega
   .unfold iz;rw[aW aa];exact n0
  .by_cases hc:aL (g.from m).aM r<aN
   .obtain⟨b2,w2⟩:=AD b hw hr hc;have :=b.ls.qa (w2.cat w1) (by rw[hW]at b1 b2;omega);unfold iz;split
    .omega
    .split
     .rw[hW]at b1 b2;omega
     .split<;>omega
   .unfold iz;rw[aW aa];exact n0
 .have e:aL (g.from r).aM v=aN:=aa;rw[e];have :∀a c:Int,0<=c->a<=aN->iz a c<=aN:=λa c hc ha=>by
   unfold iz;split
   .decide
   .split
    .exact dQ _
    .split
     .omega
     .decide
  exact⟨this _ _ a0 a1,this _ _ c0 c1⟩
def xX(hR:g.Right)(hr:r<g.n)(hv:v<g.n)(hm:∀m∈ms,m<g.n):hG g ms r v<=aL (g.from r).aM v:=by
 unfold hG;have h0:=(gj hR hr).ls.iP hv;generalize (0:Int)=b at h0
 induction ms generalizing b with
 |nil=>exact h0
 |cons m ms ih=>refine ih (λx hx=>hm x (cZ _ hx)) _ ?_;have :=alL hR hr hv (hm m cN);unfold ji;omega
end
open Go
def fS(l:List A)(t:Tr)(v:Nat):Option Nat:=if 0<=t.bS.getD v (-1)/\t.bS.getD v (-1)<l.length then some (aH l (t.bS.getD v (-1)).toNat).f else none
section
variable{l:List A}{n s:Nat}{t:Tr}
def od(T:oP l A.f A.t n s t){v p:Nat}(h:fS l t v=some p):v∈t.order/\v≠s/\p∈t.order/\t.order.idxOf p<t.order.idxOf v:=by
 unfold fS at h;split at h
 .rename_i hz;obtain rfl:=eV h;by_cases hv:v∈t.order
  .by_cases hs:v=s
   .subst hs;rw[T.root]at hz;omega
   .obtain⟨i,hi,e,_,e2,_,e3⟩:=T.bS v hv hs;rw[e]at hz |-;rw[fL];exact⟨hv,hs,e2,e3⟩
  .by_cases hn:v<n
   .rw[(T.none v hn hv).2]at hz;omega
   .have :t.bS.getD v (-1)= -1:=by rw[cI,kU (by rw[T.al];omega)];rfl
    rw[this]at hz;omega
 .cases h
inductive l9(par:Nat->Option Nat)(v:Nat):Nat->Prop
 |refl:l9 par v v
 |step {u p:Nat}:par u=some p->l9 par v p->l9 par v u
def l9.up{par:Nat->Option Nat}{v k u:Nat}(hk:par k=some v)(h:l9 par k u):l9 par v u:=by
 induction h with
 |refl=>exact .step hk .refl
 |step hp _ ih=>exact .step hp ih
def Xk{par:Nat->Option Nat}{v u:Nat}:l9 par v u↔u=v\/∃k,par k=some v/\l9 par k u:=by
 constructor
 .intro h
  induction h with
  |refl=>exact .inl rfl
  |step hp _ ih=>
   rcases ih with rfl|⟨k,h1,h2⟩
   .exact .inr ⟨_,hp,.refl⟩
   .exact .inr ⟨k,h1,.step hp h2⟩
 .rintro(rfl|⟨k,h1,h2⟩)
  .exact .refl
  .exact h2.up h1
def IE(T:oP l A.f A.t n s t){v u:Nat}(h:l9 (fS l t) v u):t.order.idxOf v<=t.order.idxOf u:=by
 induction h with
 |refl=>exact cq _
 |step hp _ ih=>have :=(od T hp).2.2.2;omega
def IF(T:oP l A.f A.t n s t){v u:Nat}(h:l9 (fS l t) v u)(hv:v∈t.order):u∈t.order:=by
 cases h with
 |refl=>exact hv
 |step hp _=>exact(od T hp).1
def alM(T:oP l A.f A.t n s t){v k1 k2 u:Nat}(p1:fS l t k1=some v)(p2:fS l t k2=some v)(h1:l9 (fS l t) k1 u)(h2:l9 (fS l t) k2 u):k1=k2:=by
 have i1:=(od T p1).2.2.2;have i2:=(od T p2).2.2.2
 induction h1 with
 | refl=>
  cases h2 with
  |refl=>rfl
  |step hp h=>obtain rfl:=eV (hp.symm.trans p1);have :=IE T h;omega
 | step hp h ih=>
  cases h2 with
  |refl=>obtain rfl:=eV (hp.symm.trans p2);have :=IE T h;omega
  |step hp' h'=>obtain rfl:=eV (hp.symm.trans hp');exact ih h'
end
def tL:Int:=2305843009213693952
def j7(x:Int):Int:=min (max x 0) tL
def oe(a b:Int):Int:=j7 (j7 (0+j7 a)+j7 b)
def alN{a b:Int}(ha:0<=a)(hb:0<=b)(h:a+b<=tL):oe a b=a+b:=by unfold oe j7;omega
structure GS where
 sz:List Int
 mc:List Int
 kd:Nat->List Nat
def GS.own(wt:Nat->Int)(S:GS)(v:Nat):Int:=(S.kd v).foldl (λa k=>oe a (S.sz.getD k 0)) (wt v)
def GS.mK(S:GS)(v:Nat):Int:=(S.kd v).foldl (λa k=>a+S.mc.getD k 0) (S.mc.getD v 0)
def sr(kd:Nat->List Nat)(v:Nat):Option Nat->Nat->List Nat
 |some p=>λx=>if x=p then kd x++ [v]else kd x
 |none=>kd
def GS.step(par:Nat->Option Nat)(wt:Nat->Int)(S:GS)(v:Nat):GS:=⟨if S.mK v=0 then S.sz.set v (S.own wt v)else S.sz,S.mc.set v (S.mK v),sr S.kd v (par v)⟩
def Xl{f:Nat->Int}:∀{l:List Nat}{a:Int},0<=a->(∀k∈l,0<=f k)->a+(l.map f).sum<=tL->l.foldl (λa k=>oe a (f k)) a=a+(l.map f).sum
 | [],a,_,_,_=>aP
 | k::l,a,ha,hf,hm=>by
  have hk:=hf k cN;have b:0<=(l.map f).sum:=by
   have :∀l:List Nat,(∀k∈l,0<=f k)->0<=(l.map f).sum:=λl=>by
    induction l with
    |nil=>intro _;exact dQ _
    |cons k l ih=>intro h;rw[dI,kY];have :=ih λx hx=>h x (cZ _ hx);have :=h k cN;omega
   exact this l λx hx=>hf x (cZ _ hx)
  rw[dI,kY]at hm |-;rw[kS,alN ha hk aa,Xl aa (λx hx=>hf x (cZ _ hx)) aa];omega
def foldl_add{f:Nat->Int}:∀{l:List Nat}{a:Int},l.foldl (λa k=>a+f k) a=a+(l.map f).sum
 | [],a=>aP
 |k::l,a=>by rw[kS,foldl_add,dI,kY];omega
def AE{f:Nat->Int}:∀{l:List Nat},(∀k∈l,0<=f k)->0<=(l.map f).sum
 | [],_=>dQ _
 |k::l,h=>by rw[dI,kY];have :=AE λx hx=>h x (cZ _ hx);have :=h k cN;omega
def IG{f:Nat->Int}{B:Int}:∀{l:List Nat},(∀k∈l,f k<=B)->(l.map f).sum<=l.length*B
 | [],_=>aP
 |k::l,h=>by
  rw[dI,kY,fO];have :=IG λx hx=>h x (cZ _ hx);have :=h k cN;have e:((l.length+1:Nat):Int)*B=l.length*B+B:=by rw[sS,pL];simp
  omega
def DJ{f:Nat->Int}:∀{l:List Nat},(∀k∈l,0<=f k)->(l.map f).sum=0->∀k∈l,f k=0
 | [],_,_=>λ_ h=>by cases h
 |k::l,h,he=>by
  rw[dI,kY]at he;have h1:=AE λx hx=>h x (cZ _ hx);have h2:=h k cN;intro x hx;rcases cV.1 hx with rfl|hx
  .omega
  .exact DJ (λx hx=>h x (cZ _ hx)) aa x hx
def II{f:Nat->Int}{p:Nat->List Nat}:∀{l:List Nat},((l.flatMap p).map f).sum=(l.map λk=>((p k).map f).sum).sum
 | []=>rfl
 |k::l=>by rw[jm,fq,List.sum_append,II,dI,kY]
section
variable{l:List A}{n s:Nat}{t:Tr}{wt cnt:Nat->Int}
structure GI(par:Nat->Option Nat)(n:Nat)(wt cnt:Nat->Int)(D:List Nat)(S:GS):Prop where
 kd:∀x,S.kd x=D.filter λv=>decide (par v=some x)
 sl:S.sz.length=n
 ml:S.mc.length=n
 out:∀v,v<n->v∉D->S.sz.getD v 0=0/\S.mc.getD v 0=cnt v
 done:∃pt:Nat->List Nat,∀v∈D,(pt v).Nodup/\(∀u,u∈pt v↔l9 par v u)/\S.mc.getD v 0=((pt v).map cnt).sum/\S.sz.getD v 0=if S.mc.getD v 0=0 then((pt v).map wt).sum else 0
def IJ:∀{l q:List Nat},l.Nodup->(∀x∈l,x∈q)->l.length<=q.length
 | [],_,_,_=>fE _
 |a::l,q,hn,h=>by have ha:=h a cN;have hn':=gC.1 hn;have :=IJ (l:=l) (q:=q.erase a) hn'.2 λx hx=>(oB (λe:x=a=>hn'.1 (by rw[<-e];exact hx))).2 (h x (cZ _ hx));rw[yR ha]at this;have hp:=Bw ha;rw[fO];omega
def GI.step(T:oP l A.f A.t n s t)(hn:t.order.length<=32)(hw:∀v∈t.order,0<=wt v/\wt v<=aN)(hc:∀v,0<=cnt v){pre post:List Nat}{v:Nat}{S:GS}(he:t.order=pre++v::post)
  (H:GI (fS l t) n wt cnt post.reverse S):GI (fS l t) n wt cnt (post.reverse++ [v]) (S.step (fS l t) wt v):=by
 have g:v∈t.order:=by rw[he];simp
 have z:=T.range v g;have d:=T.nodup;have C:v∉post:=by rw[he]at d;exact(gC.1 (kq.1 d).2.1).1
 have D:v∉pre:=by rw[he]at d;exact λh=>(kq.1 d).2.2 v h v cN rfl
 have hiv:t.order.idxOf v=pre.length:=by rw[he,sQ,aQ D];simp
 obtain⟨o1,o2⟩:=H.out v z (by simpa using C);obtain⟨pt,hpt⟩:=H.done;have hkm:∀k,k∈S.kd v↔fS l t k=some v:=λk=>by
  rw[H.kd,gL,wB,gT];refine⟨λh=>h.2,λh=>⟨?_,h⟩⟩;obtain⟨q1,_,_,I⟩:=od T h;rw[he]at q1;rcases cS.1 q1 with q|q
  .have :t.order.idxOf k<pre.length:=by
    rw[he,sQ,aW q];exact sR q
   omega
  .rcases cV.1 q with rfl|q
   .omega
   .exact q
 have E:∀k∈S.kd v,k∈post.reverse:=λk hk=>by rw[H.kd]at hk;exact(gL.1 hk).1
 have hkn:(S.kd v).Nodup:=by rw[H.kd];rw[he]at d;have F:=kX.1 (gC.1 (kq.1 d).2.1).2;exact kX.2 (List.Pairwise.filter _ (List.pairwise_reverse.2 (F.imp λh e=>h e.symm)))
 have c:∀k∈S.kd v,(pt k).Nodup/\(∀u,u∈pt k↔l9 (fS l t) k u)/\S.mc.getD k 0=((pt k).map cnt).sum/\S.sz.getD k 0=if S.mc.getD k 0=0 then((pt k).map wt).sum else 0:=λk hk=>hpt k (E k hk);generalize hK:S.kd v=K at *;have pm:∀u,u∈v::K.flatMap pt↔l9 (fS l t) v u:=λu=>by rw[Xk,cV,qu];refine or_congr Iff.rfl ⟨λ⟨k,h1,h2⟩=>⟨k,(hkm k).1 h1,((c k h1).2.1 u).1 h2⟩,λ⟨k,h1,h2⟩=>⟨k,(hkm k).2 h1,((c k ((hkm k).2 h1)).2.1 u).2 h2⟩⟩
 have j:(v::K.flatMap pt).Nodup:=by
  refine gC.2 ⟨λh=> ?_,?_⟩
  .obtain⟨k,h1,h2⟩:=qu.1 h;have :=IE T (((c k h1).2.1 v).1 h2);have :=(od T ((hkm k).1 h1)).2.2.2;omega
  .rw[kX,List.pairwise_flatMap];refine⟨λk hk=>kX.1 (c k hk).1,(kX.1 hkn).imp_of_mem λ{a b} ha hb hne x hx y hy e=>hne ?_⟩;subst e;exact alM T ((hkm a).1 ha) ((hkm b).1 hb) (((c a ha).2.1 x).1 hx) (((c b hb).2.1 x).1 hy)
 have i:∀u∈v::K.flatMap pt,u∈t.order:=λu hu=>IF T ((pm u).1 hu) g;have aj1:(v::K.flatMap pt).length<=t.order.length:=IJ j i;have m:S.mK v=((v::K.flatMap pt).map cnt).sum:=by unfold GS.mK;rw[hK,foldl_add,o2,dI,kY,II];congr 2;exact jx λk hk=>(c k hk).2.2.1
 have hown:S.mK v=0->S.own wt v=((v::K.flatMap pt).map wt).sum:=λh0=>by
  have hz:=DJ (λk _=>hc k) (m.symm.trans h0);have hsz:∀k∈K,S.sz.getD k 0=((pt k).map wt).sum:=λk hk=>by
   obtain⟨_,_,e1,e2⟩:=c k hk;have :S.mc.getD k 0=0:=by
    rw[e1];have :∀u∈pt k,cnt u=0:=λu hu=>hz u (cZ _ (qu.2 ⟨k,hk,hu⟩));rw[jx this];generalize pt k=q
    induction q with
    |nil=>rfl
    |cons a q ih=>rw[dI,kY];omega
   rw[e2,aW this]
  have htot:((v::K.flatMap pt).map wt).sum=wt v+(K.map λk=>S.sz.getD k 0).sum:=by rw[dI,kY,II];congr 2;exact jx λk hk=>(hsz k hk).symm
  have hle:((v::K.flatMap pt).map wt).sum<=tL:=by have h1:=IG (f:=wt) (B:=aN) λk hk=>(hw k (i k hk)).2;have h2:((v::K.flatMap pt).length:Int)*aN<=32*aN:=nL aa az;have h3:32*aN<=tL:=az;omega
  unfold GS.own;rw[hK,htot];rw[htot]at hle;refine Xl (f:=λk=>S.sz.getD k 0) (hw v g).1 (λk hk=> ?_) hle;rw[hsz k hk];exact AE λu hu=>(hw u (i u (cZ _ (qu.2 ⟨k,hk,hu⟩)))).1
 have o:∀{L:List Int}{x:Int}{u:Nat},L.length=n->(L.set v x).getD u 0=if u=v then x else L.getD u 0:=λ{L x u} hL=>by
  by_cases h:u=v
  .subst h;rw[aW rfl,cI,jo aa];rfl
  .rw[aQ h,cI,gD (λe=>h e.symm),<-cI]
 have r:∀u,(S.step (fS l t) wt v).mc.getD u 0=if u=v then S.mK v else S.mc.getD u 0:=λu=>o H.ml;have w:∀u,(S.step (fS l t) wt v).sz.getD u 0=if u=v then(if S.mK v=0 then S.own wt v else 0)else S.sz.getD u 0:=λu=>by
  show(if S.mK v=0 then S.sz.set v (S.own wt v)else S.sz).getD u 0=_;by_cases h0:S.mK v=0
  .rw[aW h0,aW h0];exact o H.sl
  .rw[aQ h0,aQ h0];by_cases h:u=v
   .rw[aW h,h];exact o1
   .rw[aQ h]
 refine⟨λx=> ?_,?_,?_,λu hu hd=> ?_,⟨λu=>if u=v then v::K.flatMap pt else pt u,λu hu=> ?_⟩⟩
 .rw[mD,<-H.kd];show sr S.kd v (fS l t v) x=_;cases hp:fS l t v with
  |none=>simp[sr,hp]
  | some p=>
   by_cases hx:x=p
   .subst hx;simp[sr,hp]
   .have :¬p=x:=λe=>hx e.symm;simp[sr,hp,hx,this]
 .show(if S.mK v=0 then S.sz.set v (S.own wt v)else S.sz).length=n;split
  .rw[kV];exact H.sl
  .exact H.sl
 .show(S.mc.set v _).length=n;rw[kV];exact H.ml
 .have hne:u≠v:=λe=>hd (by rw[e];simp);have :=H.out u hu λh=>hd (aqJ _ h);rw[w,r,aQ hne,aQ hne];exact this
 .rw[w,r];by_cases h:u=v
  .subst h;simp only[aW];refine⟨j,pm,m,?_⟩;by_cases h0:S.mK u=0
   .rw[aW h0,aW h0];exact hown h0
   .rw[aQ h0,aQ h0]
  .have G:u∈post.reverse:=by
    rcases cS.1 hu with h'|h'
    .exact h'
    .exact absurd (eP.1 h') h
   simp only[aQ h];exact hpt u G
def GI.all(T:oP l A.f A.t n s t)(hn:t.order.length<=32)(hw:∀v∈t.order,0<=wt v/\wt v<=aN)(hc:∀v,0<=cnt v){S:GS}(H:GI (fS l t) n wt cnt [] S):∀{post pre:List Nat},t.order=pre++post->GI (fS l t) n wt cnt post.reverse (post.reverse.foldl (GS.step (fS l t) wt) S)
 | [],pre,_=>H
 |v::post,pre,he=>by have ih:=GI.all T hn hw hc H (post:=post) (pre:=pre++ [v]) (by rw[he];simp);rw[yO,jP];exact ih.step T hn hw hc he
end
open Go
def Th(f:Nat->Int)(v:Nat):Option Nat->Bool
 |none=>true
 |some w=>decide (f w<f v\/(f v=f w/\v<w))
def tM(f:Nat->Int)(b:Option Nat)(v:Nat):Option Nat:=if 0<f v/\Th f v b=true then some v else b
def kM(f:Nat->Int)(l:List Nat):Option Nat:=l.foldl (tM f) none
def tN(f:Nat->Int)(l:List Nat)(b:Option Nat):Prop:=(b=none/\∀v∈l,f v<=0)\/∃w,b=some w/\w∈l/\0<f w/\∀v∈l,f v<f w\/(f v=f w/\w<=v)
def alO{f:Nat->Int}{l:List Nat}{b:Option Nat}{v:Nat}(h:tN f l b):tN f (l++ [v]) (tM f b v):=by
 unfold tM;rcases h with ⟨rfl,h⟩|⟨w,rfl,h1,h2,h3⟩
 .by_cases hv:0<f v
  .rw[aW ⟨hv,rfl⟩];refine .inr ⟨v,rfl,aP,hv,λu hu=> ?_⟩;rcases cS.1 hu with hu|hu
   .exact .inl (by have :=h u hu;omega)
   .rw[eP.1 hu];exact .inr ⟨rfl,cq _⟩
  .rw[aQ λh=>hv h.1];refine .inl ⟨rfl,λu hu=> ?_⟩;rcases cS.1 hu with hu|hu
   .exact h u hu
   .rw[eP.1 hu];omega
 .by_cases hc:0<f v/\(f w<f v\/(f v=f w/\v<w))
  .rw[aW ⟨hc.1,bT hc.2⟩];refine .inr ⟨v,rfl,aP,hc.1,λu hu=> ?_⟩;rcases cS.1 hu with hu|hu
   .have :=h3 u hu;omega
   .rw[eP.1 hu];exact .inr ⟨rfl,cq _⟩
  .rw[aQ λh=>hc ⟨h.1,gM h.2⟩];refine .inr ⟨w,rfl,aqJ _ h1,h2,λu hu=> ?_⟩;rcases cS.1 hu with hu|hu
   .exact h3 u hu
   .rw[eP.1 hu];omega
def su{f:Nat->Int}:∀{l:List Nat},tN f l (kM f l):=by
 have :∀{l l0:List Nat}{b:Option Nat},tN f l0 b->tN f (l0++l) (l.foldl (tM f) b):=by
  intro l
  induction l with
  |nil=>intro l0 b h;rw[eO];exact h
  |cons v l ih=>intro l0 b h;have :=ih (alO (v:=v) h);rw[c7]at this;exact this
 intro l;have :=this (l:=l) (l0:=[]) (b:=none) (.inl ⟨rfl,λv h=>by cases h⟩);exact this
def alP{f:Nat->Int}{l:List Nat}{v:Nat}:kM f (l++ [v])=tM f (kM f l) v:=by simp[kM]
def down(f:Nat->Int)(kd:Nat->List Nat):Nat->Nat->Nat
 |0,v=>v
 |k+1,v=>match kM f (kd v)with
  |none=>v
  |some w=>down f kd k w
def og(ms:List Nat):Nat->Nat->Nat
 |0,v=>v
 |k+1,v=>if v∈ms then og ms k (v+1)else v
def Xm{f:Nat->Int}{kd:Nat->List Nat}:∀{k v:Nat},0<f v->0<f (down f kd k v)
 |0,_,h=>h
 |k+1,v,h=>by
  unfold down;rcases su (f:=f) (l:=kd v)with ⟨e,_⟩|⟨w,e,_,h2,_⟩
  .rw[e];exact h
  .rw[e];exact Xm h2
def Xn{f:Nat->Int}{kd:Nat->List Nat}{ix:Nat->Nat}{n:Nat}(hk:∀v,∀w∈kd v,ix v<ix w/\ix w<n):∀{k v:Nat},n<=k+ix v->kM f (kd (down f kd k v))=none
 |0,v,h=>by
  rcases su (f:=f) (l:=kd v)with ⟨e,_⟩|⟨w,_,h1,_,_⟩
  .exact e
  .have :=hk v w h1;omega
 | k+1,v,h=>by
  unfold down;cases e:kM f (kd v)with
  |none=>exact e
  | some w=>
   refine Xn hk ?_;rcases su (f:=f) (l:=kd v)with ⟨e',_⟩|⟨w',e',h1,_,_⟩
   .rw[e]at e';cases e'
   .rw[e]at e';cases e';have :=hk v w h1;omega
def AF:∀{v:Nat}{ms:List Nat},(∀u,u<v->u∈ms)->(List.range v).length<=ms.length
 |0,_,_=>fE _
 |v+1,ms,h=>by have h1:=AF (v:=v) (ms:=ms.erase v) λu hu=>(oB aa).2 (h u aa);have h2:=yR (h v aa);have h3:0<ms.length:=Bw (h v aa);rw[gd]at h1 |-;omega
def Xo{ms:List Nat}:∀{k v:Nat},(∀u,u<v->u∈ms)->ms.length<k+v->(ms.Nodup)->og ms k v∉ms/\(∀u,u<og ms k v->u∈ms)/\og ms k v<=ms.length
 | 0,v,h,hl,hn=>by
  have :(List.range v).length<=ms.length:=by exact AF h
  rw[gd]at this;omega
 | k+1,v,h,hl,hn=>by
  unfold og;by_cases hv:v∈ms
  .rw[aW hv];exact Xo (λu hu=>by
    by_cases e:u=v
    .rw[e];exact hv
    .exact h u aa) aa hn
  .rw[aQ hv];refine⟨hv,h,?_⟩;have :(List.range v).length<=ms.length:=by
    exact AF h
   rwa[gd]at this
open Go
section
variable{l:List A}{n s:Nat}{t:Tr}
def alQ{f:Nat->Int}{p q:List Nat}(hp:p.Nodup)(hq:q.Nodup)(h:∀u,u∈p↔u∈q):(p.map f).sum=(q.map f).sum:=by
 have :p.Perm q:=(List.perm_ext_iff_of_nodup hp hq).2 h;clear hp hq h
 induction this with
 |nil=>rfl
 |cons x _ ih=>rw[dI,dI,kY,kY,ih]
 |swap x y l=>simp only[dI,kY];omega
 |trans _ _ ih1 ih2=>exact ih1.trans ih2
end
def jj(g:G)(ms:List Nat)(r v:Nat):Int:=if v≠r then aL (g.from r).aM v-hG g ms r v else 0
def gH(ms:List Nat)(v:Nat):Int:=(ms.count v:Int)
abbrev qf(g:G)(r:Nat):Nat->Option Nat:=fS g.aj (g.from r)
def aqR(n:Nat)(ms:List Nat):GS:=⟨List.replicate n 0,(List.range n).map (gH ms),λ_=>[]⟩
def fT(g:G)(ms:List Nat)(r:Nat):GS:=(g.from r).order.reverse.foldl (GS.step (qf g r) (jj g ms r)) (aqR g.n ms)
def gI(g:G)(ms:List Nat)(r v:Nat):Int:=(fT g ms r).sz.getD v 0
section
variable{g:G}{r v m:Nat}{ms:List Nat}
def DK(hR:g.Right)(hr:r<g.n)(hm:∀m∈ms,m<g.n):∀v∈(g.from r).order,0<=jj g ms r v/\jj g ms r v<=aN:=λv hv=>by have T:=gj hR hr;have a:=T.range v hv;have h1:=xX hR hr a hm;have h2:=vD (g:=g) (r:=r) (v:=v) (ms:=ms);have h3:=T.ls.jX a;have b:aN=72057594037927936:=rfl;unfold jj;split<;>omega
def Sm(g:G):Prop:=∀r,r<g.n->(g.from r).order.length<=32
def Sm.alR(hR:g.Right)(h:g.n<=16):Sm g:=λr hr=>by have T:=gj hR hr;have :=kH T.nodup T.range;omega
def DL(hR:g.Right)(hn:Sm g)(hr:r<g.n)(hm:∀m∈ms,m<g.n):GI (qf g r) g.n (jj g ms r) (gH ms) (g.from r).order.reverse (fT g ms r):=by
 have T:=gj hR hr;refine GI.all T (hn r hr) (DK hR hr hm) (λv=>by unfold gH;omega) (S:=aqR g.n ms) ?_ (pre:=[]) rfl;refine⟨λx=>rfl,by simp[aqR],by simp[aqR],λv hv _=>⟨?_,?_⟩,λ_=>[],λv hv=>by simp at hv⟩
 .simp[aqR,cI,hv]
 .simp[aqR,cI,hv]
def IK(hR:g.Right)(hn:Sm g)(hr:r<g.n)(hm:∀m∈ms,m<g.n)(hv:v∈(g.from r).order):∃p:List Nat,p.Nodup/\(∀u,u∈p↔l9 (qf g r) v u)/\
  ((∃u∈p,u∈ms)->gI g ms r v=0)/\((∀u∈p,u∉ms)->gI g ms r v=(p.map (jj g ms r)).sum):=by
 obtain⟨pt,hpt⟩:=(DL hR hn hr hm).done;obtain⟨h1,h2,h3,h4⟩:=hpt v (wB.2 hv);refine⟨pt v,h1,h2,λ⟨u,hu,b⟩=> ?_,λhno=> ?_⟩
 .have :(fT g ms r).mc.getD v 0≠0:=λe=>by
   have :=DJ (f:=gH ms) (λk _=>by unfold gH;omega) (h3.symm.trans e) u hu;unfold gH at this;have :=yY.2 b;omega
  unfold gI;rw[h4,aQ this]
 .have :(fT g ms r).mc.getD v 0=0:=by
   rw[h3];have :∀u∈pt v,gH ms u=0:=λu hu=>by unfold gH;rw[List.count_eq_zero.2 (hno u hu)];rfl
   rw[jx this];generalize pt v=q
   induction q with
   |nil=>rfl
   |cons a q ih=>rw[dI,kY];omega
  unfold gI;rw[h4,aW this]
def alS(hR:g.Right)(hn:Sm g)(hr:r<g.n)(hm:∀m∈ms,m<g.n)(hv:v<g.n)(ho:v∉(g.from r).order):gI g ms r v=0:=((DL hR hn hr hm).out v hv (by simpa using ho)).1
def DM(hR:g.Right)(hn:Sm g)(hr:r<g.n)(hm:∀m∈ms,m<g.n){w:Nat}:w∈(fT g ms r).kd v↔qf g r w=some v:=by rw[(DL hR hn hr hm).kd,gL,wB,gT];exact⟨λh=>h.2,λh=>⟨(od (gj hR hr) h).1,h⟩⟩
def alT(hR:g.Right)(hn:Sm g)(hr:r<g.n)(hm:∀m∈ms,m<g.n)(hv:v∈(g.from r).order)(h:0<gI g ms r v):v∉ms:=λa=>by obtain⟨p,_,h2,h3,_⟩:=IK hR hn hr hm hv;have :=h3 ⟨v,(h2 v).2 .refl,a⟩;omega
def alU(hR:g.Right)(hn:Sm g)(hr:r<g.n)(hm:∀m∈ms,m<g.n)(hv:v∈(g.from r).order)(h:0<gI g ms r v)(hk:∀w,qf g r w=some v->gI g ms r w<=0):hG g ms r v<aL (g.from r).aM v:=by
 have T:=gj hR hr;obtain⟨p,h1,h2,h3,h4⟩:=IK hR hn hr hm hv;have hno:∀u∈p,u∉ms:=λu hu i=>by have :=h3 ⟨u,hu,i⟩;omega
 rw[h4 hno]at h;have hz:∀u∈p,u≠v->jj g ms r u=0:=λu hu hne=>by
  rcases Xk.1 ((h2 u).1 hu)with e|⟨k,b,hk2⟩
  .exact absurd e hne
  .have c:=(od T b).1;obtain⟨q,q1,q2,_,j⟩:=IK hR hn hr hm c;have e:=j λx hx=>hno x ((h2 x).2 (((q2 x).1 hx).up b));have hle:=hk k b;rw[e]at hle;have d:∀x∈q,0<=jj g ms r x:=λx hx=>(DK hR hr hm x (IF T ((q2 x).1 hx) c)).1;have :=AE d;exact DJ d aa u ((q2 u).2 hk2)
 have hs:(p.map (jj g ms r)).sum=jj g ms r v:=by
  have o:=(h2 v).2 .refl;have :=alQ (f:=jj g ms r) h1 (q:=v::p.erase v) (gC.2 ⟨λh=>by rw[h1.mem_erase_iff]at h;exact h.1 rfl,h1.erase v⟩) λu=>by
   rw[cV,h1.mem_erase_iff];by_cases e:u=v
   .rw[e];exact⟨λ_=>.inl rfl,λ_=>o⟩
   .exact⟨λh=>.inr ⟨e,h⟩,λh=>(h.resolve_left e).2⟩
  rw[this,dI,kY];have z:((p.erase v).map (jj g ms r)).sum=0:=by
   have y:∀u∈p.erase v,jj g ms r u=0:=λu hu=>by rw[h1.mem_erase_iff]at hu;exact hz u hu.2 hu.1
   rw[jx y];generalize p.erase v=q
   induction q with
   |nil=>rfl
   |cons a q ih=>rw[dI,kY];omega
  omega
 rw[hs]at h;unfold jj at h;split at h<;>omega
def oh(g:G)(ms:List Nat)(r:Nat):Nat:=match kM (gI g ms r) (g.from r).order with
 |none=>og ms (g.n+1) 0
 |some v=>down (gI g ms r) (fT g ms r).kd g.n v
def Xp(hR:g.Right)(hn:Sm g)(hr:r<g.n)(hm:∀m∈ms,m<g.n)(a:ms.Nodup)(hl:ms.length<g.n):
  oh g ms r<g.n/\oh g ms r∉ms/\((∃v,v<g.n/\0<gI g ms r v)->0<gI g ms r (oh g ms r)/\hG g ms r (oh g ms r)<aL (g.from r).aM (oh g ms r)/\aL (g.from r).aM (oh g ms r)<aN):=by
 have T:=gj hR hr;have b:∀v,v<g.n->0<gI g ms r v->v∈(g.from r).order:=λv hv h=>by
  by_cases ho:v∈(g.from r).order
  .exact ho
  .have :=alS hR hn hr hm hv ho;omega
 unfold oh;rcases su (f:=gI g ms r) (l:=(g.from r).order)with ⟨e,h⟩|⟨w,e,h1,h2,h3⟩
 .rw[e];dsimp only;obtain⟨f1,_,f3⟩:=Xo (ms:=ms) (k:=g.n+1) (v:=0) (λu hu=>aa) aa a;refine⟨aa,f1,λ⟨v,hv,hp⟩=> ?_⟩;have :=h v (b v hv hp);omega
 .rw[e];dsimp only;have c:∀v,∀w∈(fT g ms r).kd v,(g.from r).order.idxOf v<(g.from r).order.idxOf w/\(g.from r).order.idxOf w<g.n:=λv w hw=>by
   obtain⟨q1,_,_,d⟩:=od T ((DM hR hn hr hm).1 hw);exact⟨d,pJ (sR q1) (kH T.nodup T.range)⟩
  have hpos:=Xm (kd:=(fT g ms r).kd) (k:=g.n) h2;have hend:=Xn (f:=gI g ms r) c (k:=g.n) (v:=w) aa;have i:∀k v,v∈(g.from r).order->down (gI g ms r) (fT g ms r).kd k v∈(g.from r).order:=λk=>by
   induction k with
   |zero=>exact λv h=>h
   |succ k ih=>
    intro v hv;unfold down;rcases su (f:=gI g ms r) (l:=(fT g ms r).kd v)with ⟨e,_⟩|⟨w,e,h1,_,_⟩
    .rw[e];exact hv
    .rw[e];exact ih w (od T ((DM hR hn hr hm).1 h1)).1
  have ho:=i g.n w h1;generalize down (gI g ms r) (fT g ms r).kd g.n w=x at hpos hend ho;refine⟨T.range x ho,alT hR hn hr hm ho hpos,λ_=>⟨hpos,alU hR hn hr hm ho hpos λw hw=> ?_,(T.reached x (T.range x ho)).1 ho⟩⟩;rcases su (f:=gI g ms r) (l:=(fT g ms r).kd x)with ⟨_,h⟩|⟨_,e,_⟩
  .exact h w ((DM hR hn hr hm).2 hw)
  .rw[hend]at e;cases e
end
open Go
def qg(xs:List Int)(n i:Nat):Nat:=((xs[i]?.map λ(x:Int)=>x.tmod n).getD 0).toNat
def gz(g:G)(xs:List Int):Nat->List Nat
 |0=>[]
 |k+1=>gz g xs k++ [if k=0 then qg xs g.n 0 else oh g (gz g xs k) (qg xs g.n k)]
section
variable{g:G}{xs:List Int}{n k i:Nat}
def Xq(hn:0<n)(hx:∀x∈xs,0<=x):qg xs n i<n:=by
 unfold qg;cases h:xs[i]? with
 |none=>simpa using hn
 |some x=>have h0:=hx x (mE h);have h1:=Int.tmod_lt_of_pos x (show(0:Int)<n by omega);have h2:=Int.tmod_nonneg (n:Int) h0;show(x.tmod n).toNat<n;omega
def tO:∀{k:Nat},(gz g xs k).length=k
 |0=>rfl
 |k+1=>by unfold gz;rw[cG,tO];rfl
def IL(hR:g.Right)(hn:Sm g)(hx:∀x∈xs,0<=x):∀{k:Nat},k<=g.n->(gz g xs k).Nodup/\∀m∈gz g xs k,m<g.n
 |0,_=>⟨by simp[gz],λm h=>by simp[gz]at h⟩
 | k+1,h=>by
  obtain⟨h1,h2⟩:=IL hR hn hx (k:=k) aa;have hr:qg xs g.n k<g.n:=Xq aa hx;unfold gz;by_cases hk:k=0
  .subst hk;rw[aW rfl];refine⟨by simp[gz],λm hm=> ?_⟩;have :m=qg xs g.n 0:=by simpa[gz]using hm
   rw[this];exact hr
  .rw[aQ hk];obtain⟨n1,n2,_⟩:=Xp hR hn hr h2 h1 (by rw[tO];omega);refine⟨kq.2 ⟨h1,aP,λa ha b hb e=> ?_⟩,λm hm=> ?_⟩
   .rw[eP.1 hb]at e;exact n2 (e▸ha)
   .rcases cS.1 hm with hm|hm
    .exact h2 m hm
    .rw[eP.1 hm];exact n1
end
open Go
end Go.Mh
