/- Texts of the proofs of seat YthglofkkjoiepaaGreatDoor, joined: Avoid4, Avoid5, Seek, Both5, Both6, AStar, Bound, Far, Far2, Avoid6, Grid, Plan, Bits, Disk, ViewA, ViewB, PanS, Great, ViewC, ViewD. They have no conditions of their own. -/
import Derived.Test.YthglofkkjoiepaaGreatDoorMc
import Derived.Test.YthglofkkjoiepaaGreatDoorMb
import Derived.OpenShut
set_option linter.unusedVariables false
set_option linter.unusedSimpArgs false
set_option linter.unusedSectionVars false

namespace Go.Mh
open Go
section
variable{l:List A}{n s:Nat}{t:Tr}
theorem ahj{f:Nat->Int}{p q:List Nat}(hp:p.Nodup)(hq:q.Nodup)(h:∀u,u∈p↔u∈q):(p.map f).sum=(q.map f).sum:=by
 have :p.Perm q:=(List.perm_ext_iff_of_nodup hp hq).2 h;clear hp hq h
 induction this with
 |nil=>rfl
 |cons x _ ih=>rw[List.map_cons,List.map_cons,List.sum_cons,List.sum_cons,ih]
 |swap x y l=>simp only[List.map_cons,List.sum_cons];omega
 |trans _ _ ih1 ih2=>exact ih1.trans ih2
end
def gV(g:G)(ms:List Nat)(r v:Nat):Int:=if v≠r then aF (g.from r).aH v-dG g ms r v else 0
def fK(ms:List Nat)(v:Nat):Int:=(ms.count v:Int)
abbrev nw(g:G)(r:Nat):Nat->Option Nat:=eP g.ag (g.from r)
def mF(n:Nat)(ms:List Nat):GS:=⟨List.replicate n 0,(List.range n).map (fK ms),λ_=>[]⟩
def eR(g:G)(ms:List Nat)(r:Nat):GS:=(g.from r).order.reverse.foldl (GS.step (nw g r) (gV g ms r)) (mF g.n ms)
def fL(g:G)(ms:List Nat)(r v:Nat):Int:=(eR g ms r).sz.getD v 0
section
variable{g:G}{r v m:Nat}{ms:List Nat}
theorem BK(hR:g.Right)(hr:r<g.n)(hm:∀m∈ms,m<g.n):∀v∈(g.from r).order,0<=gV g ms r v/\gV g ms r v<=aI:=λv hv=>by
 have T:=eX hR hr;have a:=T.range v hv;have h1:=uF hR hr a hm;have h2:=r8 (g:=g) (r:=r) (v:=v) (ms:=ms);have h3:=T.ls.iB a;have b:aI=72057594037927936:=rfl;unfold gV;split<;>omega
def Sm(g:G):Prop:=∀r,r<g.n->(g.from r).order.length<=32
theorem Sm.ahk(hR:g.Right)(h:g.n<=16):Sm g:=λr hr=>by
 have T:=eX hR hr;have :=iL T.nodup T.range;omega
theorem BL(hR:g.Right)(hn:Sm g)(hr:r<g.n)(hm:∀m∈ms,m<g.n):GI (nw g r) g.n (gV g ms r) (fK ms) (g.from r).order.reverse (eR g ms r):=by
 have T:=eX hR hr;refine GI.all T (hn r hr) (BK hR hr hm) (λv=>by unfold fK;omega) (S:=mF g.n ms) ?_ (pre:=[]) rfl;refine⟨λx=>rfl,by simp[mF],by simp[mF],λv hv _=>⟨?_,?_⟩,λ_=>[],λv hv=>by simp at hv⟩
 ·simp[mF,List.getD_eq_getElem?_getD,hv]
 ·simp[mF,List.getD_eq_getElem?_getD,hv]
theorem HH(hR:g.Right)(hn:Sm g)(hr:r<g.n)(hm:∀m∈ms,m<g.n)(hv:v∈(g.from r).order):∃p:List Nat,p.Nodup/\(∀u,u∈p↔jW (nw g r) v u)/\
  ((∃u∈p,u∈ms)->fL g ms r v=0)/\((∀u∈p,u∉ms)->fL g ms r v=(p.map (gV g ms r)).sum):=by
 obtain⟨pt,hpt⟩:=(BL hR hn hr hm).done;obtain⟨h1,h2,h3,h4⟩:=hpt v (List.mem_reverse.2 hv);refine⟨pt v,h1,h2,λ⟨u,hu,b⟩=> ?_,λhno=> ?_⟩
 ·have :(eR g ms r).mc.getD v 0≠0:=λe=>by
   have :=BJ (f:=fK ms) (λk _=>by unfold fK;omega) (h3.symm.trans e) u hu;unfold fK at this;have :=List.count_pos_iff.2 b;omega
  unfold fL;rw[h4,if_neg this]
 ·have :(eR g ms r).mc.getD v 0=0:=by
   rw[h3];have :∀u∈pt v,fK ms u=0:=λu hu=>by unfold fK;rw[List.count_eq_zero.2 (hno u hu)];rfl
   rw[List.map_congr_left this];generalize pt v=q
   induction q with
   |nil=>rfl
   |cons a q ih=>rw[List.map_cons,List.sum_cons];omega
  unfold fL;rw[h4,if_pos this]
theorem ahl(hR:g.Right)(hn:Sm g)(hr:r<g.n)(hm:∀m∈ms,m<g.n)(hv:v<g.n)(ho:v∉(g.from r).order):fL g ms r v=0:=
 ((BL hR hn hr hm).out v hv (by simpa using ho)).1
theorem BM(hR:g.Right)(hn:Sm g)(hr:r<g.n)(hm:∀m∈ms,m<g.n){w:Nat}:w∈(eR g ms r).kd v↔nw g r w=some v:=by
 rw[(BL hR hn hr hm).kd,List.mem_filter,List.mem_reverse,decide_eq_true_eq];exact⟨λh=>h.2,λh=>⟨(lP (eX hR hr) h).1,h⟩⟩
theorem ahm(hR:g.Right)(hn:Sm g)(hr:r<g.n)(hm:∀m∈ms,m<g.n)(hv:v∈(g.from r).order)(h:0<fL g ms r v):v∉ms:=λa=>by
 obtain⟨p,_,h2,h3,_⟩:=HH hR hn hr hm hv;have :=h3 ⟨v,(h2 v).2 .refl,a⟩;omega
theorem ahn(hR:g.Right)(hn:Sm g)(hr:r<g.n)(hm:∀m∈ms,m<g.n)(hv:v∈(g.from r).order)(h:0<fL g ms r v)(hk:∀w,nw g r w=some v->fL g ms r w<=0):dG g ms r v<aF (g.from r).aH v:=by
 have T:=eX hR hr;obtain⟨p,h1,h2,h3,h4⟩:=HH hR hn hr hm hv;have hno:∀u∈p,u∉ms:=λu hu i=>by have :=h3 ⟨u,hu,i⟩;omega
 rw[h4 hno]at h;have hz:∀u∈p,u≠v->gV g ms r u=0:=λu hu hne=>by
  rcases U3.1 ((h2 u).1 hu)with e|⟨k,b,hk2⟩
  ·exact absurd e hne
  ·have c:=(lP T b).1;obtain⟨q,q1,q2,_,j⟩:=HH hR hn hr hm c;have e:=j λx hx=>hno x ((h2 x).2 (((q2 x).1 hx).up b));have hle:=hk k b;rw[e]at hle;have d:∀x∈q,0<=gV g ms r x:=λx hx=>(BK hR hr hm x (HC T ((q2 x).1 hx) c)).1;have :=xY d;exact BJ d (by omega) u ((q2 u).2 hk2)
 have hs:(p.map (gV g ms r)).sum=gV g ms r v:=by
  have o:=(h2 v).2 .refl;have :=ahj (f:=gV g ms r) h1 (q:=v::p.erase v) (List.nodup_cons.2 ⟨λh=>by rw[h1.mem_erase_iff]at h;exact h.1 rfl,h1.erase v⟩) λu=>by
   rw[List.mem_cons,h1.mem_erase_iff];by_cases e:u=v
   ·rw[e];exact⟨λ_=>.inl rfl,λ_=>o⟩
   ·exact⟨λh=>.inr ⟨e,h⟩,λh=>(h.resolve_left e).2⟩
  rw[this,List.map_cons,List.sum_cons];have z:((p.erase v).map (gV g ms r)).sum=0:=by
   have y:∀u∈p.erase v,gV g ms r u=0:=λu hu=>by
    rw[h1.mem_erase_iff]at hu;exact hz u hu.2 hu.1
   rw[List.map_congr_left y];generalize p.erase v=q
   induction q with
   |nil=>rfl
   |cons a q ih=>rw[List.map_cons,List.sum_cons];omega
  omega
 rw[hs]at h;unfold gV at h;split at h<;>omega
def lS(g:G)(ms:List Nat)(r:Nat):Nat:=match jh (fL g ms r) (g.from r).order with
 |none=>lR ms (g.n+1) 0
 |some v=>down (fL g ms r) (eR g ms r).kd g.n v
theorem U8(hR:g.Right)(hn:Sm g)(hr:r<g.n)(hm:∀m∈ms,m<g.n)(a:ms.Nodup)(hl:ms.length<g.n):
  lS g ms r<g.n/\lS g ms r∉ms/\((∃v,v<g.n/\0<fL g ms r v)->0<fL g ms r (lS g ms r)/\dG g ms r (lS g ms r)<aF (g.from r).aH (lS g ms r)/\aF (g.from r).aH (lS g ms r)<aI):=by
 have T:=eX hR hr;have b:∀v,v<g.n->0<fL g ms r v->v∈(g.from r).order:=λv hv h=>by
  by_cases ho:v∈(g.from r).order
  ·exact ho
  ·have :=ahl hR hn hr hm hv ho;omega
 unfold lS;rcases pF (f:=fL g ms r) (l:=(g.from r).order)with ⟨e,h⟩|⟨w,e,h1,h2,h3⟩
 ·rw[e];dsimp only;obtain⟨f1,_,f3⟩:=U7 (ms:=ms) (k:=g.n+1) (v:=0) (λu hu=>by omega) (by omega) a;refine⟨by omega,f1,λ⟨v,hv,hp⟩=> ?_⟩;have :=h v (b v hv hp);omega
 ·rw[e];dsimp only;have c:∀v,∀w∈(eR g ms r).kd v,(g.from r).order.idxOf v<(g.from r).order.idxOf w/\(g.from r).order.idxOf w<g.n:=λv w hw=>by
   obtain⟨q1,_,_,d⟩:=lP T ((BM hR hn hr hm).1 hw);exact⟨d,Nat.lt_of_lt_of_le (List.idxOf_lt_length_of_mem q1) (iL T.nodup T.range)⟩
  have hpos:=U5 (kd:=(eR g ms r).kd) (k:=g.n) h2;have hend:=U6 (f:=fL g ms r) c (k:=g.n) (v:=w) (by omega);have i:∀k v,v∈(g.from r).order->down (fL g ms r) (eR g ms r).kd k v∈(g.from r).order:=λk=>by
   induction k with
   |zero=>exact λv h=>h
   |succ k ih=>
    intro v hv;unfold down;rcases pF (f:=fL g ms r) (l:=(eR g ms r).kd v)with ⟨e,_⟩|⟨w,e,h1,_,_⟩
    ·rw[e];exact hv
    ·rw[e];exact ih w (lP T ((BM hR hn hr hm).1 h1)).1
  have ho:=i g.n w h1;generalize down (fL g ms r) (eR g ms r).kd g.n w=x at hpos hend ho;refine⟨T.range x ho,ahm hR hn hr hm ho hpos,λ_=>⟨hpos,ahn hR hn hr hm ho hpos λw hw=> ?_,(T.oN x (T.range x ho)).1 ho⟩⟩;rcases pF (f:=fL g ms r) (l:=(eR g ms r).kd x)with ⟨_,h⟩|⟨_,e,_⟩
  ·exact h w ((BM hR hn hr hm).2 hw)
  ·rw[hend]at e;cases e
end
open Go
def ny(xs:List Int)(n i:Nat):Nat:=((xs[i]?.map λ(x:Int)=>x.tmod n).getD 0).toNat
def fu(g:G)(xs:List Int):Nat->List Nat
 |0=>[]
 |k+1=>fu g xs k++ [if k=0 then ny xs g.n 0 else lS g (fu g xs k) (ny xs g.n k)]
section
variable{g:G}{xs:List Int}{n k i:Nat}
theorem U9(hn:0<n)(hx:∀x∈xs,0<=x):ny xs n i<n:=by
 unfold ny;cases h:xs[i]? with
 |none=>simpa using hn
 |some x=>
  have h0:=hx x (List.mem_of_getElem? h);have h1:=Int.tmod_lt_of_pos x (show(0:Int)<n by omega);have h2:=Int.tmod_nonneg (n:Int) h0;show(x.tmod n).toNat<n;omega
theorem qy:∀{k:Nat},(fu g xs k).length=k
 |0=>rfl
 |k+1=>by unfold fu;rw[List.length_append,qy];rfl
theorem HI(hR:g.Right)(hn:Sm g)(hx:∀x∈xs,0<=x):∀{k:Nat},k<=g.n->(fu g xs k).Nodup/\∀m∈fu g xs k,m<g.n
 |0,_=>⟨by simp[fu],λm h=>by simp[fu]at h⟩
 | k+1,h=>by
  obtain⟨h1,h2⟩:=HI hR hn hx (k:=k) (by omega);have hr:ny xs g.n k<g.n:=U9 (by omega) hx;unfold fu;by_cases hk:k=0
  ·subst hk;rw[if_pos rfl];refine⟨by simp[fu],λm hm=> ?_⟩;have :m=ny xs g.n 0:=by simpa[fu]using hm
   rw[this];exact hr
  ·rw[if_neg hk];obtain⟨n1,n2,_⟩:=U8 hR hn hr h2 h1 (by rw[qy];omega);refine⟨List.nodup_append.2 ⟨h1,by simp,λa ha b hb e=> ?_⟩,λm hm=> ?_⟩
   ·rw[List.mem_singleton.1 hb]at e;exact n2 (e▸ha)
   ·rcases List.mem_append.1 hm with hm|hm
    ·exact h2 m hm
    ·rw[List.mem_singleton.1 hm];exact n1
end
open Go
open Go
structure SS where
 hp:List HP
 lab:List Int
 dx:List Int
 ord:List Nat
 cK:List Ev
def SS.reach(p:Nat->Int)(s:SS)(v:Nat)(a d:Int):SS:=
 if v∈s.ord\/aI<=p v then s else match lq s.hp v with
 |some was=>if aF s.lab v<=d then s else{s with hp:=((v:Int),d+p v)::s.hp.erase ((v:Int),was),lab:=s.lab.set v d,dx:=s.dx.set v a}
 |none=>{s with hp:=((v:Int),d+p v)::s.hp,lab:=s.lab.set v d,dx:=s.dx.set v a}
def SS.ev(s:SS)(e:Ev):SS:={s with cK:=s.cK++ [e]}
def SS.look(l:List A)(p:Nat->Int)(mk:Nat->Bool)(v:Nat)(s:SS)(i:Nat):SS:=
 if mk i then(s.ev ⟨1,0,i,0⟩).reach p (aD l i).t i (aF s.lab v+(aD l i).w)else s
def SS.scan(l:List A)(p:Nat->Int)(mk:Nat->Bool)(v:Nat)(s:SS)(ids:List Nat):SS:=ids.foldl (SS.look l p mk v) s
def SS.pop(s:SS)(v:Nat)(key:Int):SS:={s with hp:=s.hp.erase ((v:Int),key),ord:=s.ord++ [v],cK:=s.cK++ [⟨0,0,v,aF s.lab v⟩]}
def SS.run(l:List A)(p:Nat->Int)(mk:Nat->Bool)(outs:Nat->List Nat)(to:Nat):Nat->SS->SS×Bool
 |0,s=>(s,false)
 |k+1,s=>match least s.hp with
  |none=>(s,false)
  |some q=>if q.1.toNat=to then(s.pop q.1.toNat q.2,true)else SS.run l p mk outs to k ((s.pop q.1.toNat q.2).scan l p mk q.1.toNat (outs q.1.toNat))
def SS.zero(n:Nat):SS:=⟨[],List.replicate n 0,List.replicate n (-1),[],[]⟩
def SS.start(p:Nat->Int)(n s:Nat):SS:=(SS.zero n).reach p s (-1) 0
theorem SS.qA{p:Nat->Int}{s:SS}{v:Nat}{a d:Int}:(s.reach p v a d).ord=s.ord/\(s.reach p v a d).cK=s.cK:=by
 unfold SS.reach;split
 ·exact⟨rfl,rfl⟩
 ·split
  ·split<;>exact⟨rfl,rfl⟩
  ·exact⟨rfl,rfl⟩
theorem qB{l:List Int}{v u:Nat}{d:Int}(hv:v<l.length):aF (l.set v d) u=if u=v then d else aF l u:=by
 unfold aF;rw[List.getD_eq_getElem?_getD,List.getD_eq_getElem?_getD];by_cases e:u=v
 ·subst e;rw[if_pos rfl,List.getElem?_set_self hv];rfl
 ·rw[if_neg e,List.getElem?_set_ne (λh=>e h.symm)]
theorem SS.ahs{p:Nat->Int}{s:SS}{v u:Nat}{a d:Int}(hv:v<s.lab.length)(hu:u∈s.ord):aF (s.reach p v a d).lab u=aF s.lab u:=by
 unfold SS.reach;split
 ·rfl
 ·rename_i h;have hne:u≠v:=λe=>h (.inl (e▸hu));split
  ·split
   ·rfl
   ·rw[qB hv,if_neg hne]
  ·rw[qB hv,if_neg hne]
def kP(l:List A)(b:List Int)(pre:List Nat)(v:Nat):Prop:=b[v]? =some (-1)\/∃a:Nat,b[v]? =some (a:Int)/\a<l.length/\(aD l a).t=v/\(aD l a).f∈pre
structure dy(l:List A)(n:Nat)(p:Nat->Int)(B:Int)(s:SS):Prop where
 ids:(s.hp.map (·.1)).Nodup
 cr:∀q∈s.hp,∃u:Nat,q.1=u/\u<n/\u∉s.ord/\q.2=aF s.lab u+p u/\p u<aI/\kP l s.dx s.ord u
 lo:∀v,v<n->0<=aF s.lab v/\aF s.lab v<=B
 ord:s.ord.Nodup
 jM:∀v∈s.ord,v<n
 ll:s.lab.length=n
 bl:s.dx.length=n
 ch:∀pre v post,s.ord=pre++v::post->kP l s.dx pre v
variable{l:List A}{n:Nat}{p:Nat->Int}{B:Int}{s:SS}
theorem dy.zero:dy l n p 0 (SS.zero n):=by
 refine⟨by simp[SS.zero],λq hq=>by simp[SS.zero]at hq,λv hv=> ?_,by simp[SS.zero],λv hv=>by simp[SS.zero]at hv,by simp[SS.zero],by simp[SS.zero],λpre v post h=>by simp[SS.zero]at h⟩;have :aF (SS.zero n).lab v=0:=by simp[aF,SS.zero,List.getD_eq_getElem?_getD,hv]
 omega
theorem dy.mono{B':Int}(H:dy l n p B s)(h:B<=B'):dy l n p B' s:={H with lo:=λv hv=>⟨(H.lo v hv).1,by have :=(H.lo v hv).2;omega⟩}
theorem dy.ev(H:dy l n p B s)(e:Ev):dy l n p B (s.ev e):={H with}
theorem dy.len(H:dy l n p B s):s.ord.length<=n:=iL H.ord H.jM
theorem dy.room(H:dy l n p B s)(h:s.hp≠ []):s.ord.length<n:=by
 obtain⟨q,hq⟩:=List.exists_mem_of_ne_nil _ h;obtain⟨u,_,hu,hno,_⟩:=H.cr q hq;have :=iL (n:=n) (l:=u::s.ord) (List.nodup_cons.2 ⟨hno,H.ord⟩) (by
  intro x hx;rcases List.mem_cons.1 hx with rfl|hx
  ·exact hu
  ·exact H.jM x hx)
 simp at this;omega
theorem kP.set{b:List Int}{pre:List Nat}{u v:Nat}{a:Int}(h:kP l b pre u)(hne:u≠v):kP l (b.set v a) pre u:=by
 unfold kP at *;rw[List.getElem?_set_ne (λe=>hne e.symm)];exact h
theorem kP.sub{b:List Int}{pre pre':List Nat}{u:Nat}(h:kP l b pre u)(hs:∀x∈pre,x∈pre'):kP l b pre' u:=by
 rcases h with h|⟨a,h1,h2,h3,h4⟩
 ·exact .inl h
 ·exact .inr ⟨a,h1,h2,h3,hs _ h4⟩
theorem dy.reach(H:dy l n p B s){v:Nat}{a d:Int}(hv:v<n)(h0:0<=d)(hB:d<=B)(ha:a= -1\/∃i:Nat,a=i/\i<l.length/\(aD l i).t=v/\(aD l i).f∈s.ord):dy l n p B (s.reach p v a d):=by
 unfold SS.reach;split
 ·exact H
 ·rename_i hno;have b:v∉s.ord:=λh=>hno (.inl h);have hpv:p v<aI:=by have :¬aI<=p v:=λh=>hno (.inr h);omega
  have hby:kP l (s.dx.set v a) s.ord v:=by
   unfold kP;rw[List.getElem?_set_self (by rw[H.bl];exact hv)];rcases ha with rfl|⟨i,rfl,h1,h2,h3⟩
   ·exact .inl rfl
   ·exact .inr ⟨i,rfl,h1,h2,h3⟩
  have hlo:∀u,u<n->0<=aF (s.lab.set v d) u/\aF (s.lab.set v d) u<=B:=λu hu=>by
   rw[qB (by rw[H.ll];exact hv)];split
   ·exact⟨h0,hB⟩
   ·exact H.lo u hu
  have hch:∀pre u post,s.ord=pre++u::post->kP l (s.dx.set v a) pre u:=λpre u post e=>
   (H.ch pre u post e).set λe'=>b (by rw[e,<-e'];simp)
  have keep:∀q∈s.hp,q.1≠v->∃u:Nat,q.1=u/\u<n/\u∉s.ord/\q.2=aF (s.lab.set v d) u+p u/\p u<aI/\kP l (s.dx.set v a) s.ord u:=λq hq hne=>by
   obtain⟨u,e1,e2,e3,c,g,j⟩:=H.cr q hq;have :u≠v:=λe=>hne (by rw[e1,e]);exact⟨u,e1,e2,e3,by rw[qB (by rw[H.ll];exact hv),if_neg this];exact c,g,j.set this⟩
  have new:∃u:Nat,(((v:Int),d+p v):HP).1=u/\u<n/\u∉s.ord/\(((v:Int),d+p v):HP).2=aF (s.lab.set v d) u+p u/\p u<aI/\kP l (s.dx.set v a) s.ord u:=
   ⟨v,rfl,hv,b,by rw[qB (by rw[H.ll];exact hv),if_pos rfl],hpv,hby⟩
  split
  ·rename_i was hw;split
   ·exact H
   ·have hm:=pZ hw;refine⟨?_,λq hq=> ?_,hlo,H.ord,H.jM,by simp[H.ll],by simp[H.bl],hch⟩
    ·simp only[List.map_cons,List.nodup_cons];refine⟨λhx=> ?_,tn.nodup H.ids⟩;obtain⟨q,hq,he⟩:=List.mem_map.1 hx;exact not_mem_erase H.ids hm hq he
    ·rcases List.mem_cons.1 hq with rfl|hq
     ·exact new
     ·exact keep q (List.mem_of_mem_erase hq) λe=>not_mem_erase H.ids hm hq e
  ·rename_i hw;rw[pY]at hw;refine⟨?_,λq hq=> ?_,hlo,H.ord,H.jM,by simp[H.ll],by simp[H.bl],hch⟩
   ·simp only[List.map_cons,List.nodup_cons];refine⟨λhx=> ?_,H.ids⟩;obtain⟨q,hq,he⟩:=List.mem_map.1 hx;exact hw q hq he
   ·rcases List.mem_cons.1 hq with rfl|hq
    ·exact new
    ·exact keep q hq (hw q hq)
theorem dy.lu(H:dy l n p B s){v:Nat}{key:Int}(h:((v:Int),key)∈s.hp):dy l n p B (s.pop v key):=by
 obtain⟨u,hu,hun,hno,_,_,hby⟩:=H.cr _ h;have hu:v=u:=by simp at hu;omega
 subst hu;refine⟨tn.nodup H.ids,λq hq=> ?_,H.lo,?_,λx hx=> ?_,H.ll,H.bl,λpre x post e=> ?_⟩
 ·obtain⟨w,h1,h2,h3,h4,h5,h6⟩:=H.cr q (List.mem_of_mem_erase hq);refine⟨w,h1,h2,?_,h4,h5,h6.sub λx hx=>List.mem_append_left _ hx⟩;simp only[SS.pop,List.mem_append,List.mem_singleton];rintro(hx|rfl)
  ·exact h3 hx
  ·exact not_mem_erase H.ids h hq h1
 ·simp only[SS.pop];rw[List.nodup_append];refine⟨H.ord,by simp,λa ha b hb=> ?_⟩;simp at hb;subst hb;exact λe=>hno (e▸ha)
 ·simp only[SS.pop,List.mem_append,List.mem_singleton]at hx;rcases hx with hx|rfl
  ·exact H.jM x hx
  ·exact hun
 ·have e:s.ord++ [v]=pre++x::post:=e;rcases List.eq_nil_or_concat post with rfl|⟨post',y,rfl⟩
  ·have :=List.append_inj' e rfl;obtain⟨rfl,e2⟩:=this;injection e2 with e2 _;subst e2;exact hby
  ·rw[List.concat_eq_append,<-List.cons_append,<-List.append_assoc]at e;exact H.ch pre x post' (List.append_inj' e rfl).1
theorem dy.look(H:dy l n p B s)(hh:∀a∈l,a.t<n/\(a.w:Int)<=W){mk:Nat->Bool}{v i:Nat}(hi:i<l.length)(hv:(aD l i).f=v)(b:v∈s.ord)(hB:aF s.lab v+W<=B):dy l n p B (SS.look l p mk v s i):=by
 unfold SS.look;split
 ·have ha:aD l i∈l:=by simp[aD,hi]
  have h1:=hh _ ha;have h2:=H.lo v (H.jM v b);exact(H.ev _).reach h1.1 (by omega) (by omega) (.inr ⟨i,rfl,hi,rfl,by rw[hv];exact b⟩)
 ·exact H
theorem SS.Vb{mk:Nat->Bool}{v i:Nat}:(SS.look l p mk v s i).ord=s.ord:=by
 unfold SS.look;split
 ·exact SS.qA.1
 ·rfl
theorem SS.HN(H:dy l n p B s)(hh:∀a∈l,a.t<n/\(a.w:Int)<=W){mk:Nat->Bool}{v i u:Nat}(hi:i<l.length)(hu:u∈s.ord):aF (SS.look l p mk v s i).lab u=aF s.lab u:=by
 unfold SS.look;split
 ·have ha:aD l i∈l:=by simp[aD,hi]
  exact SS.ahs (s:=s.ev _) (by rw[show(s.ev ⟨1,0,i,0⟩).lab=s.lab from rfl,H.ll];exact(hh _ ha).1) hu
 ·rfl
theorem SS.BO(hh:∀a∈l,a.t<n/\(a.w:Int)<=W){mk:Nat->Bool}{v:Nat}:∀{ids:List Nat}{s:SS},dy l n p B s->(∀i∈ids,i<l.length/\(aD l i).f=v)->v∈s.ord->aF s.lab v+W<=B->
  dy l n p B (s.scan l p mk v ids)/\(s.scan l p mk v ids).ord=s.ord/\∀u∈s.ord,aF (s.scan l p mk v ids).lab u=aF s.lab u
 | [],s,H,_,_,_=>⟨H,rfl,λ_ _=>rfl⟩
 |i::ids,s,H,hi,d,hB=>by
  have h1:=hi i List.mem_cons_self;have hl:=SS.HN (p:=p) (mk:=mk) (v:=v) H hh h1.1 d;have ho:(SS.look l p mk v s i).ord=s.ord:=SS.Vb;obtain⟨a,b,c⟩:=SS.BO hh (mk:=mk) (ids:=ids) (H.look hh (mk:=mk) h1.1 h1.2 d hB) (λj hj=>hi j (List.mem_cons_of_mem _ hj)) (by rw[ho];exact d) (by rw[hl];exact hB);refine⟨a,b.trans ho,λu hu=>(c u (by rw[ho];exact hu)).trans (SS.HN H hh h1.1 hu)⟩
def kQ(l:List A)(b:List Int):Nat->List Nat->Prop
 |v,[]=>b[v]? =some (-1)
 |v,a::r=>b[v]? =some (a:Int)/\a<l.length/\kQ l b (aD l a).f r
theorem dy.chain(H:dy l n p B s):∀(k:Nat)(pre post:List Nat)(v:Nat),pre.length<=k->s.ord=pre++v::post->∃cs,kQ l s.dx v cs/\cs.length<=pre.length
 | k,pre,post,v,hk,e=>by
  rcases H.ch pre v post e with h|⟨a,h1,h2,h3,h4⟩
  ·exact⟨[],h,Nat.zero_le _⟩
  ·obtain⟨pre',post',e'⟩:=List.append_of_mem h4;cases k with
   |zero=>
    have :pre=[]:=List.length_eq_zero_iff.1 (by omega);rw[this]at h4;cases h4
   |succ k=>
    obtain⟨cs,c1,c2⟩:=H.chain k pre' (post'++v::post) (aD l a).f (by rw[e']at hk;simp at hk;omega) (by rw[e,e'];simp);refine⟨a::cs,⟨h1,h2,c1⟩,?_⟩;rw[e'];simp;omega
open Go
theorem dy.aht{l:List A}{n:Nat}{p:Nat->Int}{B:Int}{s:SS}(H:dy l n p B s):s.hp.length<=n:=by
 have :(s.hp.map (·.1.toNat)).length<=n:=iL (by
  have :s.hp.map (·.1.toNat)=(s.hp.map (·.1)).map Int.toNat:=by simp
  rw[this,List.nodup_iff_pairwise_ne,List.pairwise_map];refine(List.nodup_iff_pairwise_ne.1 H.ids).imp_of_mem λ{x y} hx hy hne e=>hne ?_;obtain⟨q,hq,rfl⟩:=List.mem_map.1 hx;obtain⟨t,ht,rfl⟩:=List.mem_map.1 hy;obtain⟨u,e1,_⟩:=H.cr q hq;obtain⟨w,e2,_⟩:=H.cr t ht;rw[e1,e2]at e ⊢;have e':u=w:=by simpa using e
  rw[e']) (λx hx=>by
  obtain⟨q,hq,rfl⟩:=List.mem_map.1 hx;obtain⟨u,e1,e2,_⟩:=H.cr q hq;rw[e1];simpa using e2)
 simpa using this
def jX(n:Nat)(ord:List Nat):List Bool:=(List.range n).map λv=>decide (v∈ord)
theorem BP{n v:Nat}{ord:List Nat}(hv:v<n):(jX n ord)[v]'(by simpa[jX]using hv)=decide (v∈ord):=by simp[jX]
theorem Vc{n:Nat}{ord:List Nat}:(jX n ord).length=n:=by simp[jX]
theorem ahu{n v:Nat}{ord:List Nat}:(jX n ord).set v true=jX n (ord++ [v]):=by
 apply List.ext_getElem (by simp[jX]);intro i h1 h2;have hi:i<n:=by simpa[jX]using h2
 rw[BP hi,List.getElem_set];split
 ·rename_i e;rw[e];simp
 ·rename_i e;rw[BP hi];apply decide_eq_decide.2;rw[List.mem_append,List.mem_singleton];exact⟨.inl,λh=>h.resolve_right λe'=>e e'.symm⟩
theorem ahv{n:Nat}:List.replicate n false=jX n []:=by
 apply List.ext_getElem (by simp[jX]);intro i h1 h2;have hi:i<n:=by simpa[jX]using h2
 rw[BP hi];simp
def eV(al:List Bool)(i:Nat):Bool:=al.isEmpty||al.getD i false
def cQ(pl:List Int)(v:Nat):Int:=if pl.isEmpty then 0 else max (-aI) (pl.getD v 0)
theorem ahw{pl:List Int}{v:Nat}: -aI<=cQ pl v:=by
 unfold cQ;split
 ·decide
 ·exact Int.le_max_left _ _
open Go
section
variable{Q:Qs}{S:BW}
structure BQ(Q:Qs)(x:Bool)(v:Nat)(d:Int)(S1:BW)(B:Bool->Int):Prop where
 bi:BI Q S1 B
 mem:v∈(S1.sd x).ord
 lab:(S1.sd x).lab v=some d
 max:Q.gp->∀c∈(S1.sd x).ord,∀dc,(S1.sd x).lab (c:Int)=some dc->2*dc+Q.cw x c<=2*d+Q.cw x v
 z:Q.cB (Q.src x)=true->(S1.sd x).lab (Q.src x)=some 0
 bd:d+W<=B x
 d0:0<=d
 aI:∀x,B x<=aI
theorem dO.lu{st:List dh}(R:dO Q S st)(hQ:Q.Ok){x:Bool}(hn:S.next=some x):
  ∃(v:Nat)(k d:Int),Mh.least (S.sd x).hp=some ((v:Int),k)/\v<Q.g.n/\v∉(S.sd x).ord/\(S.sd x).lab v=some d/\∃B,BQ Q x v d (Q.pop x ((v:Int),k) S) B:=by
 obtain⟨⟨z,k⟩,q,hp,hq,hlt,hle⟩:=UY hn;have hm:=iw hp;obtain⟨v,e,_⟩:=(R.bi.si x).cr _ hm.1;have e:z=(v:Int):=e;subst e;obtain⟨P1,P2,j,s,⟨d,f,l,o,t⟩,p⟩:=(R.bi.si x).pop hm.1 hm.2;refine⟨v,k,d,hp,j,P2,f,λy=>if y=x then(S.sd x).ord.length*W+W else(S.sd y).ord.length*W,?_⟩;have b:(Q.pop x ((v:Int),k) S).sd=eH S.sd x ((S.sd x).pop v k):=by
  show eH S.sd x ((S.sd x).pop ((v:Int)).toNat k)=_;rw[Int.toNat_natCast]
 have hdist:(Q.pop x ((v:Int),k) S).aH=S.aH:=rfl;have i:(Q.pop x ((v:Int),k) S).meet=S.meet:=rfl;generalize Q.pop x ((v:Int),k) S=S1 at b hdist i;have hx:S1.sd x=(S.sd x).pop v k:=by rw[b,kO]
 have a:∀y z,(S1.sd y).lab z=(S.sd y).lab z:=λy z=>by
  by_cases h:y=x
  ·subst h;rw[hx];rfl
  ·rw[b,xW h]
 have w:=hQ.r.most;have hW:(0:Int)<=W:=by decide
 have A:(16777216:Int)*W<aI:=by decide
 have hb:∀m:Nat,m<=Q.g.n->(m:Int)*W<=16777216*W:=λm hm=>Int.mul_le_mul_of_nonneg_right (by omega) hW;refine⟨⟨λy=> ?_,λy u e e' h1 h2=> ?_,?_,by rw[hdist];exact R.bi.c3⟩,by rw[hx];exact List.mem_append_right _ List.mem_cons_self,(a x v).trans f,λhF c hc dc hdc=> ?_,λh=>(a x _).trans (R.z x h),?_,o,λy=> ?_⟩
 ·by_cases h:y=x
  ·subst h;rw[hx,if_pos rfl];exact P1.more (by omega)
  ·rw[b,xW h,if_neg h];exact R.bi.si y
 ·rw[a]at h1 h2;rw[hdist];exact R.bi.c1 y u e e' h1 h2
 ·rw[hdist,i];refine R.bi.c2.imp id λ⟨u,d0,d1,h1,h2,h3,h4⟩=>⟨u,d0,d1,h1,?_,?_,h4⟩
  ·rw[a];exact h2
  ·rw[a];exact h3
 ·rw[hx]at hc;rw[a]at hdc;rw[<-l];exact p hF c hc dc hdc
 ·rw[if_pos rfl];omega
 ·show(if y=x then _ else _)<=aI;split
  ·have h1:((S.sd x).ord++ [v]).length<=Q.g.n:=P1.qv;rw[List.length_append,List.length_singleton]at h1;have :=hb _ h1;rw[Int.natCast_add,Int.add_mul]at this;have e1:((1:Nat):Int)*W=W:=Int.one_mul _;omega
  ·have :=hb _ (R.bi.si y).qv;omega
theorem BQ.scan(hQ:Q.Ok){x:Bool}{v:Nat}{d:Int}{S1:BW}{B:Bool->Int}(P:BQ Q x v d S1 B){ids:List Nat}(a:∀i∈ids,i<Q.g.ag.length/\c7 x (aD Q.g.ag i)=v):
  BQ Q x v d (Q.scan x v S1 ids) B:=by
 obtain⟨g1,g2,_,_,g5⟩:=BI.scan hQ P.bd P.bi P.mem P.lab P.max a P.z;refine⟨g1,by rw[g2.ord];exact P.mem,(g2.same v P.mem).trans P.lab,λhF c hc dc hdc=> ?_,g5,P.bd,P.d0,P.aI⟩;rw[g2.ord]at hc;rw[g2.same c hc]at hdc;exact P.max hF c hc dc hdc
theorem Vd{x:Bool}{v:Nat}{S1:BW}{ids:List Nat}{k:Nat}(hk:k<ids.length):Q.scan x v S1 (ids.take (k+1))=Q.gq x v (Q.scan x v S1 (ids.take k)) ids[k]:=by
 unfold Qs.scan;rw[List.take_succ_eq_append_getElem hk,List.foldl_append];rfl
theorem HO{x:Bool}{v:Nat}:∀{ids:List Nat}{S1:BW},(Q.scan x v S1 ids).ev.length<=S1.ev.length+ids.length
 | [],S1=>Nat.le_refl _
 | i::ids,S1=>by
  have h1:=HO (x:=x) (v:=v) (ids:=ids) (S1:=Q.gq x v S1 i);have h2:(Q.gq x v S1 i).ev.length<=S1.ev.length+1:=by
   unfold Qs.gq;split
   ·rw[UW];simp
   ·omega
  show(Q.scan x v (Q.gq x v S1 i) ids).ev.length<=_;rw[List.length_cons];omega
end
open Go
def HQ(n m:Nat)(e:Ev):Nat:=if e.kind=0 then(if e.side=0 then e.id.toNat else n+e.id.toNat)else 2*n+(if e.side=0 then e.id.toNat else m+e.id.toNat)
theorem Ve{n m:Nat}{l:List Ev}(h:mE n m l):l.length<=2*n+2*m:=by
 obtain⟨h1,h2⟩:=UL.1 h;have dG:∀e∈l,0<=e.id/\(e.kind=0/\e.id<n\/e.kind=1/\e.id<m)/\(e.side=0\/e.side=1):=λe he=>by
  obtain⟨a,b,c,_⟩:=of_decide_eq_true (h1 e he);refine⟨a,?_,c⟩;unfold kM at b;split at b
  ·exact .inl ⟨by assumption,b⟩
  ·split at b
   ·exact .inr ⟨by assumption,b⟩
   ·omega
 have :(l.map (HQ n m)).length<=2*n+2*m:=by
  refine iL ?_ λz hz=> ?_
  ·rw[List.nodup_iff_pairwise_ne,List.pairwise_map];rw[List.nodup_iff_pairwise_ne,List.pairwise_map]at h2;refine h2.imp_of_mem λ{a b} ha hb hne e=>hne ?_;obtain⟨a1,a2,a3⟩:=dG a ha;obtain⟨b1,b2,b3⟩:=dG b hb;have key:a.kind=b.kind/\a.side=b.side/\a.id=b.id:=by
    unfold HQ at e;rcases a2 with ⟨a2,a4⟩|⟨a2,a4⟩<;>rcases b2 with ⟨b2,b4⟩|⟨b2,b4⟩<;>rcases a3 with a3|a3<;>rcases b3 with b3|b3<;>simp[a2,b2,a3,b3]at e<;>(refine⟨?_,?_,?_⟩<;>omega)
   unfold Ev.key;rw[key.1,key.2.1,key.2.2]
  ·obtain⟨e,he,rfl⟩:=List.mem_map.1 hz;obtain⟨a1,a2,a3⟩:=dG e he;unfold HQ;rcases a2 with ⟨a2,a4⟩|⟨a2,a4⟩<;>rcases a3 with a3|a3<;>simp only[a2,a3]<;>simp <;>omega
 rwa[List.length_map]at this
section
variable{Q:Qs}{S:BW}{st:List dh}
theorem dO.lt(R:dO Q S st):∀s∈st,s.v<Q.g.n:=λs hs=>by
 obtain⟨u,e,h,_⟩:=(R.bi.si s.x).lab _ _ (R.s2 s hs);obtain rfl:=Int.ofNat.inj e;exact h
theorem dO.once(R:dO Q S st):mE Q.g.n Q.g.ag.length S.ev:=by
 rw[R.ev];refine UM (uC.filter Q.iQ) R.lt (ag6 λx=> ?_);rw[R.s1];exact(R.bi.si x).ord
theorem dO.HS(R:dO Q S st):lN Q.g S.ev:=by
 rw[R.ev];exact UO (uC.filter Q.iQ) R.lt
theorem dO.HU(R:dO Q S st)(hQ:Q.Ok):S.ev.length<=2^32:=by
 have h1:=Ve R.once;have h2:=hQ.r.most;have h3:=hQ.r.many;omega
end
open Go
section
variable{g:G}{mk:Nat->Bool}{p:Nat->Int}{fr v:Nat}{s:SS}{B:Int}{done:List Nat}
def gp(g:G)(mk:Nat->Bool)(p:Nat->Int):Prop:=∀i,i<g.ag.length->mk i=true->p (aD g.ag i).t<aI->p (aD g.ag i).f<=(aD g.ag i).w+p (aD g.ag i).t
def ko(s:SS)(v:Nat):Prop:=v∈s.ord\/∃k,((v:Int),k)∈s.hp
structure gH(g:G)(mk:Nat->Bool)(p:Nat->Int)(fr:Nat)(done:List Nat)(s:SS):Prop where
 rel:∀i∈done,i<g.ag.length->mk i=true->p (aD g.ag i).t<aI->(aD g.ag i).f∈s.ord/\ko s (aD g.ag i).t/\aF s.lab (aD g.ag i).t<=aF s.lab (aD g.ag i).f+(aD g.ag i).w
 mono:∀v∈s.ord,∀q∈s.hp,aF s.lab v+p v<=q.2
 src:∀v,ko s v->(v=fr/\aF s.lab v=0/\s.dx[v]? =some (-1))\/∃a:Nat,s.dx[v]? =some (a:Int)/\a<g.ag.length/\mk a=true/\(aD g.ag a).t=v/\(aD g.ag a).f∈s.ord/\aF s.lab v=aF s.lab (aD g.ag a).f+(aD g.ag a).w
 fz:p fr<aI->ko s fr/\aF s.lab fr=0
theorem dy.key{l:List A}{n:Nat}(H:dy l n p B s){v:Nat}{k:Int}(h:((v:Int),k)∈s.hp):k=aF s.lab v+p v/\v<n/\v∉s.ord:=by
 obtain⟨u,e1,e2,e3,a,_⟩:=H.cr _ h;have :v=u:=by simp at e1;omega
 subst this;exact⟨a,e2,e3⟩
theorem gH.look (hR:g.Right) (hF:gp g mk p) (A:gH g mk p fr done s) (H:dy g.ag g.n p B s) (hv:v∈s.ord) (hl:∀u∈s.ord,aF s.lab u+p u<=aF s.lab v+p v) {i:Nat} (hi:i<g.ag.length) (hf:(aD g.ag i).f=v):
  gH g mk p fr (i::done) (SS.look g.ag p mk v s i):=by
 have ha:aD g.ag i∈g.ag:=by simp[aD,hi]
 have c:=(hR.ends _ ha).2.1;have m:=H.jM v hv;have keep:∀{s':SS},s'.ord=s.ord->s'.hp=s.hp->s'.lab=s.lab->s'.dx=s.dx->(mk i=true->p (aD g.ag i).t<aI->ko s (aD g.ag i).t/\aF s.lab (aD g.ag i).t<=aF s.lab v+(aD g.ag i).w)->gH g mk p fr (i::done) s':=by
  intro s' e1 e2 e3 o h;have b:∀u,ko s' u↔ko s u:=λu=>by unfold ko;rw[e1,e2]
  refine⟨λj hj h1 h2 h3=> ?_,λu hu q hq=> ?_,λu hu=> ?_,λh=>by rw[b,e3];exact A.fz h⟩
  ·rw[e1,b,e3];rcases List.mem_cons.1 hj with rfl|hj
   ·rw[hf];exact⟨hv,h h2 h3⟩
   ·exact A.rel j hj h1 h2 h3
  ·rw[e3];exact A.mono u (e1▸hu) q (e2▸hq)
  ·rw[e1,e3,o];exact A.src u ((b u).1 hu)
 unfold SS.look;by_cases hm:mk i=true
 ·rw [if_pos hm];unfold SS.reach;by_cases hc:(aD g.ag i).t∈(s.ev ⟨1,0,i,0⟩).ord\/aI<=p (aD g.ag i).t
  ·rw[if_pos hc];refine keep rfl rfl rfl rfl λ_ hp=> ?_;have hc:(aD g.ag i).t∈s.ord:=hc.resolve_right (by omega);refine⟨.inl hc,?_⟩;have h1:=hl _ hc;have h2:=hF i hi hm hp;rw[hf]at h2;omega
  ·rw [if_neg hc];have hc1:(aD g.ag i).t∉s.ord:=λh=>hc (.inl h);have d:p (aD g.ag i).t<aI:=by have :¬aI<=p (aD g.ag i).t:=λh=>hc (.inr h);omega
   have l:=hF i hi hm d;rw[hf]at l;generalize ht:(aD g.ag i).t=t at hc1 d l c ⊢;have hwi:(0:Int)<=(aD g.ag i).w:=Int.natCast_nonneg _
   have new:∀(hp':List HP),(∀q∈hp',q=((t:Int),aF s.lab v+(aD g.ag i).w+p t)\/q∈s.hp)->((t:Int),aF s.lab v+(aD g.ag i).w+p t)∈hp'->(∀q∈s.hp,q.1≠t->q∈hp')->(ko s t->aF s.lab v+(aD g.ag i).w<aF s.lab t)->
     gH g mk p fr (i::done) {(s.ev ⟨1,0,i,0⟩)with hp:=hp',lab:=s.lab.set t (aF s.lab v+(aD g.ag i).w),dx:=s.dx.set t i}:=by
    intro hp' h1 h2 h3 h4;have lb:∀u,aF (s.lab.set t (aF s.lab v+(aD g.ag i).w)) u=if u=t then aF s.lab v+(aD g.ag i).w else aF s.lab u:=λu=>qB (by rw[H.ll];exact c);have lo:∀u∈s.ord,aF (s.lab.set t (aF s.lab v+(aD g.ag i).w)) u=aF s.lab u:=λu hu=>by rw[lb,if_neg (λe:u=t=>hc1 (by rw[<-e];exact hu))]
    have b:∀u,ko s u->u∈s.ord\/∃k,((u:Int),k)∈hp':=λu hu=>by
     rcases hu with hu|⟨k,hu⟩
     ·exact .inl hu
     ·by_cases e:u=t
      ·subst e;exact .inr ⟨_,h2⟩
      ·exact .inr ⟨k,h3 _ hu (by simpa using λe'=>e (by omega))⟩
    refine⟨λj hj q1 q2 r=> ?_,λu hu q hq=> ?_,λu hu=> ?_,λhp=> ?_⟩
    ·rcases List.mem_cons.1 hj with rfl|hj
     ·refine⟨by rw[hf];exact hv,.inr ⟨_,by rw[ht];exact h2⟩,?_⟩;show aF (s.lab.set t _) _<=aF (s.lab.set t _) _+_;rw[ht,hf,lb,if_pos rfl,lo v hv];exact Int.le_refl _
     ·obtain⟨r1,r2,r3⟩:=A.rel j hj q1 q2 r;refine⟨r1,b _ r2,?_⟩;show aF (s.lab.set t _) _<=aF (s.lab.set t _) _+_;rw[lo _ r1,lb];split
      ·rename_i e;have :=h4 (e▸r2);rw[e]at r3;omega
      ·exact r3
    ·show aF (s.lab.set t _) u+p u<=q.2;rw[lo u hu];rcases h1 q hq with rfl|hq
     ·have :=hl u hu;show _<=aF s.lab v+(aD g.ag i).w+p t;omega
     ·exact A.mono u hu q hq
    ·by_cases e:u=t
     ·subst e;refine .inr ⟨i,?_,hi,hm,ht,by rw[hf];exact hv,?_⟩
      ·show(s.dx.set u i)[u]? =_;rw[List.getElem?_set_self (by rw[H.bl];exact c)]
      ·show aF (s.lab.set u _) u=aF (s.lab.set u _) _+_;rw[hf,lo v hv,lb,if_pos rfl]
     ·have hk:ko s u:=by
       rcases hu with hu|⟨k,hu⟩
       ·exact .inl hu
       ·rcases h1 _ hu with e'|hu
        ·exact absurd (by injection e' with e1 _;omega) e
        ·exact .inr ⟨k,hu⟩
      have eb:(s.dx.set t (i:Int))[u]? =s.dx[u]? :=List.getElem?_set_ne (λh=>e h.symm);have el:aF (s.lab.set t (aF s.lab v+(aD g.ag i).w)) u=aF s.lab u:=by rw[lb,if_neg e]
      rcases A.src u hk with ⟨a1,a2,a3⟩|⟨a,a1,a2,a3,a4,a5,a6⟩
      ·exact .inl ⟨a1,by show aF (s.lab.set t _) u=0;rw[el];exact a2,by show(s.dx.set t _)[u]? =_;rw[eb];exact a3⟩
      ·exact .inr ⟨a,by show(s.dx.set t _)[u]? =_;rw[eb];exact a1,a2,a3,a4,a5,by show aF (s.lab.set t _) u=aF (s.lab.set t _) _+_;rw[el,lo _ a5];exact a6⟩
    ·obtain⟨q1,q2⟩:=A.fz hp;refine⟨b _ q1,?_⟩;show aF (s.lab.set t _) fr=0;rw[lb,if_neg]
     ·exact q2
     ·rintro rfl;have :=h4 q1;have :=(H.lo v m).1;omega
   show gH g mk p fr (i::done) (match lq s.hp t with
    |some was=>if aF s.lab t<=aF s.lab v+(aD g.ag i).w then s.ev ⟨1,0,i,0⟩else{(s.ev ⟨1,0,i,0⟩)with hp:=((t:Int),aF s.lab v+(aD g.ag i).w+p t)::s.hp.erase ((t:Int),was),lab:=s.lab.set t (aF s.lab v+(aD g.ag i).w),dx:=s.dx.set t i}
    |none=>{(s.ev ⟨1,0,i,0⟩)with hp:=((t:Int),aF s.lab v+(aD g.ag i).w+p t)::s.hp,lab:=s.lab.set t (aF s.lab v+(aD g.ag i).w),dx:=s.dx.set t i})
   split
   ·rename_i was hw;have hm':=pZ hw;split
    ·rename_i hle;refine keep rfl rfl rfl rfl λ_ _=> ?_;rw[ht];exact⟨.inr ⟨_,hm'⟩,hle⟩
    ·rename_i hle;refine new _ (λq hq=> ?_) List.mem_cons_self (λq hq hne=>List.mem_cons_of_mem _ ((List.mem_erase_of_ne λe=>hne (by rw[e])).2 hq)) λ_=>by omega
     rcases List.mem_cons.1 hq with rfl|hq
     ·exact .inl rfl
     ·exact .inr (List.mem_of_mem_erase hq)
   ·rename_i hw;rw[pY]at hw;refine new _ (λq hq=>List.mem_cons.1 hq) List.mem_cons_self (λq hq _=>List.mem_cons_of_mem _ hq) λhk=> ?_;rcases hk with hk|⟨k,hk⟩
    ·exact absurd hk hc1
    ·exact absurd rfl (hw _ hk)
 ·rw[if_neg hm];exact keep rfl rfl rfl rfl λh=>absurd h hm
theorem gH.scan(hR:g.Right)(hF:gp g mk p){v:Nat}:∀{ids:List Nat}{s:SS}{done:List Nat},gH g mk p fr done s->dy g.ag g.n p B s->v∈s.ord->(∀u∈s.ord,aF s.lab u+p u<=aF s.lab v+p v)->
  (∀i∈ids,i<g.ag.length/\(aD g.ag i).f=v)->aF s.lab v+W<=B->gH g mk p fr (ids.reverse++done) (s.scan g.ag p mk v ids)
 | [],_,_,A,_,_,_,_,_=>A
 | i::ids,s,done,A,H,hv,hl,hi,hB=>by
  have h1:=hi i List.mem_cons_self;have hh:∀a∈g.ag,a.t<g.n/\(a.w:Int)<=W:=λa ha=>⟨(hR.ends a ha).2.1,by have :=(hR.ends a ha).2.2;unfold W;omega⟩;have ho:(SS.look g.ag p mk v s i).ord=s.ord:=SS.Vb;have b:∀u∈s.ord,aF (SS.look g.ag p mk v s i).lab u=aF s.lab u:=λu hu=>SS.HN H hh h1.1 hu;have :=gH.scan hR hF (v:=v) (ids:=ids) (A.look hR hF H hv hl h1.1 h1.2) (H.look hh (mk:=mk) h1.1 h1.2 hv hB) (by rw[ho];exact hv) (λu hu=>by
   rw[ho]at hu;rw[b u hu,b v hv];exact hl u hu) (λj hj=>hi j (List.mem_cons_of_mem _ hj)) (by rw[b v hv];exact hB)
  rw[List.reverse_cons,List.append_assoc];exact this
theorem gH.pop(A:gH g mk p fr done s)(H:dy g.ag g.n p B s){v:Nat}{key:Int}(hl:least s.hp=some ((v:Int),key)):gH g mk p fr done (s.pop v key):=by
 obtain⟨hm,hle⟩:=iw hl;have hk:=H.key hm;have up:∀{u},u∈s.ord->u∈s.ord++ [v]:=λh=>List.mem_append_left _ h;have d:∀{u},ko s u->ko (s.pop v key) u:=λ{u} h=>by
  rcases h with h|⟨k,h⟩
  ·exact .inl (up h)
  ·by_cases e:u=v
   ·exact .inl (by show u∈s.ord++ [v];simp[e])
   ·exact .inr ⟨k,(List.mem_erase_of_ne λe'=>e (by injection e' with e1 _;omega)).2 h⟩
 refine⟨λi hi h1 h2 h3=> ?_,λu hu q hq=> ?_,λu hu=> ?_,λh=>⟨d (A.fz h).1,(A.fz h).2⟩⟩
 ·obtain⟨a,b,c⟩:=A.rel i hi h1 h2 h3;exact⟨up a,d b,c⟩
 ·have j:q∈s.hp:=List.mem_of_mem_erase hq;have hu:u∈s.ord++ [v]:=hu;rcases List.mem_append.1 hu with hu|hu
  ·exact A.mono u hu q j
  ·simp at hu;subst hu;have :=hle q j;rw[mq]at this;show aF s.lab u+p u<=_;omega
 ·have :ko s u:=by
   rcases hu with hu|⟨k,hu⟩
   ·have hu:u∈s.ord++ [v]:=hu;rcases List.mem_append.1 hu with hu|hu
    ·exact .inl hu
    ·simp at hu;subst hu;exact .inr ⟨key,hm⟩
   ·exact .inr ⟨k,List.mem_of_mem_erase hu⟩
  rcases A.src u this with h|⟨a,a1,a2,a3,a4,a5,a6⟩
  ·exact .inl h
  ·exact .inr ⟨a,a1,a2,a3,a4,up a5,a6⟩
def oS(g:G)(mk:Nat->Bool)(x:Bool)(v:Nat):List Nat:=(gz g x v).filter mk
structure HW(g:G)(mk:Nat->Bool)(s:SS)(st:List dh):Prop where
 e1:s.cK=cK (oS g mk) st
 e2:st.map dh.v=s.ord
 e3:∀e∈st,e.x=false/\e.d=aF s.lab e.v
theorem Vf{l:List A}{v:Nat}:∀{ids:List Nat}{s:SS},(s.scan l p mk v ids).cK=s.cK++(ids.filter mk).map (hG false)
 | [],s=>by simp[SS.scan]
 | i::ids,s=>by
  show((SS.look l p mk v s i).scan l p mk v ids).cK=_;rw[Vf,List.filter_cons];unfold SS.look;split
  ·rw[SS.qA.2,List.map_cons,List.append_cons];rfl
  ·rfl
structure Stop(g:G)(mk:Nat->Bool)(p:Nat->Int)(fr to:Nat)(done:List Nat)(s:SS)(st:List dh)(f:SS×Bool):Prop where
 a:gH g mk p fr done s
 h:dy g.ag g.n p (s.ord.length*W) s
 e:HW g mk s st
 no:to∉s.ord
 cl:∀u∈s.ord,∀i∈g.out u,i∈done
 is:(s.hp=[]/\f=(s,false))\/∃key,least s.hp=some ((to:Int),key)/\f=(s.pop to key,true)
theorem gH.run(hR:g.Right)(hF:gp g mk p){to:Nat}(k:Nat):∀{s:SS}{done:List Nat}{st:List dh},gH g mk p fr done s->dy g.ag g.n p (s.ord.length*W) s->HW g mk s st->to∉s.ord->(∀u∈s.ord,∀i∈g.out u,i∈done)->
  g.n+1<=k+s.ord.length->∃done s' st,Stop g mk p fr to done s' st (SS.run g.ag p mk g.out to k s):=by
 induction k with
 |zero=>intro s done st A H E hno b hk;have :=H.len;omega
 | succ k ih=>
  intro s done st A H E hno b hk;rw[SS.run];cases hl:least s.hp with
  |none=>exact⟨done,s,st,A,H,E,hno,b,.inl ⟨rq.1 hl,rfl⟩⟩
  | some q=>
   have hm:=(iw hl).1;obtain⟨w,e,hwn,r,hkey,_,_⟩:=H.cr q hm;obtain⟨pv,key⟩:=q;dsimp only at e hkey ⊢;subst e;rw[Int.toNat_natCast];by_cases c:w=to
   ·subst c;rw[if_pos rfl];exact⟨done,s,st,A,H,E,hno,b,.inr ⟨key,hl,rfl⟩⟩
   ·rw[if_neg c];have hh:∀a∈g.ag,a.t<g.n/\(a.w:Int)<=W:=λa ha=>⟨(hR.ends a ha).2.1,by have :=(hR.ends a ha).2.2;unfold W;omega⟩;have hW:(0:Int)<=W:=by decide
    have j:∀i∈g.out w,i<g.ag.length/\(aD g.ag i).f=w:=(ru hR).1 w hwn;have H1:=(H.lu hm).mono (B':=s.ord.length*W+W) (by omega);have m:=A.pop H hl;have d:w∈(s.pop w key).ord:=by show w∈s.ord++ [w];simp
    have l:aF (s.pop w key).lab w+W<=s.ord.length*W+W:=by have :=(H.lo w hwn).2;show aF s.lab w+W<=_;omega
    have hle:∀u∈(s.pop w key).ord,aF (s.pop w key).lab u+p u<=aF (s.pop w key).lab w+p w:=λu hu=>by
     have hu:u∈s.ord++ [w]:=hu;show aF s.lab u+p u<=aF s.lab w+p w;rcases List.mem_append.1 hu with hu|hu
     ·have :=A.mono u hu _ hm;dsimp only at this;omega
     ·simp at hu;subst hu;exact Int.le_refl _
    obtain⟨f1,f2,f3⟩:=SS.BO (p:=p) (mk:=mk) hh H1 j d l;have o:=gH.scan hR hF m H1 d hle j l;have ho:((s.pop w key).scan g.ag p mk w (g.out w)).ord=s.ord++ [w]:=f2;refine ih o (f1.mono ?_) (st:=st++ [⟨false,w,aF s.lab w⟩]) ⟨?_,?_,λe he=> ?_⟩ ?_ (λu hu i hi=> ?_) ?_
    ·rw[ho,List.length_append,List.length_singleton,Int.natCast_add,Int.add_mul];show _<=_+1*W;omega
    ·rw[Vf,Hq,Hr];show(s.cK++ [_])++_=_;rw[E.e1,List.append_assoc];rfl
    ·rw[ho,List.map_append,E.e2];rfl
    ·rcases List.mem_append.1 he with he|he
     ·obtain⟨h1,h2⟩:=E.e3 e he;refine⟨h1,h2.trans (f3 e.v ?_).symm⟩;show e.v∈s.ord++ [w];rw[<-E.e2];exact List.mem_append_left _ (List.mem_map_of_mem he)
     ·simp at he;subst he;exact⟨rfl,(f3 w d).symm⟩
    ·rw[ho,List.mem_append,List.mem_singleton];rintro(h|h)
     ·exact hno h
     ·exact c h.symm
    ·rw[ho]at hu;rcases List.mem_append.1 hu with hu|hu
     ·exact List.mem_append_right _ (b u hu i hi)
     ·simp at hu;subst hu;exact List.mem_append_left _ (List.mem_reverse.2 hi)
    ·rw[ho,List.length_append,List.length_singleton];omega
theorem ye{to:Nat}(hF:gp g mk p)(hz:p to=0):∀{r:List Nat}{u:Nat},Trail g.ag u r to->(∀i∈r,mk i=true)->cJ g.ag r<aI->p u<=cJ g.ag r
 | [],u,h,_,_=>by cases h;rw[hz,nQ];exact Int.le_refl _
 |i::r,u,⟨h1,h2,h3⟩,hm,hlt=>by
  rw[jv]at hlt ⊢;have hw:(0:Int)<=(aD g.ag i).w:=Int.natCast_nonneg _;have :=ye hF hz h3 (λj hj=>hm j (List.mem_cons_of_mem _ hj)) (by omega);have :=hF i h1 (hm i List.mem_cons_self) (by omega);rw[h2]at this;omega
section
variable{to:Nat}{st:List dh}{f:SS×Bool}
theorem Stop.least(S:Stop g mk p fr to done s st f)(hR:g.Right)(hF:gp g mk p)(hz:p to=0){r:List Nat}(ht:Trail g.ag fr r to)(hm:∀i∈r,mk i=true)(hlt:cJ g.ag r<aI):f.2=true/\aF f.1.lab to<=cJ g.ag r:=by
 obtain⟨k1,k2⟩:=S.a.fz (by have :=ye hF hz ht hm hlt;omega);rcases S.is with ⟨hn,_⟩|⟨key,hk,rfl⟩
 ·exfalso;have key:∀(r:List Nat)(u:Nat),ko s u->Trail g.ag u r to->(∀i∈r,mk i=true)->cJ g.ag r<aI->False:=by
   intro r
   induction r with
   |nil=>
    intro u hu h _ _;cases h;rcases hu with hu|⟨_,hu⟩
    ·exact S.no hu
    ·rw[hn]at hu;cases hu
   | cons i r ih=>
    rintro u hu ⟨h1,h2,h3⟩ hm hlt;rcases hu with hu|⟨_,hu⟩
    ·have hw:(0:Int)<=(aD g.ag i).w:=Int.natCast_nonneg _;rw[jv]at hlt;have hm':∀j∈r,mk j=true:=λj hj=>hm j (List.mem_cons_of_mem _ hj);have hp:=ye hF hz h3 hm' (by omega);have hi:i∈g.out u:=by rw[<-h2];exact(ru hR).2 i h1
     exact ih _ (S.a.rel i (S.cl u hu i hi) h1 (hm i List.mem_cons_self) (by omega)).2.1 h3 hm' (by omega)
    ·rw[hn]at hu;cases hu
  exact key r fr k1 ht hm hlt
 ·refine⟨rfl,?_⟩;show aF s.lab to<=_;obtain⟨hmem,hle⟩:=iw hk;have hkey:=(S.h.key hmem).1;have low:∀{u:Nat}{k:Int},((u:Int),k)∈s.hp->aF s.lab to<=aF s.lab u+p u:=λ{u k} h=>by
   have :=hle _ h;rw[mq]at this;have :=(S.h.key h).1;dsimp only at *;omega
  have key:∀(r:List Nat)(u:Nat),ko s u->Trail g.ag u r to->(∀i∈r,mk i=true)->cJ g.ag r<aI->aF s.lab to<=aF s.lab u+cJ g.ag r:=by
   intro r
   induction r with
   |nil=>
    intro u hu h _ _;cases h;rw[nQ];omega
   | cons i r ih=>
    rintro u hu ⟨h1,h2,h3⟩ hm hlt;rcases hu with hu|⟨_,hu⟩
    ·have hw:(0:Int)<=(aD g.ag i).w:=Int.natCast_nonneg _;rw[jv]at hlt ⊢;have hm':∀j∈r,mk j=true:=λj hj=>hm j (List.mem_cons_of_mem _ hj);have hp:=ye hF hz h3 hm' (by omega);have hi:i∈g.out u:=by rw[<-h2];exact(ru hR).2 i h1
     obtain⟨_,h4,h5⟩:=S.a.rel i (S.cl u hu i hi) h1 (hm i List.mem_cons_self) (by omega);rw[h2]at h5;have :=ih _ h4 h3 hm' (by omega);omega
    ·have :=low hu;have :=ye hF hz (show Trail g.ag u (i::r) to from⟨h1,h2,h3⟩) hm hlt;omega
  have :=key r fr k1 ht hm hlt;omega
theorem gH.chain(A:gH g mk p fr done s):∀{cs:List Nat}{v:Nat},v∈s.ord->kQ g.ag s.dx v cs->Trail g.ag fr cs.reverse v/\cJ g.ag cs.reverse=aF s.lab v
 | [],v,hv,h=>by
  have h:s.dx[v]? =some (-1):=h;rcases A.src v (.inl hv)with ⟨h1,h2,_⟩|⟨a,h1,_⟩
  ·subst h1;exact⟨rfl,h2.symm⟩
  ·rw[h1]at h;injection h with h;omega
 | c::cs,v,hv,h=>by
  obtain⟨h1,h2,h3⟩:=h;rcases A.src v (.inl hv)with ⟨_,_,h4⟩|⟨a,h4,h5,h6,h7,h8,h9⟩
  ·rw[h1]at h4;injection h4 with h4;omega
  ·rw[h1]at h4;injection h4 with h4;have :c=a:=by omega
   subst this;obtain⟨t1,t2⟩:=gH.chain A h8 h3;rw[List.reverse_cons];refine⟨t1.append ⟨h5,rfl,h7⟩,?_⟩;rw[tq,t2,jv,nQ,h9];omega
structure Exact(g:G)(fr to:Nat)(D:Int)(f:SS×Bool):Prop where
 no:¬D<aI->f.2=false
 yes:D<aI->f.2=true/\aF f.1.lab to=D
 chain:∀cs,f.2=true->kQ g.ag f.1.dx to cs->Trail g.ag fr cs.reverse to/\cJ g.ag cs.reverse=aF f.1.lab to
 short:∀cs,f.2=true->kQ g.ag f.1.dx to cs->cs.length<=g.n
 once:mE g.n g.ag.length f.1.cK
 HS:lN g f.1.cK
 ahx:f.2=true->∀e∈f.1.cK,e.kind=0->e.side=0/\e.label<=aF f.1.lab to
 len:f.1.cK.length<=2*g.n+2*g.ag.length
end
theorem kQ.uniq{l:List A}{b:List Int}:∀{v:Nat}{c d:List Nat},kQ l b v c->kQ l b v d->c=d
 |_,[],[],_,_=>rfl
 |v,[],x::d,h,⟨h1,_,_⟩=>by
  have h:b[v]? =some (-1):=h;rw[h]at h1;injection h1 with h1;omega
 |v,x::c,[],⟨h1,_,_⟩,h=>by
  have h:b[v]? =some (-1):=h;rw[h]at h1;injection h1 with h1;omega
 |v,x::c,y::d,⟨h1,_,h3⟩,⟨k1,_,a⟩=>by
  rw[h1]at k1;injection k1 with k1;have :x=y:=by omega
  subst this;rw[kQ.uniq h3 a]
theorem gH.start(hfr:fr<g.n):gH g mk p fr [] (SS.start p g.n fr)/\dy g.ag g.n p ((SS.start p g.n fr).ord.length*W) (SS.start p g.n fr)/\(SS.start p g.n fr).ord=[]/\HW g mk (SS.start p g.n fr) []:=by
 have ho:(SS.start p g.n fr).ord=[]:=SS.qA.1;refine⟨?_,?_,ho,⟨SS.qA.2,ho.symm,λe he=>by cases he⟩⟩
 ·refine⟨λi hi=>(by cases hi),λv hv=>(by rw[ho]at hv;cases hv),λv hv=> ?_,λhp=> ?_⟩
  ·unfold SS.start SS.reach at hv ⊢;by_cases hp:aI<=p fr
   ·rw[if_pos (.inr hp)]at hv;rcases hv with hv|⟨_,hv⟩<;>cases hv
   ·rw[if_neg (by rintro(h|h);cases h;exact hp h)]at hv ⊢;rcases hv with hv|⟨k,hv⟩
    ·cases hv
    ·have hv:((v:Int),k)∈ [((fr:Int),0+p fr)]:=hv;simp at hv;have :v=fr:=by omega
     subst this;refine .inl ⟨rfl,?_,?_⟩
     ·show aF ((List.replicate g.n 0).set v 0) v=0;rw[qB (by simpa using hfr),if_pos rfl]
     ·show((List.replicate g.n (-1:Int)).set v (-1))[v]? =_;rw[List.getElem?_set_self (by simpa using hfr)]
  ·unfold SS.start SS.reach;rw[if_neg (by rintro(h|h);cases h;omega)];refine⟨.inr ⟨0+p fr,List.mem_cons_self⟩,?_⟩;show aF ((List.replicate g.n 0).set fr 0) fr=0;rw[qB (by simpa using hfr),if_pos rfl]
 ·rw[ho];have :=(dy.zero (l:=g.ag) (n:=g.n) (p:=p)).reach (v:=fr) (a:= -1) (d:=0) hfr (by omega) (by omega) (.inl rfl);have z:(([]:List Nat).length:Int)*W=0:=by simp
  rw[z];exact this
theorem ahy(hR:g.Right){to:Nat}{D:Int}(hfr:fr<g.n)(hF:gp g mk p)(h0:∀v,0<=p v)(hz:p to=0)(h1:D<aI->∃r,Trail g.ag fr r to/\(∀i∈r,mk i=true)/\cJ g.ag r=D)(h2:∀r,Trail g.ag fr r to->D<=cJ g.ag r):
  Exact g fr to D (SS.run g.ag p mk g.out to (g.n+1) (SS.start p g.n fr)):=by
 obtain⟨A,H,ho,E⟩:=gH.start (mk:=mk) (p:=p) hfr;obtain⟨done,s,st,S⟩:=A.run (to:=to) hR hF (g.n+1) H E (by rw[ho];simp) (λu hu=>by rw[ho]at hu;cases hu) (by omega);generalize SS.run g.ag p mk g.out to (g.n+1) (SS.start p g.n fr)=f at S;clear A H ho E;have m:=hR.most;have hO:nv g (oS g mk):=uC.filter mk;have hlt:∀e∈st,e.v<g.n:=λe he=>S.h.jM _ (by rw[<-S.e.e2];exact List.mem_map_of_mem he);have nd:∀{q:List dh},(∀e∈q,e.x=false)->(q.map dh.v).Nodup->(q.map λs=>(s.x,s.v)).Nodup:=λ{q} hx hn=>by
  rw[List.Nodup,List.pairwise_map]at hn ⊢;exact hn.imp λh e=>h (by injection e)
 have chain:∀cs,f.2=true->kQ g.ag f.1.dx to cs->Trail g.ag fr cs.reverse to/\cJ g.ag cs.reverse=aF f.1.lab to:=λcs hf hc=>by
  rcases S.is with ⟨_,rfl⟩|⟨key,hk,rfl⟩
  ·cases hf
  ·exact(S.a.pop S.h hk).chain (by show to∈s.ord++ [to];simp) hc
 have short:∀cs,f.2=true->kQ g.ag f.1.dx to cs->cs.length<=g.n:=λcs hf hc=>by
  rcases S.is with ⟨_,rfl⟩|⟨key,hk,rfl⟩
  ·cases hf
  ·obtain⟨cs',c,hl⟩:=(S.h.lu (iw hk).1).chain s.ord.length s.ord [] to (Nat.le_refl _) rfl;have :=S.h.len;rw[hc.uniq c];omega
 have small:f.2=true->aF f.1.lab to<aI:=λhf=>by
  rcases S.is with ⟨_,rfl⟩|⟨key,hk,rfl⟩
  ·cases hf
  ·have hm:=(iw hk).1;have h3:=(S.h.lo to (S.h.key hm).2.1).2;have h4:=S.h.room (λe=>by rw[e]at hm;cases hm);have h5:(s.ord.length:Int)<=16777216:=by omega
   have :=Int.mul_le_mul_of_nonneg_right h5 (show(0:Int)<=W by decide);have hf:aI=72057594037927936:=rfl;have hw:W=2147483647:=rfl;show aF s.lab to<aI;omega
 have found:f.2=true->D<=aF f.1.lab to:=λhf=>by
  rcases S.is with ⟨_,rfl⟩|⟨key,hk,rfl⟩
  ·cases hf
  ·have hp:=S.h.lu (iw hk).1;obtain⟨cs,hc,_⟩:=hp.chain s.ord.length s.ord [] to (Nat.le_refl _) rfl;obtain⟨t1,t2⟩:=chain cs rfl hc;rw[<-t2];exact h2 _ t1
 have ev:∃q:List dh,∃k,f.1.cK=(cK (oS g mk) q).take k/\(∀e∈q,e.v<g.n)/\(∀e∈q,e.x=false)/\(q.map dh.v).Nodup/\(f.2=true->∀e∈q,e.d<=aF f.1.lab to):=by
  rcases S.is with ⟨_,rfl⟩|⟨key,hk,rfl⟩
  ·exact⟨st,(cK (oS g mk) st).length,by rw[List.take_length];exact S.e.e1,hlt,λe he=>(S.e.e3 e he).1,by rw[S.e.e2];exact S.h.ord,λh=>by cases h⟩
  ·have hm:=(iw hk).1;have hkey:=S.h.key hm;refine⟨st++ [⟨false,to,aF s.lab to⟩],(cK (oS g mk) st).length+1,?_,λe he=> ?_,λe he=> ?_,?_,λ_ e he=> ?_⟩
   ·rw[Hq,Hr,List.take_length_add_append];show s.cK++ [_]=_;rw[S.e.e1];rfl
   ·rcases List.mem_append.1 he with he|he
    ·exact hlt e he
    ·simp at he;subst he;exact hkey.2.1
   ·rcases List.mem_append.1 he with he|he
    ·exact(S.e.e3 e he).1
    ·simp at he;subst he;rfl
   ·rw[List.map_append,S.e.e2];exact(S.h.lu hm).ord
   ·show e.d<=aF s.lab to;rcases List.mem_append.1 he with he|he
    ·rw[(S.e.e3 e he).2];have :=S.a.mono e.v (by rw[<-S.e.e2];exact List.mem_map_of_mem he) _ hm;have :=h0 e.v;dsimp only at *;omega
    ·simp at he;subst he;exact Int.le_refl _
 obtain⟨q,k,hq,q1,q2,j,l⟩:=ev;have once:mE g.n g.ag.length f.1.cK:=by rw[hq];exact(UM hO q1 (nd q2 j)).take k
 refine⟨λhD=> ?_,λhD=> ?_,chain,short,once,?_,λhf e he hk=> ?_,Ve once⟩
 ·cases hf:f.2 with
  |false=>rfl
  |true=>have :=found hf;have :=small hf;omega
 ·obtain⟨r,r1,r2,r3⟩:=h1 hD;obtain⟨a,b⟩:=S.least hR hF hz r1 r2 (by omega);refine⟨a,?_⟩;have :=found a;omega
 ·rw[hq];exact(UO hO q1).take k
 ·rw[hq]at he;obtain⟨x,hx,rfl|⟨i,_,rfl⟩⟩:=Hu.1 (List.mem_of_mem_take he)
  ·exact⟨by show sI x.x=0;rw[q2 x hx];rfl,l hf x hx⟩
  ·cases hk
end
open Go
theorem Vg{a b c w:Int}(hw:0<=w)(h:b<aI->a<=b+w/\b+w<aI)(hl:gu b c<aI):gu a c<=gu b c+w:=by
 unfold gu at *
 repeat' split at hl
 all_goals repeat' split
 all_goals omega
theorem Vh{a b c w:Int}(hw:0<=w)(h:b<aI->a<=b+w/\b+w<aI)(hl:gu c a<aI):gu c b<=gu c a+w:=by
 unfold gu at *
 repeat' split at hl
 all_goals repeat' split
 all_goals omega
theorem Vi{a:Int}:gu a a=0:=by unfold gu;repeat' split<;>omega
section
variable{g:G}{ms:List Nat}{s t v w m i:Nat}
theorem Vj(hR:g.Right)(hm:m<g.n)(hi:i<g.ag.length):aF (g.to m).aH (aD g.ag i).t<aI->aF (g.to m).aH (aD g.ag i).f<=aF (g.to m).aH (aD g.ag i).t+(aD g.ag i).w/\aF (g.to m).aH (aD g.ag i).t+(aD g.ag i).w<aI:=λh=>by
 have T:=oO hR hm;have he:=hR.ends _ (gD hi);have h1:=(xX T (λa ha=>by have :=(hR.ends a ha).2.2;show(a.w:Int)<=2147483647;omega) he.2.1 h).1;have hn:(g.n:Int)<=16777216:=by have :=hR.most;omega
 have :=Int.mul_le_mul_of_nonneg_right hn (show(0:Int)<=W by decide);have hf:aI=72057594037927936:=rfl;have hW:W=2147483647:=rfl;exact⟨T.ls.ag _ (gD hi) h,by omega⟩
theorem Vk(hR:g.Right)(hm:m<g.n)(hi:i<g.ag.length):aF (g.from m).aH (aD g.ag i).f<aI->aF (g.from m).aH (aD g.ag i).t<=aF (g.from m).aH (aD g.ag i).f+(aD g.ag i).w/\aF (g.from m).aH (aD g.ag i).f+(aD g.ag i).w<aI:=λh=>by
 have T:=eX hR hm;have he:=hR.ends _ (gD hi);have h1:=(xX T (λa ha=>by have :=(hR.ends a ha).2.2;show(a.w:Int)<=2147483647;omega) he.1 h).1;have hn:(g.n:Int)<=16777216:=by have :=hR.most;omega
 have :=Int.mul_le_mul_of_nonneg_right hn (show(0:Int)<=W by decide);have hf:aI=72057594037927936:=rfl;have hW:W=2147483647:=rfl;exact⟨T.ls.ag _ (gD hi) h,by omega⟩
theorem HX(hR:g.Right)(hi:i<g.ag.length):∀{ms:List Nat}{b c:Int},(∀m∈ms,m<g.n)->b<=c+(aD g.ag i).w->ms.foldl (gU g (aD g.ag i).t w) c<aI->
  ms.foldl (gU g (aD g.ag i).f w) b<=ms.foldl (gU g (aD g.ag i).t w) c+(aD g.ag i).w
 | [],_,_,_,h,_=>h
 |m::ms,b,c,hm,h,hf=>by
  have hmn:=hm m List.mem_cons_self;have hw:(0:Int)<=(aD g.ag i).w:=Int.natCast_nonneg _;have hu:=BH (g:=g) (r:=(aD g.ag i).t) (v:=w) (ms:=ms) (b:=gU g (aD g.ag i).t w c m);rw[List.foldl_cons]at hf ⊢;rw[List.foldl_cons];refine HX hR hi (λx hx=>hm x (List.mem_cons_of_mem _ hx)) ?_ hf;have hlt:gU g (aD g.ag i).t w c m<aI:=by omega
  unfold gU at hlt ⊢;have h1:=Vg (c:=aF (g.to m).aH w) hw (Vj hR hmn hi) (by omega);have h2:=Vh (c:=aF (g.from m).aH w) hw (Vk hR hmn hi) (by omega);omega
theorem Vl(hR:g.Right)(hi:i<g.ag.length):∀{ms:List Nat}{b c:Int},(∀m∈ms,m<g.n)->b<=c+(aD g.ag i).w->ms.foldl (gU g s (aD g.ag i).f) c<aI->
  ms.foldl (gU g s (aD g.ag i).t) b<=ms.foldl (gU g s (aD g.ag i).f) c+(aD g.ag i).w
 | [],_,_,_,h,_=>h
 |m::ms,b,c,hm,h,hf=>by
  have hmn:=hm m List.mem_cons_self;have hw:(0:Int)<=(aD g.ag i).w:=Int.natCast_nonneg _;have hu:=BH (g:=g) (r:=s) (v:=(aD g.ag i).f) (ms:=ms) (b:=gU g s (aD g.ag i).f c m);rw[List.foldl_cons]at hf ⊢;rw[List.foldl_cons];refine Vl hR hi (λx hx=>hm x (List.mem_cons_of_mem _ hx)) ?_ hf;have hlt:gU g s (aD g.ag i).f c m<aI:=by omega
  unfold gU at hlt ⊢;have h1:=Vh (c:=aF (g.to m).aH s) hw (Vj hR hmn hi) (by omega);have h2:=Vg (c:=aF (g.from m).aH s) hw (Vk hR hmn hi) (by omega);omega
theorem Vm:∀{ms:List Nat},ms.foldl (gU g v v) 0=0
 | []=>rfl
 |m::ms=>by
  rw[List.foldl_cons,show gU g v v 0 m=0 by unfold gU;rw[Vi,Vi];rfl];exact Vm
def nA(g:G)(ms:List Nat)(w:Nat):List Int:=(List.range g.n).map λv=>dG g ms v w
theorem uG:(nA g ms w).length=g.n:=by simp[nA]
theorem Vn(hv:v<g.n):(nA g ms w).getD v 0=dG g ms v w:=by
 simp[nA,List.getD_eq_getElem?_getD,hv]
theorem HY(hR:g.Right)(hv:v<g.n):cQ (nA g ms w) v=dG g ms v w:=by
 have hne:(nA g ms w).isEmpty=false:=by
  cases hz:nA g ms w with
  |nil=>have :=@uG g ms w;rw[hz]at this;have :=hR.pos;simp at *;omega
  |cons _ _=>rfl
 unfold cQ;rw[hne,Vn hv];have :=@r8 g v w ms;simp only[Bool.false_eq_true,if_false];have hf:aI=72057594037927936:=rfl;omega
theorem ahz:0<=cQ (nA g ms w) v:=by
 unfold cQ;split
 ·exact Int.le_refl _
 ·by_cases hv:v<g.n
  ·rw[Vn hv];have :=@r8 g v w ms;omega
  ·rw[List.getD_eq_getElem?_getD,List.getElem?_eq_none (by rw[uG];omega),Option.getD_none];omega
theorem ahA{mk:Nat->Bool}(hR:g.Right)(hm:∀m∈ms,m<g.n):gp g mk (cQ (nA g ms w)):=λi hi _ hlt=>by
 have he:=hR.ends _ (gD hi);rw[HY hR he.1];rw[HY hR he.2.1]at hlt ⊢;have :=HX (w:=w) hR hi (b:=0) (c:=0) hm (by have :(0:Int)<=(aD g.ag i).w:=Int.natCast_nonneg _;omega) hlt;unfold dG;omega
theorem ahB{mk:Nat->Bool}:gp g mk (cQ []):=λi _ _ _=>by
 have :(0:Int)<=(aD g.ag i).w:=Int.natCast_nonneg _;show(0:Int)<=_+0;omega
structure uH(g:G)(al:List Bool)(pl:List Int)(fr to:Nat):Prop where
 f:gp g (eV al) (cQ pl)
 nn:∀v,0<=cQ pl v
 z:cQ pl to=0
 w:aF (g.from fr).aH to<aI->∃r,Trail g.ag fr r to/\(∀i∈r,eV al i=true)/\cJ g.ag r=aF (g.from fr).aH to
theorem yf(hR:g.Right)(hs:s<g.n)(ht:t<g.n){r:List Nat}(h:Trail g.ag s r t):aF (g.from s).aH t<=cJ g.ag r:=by
 have T:=(eX hR hs).ls;have hw:=Trail.way (l:=g.ag) (d:=0) (.nil:Way g.ag A.f A.t s s 0) h;rw[Int.zero_add]at hw;have :=T.iB ht;by_cases hlt:cJ g.ag r<aI
 ·exact T.mZ hw hlt
 ·omega
theorem uH.exact{al:List Bool}{pl:List Int}(H:uH g al pl s t)(hR:g.Right)(hs:s<g.n)(ht:t<g.n):
  Exact g s t (aF (g.from s).aH t) (SS.run g.ag (cQ pl) (eV al) g.out t (g.n+1) (SS.start (cQ pl) g.n s)):=
 ahy hR hs H.f H.nn H.z H.w λ_ hr=>yf hR hs ht hr
def sg(a b:Int):Int:=if aI<=a\/aI<=b then aI else a-b
def mG(g:G)(ms:List Nat)(s t:Nat):List Int:=(List.range g.n).map λv=>sg (dG g ms v t) (dG g ms s v)
theorem HZ:(mG g ms s t).length=g.n:=by simp[mG]
theorem H7(hv:v<g.n):(mG g ms s t).getD v 0=sg (dG g ms v t) (dG g ms s v):=by simp[mG,List.getD_eq_getElem?_getD,hv]
end
section
variable{Q:Qs}
theorem ahC(hQ:Q.Ok):∃d,RL Q false d:=by
 have hR:=hQ.r
 let g':G:=⟨Q.g.n,Q.g.X,Q.g.Y,Q.H⟩
 have c:g'.Right:=⟨hR.pos,hR.most,hR.x,hR.y,hR.xr,hR.yr,by
  have :Q.H.length<=Q.g.ag.length:=by
   unfold Qs.H;rw[List.length_map];have :=List.length_filter_le Q.ok (List.range Q.g.ag.length);rw[List.length_range]at this;exact this
  have :=hR.many;show Q.H.length<=_;omega,λa ha=>by
  obtain⟨i,hi,_,rfl⟩:=pz.1 ha;exact hR.ends _ (gD hi)⟩
 have T:=(eX c (s:=Q.s) hQ.s).ls;cases ho:Q.cB (Q.src false)with
 |true=>exact⟨_,⟨T.len,λ_=>T.zero,λh=>(by rw[ho]at h;cases h),T.way⟩,λi hi hok h=>T.ag _ (pz.2 ⟨i,hi,hok,rfl⟩) h⟩
 | false=>
  have b:∀v,aF (List.replicate Q.g.n aI) v=aI:=λv=>by
   by_cases h:v<Q.g.n
   ·simp[aF,List.getD_eq_getElem?_getD,h]
   ·exact Zl (by simpa using h)
  exact⟨List.replicate Q.g.n aI,⟨by simp,λh=>(by rw[ho]at h;cases h),λ_ v _=>b v,λv _=>.inl (b v)⟩,λi hi hok h=>by rw[b]at h;exact absurd h (by decide)⟩
theorem Vo{u:Nat}{d:Int}:∀{r:List Nat}{v t:Nat}{d:Int},Way Q.H A.f A.t u v d->Trail Q.g.ag v r t->(∀i∈r,Q.ok i=true)->Way Q.H A.f A.t u t (d+cJ Q.g.ag r)
 | [],_,_,_,hw,h,_=>by cases h;rw[nQ,Int.add_zero];exact hw
 |i::r,_,_,_,hw,⟨a,b,h⟩,ho=>by
  have :=Vo (d:=d) (Way.step _ hw (pz.2 ⟨i,a,ho i List.mem_cons_self,rfl⟩) b) h λj hj=>ho j (List.mem_cons_of_mem _ hj);rw[jv,<-Int.add_assoc];exact this
structure uI(Q:Qs):Prop where
 f:Q.gp
 w:aF (Q.g.from Q.s).aH Q.t<aI->∃r,Trail Q.g.ag Q.s r Q.t/\(∀i∈r,Q.ok i=true)/\cJ Q.g.ag r=aF (Q.g.from Q.s).aH Q.t
theorem uI.exact(H:uI Q)(hQ:Q.Ok)(hne:Q.s≠Q.t):Q.fin.aH=aF (Q.g.from Q.s).aH Q.t:=by
 obtain⟨d,hd⟩:=ahC hQ;have T:=(eX hQ.r hQ.s).ls;have hfl:=T.iB hQ.t;have he:=ahc hQ hne H.f hd;have ge:aF d Q.t=aI\/aF (Q.g.from Q.s).aH Q.t<=aF d Q.t:=by
  rcases hd.way Q.t hQ.t with h|⟨h1,h2⟩
  ·exact .inl h
  ·exact .inr (T.mZ (h2.mono λa ha=>by obtain⟨i,hi,_,rfl⟩:=pz.1 ha;exact gD hi) h1)
 by_cases hlt:aF (Q.g.from Q.s).aH Q.t<aI
 ·obtain⟨r,h1,h2,h3⟩:=H.w hlt;have hw:=Vo (d:=0) (.nil:Way Q.H A.f A.t Q.s Q.s 0) h1 h2;rw[Int.zero_add,h3]at hw;obtain⟨o1,o2⟩:=(Hy (x:=false) hw).resolve_left λe=>hne e.symm;rw[he,if_pos o2];have :=hd.mZ o1 hw hlt;omega
 ·have hr:=hd.uq hQ.t;rw[he];split
  ·omega
  ·omega
theorem ahD{g:G}{s t:Nat}(hR:g.Right)(hs:s<g.n)(ht:t<g.n):uI ⟨g,s,t,[],[]⟩:=
 ⟨λi _ _=>by show((0:Int))<=0+_;have :(0:Int)<=(aD g.ag i).w:=Int.natCast_nonneg _;omega,λh=>by
  obtain⟨r,h1,h2,_⟩:=zm (c:=λ_=>0) (k:=0) hR hs ht rfl h;exact⟨r,h1,λ_ _=>rfl,h2⟩⟩
theorem Vp{g:G}{s t:Nat}(hR:g.Right)(ht:t<g.n):∀{r:List Nat}{v:Nat},v<g.n->Trail g.ag v r t->∀i∈r,aF (g.from (aD g.ag i).f).aH t<=cJ g.ag r/\aF (g.from (aD g.ag i).t).aH t<=cJ g.ag r
 | [],_,_,_,_,h=>by cases h
 | j::r,v,hv,⟨a,b,h⟩,i,hi=>by
  have he:=hR.ends _ (gD a);have hw:(0:Int)<=(aD g.ag j).w:=Int.natCast_nonneg _;rcases List.mem_cons.1 hi with rfl|hi
  ·refine⟨?_,?_⟩
   ·exact yf hR he.1 ht ⟨a,rfl,h⟩
   ·have :=yf hR he.2.1 ht h;rw[jv];omega
  ·have :=Vp (s:=s) hR ht he.2.1 h i hi;rw[jv];omega
theorem Vq{g:G}{s t:Nat}(hR:g.Right)(hs:s<g.n):∀{r q:List Nat}{v:Nat},Trail g.ag s q v->Trail g.ag v r t->∀i∈r,aF (g.from s).aH (aD g.ag i).f<=cJ g.ag q+cJ g.ag r/\aF (g.from s).aH (aD g.ag i).t<=cJ g.ag q+cJ g.ag r
 | [],_,_,_,_,_,h=>by cases h
 | j::r,q,v,hq,⟨a,b,h⟩,i,hi=>by
  have he:=hR.ends _ (gD a);have hn:=@Ke g.ag r;have hw:(0:Int)<=(aD g.ag j).w:=Int.natCast_nonneg _;have c:Trail g.ag s (q++ [j]) (aD g.ag j).t:=hq.append ⟨a,b,rfl⟩;have e:cJ g.ag (q++ [j])=cJ g.ag q+(aD g.ag j).w:=by rw[tq,jv,nQ];omega
  rcases List.mem_cons.1 hi with rfl|hi
  ·have h1:=yf hR hs he.1 (b▸hq);have h2:=yf hR hs he.2.1 c;rw[e]at h2;rw[jv];omega
  ·have :=Vq (r:=r) (q:=q++ [j]) hR hs c h i hi;rw[e]at this;rw[jv];omega
theorem ahE{g:G}{s t:Nat}{ms:List Nat}(hR:g.Right)(hs:s<g.n)(ht:t<g.n)(hm:∀m∈ms,m<g.n):uI ⟨g,s,t,[],mG g ms s t⟩:=by
 have cB:∀{v},v<g.n->dG g ms v t<aI->dG g ms s v<aI->(Qs.mk g s t [] (mG g ms s t)).cB v=true:=λ{v} hv h1 h2=>by
  have n1:=@r8 g v t ms;have n2:=@r8 g s v ms;unfold Qs.cB;dsimp only;rw[H7 hv,sg,if_neg (by omega),decide_eq_true (by omega),decide_eq_true (by omega),Bool.and_true,Bool.or_true]
 refine⟨λi hi hok=> ?_,λh=> ?_⟩
 ·have hi:i<g.ag.length:=hi;have he:=hR.ends _ (gD hi);obtain⟨_,o1,o2⟩:=(Qs.uD (x:=false)).1 hok;have o1:=(Qs.xV o1).2;have o2:=(Qs.xV o2).2;have o1:(mG g ms s t).getD (aD g.ag i).f 0<aI:=o1;have o2:(mG g ms s t).getD (aD g.ag i).t 0<aI:=o2;show(mG g ms s t).getD (aD g.ag i).f 0<=(mG g ms s t).getD (aD g.ag i).t 0+2*(aD g.ag i).w;rw[H7 he.1]at o1 ⊢;rw[H7 he.2.1]at o2 ⊢;unfold sg at *;split at o1
  ·omega
  ·split at o2
   ·omega
   ·rename_i c1 c2;rw[if_neg c1,if_neg c2];have hw:(0:Int)<=(aD g.ag i).w:=Int.natCast_nonneg _;have h1:=HX (w:=t) hR hi (b:=0) (c:=0) hm (by omega) (show dG g ms _ t<aI by omega);have h2:=Vl (s:=s) hR hi (b:=0) (c:=0) hm (by omega) (show dG g ms s _<aI by omega);unfold dG;omega
 ·have h:aF (g.from s).aH t<aI:=h;obtain⟨r,h1,h2,_⟩:=zm (c:=λ_=>0) (k:=0) hR hs ht rfl h;refine⟨r,h1,λi hi=> ?_,h2⟩;have hil:i<g.ag.length:=h1.lt i hi;have he:=hR.ends _ (gD hil);have d1:=Vp (s:=s) hR ht hs h1 i hi;have d2:=Vq (q:=[]) hR hs rfl h1 i hi;rw[nQ]at d2;have h2:cJ g.ag r=aF (g.from s).aH t:=h2;have b1:=uF hR he.1 ht hm;have b2:=uF hR hs he.1 hm;have b3:=uF hR he.2.1 ht hm;have b4:=uF hR hs he.2.1 hm;have o1:=cB he.1 (by omega) (by omega);have o2:=cB he.2.1 (by omega) (by omega);exact(Qs.uD (x:=false)).2 ⟨rfl,o1,o2⟩
end
open Go
def jY(c d:List Int)(i:Nat):List Int:=c.mapIdx λv x=>if v<i then min x (aF d v)else x
def cl(c d:List Int):List Int:=jY c d d.length
theorem yh{c d:List Int}{i:Nat}:(jY c d i).length=c.length:=by simp[jY]
theorem Vz{c d:List Int}:(cl c d).length=c.length:=yh
theorem ahK{c d:List Int}:jY c d 0=c:=by
 apply List.ext_getElem yh;intro i h1 h2;simp[jY]
theorem ahL{c d:List Int}{i:Nat}(h:i<c.length):(jY c d i)[i]'(by rw[yh];exact h)=c[i]:=by simp[jY]
theorem ahM{c d:List Int}{i:Nat}(h:i<c.length):(jY c d i).set i (min c[i] (aF d i))=jY c d (i+1):=by
 apply List.ext_getElem (by simp[jY]);intro j h1 h2;have hj:j<c.length:=by rw[yh]at h2;exact h2
 rw[List.getElem_set];by_cases e:i=j
 ·subst e;simp[jY]
 ·rw[if_neg e];simp only[jY,List.getElem_mapIdx];by_cases h3:j<i
  ·rw[if_pos h3,if_pos (by omega)]
  ·rw[if_neg h3,if_neg (by omega)]
def jZ(g:G)(ms:List Int):List Int:=ms.foldl (λc m=>cl c (g.dg m).aH) (List.replicate g.n aI)
theorem ahN{g:G}{ms:List Int}{m:Int}:jZ g (ms++ [m])=cl (jZ g ms) (g.dg m).aH:=by simp[jZ]
theorem VA{g:G}:∀{ms:List Int}{c:List Int},(ms.foldl (λc m=>cl c (g.dg m).aH) c).length=c.length
 | [],_=>rfl
 |m::ms,c=>by rw[List.foldl_cons,VA,Vz]
theorem Ii{g:G}{ms:List Int}:(jZ g ms).length=g.n:=by unfold jZ;rw[VA];simp
def pG(c:List Int):Nat->List Nat->Nat
 |x,[]=>x
 |x,y::r=>pG c (if c.getD x 0<c.getD y 0 then y else x) r
def gv(c:List Int):List Nat->Nat
 | []=>0
 |x::r=>pG c x r
theorem VB{c:List Int}:∀{r:List Nat}{x:Nat},pG c x r∈x::r
 | [],x=>by simp[pG]
 | y::r,x=>by
  unfold pG;have :=VB (c:=c) (r:=r) (x:=if c.getD x 0<c.getD y 0 then y else x);split at this<;>rename_i h
  ·rw[if_pos h];exact List.mem_cons_of_mem _ this
  ·rw[if_neg h];rcases List.mem_cons.1 this with e|e
   ·rw[e];exact List.mem_cons_self ..
   ·exact List.mem_cons_of_mem _ (List.mem_cons_of_mem _ e)
theorem BR{c:List Int}{l:List Nat}(h:l≠ []):gv c l∈l:=by
 cases l with
 |nil=>exact absurd rfl h
 |cons x r=>exact VB
theorem VC{c:List Int}{y:Nat}:∀{r:List Nat}{x:Nat},pG c x (r++ [y])=if c.getD (pG c x r) 0<c.getD y 0 then y else pG c x r
 | [],x=>rfl
 |z::r,x=>by rw[List.cons_append];unfold pG;exact VC
theorem ahO{c:List Int}{l:List Nat}{y:Nat}(h:l≠ []):gv c (l++ [y])=if c.getD (gv c l) 0<c.getD y 0 then y else gv c l:=by
 cases l with
 |nil=>exact absurd rfl h
 |cons x r=>exact VC
def jC(g:G):Nat->Nat->List Nat->List Int->List Nat
 |0,_,_,_=>[]
 |k+1,i,left,c=>match left with
  | []=>[]
  |x::r=>gv c (x::r)::jC g k (i+1) ((x::r).filter (· != gv c (x::r))) (cl (if i=0 then List.replicate g.n aI else c) (g.dg (gv c (x::r))).aH)
def VD(g:G)(p:Nat×List Nat×List Int)(x:List Value)(p':Nat×List Nat×List Int):Prop:=
 p.2.1≠ []/\x=[I (gv p.2.2 p.2.1)]/\p'=(p.1+1,p.2.1.filter (· != gv p.2.2 p.2.1),cl (if p.1=0 then List.replicate g.n aI else p.2.2) (g.dg (gv p.2.2 p.2.1)).aH)
theorem BT{g:G}{k i:Nat}{left:List Nat}{c:List Int}(h:left≠ []):jC g (k+1) i left c=gv c left::jC g k (i+1) (left.filter (· != gv c left)) (cl (if i=0 then List.replicate g.n aI else c) (g.dg (gv c left)).aH):=by
 cases left with
 |nil=>exact absurd rfl h
 |cons x r=>rfl
open Go
section
variable{g:G}
theorem ahP{left:List Nat}{m:Nat}(hn:left.Nodup)(hm:m∈left):(left.filter (· != m)).length+1=left.length:=by
 have e:left.filter (· != m)=left.erase m:=by
  rw[hn.erase_eq_filter]
 rw[e,List.length_erase_of_mem hm];have :0<left.length:=List.length_pos_of_mem hm;omega
theorem VE:∀{k i:Nat}{left:List Nat}{c:List Int},left.Nodup->(jC g k i left c).length=min k left.length
 |0,_,_,_,_=>by simp[jC]
 | k+1,i,left,c,hn=>by
  by_cases h:left=[]
  ·subst h;simp[jC]
  ·rw[BT h,List.length_cons,VE (hn.filter _)];have :=ahP hn (BR (c:=c) h);omega
theorem Ij:∀{k i:Nat}{left:List Nat}{c:List Int},∀v∈jC g k i left c,v∈left
 |0,_,_,_,v,h=>by simp[jC]at h
 | k+1,i,left,c,v,h=>by
  by_cases e:left=[]
  ·subst e;simp[jC]at h
  ·rw[BT e]at h;rcases List.mem_cons.1 h with rfl|h
   ·exact BR e
   ·exact(List.mem_filter.1 (Ij v h)).1
end
open Go
section
variable{g:G}{r:Nat}{ms:List Nat}
def gI(g:G)(ms:List Nat)(r i:Nat):GS:=((g.from r).order.reverse.take i).foldl (GS.step (nw g r) (gV g ms r)) (mF g.n ms)
theorem ahQ(hR:g.Right)(hn:Sm g)(hr:r<g.n)(hm:∀m∈ms,m<g.n)(i:Nat):GI (nw g r) g.n (gV g ms r) (fK ms) ((g.from r).order.reverse.take i) (gI g ms r i):=by
 have T:=eX hR hr;unfold gI;rw[List.take_reverse];refine GI.all T (hn r hr) (BK hR hr hm) (λv=>by unfold fK;omega) (S:=mF g.n ms) ?_ (pre:=(g.from r).order.take ((g.from r).order.length-i)) (List.take_append_drop _ _).symm;refine⟨λx=>rfl,by simp[mF],by simp[mF],λv hv _=>⟨?_,?_⟩,λ_=>[],λv hv=>by simp at hv⟩
 ·simp[mF,List.getD_eq_getElem?_getD,hv]
 ·simp[mF,List.getD_eq_getElem?_getD,hv]
theorem VF:gI g ms r (g.from r).order.length=eR g ms r:=by
 unfold gI eR;rw[List.take_of_length_le (by simp)]
theorem ahR{i:Nat}(hi:i<(g.from r).order.length):gI g ms r (i+1)=(gI g ms r i).step (nw g r) (gV g ms r) ((g.from r).order.reverse.getD i 0):=by
 unfold gI;have h:i<(g.from r).order.reverse.length:=by rw[List.length_reverse];exact hi
 rw[List.take_succ_eq_append_getElem h,List.foldl_append,List.getD_eq_getElem?_getD,List.getElem?_eq_getElem h];rfl
theorem VG(hR:g.Right)(hn:Sm g)(hr:r<g.n)(hm:∀m∈ms,m<g.n)(hml:ms.length<=2^20)(i:Nat):(∀x,((gI g ms r i).kd x).length<=32)/\(gI g ms r i).sz.length=g.n/\(gI g ms r i).mc.length=g.n/\
  (∀v,∀k∈(gI g ms r i).kd v,k<g.n/\k≠v)/\∀u,0<=(gI g ms r i).mc.getD u 0/\(gI g ms r i).mc.getD u 0<=2^32:=by
 have T:=eX hR hr;have H:=ahQ hR hn hr hm i;have b:∀u,0<=fK ms u/\fK ms u<=2^20:=λu=>by
  unfold fK;have :=List.count_le_length (a:=u) (l:=ms);omega
 refine⟨λx=> ?_,H.sl,H.ml,λv k hk=> ?_,λu=> ?_⟩
 ·rw[H.kd];have h1:=List.length_filter_le (λv=>decide (nw g r v=some x)) ((g.from r).order.reverse.take i);have h2:=hn r hr;rw[List.length_take,List.length_reverse]at h1;omega
 ·rw[H.kd,List.mem_filter,decide_eq_true_eq]at hk;obtain⟨p1,_,_,c⟩:=lP T hk.2;exact⟨T.range k p1,λe=>by rw[e]at c;omega⟩
 ·by_cases hu:u∈(g.from r).order.reverse.take i
  ·obtain⟨pt,hpt⟩:=H.done;obtain⟨h1,h2,h3,_⟩:=hpt u hu;have d:u∈(g.from r).order:=List.mem_reverse.1 (List.mem_of_mem_take hu);have h4:=HG h1 λx hx=>HC T ((h2 x).1 hx) d;have h6:=hn r hr;have h5:=HD (f:=fK ms) (l:=pt u) (B:=2^20) λk _=>(b k).2;rw[h3];refine⟨xY λk _=>(b k).1,?_⟩;omega
  ·by_cases hun:u<g.n
   ·rw[(H.out u hun hu).2];have :=b u;omega
   ·rw[List.getD_eq_getElem?_getD,List.getElem?_eq_none (by rw[H.ml];omega)];exact⟨Int.le_refl _,by decide⟩
theorem ahS{n x:Nat}{l:List Nat}(hx:x<n):((List.range n).map (fK l)).set x (fK l x+1)=(List.range n).map (fK (l++ [x])):=by
 apply List.ext_getElem?;intro i;by_cases hi:i<n
 ·by_cases e:i=x
  ·subst e;rw[List.getElem?_set_self (by simpa using hi)];simp[hi,fK,List.count_append]
  ·rw[List.getElem?_set_ne (λh=>e h.symm)];have :List.count i [x]=0:=List.count_eq_zero.2 (by simpa using e);simp[hi,fK,List.count_append,this]
 ·rw[List.getElem?_eq_none (by simp;omega),List.getElem?_eq_none (by simp;omega)]
end
open Go
structure kR where
 lo:Int
 hi:Int
 any:Bool
def eS(e:kR)(x:Int):kR:=if e.any then⟨min e.lo x,max e.hi x,true⟩else⟨x,x,true⟩
def fA(l:List Int):kR:=l.foldl eS ⟨0,0,false⟩
theorem VH:∀{l:List Int}{e:kR}{a b:Int},(∀x∈l,a<=x/\x<=b)->(e.any=true->a<=e.lo/\e.lo<=e.hi/\e.hi<=b)->
  ((l.foldl eS e).any=true->a<=(l.foldl eS e).lo/\(l.foldl eS e).lo<=(l.foldl eS e).hi/\(l.foldl eS e).hi<=b)/\
  (∀x∈l,(l.foldl eS e).lo<=x/\x<=(l.foldl eS e).hi)/\(e.any=true->(l.foldl eS e).lo<=e.lo/\e.hi<=(l.foldl eS e).hi/\(l.foldl eS e).any=true)/\(l≠ []->(l.foldl eS e).any=true)
 | [],e,a,b,_,he=>⟨he,(λ_ h=>by cases h),λh=>⟨Int.le_refl _,Int.le_refl _,h⟩,λh=>absurd rfl h⟩
 | y::l,e,a,b,hl,he=>by
  have hy:=hl y List.mem_cons_self;have hw:(eS e y).any=true/\(eS e y).lo<=y/\y<=(eS e y).hi/\a<=(eS e y).lo/\(eS e y).hi<=b/\(e.any=true->(eS e y).lo<=e.lo/\e.hi<=(eS e y).hi):=by
   unfold eS;cases h:e.any with
   |true=>
    have :=he h;simp only[if_true];refine⟨trivial,?_,?_,?_,?_,λ_=>⟨?_,?_⟩⟩<;>omega
   |false=>
    simp only[Bool.false_eq_true,if_false];refine⟨trivial,Int.le_refl _,Int.le_refl _,hy.1,hy.2,λh=>by cases h⟩
  obtain⟨w1,w2,w3,w4,d,f⟩:=hw;obtain⟨h1,h2,h3,_⟩:=VH (l:=l) (e:=eS e y) (a:=a) (b:=b) (λx hx=>hl x (List.mem_cons_of_mem _ hx)) λ_=>⟨w4,by omega,d⟩;have c:=h3 w1;rw[List.foldl_cons];refine⟨h1,λx hx=> ?_,λh=> ?_,λ_=>c.2.2⟩
  ·rcases List.mem_cons.1 hx with rfl|hx
   ·omega
   ·exact h2 x hx
  ·have :=f h;exact⟨by omega,by omega,c.2.2⟩
theorem BU{l:List Int}{a b:Int}(hl:∀x∈l,a<=x/\x<=b)(hne:l≠ []):a<=(fA l).lo/\(fA l).hi<=b/\(fA l).lo<=(fA l).hi/\∀x∈l,(fA l).lo<=x/\x<=(fA l).hi:=by
 obtain⟨h1,h2,_,h4⟩:=VH (l:=l) (e:=⟨0,0,false⟩) hl (λh=>by cases h);have :=h1 (h4 hne);exact⟨this.1,this.2.2,this.2.1,h2⟩
def partOf(e:kR)(many:Nat)(x:Int):Int:=(x-e.lo)*many/(e.hi-e.lo+1)
theorem yj{e:kR}{many:Nat}{x:Int}(h1:e.lo<=x)(h2:x<=e.hi)(hm:1<=many):0<=partOf e many x/\partOf e many x<many:=by
 unfold partOf;have hd:0<e.hi-e.lo+1:=by omega
 refine⟨Int.ediv_nonneg (Int.mul_nonneg (by omega) (by omega)) (by omega),Int.ediv_lt_of_lt_mul hd ?_⟩;rw[Int.mul_comm (many:Int)];exact Int.mul_lt_mul_of_pos_right (by omega) (by omega)
def uL(g:G)(rows dK:Nat):List Int:=(List.range g.n).map λv=>partOf (fA g.Y) rows (g.Y.getD v 0)*dK+partOf (fA g.X) dK (g.X.getD v 0)
theorem ahT{g:G}{rows dK:Nat}(hR:g.Right)(hr:1<=rows)(hc:1<=dK){z:Int}(hz:z∈uL g rows dK):0<=z/\z<(rows*dK:Nat):=by
 obtain⟨v,hv,rfl⟩:=List.mem_map.1 hz;have hv:=List.mem_range.1 hv;have hx:g.X.getD v 0∈g.X:=by
  rw[List.getD_eq_getElem?_getD,List.getElem?_eq_getElem (by rw[hR.x];exact hv),Option.getD_some];exact List.getElem_mem _
 have hy:g.Y.getD v 0∈g.Y:=by
  rw[List.getD_eq_getElem?_getD,List.getElem?_eq_getElem (by rw[hR.y];exact hv),Option.getD_some];exact List.getElem_mem _
 obtain⟨_,_,_,c⟩:=BU hR.xr (List.ne_nil_of_mem hx);obtain⟨_,_,_,d⟩:=BU hR.yr (List.ne_nil_of_mem hy);have p1:=yj (c _ hx).1 (c _ hx).2 hc;have p2:=yj (d _ hy).1 (d _ hy).2 hr;generalize partOf (fA g.Y) rows (g.Y.getD v 0)=a at p2;generalize partOf (fA g.X) dK (g.X.getD v 0)=b at p1;obtain⟨a,rfl⟩:=Int.eq_ofNat_of_zero_le p2.1;obtain⟨b,rfl⟩:=Int.eq_ofNat_of_zero_le p1.1;have :=Nat.mul_le_mul_right dK (show a+1<=rows by omega);rw[Nat.add_mul]at this;have e:(a:Int)*dK+b=((a*dK+b:Nat):Int):=by rw[Int.natCast_add,Int.natCast_mul]
 rw[e];omega
def yl(cells rows:Nat):Prop:=1<=rows/\rows*rows<=cells/\cells<(rows+1)*(rows+1)
theorem yl.dK{cells rows:Nat}(h:yl cells rows):1<=cells/rows/\rows*(cells/rows)<=cells:=by
 obtain⟨h1,h2,h3⟩:=h;refine⟨(Nat.le_div_iff_mul_le (by omega)).2 ?_,Nat.mul_div_le _ _⟩;have :=Nat.mul_le_mul_right rows h1;omega
theorem VI{g:G}{rows dK:Nat}:(uL g rows dK).length=g.n:=by simp[uL]
open Go
structure iF where
 marks:Int
 rule:Int
 kq:List Int
 kind:Int
 cells:Int
def iF.wrong(p:iF):Int:=
 if ¬(0<=p.marks/\p.marks<=16)then 11 else if ¬(p.rule=0\/p.rule=1)then 12 else if ¬(p.kind=0\/p.kind=1\/p.kind=2)then 13 else if ¬(p.kind=0\/(1<=p.cells/\p.cells<=256))then 14 else 0
def ahU(xs:List Int)(n:Nat):Int:=match xs with
 | []=>0
 |x::_=>x.tmod n
def Ik(g:G)(k:Nat)(xs:List Int):List Nat:=jC g k 0 (List.range g.n) (jZ g [ahU xs g.n])
def marksOf(g:G)(p:iF):List Nat:=if p.rule=0 then Ik g p.marks.toNat p.kq else fu g p.kq (min p.marks g.n).toNat
theorem VJ{g:G}:∀{k i:Nat}{left:List Nat}{c:List Int},(jC g k i left c).Nodup
 |0,_,_,_=>List.nodup_nil
 | k+1,i,left,c=>by
  by_cases e:left=[]
  ·subst e;exact List.nodup_nil
  ·rw[BT e,List.nodup_cons];refine⟨λh=> ?_,VJ⟩;have :=Ij _ h;have :=(List.mem_filter.1 this).2;simp at this
structure Il(g:G):Prop extends G.Right g where
 sm:Sm g
 short:g.ag.length<=84
theorem VK{g:G}{p:iF}(hR:g.Right)(hn:Sm g)(h1:0<=p.marks)(hx:∀x∈p.kq,0<=x):(marksOf g p).Nodup/\(∀m∈marksOf g p,m<g.n)/\((marksOf g p).length:Int)=min p.marks g.n:=by
 unfold marksOf;split
 ·unfold Ik;refine⟨VJ,λm hm=>List.mem_range.1 (Ij _ hm),?_⟩;rw[VE List.nodup_range,List.length_range];omega
 ·obtain⟨a,b⟩:=HI hR hn hx (k:=(min p.marks g.n).toNat) (by omega);exact⟨a,b,by rw[qy];omega⟩
def BV(g:G)(p:iF)(xs:List Int):Prop:=∃ys,xs=norm ys/\((p.kind=1/\∃rows,yl p.cells.toNat rows/\ys=uL g rows (p.cells.toNat/rows))\/(p.kind=2/\ys=rY g p.cells.toNat))
theorem ahV{l:List Int}:(norm l).length=l.length:=Dg
theorem BV.facts{g:G}{p:iF}{xs:List Int}(hR:g.Right)(h1:1<=p.cells)(H:BV g p xs):xs.length=g.n/\norm xs=xs/\0<=jw xs/\jw xs<p.cells:=by
 obtain⟨ys,rfl,H⟩:=H;have hpos:=hR.pos;have hlen:ys.length=g.n/\∀z∈ys,0<=z/\z<(p.cells.toNat:Int):=by
  rcases H with ⟨_,rows,hS,rfl⟩|⟨_,rfl⟩
  ·have hc:=hS.dK;refine⟨VI,λz hz=> ?_⟩;have :=ahT hR hS.1 hc.1 hz;omega
  ·refine⟨Bx,λz hz=> ?_⟩;obtain⟨v,hv,e⟩:=List.mem_iff_getElem.1 hz;rw[Bx]at hv;obtain⟨j,hj,a⟩:=af7 (g:=g) (c:=p.cells.toNat) (by omega) hv;rw[List.getElem?_eq_getElem (by rw[Bx];exact hv),e]at hj;have :=Option.some.inj hj;omega
 have hl:(norm ys).length=g.n:=by rw[ahV];exact hlen.1
 have hne:norm ys≠ []:=λe=>by rw[e]at hl;simp at hl;omega
 have hm:=ZA hlen.2 (ZE hne);exact⟨hl,ZC,hm.1,by omega⟩
open Go
def ji(k:Nat):UInt8:=UInt8.ofNat (2^k)
def yo(x:UInt8)(k:Nat):Bool:=(x&&& ji k) != 0
def Ip(x:UInt8)(k:Nat):UInt8:=(x&&& ~~~ji k)|||ji k
theorem BY{P:UInt8->Prop}(h:∀x:Fin 256,P (UInt8.ofNat x.val))(x:UInt8):P x:=by
 have :=h ⟨x.toNat,x.toNat_lt⟩;simpa using this
theorem ah7:∀k:Fin 8,IntKind.u8.wrap (1*2^(min (k.val:Int).toNat IntKind.u8.bits))=((ji k.val).toNat:Int):=by decide+kernel
theorem ah8(x:UInt8)(k:Fin 8):IntKind.u8.wrap (BitVec.ofInt IntKind.u8.bits (x.toNat:Int)&&& ~~~BitVec.ofInt IntKind.u8.bits ((ji k.val).toNat:Int)).toNat=((x&&& ~~~ji k.val).toNat:Int):=by
 revert k;revert x;exact BY (by decide+kernel)
theorem or_val(x:UInt8)(k:Fin 8):IntKind.u8.wrap (BitVec.ofInt IntKind.u8.bits (x.toNat:Int)|||BitVec.ofInt IntKind.u8.bits ((ji k.val).toNat:Int)).toNat=((x|||ji k.val).toNat:Int):=by
 revert k;revert x;exact BY (by decide+kernel)
theorem and_val(x:UInt8)(k:Fin 8):(IntKind.u8.wrap (BitVec.ofInt IntKind.u8.bits (x.toNat:Int)&&& BitVec.ofInt IntKind.u8.bits ((ji k.val).toNat:Int)).toNat != 0)=yo x k.val:=by
 revert k;revert x;exact BY (by decide+kernel)
theorem ah9(x:UInt8)(k k':Fin 8):yo (Ip x k.val) k'.val=(decide (k=k')||yo x k'.val):=by
 revert k k';revert x;exact BY (by decide+kernel)
theorem aia(k:Fin 8):yo 0 k.val=false:=by revert k;decide
def eZ(bs:List UInt8)(cW row i:Nat):Bool:=yo (bs.getD (row*cW+i/8) 0) (i%8)
def nB(bs:List UInt8)(cW row i:Nat):List UInt8:=bs.set (row*cW+i/8) (Ip (bs.getD (row*cW+i/8) 0) (i%8))
theorem VR{bs:List UInt8}{cW row i:Nat}:(nB bs cW row i).length=bs.length:=by simp[nB]
theorem aib{cW r r' q q':Nat}(hq:q<cW)(a:q'<cW)(h:r*cW+q=r'*cW+q'):r=r'/\q=q':=by
 rcases Nat.lt_trichotomy r r' with e|e|e
 ·have :=Nat.mul_le_mul_right cW (show r+1<=r' by omega);rw[Nat.add_mul]at this;omega
 ·subst e;omega
 ·have :=Nat.mul_le_mul_right cW (show r'+1<=r by omega);rw[Nat.add_mul]at this;omega
theorem BZ{rows cW r q:Nat}(hr:r<rows)(hq:q<cW):r*cW+q<rows*cW:=by
 have :=Nat.mul_le_mul_right cW (show r+1<=rows by omega);rw[Nat.add_mul]at this;omega
theorem aic{bs:List UInt8}{cW r i r' i':Nat}(hb:r*cW+i/8<bs.length)(hi:i/8<cW)(hi':i'/8<cW):
  eZ (nB bs cW r i) cW r' i'=(decide (r=r'/\i=i')||eZ bs cW r' i'):=by
 unfold eZ nB;by_cases e:r*cW+i/8=r'*cW+i'/8
 ·obtain⟨h1,h2⟩:=aib hi hi' e;rw[List.getD_eq_getElem?_getD,<-e,List.getElem?_set_self hb,Option.getD_some];have :=ah9 (bs.getD (r*cW+i/8) 0) ⟨i%8,by omega⟩ ⟨i'%8,by omega⟩;dsimp only at this;rw[this];congr 1;apply decide_eq_decide.2;rw[Fin.mk.injEq];omega
 ·rw[List.getD_eq_getElem?_getD,List.getElem?_set_ne e,<-List.getD_eq_getElem?_getD];have :¬(r=r'/\i=i'):=λ⟨h1,h2⟩=>e (by rw[h1,h2]);rw[decide_eq_false this,Bool.false_or]
theorem aid{m cW r i:Nat}:eZ (List.replicate m 0) cW r i=false:=by
 unfold eZ;have :(List.replicate m (0:UInt8)).getD (r*cW+i/8) 0=0:=by
  rw[List.getD_eq_getElem?_getD,List.getElem?_replicate];split<;>rfl
 rw[this];exact aia ⟨i%8,by omega⟩
def setRow(bs:List UInt8)(cW r:Nat)(l:List Nat):List UInt8:=l.foldl (λb i=>nB b cW r i) bs
theorem Iq:∀{l:List Nat}{bs:List UInt8}{cW r:Nat},(setRow bs cW r l).length=bs.length
 | [],_,_,_=>rfl
 |i::l,bs,cW,r=>by
  have :=Iq (l:=l) (bs:=nB bs cW r i) (cW:=cW) (r:=r);rw[VR]at this;exact this
theorem VS:∀{l:List Nat}{bs:List UInt8}{rows cW r r' i':Nat},bs.length=rows*cW->r<rows->(∀i∈l,i/8<cW)->i'/8<cW->eZ (setRow bs cW r l) cW r' i'=(decide (r=r'/\i'∈l)||eZ bs cW r' i')
 | [],bs,rows,cW,r,r',i',_,_,_,_=>by simp[setRow]
 | i::l,bs,rows,cW,r,r',i',hb,hr,hl,hi'=>by
  have hi:=hl i List.mem_cons_self;have h1:=VS (l:=l) (bs:=nB bs cW r i) (r':=r') (by rw[VR];exact hb) hr (λj hj=>hl j (List.mem_cons_of_mem _ hj)) hi';have h2:=aic (r':=r') (by rw[hb];exact BZ hr hi) hi hi';show eZ (setRow (nB bs cW r i) cW r l) cW r' i'=_;rw[h1,h2];rw[<-Bool.or_assoc];congr 1;rw[<-Bool.decide_or];apply decide_eq_decide.2;rw[List.mem_cons];constructor
  ·rintro(⟨a,b⟩|⟨a,b⟩)
   ·exact⟨a,.inr b⟩
   ·exact⟨a,.inl b.symm⟩
  ·rintro⟨a,b|b⟩
   ·exact .inr ⟨a,b.symm⟩
   ·exact .inl ⟨a,b⟩
def bP(w:Nat):Nat:=(w+7)/8
theorem yp{w i:Nat}(h:i<w):i/8<bP w:=by unfold bP;omega
open Go
abbrev Nm:=ByteArray
inductive Ch where
 |mk (a:Nm) (n:Nat)
 |ren (a b:Nm)
 |rem (a:Nm)
deriving DecidableEq
abbrev sj:=List (Nm×Nat)
def VT:sj->Nm->Option Nat
 | [],_=>none
 |x::r,a=>if x.1=a then some x.2 else VT r a
def Ir(D:sj)(a:Nm):sj:=D.filter λx=> !decide (x.1=a)
def VU(D:sj)(a:Nm)(n:Nat):sj:=(a,n)::Ir D a
def app(D:sj):Ch->sj
 | .mk a n=>VU D a n
 | .ren a b=>VU (Ir D a) b ((VT D a).getD 0)
 | .rem a=>Ir D a
open Go Go.ChangeShapes Go.WideShapes Go.ChangeAt Go.RowKit
section
variable{H:Type}{iX:TypeId×Value->H}{P:Program}{w:World}{α:Type}{enc:α->List Value}{ok:α->Prop}{n:Nat}{e t:TypeId}{v:Value}{r:Reach}{base:Nat}{d:DataW H}{p:List MemPlace}{cs:List Value}
theorem ai2{fuel:Nat}{x0:DataW H×List MemPlace}(he:∀a,(enc a).length=n)(ht:P.underlying t=some (.slice e))(hn:P.cellsOf e=n)(hpos:0<n)
  (q:∀fuel cs x,DataW.trod iX P w 0 (λ_=>true) true fuel e cs=some x->∃a,cs=enc a/\ok a)
  (hf:DataW.trod iX P w 0 (λ_=>true) true fuel t [v]=some x0) (u:∀a l c,v=.slice (some a) l c->a.spot=none):
  ∃bl xs,jK enc n w.heap v bl xs/\(∀a∈xs,ok a)/\xs.length<=maxLen:=by
 rcases Go.Deep.open_slice ht hf with ⟨hc,_⟩|⟨a,len,cap,m,fuel',D,Pl,hc,_,hle,y,hm,_,hx⟩
 ·simp only[List.cons.injEq,and_true]at hc;subst hc;exact⟨0,[],⟨none,0,rfl,Nat.le_refl _,.inl ⟨rfl,.inl rfl⟩⟩,by simp,by simp⟩
 ·simp only[List.cons.injEq,and_true]at hc;subst hc;have hsp:=u a len cap rfl;simp only[if_true]at hm;subst hm;have hall:∀i,i<len->∃x:α,w.cells? 0 (a.add (i*n)) n=some (enc x)/\ok x:=by
   intro i hi;obtain⟨cs',h1,h2⟩:=hx i (by omega);obtain⟨x,rfl,hok⟩:=q _ _ _ h2;rw[hn]at h1;exact⟨x,h1,hok⟩
  obtain⟨xs,hl,hxs⟩:=JL (Q:=λi x=>w.cells? 0 (a.add (i*n)) n=some (enc x)/\ok x) len hall;refine⟨a.block,xs,?_,λx hx'=> ?_,by omega⟩
  ·refine⟨some a,m,by rw[hl],by omega,?_⟩;have ha:a=⟨a.block,a.off,none⟩:=by
    obtain⟨b,o,s⟩:=a;simp only at hsp;subst hsp;rfl
   by_cases h0:xs=[]
   ·exact .inl ⟨h0,.inr ⟨_,_,by rw[<-ha]⟩⟩
   ·right;have hlp:0<xs.length:=List.length_pos_iff.2 h0;have hcell:∀i(hi:i<xs.length) j,j<n->w.cell? ⟨a.block,a.off+i*n+j,none⟩=(enc xs[i])[j]? :=by
     intro i hi j hj;have h1:=(hxs i hi).1;unfold World.cells? at h1;rw[if_pos (Nat.zero_le _),add_plain hsp]at h1;have :=JK h1 j j (by simp[hj]);rw[add_plain rfl]at this;exact this
    have f:=hcell 0 hlp 0 hpos;simp only[World.cell?]at f;have hblk:∃c T fz,w.heap[a.block]? =some (.cells c T fz):=by
     split at f
     ·rename_i c T fz hb;exact⟨c,T,fz,hb⟩
     ·rw[List.getElem?_eq_getElem (by rw[he];exact hpos)]at f;cases f
    obtain⟨c,T,fz,hb⟩:=hblk;have h:∀i(hi:i<xs.length) j,j<n->c[a.off+i*n+j]? =(enc xs[i])[j]? :=by
     intro i hi j hj;have :=hcell i hi j hj;simpa[World.cell?,hb]using this
    have hrl:=gi he xs;have hmid:(c.toList.drop a.off).take (xs.length*n)=row enc xs:=by
     apply List.ext_getElem?;intro k;by_cases hk:k<xs.length*n
     ·have hi:k/n<xs.length:=(Nat.div_lt_iff_lt_mul hpos).2 hk;have hj:k%n<n:=Nat.mod_lt _ hpos;have hkk:k/n*n+k%n=k:=by rw[Nat.mul_comm];exact Nat.div_add_mod k n
      have g:=qW he hi hj [];rw[List.append_nil,hkk]at g;rw[g,<-h _ hi _ hj,List.getElem?_take_of_lt hk,List.getElem?_drop,Nat.add_assoc,hkk];simp
     ·rw[List.getElem?_eq_none (by simp;omega),List.getElem?_eq_none (by omega)]
    have hsize:a.off+xs.length*n<=c.size:=by
     have hi:xs.length-1<xs.length:=by omega
     have h1:=h (xs.length-1) hi (n-1) (by omega);rw[List.getElem?_eq_getElem (by rw[he];omega)]at h1;have h2:=(Array.getElem?_eq_some_iff.1 h1).1;have h3:(xs.length-1)*n+n=xs.length*n:=by rw[<-Nat.succ_mul];congr 1;omega
     omega
    refine⟨a.off,c.toList.take a.off,c.toList.drop (a.off+xs.length*n),T,fz,by rw[<-ha],?_,by simp;omega⟩;rw[hb,<-hmid];have :c.toList.take a.off++(c.toList.drop a.off).take (xs.length*n)++c.toList.drop (a.off+xs.length*n)=c.toList:=by
     rw[<-List.drop_drop,List.append_assoc,List.take_append_drop,List.take_append_drop]
    rw[this]
  ·obtain⟨i,hi,rfl⟩:=List.mem_iff_getElem.1 hx';exact(hxs i hi).2
def fB(iX:TypeId×Value->H)(P:Program)(w:World)(t:TypeId)(cs:List Value):Prop:=
 (∃fuel x,DataW.trod iX P w 0 (λ_=>true) true fuel t cs=some x)/\∀v∈cs,∀a l c,v=.slice (some a) l c->a.spot=none
theorem ai3{a:Addr}{l c:Nat}(h:Cell.okWide P w r base t (.slice (some a) l c)):a.spot=none:=by
 unfold Cell.okWide at h;cases hu:P.underlying t with
 |none=>simp[hu,Cell.ok]at h
 |some u=>
  cases u<;>simp[hu,Cell.ok]at h;exact h.2.2.2.1
def isAgg(P:Program)(t:TypeId):Bool:=match P.underlying t with
 |some (.struct _)|some (.array _ _)=>true
 |_=>false
theorem Wo(ha:isAgg P t=true)(hn:P.cellsOf t=n)(hv:Value.okWide P w r base t v)(hd:DataW.Trod iX P w 0 (λ_=>true) true t v d p):
  ∃cs:List Value,v=.agg cs.toArray/\cs.length=n/\fB iX P w t cs:=by
 have :∃cs,v=.agg cs/\cs.size=P.cellsOf t/\Row.okWide P w r base t cs:=by
  unfold Value.okWide at hv;unfold isAgg at ha;split at hv
  ·exact hv
  ·exact hv
  ·rename_i h1 h2;split at ha
   ·rename_i h3;exact absurd h3 (h1 _)
   ·rename_i h3;exact absurd h3 (h2 _ _)
   ·cases ha
 obtain⟨cs,rfl,hs,ts,_,_,hc⟩:=this;obtain⟨fuel,hf⟩:=hd;refine⟨cs.toList,by simp,by simpa[hn]using hs,⟨fuel,_,hf⟩,λv hv a l c e=> ?_⟩;obtain⟨i,hi⟩:=List.getElem?_of_mem hv;obtain⟨u,_,hu⟩:=hc i v (by simpa using hi);rw[e]at hu;exact ai3 hu
def Wp(P:Program)(t:TypeId)(i:Nat):Option (TypeId×Nat):=match P.underlying t with
 |some (.struct fs)=>fs.toList[i]?.map λf=>(f.type,f.offset)
 |_=>none
theorem fB.field(O:fB iX P w t cs)(i:Nat){ft:TypeId}{off:Nat}{cs':List Value}(hf:Wp P t i=some (ft,off))(hn:P.cellsOf ft=n)(hcs:(cs.drop off).take n=cs'):fB iX P w ft cs':=by
 obtain⟨⟨fuel,x,h⟩,hs⟩:=O;unfold Wp at hf;split at hf
 ·rename_i fs ht;obtain⟨xs,m,rfl,_,_,_,a⟩:=DataW.trod_struct ht h;simp only[Option.map_eq_some_iff]at hf;obtain⟨f,hi,e⟩:=hf;injection e with e1 e2;subst e1 e2 hn hcs;refine⟨⟨m,?_⟩,λv hv=>hs v (List.mem_of_mem_drop (List.mem_of_mem_take hv))⟩;have hh:=a i f (by simpa using hi);obtain⟨y,hy⟩:∃y,xs[i]? =some y:=by
   have :i<xs.length:=by
    have :=(List.getElem?_eq_some_iff.1 hi).1;simp_all
   exact⟨_,List.getElem?_eq_getElem this⟩
  exact⟨y,by rw[hh,hy]⟩
 ·cases hf
theorem fB.elem{m:Nat}(O:fB iX P w t cs)(i:Nat){cs':List Value}(ht:P.underlying t=some (.array m e))(hi:i<m)(hn:P.cellsOf e=n)(hcs:(cs.drop (i*n)).take n=cs'):fB iX P w e cs':=by
 obtain⟨⟨fuel,x,h⟩,hs⟩:=O;obtain⟨xs,k,rfl,_,_,hl,a⟩:=DataW.trod_array ht h;subst hn hcs;refine⟨⟨k,xs[i],?_⟩,λv hv=>hs v (List.mem_of_mem_drop (List.mem_of_mem_take hv))⟩;rw[a i hi,List.getElem?_eq_getElem (by omega)]
theorem fB.int{k:IntKind}(O:fB iX P w t [v])(ht:P.underlying t=some (.int k)):∃a:Int,v=.int k a/\k.min<=a/\a<=k.max:=by
 obtain⟨⟨fuel,x,h⟩,_⟩:=O;obtain⟨a,e,r⟩:=C2 ht _ _ _ h;simp only[List.cons.injEq,and_true]at e;exact⟨a,e,r⟩
theorem fB.view(he:∀a,(enc a).length=n)(O:fB iX P w t [v])(ht:P.underlying t=some (.slice e))(hn:P.cellsOf e=n)(hpos:0<n)
  (b:∀fuel cs x,DataW.trod iX P w 0 (λ_=>true) true fuel e cs=some x->∃a,cs=enc a/\ok a):∃bl xs,jK enc n w.heap v bl xs/\(∀a∈xs,ok a)/\xs.length<=maxLen:=by
 obtain⟨⟨fuel,x,h⟩,hs⟩:=O;exact ai2 he ht hn hpos b h (hs v (by simp))
theorem ai4(he:P.underlying e=some .bool){sp:Nat->Bool}:∀fuel cs x,DataW.trod iX P w 0 sp true fuel e cs=some x->∃a:Bool,cs=[.bool a]/\True:=by
 intro fuel cs x h;cases fuel with
 |zero=>simp[DataW.trod]at h
 |succ m=>
  unfold DataW.trod at h;rw[he]at h;split at h<;>simp_all
theorem ai5{l:List Value}(h:l.length=2):∃a b,l=[a,b]:=by match l,h with| [a,b],_=>exact⟨a,b,rfl⟩
theorem ai6{l:List Value}(h:l.length=6):∃a b c d e f,l=[a,b,c,d,e,f]:=by match l,h with| [a,b,c,d,e,f],_=>exact⟨a,b,c,d,e,f,rfl⟩
def Iz(k:IntKind)(x:Int):List Value:=[.int k x]
end
open Go
inductive sw where
 |pl (a:Ann)
 |Cf
 |two (x y:sw)
 |cut (slots:List Nat) (x:Ann) (y:sw)
def mK(P:Program)(n:Nat):Code->sw->bM->List Nat->aa->(Exit->bM->List Nat->aa->Prop)->Prop
 |c,.pl a,e,m,h,K=>compile P n false c a e m h K
 | .seq a b,.two x y,e,m,h,K=>mK P n a x e m h λex e' m' h'=>(match ex with
  | .normal=>mK P n b y e' m' h' K
  |ex=>K ex e' m' h')
 | .seq a b,.cut slots x y,e,m,h,K=>(match iV a with
  |true=>eW (λJ=>compile P n false a x e m h λex e' m' h'=>(match ex with
   | .normal=>oG e' slots λv=>J v h'
   |ex=>K ex e' m' h')) (λv h'=>mK P n b y (oF slots v (lZ (slots++writes a) e)) m h' K)
  |false=>False)
 | .cond c a b,.two x y,e,m,h,K=>(match oD e c with
  |true=>az (ev e c) (mK P n a x e m h K) (mK P n b y e m h K)
  |false=>False)
 | .region i ops draw,.Cf,e,m,h,K=>(match qR ops.toList,draw with
  |true,false=>pq P n ops (λc h'=>K (.panic c) (lZ (writes (.region i ops false)) e) m h') ops.toList e h λe' h'=>K .normal e' m h'
  |_,_=>False)
 |_,_,_,_,_,_=>False
section
variable{P:Program}
theorem WR{n:Nat}:∀(c:Code)(bA:sw)(e:bM)(m:List Nat)(h:aa)(K:Exit->bM->List Nat->aa->Prop),
  mK P n c bA e m h K->(P.follows .mixedOrders=true)->∀(ds:List Deferred)(a:Act)(w:World)(Q:Exit->Act->World->Prop),Rel e a.tmps->a.tmps.size=n->a.defers=marks m++ds->w.heap=h->
  (∀ex e' m' a' w',Rel e' a'.tmps->a'.tmps.size=n->a'.defers=marks m'++ds->cU w w'->K ex e' m' w'.heap->Q ex a' w')->c.wpIn (WF none) 0 P Q a w:=by
 intro c bA
 induction bA generalizing c with
 |pl g=>
  intro e m h K hc hf ds a w Q hr hn hd hw hq;have hc:compile P n false c g e m h K:=by cases c<;>exact hc
  exact jH c g none e m h K hc hf ds a w Q hr hn hd hw λex e' m' a' w' h1 h2 h3 h4 _ _ h5=>hq ex e' m' a' w' h1 h2 h3 h4 h5
 | Cf=>
  intro e m h K hc hf ds a w Q hr hn hd hw hq;cases c<;>try exact hc.elim
  rename_i id ops draw;subst hw;simp only[mK]at hc;split at hc
  ·rename_i p;have q:∀{t t':Array Value},Fr ops t t'->sW (.region id ops false) t t':=λhfr s hs=>
    hfr.2 s λi hi=>by
     unfold iI at hi;cases ho:ops[i]? with
     |none=>rw[ho]at hi;cases hi
     |some o=>
      rw[ho]at hi;exact CQ _ hs o (List.mem_of_getElem? (by simpa using ho)) hi
   refine wpIn_region ?_;have :=G4 (ro:=none) (Q:=Q) (n:=n) (CO p) ops.toList 0 (a:=a) (w:=w) (by simp) hr hn rfl hc
    (λe' a' w' hr' hn' hd' hs' hf' hk'=>hq _ e' m a' w' hr' hn' (hd'.trans hd) hs' hk')
    (λc a' w' hn' hd' hs' hf' hk'=>hq _ _ m a' w' (qU hr (q hf')) hn' (hd'.trans hd) hs' hk')
   rwa[List.drop_zero]at this
  ·exact hc.elim
 | two j r k b=>
  intro e m h K hc hf ds a w Q hr hn hd hw hq;cases c<;>try exact hc.elim
  ·rename_i x y;refine wpIn_seq (k x e m h _ hc hf ds a w _ hr hn hd hw ?_);intro ex e' m' a' w' hr' hn' hd' hs' hk;cases ex with
   |normal=>exact b y e' m' w'.heap K hk hf ds a' w' Q hr' hn' hd' rfl λd e2 m2 a2 w2 f hn2 hd2 hs2 hk2=>hq d e2 m2 a2 w2 f hn2 hd2 (hs'.trans hs2) hk2
   |exit id=>exact hq _ e' m' a' w' hr' hn' hd' hs' hk
   |goto l=>exact hq _ e' m' a' w' hr' hn' hd' hs' hk
   |ret=>exact hq _ e' m' a' w' hr' hn' hd' hs' hk
   |panic ch=>exact hq _ e' m' a' w' hr' hn' hd' hs' hk
   |outgrown=>exact hq _ e' m' a' w' hr' hn' hd' hs' hk
  ·rename_i c x y;simp only[mK]at hc;split at hc
   ·rename_i hk;have he:iT a.tmps c=ev e c:=hr.ev hk |>.symm;unfold az at hc;split at hc
    ·rename_i hv;exact wpIn_cond_true (by rw[nH,he];exact hv) (k x e m h K hc hf ds a w Q hr hn hd hw hq)
    ·rename_i hv;exact wpIn_cond_false (by rw[nH,he];exact hv) (b y e m h K hc hf ds a w Q hr hn hd hw hq)
    ·exact hc.elim
   ·exact hc.elim
 | cut slots j r b=>
  intro e m h K hc hf ds a w Q hr hn hd hw hq;cases c<;>try exact hc.elim
  rename_i x y;simp only[mK]at hc;split at hc
  ·rename_i hno;refine wpIn_seq (jH x j none e m h _ hc hf ds a w _ hr hn hd hw ?_);intro ex e' m' a' w' hr' hn' hd' hs' u hfr hk;have hm2:m'=m:=u hno;subst hm2;cases ex with
   | normal=>
    obtain⟨v,hB,z⟩:=sX hr' hk;exact b y _ m' w'.heap K hB hf ds a' w' Q (z _ (qU hr λs hs=>by
     rw[mQ,Bool.or_eq_false_iff]at hs;exact hfr s hs.2)) hn' hd' rfl λd e2 m2 a2 w2 f hn2 hd2 hs2 hk2=>hq d e2 m2 a2 w2 f hn2 hd2 (hs'.trans hs2) hk2
   |exit id=>exact hq _ e' m' a' w' hr' hn' hd' hs' hk
   |goto l=>exact hq _ e' m' a' w' hr' hn' hd' hs' hk
   |ret=>exact hq _ e' m' a' w' hr' hn' hd' hs' hk
   |panic ch=>exact hq _ e' m' a' w' hr' hn' hd' hs' hk
   |outgrown=>exact hq _ e' m' a' w' hr' hn' hd' hs' hk
  ·exact hc.elim
theorem ajR{f:FuncId}{fn:Func}{c:Code}{bA:sw}{args:List Value}{h:aa}{K:KT}{a:jT}(hf:P.funcs[f]? =some fn)(hb:fn.body=some c)
  (e:iS P f=true) (hm:P.follows .mixedOrders=true) (hlen:args.length<=fn.ntmps)
  (hc:mK P fn.ntmps c bA (jJ args 0) [] h (agq P fn.results.toList K a)):xJ P f args.toArray h K a:=by
 refine⟨e,λw hw=>callsIn_of_wp_marks hf hb trivial ?_⟩;obtain⟨g,hsz⟩:=Ur hlen;refine WR c bA _ [] h _ hc hm [] _ w _ g hsz rfl hw ?_;intro ex e' m' a' w' hr' hn' hd' hs' hk;have fin:cH m' w'.heap (λh'=>fD P e' h' fn.results.toList λl=>K (jI l) h')->
   LeavesInM Fence.wide 0 P fn a'.tmps (xI w K a) a'.defers .returning w':=by
  intro hk;rw[hd',List.append_nil];exact s7 hr' (λv w'' b d=>.inl ⟨v,rfl,b,d⟩) m' w' hs' hk
 cases ex with
 |normal=>exact fin hk
 |ret=>exact fin hk
 |exit id=>exact hk.elim
 |goto l=>exact hk.elim
 |outgrown=>exact hk.elim
 |panic c=>
  show LeavesInM Fence.wide 0 P fn a'.tmps (xI w K a) a'.defers (.panicking c) w';rw[hd',List.append_nil];exact Uq (λw'' b d=>.inr ⟨c,rfl,b,d⟩) m' w' hs' hk
def WS(P:Program)(rs:List ResultVar)(f:FuncId)(args:Array Value)(K:KT):Exit->bM->List Nat->aa->Prop
 | .panic c,e,m,h=>cH m h λh'=>BB P f args c h' λh''=>fD P e h'' rs λl=>K (jI l) h''
 |ex,e,m,h=>CW P rs f args K ex e m h
def WT(P:Program)(n:Nat)(B:Code)(iq:sw)(rs:List ResultVar)(s:Tmp)(f:FuncId)(caps:List Operand)(K:KT):Exit->bM->List Nat->aa->Prop
 | .normal,e,[],h=>(match mO e caps,Nat.blt s n with
  |true,true=>mK P n B iq ((s,.func (.func f) #[] (caps.map (ev e)).toArray)::e) [] h (WS P rs f (caps.map (ev e)).toArray K)
  |_,_=>False)
 |_,_,_,_=>False
theorem ajS{f g:FuncId}{fn:Func}{A B:Code}{l8:Ann}{iq:sw}{id:Nat}{o1 o2:Oper}{s:Tmp}{caps:Array Operand}{c:Call}{args:List Value}{h:aa}{K:KT}
  (hf:P.funcs[f]? =some fn) (hb:fn.body=some (.seq A (.seq (.region id #[o1,o2] false) B))) (n:iS P f=true) (hm:P.follows .mixedOrders=true) (hlen:args.length<=fn.ntmps)
  (h1:o1.op=.makeFunc (.func g) #[] caps) (o:o1.dst=some s) (hg1:o1.guard=none) (h2:o2.op=.defer c) (hc:c.callee=.value (.tmp s)) (hca:c.args= #[]) (hd2:o2.dst=none) (hg2:o2.guard=none)
  (hq:compile P fn.ntmps false A l8 (jJ args 0) [] h (WT P fn.ntmps B iq fn.results.toList s g caps.toList K)):aE P f args.toArray h K:=by
 refine⟨n,λw hw=>callsIn_of_wp_marks hf hb trivial ?_⟩;obtain⟨p,hsz⟩:=Ur hlen;refine wpIn_seq ?_;refine jH A l8 none _ [] h _ hq hm [] _ w _ p hsz rfl hw ?_;intro ex e' m' a' w' hr' hn' hd' hs' _ _ hk;cases ex<;>try exact hk.elim
 cases m' with
 |cons D m=>exact hk.elim
 | nil=>
  obtain⟨hkn,d,hk⟩:mO e' caps.toList=true/\s<fn.ntmps/\mK P fn.ntmps B iq ((s,.func (.func g) #[] (caps.toList.map (ev e')).toArray)::e') [] w'.heap (WS P fn.results.toList g (caps.toList.map (ev e')).toArray K):=by
   simp only[WT]at hk;split at hk
   ·rename_i h1 h2;exact⟨h1,Nat.le_of_ble_eq_true h2,hk⟩
   ·exact hk.elim
  have q:a'.defers=[]:=hd';show(Code.seq (.region id #[o1,o2] false) B).wpIn Fence.wide 0 P _ a' w';refine wpIn_seq ?_;refine CV (ro:=none) rfl h1 o hg1 h2 hc hca hd2 hg2 (by rw[hn'];exact d) ?_;have r:caps.map (iT a'.tmps)=(caps.toList.map (ev e')).toArray:=by
   apply Array.ext';rw[Array.toList_map];apply List.map_congr_left;intro x hx;exact(hr'.ev (vf hkn x hx)).symm
  rw[r,q];have t:Rel ((s,.func (.func g) #[] (caps.toList.map (ev e')).toArray)::e') (e9 a'.tmps (some s) (.func (.func g) #[] (caps.toList.map (ev e')).toArray)):=
   hr'.put (dst:=some s) (by rw[hn'];simpa[nK]using d)
  refine WR B iq _ [] w'.heap _ hk hm [{target:=.fn (.func g) (caps.toList.map (ev e')).toArray,args:= #[]}] _ w' _ t (by rw[pO];exact hn') rfl rfl ?_;intro u e2 m2 a2 w2 i y j k hk2;have fin:cH m2 w2.heap (λh'=>jo P g (caps.toList.map (ev e')).toArray h' λh''=>fD P e2 h'' fn.results.toList λl=>K (jI l) h'')->
    LeavesInM Fence.wide 0 P fn a2.tmps (λe w'=>∃v,e=.returned v/\cU w w'/\K v w'.heap) a2.defers .returning w2:=by
   intro hk;rw[j];refine y6 (dargs:= #[]) (w0:=w2) i (λv w'' a b=>⟨v,rfl,(hs'.trans k).trans a,b⟩) m2 w2 (.refl _) ?_;simpa using hk
  cases u with
  |normal=>exact fin hk2
  |ret=>exact fin hk2
  |exit id=>exact hk2.elim
  |goto l=>exact hk2.elim
  |outgrown=>exact hk2.elim
  |panic c=>
   show LeavesInM Fence.wide 0 P fn a2.tmps (λe w'=>∃v,e=.returned v/\cU w w'/\K v w'.heap) a2.defers (.panicking c) w2;rw[j];exact Ut (w0:=w2) i (λv w'' a b=>⟨v,rfl,(hs'.trans k).trans a,b⟩) m2 w2 (.refl _) hk2
end
open Go
def A.wt(c:Nat)(a:A):A:=⟨a.f,a.t,c⟩
def G.wt(g:G)(c:Nat):G:={g with ag:=g.ag.map (A.wt c)}
section
variable{g:G}{c s t v:Nat}
theorem IK(hR:g.Right)(hc:c<=2147483647):(g.wt c).Right:=⟨hR.pos,hR.most,hR.x,hR.y,hR.xr,hR.yr,by show(g.ag.map _).length<=_;rw[List.length_map];exact hR.many,λa ha=>by
 obtain⟨b,hb,rfl⟩:=List.mem_map.1 ha;have :=hR.ends b hb;exact⟨this.1,this.2.1,hc⟩⟩
theorem akd{d:Int}(h:Way (g.wt 1).ag A.f A.t s v d):Way (g.wt c).ag A.f A.t s v (d*c):=by
 induction h with
 |nil=>rw[Int.zero_mul];exact .nil
 | @step v d a _ hm ht ih=>
  obtain⟨b,hb,rfl⟩:=List.mem_map.1 hm;have :=Way.step (l:=(g.wt c).ag) (tl:=A.f) (hd:=A.t) (A.wt c b) ih (List.mem_map_of_mem hb) ht;have e:d*c+((A.wt c b).w:Int)=(d+(A.wt 1 b).w)*c:=by
   rw[Int.add_mul];show d*c+(c:Int)=d*c+((1:Nat):Int)*c;omega
  rw[e]at this;exact this
theorem ake{d:Int}(h:Way (g.wt c).ag A.f A.t s v d):∃k,d=k*c/\0<=k/\Way (g.wt 1).ag A.f A.t s v k:=by
 induction h with
 |nil=>exact⟨0,by rw[Int.zero_mul],Int.le_refl _,.nil⟩
 | @step v d a _ hm ht ih=>
  obtain⟨k,rfl,h0,hw⟩:=ih;obtain⟨b,hb,rfl⟩:=List.mem_map.1 hm;refine⟨k+1,by rw[Int.add_mul,Int.one_mul];rfl,by omega,?_⟩;exact Way.step (l:=(g.wt 1).ag) (tl:=A.f) (hd:=A.t) (A.wt 1 b) hw (List.mem_map_of_mem hb) ht
theorem akf{l:List A}{n:Nat}{t:Tr}(T:lz l A.f A.t n s t)(hw:∀a∈l,a.w<=1):∀v∈t.order,aF t.aH v<=t.order.idxOf v:=by
 intro v hv;generalize hk:t.order.idxOf v=k
 induction k using Nat.strongRecOn generalizing v with
 | _ k ih=>
  by_cases e:v=s
  ·subst e;rw[T.ls.zero];omega
  ·obtain⟨i,hi,_,_,hu,hd',hlt⟩:=T.bF v hv e;have h1:=ih _ (by omega) _ hu rfl;have h2:=hw (aD l i) (gD hi);omega
theorem akg(hR:g.Right)(hc:c<=2147483647)(h1:1<=c)(hs:s<g.n)(ht:t<g.n):
  aF ((g.wt c).from s).aH t=if aF ((g.wt 1).from s).aH t<aI then aF ((g.wt 1).from s).aH t*c else aF ((g.wt 1).from s).aH t:=by
 have T1:=eX (IK hR (c:=1) (by decide)) (s:=s) hs;have d:=(eX (IK hR hc) (s:=s) hs).ls;have f1:=T1.ls.iB (v:=t) ht;have f:=d.iB (v:=t) ht;have hf:aI=72057594037927936:=rfl;have i:=hR.most;have back:aF ((g.wt c).from s).aH t<aI->∃k,aF ((g.wt c).from s).aH t=k*c/\aF ((g.wt 1).from s).aH t<=k/\k<aI:=λh=>by
  have hw:=(d.way t ht).resolve_left (by omega);obtain⟨k,e,h0,hk⟩:=ake hw.2;have hk2:k<aI:=by
   have :k*1<=k*c:=Int.mul_le_mul_of_nonneg_left (by omega) h0;omega
  exact⟨k,e,T1.ls.mZ hk hk2,hk2⟩
 split
 ·rename_i h;have hw:=((T1.ls.way t ht).resolve_left (by omega)).2;have hin:=(T1.oN t ht).2 h;have hle:=akf T1 (λa ha=>by obtain⟨b,_,rfl⟩:=List.mem_map.1 ha;exact Nat.le_refl _) t hin;have hn:((g.wt 1).from s).order.length<=g.n:=iL T1.nodup T1.range;have hi:=List.idxOf_lt_length_of_mem hin;have j:aF ((g.wt 1).from s).aH t*c<=16777216*2147483647:=Int.mul_le_mul (by omega) (by omega) (by omega) (by omega);have l:=d.mZ (akd (c:=c) hw) (by omega);obtain⟨k,e,hk,_⟩:=back (by omega);have :aF ((g.wt 1).from s).aH t*c<=k*c:=Int.mul_le_mul_of_nonneg_right hk (by omega);omega
 ·rename_i h;by_cases hlt:aF ((g.wt c).from s).aH t<aI
  ·obtain⟨k,_,h1,h2⟩:=back hlt;omega
  ·omega
end
open Go Go.ChangeShapes Go.WideShapes Go.ChangeAt Go.RowKit
section
variable{H:Type}{iX:TypeId×Value->H}{P:Program}{w:World}{n:Nat}{e t:TypeId}{v:Value}{r:Reach}{base:Nat}{d:DataW H}{p:List MemPlace}
theorem fB.bool(O:fB iX P w t [v])(ht:P.underlying t=some .bool):∃a:Bool,v=.bool a:=by
 obtain⟨⟨fuel,x,h⟩,_⟩:=O;obtain⟨a,e,r⟩:=ai4 ht _ _ _ h;simp only[List.cons.injEq,and_true]at e;exact⟨a,e⟩
end
end Go.Mh
