/- Lemmas on the way to the law of this seat, joined. They have no conditions of their own. -/
import Derived.Test.YtacopgnplajifaaGreatDoorMc
import Derived.Test.YtacopgnplajifaaGreatDoorMb
import Derived.OpenShut
set_option linter.unusedVariables false
set_option linter.unusedSimpArgs false
set_option linter.unusedSectionVars false
set_option linter.defProp false

namespace Go.Mh
open Go
structure SS where
 hp:List HP
 lab:List Int
 dY:List Int
 ord:List Nat
 dg:List Ev
def SS.reach(p:Nat->Int)(s:SS)(v:Nat)(a d:Int):SS:=
 if v∈s.ord\/aN<=p v then s else match nU s.hp v with
 |some was=>if aL s.lab v<=d then s else{s with hp:=((v:Int),d+p v)::s.hp.erase ((v:Int),was),lab:=s.lab.set v d,dY:=s.dY.set v a}
 |none=>{s with hp:=((v:Int),d+p v)::s.hp,lab:=s.lab.set v d,dY:=s.dY.set v a}
def SS.ev(s:SS)(e:Ev):SS:={s with dg:=s.dg++ [e]}
def SS.look(l:List A)(p:Nat->Int)(mk:Nat->Bool)(v:Nat)(s:SS)(i:Nat):SS:=if mk i then(s.ev ⟨1,0,i,0⟩).reach p (aH l i).t i (aL s.lab v+(aH l i).w)else s
def SS.scan(l:List A)(p:Nat->Int)(mk:Nat->Bool)(v:Nat)(s:SS)(ids:List Nat):SS:=ids.foldl (SS.look l p mk v) s
def SS.pop(s:SS)(v:Nat)(key:Int):SS:={s with hp:=s.hp.erase ((v:Int),key),ord:=s.ord++ [v],dg:=s.dg++ [⟨0,0,v,aL s.lab v⟩]}
def SS.run(l:List A)(p:Nat->Int)(mk:Nat->Bool)(outs:Nat->List Nat)(to:Nat):Nat->SS->SS×Bool
 |0,s=>(s,false)
 |k+1,s=>match least s.hp with
  |none=>(s,false)
  |some q=>if q.1.toNat=to then(s.pop q.1.toNat q.2,true)else SS.run l p mk outs to k ((s.pop q.1.toNat q.2).scan l p mk q.1.toNat (outs q.1.toNat))
def SS.zero(n:Nat):SS:=⟨[],List.replicate n 0,List.replicate n (-1),[],[]⟩
def SS.start(p:Nat->Int)(n s:Nat):SS:=(SS.zero n).reach p s (-1) 0
def SS.tQ{p:Nat->Int}{s:SS}{v:Nat}{a d:Int}:(s.reach p v a d).ord=s.ord/\(s.reach p v a d).dg=s.dg:=by
 unfold SS.reach;split
 .exact⟨rfl,rfl⟩
 .split
  .split<;>exact⟨rfl,rfl⟩
  .exact⟨rfl,rfl⟩
def tR{l:List Int}{v u:Nat}{d:Int}(hv:v<l.length):aL (l.set v d) u=if u=v then d else aL l u:=by
 unfold aL;rw[cI,cI];by_cases e:u=v
 .subst e;rw[aW rfl,jo hv];rfl
 .rw[aQ e,gD (λh=>e h.symm)]
def SS.al0{p:Nat->Int}{s:SS}{v u:Nat}{a d:Int}(hv:v<s.lab.length)(hu:u∈s.ord):aL (s.reach p v a d).lab u=aL s.lab u:=by
 unfold SS.reach;split
 .rfl
 .rename_i h;have hne:u≠v:=λe=>h (.inl (e▸hu));split
  .split
   .rfl
   .rw[tR hv,aQ hne]
  .rw[tR hv,aQ hne]
def nr(l:List A)(b:List Int)(pre:List Nat)(v:Nat):Prop:=b[v]? =some (-1)\/∃a:Nat,b[v]? =some (a:Int)/\a<l.length/\(aH l a).t=v/\(aH l a).f∈pre
structure eB(l:List A)(n:Nat)(p:Nat->Int)(B:Int)(s:SS):Prop where
 ids:(s.hp.map (·.1)).Nodup
 cK:∀q∈s.hp,∃u:Nat,q.1=u/\u<n/\u∉s.ord/\q.2=aL s.lab u+p u/\p u<aN/\nr l s.dY s.ord u
 lo:∀v,v<n->0<=aL s.lab v/\aL s.lab v<=B
 ord:s.ord.Nodup
 lU:∀v∈s.ord,v<n
 ll:s.lab.length=n
 bl:s.dY.length=n
 ch:∀pre v post,s.ord=pre++v::post->nr l s.dY pre v
variable{l:List A}{n:Nat}{p:Nat->Int}{B:Int}{s:SS}
def eB.zero:eB l n p 0 (SS.zero n):=by
 refine⟨by simp[SS.zero],λq hq=>by simp[SS.zero]at hq,λv hv=> ?_,by simp[SS.zero],λv hv=>by simp[SS.zero]at hv,by simp[SS.zero],by simp[SS.zero],λpre v post h=>by simp[SS.zero]at h⟩;have :aL (SS.zero n).lab v=0:=by simp[aL,SS.zero,cI,hv]
 omega
def eB.mono{B':Int}(H:eB l n p B s)(h:B<=B'):eB l n p B' s:={H with lo:=λv hv=>⟨(H.lo v hv).1,by have :=(H.lo v hv).2;omega⟩}
def eB.ev(H:eB l n p B s)(e:Ev):eB l n p B (s.ev e):={H with}
def eB.len(H:eB l n p B s):s.ord.length<=n:=kH H.ord H.lU
def eB.room(H:eB l n p B s)(h:s.hp≠ []):s.ord.length<n:=by
 obtain⟨q,hq⟩:=EW _ h;obtain⟨u,_,hu,hno,_⟩:=H.cK q hq;have :=kH (n:=n) (l:=u::s.ord) (gC.2 ⟨hno,H.ord⟩) (by
  intro x hx;rcases cV.1 hx with rfl|hx
  .exact hu
  .exact H.lU x hx)
 simp at this;omega
def nr.set{b:List Int}{pre:List Nat}{u v:Nat}{a:Int}(h:nr l b pre u)(hne:u≠v):nr l (b.set v a) pre u:=by unfold nr at *;rw[gD (λe=>hne e.symm)];exact h
def nr.sub{b:List Int}{pre pre':List Nat}{u:Nat}(h:nr l b pre u)(hs:∀x∈pre,x∈pre'):nr l b pre' u:=by
 rcases h with h|⟨a,h1,h2,h3,h4⟩
 .exact .inl h
 .exact .inr ⟨a,h1,h2,h3,hs _ h4⟩
def eB.reach(H:eB l n p B s){v:Nat}{a d:Int}(hv:v<n)(h0:0<=d)(hB:d<=B)(ha:a= -1\/∃i:Nat,a=i/\i<l.length/\(aH l i).t=v/\(aH l i).f∈s.ord):eB l n p B (s.reach p v a d):=by
 unfold SS.reach;split
 .exact H
 .rename_i hno;have b:v∉s.ord:=λh=>hno (.inl h);have hpv:p v<aN:=by have :¬aN<=p v:=λh=>hno (.inr h);omega
  have hby:nr l (s.dY.set v a) s.ord v:=by
   unfold nr;rw[jo (by rw[H.bl];exact hv)];rcases ha with rfl|⟨i,rfl,h1,h2,h3⟩
   .exact .inl rfl
   .exact .inr ⟨i,rfl,h1,h2,h3⟩
  have hlo:∀u,u<n->0<=aL (s.lab.set v d) u/\aL (s.lab.set v d) u<=B:=λu hu=>by
   rw[tR (by rw[H.ll];exact hv)];split
   .exact⟨h0,hB⟩
   .exact H.lo u hu
  have hch:∀pre u post,s.ord=pre++u::post->nr l (s.dY.set v a) pre u:=λpre u post e=>(H.ch pre u post e).set λe'=>b (by rw[e,<-e'];simp)
  have keep:∀q∈s.hp,q.1≠v->∃u:Nat,q.1=u/\u<n/\u∉s.ord/\q.2=aL (s.lab.set v d) u+p u/\p u<aN/\nr l (s.dY.set v a) s.ord u:=λq hq hne=>by obtain⟨u,e1,e2,e3,c,g,j⟩:=H.cK q hq;have :u≠v:=λe=>hne (by rw[e1,e]);exact⟨u,e1,e2,e3,by rw[tR (by rw[H.ll];exact hv),aQ this];exact c,g,j.set this⟩
  have new:∃u:Nat,(((v:Int),d+p v):HP).1=u/\u<n/\u∉s.ord/\(((v:Int),d+p v):HP).2=aL (s.lab.set v d) u+p u/\p u<aN/\nr l (s.dY.set v a) s.ord u:=⟨v,rfl,hv,b,by rw[tR (by rw[H.ll];exact hv),aW rfl],hpv,hby⟩
  split
  .rename_i was hw;split
   .exact H
   .have hm:=tw hw;refine⟨?_,λq hq=> ?_,hlo,H.ord,H.lU,by simp[H.ll],by simp[H.bl],hch⟩
    .simp only[dI,gC];refine⟨λhx=> ?_,xy.nodup H.ids⟩;obtain⟨q,hq,he⟩:=cP.1 hx;exact not_mem_erase H.ids hm hq he
    .rcases cV.1 hq with rfl|hq
     .exact new
     .exact keep q (kW hq) λe=>not_mem_erase H.ids hm hq e
  .rename_i hw;rw[tu]at hw;refine⟨?_,λq hq=> ?_,hlo,H.ord,H.lU,by simp[H.ll],by simp[H.bl],hch⟩
   .simp only[dI,gC];refine⟨λhx=> ?_,H.ids⟩;obtain⟨q,hq,he⟩:=cP.1 hx;exact hw q hq he
   .rcases cV.1 hq with rfl|hq
    .exact new
    .exact keep q hq (hw q hq)
def eB.nV(H:eB l n p B s){v:Nat}{key:Int}(h:((v:Int),key)∈s.hp):eB l n p B (s.pop v key):=by
 obtain⟨u,hu,hun,hno,_,_,hby⟩:=H.cK _ h;have hu:v=u:=by simp at hu;omega
 subst hu;refine⟨xy.nodup H.ids,λq hq=> ?_,H.lo,?_,λx hx=> ?_,H.ll,H.bl,λpre x post e=> ?_⟩
 .obtain⟨w,h1,h2,h3,h4,h5,h6⟩:=H.cK q (kW hq);refine⟨w,h1,h2,?_,h4,h5,h6.sub λx hx=>aqJ _ hx⟩;simp only[SS.pop,cS,eP];rintro(hx|rfl)
  .exact h3 hx
  .exact not_mem_erase H.ids h hq h1
 .simp only[SS.pop];rw[kq];refine⟨H.ord,aP,λa ha b hb=> ?_⟩;simp at hb;subst hb;exact λe=>hno (e▸ha)
 .simp only[SS.pop,cS,eP]at hx;rcases hx with hx|rfl
  .exact H.lU x hx
  .exact hun
 .have e:s.ord++ [v]=pre++x::post:=e;rcases List.eq_nil_or_concat post with rfl|⟨post',y,rfl⟩
  .have :=List.append_inj' e rfl;obtain⟨rfl,e2⟩:=this;injection e2 with e2 _;subst e2;exact hby
  .rw[List.concat_eq_append,<-qq,<-c7]at e;exact H.ch pre x post' (List.append_inj' e rfl).1
def eB.look(H:eB l n p B s)(hh:∀a∈l,a.t<n/\(a.w:Int)<=W){mk:Nat->Bool}{v i:Nat}(hi:i<l.length)(hv:(aH l i).f=v)(b:v∈s.ord)(hB:aL s.lab v+W<=B):eB l n p B (SS.look l p mk v s i):=by
 unfold SS.look;split
 .have ha:aH l i∈l:=by simp[aH,hi]
  have h1:=hh _ ha;have h2:=H.lo v (H.lU v b);exact(H.ev _).reach h1.1 aa aa (.inr ⟨i,rfl,hi,rfl,by rw[hv];exact b⟩)
 .exact H
def SS.Xs{mk:Nat->Bool}{v i:Nat}:(SS.look l p mk v s i).ord=s.ord:=by
 unfold SS.look;split
 .exact SS.tQ.1
 .rfl
def SS.IQ(H:eB l n p B s)(hh:∀a∈l,a.t<n/\(a.w:Int)<=W){mk:Nat->Bool}{v i u:Nat}(hi:i<l.length)(hu:u∈s.ord):aL (SS.look l p mk v s i).lab u=aL s.lab u:=by
 unfold SS.look;split
 .have ha:aH l i∈l:=by simp[aH,hi]
  exact SS.al0 (s:=s.ev _) (by rw[show(s.ev ⟨1,0,i,0⟩).lab=s.lab from rfl,H.ll];exact(hh _ ha).1) hu
 .rfl
def SS.DO(hh:∀a∈l,a.t<n/\(a.w:Int)<=W){mk:Nat->Bool}{v:Nat}:∀{ids:List Nat}{s:SS},eB l n p B s->(∀i∈ids,i<l.length/\(aH l i).f=v)->v∈s.ord->aL s.lab v+W<=B->
  eB l n p B (s.scan l p mk v ids)/\(s.scan l p mk v ids).ord=s.ord/\∀u∈s.ord,aL (s.scan l p mk v ids).lab u=aL s.lab u
 | [],s,H,_,_,_=>⟨H,rfl,λ_ _=>rfl⟩
 |i::ids,s,H,hi,d,hB=>by have h1:=hi i cN;have hl:=SS.IQ (p:=p) (mk:=mk) (v:=v) H hh h1.1 d;have ho:(SS.look l p mk v s i).ord=s.ord:=SS.Xs;obtain⟨a,b,c⟩:=SS.DO hh (mk:=mk) (ids:=ids) (H.look hh (mk:=mk) h1.1 h1.2 d hB) (λj hj=>hi j (cZ _ hj)) (by rw[ho];exact d) (by rw[hl];exact hB);refine⟨a,b.trans ho,λu hu=>(c u (by rw[ho];exact hu)).trans (SS.IQ H hh h1.1 hu)⟩
def nu(l:List A)(b:List Int):Nat->List Nat->Prop
 |v,[]=>b[v]? =some (-1)
 |v,a::r=>b[v]? =some (a:Int)/\a<l.length/\nu l b (aH l a).f r
def eB.chain(H:eB l n p B s):∀(k:Nat)(pre post:List Nat)(v:Nat),pre.length<=k->s.ord=pre++v::post->∃cs,nu l s.dY v cs/\cs.length<=pre.length
 | k,pre,post,v,hk,e=>by
  rcases H.ch pre v post e with h|⟨a,h1,h2,h3,h4⟩
  .exact⟨[],h,fE _⟩
  .obtain⟨pre',post',e'⟩:=List.append_of_mem h4;cases k with
   |zero=>have :pre=[]:=y7.1 aa;rw[this]at h4;cases h4
   |succ k=>obtain⟨cs,c1,c2⟩:=H.chain k pre' (post'++v::post) (aH l a).f (by rw[e']at hk;simp at hk;omega) (by rw[e,e'];simp);refine⟨a::cs,⟨h1,h2,c1⟩,?_⟩;rw[e'];simp;omega
def eB.al1{l:List A}{n:Nat}{p:Nat->Int}{B:Int}{s:SS}(H:eB l n p B s):s.hp.length<=n:=by
 have :(s.hp.map (·.1.toNat)).length<=n:=kH (by
  have :s.hp.map (·.1.toNat)=(s.hp.map (·.1)).map Int.toNat:=aP;rw[this,kX,pM];refine(kX.1 H.ids).imp_of_mem λ{x y} hx hy hne e=>hne ?_;obtain⟨q,hq,rfl⟩:=cP.1 hx;obtain⟨t,ht,rfl⟩:=cP.1 hy;obtain⟨u,e1,_⟩:=H.cK q hq;obtain⟨w,e2,_⟩:=H.cK t ht;rw[e1,e2]at e |-;have e':u=w:=by simpa using e
  rw[e']) (λx hx=>by
  obtain⟨q,hq,rfl⟩:=cP.1 hx;obtain⟨u,e1,e2,_⟩:=H.cK q hq;rw[e1];simpa using e2)
 simpa using this
def me(n:Nat)(ord:List Nat):List Bool:=(List.range n).map λv=>decide (v∈ord)
def DP{n v:Nat}{ord:List Nat}(hv:v<n):(me n ord)[v]'(by simpa[me]using hv)=decide (v∈ord):=by simp[me]
def Xt{n:Nat}{ord:List Nat}:(me n ord).length=n:=by simp[me]
def al2{n v:Nat}{ord:List Nat}:(me n ord).set v true=me n (ord++ [v]):=by
 apply iW (by simp[me]);intro i h1 h2;have hi:i<n:=by simpa[me]using h2
 rw[DP hi,qx];split
 .rename_i e;rw[e];simp
 .rename_i e;rw[DP hi];apply pN.2;rw[cS,eP];exact⟨.inl,λh=>h.resolve_right λe'=>e e'.symm⟩
def al3{n:Nat}:List.replicate n false=me n []:=by
 apply iW (by simp[me]);intro i h1 h2;have hi:i<n:=by simpa[me]using h2
 rw[DP hi];simp
def fZ(al:List Bool)(i:Nat):Bool:=al.isEmpty||al.getD i false
def dy(pl:List Int)(v:Nat):Int:=if pl.isEmpty then 0 else max (-aN) (pl.getD v 0)
def al4{pl:List Int}{v:Nat}: -aN<=dy pl v:=by
 unfold dy;split
 .decide
 .exact Int.le_max_left _ _
section
variable{Q:Qs}{S:BW}
structure DQ(Q:Qs)(x:Bool)(v:Nat)(d:Int)(S1:BW)(B:Bool->Int):Prop where
 bi:BI Q S1 B
 mem:v∈(S1.sd x).ord
 lab:(S1.sd x).lab v=some d
 max:Q.aqH->∀c∈(S1.sd x).ord,∀dc,(S1.sd x).lab (c:Int)=some dc->2*dc+Q.cH x c<=2*d+Q.cH x v
 z:Q.cQ (Q.src x)=true->(S1.sd x).lab (Q.src x)=some 0
 bd:d+W<=B x
 d0:0<=d
 aN:∀x,B x<=aN
def WO.nV{st:List dJ}(R:WO Q S st)(hQ:Q.Ok){x:Bool}(hn:S.next=some x):
  ∃(v:Nat)(k d:Int),Mh.least (S.sd x).hp=some ((v:Int),k)/\v<Q.g.n/\v∉(S.sd x).ord/\(S.sd x).lab v=some d/\∃B,DQ Q x v d (Q.pop x ((v:Int),k) S) B:=by
 obtain⟨⟨z,k⟩,q,hp,hq,hlt,hle⟩:=Xf hn;have hm:=jF hp;obtain⟨v,e,_⟩:=(R.bi.si x).cK _ hm.1;have e:z=(v:Int):=e;subst e;obtain⟨P1,P2,j,s,⟨d,f,l,o,t⟩,p⟩:=(R.bi.si x).pop hm.1 hm.2;refine⟨v,k,d,hp,j,P2,f,λy=>if y=x then(S.sd x).ord.length*W+W else(S.sd y).ord.length*W,?_⟩;have b:(Q.pop x ((v:Int),k) S).sd=fN S.sd x ((S.sd x).pop v k):=by show fN S.sd x ((S.sd x).pop ((v:Int)).toNat k)=_;rw[fL]
 have hdist:(Q.pop x ((v:Int),k) S).aM=S.aM:=rfl;have i:(Q.pop x ((v:Int),k) S).meet=S.meet:=rfl;generalize Q.pop x ((v:Int),k) S=S1 at b hdist i;have hx:S1.sd x=(S.sd x).pop v k:=by rw[b,nk]
 have a:∀y z,(S1.sd y).lab z=(S.sd y).lab z:=λy z=>by
  by_cases h:y=x
  .subst h;rw[hx];rfl
  .rw[b,AA h]
 have w:=hQ.r.most;have hW:(0:Int)<=W:=az;have A:(16777216:Int)*W<aN:=az;have hb:∀m:Nat,m<=Q.g.n->(m:Int)*W<=16777216*W:=λm hm=>nL aa hW;refine⟨⟨λy=> ?_,λy u e e' h1 h2=> ?_,?_,by rw[hdist];exact R.bi.c3⟩,by rw[hx];exact rF _ cN,(a x v).trans f,λhF c hc dc hdc=> ?_,λh=>(a x _).trans (R.z x h),?_,o,λy=> ?_⟩
 .by_cases h:y=x
  .subst h;rw[hx,aW rfl];exact P1.more aa
  .rw[b,AA h,aQ h];exact R.bi.si y
 .rw[a]at h1 h2;rw[hdist];exact R.bi.c1 y u e e' h1 h2
 .rw[hdist,i];refine R.bi.c2.imp id λ⟨u,d0,d1,h1,h2,h3,h4⟩=>⟨u,d0,d1,h1,?_,?_,h4⟩
  .rw[a];exact h2
  .rw[a];exact h3
 .rw[hx]at hc;rw[a]at hdc;rw[<-l];exact p hF c hc dc hdc
 .rw[aW rfl];omega
 .show(if y=x then _ else _)<=aN;split
  .have h1:((S.sd x).ord++ [v]).length<=Q.g.n:=P1.sn;rw[cG,mQ]at h1;have :=hb _ h1;rw[sS,pL]at this;have e1:((1:Nat):Int)*W=W:=wj _;omega
  .have :=hb _ (R.bi.si y).sn;omega
def DQ.scan(hQ:Q.Ok){x:Bool}{v:Nat}{d:Int}{S1:BW}{B:Bool->Int}(P:DQ Q x v d S1 B){ids:List Nat}(a:∀i∈ids,i<Q.g.aj.length/\dH x (aH Q.g.aj i)=v):
  DQ Q x v d (Q.scan x v S1 ids) B:=by
 obtain⟨g1,g2,_,_,g5⟩:=BI.scan hQ P.bd P.bi P.mem P.lab P.max a P.z;refine⟨g1,by rw[g2.ord];exact P.mem,(g2.same v P.mem).trans P.lab,λhF c hc dc hdc=> ?_,g5,P.bd,P.d0,P.aN⟩;rw[g2.ord]at hc;rw[g2.same c hc]at hdc;exact P.max hF c hc dc hdc
def Xu{x:Bool}{v:Nat}{S1:BW}{ids:List Nat}{k:Nat}(hk:k<ids.length):Q.scan x v S1 (ids.take (k+1))=Q.iw x v (Q.scan x v S1 (ids.take k)) ids[k]:=by unfold Qs.scan;rw[cW hk,jP];rfl
def IU{x:Bool}{v:Nat}:∀{ids:List Nat}{S1:BW},(Q.scan x v S1 ids).ev.length<=S1.ev.length+ids.length
 | [],S1=>cq _
 | i::ids,S1=>by
  have h1:=IU (x:=x) (v:=v) (ids:=ids) (S1:=Q.iw x v S1 i);have h2:(Q.iw x v S1 i).ev.length<=S1.ev.length+1:=by
   unfold Qs.iw;split
   .rw[Xd];simp
   .omega
  show(Q.scan x v (Q.iw x v S1 i) ids).ev.length<=_;rw[fO];omega
end
def IV(n m:Nat)(e:Ev):Nat:=if e.kind=0 then(if e.side=0 then e.id.toNat else n+e.id.toNat)else 2*n+(if e.side=0 then e.id.toNat else m+e.id.toNat)
def Xv{n m:Nat}{l:List Ev}(h:oV n m l):l.length<=2*n+2*m:=by
 obtain⟨h1,h2⟩:=W3.1 h;have hG:∀e∈l,0<=e.id/\(e.kind=0/\e.id<n\/e.kind=1/\e.id<m)/\(e.side=0\/e.side=1):=λe he=>by
  obtain⟨a,b,c,_⟩:=gM (h1 e he);refine⟨a,?_,c⟩;unfold nj at b;split at b
  .exact .inl ⟨by assumption,b⟩
  .split at b
   .exact .inr ⟨by assumption,b⟩
   .omega
 have :(l.map (IV n m)).length<=2*n+2*m:=by
  refine kH ?_ λz hz=> ?_
  .rw[kX,pM];rw[kX,pM]at h2;refine h2.imp_of_mem λ{a b} ha hb hne e=>hne ?_;obtain⟨a1,a2,a3⟩:=hG a ha;obtain⟨b1,b2,b3⟩:=hG b hb;have key:a.kind=b.kind/\a.side=b.side/\a.id=b.id:=by
    unfold IV at e;rcases a2 with ⟨a2,a4⟩|⟨a2,a4⟩<;>rcases b2 with ⟨b2,b4⟩|⟨b2,b4⟩<;>rcases a3 with a3|a3<;>rcases b3 with b3|b3<;>simp[a2,b2,a3,b3]at e<;>(refine⟨?_,?_,?_⟩<;>omega)
   unfold Ev.key;rw[key.1,key.2.1,key.2.2]
  .obtain⟨e,he,rfl⟩:=cP.1 hz;obtain⟨a1,a2,a3⟩:=hG e he;unfold IV;rcases a2 with ⟨a2,a4⟩|⟨a2,a4⟩<;>rcases a3 with a3|a3<;>simp only[a2,a3]<;>simp <;>omega
 rwa[gK]at this
section
variable{Q:Qs}{S:BW}{st:List dJ}
def WO.lt(R:WO Q S st):∀s∈st,s.v<Q.g.n:=λs hs=>by obtain⟨u,e,h,_⟩:=(R.bi.si s.x).lab _ _ (R.s2 s hs);obtain rfl:=gU e;exact h
def WO.once(R:WO Q S st):oV Q.g.n Q.g.aj.length S.ev:=by rw[R.ev];refine W4 (xT.filter Q.j5) R.lt (alC λx=> ?_);rw[R.s1];exact(R.bi.si x).ord
def WO.IW(R:WO Q S st):ob Q.g S.ev:=by rw[R.ev];exact W6 (xT.filter Q.j5) R.lt
def WO.IX(R:WO Q S st)(hQ:Q.Ok):S.ev.length<=2^32:=by have h1:=Xv R.once;have h2:=hQ.r.most;have h3:=hQ.r.many;omega
end
section
variable{g:G}{mk:Nat->Bool}{p:Nat->Int}{fr v:Nat}{s:SS}{B:Int}{done:List Nat}
def aqH(g:G)(mk:Nat->Bool)(p:Nat->Int):Prop:=∀i,i<g.aj.length->mk i=true->p (aH g.aj i).t<aN->p (aH g.aj i).f<=(aH g.aj i).w+p (aH g.aj i).t
def mL(s:SS)(v:Nat):Prop:=v∈s.ord\/∃k,((v:Int),k)∈s.hp
structure iR(g:G)(mk:Nat->Bool)(p:Nat->Int)(fr:Nat)(done:List Nat)(s:SS):Prop where
 rel:∀i∈done,i<g.aj.length->mk i=true->p (aH g.aj i).t<aN->(aH g.aj i).f∈s.ord/\mL s (aH g.aj i).t/\aL s.lab (aH g.aj i).t<=aL s.lab (aH g.aj i).f+(aH g.aj i).w
 mono:∀v∈s.ord,∀q∈s.hp,aL s.lab v+p v<=q.2
 src:∀v,mL s v->(v=fr/\aL s.lab v=0/\s.dY[v]? =some (-1))\/∃a:Nat,s.dY[v]? =some (a:Int)/\a<g.aj.length/\mk a=true/\(aH g.aj a).t=v/\(aH g.aj a).f∈s.ord/\aL s.lab v=aL s.lab (aH g.aj a).f+(aH g.aj a).w
 fz:p fr<aN->mL s fr/\aL s.lab fr=0
def eB.key{l:List A}{n:Nat}(H:eB l n p B s){v:Nat}{k:Int}(h:((v:Int),k)∈s.hp):k=aL s.lab v+p v/\v<n/\v∉s.ord:=by
 obtain⟨u,e1,e2,e3,a,_⟩:=H.cK _ h;have :v=u:=by simp at e1;omega
 subst this;exact⟨a,e2,e3⟩
def iR.look (hR:g.Right) (hF:aqH g mk p) (A:iR g mk p fr done s) (H:eB g.aj g.n p B s) (hv:v∈s.ord) (hl:∀u∈s.ord,aL s.lab u+p u<=aL s.lab v+p v) {i:Nat} (hi:i<g.aj.length) (hf:(aH g.aj i).f=v):
  iR g mk p fr (i::done) (SS.look g.aj p mk v s i):=by
 have ha:aH g.aj i∈g.aj:=by simp[aH,hi]
 have c:=(hR.ends _ ha).2.1;have m:=H.lU v hv;have keep:∀{s':SS},s'.ord=s.ord->s'.hp=s.hp->s'.lab=s.lab->s'.dY=s.dY->(mk i=true->p (aH g.aj i).t<aN->mL s (aH g.aj i).t/\aL s.lab (aH g.aj i).t<=aL s.lab v+(aH g.aj i).w)->iR g mk p fr (i::done) s':=by
  intro s' e1 e2 e3 o h;have b:∀u,mL s' u↔mL s u:=λu=>by unfold mL;rw[e1,e2]
  refine⟨λj hj h1 h2 h3=> ?_,λu hu q hq=> ?_,λu hu=> ?_,λh=>by rw[b,e3];exact A.fz h⟩
  .rw[e1,b,e3];rcases cV.1 hj with rfl|hj
   .rw[hf];exact⟨hv,h h2 h3⟩
   .exact A.rel j hj h1 h2 h3
  .rw[e3];exact A.mono u (e1▸hu) q (e2▸hq)
  .rw[e1,e3,o];exact A.src u ((b u).1 hu)
 unfold SS.look;by_cases hm:mk i=true
 .rw [if_pos hm];unfold SS.reach;by_cases hc:(aH g.aj i).t∈(s.ev ⟨1,0,i,0⟩).ord\/aN<=p (aH g.aj i).t
  .rw[aW hc];refine keep rfl rfl rfl rfl λ_ hp=> ?_;have hc:(aH g.aj i).t∈s.ord:=hc.resolve_right aa;refine⟨.inl hc,?_⟩;have h1:=hl _ hc;have h2:=hF i hi hm hp;rw[hf]at h2;omega
  .rw [if_neg hc];have hc1:(aH g.aj i).t∉s.ord:=λh=>hc (.inl h);have d:p (aH g.aj i).t<aN:=by have :¬aN<=p (aH g.aj i).t:=λh=>hc (.inr h);omega
   have l:=hF i hi hm d;rw[hf]at l;generalize ht:(aH g.aj i).t=t at hc1 d l c |-;have hwi:(0:Int)<=(aH g.aj i).w:=oC _
   have new:∀(hp':List HP),(∀q∈hp',q=((t:Int),aL s.lab v+(aH g.aj i).w+p t)\/q∈s.hp)->((t:Int),aL s.lab v+(aH g.aj i).w+p t)∈hp'->(∀q∈s.hp,q.1≠t->q∈hp')->(mL s t->aL s.lab v+(aH g.aj i).w<aL s.lab t)->
     iR g mk p fr (i::done) {(s.ev ⟨1,0,i,0⟩)with hp:=hp',lab:=s.lab.set t (aL s.lab v+(aH g.aj i).w),dY:=s.dY.set t i}:=by
    intro hp' h1 h2 h3 h4;have lb:∀u,aL (s.lab.set t (aL s.lab v+(aH g.aj i).w)) u=if u=t then aL s.lab v+(aH g.aj i).w else aL s.lab u:=λu=>tR (by rw[H.ll];exact c);have lo:∀u∈s.ord,aL (s.lab.set t (aL s.lab v+(aH g.aj i).w)) u=aL s.lab u:=λu hu=>by rw[lb,aQ (λe:u=t=>hc1 (by rw[<-e];exact hu))]
    have b:∀u,mL s u->u∈s.ord\/∃k,((u:Int),k)∈hp':=λu hu=>by
     rcases hu with hu|⟨k,hu⟩
     .exact .inl hu
     .by_cases e:u=t
      .subst e;exact .inr ⟨_,h2⟩
      .exact .inr ⟨k,h3 _ hu (by simpa using λe'=>e aa)⟩
    refine⟨λj hj q1 q2 r=> ?_,λu hu q hq=> ?_,λu hu=> ?_,λhp=> ?_⟩
    .rcases cV.1 hj with rfl|hj
     .refine⟨by rw[hf];exact hv,.inr ⟨_,by rw[ht];exact h2⟩,?_⟩;show aL (s.lab.set t _) _<=aL (s.lab.set t _) _+_;rw[ht,hf,lb,aW rfl,lo v hv];exact dQ _
     .obtain⟨r1,r2,r3⟩:=A.rel j hj q1 q2 r;refine⟨r1,b _ r2,?_⟩;show aL (s.lab.set t _) _<=aL (s.lab.set t _) _+_;rw[lo _ r1,lb];split
      .rename_i e;have :=h4 (e▸r2);rw[e]at r3;omega
      .exact r3
    .show aL (s.lab.set t _) u+p u<=q.2;rw[lo u hu];rcases h1 q hq with rfl|hq
     .have :=hl u hu;show _<=aL s.lab v+(aH g.aj i).w+p t;omega
     .exact A.mono u hu q hq
    .by_cases e:u=t
     .subst e;refine .inr ⟨i,?_,hi,hm,ht,by rw[hf];exact hv,?_⟩
      .show(s.dY.set u i)[u]? =_;rw[jo (by rw[H.bl];exact c)]
      .show aL (s.lab.set u _) u=aL (s.lab.set u _) _+_;rw[hf,lo v hv,lb,aW rfl]
     .have hk:mL s u:=by
       rcases hu with hu|⟨k,hu⟩
       .exact .inl hu
       .rcases h1 _ hu with e'|hu
        .exact absurd (by injection e' with e1 _;omega) e
        .exact .inr ⟨k,hu⟩
      have eb:(s.dY.set t (i:Int))[u]? =s.dY[u]? :=gD (λh=>e h.symm);have el:aL (s.lab.set t (aL s.lab v+(aH g.aj i).w)) u=aL s.lab u:=by rw[lb,aQ e]
      rcases A.src u hk with ⟨a1,a2,a3⟩|⟨a,a1,a2,a3,a4,a5,a6⟩
      .exact .inl ⟨a1,by show aL (s.lab.set t _) u=0;rw[el];exact a2,by show(s.dY.set t _)[u]? =_;rw[eb];exact a3⟩
      .exact .inr ⟨a,by show(s.dY.set t _)[u]? =_;rw[eb];exact a1,a2,a3,a4,a5,by show aL (s.lab.set t _) u=aL (s.lab.set t _) _+_;rw[el,lo _ a5];exact a6⟩
    .obtain⟨q1,q2⟩:=A.fz hp;refine⟨b _ q1,?_⟩;show aL (s.lab.set t _) fr=0;rw[lb,aQ]
     .exact q2
     .rintro rfl;have :=h4 q1;have :=(H.lo v m).1;omega
   show iR g mk p fr (i::done) (match nU s.hp t with
    |some was=>if aL s.lab t<=aL s.lab v+(aH g.aj i).w then s.ev ⟨1,0,i,0⟩else{(s.ev ⟨1,0,i,0⟩)with hp:=((t:Int),aL s.lab v+(aH g.aj i).w+p t)::s.hp.erase ((t:Int),was),lab:=s.lab.set t (aL s.lab v+(aH g.aj i).w),dY:=s.dY.set t i}
    |none=>{(s.ev ⟨1,0,i,0⟩)with hp:=((t:Int),aL s.lab v+(aH g.aj i).w+p t)::s.hp,lab:=s.lab.set t (aL s.lab v+(aH g.aj i).w),dY:=s.dY.set t i})
   split
   .rename_i was hw;have hm':=tw hw;split
    .rename_i hle;refine keep rfl rfl rfl rfl λ_ _=> ?_;rw[ht];exact⟨.inr ⟨_,hm'⟩,hle⟩
    .rename_i hle;refine new _ (λq hq=> ?_) cN (λq hq hne=>cZ _ ((oB λe=>hne (by rw[e])).2 hq)) λ_=>aa;rcases cV.1 hq with rfl|hq
     .exact .inl rfl
     .exact .inr (kW hq)
   .rename_i hw;rw[tu]at hw;refine new _ (λq hq=>cV.1 hq) cN (λq hq _=>cZ _ hq) λhk=> ?_;rcases hk with hk|⟨k,hk⟩
    .exact absurd hk hc1
    .exact absurd rfl (hw _ hk)
 .rw[aQ hm];exact keep rfl rfl rfl rfl λh=>absurd h hm
def iR.scan(hR:g.Right)(hF:aqH g mk p){v:Nat}:∀{ids:List Nat}{s:SS}{done:List Nat},iR g mk p fr done s->eB g.aj g.n p B s->v∈s.ord->(∀u∈s.ord,aL s.lab u+p u<=aL s.lab v+p v)->
  (∀i∈ids,i<g.aj.length/\(aH g.aj i).f=v)->aL s.lab v+W<=B->iR g mk p fr (ids.reverse++done) (s.scan g.aj p mk v ids)
 | [],_,_,A,_,_,_,_,_=>A
 | i::ids,s,done,A,H,hv,hl,hi,hB=>by
  have h1:=hi i cN;have hh:∀a∈g.aj,a.t<g.n/\(a.w:Int)<=W:=λa ha=>⟨(hR.ends a ha).2.1,by have :=(hR.ends a ha).2.2;unfold W;omega⟩;have ho:(SS.look g.aj p mk v s i).ord=s.ord:=SS.Xs;have b:∀u∈s.ord,aL (SS.look g.aj p mk v s i).lab u=aL s.lab u:=λu hu=>SS.IQ H hh h1.1 hu;have :=iR.scan hR hF (v:=v) (ids:=ids) (A.look hR hF H hv hl h1.1 h1.2) (H.look hh (mk:=mk) h1.1 h1.2 hv hB) (by rw[ho];exact hv) (λu hu=>by rw[ho]at hu;rw[b u hu,b v hv];exact hl u hu) (λj hj=>hi j (cZ _ hj)) (by rw[b v hv];exact hB)
  rw[yO,c7];exact this
def iR.pop(A:iR g mk p fr done s)(H:eB g.aj g.n p B s){v:Nat}{key:Int}(hl:least s.hp=some ((v:Int),key)):iR g mk p fr done (s.pop v key):=by
 obtain⟨hm,hle⟩:=jF hl;have hk:=H.key hm;have up:∀{u},u∈s.ord->u∈s.ord++ [v]:=λh=>aqJ _ h;have d:∀{u},mL s u->mL (s.pop v key) u:=λ{u} h=>by
  rcases h with h|⟨k,h⟩
  .exact .inl (up h)
  .by_cases e:u=v
   .exact .inl (by show u∈s.ord++ [v];simp[e])
   .exact .inr ⟨k,(oB λe'=>e (by injection e' with e1 _;omega)).2 h⟩
 refine⟨λi hi h1 h2 h3=> ?_,λu hu q hq=> ?_,λu hu=> ?_,λh=>⟨d (A.fz h).1,(A.fz h).2⟩⟩
 .obtain⟨a,b,c⟩:=A.rel i hi h1 h2 h3;exact⟨up a,d b,c⟩
 .have j:q∈s.hp:=kW hq;have hu:u∈s.ord++ [v]:=hu;rcases cS.1 hu with hu|hu
  .exact A.mono u hu q j
  .simp at hu;subst hu;have :=hle q j;rw[oO]at this;show aL s.lab u+p u<=_;omega
 .have :mL s u:=by
   rcases hu with hu|⟨k,hu⟩
   .have hu:u∈s.ord++ [v]:=hu;rcases cS.1 hu with hu|hu
    .exact .inl hu
    .simp at hu;subst hu;exact .inr ⟨key,hm⟩
   .exact .inr ⟨k,kW hu⟩
  rcases A.src u this with h|⟨a,a1,a2,a3,a4,a5,a6⟩
  .exact .inl h
  .exact .inr ⟨a,a1,a2,a3,a4,up a5,a6⟩
def oS(g:G)(mk:Nat->Bool)(x:Bool)(v:Nat):List Nat:=(iH g x v).filter mk
structure IY(g:G)(mk:Nat->Bool)(s:SS)(st:List dJ):Prop where
 e1:s.dg=dg (oS g mk) st
 e2:st.map dJ.v=s.ord
 e3:∀e∈st,e.x=false/\e.d=aL s.lab e.v
def Xx{l:List A}{v:Nat}:∀{ids:List Nat}{s:SS},(s.scan l p mk v ids).dg=s.dg++(ids.filter mk).map (iQ false)
 | [],s=>by simp[SS.scan]
 | i::ids,s=>by
  show((SS.look l p mk v s i).scan l p mk v ids).dg=_;rw[Xx,wu];unfold SS.look;split
  .rw[SS.tQ.2,dI,List.append_cons];rfl
  .rfl
structure Stop(g:G)(mk:Nat->Bool)(p:Nat->Int)(fr to:Nat)(done:List Nat)(s:SS)(st:List dJ)(f:SS×Bool):Prop where
 a:iR g mk p fr done s
 h:eB g.aj g.n p (s.ord.length*W) s
 e:IY g mk s st
 no:to∉s.ord
 cl:∀u∈s.ord,∀i∈g.out u,i∈done
 is:(s.hp=[]/\f=(s,false))\/∃key,least s.hp=some ((to:Int),key)/\f=(s.pop to key,true)
def iR.run(hR:g.Right)(hF:aqH g mk p){to:Nat}(k:Nat):∀{s:SS}{done:List Nat}{st:List dJ},iR g mk p fr done s->eB g.aj g.n p (s.ord.length*W) s->IY g mk s st->to∉s.ord->(∀u∈s.ord,∀i∈g.out u,i∈done)->
  g.n+1<=k+s.ord.length->∃done s' st,Stop g mk p fr to done s' st (SS.run g.aj p mk g.out to k s):=by
 induction k with
 |zero=>intro s done st A H E hno b hk;have :=H.len;omega
 | succ k ih=>
  intro s done st A H E hno b hk;rw[SS.run];cases hl:least s.hp with
  |none=>exact⟨done,s,st,A,H,E,hno,b,.inl ⟨uW.1 hl,rfl⟩⟩
  | some q=>
   have hm:=(jF hl).1;obtain⟨w,e,hwn,r,hkey,_,_⟩:=H.cK q hm;obtain⟨pv,key⟩:=q;dsimp only at e hkey |-;subst e;rw[fL];by_cases c:w=to
   .subst c;rw[aW rfl];exact⟨done,s,st,A,H,E,hno,b,.inr ⟨key,hl,rfl⟩⟩
   .rw[aQ c];have hh:∀a∈g.aj,a.t<g.n/\(a.w:Int)<=W:=λa ha=>⟨(hR.ends a ha).2.1,by have :=(hR.ends a ha).2.2;unfold W;omega⟩;have hW:(0:Int)<=W:=az;have j:∀i∈g.out w,i<g.aj.length/\(aH g.aj i).f=w:=(uZ hR).1 w hwn;have H1:=(H.nV hm).mono (B':=s.ord.length*W+W) aa;have m:=A.pop H hl;have d:w∈(s.pop w key).ord:=by show w∈s.ord++ [w];simp
    have l:aL (s.pop w key).lab w+W<=s.ord.length*W+W:=by have :=(H.lo w hwn).2;show aL s.lab w+W<=_;omega
    have hle:∀u∈(s.pop w key).ord,aL (s.pop w key).lab u+p u<=aL (s.pop w key).lab w+p w:=λu hu=>by
     have hu:u∈s.ord++ [w]:=hu;show aL s.lab u+p u<=aL s.lab w+p w;rcases cS.1 hu with hu|hu
     .have :=A.mono u hu _ hm;dsimp only at this;omega
     .simp at hu;subst hu;exact dQ _
    obtain⟨f1,f2,f3⟩:=SS.DO (p:=p) (mk:=mk) hh H1 j d l;have o:=iR.scan hR hF m H1 d hle j l;have ho:((s.pop w key).scan g.aj p mk w (g.out w)).ord=s.ord++ [w]:=f2;refine ih o (f1.mono ?_) (st:=st++ [⟨false,w,aL s.lab w⟩]) ⟨?_,?_,λe he=> ?_⟩ ?_ (λu hu i hi=> ?_) ?_
    .rw[ho,cG,mQ,sS,pL];show _<=_+1*W;omega
    .rw[Xx,Iv,Ix];show(s.dg++ [_])++_=_;rw[E.e1,c7];rfl
    .rw[ho,fq,E.e2];rfl
    .rcases cS.1 he with he|he
     .obtain⟨h1,h2⟩:=E.e3 e he;refine⟨h1,h2.trans (f3 e.v ?_).symm⟩;show e.v∈s.ord++ [w];rw[<-E.e2];exact aqJ _ (mF he)
     .simp at he;subst he;exact⟨rfl,(f3 w d).symm⟩
    .rw[ho,cS,eP];rintro(h|h)
     .exact hno h
     .exact c h.symm
    .rw[ho]at hu;rcases cS.1 hu with hu|hu
     .exact rF _ (b u hu i hi)
     .simp at hu;subst hu;exact aqJ _ (wB.2 hi)
    .rw[ho,cG,mQ];omega
def AK{to:Nat}(hF:aqH g mk p)(hz:p to=0):∀{r:List Nat}{u:Nat},Trail g.aj u r to->(∀i∈r,mk i=true)->dm g.aj r<aN->p u<=dm g.aj r
 | [],u,h,_,_=>by cases h;rw[hz,qN];exact dQ _
 |i::r,u,⟨h1,h2,h3⟩,hm,hlt=>by rw[lq]at hlt |-;have hw:(0:Int)<=(aH g.aj i).w:=oC _;have :=AK hF hz h3 (λj hj=>hm j (cZ _ hj)) aa;have :=hF i h1 (hm i cN) aa;rw[h2]at this;omega
section
variable{to:Nat}{st:List dJ}{f:SS×Bool}
def Stop.least(S:Stop g mk p fr to done s st f)(hR:g.Right)(hF:aqH g mk p)(hz:p to=0){r:List Nat}(ht:Trail g.aj fr r to)(hm:∀i∈r,mk i=true)(hlt:dm g.aj r<aN):f.2=true/\aL f.1.lab to<=dm g.aj r:=by
 obtain⟨k1,k2⟩:=S.a.fz (by have :=AK hF hz ht hm hlt;omega);rcases S.is with ⟨hn,_⟩|⟨key,hk,rfl⟩
 .exfalso;have key:∀(r:List Nat)(u:Nat),mL s u->Trail g.aj u r to->(∀i∈r,mk i=true)->dm g.aj r<aN->False:=by
   intro r
   induction r with
   |nil=>
    intro u hu h _ _;cases h;rcases hu with hu|⟨_,hu⟩
    .exact S.no hu
    .rw[hn]at hu;cases hu
   | cons i r ih=>
    rintro u hu ⟨h1,h2,h3⟩ hm hlt;rcases hu with hu|⟨_,hu⟩
    .have hw:(0:Int)<=(aH g.aj i).w:=oC _;rw[lq]at hlt;have hm':∀j∈r,mk j=true:=λj hj=>hm j (cZ _ hj);have hp:=AK hF hz h3 hm' aa;have hi:i∈g.out u:=by rw[<-h2];exact(uZ hR).2 i h1
     exact ih _ (S.a.rel i (S.cl u hu i hi) h1 (hm i cN) aa).2.1 h3 hm' aa
    .rw[hn]at hu;cases hu
  exact key r fr k1 ht hm hlt
 .refine⟨rfl,?_⟩;show aL s.lab to<=_;obtain⟨hmem,hle⟩:=jF hk;have hkey:=(S.h.key hmem).1;have low:∀{u:Nat}{k:Int},((u:Int),k)∈s.hp->aL s.lab to<=aL s.lab u+p u:=λ{u k} h=>by
   have :=hle _ h;rw[oO]at this;have :=(S.h.key h).1;dsimp only at *;omega
  have key:∀(r:List Nat)(u:Nat),mL s u->Trail g.aj u r to->(∀i∈r,mk i=true)->dm g.aj r<aN->aL s.lab to<=aL s.lab u+dm g.aj r:=by
   intro r
   induction r with
   |nil=>intro u hu h _ _;cases h;rw[qN];omega
   | cons i r ih=>
    rintro u hu ⟨h1,h2,h3⟩ hm hlt;rcases hu with hu|⟨_,hu⟩
    .have hw:(0:Int)<=(aH g.aj i).w:=oC _;rw[lq]at hlt |-;have hm':∀j∈r,mk j=true:=λj hj=>hm j (cZ _ hj);have hp:=AK hF hz h3 hm' aa;have hi:i∈g.out u:=by rw[<-h2];exact(uZ hR).2 i h1
     obtain⟨_,h4,h5⟩:=S.a.rel i (S.cl u hu i hi) h1 (hm i cN) aa;rw[h2]at h5;have :=ih _ h4 h3 hm' aa;omega
    .have :=low hu;have :=AK hF hz (show Trail g.aj u (i::r) to from⟨h1,h2,h3⟩) hm hlt;omega
  have :=key r fr k1 ht hm hlt;omega
def iR.chain(A:iR g mk p fr done s):∀{cs:List Nat}{v:Nat},v∈s.ord->nu g.aj s.dY v cs->Trail g.aj fr cs.reverse v/\dm g.aj cs.reverse=aL s.lab v
 | [],v,hv,h=>by
  have h:s.dY[v]? =some (-1):=h;rcases A.src v (.inl hv)with ⟨h1,h2,_⟩|⟨a,h1,_⟩
  .subst h1;exact⟨rfl,h2.symm⟩
  .rw[h1]at h;injection h with h;omega
 | c::cs,v,hv,h=>by
  obtain⟨h1,h2,h3⟩:=h;rcases A.src v (.inl hv)with ⟨_,_,h4⟩|⟨a,h4,h5,h6,h7,h8,h9⟩
  .rw[h1]at h4;injection h4 with h4;omega
  .rw[h1]at h4;injection h4 with h4;have :c=a:=aa;subst this;obtain⟨t1,t2⟩:=iR.chain A h8 h3;rw[yO];refine⟨t1.append ⟨h5,rfl,h7⟩,?_⟩;rw[xz,t2,lq,qN,h9];omega
structure Exact(g:G)(fr to:Nat)(D:Int)(f:SS×Bool):Prop where
 no:¬D<aN->f.2=false
 yes:D<aN->f.2=true/\aL f.1.lab to=D
 chain:∀cs,f.2=true->nu g.aj f.1.dY to cs->Trail g.aj fr cs.reverse to/\dm g.aj cs.reverse=aL f.1.lab to
 short:∀cs,f.2=true->nu g.aj f.1.dY to cs->cs.length<=g.n
 once:oV g.n g.aj.length f.1.dg
 IW:ob g f.1.dg
 Xw:f.2=true->∀e∈f.1.dg,e.kind=0->e.side=0/\e.label<=aL f.1.lab to
 len:f.1.dg.length<=2*g.n+2*g.aj.length
end
def nu.uniq{l:List A}{b:List Int}:∀{v:Nat}{c d:List Nat},nu l b v c->nu l b v d->c=d
 |_,[],[],_,_=>rfl
 |v,[],x::d,h,⟨h1,_,_⟩=>by have h:b[v]? =some (-1):=h;rw[h]at h1;injection h1 with h1;omega
 |v,x::c,[],⟨h1,_,_⟩,h=>by have h:b[v]? =some (-1):=h;rw[h]at h1;injection h1 with h1;omega
 |v,x::c,y::d,⟨h1,_,h3⟩,⟨k1,_,a⟩=>by rw[h1]at k1;injection k1 with k1;have :x=y:=aa;subst this;rw[nu.uniq h3 a]
def iR.start(hfr:fr<g.n):iR g mk p fr [] (SS.start p g.n fr)/\eB g.aj g.n p ((SS.start p g.n fr).ord.length*W) (SS.start p g.n fr)/\(SS.start p g.n fr).ord=[]/\IY g mk (SS.start p g.n fr) []:=by
 have ho:(SS.start p g.n fr).ord=[]:=SS.tQ.1;refine⟨?_,?_,ho,⟨SS.tQ.2,ho.symm,λe he=>by cases he⟩⟩
 .refine⟨λi hi=>(by cases hi),λv hv=>(by rw[ho]at hv;cases hv),λv hv=> ?_,λhp=> ?_⟩
  .unfold SS.start SS.reach at hv |-;by_cases hp:aN<=p fr
   .rw[aW (.inr hp)]at hv;rcases hv with hv|⟨_,hv⟩<;>cases hv
   .rw[aQ (by rintro(h|h);cases h;exact hp h)]at hv |-;rcases hv with hv|⟨k,hv⟩
    .cases hv
    .have hv:((v:Int),k)∈ [((fr:Int),0+p fr)]:=hv;simp at hv;have :v=fr:=aa;subst this;refine .inl ⟨rfl,?_,?_⟩
     .show aL ((List.replicate g.n 0).set v 0) v=0;rw[tR (by simpa using hfr),aW rfl]
     .show((List.replicate g.n (-1:Int)).set v (-1))[v]? =_;rw[jo (by simpa using hfr)]
  .unfold SS.start SS.reach;rw[aQ (by rintro(h|h);cases h;omega)];refine⟨.inr ⟨0+p fr,cN⟩,?_⟩;show aL ((List.replicate g.n 0).set fr 0) fr=0;rw[tR (by simpa using hfr),aW rfl]
 .rw[ho];have :=(eB.zero (l:=g.aj) (n:=g.n) (p:=p)).reach (v:=fr) (a:= -1) (d:=0) hfr aa aa (.inl rfl);have z:(([]:List Nat).length:Int)*W=0:=aP;rw[z];exact this
def al5(hR:g.Right){to:Nat}{D:Int}(hfr:fr<g.n)(hF:aqH g mk p)(h0:∀v,0<=p v)(hz:p to=0)(h1:D<aN->∃r,Trail g.aj fr r to/\(∀i∈r,mk i=true)/\dm g.aj r=D)(h2:∀r,Trail g.aj fr r to->D<=dm g.aj r):
  Exact g fr to D (SS.run g.aj p mk g.out to (g.n+1) (SS.start p g.n fr)):=by
 obtain⟨A,H,ho,E⟩:=iR.start (mk:=mk) (p:=p) hfr;obtain⟨done,s,st,S⟩:=A.run (to:=to) hR hF (g.n+1) H E (by rw[ho];simp) (λu hu=>by rw[ho]at hu;cases hu) aa;generalize SS.run g.aj p mk g.out to (g.n+1) (SS.start p g.n fr)=f at S;clear A H ho E;have m:=hR.most;have hO:qe g (oS g mk):=xT.filter mk;have hlt:∀e∈st,e.v<g.n:=λe he=>S.h.lU _ (by rw[<-S.e.e2];exact mF he);have nd:∀{q:List dJ},(∀e∈q,e.x=false)->(q.map dJ.v).Nodup->(q.map λs=>(s.x,s.v)).Nodup:=λ{q} hx hn=>by rw[List.Nodup,pM]at hn |-;exact hn.imp λh e=>h (by injection e)
 have chain:∀cs,f.2=true->nu g.aj f.1.dY to cs->Trail g.aj fr cs.reverse to/\dm g.aj cs.reverse=aL f.1.lab to:=λcs hf hc=>by
  rcases S.is with ⟨_,rfl⟩|⟨key,hk,rfl⟩
  .cases hf
  .exact(S.a.pop S.h hk).chain (by show to∈s.ord++ [to];simp) hc
 have short:∀cs,f.2=true->nu g.aj f.1.dY to cs->cs.length<=g.n:=λcs hf hc=>by
  rcases S.is with ⟨_,rfl⟩|⟨key,hk,rfl⟩
  .cases hf
  .obtain⟨cs',c,hl⟩:=(S.h.nV (jF hk).1).chain s.ord.length s.ord [] to (cq _) rfl;have :=S.h.len;rw[hc.uniq c];omega
 have small:f.2=true->aL f.1.lab to<aN:=λhf=>by
  rcases S.is with ⟨_,rfl⟩|⟨key,hk,rfl⟩
  .cases hf
  .have hm:=(jF hk).1;have h3:=(S.h.lo to (S.h.key hm).2.1).2;have h4:=S.h.room (λe=>by rw[e]at hm;cases hm);have h5:(s.ord.length:Int)<=16777216:=aa;have :=nL h5 (show(0:Int)<=W by decide);have hf:aN=72057594037927936:=rfl;have hw:W=2147483647:=rfl;show aL s.lab to<aN;omega
 have found:f.2=true->D<=aL f.1.lab to:=λhf=>by
  rcases S.is with ⟨_,rfl⟩|⟨key,hk,rfl⟩
  .cases hf
  .have hp:=S.h.nV (jF hk).1;obtain⟨cs,hc,_⟩:=hp.chain s.ord.length s.ord [] to (cq _) rfl;obtain⟨t1,t2⟩:=chain cs rfl hc;rw[<-t2];exact h2 _ t1
 have ev:∃q:List dJ,∃k,f.1.dg=(dg (oS g mk) q).take k/\(∀e∈q,e.v<g.n)/\(∀e∈q,e.x=false)/\(q.map dJ.v).Nodup/\(f.2=true->∀e∈q,e.d<=aL f.1.lab to):=by
  rcases S.is with ⟨_,rfl⟩|⟨key,hk,rfl⟩
  .exact⟨st,(dg (oS g mk) st).length,by rw[fF];exact S.e.e1,hlt,λe he=>(S.e.e3 e he).1,by rw[S.e.e2];exact S.h.ord,λh=>by cases h⟩
  .have hm:=(jF hk).1;have hkey:=S.h.key hm;refine⟨st++ [⟨false,to,aL s.lab to⟩],(dg (oS g mk) st).length+1,?_,λe he=> ?_,λe he=> ?_,?_,λ_ e he=> ?_⟩
   .rw[Iv,Ix,Ke];show s.dg++ [_]=_;rw[S.e.e1];rfl
   .rcases cS.1 he with he|he
    .exact hlt e he
    .simp at he;subst he;exact hkey.2.1
   .rcases cS.1 he with he|he
    .exact(S.e.e3 e he).1
    .simp at he;subst he;rfl
   .rw[fq,S.e.e2];exact(S.h.nV hm).ord
   .show e.d<=aL s.lab to;rcases cS.1 he with he|he
    .rw[(S.e.e3 e he).2];have :=S.a.mono e.v (by rw[<-S.e.e2];exact mF he) _ hm;have :=h0 e.v;dsimp only at *;omega
    .simp at he;subst he;exact dQ _
 obtain⟨q,k,hq,q1,q2,j,l⟩:=ev;have once:oV g.n g.aj.length f.1.dg:=by rw[hq];exact(W4 hO q1 (nd q2 j)).take k
 refine⟨λhD=> ?_,λhD=> ?_,chain,short,once,?_,λhf e he hk=> ?_,Xv once⟩
 .cases hf:f.2 with
  |false=>rfl
  |true=>have :=found hf;have :=small hf;omega
 .obtain⟨r,r1,r2,r3⟩:=h1 hD;obtain⟨a,b⟩:=S.least hR hF hz r1 r2 aa;refine⟨a,?_⟩;have :=found a;omega
 .rw[hq];exact(W6 hO q1).take k
 .rw[hq]at he;obtain⟨x,hx,rfl|⟨i,_,rfl⟩⟩:=Iz.1 (lK he)
  .exact⟨by show sI x.x=0;rw[q2 x hx];rfl,l hf x hx⟩
  .cases hk
end
def Xy{a b c w:Int}(hw:0<=w)(h:b<aN->a<=b+w/\b+w<aN)(hl:iz b c<aN):iz a c<=iz b c+w:=by
 unfold iz at *
 repeat' split at hl
 all_goals repeat' split
 all_goals omega
def Xz{a b c w:Int}(hw:0<=w)(h:b<aN->a<=b+w/\b+w<aN)(hl:iz c a<aN):iz c b<=iz c a+w:=by
 unfold iz at *
 repeat' split at hl
 all_goals repeat' split
 all_goals omega
def XA{a:Int}:iz a a=0:=by unfold iz;repeat' split<;>omega
section
variable{g:G}{ms:List Nat}{s t v w m i:Nat}
def XB(hR:g.Right)(hm:m<g.n)(hi:i<g.aj.length):aL (g.to m).aM (aH g.aj i).t<aN->aL (g.to m).aM (aH g.aj i).f<=aL (g.to m).aM (aH g.aj i).t+(aH g.aj i).w/\aL (g.to m).aM (aH g.aj i).t+(aH g.aj i).w<aN:=λh=>by
 have T:=oQ hR hm;have he:=hR.ends _ (jf hi);have h1:=(AD T (λa ha=>by have :=(hR.ends a ha).2.2;show(a.w:Int)<=2147483647;omega) he.2.1 h).1;have hn:(g.n:Int)<=16777216:=by have :=hR.most;omega
 have :=nL hn (show(0:Int)<=W by decide);have hf:aN=72057594037927936:=rfl;have hW:W=2147483647:=rfl;exact⟨T.ls.aj _ (jf hi) h,aa⟩
def XC(hR:g.Right)(hm:m<g.n)(hi:i<g.aj.length):aL (g.from m).aM (aH g.aj i).f<aN->aL (g.from m).aM (aH g.aj i).t<=aL (g.from m).aM (aH g.aj i).f+(aH g.aj i).w/\aL (g.from m).aM (aH g.aj i).f+(aH g.aj i).w<aN:=λh=>by
 have T:=gj hR hm;have he:=hR.ends _ (jf hi);have h1:=(AD T (λa ha=>by have :=(hR.ends a ha).2.2;show(a.w:Int)<=2147483647;omega) he.1 h).1;have hn:(g.n:Int)<=16777216:=by have :=hR.most;omega
 have :=nL hn (show(0:Int)<=W by decide);have hf:aN=72057594037927936:=rfl;have hW:W=2147483647:=rfl;exact⟨T.ls.aj _ (jf hi) h,aa⟩
def IZ(hR:g.Right)(hi:i<g.aj.length):∀{ms:List Nat}{b c:Int},(∀m∈ms,m<g.n)->b<=c+(aH g.aj i).w->ms.foldl (ji g (aH g.aj i).t w) c<aN->
  ms.foldl (ji g (aH g.aj i).f w) b<=ms.foldl (ji g (aH g.aj i).t w) c+(aH g.aj i).w
 | [],_,_,_,h,_=>h
 |m::ms,b,c,hm,h,hf=>by have hmn:=hm m cN;have hw:(0:Int)<=(aH g.aj i).w:=oC _;have hu:=DI (g:=g) (r:=(aH g.aj i).t) (v:=w) (ms:=ms) (b:=ji g (aH g.aj i).t w c m);rw[kS]at hf |-;rw[kS];refine IZ hR hi (λx hx=>hm x (cZ _ hx)) ?_ hf;have hlt:ji g (aH g.aj i).t w c m<aN:=aa;unfold ji at hlt |-;have h1:=Xy (c:=aL (g.to m).aM w) hw (XB hR hmn hi) aa;have h2:=Xz (c:=aL (g.from m).aM w) hw (XC hR hmn hi) aa;omega
def XD(hR:g.Right)(hi:i<g.aj.length):∀{ms:List Nat}{b c:Int},(∀m∈ms,m<g.n)->b<=c+(aH g.aj i).w->ms.foldl (ji g s (aH g.aj i).f) c<aN->
  ms.foldl (ji g s (aH g.aj i).t) b<=ms.foldl (ji g s (aH g.aj i).f) c+(aH g.aj i).w
 | [],_,_,_,h,_=>h
 |m::ms,b,c,hm,h,hf=>by have hmn:=hm m cN;have hw:(0:Int)<=(aH g.aj i).w:=oC _;have hu:=DI (g:=g) (r:=s) (v:=(aH g.aj i).f) (ms:=ms) (b:=ji g s (aH g.aj i).f c m);rw[kS]at hf |-;rw[kS];refine XD hR hi (λx hx=>hm x (cZ _ hx)) ?_ hf;have hlt:ji g s (aH g.aj i).f c m<aN:=aa;unfold ji at hlt |-;have h1:=Xz (c:=aL (g.to m).aM s) hw (XB hR hmn hi) aa;have h2:=Xy (c:=aL (g.from m).aM s) hw (XC hR hmn hi) aa;omega
def XE:∀{ms:List Nat},ms.foldl (ji g v v) 0=0
 | []=>rfl
 |m::ms=>by rw[kS,show ji g v v 0 m=0 by unfold ji;rw[XA,XA];rfl];exact XE
def qh(g:G)(ms:List Nat)(w:Nat):List Int:=(List.range g.n).map λv=>hG g ms v w
def xY:(qh g ms w).length=g.n:=by simp[qh]
def XF(hv:v<g.n):(qh g ms w).getD v 0=hG g ms v w:=by simp[qh,cI,hv]
def aqT(hR:g.Right)(hv:v<g.n):dy (qh g ms w) v=hG g ms v w:=by
 have hne:(qh g ms w).isEmpty=false:=by
  cases hz:qh g ms w with
  |nil=>have :=@xY g ms w;rw[hz]at this;have :=hR.pos;simp at *;omega
  |cons _ _=>rfl
 unfold dy;rw[hne,XF hv];have :=@vD g v w ms;simp only[gm,dN];have hf:aN=72057594037927936:=rfl;omega
def al6:0<=dy (qh g ms w) v:=by
 unfold dy;split
 .exact dQ _
 .by_cases hv:v<g.n
  .rw[XF hv];have :=@vD g v w ms;omega
  .rw[cI,kU (by rw[xY];omega),mR];omega
def al7{mk:Nat->Bool}(hR:g.Right)(hm:∀m∈ms,m<g.n):aqH g mk (dy (qh g ms w)):=λi hi _ hlt=>by have he:=hR.ends _ (jf hi);rw[aqT hR he.1];rw[aqT hR he.2.1]at hlt |-;have :=IZ (w:=w) hR hi (b:=0) (c:=0) hm (by have :(0:Int)<=(aH g.aj i).w:=oC _;omega) hlt;unfold hG;omega
def al8{mk:Nat->Bool}:aqH g mk (dy []):=λi _ _ _=>by have :(0:Int)<=(aH g.aj i).w:=oC _;show(0:Int)<=_+0;omega
structure xZ(g:G)(al:List Bool)(pl:List Int)(fr to:Nat):Prop where
 f:aqH g (fZ al) (dy pl)
 nn:∀v,0<=dy pl v
 z:dy pl to=0
 w:aL (g.from fr).aM to<aN->∃r,Trail g.aj fr r to/\(∀i∈r,fZ al i=true)/\dm g.aj r=aL (g.from fr).aM to
def AL(hR:g.Right)(hs:s<g.n)(ht:t<g.n){r:List Nat}(h:Trail g.aj s r t):aL (g.from s).aM t<=dm g.aj r:=by
 have T:=(gj hR hs).ls;have hw:=Trail.way (l:=g.aj) (d:=0) (.nil:Way g.aj A.f A.t s s 0) h;rw[wk]at hw;have :=T.jX ht;by_cases hlt:dm g.aj r<aN
 .exact T.qa hw hlt
 .omega
def xZ.exact{al:List Bool}{pl:List Int}(H:xZ g al pl s t)(hR:g.Right)(hs:s<g.n)(ht:t<g.n):
  Exact g s t (aL (g.from s).aM t) (SS.run g.aj (dy pl) (fZ al) g.out t (g.n+1) (SS.start (dy pl) g.n s)):=
 al5 hR hs H.f H.nn H.z H.w λ_ hr=>AL hR hs ht hr
def vE(a b:Int):Int:=if aN<=a\/aN<=b then aN else a-b
def vq(g:G)(ms:List Nat)(s t:Nat):List Int:=(List.range g.n).map λv=>vE (hG g ms v t) (hG g ms s v)
def I1:(vq g ms s t).length=g.n:=by simp[vq]
def I2(hv:v<g.n):(vq g ms s t).getD v 0=vE (hG g ms v t) (hG g ms s v):=by simp[vq,cI,hv]
end
section
variable{Q:Qs}
def al9(hQ:Q.Ok):∃d,RL Q false d:=by
 have hR:=hQ.r
 let g':G:=⟨Q.g.n,Q.g.X,Q.g.Y,Q.H⟩
 have c:g'.Right:=⟨hR.pos,hR.most,hR.x,hR.y,hR.xr,hR.yr,by
  have :Q.H.length<=Q.g.aj.length:=by unfold Qs.H;rw[gK];have :=rG Q.ok (List.range Q.g.aj.length);rw[gd]at this;exact this
  have :=hR.many;show Q.H.length<=_;omega,λa ha=>by
  obtain⟨i,hi,_,rfl⟩:=sq.1 ha;exact hR.ends _ (jf hi)⟩
 have T:=(gj c (s:=Q.s) hQ.s).ls;cases ho:Q.cQ (Q.src false)with
 |true=>exact⟨_,⟨T.len,λ_=>T.zero,λh=>(by rw[ho]at h;cases h),T.way⟩,λi hi hok h=>T.aj _ (sq.2 ⟨i,hi,hok,rfl⟩) h⟩
 | false=>
  have b:∀v,aL (List.replicate Q.g.n aN) v=aN:=λv=>by
   by_cases h:v<Q.g.n
   .simp[aL,cI,h]
   .exact LV (by simpa using h)
  exact⟨List.replicate Q.g.n aN,⟨aP,λh=>(by rw[ho]at h;cases h),λ_ v _=>b v,λv _=>.inl (b v)⟩,λi hi hok h=>by rw[b]at h;exact absurd h az⟩
def XG{u:Nat}{d:Int}:∀{r:List Nat}{v t:Nat}{d:Int},Way Q.H A.f A.t u v d->Trail Q.g.aj v r t->(∀i∈r,Q.ok i=true)->Way Q.H A.f A.t u t (d+dm Q.g.aj r)
 | [],_,_,_,hw,h,_=>by cases h;rw[qN,yV];exact hw
 |i::r,_,_,_,hw,⟨a,b,h⟩,ho=>by have :=XG (d:=d) (Way.step _ hw (sq.2 ⟨i,a,ho i cN,rfl⟩) b) h λj hj=>ho j (cZ _ hj);rw[lq,<-Bt];exact this
structure ya(Q:Qs):Prop where
 f:Q.aqH
 w:aL (Q.g.from Q.s).aM Q.t<aN->∃r,Trail Q.g.aj Q.s r Q.t/\(∀i∈r,Q.ok i=true)/\dm Q.g.aj r=aL (Q.g.from Q.s).aM Q.t
def ya.exact(H:ya Q)(hQ:Q.Ok)(hne:Q.s≠Q.t):Q.fin.aM=aL (Q.g.from Q.s).aM Q.t:=by
 obtain⟨d,hd⟩:=al9 hQ;have T:=(gj hQ.r hQ.s).ls;have hfl:=T.jX hQ.t;have he:=alI hQ hne H.f hd;have ge:aL d Q.t=aN\/aL (Q.g.from Q.s).aM Q.t<=aL d Q.t:=by
  rcases hd.way Q.t hQ.t with h|⟨h1,h2⟩
  .exact .inl h
  .exact .inr (T.qa (h2.mono λa ha=>by obtain⟨i,hi,_,rfl⟩:=sq.1 ha;exact jf hi) h1)
 by_cases hlt:aL (Q.g.from Q.s).aM Q.t<aN
 .obtain⟨r,h1,h2,h3⟩:=H.w hlt;have hw:=XG (d:=0) (.nil:Way Q.H A.f A.t Q.s Q.s 0) h1 h2;rw[wk,h3]at hw;obtain⟨o1,o2⟩:=(IC (x:=false) hw).resolve_left λe=>hne e.symm;rw[he,aW o2];have :=hd.qa o1 hw hlt;omega
 .have hr:=hd.xJ hQ.t;rw[he];split
  .omega
  .omega
def ama{g:G}{s t:Nat}(hR:g.Right)(hs:s<g.n)(ht:t<g.n):ya ⟨g,s,t,[],[]⟩:=
 ⟨λi _ _=>by show((0:Int))<=0+_;have :(0:Int)<=(aH g.aj i).w:=oC _;omega,λh=>by obtain⟨r,h1,h2,_⟩:=Cs (c:=λ_=>0) (k:=0) hR hs ht rfl h;exact⟨r,h1,λ_ _=>rfl,h2⟩⟩
def XH{g:G}{s t:Nat}(hR:g.Right)(ht:t<g.n):∀{r:List Nat}{v:Nat},v<g.n->Trail g.aj v r t->∀i∈r,aL (g.from (aH g.aj i).f).aM t<=dm g.aj r/\aL (g.from (aH g.aj i).t).aM t<=dm g.aj r
 | [],_,_,_,_,h=>by cases h
 | j::r,v,hv,⟨a,b,h⟩,i,hi=>by
  have he:=hR.ends _ (jf a);have hw:(0:Int)<=(aH g.aj j).w:=oC _;rcases cV.1 hi with rfl|hi
  .refine⟨?_,?_⟩
   .exact AL hR he.1 ht ⟨a,rfl,h⟩
   .have :=AL hR he.2.1 ht h;rw[lq];omega
  .have :=XH (s:=s) hR ht he.2.1 h i hi;rw[lq];omega
def XI{g:G}{s t:Nat}(hR:g.Right)(hs:s<g.n):∀{r q:List Nat}{v:Nat},Trail g.aj s q v->Trail g.aj v r t->∀i∈r,aL (g.from s).aM (aH g.aj i).f<=dm g.aj q+dm g.aj r/\aL (g.from s).aM (aH g.aj i).t<=dm g.aj q+dm g.aj r
 | [],_,_,_,_,_,h=>by cases h
 | j::r,q,v,hq,⟨a,b,h⟩,i,hi=>by
  have he:=hR.ends _ (jf a);have hn:=@L1 g.aj r;have hw:(0:Int)<=(aH g.aj j).w:=oC _;have c:Trail g.aj s (q++ [j]) (aH g.aj j).t:=hq.append ⟨a,b,rfl⟩;have e:dm g.aj (q++ [j])=dm g.aj q+(aH g.aj j).w:=by rw[xz,lq,qN];omega
  rcases cV.1 hi with rfl|hi
  .have h1:=AL hR hs he.1 (b▸hq);have h2:=AL hR hs he.2.1 c;rw[e]at h2;rw[lq];omega
  .have :=XI (r:=r) (q:=q++ [j]) hR hs c h i hi;rw[e]at this;rw[lq];omega
def amb{g:G}{s t:Nat}{ms:List Nat}(hR:g.Right)(hs:s<g.n)(ht:t<g.n)(hm:∀m∈ms,m<g.n):ya ⟨g,s,t,[],vq g ms s t⟩:=by
 have cQ:∀{v},v<g.n->hG g ms v t<aN->hG g ms s v<aN->(Qs.mk g s t [] (vq g ms s t)).cQ v=true:=λ{v} hv h1 h2=>by have n1:=@vD g v t ms;have n2:=@vD g s v ms;unfold Qs.cQ;dsimp only;rw[I2 hv,vE,aQ aa,bT aa,bT aa,Bool.and_true,Bool.or_true]
 refine⟨λi hi hok=> ?_,λh=> ?_⟩
 .have hi:i<g.aj.length:=hi;have he:=hR.ends _ (jf hi);obtain⟨_,o1,o2⟩:=(Qs.xV (x:=false)).1 hok;have o1:=(Qs.Az o1).2;have o2:=(Qs.Az o2).2;have o1:(vq g ms s t).getD (aH g.aj i).f 0<aN:=o1;have o2:(vq g ms s t).getD (aH g.aj i).t 0<aN:=o2;show(vq g ms s t).getD (aH g.aj i).f 0<=(vq g ms s t).getD (aH g.aj i).t 0+2*(aH g.aj i).w;rw[I2 he.1]at o1 |-;rw[I2 he.2.1]at o2 |-;unfold vE at *;split at o1
  .omega
  .split at o2
   .omega
   .rename_i c1 c2;rw[aQ c1,aQ c2];have hw:(0:Int)<=(aH g.aj i).w:=oC _;have h1:=IZ (w:=t) hR hi (b:=0) (c:=0) hm aa (show hG g ms _ t<aN by omega);have h2:=XD (s:=s) hR hi (b:=0) (c:=0) hm aa (show hG g ms s _<aN by omega);unfold hG;omega
 .have h:aL (g.from s).aM t<aN:=h;obtain⟨r,h1,h2,_⟩:=Cs (c:=λ_=>0) (k:=0) hR hs ht rfl h;refine⟨r,h1,λi hi=> ?_,h2⟩;have hil:i<g.aj.length:=h1.lt i hi;have he:=hR.ends _ (jf hil);have d1:=XH (s:=s) hR ht hs h1 i hi;have d2:=XI (q:=[]) hR hs rfl h1 i hi;rw[qN]at d2;have h2:dm g.aj r=aL (g.from s).aM t:=h2;have b1:=xX hR he.1 ht hm;have b2:=xX hR hs he.1 hm;have b3:=xX hR he.2.1 ht hm;have b4:=xX hR hs he.2.1 hm;have o1:=cQ he.1 aa aa;have o2:=cQ he.2.1 aa aa;exact(Qs.xV (x:=false)).2 ⟨rfl,o1,o2⟩
end
def mg(c d:List Int)(i:Nat):List Int:=c.mapIdx λv x=>if v<i then min x (aL d v)else x
def cl(c d:List Int):List Int:=mg c d d.length
def AN{c d:List Int}{i:Nat}:(mg c d i).length=c.length:=by simp[mg]
def XO{c d:List Int}:(cl c d).length=c.length:=AN
def amh{c d:List Int}:mg c d 0=c:=by apply iW AN;intro i h1 h2;simp[mg]
def ami{c d:List Int}{i:Nat}(h:i<c.length):(mg c d i)[i]'(by rw[AN];exact h)=c[i]:=by simp[mg]
def amj{c d:List Int}{i:Nat}(h:i<c.length):(mg c d i).set i (min c[i] (aL d i))=mg c d (i+1):=by
 apply iW (by simp[mg]);intro j h1 h2;have hj:j<c.length:=by rw[AN]at h2;exact h2
 rw[qx];by_cases e:i=j
 .subst e;simp[mg]
 .rw[aQ e];simp only[mg,EX];by_cases h3:j<i
  .rw[aW h3,aW aa]
  .rw[aQ h3,aQ aa]
def mh(g:G)(ms:List Int):List Int:=ms.foldl (λc m=>cl c (g.cU m).aM) (List.replicate g.n aN)
def amk{g:G}{ms:List Int}{m:Int}:mh g (ms++ [m])=cl (mh g ms) (g.cU m).aM:=by simp[mh]
def XP{g:G}:∀{ms:List Int}{c:List Int},(ms.foldl (λc m=>cl c (g.cU m).aM) c).length=c.length
 | [],_=>rfl
 |m::ms,c=>by rw[kS,XP,XO]
def Jd{g:G}{ms:List Int}:(mh g ms).length=g.n:=by unfold mh;rw[XP];simp
def sw(c:List Int):Nat->List Nat->Nat
 |x,[]=>x
 |x,y::r=>sw c (if c.getD x 0<c.getD y 0 then y else x) r
def iA(c:List Int):List Nat->Nat
 | []=>0
 |x::r=>sw c x r
def XQ{c:List Int}:∀{r:List Nat}{x:Nat},sw c x r∈x::r
 | [],x=>by simp[sw]
 | y::r,x=>by
  unfold sw;have :=XQ (c:=c) (r:=r) (x:=if c.getD x 0<c.getD y 0 then y else x);split at this<;>rename_i h
  .rw[aW h];exact cZ _ this
  .rw[aQ h];rcases cV.1 this with e|e
   .rw[e];exact cN ..
   .exact cZ _ (cZ _ e)
def DR{c:List Int}{l:List Nat}(h:l≠ []):iA c l∈l:=by
 cases l with
 |nil=>exact absurd rfl h
 |cons x r=>exact XQ
def XR{c:List Int}{y:Nat}:∀{r:List Nat}{x:Nat},sw c x (r++ [y])=if c.getD (sw c x r) 0<c.getD y 0 then y else sw c x r
 | [],x=>rfl
 |z::r,x=>by rw[qq];unfold sw;exact XR
def aml{c:List Int}{l:List Nat}{y:Nat}(h:l≠ []):iA c (l++ [y])=if c.getD (iA c l) 0<c.getD y 0 then y else iA c l:=by
 cases l with
 |nil=>exact absurd rfl h
 |cons x r=>exact XR
def lF(g:G):Nat->Nat->List Nat->List Int->List Nat
 |0,_,_,_=>[]
 |k+1,i,left,c=>match left with
  | []=>[]
  |x::r=>iA c (x::r)::lF g k (i+1) ((x::r).filter (· != iA c (x::r))) (cl (if i=0 then List.replicate g.n aN else c) (g.cU (iA c (x::r))).aM)
def XS(g:G)(p:Nat×List Nat×List Int)(x:List Value)(p':Nat×List Nat×List Int):Prop:=p.2.1≠ []/\x=[I (iA p.2.2 p.2.1)]/\p'=(p.1+1,p.2.1.filter (· != iA p.2.2 p.2.1),cl (if p.1=0 then List.replicate g.n aN else p.2.2) (g.cU (iA p.2.2 p.2.1)).aM)
def DT{g:G}{k i:Nat}{left:List Nat}{c:List Int}(h:left≠ []):lF g (k+1) i left c=iA c left::lF g k (i+1) (left.filter (· != iA c left)) (cl (if i=0 then List.replicate g.n aN else c) (g.cU (iA c left)).aM):=by
 cases left with
 |nil=>exact absurd rfl h
 |cons x r=>rfl
section
variable{g:G}
def amm{left:List Nat}{m:Nat}(hn:left.Nodup)(hm:m∈left):(left.filter (· != m)).length+1=left.length:=by
 have e:left.filter (· != m)=left.erase m:=by rw[hn.erase_eq_filter]
 rw[e,yR hm];have :0<left.length:=Bw hm;omega
def XT:∀{k i:Nat}{left:List Nat}{c:List Int},left.Nodup->(lF g k i left c).length=min k left.length
 |0,_,_,_,_=>by simp[lF]
 | k+1,i,left,c,hn=>by
  by_cases h:left=[]
  .subst h;simp[lF]
  .rw[DT h,fO,XT (hn.filter _)];have :=amm hn (DR (c:=c) h);omega
def Je:∀{k i:Nat}{left:List Nat}{c:List Int},∀v∈lF g k i left c,v∈left
 |0,_,_,_,v,h=>by simp[lF]at h
 | k+1,i,left,c,v,h=>by
  by_cases e:left=[]
  .subst e;simp[lF]at h
  .rw[DT e]at h;rcases cV.1 h with rfl|h
   .exact DR e
   .exact(gL.1 (Je v h)).1
end
section
variable{g:G}{r:Nat}{ms:List Nat}
def iS(g:G)(ms:List Nat)(r i:Nat):GS:=((g.from r).order.reverse.take i).foldl (GS.step (qf g r) (jj g ms r)) (aqR g.n ms)
def amn(hR:g.Right)(hn:Sm g)(hr:r<g.n)(hm:∀m∈ms,m<g.n)(i:Nat):GI (qf g r) g.n (jj g ms r) (gH ms) ((g.from r).order.reverse.take i) (iS g ms r i):=by
 have T:=gj hR hr;unfold iS;rw[List.take_reverse];refine GI.all T (hn r hr) (DK hR hr hm) (λv=>by unfold gH;omega) (S:=aqR g.n ms) ?_ (pre:=(g.from r).order.take ((g.from r).order.length-i)) (iI _ _).symm;refine⟨λx=>rfl,by simp[aqR],by simp[aqR],λv hv _=>⟨?_,?_⟩,λ_=>[],λv hv=>by simp at hv⟩
 .simp[aqR,cI,hv]
 .simp[aqR,cI,hv]
def XU:iS g ms r (g.from r).order.length=fT g ms r:=by unfold iS fT;rw[fM aP]
def amo{i:Nat}(hi:i<(g.from r).order.length):iS g ms r (i+1)=(iS g ms r i).step (qf g r) (jj g ms r) ((g.from r).order.reverse.getD i 0):=by
 unfold iS;have h:i<(g.from r).order.reverse.length:=by rw[wA];exact hi
 rw[cW h,jP,cI,dD h];rfl
def XV(hR:g.Right)(hn:Sm g)(hr:r<g.n)(hm:∀m∈ms,m<g.n)(hml:ms.length<=2^20)(i:Nat):(∀x,((iS g ms r i).kd x).length<=32)/\(iS g ms r i).sz.length=g.n/\(iS g ms r i).mc.length=g.n/\
  (∀v,∀k∈(iS g ms r i).kd v,k<g.n/\k≠v)/\∀u,0<=(iS g ms r i).mc.getD u 0/\(iS g ms r i).mc.getD u 0<=2^32:=by
 have T:=gj hR hr;have H:=amn hR hn hr hm i;have b:∀u,0<=gH ms u/\gH ms u<=2^20:=λu=>by unfold gH;have :=List.count_le_length (a:=u) (l:=ms);omega
 refine⟨λx=> ?_,H.sl,H.ml,λv k hk=> ?_,λu=> ?_⟩
 .rw[H.kd];have h1:=rG (λv=>decide (qf g r v=some x)) ((g.from r).order.reverse.take i);have h2:=hn r hr;rw[dO,wA]at h1;omega
 .rw[H.kd,gL,gT]at hk;obtain⟨p1,_,_,c⟩:=od T hk.2;exact⟨T.range k p1,λe=>by rw[e]at c;omega⟩
 .by_cases hu:u∈(g.from r).order.reverse.take i
  .obtain⟨pt,hpt⟩:=H.done;obtain⟨h1,h2,h3,_⟩:=hpt u hu;have d:u∈(g.from r).order:=wB.1 (lK hu);have h4:=IJ h1 λx hx=>IF T ((h2 x).1 hx) d;have h6:=hn r hr;have h5:=IG (f:=gH ms) (l:=pt u) (B:=2^20) λk _=>(b k).2;rw[h3];refine⟨AE λk _=>(b k).1,?_⟩;omega
  .by_cases hun:u<g.n
   .rw[(H.out u hun hu).2];have :=b u;omega
   .rw[cI,kU (by rw[H.ml];omega)];exact⟨dQ _,az⟩
def amq{n x:Nat}{l:List Nat}(hx:x<n):((List.range n).map (gH l)).set x (gH l x+1)=(List.range n).map (gH (l++ [x])):=by
 apply nK;intro i;by_cases hi:i<n
 .by_cases e:i=x
  .subst e;rw[jo (by simpa using hi)];simp[hi,gH,List.count_append]
  .rw[gD (λh=>e h.symm)];have :List.count i [x]=0:=List.count_eq_zero.2 (by simpa using e);simp[hi,gH,List.count_append,this]
 .rw[kU (by simp;omega),kU (by simp;omega)]
end
structure nw where
 lo:Int
 hi:Int
 any:Bool
def fU(e:nw)(x:Int):nw:=if e.any then⟨min e.lo x,max e.hi x,true⟩else⟨x,x,true⟩
def gA(l:List Int):nw:=l.foldl fU ⟨0,0,false⟩
def XW:∀{l:List Int}{e:nw}{a b:Int},(∀x∈l,a<=x/\x<=b)->(e.any=true->a<=e.lo/\e.lo<=e.hi/\e.hi<=b)->
  ((l.foldl fU e).any=true->a<=(l.foldl fU e).lo/\(l.foldl fU e).lo<=(l.foldl fU e).hi/\(l.foldl fU e).hi<=b)/\
  (∀x∈l,(l.foldl fU e).lo<=x/\x<=(l.foldl fU e).hi)/\(e.any=true->(l.foldl fU e).lo<=e.lo/\e.hi<=(l.foldl fU e).hi/\(l.foldl fU e).any=true)/\(l≠ []->(l.foldl fU e).any=true)
 | [],e,a,b,_,he=>⟨he,(λ_ h=>by cases h),λh=>⟨dQ _,dQ _,h⟩,λh=>absurd rfl h⟩
 | y::l,e,a,b,hl,he=>by
  have hy:=hl y cN;have hw:(fU e y).any=true/\(fU e y).lo<=y/\y<=(fU e y).hi/\a<=(fU e y).lo/\(fU e y).hi<=b/\(e.any=true->(fU e y).lo<=e.lo/\e.hi<=(fU e y).hi):=by
   unfold fU;cases h:e.any with
   |true=>have :=he h;simp only[e7];refine⟨trivial,?_,?_,?_,?_,λ_=>⟨?_,?_⟩⟩<;>omega
   |false=>simp only[gm,dN];refine⟨trivial,dQ _,dQ _,hy.1,hy.2,λh=>by cases h⟩
  obtain⟨w1,w2,w3,w4,d,f⟩:=hw;obtain⟨h1,h2,h3,_⟩:=XW (l:=l) (e:=fU e y) (a:=a) (b:=b) (λx hx=>hl x (cZ _ hx)) λ_=>⟨w4,aa,d⟩;have c:=h3 w1;rw[kS];refine⟨h1,λx hx=> ?_,λh=> ?_,λ_=>c.2.2⟩
  .rcases cV.1 hx with rfl|hx
   .omega
   .exact h2 x hx
  .have :=f h;exact⟨aa,aa,c.2.2⟩
def DU{l:List Int}{a b:Int}(hl:∀x∈l,a<=x/\x<=b)(hne:l≠ []):a<=(gA l).lo/\(gA l).hi<=b/\(gA l).lo<=(gA l).hi/\∀x∈l,(gA l).lo<=x/\x<=(gA l).hi:=by obtain⟨h1,h2,_,h4⟩:=XW (l:=l) (e:=⟨0,0,false⟩) hl (λh=>by cases h);have :=h1 (h4 hne);exact⟨this.1,this.2.2,this.2.1,h2⟩
def partOf(e:nw)(many:Nat)(x:Int):Int:=(x-e.lo)*many/(e.hi-e.lo+1)
def AO{e:nw}{many:Nat}{x:Int}(h1:e.lo<=x)(h2:x<=e.hi)(hm:1<=many):0<=partOf e many x/\partOf e many x<many:=by unfold partOf;have hd:0<e.hi-e.lo+1:=aa;refine⟨Int.ediv_nonneg (Bs aa aa) aa,Int.ediv_lt_of_lt_mul hd ?_⟩;rw[Int.mul_comm (many:Int)];exact Int.mul_lt_mul_of_pos_right aa aa
def yd(g:G)(rows eL:Nat):List Int:=(List.range g.n).map λv=>partOf (gA g.Y) rows (g.Y.getD v 0)*eL+partOf (gA g.X) eL (g.X.getD v 0)
def amr{g:G}{rows eL:Nat}(hR:g.Right)(hr:1<=rows)(hc:1<=eL){z:Int}(hz:z∈yd g rows eL):0<=z/\z<(rows*eL:Nat):=by
 obtain⟨v,hv,rfl⟩:=cP.1 hz;have hv:=jw.1 hv;have hx:g.X.getD v 0∈g.X:=by rw[cI,dD (by rw[hR.x];exact hv),e8];exact cu _
 have hy:g.Y.getD v 0∈g.Y:=by rw[cI,dD (by rw[hR.y];exact hv),e8];exact cu _
 obtain⟨_,_,_,c⟩:=DU hR.xr (List.ne_nil_of_mem hx);obtain⟨_,_,_,d⟩:=DU hR.yr (List.ne_nil_of_mem hy);have p1:=AO (c _ hx).1 (c _ hx).2 hc;have p2:=AO (d _ hy).1 (d _ hy).2 hr;generalize partOf (gA g.Y) rows (g.Y.getD v 0)=a at p2;generalize partOf (gA g.X) eL (g.X.getD v 0)=b at p1;obtain⟨a,rfl⟩:=iX p2.1;obtain⟨b,rfl⟩:=iX p1.1;have :=lJ eL (show a+1<=rows by omega);rw[nJ]at this;have e:(a:Int)*eL+b=((a*eL+b:Nat):Int):=by rw[sS,uq]
 rw[e];omega
def vF(cells rows:Nat):Prop:=1<=rows/\rows*rows<=cells/\cells<(rows+1)*(rows+1)
def vF.eL{cells rows:Nat}(h:vF cells rows):1<=cells/rows/\rows*(cells/rows)<=cells:=by obtain⟨h1,h2,h3⟩:=h;refine⟨(Nat.le_div_iff_mul_le aa).2 ?_,Nat.mul_div_le _ _⟩;have :=lJ rows h1;omega
def XX{g:G}{rows eL:Nat}:(yd g rows eL).length=g.n:=by simp[yd]
structure jK where
 marks:Int
 rule:Int
 lG:List Int
 kind:Int
 cells:Int
def jK.wrong(p:jK):Int:=if ¬(0<=p.marks/\p.marks<=16)then 11 else if ¬(p.rule=0\/p.rule=1)then 12 else if ¬(p.kind=0\/p.kind=1\/p.kind=2)then 13 else if ¬(p.kind=0\/(1<=p.cells/\p.cells<=256))then 14 else 0
def ams(xs:List Int)(n:Nat):Int:=match xs with
 | []=>0
 |x::_=>x.tmod n
def Jf(g:G)(k:Nat)(xs:List Int):List Nat:=lF g k 0 (List.range g.n) (mh g [ams xs g.n])
def marksOf(g:G)(p:jK):List Nat:=if p.rule=0 then Jf g p.marks.toNat p.lG else gz g p.lG (min p.marks g.n).toNat
def XY{g:G}:∀{k i:Nat}{left:List Nat}{c:List Int},(lF g k i left c).Nodup
 |0,_,_,_=>List.nodup_nil
 | k+1,i,left,c=>by
  by_cases e:left=[]
  .subst e;exact List.nodup_nil
  .rw[DT e,gC];refine⟨λh=> ?_,XY⟩;have :=Je _ h;have :=(gL.1 this).2;simp at this
structure Jg(g:G):Prop extends G.Right g where
 sm:Sm g
 short:g.aj.length<=84
def Jh{g:G}{p:jK}(hR:g.Right)(hn:Sm g)(h1:0<=p.marks)(hx:∀x∈p.lG,0<=x):(marksOf g p).Nodup/\(∀m∈marksOf g p,m<g.n)/\((marksOf g p).length:Int)=min p.marks g.n:=by
 unfold marksOf;split
 .unfold Jf;refine⟨XY,λm hm=>jw.1 (Je _ hm),?_⟩;rw[XT Bv,gd];omega
 .obtain⟨a,b⟩:=IL hR hn hx (k:=(min p.marks g.n).toNat) aa;exact⟨a,b,by rw[tO];omega⟩
def DV(g:G)(p:jK)(xs:List Int):Prop:=∃ys,xs=norm ys/\((p.kind=1/\∃rows,vF p.cells.toNat rows/\ys=yd g rows (p.cells.toNat/rows))\/(p.kind=2/\ys=vv g p.cells.toNat))
def amt{l:List Int}:(norm l).length=l.length:=Gm
def DV.facts{g:G}{p:jK}{xs:List Int}(hR:g.Right)(h1:1<=p.cells)(H:DV g p xs):xs.length=g.n/\norm xs=xs/\0<=jg xs/\jg xs<p.cells:=by
 obtain⟨ys,rfl,H⟩:=H;have hpos:=hR.pos;have hlen:ys.length=g.n/\∀z∈ys,0<=z/\z<(p.cells.toNat:Int):=by
  rcases H with ⟨_,rows,hS,rfl⟩|⟨_,rfl⟩
  .have hc:=hS.eL;refine⟨XX,λz hz=> ?_⟩;have :=amr hR hS.1 hc.1 hz;omega
  .refine⟨Dv,λz hz=> ?_⟩;obtain⟨v,hv,e⟩:=qw.1 hz;rw[Dv]at hv;obtain⟨j,hj,a⟩:=akw (g:=g) (c:=p.cells.toNat) aa hv;rw[dD (by rw[Dv];exact hv),e]at hj;have :=eV hj;omega
 have hl:(norm ys).length=g.n:=by rw[amt];exact hlen.1
 have hne:norm ys≠ []:=λe=>by rw[e]at hl;simp at hl;omega
 have hm:=acN hlen.2 (Ma hne);exact⟨hl,acP,hm.1,aa⟩
def kN(k:Nat):UInt8:=UInt8.ofNat (2^k)
def yf(x:UInt8)(k:Nat):Bool:=(x&&& kN k) != 0
def Jj(x:UInt8)(k:Nat):UInt8:=(x&&& ~~~kN k)|||kN k
def AQ{P:UInt8->Prop}(h:∀x:Fin 256,P (UInt8.ofNat x.val))(x:UInt8):P x:=by have :=h ⟨x.toNat,x.toNat_lt⟩;simpa using this
def amD:∀k:Fin 8,IntKind.u8.wrap (1*2^(min (k.val:Int).toNat IntKind.u8.bits))=((kN k.val).toNat:Int):=by decide+kernel
def amE(x:UInt8)(k:Fin 8):IntKind.u8.wrap (BitVec.ofInt IntKind.u8.bits (x.toNat:Int)&&& ~~~BitVec.ofInt IntKind.u8.bits ((kN k.val).toNat:Int)).toNat=((x&&& ~~~kN k.val).toNat:Int):=by revert k;revert x;exact AQ (by decide+kernel)
def or_val(x:UInt8)(k:Fin 8):IntKind.u8.wrap (BitVec.ofInt IntKind.u8.bits (x.toNat:Int)|||BitVec.ofInt IntKind.u8.bits ((kN k.val).toNat:Int)).toNat=((x|||kN k.val).toNat:Int):=by revert k;revert x;exact AQ (by decide+kernel)
def and_val(x:UInt8)(k:Fin 8):(IntKind.u8.wrap (BitVec.ofInt IntKind.u8.bits (x.toNat:Int)&&& BitVec.ofInt IntKind.u8.bits ((kN k.val).toNat:Int)).toNat != 0)=yf x k.val:=by revert k;revert x;exact AQ (by decide+kernel)
def amF(x:UInt8)(k k':Fin 8):yf (Jj x k.val) k'.val=(decide (k=k')||yf x k'.val):=by revert k k';revert x;exact AQ (by decide+kernel)
def amG(k:Fin 8):yf 0 k.val=false:=by revert k;decide
def fV(bs:List UInt8)(dK row i:Nat):Bool:=yf (bs.getD (row*dK+i/8) 0) (i%8)
def qi(bs:List UInt8)(dK row i:Nat):List UInt8:=bs.set (row*dK+i/8) (Jj (bs.getD (row*dK+i/8) 0) (i%8))
def X7{bs:List UInt8}{dK row i:Nat}:(qi bs dK row i).length=bs.length:=by simp[qi]
def amH{dK r r' q q':Nat}(hq:q<dK)(a:q'<dK)(h:r*dK+q=r'*dK+q'):r=r'/\q=q':=by
 rcases E0 r r' with e|e|e
 .have :=lJ dK (show r+1<=r' by omega);rw[nJ]at this;omega
 .subst e;omega
 .have :=lJ dK (show r'+1<=r by omega);rw[nJ]at this;omega
def DX{rows dK r q:Nat}(hr:r<rows)(hq:q<dK):r*dK+q<rows*dK:=by have :=lJ dK (show r+1<=rows by omega);rw[nJ]at this;omega
def amI{bs:List UInt8}{dK r i r' i':Nat}(hb:r*dK+i/8<bs.length)(hi:i/8<dK)(hi':i'/8<dK):
  fV (qi bs dK r i) dK r' i'=(decide (r=r'/\i=i')||fV bs dK r' i'):=by
 unfold fV qi;by_cases e:r*dK+i/8=r'*dK+i'/8
 .obtain⟨h1,h2⟩:=amH hi hi' e;rw[cI,<-e,jo hb,e8];have :=amF (bs.getD (r*dK+i/8) 0) ⟨i%8,aa⟩ ⟨i'%8,aa⟩;dsimp only at this;rw[this];congr 1;apply pN.2;rw[Fin.mk.injEq];omega
 .rw[cI,gD e,<-cI];have :¬(r=r'/\i=i'):=λ⟨h1,h2⟩=>e (by rw[h1,h2]);rw[bR this,sU]
def X8{m dK r i:Nat}:fV (List.replicate m 0) dK r i=false:=by
 unfold fV;have :(List.replicate m (0:UInt8)).getD (r*dK+i/8) 0=0:=by rw[cI,Kf];split<;>rfl
 rw[this];exact amG ⟨i%8,aa⟩
def setRow(bs:List UInt8)(dK r:Nat)(l:List Nat):List UInt8:=l.foldl (λb i=>qi b dK r i) bs
def Jk:∀{l:List Nat}{bs:List UInt8}{dK r:Nat},(setRow bs dK r l).length=bs.length
 | [],_,_,_=>rfl
 |i::l,bs,dK,r=>by have :=Jk (l:=l) (bs:=qi bs dK r i) (dK:=dK) (r:=r);rw[X7]at this;exact this
def Jl:∀{l:List Nat}{bs:List UInt8}{rows dK r r' i':Nat},bs.length=rows*dK->r<rows->(∀i∈l,i/8<dK)->i'/8<dK->fV (setRow bs dK r l) dK r' i'=(decide (r=r'/\i'∈l)||fV bs dK r' i')
 | [],bs,rows,dK,r,r',i',_,_,_,_=>by simp[setRow]
 | i::l,bs,rows,dK,r,r',i',hb,hr,hl,hi'=>by
  have hi:=hl i cN;have h1:=Jl (l:=l) (bs:=qi bs dK r i) (r':=r') (by rw[X7];exact hb) hr (λj hj=>hl j (cZ _ hj)) hi';have h2:=amI (r':=r') (by rw[hb];exact DX hr hi) hi hi';show fV (setRow (qi bs dK r i) dK r l) dK r' i'=_;rw[h1,h2];rw[<-Bool.or_assoc];congr 1;rw[<-Bool.decide_or];apply pN.2;rw[cV];constructor
  .rintro(⟨a,b⟩|⟨a,b⟩)
   .exact⟨a,.inr b⟩
   .exact⟨a,.inl b.symm⟩
  .rintro⟨a,b|b⟩
   .exact .inr ⟨a,b.symm⟩
   .exact .inl ⟨a,b⟩
def bM(w:Nat):Nat:=(w+7)/8
def yg{w i:Nat}(h:i<w):i/8<bM w:=by unfold bM;omega
abbrev Nm:=ByteArray
inductive Ch where
 |mk (a:Nm) (n:Nat)
 |Wr (a b:Nm)
 |rem (a:Nm)
deriving DecidableEq
abbrev vG:=List (Nm×Nat)
def X9:vG->Nm->Option Nat
 | [],_=>none
 |x::r,a=>if x.1=a then some x.2 else X9 r a
def Jm(D:vG)(a:Nm):vG:=D.filter λx=> !decide (x.1=a)
def Ya(D:vG)(a:Nm)(n:Nat):vG:=(a,n)::Jm D a
def app(D:vG):Ch->vG
 | .mk a n=>Ya D a n
 | .Wr a b=>Ya (Jm D a) b ((X9 D a).getD 0)
 | .rem a=>Jm D a
open Go Go.ChangeShapes Go.WideShapes Go.ChangeAt Go.RowKit
section
variable{H:Type}{jU:TypeId×Value->H}{P:Program}{w:World}{α:Type}{enc:α->List Value}{ok:α->Prop}{n:Nat}{e t:TypeId}{v:Value}{r:Reach}{base:Nat}{d:DataW H}{p:List MemPlace}{cs:List Value}
def anC{fuel:Nat}{x0:DataW H×List MemPlace}(he:∀a,(enc a).length=n)(ht:P.underlying t=some (.slice e))(hn:P.cellsOf e=n)(hpos:0<n)
  (q:∀fuel cs x,DataW.trod jU P w 0 (λ_=>true) true fuel e cs=some x->∃a,cs=enc a/\ok a)
  (hf:DataW.trod jU P w 0 (λ_=>true) true fuel t [v]=some x0) (u:∀a l c,v=.slice (some a) l c->a.spot=none):
  ∃bl xs,kE enc n w.heap v bl xs/\(∀a∈xs,ok a)/\xs.length<=maxLen:=by
 rcases Go.Deep.open_slice ht hf with ⟨hc,_⟩|⟨a,len,cap,m,fuel',D,Pl,hc,_,hle,y,hm,_,hx⟩
 .simp only[ua,wD]at hc;subst hc;exact⟨0,[],⟨none,0,rfl,cq _,.inl ⟨rfl,.inl rfl⟩⟩,aP,aP⟩
 .simp only[ua,wD]at hc;subst hc;have hsp:=u a len cap rfl;simp only[e7]at hm;subst hm;have hall:∀i,i<len->∃x:α,w.cells? 0 (a.add (i*n)) n=some (enc x)/\ok x:=by
   intro i hi;obtain⟨cs',h1,h2⟩:=hx i aa;obtain⟨x,rfl,hok⟩:=q _ _ _ h2;rw[hn]at h1;exact⟨x,h1,hok⟩
  obtain⟨xs,hl,hxs⟩:=Lu (Q:=λi x=>w.cells? 0 (a.add (i*n)) n=some (enc x)/\ok x) len hall;refine⟨a.block,xs,?_,λx hx'=> ?_,aa⟩
  .refine⟨some a,m,by rw[hl],aa,?_⟩;have ha:a=⟨a.block,a.off,none⟩:=by
    obtain⟨b,o,s⟩:=a;simp only at hsp;subst hsp;rfl
   by_cases h0:xs=[]
   .exact .inl ⟨h0,.inr ⟨_,_,by rw[<-ha]⟩⟩
   .right;have hlp:0<xs.length:=ur.2 h0;have hcell:∀i(hi:i<xs.length) j,j<n->w.cell? ⟨a.block,a.off+i*n+j,none⟩=(enc xs[i])[j]? :=by
     intro i hi j hj;have h1:=(hxs i hi).1;unfold World.cells? at h1;rw[aW (fE _),add_plain hsp]at h1;have :=Lt h1 j j (by simp[hj]);rw[add_plain rfl]at this;exact this
    have f:=hcell 0 hlp 0 hpos;simp only[World.cell?]at f;have hblk:∃c T fz,w.heap[a.block]? =some (.cells c T fz):=by
     split at f
     .rename_i c T fz hb;exact⟨c,T,fz,hb⟩
     .rw[dD (by rw[he];exact hpos)]at f;cases f
    obtain⟨c,T,fz,hb⟩:=hblk;have h:∀i(hi:i<xs.length) j,j<n->c[a.off+i*n+j]? =(enc xs[i])[j]? :=by intro i hi j hj;have :=hcell i hi j hj;simpa[World.cell?,hb]using this
    have hrl:=iN he xs;have hmid:(c.toList.drop a.off).take (xs.length*n)=row enc xs:=by
     apply nK;intro k;by_cases hk:k<xs.length*n
     .have hi:k/n<xs.length:=(Nat.div_lt_iff_lt_mul hpos).2 hk;have hj:k%n<n:=rD _ hpos;have hkk:k/n*n+k%n=k:=by rw[um];exact Nat.div_add_mod k n
      have g:=uO he hi hj [];rw[eO,hkk]at g;rw[g,<-h _ hi _ hj,uf hk,yN,sJ,hkk];simp
     .rw[kU (by simp;omega),kU aa]
    have hsize:a.off+xs.length*n<=c.size:=by
     have hi:xs.length-1<xs.length:=aa;have h1:=h (xs.length-1) hi (n-1) aa;rw[dD (by rw[he];omega)]at h1;have h2:=(Bh.1 h1).1;have h3:(xs.length-1)*n+n=xs.length*n:=by rw[<-qn];congr 1;omega
     omega
    refine⟨a.off,c.toList.take a.off,c.toList.drop (a.off+xs.length*n),T,fz,by rw[<-ha],?_,by simp;omega⟩;rw[hb,<-hmid];have :c.toList.take a.off++(c.toList.drop a.off).take (xs.length*n)++c.toList.drop (a.off+xs.length*n)=c.toList:=by rw[<-ud,c7,iI,iI]
    rw[this]
  .obtain⟨i,hi,rfl⟩:=qw.1 hx';exact(hxs i hi).2
def gB(jU:TypeId×Value->H)(P:Program)(w:World)(t:TypeId)(cs:List Value):Prop:=(∃fuel x,DataW.trod jU P w 0 (λ_=>true) true fuel t cs=some x)/\∀v∈cs,∀a l c,v=.slice (some a) l c->a.spot=none
def anD{a:Addr}{l c:Nat}(h:Cell.okWide P w r base t (.slice (some a) l c)):a.spot=none:=by
 unfold Cell.okWide at h;cases hu:P.underlying t with
 |none=>simp[hu,Cell.ok]at h
 |some u=>cases u<;>simp[hu,Cell.ok]at h;exact h.2.2.2.1
def isAgg(P:Program)(t:TypeId):Bool:=match P.underlying t with
 |some (.struct _)|some (.array _ _)=>true
 |_=>false
def YB(ha:isAgg P t=true)(hn:P.cellsOf t=n)(hv:Value.okWide P w r base t v)(hd:DataW.Trod jU P w 0 (λ_=>true) true t v d p):
  ∃cs:List Value,v=.agg cs.toArray/\cs.length=n/\gB jU P w t cs:=by
 have :∃cs,v=.agg cs/\cs.size=P.cellsOf t/\Row.okWide P w r base t cs:=by
  unfold Value.okWide at hv;unfold isAgg at ha;split at hv
  .exact hv
  .exact hv
  .rename_i h1 h2;split at ha
   .rename_i h3;exact absurd h3 (h1 _)
   .rename_i h3;exact absurd h3 (h2 _ _)
   .cases ha
 obtain⟨cs,rfl,hs,ts,_,_,hc⟩:=this;obtain⟨fuel,hf⟩:=hd;refine⟨cs.toList,aP,by simpa[hn]using hs,⟨fuel,_,hf⟩,λv hv a l c e=> ?_⟩;obtain⟨i,hi⟩:=ug hv;obtain⟨u,_,hu⟩:=hc i v (by simpa using hi);rw[e]at hu;exact anD hu
def YC(P:Program)(t:TypeId)(i:Nat):Option (TypeId×Nat):=match P.underlying t with
 |some (.struct fs)=>fs.toList[i]?.map λf=>(f.type,f.offset)
 |_=>none
def gB.field(O:gB jU P w t cs)(i:Nat){ft:TypeId}{off:Nat}{cs':List Value}(hf:YC P t i=some (ft,off))(hn:P.cellsOf ft=n)(hcs:(cs.drop off).take n=cs'):gB jU P w ft cs':=by
 obtain⟨⟨fuel,x,h⟩,hs⟩:=O;unfold YC at hf;split at hf
 .rename_i fs ht;obtain⟨xs,m,rfl,_,_,_,a⟩:=DataW.trod_struct ht h;simp only[Bq]at hf;obtain⟨f,hi,e⟩:=hf;injection e with e1 e2;subst e1 e2 hn hcs;refine⟨⟨m,?_⟩,λv hv=>hs v (BB (lK hv))⟩;have hh:=a i f (by simpa using hi);obtain⟨y,hy⟩:∃y,xs[i]? =some y:=by
   have :i<xs.length:=by have :=(fu.1 hi).1;simp_all
   exact⟨_,dD this⟩
  exact⟨y,by rw[hh,hy]⟩
 .cases hf
def gB.elem{m:Nat}(O:gB jU P w t cs)(i:Nat){cs':List Value}(ht:P.underlying t=some (.array m e))(hi:i<m)(hn:P.cellsOf e=n)(hcs:(cs.drop (i*n)).take n=cs'):gB jU P w e cs':=by obtain⟨⟨fuel,x,h⟩,hs⟩:=O;obtain⟨xs,k,rfl,_,_,hl,a⟩:=DataW.trod_array ht h;subst hn hcs;refine⟨⟨k,xs[i],?_⟩,λv hv=>hs v (BB (lK hv))⟩;rw[a i hi,dD aa]
def gB.int{k:IntKind}(O:gB jU P w t [v])(ht:P.underlying t=some (.int k)):∃a:Int,v=.int k a/\k.min<=a/\a<=k.max:=by obtain⟨⟨fuel,x,h⟩,_⟩:=O;obtain⟨a,e,r⟩:=Ga ht _ _ _ h;simp only[ua,wD]at e;exact⟨a,e,r⟩
def gB.view(he:∀a,(enc a).length=n)(O:gB jU P w t [v])(ht:P.underlying t=some (.slice e))(hn:P.cellsOf e=n)(hpos:0<n)
  (b:∀fuel cs x,DataW.trod jU P w 0 (λ_=>true) true fuel e cs=some x->∃a,cs=enc a/\ok a):∃bl xs,kE enc n w.heap v bl xs/\(∀a∈xs,ok a)/\xs.length<=maxLen:=by
 obtain⟨⟨fuel,x,h⟩,hs⟩:=O;exact anC he ht hn hpos b h (hs v aP)
def anE(he:P.underlying e=some .bool){sp:Nat->Bool}:∀fuel cs x,DataW.trod jU P w 0 sp true fuel e cs=some x->∃a:Bool,cs=[.bool a]/\True:=by
 intro fuel cs x h;cases fuel with
 |zero=>simp[DataW.trod]at h
 |succ m=>unfold DataW.trod at h;rw[he]at h;split at h<;>simp_all
def anF{l:List Value}(h:l.length=2):∃a b,l=[a,b]:=by match l,h with| [a,b],_=>exact⟨a,b,rfl⟩
def anG{l:List Value}(h:l.length=6):∃a b c d e f,l=[a,b,c,d,e,f]:=by match l,h with| [a,b,c,d,e,f],_=>exact⟨a,b,c,d,e,f,rfl⟩
def jL(k:IntKind)(x:Int):List Value:=[.int k x]
end
inductive vP where
 |pl (a:Ann)
 |Ef
 |two (x y:vP)
 |cut (slots:List Nat) (x:Ann) (y:vP)
def pq(P:Program)(n:Nat):Code->vP->bU->List Nat->af->(Exit->bU->List Nat->af->Prop)->Prop
 |c,.pl a,e,m,h,K=>compile P n false c a e m h K
 | .seq a b,.two x y,e,m,h,K=>pq P n a x e m h λex e' m' h'=>(match ex with
  | .normal=>pq P n b y e' m' h' K
  |ex=>K ex e' m' h')
 | .seq a b,.cut slots x y,e,m,h,K=>(match kC a with
  |true=>akV (λJ=>compile P n false a x e m h λex e' m' h'=>(match ex with
   | .normal=>rT e' slots λv=>J v h'
   |ex=>K ex e' m' h')) (λv h'=>pq P n b y (rS slots v (oH (slots++writes a) e)) m h' K)
  |false=>False)
 | .cond c a b,.two x y,e,m,h,K=>(match rQ e c with
  |true=>aA (ev e c) (pq P n a x e m h K) (pq P n b y e m h K)
  |false=>False)
 | .region i ops draw,.Ef,e,m,h,K=>(match uJ ops.toList,draw with
  |true,false=>sk P n ops (λc h'=>K (.panic c) (oH (writes (.region i ops false)) e) m h') ops.toList e h λe' h'=>K .normal e' m h'
  |_,_=>False)
 |_,_,_,_,_,_=>False
section
variable{P:Program}
def Y0{n:Nat}:∀(c:Code)(eH:vP)(e:bU)(m:List Nat)(h:af)(K:Exit->bU->List Nat->af->Prop),
  pq P n c eH e m h K->(P.follows .mixedOrders=true)->∀(ds:List Deferred)(a:Act)(w:World)(Q:Exit->Act->World->Prop),Rel e a.tmps->a.tmps.size=n->a.defers=marks m++ds->w.heap=h->
  (∀ex e' m' a' w',Rel e' a'.tmps->a'.tmps.size=n->a'.defers=marks m'++ds->dF w w'->K ex e' m' w'.heap->Q ex a' w')->c.wpIn (WF none) 0 P Q a w:=by
 intro c eH
 induction eH generalizing c with
 |pl g=>
  intro e m h K hc hf ds a w Q hr hn hd hw hq;have hc:compile P n false c g e m h K:=by cases c<;>exact hc
  exact jT c g none e m h K hc hf ds a w Q hr hn hd hw λex e' m' a' w' h1 h2 h3 h4 _ _ h5=>hq ex e' m' a' w' h1 h2 h3 h4 h5
 | Ef=>
  intro e m h K hc hf ds a w Q hr hn hd hw hq;cases c<;>try exact hc.elim
  rename_i id ops draw;subst hw;simp only[pq]at hc;split at hc
  .rename_i p;have q:∀{t t':Array Value},Fr ops t t'->wX (.region id ops false) t t':=λhfr s hs=>
    hfr.2 s λi hi=>by
     unfold jS at hi;cases ho:ops[i]? with
     |none=>rw[ho]at hi;cases hi
     |some o=>rw[ho]at hi;exact FQ _ hs o (mE (by simpa using ho)) hi
   refine wpIn_region ?_;have :=Ik (ro:=none) (Q:=Q) (n:=n) (FO p) ops.toList 0 (a:=a) (w:=w) aP hr hn rfl hc
    (λe' a' w' hr' hn' hd' hs' hf' hk'=>hq _ e' m a' w' hr' hn' (hd'.trans hd) hs' hk')
    (λc a' w' hn' hd' hs' hf' hk'=>hq _ _ m a' w' (uM hr (q hf')) hn' (hd'.trans hd) hs' hk')
   rwa[ox]at this
  .exact hc.elim
 | two j r k b=>
  intro e m h K hc hf ds a w Q hr hn hd hw hq;cases c<;>try exact hc.elim
  .rename_i x y;refine wpIn_seq (k x e m h _ hc hf ds a w _ hr hn hd hw ?_);intro ex e' m' a' w' hr' hn' hd' hs' hk;cases ex with
   |normal=>exact b y e' m' w'.heap K hk hf ds a' w' Q hr' hn' hd' rfl λd e2 m2 a2 w2 f hn2 hd2 hs2 hk2=>hq d e2 m2 a2 w2 f hn2 hd2 (hs'.trans hs2) hk2
   |exit id=>exact hq _ e' m' a' w' hr' hn' hd' hs' hk
   |goto l=>exact hq _ e' m' a' w' hr' hn' hd' hs' hk
   |ret=>exact hq _ e' m' a' w' hr' hn' hd' hs' hk
   |panic ch=>exact hq _ e' m' a' w' hr' hn' hd' hs' hk
   |outgrown=>exact hq _ e' m' a' w' hr' hn' hd' hs' hk
  .rename_i c x y;simp only[pq]at hc;split at hc
   .rename_i hk;have he:kA a.tmps c=ev e c:=hr.ev hk |>.symm;unfold aA at hc;split at hc
    .rename_i hv;exact wpIn_cond_true (by rw[qD,he];exact hv) (k x e m h K hc hf ds a w Q hr hn hd hw hq)
    .rename_i hv;exact wpIn_cond_false (by rw[qD,he];exact hv) (b y e m h K hc hf ds a w Q hr hn hd hw hq)
    .exact hc.elim
   .exact hc.elim
 | cut slots j r b=>
  intro e m h K hc hf ds a w Q hr hn hd hw hq;cases c<;>try exact hc.elim
  rename_i x y;simp only[pq]at hc;split at hc
  .rename_i hno;refine wpIn_seq (jT x j none e m h _ hc hf ds a w _ hr hn hd hw ?_);intro ex e' m' a' w' hr' hn' hd' hs' u hfr hk;have hm2:m'=m:=u hno;subst hm2;cases ex with
   | normal=>
    obtain⟨v,hB,z⟩:=wY hr' hk;exact b y _ m' w'.heap K hB hf ds a' w' Q (z _ (uM hr λs hs=>by rw[pW,pI]at hs;exact hfr s hs.2)) hn' hd' rfl λd e2 m2 a2 w2 f hn2 hd2 hs2 hk2=>hq d e2 m2 a2 w2 f hn2 hd2 (hs'.trans hs2) hk2
   |exit id=>exact hq _ e' m' a' w' hr' hn' hd' hs' hk
   |goto l=>exact hq _ e' m' a' w' hr' hn' hd' hs' hk
   |ret=>exact hq _ e' m' a' w' hr' hn' hd' hs' hk
   |panic ch=>exact hq _ e' m' a' w' hr' hn' hd' hs' hk
   |outgrown=>exact hq _ e' m' a' w' hr' hn' hd' hs' hk
  .exact hc.elim
def aor{f:FuncId}{fn:Func}{c:Code}{eH:vP}{args:List Value}{h:af}{K:KT}{a:lY}(hf:P.funcs[f]? =some fn)(hb:fn.body=some c)
  (e:jQ P f=true) (hm:P.follows .mixedOrders=true) (hlen:args.length<=fn.ntmps)
  (hc:pq P fn.ntmps c eH (aqP args 0) [] h (akO P fn.results.toList K a)):An P f args.toArray h K a:=by
 refine⟨e,λw hw=>callsIn_of_wp_marks hf hb trivial ?_⟩;obtain⟨g,hsz⟩:=WK hlen;refine Y0 c eH _ [] h _ hc hm [] _ w _ g hsz rfl hw ?_;intro ex e' m' a' w' hr' hn' hd' hs' hk;have fin:de m' w'.heap (λh'=>gu P e' h' fn.results.toList λl=>K (lQ l) h')->
   LeavesInM Fence.wide 0 P fn a'.tmps (Am w K a) a'.defers .returning w':=by
  intro hk;rw[hd',eO];exact xd hr' (λv w'' b d=>.inl ⟨v,rfl,b,d⟩) m' w' hs' hk
 cases ex with
 |normal=>exact fin hk
 |ret=>exact fin hk
 |exit id=>exact hk.elim
 |goto l=>exact hk.elim
 |outgrown=>exact hk.elim
 |panic c=>show LeavesInM Fence.wide 0 P fn a'.tmps (Am w K a) a'.defers (.panicking c) w';rw[hd',eO];exact WJ (λw'' b d=>.inr ⟨c,rfl,b,d⟩) m' w' hs' hk
def Y1(P:Program)(rs:List ResultVar)(f:FuncId)(args:Array Value)(K:KT):Exit->bU->List Nat->af->Prop
 | .panic c,e,m,h=>de m h λh'=>Dz P f args c h' λh''=>gu P e h'' rs λl=>K (lQ l) h''
 |ex,e,m,h=>FX P rs f args K ex e m h
def Y2(P:Program)(n:Nat)(B:Code)(iF:vP)(rs:List ResultVar)(s:Tmp)(f:FuncId)(caps:List Operand)(K:KT):Exit->bU->List Nat->af->Prop
 | .normal,e,[],h=>(match pU e caps,Nat.blt s n with
  |true,true=>pq P n B iF ((s,.func (.func f) #[] (caps.map (ev e)).toArray)::e) [] h (Y1 P rs f (caps.map (ev e)).toArray K)
  |_,_=>False)
 |_,_,_,_=>False
def aos{f g:FuncId}{fn:Func}{A B:Code}{lR:Ann}{iF:vP}{id:Nat}{o1 o2:Oper}{s:Tmp}{caps:Array Operand}{c:Call}{args:List Value}{h:af}{K:KT}
  (hf:P.funcs[f]? =some fn) (hb:fn.body=some (.seq A (.seq (.region id #[o1,o2] false) B))) (n:jQ P f=true) (hm:P.follows .mixedOrders=true) (hlen:args.length<=fn.ntmps)
  (h1:o1.op=.makeFunc (.func g) #[] caps) (o:o1.dst=some s) (hg1:o1.guard=none) (h2:o2.op=.defer c) (hc:c.callee=.value (.tmp s)) (hca:c.args= #[]) (hd2:o2.dst=none) (hg2:o2.guard=none)
  (hq:compile P fn.ntmps false A lR (aqP args 0) [] h (Y2 P fn.ntmps B iF fn.results.toList s g caps.toList K)):aF P f args.toArray h K:=by
 refine⟨n,λw hw=>callsIn_of_wp_marks hf hb trivial ?_⟩;obtain⟨p,hsz⟩:=WK hlen;refine wpIn_seq ?_;refine jT A lR none _ [] h _ hq hm [] _ w _ p hsz rfl hw ?_;intro ex e' m' a' w' hr' hn' hd' hs' _ _ hk;cases ex<;>try exact hk.elim
 cases m' with
 |cons D m=>exact hk.elim
 | nil=>
  obtain⟨hkn,d,hk⟩:pU e' caps.toList=true/\s<fn.ntmps/\pq P fn.ntmps B iF ((s,.func (.func g) #[] (caps.toList.map (ev e')).toArray)::e') [] w'.heap (Y1 P fn.results.toList g (caps.toList.map (ev e')).toArray K):=by
   simp only[Y2]at hk;split at hk
   .rename_i h1 h2;exact⟨h1,rE h2,hk⟩
   .exact hk.elim
  have q:a'.defers=[]:=hd';show(Code.seq (.region id #[o1,o2] false) B).wpIn Fence.wide 0 P _ a' w';refine wpIn_seq ?_;refine FW (ro:=none) rfl h1 o hg1 h2 hc hca hd2 hg2 (by rw[hn'];exact d) ?_;have r:caps.map (kA a'.tmps)=(caps.toList.map (ev e')).toArray:=by apply ko;rw[Bf];apply jx;intro x hx;exact(hr'.ev (zk hkn x hx)).symm
  rw[r,q];have t:Rel ((s,.func (.func g) #[] (caps.toList.map (ev e')).toArray)::e') (gr a'.tmps (some s) (.func (.func g) #[] (caps.toList.map (ev e')).toArray)):=hr'.put (dst:=some s) (by rw[hn'];simpa[qF]using d)
  refine Y0 B iF _ [] w'.heap _ hk hm [{target:=.fn (.func g) (caps.toList.map (ev e')).toArray,args:= #[]}] _ w' _ t (by rw[sY];exact hn') rfl rfl ?_;intro u e2 m2 a2 w2 i y j k hk2;have fin:de m2 w2.heap (λh'=>js P g (caps.toList.map (ev e')).toArray h' λh''=>gu P e2 h'' fn.results.toList λl=>K (lQ l) h'')->
    LeavesInM Fence.wide 0 P fn a2.tmps (λe w'=>∃v,e=.returned v/\dF w w'/\K v w'.heap) a2.defers .returning w2:=by
   intro hk;rw[j];refine B6 (dargs:= #[]) (w0:=w2) i (λv w'' a b=>⟨v,rfl,(hs'.trans k).trans a,b⟩) m2 w2 (.refl _) ?_;simpa using hk
  cases u with
  |normal=>exact fin hk2
  |ret=>exact fin hk2
  |exit id=>exact hk2.elim
  |goto l=>exact hk2.elim
  |outgrown=>exact hk2.elim
  |panic c=>show LeavesInM Fence.wide 0 P fn a2.tmps (λe w'=>∃v,e=.returned v/\dF w w'/\K v w'.heap) a2.defers (.panicking c) w2;rw[j];exact WM (w0:=w2) i (λv w'' a b=>⟨v,rfl,(hs'.trans k).trans a,b⟩) m2 w2 (.refl _) hk2
end
def ct:Nat->Nat->List UInt8
 |0,_=>[]
 |k+1,n=>UInt8.ofNat (n%256)::ct k (n/256)
def jM:List UInt8->Nat
 | []=>0
 |b::l=>b.toNat+256*jM l
def eT:∀{k n:Nat},(ct k n).length=k
 |0,_=>rfl
 |k+1,n=>by rw[ct,fO,eT]
def qZ:∀{k n:Nat},jM (ct k n)=n%256^k
 |0,n=>by rw[Nat.pow_zero,Nat.mod_one];rfl
 |k+1,n=>by rw[ct,jM,qZ,zb,um (256^k) 256,Nat.mod_mul];have :(UInt8.ofNat (n%256)).toNat=n%256:=aP;rw[this]
def A8:∀{l:List UInt8},jM l<256^l.length
 | []=>az
 |b::l=>by have h1:=b.toNat_lt;have h2:=@A8 l;rw[jM,fO,zb];omega
def Ze:∀{l:List UInt8}{b:UInt8},jM (l++ [b])=jM l+256^l.length*b.toNat
 | [],b=>by simp[jM]
 |a::l,b=>by rw[qq,jM,Ze,jM,fO,zb,uv,<-Fa,um 256 (256^l.length),sJ]
def Zf:∀{k n:Nat},ct (k+1) n=ct k n++ [UInt8.ofNat (n/256^k%256)]
 |0,n=>by simp[ct]
 |k+1,n=>by rw[ct,Zf,ct,qq,Kg,zb,um (256^k) 256]
def fm(k:Nat)(z:Int):List UInt8:=ct k (z%18446744073709551616).toNat
def kf{k:Nat}{z:Int}:(fm k z).length=k:=eT
def ou{k n:Nat}(h:n<18446744073709551616):fm k (n:Int)=ct k n:=by unfold fm;have :((n:Int)%18446744073709551616).toNat=n:=aa;rw[this]
def wrap_u64{z:Int}:IntKind.u64.wrap z=z%18446744073709551616:=by simp[IntKind.wrap,IntKind.signed,IntKind.bits]
def wrap_u32{z:Int}:IntKind.u32.wrap z=z%4294967296:=by simp[IntKind.wrap,IntKind.signed,IntKind.bits]
def wrap_u8{z:Int}:IntKind.u8.wrap z=z%256:=by simp[IntKind.wrap,IntKind.signed,IntKind.bits]
def At(l:List UInt8)(a:Nat)(r:List UInt8):Prop:=a+r.length=l.length/\l.drop a=r
def At.start{l:List UInt8}:At l 0 l:=⟨bE _,rfl⟩
def At.next{l xs r:List UInt8}{a:Nat}(h:At l a (xs++r)):At l (a+xs.length) r:=by obtain⟨h1,h2⟩:=h;rw[cG]at h1;refine⟨aa,?_⟩;rw[<-ud,h2,List.drop_left]
def At.part{l xs r:List UInt8}{a:Nat}(h:At l a (xs++r)):(l.take (a+xs.length)).drop a=xs:=by rw[List.drop_take,h.2,show a+xs.length-a=xs.length by omega,List.take_left]
def pz{l:List UInt8}:(qd l).size=l.length:=rfl
def Zg{l:List UInt8}{a b:Nat}:(qd l).extract a b=qd ((l.take b).drop a):=by
 have :((qd l).extract a b).data=(qd ((l.take b).drop a)).data:=by rw[EN];show l.toArray.extract a b=_;rw[List.extract_toArray];show(List.take (b-a) (List.drop a l)).toArray=_;rw[List.drop_take];rfl
 cases h:(qd l).extract a b;cases h':qd ((l.take b).drop a);rw[h,h']at this;exact eG ByteArray.mk this
def aoQ{a b:List UInt8}:qd a++qd b=qd (a++b):=by
 have :(qd a++qd b).data=(qd (a++b)).data:=by rw[ByteArray.data_append];show a.toArray++b.toArray=(a++b).toArray;simp
 cases h:qd a++qd b;cases h':qd (a++b);rw[h,h']at this;exact eG ByteArray.mk this
def aoR{l:List UInt8}{b:UInt8}(hl:l.length<8):
  IntKind.u64.wrap (BitVec.ofInt IntKind.u64.bits ((jM l:Nat):Int)|||BitVec.ofInt IntKind.u64.bits (IntKind.u64.wrap (((b.toNat:Nat):Int)*2^(min ((8*l.length:Nat):Int).toNat IntKind.u64.bits)))).toNat=((jM (l++ [b]):Nat):Int):=by
 have h1:=@A8 l;have h2:=b.toNat_lt;have h3:=@A8 (l++ [b]);have hp:256^(l++ [b]).length<=256^8:=Nat.pow_le_pow_right az (by simp;omega);have a:(256:Nat)^l.length=2^(8*l.length):=by rw[Nat.pow_mul]
 have hmin:min ((8*l.length:Nat):Int).toNat IntKind.u64.bits=8*l.length:=by rw[fL];exact iY (by show 8*l.length<=64;omega)
 have c:((b.toNat:Nat):Int)*2^(8*l.length)=((2^(8*l.length)*b.toNat:Nat):Int):=by rw[uq,Int.mul_comm,Int.natCast_pow];rfl
 have hs:=@Ze l b;rw[a]at hs h1;have hlt:2^(8*l.length)*b.toNat<18446744073709551616:=by have :(256:Nat)^8=18446744073709551616:=az;omega
 have hk:(256:Nat)^8=18446744073709551616:=az;have d:IntKind.u64.wrap ((2^(8*l.length)*b.toNat:Nat):Int)=((2^(8*l.length)*b.toNat:Nat):Int):=by rw[wrap_u64,mC aa aa]
 rw[hmin,c,d];have c1:(BitVec.ofInt IntKind.u64.bits ((jM l:Nat):Int)).toNat=jM l:=by rw[BitVec.ofInt_natCast,BitVec.toNat_ofNat];exact pH (by show _<2^64;omega)
 have c2:(BitVec.ofInt IntKind.u64.bits ((2^(8*l.length)*b.toNat:Nat):Int)).toNat=2^(8*l.length)*b.toNat:=by rw[BitVec.ofInt_natCast,BitVec.toNat_ofNat];exact pH (by show _<2^64;omega)
 rw[BitVec.toNat_or,c1,c2,Nat.or_comm,<-Nat.two_pow_add_eq_or_of_lt h1,wrap_u64,hs];rw[mC aa aa];omega
def tW(z:Int):Int:=IntKind.u32.wrap (BitVec.ofInt IntKind.u32.bits (if IntKind.u32.signed then -1 else IntKind.u32.max)^^^BitVec.ofInt IntKind.u32.bits z).toNat
def Ek(a b:Int):Int:=IntKind.u32.wrap (BitVec.ofInt IntKind.u32.bits a^^^BitVec.ofInt IntKind.u32.bits b).toNat
def ri(a b:Int):Int:=IntKind.u32.wrap (BitVec.ofInt IntKind.u32.bits a&&& BitVec.ofInt IntKind.u32.bits b).toNat
def Zh(n:Nat)(a:Int):Int:=a.fdiv (2^(min (n:Int).toNat IntKind.u32.bits))
def aoS(r:Int):Int:=Ek (Zh 1 r) (ri 3988292384 (IntKind.u32.wrap (0-ri r 1)))
def tX:Nat->Int->Int
 |0,r=>r
 |n+1,r=>aoS (tX n r)
def A9:List Int:=(List.range 16).map λ(i:Nat)=>tX 4 (IntKind.u32.wrap i)
def El(r:Int):Int:=Ek (Zh 4 r) (A9.getD (ri r 15).toNat 0)
def JD(r:Int)(b:UInt8):Int:=El (El (Ek r (IntKind.u32.wrap b.toNat)))
def rj(l:List UInt8):Int:=tW (l.foldl JD (tW 0))
def aoT{r:Int}:0<=ri r 15/\ri r 15<16:=by unfold ri;rw[wrap_u32,BitVec.toNat_and];have h:=@Nat.and_le_right (BitVec.ofInt IntKind.u32.bits r).toNat (BitVec.ofInt IntKind.u32.bits 15).toNat;have e:(BitVec.ofInt IntKind.u32.bits 15).toNat=15:=az;rw[e]at h |-;omega
def aoU{z:Int}:0<=tW z/\tW z<4294967296:=by unfold tW;rw[wrap_u32];omega
def Zi{l:List UInt8}:0<=rj l/\rj l<4294967296:=aoU
section
variable{h0 h:af}{L:List aS}{K:Value->Prop}{KH:KT}{v:Value}{bs l:List UInt8}{b:Nat}{T:TypeId}
def Own.aoV{bytes:Nat}{zero:List Value}(o:Own h0 h L)(i:Nat)(hi:L[i]? =some (aC eA 1 T v bs))(hz:zero.length=1)(hby:0<bytes)(hb:(bs.length+l.length)*bytes<=2^47)
  (hK:∀v' h',Own h0 h' (L.set i (aC eA 1 T v' (bs++l)))->KH v' h'):wK T 1 bytes zero v (.string (qd l)) h KH:=by
 have e:((qd l).data.map λb=>Value.int .u8 b.toNat).toList=row eA l:=by rw[tn];show(l.toArray.map _).toList=_;simp
 show qz T 1 bytes zero v (qd l).size _ h KH;rw[e];exact o.LB i hi (λ_=>rfl) zM hz hby hb hK
def Own.aoW{m:Nat}{cs:List Value}(o:Own h0 h L)(i:Nat)(hi:L[i]? =some (ak b cs T))(hc:cs=row eA l)(h8:l.length=8)(hm:m<=8)(hK:∀w,Vw eA 1 h w (l.take m)->K w):pP 1 8 (ptr b) none (some (I m)) none K:=by
 refine⟨aP,aa,aa,aa,aa,hK _ ?_⟩;have hb:h[b]? =some (.cells cs.toArray T (0,0)):=o.get i hi;have hl:(l.take m).length=m:=by rw[dO];omega
 subst hc;refine⟨b,some ⟨b,0,none⟩,8,?_,aa,.inr ⟨0,[],row eA (l.drop m),T,(0,0),rfl,?_,rfl⟩⟩
 .rw[hl];rfl
 .rw[hb,sN,<-qI,iI]
end
section
variable{H:Type}{jU:TypeId×Value->H}{P:Program}{w:World}{n:Nat}{e t:TypeId}{v:Value}{r:Reach}{base:Nat}{d:DataW H}{p:List MemPlace}
def gB.bool(O:gB jU P w t [v])(ht:P.underlying t=some .bool):∃a:Bool,v=.bool a:=by obtain⟨⟨fuel,x,h⟩,_⟩:=O;obtain⟨a,e,r⟩:=anE ht _ _ _ h;simp only[ua,wD]at e;exact⟨a,e⟩
end
end Go.Mh
