/- Lemmas on the way to the law of this seat, joined. They have no conditions of their own. -/
import Derived.Test.YtacopgnplajifaaGreatDoorTc
import Derived.Test.YtacopgnplajifaaGreatDoorMd
import Derived.Test.YtacopgnplajifaaGreatDoorMb
import Derived.Test.YtacopgnplajifaaGreatDoorTa
import Derived.Test.YtacopgnplajifaaGreatDoorTb
import Derived.Tactics
import Derived.Tactics2
import Derived.Test.YtacopgnplajifaaGreatDoorMc
set_option linter.unusedVariables false
set_option linter.unusedSimpArgs false
set_option linter.unusedSectionVars false
set_option linter.defProp false
set_option maxRecDepth 100000

namespace Go.Proofs.YtacopgnplajifaaGreatDoor
open Go Go.Mh Tryz
def qj(g:G)(f t:Int)(la a:Nat):Prop:=((0<=f/\f<g.n)/\(0<=t/\t<g.n))/\(la=0\/la=g.aj.length)/\(a=0\/a=g.n)
instance {g:G} {f t:Int} {la a:Nat}:Decidable (qj g f t la a):=by unfold qj;infer_instance
section
variable{h0 h:af}{L M:List aS}{K:KT}{g:G}{r:Nat}{va vp:Value}{allow:List Bool}{pi:List Int}{f t:Int}
def YN{n2:Nat}{z:Int}(H:bX h r g)(hc:hcell h ⟨n2,0,none⟩=some (ptr r))(hK:K (.bool (decide (0<=z/\z<g.n))) h):aX prog (.func (.func 306) #[] #[ptr n2]) [I z].toArray h K:=by
 refine cg (l:=[I z,ptr n2]) rfl (ahP ?_);unfold TF;rw[dA,bA];refine⟨λh1=>bJ rfl hc (dV H ?_),λh1=> ?_⟩
 .rw[bC];rw[show decide (0<=z/\z<g.n)=decide (z<g.n) by simp[h1]]at hK;exact hK
 .rw[show decide (0<=z/\z<g.n)=false from bR λh=>h1 h.1]at hK;exact hK
def YO{a c:Nat}(hK:K (.bool (decide (a=0\/a=c))) h):aX prog (.func (.func 307) #[] #[]) [I a,I c].toArray h K:=by
 refine cg (l:=[I a,I c]) rfl (ahQ ?_);unfold TG;rw[cF,kD];refine⟨λh1=> ?_,λh1=> ?_⟩
 .rw[show decide (a=0\/a=c)=true from bT (.inl aa)]at hK;exact hK
 .rw[cF];rw[show decide (a=0\/a=c)=((a:Int)==(c:Int)) by
   rw[uh,gT,qp];omega]at hK
  exact hK
def an4(H:bX h r g)(Ha:Vw D7 1 h va allow)(c:Vw aJ 1 h vp pi)(hK:∀h',Ext h h'->K (.bool (decide (qj g f t allow.length pi.length))) h'):ah prog 200 [ptr r,.agg #[I f,I t,va,vp]] h K:=by
 refine aK (af6 ?_);unfold Rq;refine(Own.start h).box λn2 h1 o1=>o1.box λa3 h2 o2=> ?_;have o:Own h h2 [ak a3 [I f,I t,va,vp] 307,ak n2 [ptr r] 47]:=o2;refine gW (λy h''=>y.1=.bool (decide (qj g f t allow.length pi.length))/\h''=h2) (λJ hJ=> ?_) ?_
 .have fin:∀b:Bool,(b=true↔qj g f t allow.length pi.length)->J (.bool b,()) h2:=λb hb=>hJ _ _ ⟨by
   show Value.bool b=_;congr 1;rw[uh,gT];exact hb,rfl⟩
  have no:¬qj g f t allow.length pi.length->J (.bool false,()) h2:=λhn=>fin false ⟨λh=>(by cases h),λh=>absurd h hn⟩;have a:hcell h2 ⟨n2,0,none⟩=some (ptr r):=bz (o.get 1 rfl) rfl;simp only[aU];refine o.load 0 rfl rfl (YN (H.more o.ext) a ?_);rw[bA];refine⟨λh1=> ?_,λh1=>no λh=>h1 h.1.1⟩;refine o.load 0 rfl rfl (YN (H.more o.ext) a ?_);rw[bA];refine⟨λh2=> ?_,λh2=>no λh=>h2 h.1.2⟩;refine o.load 0 rfl rfl ((Ha.more o.ext).len (o.load 1 rfl rfl (tE (H.more o.ext) ⟨o.load 0 rfl rfl rfl,YO ?_⟩)));rw[bA];refine⟨λh3=> ?_,λh3=>no λh=>h3 h.2.1⟩;refine o.load 0 rfl rfl ((c.more o.ext).len (o.load 1 rfl rfl (dV (H.more o.ext) ⟨o.load 0 rfl rfl rfl,YO ?_⟩)));refine fin _ ?_;rw[gT];exact⟨λh=>⟨⟨h1,h2⟩,h3,h⟩,λh=>h.2.2⟩
 .rintro⟨y,⟨⟩⟩ h3 ⟨hy,rfl⟩;dsimp only at hy |-;subst hy;unfold Rp;exact hK _ o.ext
def qk(r:Nat)(x:Bool):Value:=if x then .func (.func 125) #[ptr r] #[]else .func (.func 27) #[ptr r] #[]
def ot(x:Bool):Value:=if x then .func (.func 203) #[] #[]else .func (.func 202) #[] #[]
def an5:kI (ot false) (dz false):=by intro a h K hK;refine cg (l:=[.agg (fI a).toArray]) rfl (af7 ?_);unfold Rt;refine(Own.start h).box λb h1 o1=> ?_;simp only[aU];exact o1.load 0 rfl rfl (hK _ o1.ext)
def an6:kI (ot true) (dz true):=by intro a h K hK;refine cg (l:=[.agg (fI a).toArray]) rfl (af8 ?_);unfold Ru;refine(Own.start h).box λb h1 o1=> ?_;simp only[aU];exact o1.load 0 rfl rfl (hK _ o1.ext)
def YP(hR:g.Right)(x:Bool):vu (qk r x) g r (iH g x):=by
 cases x
 .exact We hR
 .exact Wf hR
def Ea(x:Bool):kI (ot x) (dz x):=by
 cases x
 .exact an5
 .exact an6
def Jv(Q:Qs)(aj:List Nat):Prop:=(Q.fin.aM=aN/\aj=[])\/(Q.fin.aM≠aN/\Trail Q.g.aj Q.s aj Q.t/\dm Q.g.aj aj=Q.fin.aM/\aj.length<=2*Q.g.n/\∀i∈aj,i<Q.g.aj.length/\Q.ok i=true)
def an7(hR:g.Right)(H:bX h r g)(Ha:Vw D7 1 h va allow)(c:Vw aJ 1 h vp pi)
  (aB:¬qj g f t allow.length pi.length->∀h',Ext h h'->K (.tuple #[.agg #[I 0,aT,aT],I 2]) h') (hsame:qj g f t allow.length pi.length->f=t->∀h',Ext h h'->K (.tuple #[.agg #[I 0,aT,aT],I 0]) h')
  (hfound:∀s t',f=((s:Nat):Int)->t=((t':Nat):Int)->(Qs.mk g s t' allow pi).Ok->s≠t'->∀wa E aj h',Jv ⟨g,s,t',allow,pi⟩ aj->Own h h' [aC aJ 1 3 wa (nI aj),aC eE 4 100 E (Qs.mk g s t' allow pi).fin.ev]->
   K (.tuple #[.agg #[I (Qs.mk g s t' allow pi).fin.aM,wa,E],I 0]) h'):ah prog 108 [ptr r,.agg #[I f,I t,va,vp]] h K:=by
 refine aK (aew ?_);unfold OV;refine(Own.start h).box λa3 h1 o1=>o1.box λt4 h2 o2=> ?_;have o:Own h h2 [ak t4 [I 0,aT,aT] 303,ak a3 [I f,I t,va,vp] 307]:=o2;clear o1 o2;simp only[dM,dW,aO];refine o.bZ (cs':=[I f,I t,va,vp]) 1 rfl rfl rfl (an4 (H.more o.ext) (Ha.more o.ext) (c.more o.ext) λh3 aD=> ?_);replace o:=o.more aD;have J:∀u∈ [I 0,aT,aT],Mh.plainCell u=true:=by intro u hu;simp at hu;rcases hu with rfl|rfl|rfl<;>rfl
 rw[bP];by_cases hr:¬qj g f t allow.length pi.length
 .rw[bR hr,dL,bF];refine cE (cs':=[I 0,aT,aT]) (λp hp=>by simp at hp) rfl rfl ?_;exact o.st (cs':=[I 0,aT,aT]) 0 rfl rfl rfl rfl rfl J λh4 a=>a.bZ (cs':=[I 0,aT,aT]) 0 rfl rfl rfl (aB hr _ a.ext)
 replace hr:=lM.1 hr;rw[bT hr,cz,aO];simp only[aU];refine o.load 1 rfl rfl (o.load 1 rfl rfl ?_);rw[cF,kD];refine⟨λhe=> ?_,λhne=> ?_⟩
 .refine cE (cs':=[I 0,aT,aT]) (λp hp=>by simp at hp) rfl rfl ?_;exact o.st (cs':=[I 0,aT,aT]) 0 rfl rfl rfl rfl rfl J λh4 a=>a.bZ (cs':=[I 0,aT,aT]) 0 rfl rfl rfl (hsame hr he _ a.ext)
 obtain⟨s,hs⟩:=iX hr.1.1.1;obtain⟨t',ht⟩:=iX hr.1.2.1;subst hs ht;have aX:=hr.1.1.2;have aY:=hr.1.2.2;have hQ:(Qs.mk g s t' allow pi).Ok:=⟨hR,by show s<g.n;omega,by show t'<g.n;omega,hr.2.1.imp y7.1 id,hr.2.2.imp y7.1 id⟩;have hst:s≠t':=λe=>hne (by rw[e]);have hfound:=hfound s t' rfl rfl hQ hst;obtain⟨Q,l⟩:∃Q:Qs,Q=Qs.mk g s t' allow pi:=⟨_,rfl⟩;have eg:Q.g=g:=by rw[l]
 have es:Q.s=s:=by rw[l]
 have et:Q.t=t':=by rw[l]
 have ea:Q.allow=allow:=by rw[l]
 have aE:Q.pi=pi:=by rw[l]
 rw[<-l]at hQ hfound;rw[<-eg]at H;rw[<-ea]at Ha;rw[<-aE]at c;rw[<-es,<-et]at o hst;have aZ:=Ha.one;have bf:=c.one;have hval:=Ha.plain;have bg:=c.plain;refine o.bZ (cs':=[I Q.s,I Q.t,va,vp]) 1 rfl rfl rfl ?_;refine cE (cs':=[I aN,aT,aT]) (λp hp=>by simp at hp;rcases hp with rfl;rfl) rfl rfl ?_;refine⟨bW rfl,?_⟩;refine o.box λrs h4 a=> ?_;have a:Own h h4 (ak rs [ptr r,I Q.s,I Q.t,va,vp,.pointer none,.pointer none,I aN,aT,aT,I 0] 318:: [ak t4 [I 0,aT,aT] 303,ak a3 [I Q.s,I Q.t,va,vp] 307]):=a;refine a.load 2 rfl rfl ?_;refine an1 (Q:=Q) (fo:=qk r) (fh:=ot) H rfl rfl rfl rfl a λb0 N O P U V h5 A=> ?_;refine A.load 7 rfl rfl ?_;refine an3 (Q:=Q) (fo:=qk r) (fh:=ot) H rfl rfl rfl rfl (A.bh [5,0,1,2,3,4,6,7] az) λb1 hp1 X Y ag ai h6 an=> ?_;have i:=an.ef (enc:=eE) (n:=4) (T:=100);obtain⟨b,hb0,aF⟩:∃b:Bool->Nat,b false=b0/\b true=b1:=⟨λx=>if x then b1 else b0,rfl,rfl⟩;obtain⟨hp,aG,aH⟩:∃b:Bool->Nat,b false=N/\b true=hp1:=⟨λx=>if x then hp1 else N,rfl,rfl⟩;obtain⟨lm,hl0,aI⟩:∃b:Bool->Nat,b false=O/\b true=X:=⟨λx=>if x then X else O,rfl,rfl⟩;obtain⟨am,ha0,ha1⟩:∃b:Bool->Nat,b false=P/\b true=Y:=⟨λx=>if x then Y else P,rfl,rfl⟩;obtain⟨cm,hc0,hc1⟩:∃b:Bool->Nat,b false=U/\b true=ag:=⟨λx=>if x then ag else U,rfl,rfl⟩;obtain⟨aL,aP,aQ⟩:∃b:Bool->Nat->Prop,b false=V/\b true=ai:=⟨λx=>if x then ai else V,rfl,rfl⟩;subst hb0 aF aG aH hl0 aI ha0 ha1 hc0 hc1 aP aQ;have bk:lz []=λ_=>none:=rfl;have bl:zj (λ_=>none)=λ_=>none:=rfl;have o:Own h h6 (eF Q rs r va vp b hp lm am cm (qk r) ot aL BW.zero aT [ak t4 [I 0,aT,aT] 303,ak a3 [I Q.s,I Q.t,va,vp] 307]):=i.bh [6,7,8,9,10,11,1,2,3,4,5,0,12,13] az
 clear a A an i;have hz:∀x:Bool,(λ_:Bool=>(0:Int)) x<=aN:=λ_=>by show(0:Int)<=aN;decide
 obtain⟨aq,_,z3,_,_⟩:=BI.first (Q:=Q) (S:=BW.zero) BI.zero hQ (x:=false) rfl;simp only[bD,aU];rw[ij];refine⟨az,o.load 0 rfl rfl (o.load 13 rfl rfl ?_)⟩;refine YK (x:=false) hQ BI.zero hz o c hQ.s ⟨dQ _,az⟩ λbn h7 i=> ?_;rw[ij];refine⟨az,i.load 0 rfl rfl (i.load 13 rfl rfl ?_)⟩;refine YK (x:=true) hQ aq hz i c hQ.t ⟨dQ _,az⟩ λau h8 m=> ?_;have m:Own h h8 (eF Q rs r va vp b hp lm am cm (qk r) ot au Q.start aT [ak t4 [I 0,aT,aT] 303,ak a3 [I Q.s,I Q.t,va,vp] 307]):=m;have R0:=WO.start hQ;have bp:=hQ.r.most;have av:∀{S:BW}{st:List dJ},WO Q S st->∀x,((S.sd x).ord.length:Int)*W<=aN:=λ{S st} R x=>by have h1:=(R.bi.si x).sn;have h2:((S.sd x).ord.length:Int)*W<=16777216*W:=nL aa az;have h3:(16777216:Int)*W<aN:=az;omega
 refine YL R0.bi (av R0) m ?_;have ax:=m;refine tj (k0:=2*Q.g.n+1) (λk y h'=>∃(S:BW)(st:List dJ)(F:Bool->Nat->Prop)(ve:Value),y.1=oZ b S/\WO Q S st/\Q.run k S=Q.fin/\2*Q.g.n<k+(S.sd false).ord.length+(S.sd true).ord.length/\
   Own h h' (eF Q rs r va vp b hp lm am cm (qk r) ot F S ve [ak t4 [I 0,aT,aT] 303,ak a3 [I Q.s,I Q.t,va,vp] 307])) ⟨Q.start,[],au,aT,rfl,R0,rfl,aa,ax⟩ ?_
 clear ax m i o aq z3;rintro k ⟨y,⟨⟩⟩ h9 Z ⟨S,st,F,ve,hy,R,hrun,hk,o⟩ hZ;dsimp only at hy hZ |-;subst hy;unfold OU;cases hn:S.next with
 | some x=>
  have hv:oZ b S=ptr (b x):=by unfold oZ;rw[hn]
  rw[hv,Cb,kz,bF];obtain⟨v,kk,d,_,_,_,_,R',e1,e2⟩:=R.step hQ hn;cases k with
  |zero=>have h0:=(R.bi.si false).sn;have h1:=(R.bi.si true).sn;omega
  | succ k=>
   have aR:Q.run k (Q.step x S)=Q.fin:=by rw[<-hrun];show _=(match S.next with|none=>S|some x=>Q.run k (Q.step x S));rw[hn]
   have ay:∀F' B h',Own h h' (eF Q rs r va vp b hp lm am cm (qk r) ot F' (Q.step x S) B [ak t4 [I 0,aT,aT] 303,ak a3 [I Q.s,I Q.t,va,vp] 307])->
     ah prog 205 [ptr rs] h' (λt65 h_15=>Z (t65,()) h_15):=λF' B h' o'=>by
    refine YL R'.bi (av R') o' ?_;refine hZ (_,()) h' k aa ⟨_,_,F',B,rfl,R',aR,?_,o'⟩;cases x
    .rw[e1,show(true:Bool)= !false from rfl,e2,cG,mQ];show _<_+_+(S.sd true).ord.length;omega
    .rw[e1,show(false:Bool)= !true from rfl,e2,cG,mQ];show _<k+(S.sd false).ord.length+_;omega
   cases x
   .exact anY hQ R hn H (YP hQ.r false) (Ea false) o c Ha (R.IX hQ) ay
   .exact anZ hQ R hn H (YP hQ.r true) (Ea true) o c Ha (R.IX hQ) ay
 | none=>
  have hv:oZ b S=.pointer none:=by unfold oZ;rw[hn]
  have hS:S=Q.fin:=by
   rw[<-hrun];cases k with
   |zero=>rfl
   |succ k=>show S=(match S.next with|none=>S|some x=>Q.run k (Q.step x S));rw[hn]
  rw[hv,Cb,mw,aO];simp only[bD,aU];have k2:∀(wa:Value)(aj:List Nat)(hh:af),Jv Q aj->Own h hh (ak rs [ptr r,I Q.s,I Q.t,va,vp,ptr (b false),ptr (b true),I S.aM,wa,ve,I S.meet] 318::aC aJ 1 3 wa (nI aj)::(eF Q rs r va vp b hp lm am cm (qk r) ot F S ve [ak t4 [I 0,aT,aT] 303,ak a3 [I Q.s,I Q.t,va,vp] 307]).tail)->
    CM prog (ptr rs) (ptr t4) K hh:=λwa aj hh hf q=>by
   unfold CM;simp only[bD,aU];have p1:=(q.vw 1 rfl).plain;have p2:=(q.vw 12 rfl).plain;refine q.bZ (cs':=[I S.aM,wa,ve]) 0 rfl rfl rfl (q.st (cs':=[I S.aM,wa,ve]) 13 rfl rfl rfl rfl rfl (by intro u hu;simp at hu;rcases hu with rfl|rfl|rfl<;>first |rfl|assumption) λh10 j=>j.bZ (cs':=[I S.aM,wa,ve]) 13 rfl rfl rfl ?_);rw[hS]at j |-;exact hfound wa ve aj h10 hf (j.bh [1,12] az)
  refine o.load 0 rfl rfl ?_;rw[bC,bA];have bq:=R.bi.c3;have br:aN=72057594037927936:=rfl;refine⟨λhlt=> ?_,λhge=> ?_⟩
  .have hnf:S.aM≠aN:=λe=>by rw[e]at hlt;omega
   obtain⟨u,w,r1,d0,d1,m1,m2,m3,m4,m5,m6,m7,m8,m9,m10⟩:=R.found hnf;rw[ij];refine⟨az,o.load 0 rfl rfl ?_⟩;refine an0 (fo:=qk r) (fh:=ot) (S:=S) hQ H (Ea false) m1 m6 o m4 λw0 h10 j=> ?_;have pw:=(j.vw 0 rfl).plain;refine j.bu 1 rfl rfl rfl (j.vw 0 rfl).one pw λh11 aA=>aA.load 1 rfl rfl ?_;refine YM aA 0 rfl (by rw[dr];omega) λh12 z=> ?_;rw[L4]at z;refine z.load 1 rfl rfl ?_;rw[ij];refine⟨az,z.load 1 rfl rfl ?_⟩;have aS:Own h h12 (ak rs [ptr r,I Q.s,I Q.t,va,vp,ptr (b false),ptr (b true),I S.aM,w0,ve,I S.meet] 318::(eF Q rs r va vp b hp lm am cm (qk r) ot F S ve [ak t4 [I 0,aT,aT] 303,ak a3 [I Q.s,I Q.t,va,vp] 307,aC aJ 1 3 w0 (nI w.reverse)]).tail):=z.bh [1,2,3,4,5,6,7,8,9,10,11,12,13,14,0] az
   refine an2 (fo:=qk r) (fh:=ot) (S:=S) hQ H (Ea true) m1 m7 aS m5 λw1 bt C=> ?_;refine⟨C.load 1 rfl rfl rfl,?_⟩;refine C.app 15 rfl pZ jb rfl (C.vw 0 rfl) az (by rw[dr,dr,wA];omega) λw2 bw D=> ?_;have p2:=(D.vw 15 rfl).plain;refine D.bu 1 rfl rfl rfl (D.vw 15 rfl).one p2 λaV aW=> ?_;refine k2 w2 (w.reverse++r1) aV (.inr ⟨by rw[<-hS];exact hnf,m8,by rw[m9,hS],by rw[cG,wA];omega,m10⟩) ?_;rw[show nI (w.reverse++r1)=nI w.reverse++nI r1 by simp[nI]];exact aW.bh [1,15,2,3,4,5,6,7,8,9,10,11,12,13,14] az
  .refine k2 aT [] h9 (.inl ⟨by rw[<-hS];omega,rfl⟩) ?_;exact(o.ef (enc:=aJ) (n:=1) (T:=3)).swap
end
abbrev jk(fr to:Nat)(av pv:Value):List Value:=[I fr,I to,av,pv]
abbrev ym(r hp a3:Nat)(lv bv cv ev:Value):List Value:=[ptr r,ptr hp,lv,bv,cv,.func (.func 301) #[] #[ptr a3],.func (.func 302) #[] #[ptr a3],ev]
abbrev mo(a3 s0 hp r n fr to:Nat)(av pv lv bv cv ev:Value)(F:Nat->Prop)(st:SS)(T:List aS):List aS:=ak a3 (jk fr to av pv) 307::ak s0 (ym r hp a3 lv bv cv ev) 425::gR F hp st.hp n::aC aJ 1 2 lv st.lab::aC aJ 1 3 bv st.dY::aC eZ 1 4 cv (me n st.ord)::aC eE 4 100 ev st.dg::T
section
variable{h0 h:af}{L:List aS}{K:KT}{g:G}{r a3 s0 hp fr to:Nat}{av pv lv bv cv ev:Value}{al:List Bool}{pl:List Int}{F:Nat->Prop}{st:SS}{T:List aS}{B:Int}
def an8{v:Nat}{T1:TypeId}(ha:h[a3]? =some (.cells (jk fr to av pv).toArray T1 (0,0)))(HP:Vw aJ 1 h pv pl)(hl:pl=[]\/v<pl.length)(hK:K (I (dy pl v)) h):aX prog (.func (.func 302) #[] #[ptr a3]) [I v].toArray h K:=by
 refine cg (l:=[I v,ptr a3]) rfl (ahL ?_);unfold Tz;have c3:hcell h ⟨a3,3,none⟩=some pv:=bz ha rfl;simp only[aU,bE,dh,c3];refine HP.len ?_;rw[cF];unfold dy at hK;rcases hl with rfl|hl
 .exact hK
 .rw[show((pl.length:Int)==0)=false by simp;intro e;rw[e]at hl;simp at hl,aO];refine HP.zL hl λb o hc=> ?_;simp only[dh,hc,oI];rw[show pl.isEmpty=false by cases pl with
   |nil=>simp at hl
   |cons _ _=>rfl]at hK
  simp only[gm,dN]at hK;rw[sg hl]at hK;have e:(if pl[v]> -72057594037927936 then pl[v]else -72057594037927936)=max (-aN) pl[v]:=by rw[Int.max_def,show aN=72057594037927936 from rfl];split<;>split<;>omega
  rw[e];exact hK
def an9{i:Nat}{T1:TypeId}(ha:h[a3]? =some (.cells (jk fr to av pv).toArray T1 (0,0)))(HA:Vw eZ 1 h av al)(hl:al=[]\/i<al.length)(hK:K (.bool (fZ al i)) h):aX prog (.func (.func 301) #[] #[ptr a3]) [I i].toArray h K:=by
 refine cg (l:=[I i,ptr a3]) rfl (ahK ?_);unfold Ty;have c3:hcell h ⟨a3,2,none⟩=some av:=bz ha rfl;simp only[aU,bE,dh,c3];refine HA.len ?_;rw[cF];unfold fZ at hK;rcases hl with rfl|hl
 .exact hK
 .rw[show((al.length:Int)==0)=false by simp;intro e;rw[e]at hl;simp at hl,aO];refine HA.dU (e:=λx:Bool=>.bool x) (λ_=>rfl) hl ?_;rw[show al.isEmpty=false by cases al with
   |nil=>simp at hl
   |cons _ _=>rfl,sU,sg hl]at hK
  exact hK
def YQ{v:Nat}{a d:Int}(o:Own h0 h (mo a3 s0 hp r g.n fr to av pv lv bv cv ev F st T))(HP:Vw aJ 1 h pv pl)(hl:pl=[]\/g.n=pl.length)(k:g.n<=16777216)(inv:eB g.aj g.n (dy pl) B st)(hB:B<=aN)(hv:v<g.n)(l:0<=d)(hd:d<=aN)
  (hK:∀F' h',Own h0 h' (mo a3 s0 hp r g.n fr to av pv lv bv cv ev F' (st.reach (dy pl) v a d) T)->K (.tuple #[]) h'):ah prog 303 [ptr s0,I v,I d,I a] h K:=by
 refine aK (ahM ?_);unfold TA;simp only[bD,aU,bE];refine o.load 1 rfl rfl ?_;refine an8 (o.get 0 rfl) HP (by rcases hl with h|h;exact .inl h;exact .inr aa) ?_;refine o.load 1 rfl rfl (Wc o 2 rfl ?_);simp only[cC,cB];refine o.load 1 rfl rfl ?_;have i:v<(me g.n st.ord).length:=by rw[Xt];exact hv
 refine(o.vw 5 rfl).dU (e:=λx:Bool=>.bool x) (λ_=>rfl) i ?_;rw[DP hv,bA];have hf:aN=72057594037927936:=rfl;refine⟨λhc=> ?_,λhc=> ?_⟩
 .have e:st.reach (dy pl) v a d=st:=by unfold SS.reach;rw[aW (.inl hc)]
  rw[e]at hK;exact hK F h o
 rw[dA,bA];refine⟨λhp'=> ?_,λhp'=> ?_⟩
 .have e:st.reach (dy pl) v a d=st:=by unfold SS.reach;rw[aW (.inr aa)]
  rw[e]at hK;exact hK F h o
 have hlo:=al4 (pl:=pl) (v:=v);have hno:¬(v∈st.ord\/aN<=dy pl v):=by rintro(h|h);exact hc h;omega
 have m:=inv.lo v hv;have hlen:=inv.al1;cases hk:nU st.hp v with
 | some was=>
  simp only[kz,bF];refine o.load 1 rfl rfl ((o.vw 3 rfl).Im (by rw[inv.ll];exact hv) ?_);rw[jc,dA,bA];refine⟨λhle=> ?_,λhgt=> ?_⟩
  .have e:st.reach (dy pl) v a d=st:=by unfold SS.reach;rw[aQ hno,hk];exact aW hle
   rw[e]at hK;exact hK F h o
  .have e:st.reach (dy pl) v a d={st with hp:=((v:Int),d+dy pl v)::st.hp.erase ((v:Int),was),lab:=st.lab.set v d,dY:=st.dY.set v a}:=by
    unfold SS.reach;rw[aQ hno,hk];exact aQ hgt
   rw[e]at hK;unfold C3;rw[bF];simp only[bD,aU,bE];refine o.load 1 rfl rfl ?_;rw[bw,bK aa aa];obtain⟨u,e1,_,_,j,_⟩:=inv.cK _ (tw hk);have e1:v=u:=by simp at e1;omega
   subst e1;dsimp only at j;refine Dq o 2 rfl (tw hk) aa λF' h5 b=> ?_;unfold C2;simp only[bD,aU,bE];refine b.load 1 rfl rfl (b.load 1 rfl rfl ?_);refine b.jD (z:=d) 3 rfl (by rw[inv.ll];exact hv) λh6 c=> ?_;refine c.jD (z:=a) 4 rfl (by rw[inv.bl];exact hv) λh7 f=> ?_;exact hK F' h7 f
 | none=>
  have e:st.reach (dy pl) v a d={st with hp:=((v:Int),d+dy pl v)::st.hp,lab:=st.lab.set v d,dY:=st.dY.set v a}:=by unfold SS.reach;rw[aQ hno,hk]
  rw[e]at hK;simp only[mw,aO];unfold C3;rw[aO];simp only[bD,aU,bE];refine o.load 1 rfl rfl ?_;rw[bw,bK aa aa];refine Af o 2 rfl aa (tu.1 hk) hv λF' h5 b=> ?_;unfold C2;simp only[bD,aU,bE];refine b.load 1 rfl rfl (b.load 1 rfl rfl ?_);refine b.jD (z:=d) 3 rfl (by rw[inv.ll];exact hv) λh6 c=> ?_;refine c.jD (z:=a) 4 rfl (by rw[inv.bl];exact hv) λh7 f=> ?_;exact hK F' h7 f
def aoa{l:List A}{p:Nat->Int}{mk:Nat->Bool}{v:Nat}{s:SS}{ids:List Nat}{i:Nat}(hi:i<ids.length):s.scan l p mk v (ids.take (i+1))=SS.look l p mk v (s.scan l p mk v (ids.take i)) ids[i]:=by unfold SS.scan;rw[cW hi,jP];rfl
def aob{v:Nat}(hR:g.Right)(o:Own h0 h (mo a3 s0 hp r g.n fr to av pv lv bv cv ev F st T))(hN:∀h',Ext h0 h'->bX h' r g)(HP:∀h',Ext h0 h'->Vw aJ 1 h' pv pl)(HA:∀h',Ext h0 h'->Vw eZ 1 h' av al)(hl:pl=[]\/g.n=pl.length)(hla:al=[]\/g.aj.length=al.length)
  (inv:eB g.aj g.n (dy pl) B st) (hB:B<=aN) (hv:v<g.n) (k:v∈st.ord) (A:aL st.lab v+W<=B) (Q:st.dg.length+g.aj.length<2^40)
  (hK:∀F' ev' h',Own h0 h' (mo a3 s0 hp r g.n fr to av pv lv bv cv ev' F' (st.scan g.aj (dy pl) (fZ al) v (g.out v)) T)->K (.tuple #[]) h'):ah prog 305 [ptr s0,I v] h K:=by
 refine aK (ahO ?_);unfold TE;have C:=hR.most;have R:=hR.many;simp only[bD,aU,bE];refine o.load 1 rfl rfl ?_;refine VY o hR (hN _ o.ext) λvl h1 o1=> ?_;rw[aW aa,fL]at o1;refine(o1.vw 0 rfl).len ?_;have m:∀i∈g.out v,i<g.aj.length/\(aH g.aj i).f=v:=(uZ hR).1 v hv;have S:(g.out v).length<=g.aj.length:=vf;have hh:∀a∈g.aj,a.t<g.n/\(a.w:Int)<=W:=Mc hR;have facts:∀i,eB g.aj g.n (dy pl) B (st.scan g.aj (dy pl) (fZ al) v ((g.out v).take i))/\(st.scan g.aj (dy pl) (fZ al) v ((g.out v).take i)).ord=st.ord/\∀u∈st.ord,aL (st.scan g.aj (dy pl) (fZ al) v ((g.out v).take i)).lab u=aL st.lab u:=λi=>SS.DO hh inv (λj hj=>m j (lK hj)) k A
 have o1:Own h0 h1 (aC bg 1 3 vl (g.out v)::mo a3 s0 hp r g.n fr to av pv lv bv cv ev F (st.scan g.aj (dy pl) (fZ al) v ((g.out v).take 0)) T):=o1;refine bV (g.out v).length (λi x h'=>x.1=I i/\∃F' ev',(st.scan g.aj (dy pl) (fZ al) v ((g.out v).take i)).dg.length<=st.dg.length+i/\Own h0 h' (aC bg 1 3 vl (g.out v)::mo a3 s0 hp r g.n fr to av pv lv bv cv ev' F' (st.scan g.aj (dy pl) (fZ al) v ((g.out v).take i)) T)) ⟨rfl,F,ev,cq _,o1⟩ ?_;clear o1 o;rintro i ⟨x,⟨⟩⟩ h' Z hi ⟨hx,F',ev',D,o'⟩ hZ;dsimp only at hx hZ |-;subst hx;unfold TD;simp only[bC,bA];refine⟨λhlt=> ?_,λhge=> ?_⟩
 .have hlt:i<(g.out v).length:=aa;obtain⟨inv',E,q⟩:=facts i;have hsc:=aoa (l:=g.aj) (p:=dy pl) (mk:=fZ al) (v:=v) (s:=st) hlt;generalize U:st.scan g.aj (dy pl) (fZ al) v ((g.out v).take i)=st' at o' inv' E q D hsc;obtain⟨hil,hif⟩:=m _ (cu hlt);refine(o'.vw 0 rfl).dU (e:=λx:Nat=>I x) (λ_=>rfl) hlt ?_;simp only[bD,aU,bE];refine o'.load 2 rfl rfl ?_;refine an9 (o'.get 1 rfl) (HA _ o'.ext) (by rcases hla with h|h;exact .inl h;exact .inr aa) ?_;unfold SS.look at hsc;cases hm:fZ al (g.out v)[i]with
  |false=>
   rw[hm]at hsc;rw[bP,dL,bF];unfold C4;rw[bw,wI i aa];refine hZ (I (i+1:Nat),()) h' hlt ⟨rfl,F',ev',?_,?_⟩
   .rw[hsc];simp only[gm,dN];omega
   .rw[hsc];exact o'
  | true=>
   rw[hm]at hsc;simp only[e7]at hsc;generalize (g.out v)[i]=j at hil hif hsc;rw[bP,cz,aO];refine o'.load 2 rfl rfl ?_;refine cE (cs':=eE ⟨1,0,j,0⟩) (by intro p hp;simp at hp;rcases hp with rfl|rfl<;>rfl) rfl rfl ?_;refine o'.fH 7 (⟨1,0,j,0⟩:Ev) rfl rfl (bW rfl) qS xQ rfl az aa λc h2 o2=> ?_;have y:=o2.vw 7 rfl;refine o2.bu 2 (cs':=ym r hp a3 lv bv cv c) rfl rfl rfl y.one y.plain λh3 d=> ?_;refine d.load 2 rfl rfl (qP (hN _ d.ext) hil λh4 H=> ?_);simp only[cC,cB];have J:=d.more H;have ea:aH g.aj j=g.aj[j]:=by simp[aH,hil]
   have he:=hh _ (cu hil);rw[ea]at hsc hif;generalize g.aj[j]=a at hsc he hif;refine J.box λM h5 N=>N.st 0 rfl rfl rfl rfl rfl (gQ _) λh6 b=> ?_;refine b.load 0 rfl rfl (b.load 3 rfl rfl ((b.vw 5 rfl).Im (by rw[inv'.ll];exact hv) (b.load 0 rfl rfl ?_)));have V:=q v k;have hb:=inv'.lo v hv;have hw0:W=2147483647:=rfl;have hf:aN=72057594037927936:=rfl;rw[jc,bw,bK aa aa];have z:Own h0 h6 (mo a3 s0 hp r g.n fr to av pv lv bv cv c F' (st'.ev ⟨1,0,j,0⟩) (ak M (fI a) 59::aC bg 1 3 vl (g.out v)::T)):=by have :=b.front 9 [2,3,4,5,6,7,8,0,1] az az;exact this
   refine YQ z (HP _ z.ext) hl C (inv'.ev _) hB he.1 aa aa λO h8 P=> ?_;unfold C4;rw[bw,wI i aa];refine hZ (I (i+1:Nat),()) h8 hlt ⟨rfl,O,c,?_,?_⟩
   .rw[hsc,SS.tQ.2];show(st'.dg++ [_]).length<=_;rw[cG,mQ];omega
   .rw[hsc];exact P.front 9 [8,0,1,2,3,4,5,6] az az
 .have :(g.out v).take i=g.out v:=fM aa;rw[this]at o';exact hK F' ev' h' o'.tail
end
section
variable{h0 h:af}{L:List aS}{K:KT}{g:G}{r a3 s0 hp fr to:Nat}{av pv lv bv cv ev:Value}{al:List Bool}{pl:List Int}{F:Nat->Prop}{st:SS}{T:List aS}{B:Int}
def aoc{fv:Value}{c:List aS}{σ:Type}{Q:σ->af->Prop}{s0:σ}{next :σ->List Value->σ->Prop}{stop:σ->Prop}(o:Own h0 h (L++c))(hI:uT prog fv Q c s0 next stop)(g:σ->List Int)(g0:g s0=[])
  (hf:∀s x s',next s x s'->∃a,x=[I a]/\g s'=g s++ [a]/\(g s').length<2^40) (hQ:∀s(Rs:List aS) h',Own h0 h' (Rs++L)->Q s h')
  (hK:∀w h' s,stop s->Own h0 h' (aC aJ 1 3 w (g s)::L)->K w h'):ah prog 29 [fv] h K:=by
 refine aK (Gy ?_);unfold Cz;refine aK (GH ?_);unfold CL;refine o.box λs2 h1 o1=> ?_;have o2:Own h0 h1 ((aC aJ 1 3 (.slice none 0 0) (g s0)::ak s2 [.slice none 0 0] 43::L)++c):=by rw[g0];exact Own.ef (enc:=aJ) (n:=1) (T:=3) o1
 refine o2.LF hI (λs x s' hn=>by obtain⟨a,rfl,_⟩:=hf s x s' hn;rfl)
  (λs Rs=>∃w,Rs=aC aJ 1 3 w (g s)::ak s2 [w] 43::L) (λ_=>False) (λ_ _=>False) ⟨_,rfl⟩ ?_ ?_ ?_ (λ_ _ h=>h.elim) (λ_ _ _ h=>h.elim)
 .rintro s Rs h' ⟨w,rfl⟩ o';exact hQ s [_,_] h' o'
 .rintro M s x s' Rs Pr h' R hn ⟨w,rfl⟩ o' hN _ _;obtain⟨a,rfl,hg,e⟩:=hf s x s' hn;dsimp only[gh];unfold CK;refine o'.begin 0 rfl λh4 b=> ?_;have b:Own h0 h4 (cD _ _::cw _::aC aJ 1 3 w (g s)::ak s2 [w] 43::(L++Pr)):=b;refine b.load 3 rfl rfl ?_;rw[hg,cG]at e;refine b.fH 2 a rfl rfl (bW rfl) (λ_=>rfl) jb rfl az (by simp at e;omega) λw' h5 f=> ?_;have hw':=f.vw 2 rfl;refine f.bu 3 (cs':=[w']) rfl rfl rfl hw'.one hw'.plain λh6 d=> ?_;refine hN _ h6 ⟨w',rfl⟩ ?_;rw[hg];exact d
 .rintro s h' Rs hst ⟨w,rfl⟩ o';refine o'.load 2 rfl rfl (o'.jV 0 rfl λh6 d=> ?_);exact hK w h6 s hst (d.tail.erase 1)
def aod{s2 v3 v:Nat}{cs:List Nat}{T1:TypeId}(hR:g.Right)(hc:nu g.aj st.dY v cs):
  uT prog (.func (.func 366) #[] #[ptr s2,ptr v3]) (σ:=Nat)
   (λ_ h=>h[s2]? =some (.cells #[ptr s0] T1 (0,0))/\h[s0]? =some (.cells (ym r hp a3 lv bv cv ev).toArray 425 (0,0))/\Vw aJ 1 h bv st.dY/\bX h r g) [ak v3 [I v] 3] 0
   (λi x i'=>(∃hi:i<cs.length,x=[I cs[i]])/\i'=i+1) (λi=>i=cs.length):=by
 rintro yv h0 h Rs K J E ⟨l,rfl⟩ o p hQ hY hK;refine jE (l:=[dS l,ptr s2,ptr v3]) rfl (aiO ?_);unfold UU;have vx:∀{Rs:List aS}{h':af}{u:Int}{K:Value->Prop},Own h0 h' (Rs++ [ak v3 [I u] 3])->K (I u)->ag h' (ptr v3) K:=λ{Rs h' u K} o hk=>o.load Rs.length (by rw[eR (cq _),iE];rfl) rfl hk;obtain⟨q1,q2,e,_⟩:=hQ _ _ _ p o.left;have c1:hcell h ⟨s2,0,none⟩=some (ptr s0):=bz q1 rfl;have c2:hcell h ⟨s0,3,none⟩=some bv:=bz q2 rfl;refine bJ rfl c1 ?_;simp only[bD,aU,bE];refine bJ rfl c2 (vx o ?_);obtain⟨z,hz⟩:∃z,st.dY[v]? =some z:=by
  cases cs with
  |nil=>exact⟨_,hc⟩
  |cons a r=>exact⟨_,hc.1⟩
 refine e.zK hz ?_;refine bV cs.length (λj x h'=>∃(u:Nat)(z:Int)(m:List aS),nu g.aj st.dY u (cs.drop j)/\st.dY[u]? =some z/\x.1=I z/\J j m/\Own h0 h' (m++ [ak v3 [I u] 3])) ⟨v,z,Rs,hc,hz,rfl,p,o⟩ ?_;clear q1 q2 e c1 c2 hz o p hc z;rintro j ⟨x,⟨⟩⟩ h' Z hj ⟨u,z,m,hch,hz,hx,hjj,o'⟩ hZ;dsimp only at hx hZ |-;subst hx;unfold UT;rcases Nat.lt_or_ge j cs.length with hlt|hge
 .rw[iD hlt]at hch;obtain⟨hc1,s,c⟩:=hch;have q:z=(cs[j]:Int):=by rw[hz]at hc1;injection hc1
  subst q;rw[dA,bT aa,bF];refine hY j _ (j+1) m [ak v3 [I u] 3] h' _ ⟨⟨hlt,rfl⟩,rfl⟩ hjj o' (λk h2 hj' o2=> ?_) λk h2 he o2=> ?_
  .rw[bF];obtain⟨q1,q2,e,t⟩:=hQ _ _ _ hj' o2.left;have c1:hcell h2 ⟨s2,0,none⟩=some (ptr s0):=bz q1 rfl;have c2:hcell h2 ⟨s0,0,none⟩=some (ptr r):=bz q2 rfl;refine bJ rfl c1 ?_;simp only[bD,aU,bE];refine bJ rfl c2 (qP t s λh3 w=> ?_);simp only[cC,cB];have y:=o2.more w;have ea:aH g.aj cs[j]=g.aj[cs[j]]:=by simp[aH,s]
   rw[ea]at c;generalize g.aj[cs[j]]=a at c;refine y.box λA h4 C=>C.st 0 rfl rfl rfl rfl rfl (gQ _) λh5 n=>n.load 0 rfl rfl ?_;have n:Own h0 h5 ((ak A (fI a) 59::k)++ [ak v3 [I u] 3]):=n;refine n.bu (k.length+1) (cs':=[I a.f]) (by rw[eR aP,fO,iE];rfl) rfl rfl rfl rfl λh6 d=> ?_;have d:Own h0 h6 (k++ [ak v3 [I a.f] 3]):=by rw[mG _ _ aP,fO,iE]at d;exact d.tail
   obtain⟨q1,q2,e,t⟩:=hQ _ _ _ hj' d.left;have c1:hcell h6 ⟨s2,0,none⟩=some (ptr s0):=bz q1 rfl;have c2:hcell h6 ⟨s0,3,none⟩=some bv:=bz q2 rfl;refine bJ rfl c1 (bJ rfl c2 (vx d ?_));obtain⟨z,hz⟩:∃z,st.dY[a.f]? =some z:=by
    cases hd:cs.drop (j+1)with
    |nil=>rw[hd]at c;exact⟨_,c⟩
    |cons b r=>rw[hd]at c;exact⟨_,c.1⟩
   refine e.zK hz ?_;exact hZ (I z,()) h6 hlt ⟨a.f,z,k,c,hz,rfl,hj',d⟩
  .rw[aO];exact hK _ _ (.inr he) o2.left
 .have hj':j=cs.length:=aa;subst hj';rw[uu]at hch;have q:z= -1:=by
   have :st.dY[u]? =some (-1):=hch;rw[hz]at this;injection this
  subst q;rw[dA,bR aa,aO];exact hK _ _ (.inl ⟨_,rfl,hjj⟩) o'.left
def AV(f:SS×Bool)(to:Nat):Int:=if f.2 then aL f.1.lab to else aN
def YR(h:af)(g:G)(f:SS×Bool)(to:Nat)(K:KT):Prop:=∀av ev cs h',(f.2=true->nu g.aj f.1.dY to cs)->(f.2=false->cs=[])->Own h h' [aC aJ 1 3 av (nI cs).reverse,aC eE 4 100 ev f.1.dg]->K (.agg #[I (AV f to),av,ev]) h'
def aoe {fin:SS×Bool} (hR:g.Right) (o:Own h0 h (mo a3 s0 hp r g.n fr to av pv lv bv cv aT F (SS.zero g.n) [])) (hN:∀h',Ext h0 h'->bX h' r g) (HP:∀h',Ext h0 h'->Vw aJ 1 h' pv pl) (HA:∀h',Ext h0 h'->Vw eZ 1 h' av al) (hl:pl=[]\/g.n=pl.length) (hla:al=[]\/g.aj.length=al.length)
  (au:(g.n+1)*(g.aj.length+1)<2^39) (hfr:fr<g.n) (hto:to<g.n) (D:SS.run g.aj (dy pl) (fZ al) g.out to (g.n+1) (SS.start (dy pl) g.n fr)=fin) (hK:YR h0 g fin to K):ah prog 199 [ptr s0,I fr,I to] h K:=by
 refine aK (af5 ?_);unfold Rn;have X:=hR.most;have ax:=hR.many;have hw0:W=2147483647:=rfl;have hf:aN=72057594037927936:=rfl;refine o.box λt6 h1 o1=> ?_;have o1:Own h0 h1 (mo a3 s0 hp r g.n fr to av pv lv bv cv aT F (SS.zero g.n) [ak t6 [I 0,aT,aT] 303]):=o1.oJ;refine YQ (B:=0) o1 (HP _ o1.ext) hl X eB.zero aa hfr aa aa λE h2 o2=> ?_;have o2:Own h0 h2 (mo a3 s0 hp r g.n fr to av pv lv bv cv aT E (SS.start (dy pl) g.n fr) [ak t6 [I 0,aT,aT] 303]):=o2;have hs0:(SS.start (dy pl) g.n fr).ord=[]:=SS.tQ.1;have H:(SS.start (dy pl) g.n fr).dg=[]:=SS.tQ.2;have J:eB g.aj g.n (dy pl) 0 (SS.start (dy pl) g.n fr):=eB.zero.reach hfr aa aa (.inl rfl);refine tj (k0:=g.n+1-(SS.start (dy pl) g.n fr).ord.length) (λk _ h'=>∃(st:SS)(F:Nat->Prop)(ev:Value),k=g.n+1-st.ord.length/\SS.run g.aj (dy pl) (fZ al) g.out to (g.n+1-st.ord.length) st=fin/\eB g.aj g.n (dy pl) (st.ord.length*W) st/\st.dg.length<=st.ord.length*(g.aj.length+1)/\
  Own h0 h' (mo a3 s0 hp r g.n fr to av pv lv bv cv ev F st [ak t6 [I 0,aT,aT] 303])) ⟨_,E,aT,rfl,by rw[hs0];exact D,by rw[hs0];simpa using J,by rw[H];simp,o2⟩ ?_
 clear o o2 D J hs0 H;rintro k ⟨⟩ h' Z ⟨st,F,ev,hk,hrun,inv,ay,o⟩ hZ;unfold Rm;simp only[bD,aU,bE];have aA:=inv.len;have aB:st.dg.length+g.aj.length+1<2^40:=by have :=lJ (g.aj.length+1) (show st.ord.length<=g.n+1 by omega);have h2:=lJ (g.aj.length+1) (show 1<=g.n+1 by omega);omega
 refine o.load 1 rfl rfl (Ag o 2 rfl (λhlz h3 c=> ?_) λp hlp v h3 c=> ?_)
 .simp only[cC,cB,nS];rw[bP,dL,bF];have Y:fin=(st,false):=by
   rw[<-hrun];cases g.n+1-st.ord.length with
   |zero=>rfl
   |succ k=>simp only[SS.run,hlz]
  subst Y;have hv:=c.vw 6 rfl;refine c.load 1 rfl rfl ?_;refine cE (cs':=[I aN,aT,ev]) ?_ rfl rfl ?_
  .intro p hp;simp at hp;rcases hp with rfl|rfl
   .rfl
   .exact hv.one
  refine c.st (l:=[I aN,aT,ev]) (cs':=[I aN,aT,ev]) 7 rfl rfl rfl rfl rfl ?_ λh4 d=> ?_
  .intro u hu;simp at hu;rcases hu with rfl|rfl|rfl
   .rfl
   .rfl
   .exact hv.plain
  .refine d.bZ 7 rfl rfl rfl ?_;refine hK aT ev [] h4 (λh=>by cases h) (λ_=>rfl) ?_;exact Own.ef (enc:=aJ) (n:=1) (T:=3) (d.bh [6] az)
 .simp only[cC,cB,nS];rw[bP,cz,aO];have hm:=(jF hlp).1;obtain⟨u,hu,hun,hno,hkey,hpf,hby⟩:=inv.cK p hm;obtain⟨aD,key⟩:=p;dsimp only at hu hkey c |-;subst hu;have hroom:=inv.room (by intro e;rw[e]at hm;cases hm);have aE:=inv.lo u hun;refine c.load 1 rfl rfl ?_;refine c.setAt (a:=true) 5 rfl Jq (Jr _) (by rw[Xt];exact hun) rfl λh4 d=> ?_;refine d.load 1 rfl rfl (d.load 1 rfl rfl ((d.vw 3 rfl).Im (by rw[inv.ll];exact hun) ?_));rw[jc];refine cE (cs':=eE ⟨0,0,u,aL st.lab u⟩) (by intro p hp;simp at hp;rcases hp with rfl|rfl|rfl<;>rfl) rfl rfl ?_;refine d.fH 6 (⟨0,0,u,aL st.lab u⟩:Ev) rfl rfl (bW rfl) qS xQ rfl az aa λb h5 M=> ?_;have t:=M.vw 6 rfl;refine M.bu 1 (cs':=ym r hp a3 lv bv cv b) rfl rfl rfl t.one t.plain λh6 y=> ?_;obtain⟨bu,j⟩:∃bu,bu=st.pop u key:=⟨_,rfl⟩;have y:Own h0 h6 (mo a3 s0 hp r g.n fr to av pv lv bv cv b v bu [ak t6 [I 0,aT,aT] 303]):=by
   subst j;show Own h0 h6 (_::_::_::_::_::aC eZ 1 4 cv (me g.n (st.ord++ [u]))::_);rw[<-al2];exact y
  have inv1:eB g.aj g.n (dy pl) (st.ord.length*W) bu:=by subst j;exact inv.nV hm
  have z:bu.ord=st.ord++ [u]:=by subst j;rfl
  have N:bu.lab=st.lab:=by subst j;rfl
  have aF:bu.dg.length=st.dg.length+1:=by subst j;simp[SS.pop]
  rw[show g.n+1-st.ord.length=(g.n-st.ord.length)+1 by omega]at hrun;simp only[SS.run,hlp,fL]at hrun;rw[<-j]at hrun;rw[cF];by_cases O:u=to
  .subst O;rw[iJ,bF];rw[aW rfl]at hrun;subst hrun;obtain⟨cs,hch,aG⟩:=inv1.chain st.ord.length st.ord [] u (cq _) z;refine aK (ahN ?_);unfold TC;refine y.box λs2 h7 A=>A.box λv3 h8 af=> ?_;have ag:Own h0 h8 ((ak s2 [ptr s0] 310::mo a3 s0 hp r g.n fr u av pv lv bv cv b v bu [ak t6 [I 0,aT,aT] 303])++ [ak v3 [I u] 3]):=af.oJ;refine aoc ag (aod (r:=r) (hp:=hp) (a3:=a3) (s0:=s0) (s2:=s2) (v3:=v3) (lv:=lv) (bv:=bv) (cv:=cv) (ev:=b) (st:=bu) (T1:=310) hR hch) (λs=>(nI cs).take s) rfl (λs x s'=> ?_) (λs Rs h' o'=> ?_) λw h9 s hs P=> ?_
   .rintro⟨⟨hi,rfl⟩,rfl⟩;refine⟨(cs[s]:Int),rfl,?_,?_⟩
    .rw[cW (by rw[dr];exact hi)];simp[nI]
    .rw[dO,dr];omega
   .have q:∀(i:Nat)(R:aS),(ak s2 [ptr s0] 310::mo a3 s0 hp r g.n fr u av pv lv bv cv b v bu [ak t6 [I 0,aT,aT] 303])[i]? =some R->(Rs++(ak s2 [ptr s0] 310::mo a3 s0 hp r g.n fr u av pv lv bv cv b v bu [ak t6 [I 0,aT,aT] 303]))[Rs.length+i]? =some R:=λi R hi=>by
     rw[eR aa,show Rs.length+i-Rs.length=i by omega];exact hi
    exact⟨o'.get _ (q 0 _ rfl),o'.get _ (q 2 _ rfl),o'.vw _ (q 5 _ rfl),hN _ o'.ext⟩
   .subst hs;rw[fM (by rw[dr];exact cq _)]at P;refine YM P 0 rfl (by rw[dr];omega) λh11 m=> ?_;have t:=m.vw 8 rfl;have Q:=m.vw 0 rfl;refine m.load 3 rfl rfl ((m.vw 5 rfl).Im (by rw[N,inv.ll];exact hun) (m.load 3 rfl rfl ?_));rw[jc];refine cE (cs':=[I (aL bu.lab u),w,b]) ?_ rfl rfl ?_
    .intro p hp;simp at hp;rcases hp with rfl|rfl|rfl
     .rfl
     .exact Q.one
     .exact t.one
    refine m.st (l:=[I (aL bu.lab u),w,b]) (cs':=[I (aL bu.lab u),w,b]) 9 rfl rfl rfl rfl rfl ?_ λh12 S=> ?_
    .intro u hu;simp at hu;rcases hu with rfl|rfl|rfl
     .rfl
     .exact Q.plain
     .exact t.plain
    .refine S.bZ 9 rfl rfl rfl ?_;exact hK w b cs h12 (λ_=>hch) (λh=>by cases h) (S.bh [0,8] az)
  .rw [show((u:Int)==(to:Int))=false by simp;omega,aO];rw[aQ O]at hrun;have hB:(st.ord.length:Int)*W+W<=aN:=by
    have h1:(st.ord.length:Int)+1<=16777216:=aa;have :=nL h1 (show(0:Int)<=W by decide);rw[pL,wj]at this;omega
   have inv1':=inv1.mono (B':=st.ord.length*W+W) aa;have U:u∈bu.ord:=by rw[z];simp
   have ai:∀i∈g.out u,i<g.aj.length/\(aH g.aj i).f=u:=(uZ hR).1 u hun;have V:aL bu.lab u+W<=st.ord.length*W+W:=by rw[N];omega
   obtain⟨f1,f2,f3⟩:=SS.DO (mk:=fZ al) (Mc hR) inv1' ai U V;refine aob hR y hN HP HA hl hla inv1' hB hun U V aa λan aq h7 A=> ?_
   have hel:(bu.scan g.aj (dy pl) (fZ al) u (g.out u)).dg.length<=bu.dg.length+(g.out u).length:=by
    have :∀(ids:List Nat)(s:SS),(s.scan g.aj (dy pl) (fZ al) u ids).dg.length<=s.dg.length+ids.length:=by
     intro ids
     induction ids with
     |nil=>intro s;exact cq _
     | cons i ids ih=>
      intro s;have h1:=ih (SS.look g.aj (dy pl) (fZ al) u s i);have h2:(SS.look g.aj (dy pl) (fZ al) u s i).dg.length<=s.dg.length+1:=by
       unfold SS.look;split
       .rw[SS.tQ.2];show(s.dg++ [_]).length<=_;simp
       .omega
      show((SS.look g.aj (dy pl) (fZ al) u s i).scan g.aj (dy pl) (fZ al) u ids).dg.length<=_;rw[fO];omega
    exact this _ _
   have aI:(g.out u).length<=g.aj.length:=vf;have C:(bu.scan g.aj (dy pl) (fZ al) u (g.out u)).ord.length=st.ord.length+1:=by rw[f2,z];simp
   refine hZ _ h7 _ (by rw[hk];omega) ⟨bu.scan g.aj (dy pl) (fZ al) u (g.out u),an,aq,rfl,?_,?_,?_,A⟩
   .rw[C,show g.n+1-(st.ord.length+1)=g.n-st.ord.length by omega];exact hrun
   .refine f1.mono ?_;rw[C,sS,pL];show _<=_+1*W;omega
   .rw[C,nJ];omega
end
section
variable{h0 h:af}{L:List aS}{K:KT}{g:G}{r fr to:Nat}{av pv:Value}{al:List Bool}{pl:List Int}
def aof(hR:g.Right)(hN:bX h r g)
  (hap:Mh.plainCell av=true) (f:Mh.plainCell pv=true)
  (hK:∀a3 s0 hp lv bv cv F h',Own h h' (mo a3 s0 hp r g.n fr to av pv lv bv cv aT F (SS.zero g.n) [])->K (ptr s0) h'):ah prog 198 [ptr r,.agg (jk fr to av pv).toArray] h K:=by
 refine aK (af4 ?_);unfold Rl;have d:=hR.most;refine(Own.start h).box λa3 h1 o=> ?_;have o:Own h h1 [ak a3 (jk fr to av pv) 307]:=o;refine gW (λy h'=>∃s0 hp lv cv F,y=(ptr s0,())/\Own h h' [ak s0 [ptr r,ptr hp,lv,aT,cv,.nilFunc,.nilFunc,aT] 425,aC aJ 1 2 lv (List.replicate g.n 0),aC eZ 1 4 cv (List.replicate g.n false),gR F hp [] g.n,ak a3 (jk fr to av pv) 307]) (λJ hJ=> ?_) ?_
 .refine dV (hN.more o.ext) (Dp o λF hp h2 o=>dV (hN.more o.ext) ?_);have fin:∀(lv cv:Value)(h':af),lv.cells= #[lv]->cv.cells= #[cv]->Own h h' [aC aJ 1 2 lv (List.replicate g.n 0),aC eZ 1 4 cv (List.replicate g.n false),gR F hp [] g.n,ak a3 (jk fr to av pv) 307]->
    aV [(.pointer none),(.pointer none),(.slice none 0 0),(.slice none 0 0),(.slice none 0 0),.nilFunc,.nilFunc,(.slice none 0 0)] [(0,1,ptr r),(1,1,ptr hp),(2,1,lv),(4,1,cv)] λt16=>aB 425 t16 h' λt17 h_8=>J (t17,()) h_8:=λlv cv h' h1 h2 o=>by
   refine cE (cs':=[ptr r,ptr hp,lv,aT,cv,.nilFunc,.nilFunc,aT]) ?_ rfl rfl ?_
   .intro p hp;simp at hp;rcases hp with rfl|rfl|rfl|rfl
    .rfl
    .rfl
    .exact h1
    .exact h2
   exact o.box λs0 h8 o=>hJ _ _ ⟨s0,hp,lv,cv,F,rfl,o⟩
  refine⟨?_,?_⟩
  .refine o.make (enc:=aJ) (n:=1) (a:=0) rfl aa aa λlv h3 o=>dV (hN.more o.ext) ?_;refine o.make (enc:=eZ) (n:=1) (a:=false) rfl aa aa λcv h4 o=> ?_;exact fin lv cv h4 (o.vw 1 rfl).one (o.vw 0 rfl).one o.swap
  .refine dV (hN.more o.ext) ⟨?_,?_⟩
   .refine o.make (enc:=aJ) (n:=1) (a:=0) rfl aa aa λlv h3 o=> ?_;refine o.make (enc:=eZ) (n:=1) (a:=false) rfl aa aa λcv h4 o=> ?_;exact fin lv cv h4 (o.vw 1 rfl).one (o.vw 0 rfl).one o.swap
   .refine o.make (enc:=eZ) (n:=1) (a:=false) rfl aa aa λcv h3 o=> ?_;refine o.make (enc:=aJ) (n:=1) (a:=0) rfl aa aa λlv h4 o=> ?_;exact fin lv cv h4 (o.vw 0 rfl).one (o.vw 1 rfl).one o
 .rintro⟨y,⟨⟩⟩ i ⟨s0,hp,lv,cv,F,e,o⟩;injection e with e _;dsimp only;subst e;unfold Rk;refine o.build (enc:=aJ) (n:=1) [-1] rfl (bW rfl) rfl λw j o=> ?_;refine dV (hN.more o.ext) ?_;refine VM o (o.vw 0 rfl) d λbv k o=> ?_;have b:=o.vw 0 rfl;simp only[bD,aU,bE];refine o.bu 2 (cs':=[ptr r,ptr hp,lv,bv,cv,.nilFunc,.nilFunc,aT]) rfl rfl rfl b.one b.plain λl o=> ?_;refine o.bu 2 (cs':=[ptr r,ptr hp,lv,bv,cv,.func (.func 301) #[] #[ptr a3],.nilFunc,aT]) rfl rfl rfl rfl rfl λm o=> ?_;refine o.bu 2 (cs':=ym r hp a3 lv bv cv aT) rfl rfl rfl rfl rfl λc o=> ?_;refine hK a3 s0 hp lv bv cv F c ?_;have e:=o.bh [6,2,5,3,0,4] az;have o':Own h c [ak a3 (jk fr to av pv) 307,ak s0 (ym r hp a3 lv bv cv aT) 425,gR F hp [] g.n,aC aJ 1 2 lv (List.replicate g.n 0),aC aJ 1 3 bv (List.replicate g.n (-1)),aC eZ 1 4 cv (me g.n [])]:=by
   rw[<-al3];exact e
  exact(Own.ef (enc:=eE) (n:=4) (T:=100) o').bh [1,2,3,4,5,6,0] az
def vL(g:G)(pl:List Int)(al:List Bool)(fr to:Nat):SS×Bool:=SS.run g.aj (dy pl) (fZ al) g.out to (g.n+1) (SS.start (dy pl) g.n fr)
def YS{n2 v:Nat}{T1:TypeId}(hn:h[n2]? =some (.cells #[ptr r] T1 (0,0)))(hN:bX h r g)(hv:v<g.n)(hK:K (.bool true) h):aX prog (.func (.func 195) #[] #[ptr n2]) [I v].toArray h K:=by refine cg (l:=[I v,ptr n2]) rfl (af1 ?_);unfold Rg;rw[dA,bT aa,bF];have c:hcell h ⟨n2,0,none⟩=some (ptr r):=bz hn rfl;refine bJ rfl c (dV hN ?_);rw[bC,bT aa];exact hK
def aog{n:Nat}(H:Vw eZ 1 h av al)(hl:al=[]\/n=al.length)(hK:K (.bool true) h):ah prog 196 [av,I n] h K:=by
 refine aK (af2 ?_);unfold Rh;refine H.len ?_;rw[cF,kD];refine⟨λ_=>hK,λhne=>H.len ?_⟩;rw[cF];rcases hl with rfl|rfl
 .exact absurd rfl hne
 .rw[iJ];exact hK
def aoh{n:Nat}(H:Vw aJ 1 h pv pl)(hl:pl=[]\/n=pl.length)(hK:K (.bool true) h):ah prog 197 [pv,I n] h K:=by
 refine aK (af3 ?_);unfold Rj;refine H.len ?_;rw[cF,kD];refine⟨λ_=>hK,λhne=>H.len ?_⟩;rw[cF];rcases hl with rfl|rfl
 .exact absurd rfl hne
 .rw[iJ];exact hK
def aoi(hR:g.Right)(hN:bX h r g)(HP:Vw aJ 1 h pv pl)(HA:Vw eZ 1 h av al)(hl:pl=[]\/g.n=pl.length)(hla:al=[]\/g.aj.length=al.length)
  (m:(g.n+1)*(g.aj.length+1)<2^39) (hfr:fr<g.n) (hto:to<g.n)
  (h1:fr=to->∀h',Ext h h'->K (.tuple #[.agg #[I 0,aT,aT],I 0]) h')
  (h2:fr≠to->YR h g (vL g pl al fr to) to λv h'=>K (.tuple #[v,I 0]) h'):ah prog 107 [ptr r,.agg (jk fr to av pv).toArray] h K:=by
 refine aK (aev ?_);unfold OT;refine(Own.start h).box λn2 t o1=>o1.box λa3 w o2=>o2.box λt4 h3 a=> ?_;have a:Own h h3 [ak t4 [I 0,aT,aT] 303,ak a3 (jk fr to av pv) 307,ak n2 [ptr r] 47]:=a;refine a.load 2 rfl rfl ?_;simp only[dM,dW,aO];have b:=hN.more a.ext;refine gW (λy h'=>y.1=.bool false/\h'=h3) (λJ hJ=> ?_) ?_
 .simp only[aU,bE];refine a.load 1 rfl rfl (YS (a.get 2 rfl) b hfr ?_);rw[bP,cz,aO];refine a.load 1 rfl rfl (YS (a.get 2 rfl) b hto ?_);rw[bP,cz,aO];refine a.load 1 rfl rfl (a.load 2 rfl rfl (tE b ⟨a.load 1 rfl rfl rfl,?_⟩));refine aog (HA.more a.ext) hla ?_;rw[bP,cz,aO];refine a.load 1 rfl rfl (a.load 2 rfl rfl (dV b ⟨a.load 1 rfl rfl rfl,?_⟩));refine aoh (HP.more a.ext) hl ?_;rw[bP,cz];exact hJ _ _ ⟨rfl,rfl⟩
 .rintro⟨y,⟨⟩⟩ h' ⟨hy,rfl⟩;dsimp only at hy |-;subst hy;unfold OS;rw[aO];simp only[aU,bE];refine a.load 1 rfl rfl (a.load 1 rfl rfl ?_);rw[cF];by_cases e:fr=to
  .rw[show((fr:Int)==(to:Int))=true by simp[e],bF];refine cE (cs':=[I 0,aT,aT]) (by intro p hp;cases hp) rfl rfl ?_;refine a.st (l:=[I 0,aT,aT]) (cs':=[I 0,aT,aT]) 0 rfl rfl rfl rfl rfl ?_ λh4 f=>f.bZ 0 rfl rfl rfl (h1 e h4 f.ext);intro u hu;simp at hu;rcases hu with rfl|rfl<;>rfl
  .rw[show((fr:Int)==(to:Int))=false by simp;omega,aO];refine a.load 2 rfl rfl (a.bZ 1 rfl rfl rfl (a.load 1 rfl rfl (a.load 1 rfl rfl ?_)));refine aof hR b HA.plain HP.plain λb3 s0 hp lv bv cv F h5 i=> ?_;have j:=a.frame i;refine⟨j.load 8 rfl rfl rfl,j.load 8 rfl rfl rfl,?_⟩;refine aoe hR i (λh' x=>b.more x) (λh' x=>(HP.more a.ext).more x) (λh' x=>(HA.more a.ext).more x) hl hla m hfr hto rfl λc ev cs h7 c1 c2 o=> ?_;have d:=a.frame o;have q:=d.vw 0 rfl;have s:=d.vw 1 rfl;refine d.st (l:=[I (AV (vL g pl al fr to) to),c,ev]) (cs':=[I (AV (vL g pl al fr to) to),c,ev]) 2 rfl rfl rfl rfl rfl ?_ λh9 k=>k.bZ 2 rfl rfl rfl ?_
   .intro u hu;simp at hu;rcases hu with rfl|rfl|rfl
    .rfl
    .exact q.plain
    .exact s.plain
   .exact h2 e c ev cs h9 c1 c2 (k.bh [0,1] az)
end
section
variable{h0 h:af}{L:List aS}{K:KT}{g:G}{x r:Nat}{tv cv fv:Value}
def yo(h:af)(g:G)(tv:Value):Prop:=tv=.pointer none\/∃t ms,tv=ptr t/\gG h t g ms/\ms≠ []/\ms.length<=16/\∀m∈ms,m<g.n
def yp(h:af)(g:G)(cv fv:Value):Prop:=(cv=.pointer none/\fv=.pointer none)\/∃c b xs M,cv=ptr c/\fv=ptr b/\xs.length=g.n/\jg xs+1=((M:Nat):Int)/\M<=256/\(∀z∈xs,0<=z)/\iB h c xs/\mM h b M g.aj.length (iT g xs M)
structure mq(h:af)(x r:Nat)(g:G)(tv cv fv:Value):Prop where
 x:h[x]? =some (.cells #[ptr r,tv,cv,fv] 52 (0,0))
 n:bX h r g
 t:yo h g tv
 c:yp h g cv fv
def yo.more{h':af}(H:yo h g tv)(e:Ext h h'):yo h' g tv:=by
 rcases H with h|⟨t,ms,a,b,c⟩
 .exact .inl h
 .exact .inr ⟨t,ms,a,b.more e,c⟩
def yp.more{h':af}(H:yp h g cv fv)(e:Ext h h'):yp h' g cv fv:=by
 rcases H with h|⟨c,b,xs,M,q1,q2,a,d,f,i,j,k⟩
 .exact .inl h
 .exact .inr ⟨c,b,xs,M,q1,q2,a,d,f,i,j.more e,k.more e⟩
def mq.more{h':af}(H:mq h x r g tv cv fv)(e:Ext h h'):mq h' x r g tv cv fv:=⟨e.get H.x,H.n.more e,H.t.more e,H.c.more e⟩
def mq.ld{k:Nat}{v:Value}{K':Value->Prop}(H:mq h x r g tv cv fv)(hk:[ptr r,tv,cv,fv][k]? =some v)(hK:K' v):ag h (.pointer (some ⟨x,k,none⟩)) K':=bJ rfl (bz H.x (by simpa using hk)) hK
def isNil:Value->Bool
 | .pointer none=>true
 |_=>false
def vM{ne:Bool}{v:Value}{K':Value->Prop}(hv:v=.pointer none\/∃t,v=ptr t)(hK:K' (.bool (ne != isNil v))):bL ne .ptr v (.pointer none) K':=by
 rcases hv with rfl|⟨t,rfl⟩
 .cases ne<;>exact hK
 .cases ne<;>exact hK
def yo.nil(H:yo h g tv):tv=.pointer none\/∃t,tv=ptr t:=by
 rcases H with h|⟨t,_,h,_⟩
 .exact .inl h
 .exact .inr ⟨t,h⟩
def yp.nil(H:yp h g cv fv):cv=.pointer none\/∃t,cv=ptr t:=by
 rcases H with ⟨h,_⟩|⟨t,_,_,_,h,_⟩
 .exact .inl h
 .exact .inr ⟨t,h⟩
def AW(hR:g.Right)(H:mq h x r g tv cv fv)(hK:∀h',Ext h h'->K (.bool true) h'):ah prog 38 [ptr x] h K:=by
 refine aK (adv ?_);unfold Ni;simp only[dM,dW,aO,bD,aU,bE];refine H.ld rfl ?_;simp only[dM,dW,aO];refine gW (λy h'=>y.1=.bool true/\Ext h h') (λJ hJ=> ?_) ?_
 .refine H.ld rfl (vM H.t.nil ?_);rcases H.t with rfl|⟨t,ms,rfl,hT,hne,hl,hm⟩
  .exact hJ _ _ ⟨rfl,.refl _ _⟩
  .rw[show(false != isNil (ptr t))=false from rfl,aO];refine H.ld rfl (H.ld rfl (yb hT ⟨H.ld rfl rfl,dV H.n ?_⟩));rw[cF,iJ,bF];refine H.ld rfl (vC (Own.start h) hT hl λw h1 o1=>(o1.vw 0 rfl).len ?_);rw[dr,akS,bT (by have :=ur.2 hne;omega)];exact hJ _ _ ⟨rfl,o1.ext⟩
 .rintro⟨y,⟨⟩⟩ h1 ⟨hy,x1⟩;dsimp only at hy |-;subst hy;have H1:=H.more x1;unfold Nh;simp only[bD,aU,bE];refine H1.ld rfl (vM H1.c.nil ?_);rcases H1.c with ⟨rfl,rfl⟩|⟨c,b,xs,M,rfl,rfl,a,d,i,j,e,f⟩
  .rw[show(false != isNil (.pointer none))=true from rfl,bF];refine H1.ld rfl ?_;simp only[dM,E2];unfold CB;refine gW (λy h'=>y.1=.bool true/\h'=h1) (λJ hJ=> ?_) ?_
   .rw[bF,bF];exact hJ _ _ ⟨rfl,rfl⟩
   .rintro⟨y,⟨⟩⟩ h2 ⟨hy,rfl⟩;dsimp only at hy |-;subst hy;exact hK _ x1
  .rw[show(false != isNil (ptr c))=false from rfl,aO];unfold CB;refine gW (λy h'=>y.1=.bool true/\Ext h h') (λJ hJ=> ?_) ?_
   .rw[bF,aO];simp only[bD,aU,bE];exact H1.ld rfl (H1.ld rfl (H1.ld rfl (Yi hR a H1.n e f d λh2 x2=>hJ _ _ ⟨rfl,x1.trans x2 λ_ h _=>h⟩)))
   .rintro⟨y,⟨⟩⟩ h2 ⟨hy,x2⟩;dsimp only at hy |-;subst hy;exact hK _ x2
def ia(p1 p2:Nat):Nat->List Value
 |0=>[.bool false,.bool false,.func (.func 194) #[] #[ptr p1]]
 |1=>[.bool false,.bool false,.func (.func 194) #[] #[ptr p2]]
 |2=>[.bool true,.bool false,fk 109]
 |3=>[.bool true,.bool false,fk 111]
 |4=>[.bool false,.bool true,fk 104]
 |_=>[.bool true,.bool true,fk 104]
def AX(p1 p2:Nat):List Value:=ia p1 p2 0++ia p1 p2 1++ia p1 p2 2++ia p1 p2 3++ia p1 p2 4++ia p1 p2 5
def yq(i:Nat):Bool:=i==2||i==3||i==5
def AY(i:Nat):Bool:=i==4||i==5
def iV(tv cv:Value)(i:Nat):Bool:=(!yq i|| !isNil tv)&&(!AY i|| !isNil cv)
def Jw{P:Nat->Prop}(h0:P 0)(h1:P 1)(h2:P 2)(h3:P 3)(h4:P 4)(h5:P 5):∀i,i<6->P i
 |0,_=>h0
 |1,_=>h1
 |2,_=>h2
 |3,_=>h3
 |4,_=>h4
 |5,_=>h5
 |i+6,h=>absurd h aa
def AZ{p1 p2:Nat}:∀i,i<6->∃f,ia p1 p2 i=[.bool (yq i),.bool (AY i),f]/\Mh.plainCell f=true:=Jw ⟨_,rfl,rfl⟩ ⟨_,rfl,rfl⟩ ⟨_,rfl,rfl⟩ ⟨_,rfl,rfl⟩ ⟨_,rfl,rfl⟩ ⟨_,rfl,rfl⟩
def Jx{p1 p2:Nat}{K':Value->Prop}:∀i,i<6->K' (.agg (ia p1 p2 i).toArray)->pQ 3 6 (.agg (AX p1 p2).toArray) (I i) K':=λi hi hK=>by refine⟨aa,aa,?_⟩;revert hK;revert i;exact Jw id id id id id id
def Jy(hK:∀p1 p2 h',Own h h' [ak p1 [fk 107] 203,ak p2 [fk 108] 203]->K (.agg (AX p1 p2).toArray) h'):ah prog 39 [] h K:=by
 refine aK (adw ?_);unfold Nj;refine(Own.start h).box λt0 h1 o=> ?_;refine aK (OR ?_);unfold GL;refine o.box λp1 h2 o=> ?_;refine cE (cs':=ia p1 p1 0) (by intro p hp;simp at hp;rcases hp with rfl|rfl|rfl<;>rfl) rfl rfl ?_;refine aK (OR ?_);unfold GL;refine o.box λp2 h3 o=> ?_;refine cE (cs':=ia p1 p2 1) (by intro p hp;simp at hp;rcases hp with rfl|rfl|rfl<;>rfl) rfl rfl ?_;refine cE (cs':=ia p1 p2 2) (by intro p hp;simp at hp;rcases hp with rfl|rfl|rfl<;>rfl) rfl rfl ?_;refine cE (cs':=ia p1 p2 3) (by intro p hp;simp at hp;rcases hp with rfl|rfl|rfl<;>rfl) rfl rfl ?_;refine cE (cs':=ia p1 p2 4) (by intro p hp;simp at hp;rcases hp with rfl|rfl|rfl<;>rfl) rfl rfl ?_;refine cE (cs':=ia p1 p2 5) (by intro p hp;simp at hp;rcases hp with rfl|rfl|rfl<;>rfl) rfl rfl ?_;refine⟨bW rfl,?_⟩;refine o.st (l:=AX p1 p2) (cs':=AX p1 p2) 2 rfl rfl rfl rfl rfl ?_ λh4 o=>o.bZ 2 rfl rfl rfl (hK p1 p2 h4 (o.bh [1,0] az));have pl:∀i,i<6->∀u∈ia p1 p2 i,Mh.plainCell u=true:=λi hi u hu=>by
  obtain⟨f,e,hf⟩:=AZ (p1:=p1) (p2:=p2) i hi;rw[e]at hu;simp at hu;rcases hu with rfl|rfl|rfl
  .rfl
  .rfl
  .exact hf
 intro u hu;simp only[AX,cS]at hu;rcases hu with ((((hu|hu)|hu)|hu)|hu)|hu
 .exact pl 0 az u hu
 .exact pl 1 az u hu
 .exact pl 2 az u hu
 .exact pl 3 az u hu
 .exact pl 4 az u hu
 .exact pl 5 az u hu
def YT{i:Nat}{p1 p2:Nat}(hi:i<6)(H:mq h x r g tv cv fv)(hK:∀h',Ext h h'->K (.bool (iV tv cv i)) h'):ah prog 40 [.agg (ia p1 p2 i).toArray,ptr x] h K:=by
 obtain⟨f,e,hf⟩:=AZ (p1:=p1) (p2:=p2) i hi;rw[e];refine aK (adx ?_);unfold Nk;refine(Own.start h).box λw2 h1 o=> ?_;have o:Own h h1 [ak w2 [.bool (yq i),.bool (AY i),f] 109]:=o;have H1:=H.more o.ext;simp only[aU,bE,bD];have k:=hK h1 o.ext;unfold iV at k;have fin:(!yq i|| !isNil tv)=true->ag h1 (.pointer (some ⟨w2,1,none⟩)) λt17=>bY .not t17 λt18=>aA t18 (K (.bool true) h1) (ag h1 (.pointer (some ⟨x,2,none⟩)) λt23=>bL true .ptr t23 (.pointer none) λt24=>K t24 h1):=λhe=>by
  rw[he,kT]at k;refine o.load 0 rfl rfl ?_;rw[bP];cases hc:AY i with
  |false=>rw[hc,dL,Bool.true_or]at k;rw[dL,bF];exact k
  |true=>rw[hc,cz,sU]at k;rw[cz,aO];refine H1.ld rfl (vM H1.c.nil ?_);rw[Bool.true_bne];exact k
 refine o.load 0 rfl rfl ?_;rw[bP];cases ht:yq i with
 |false=>rw[dL,bF];exact fin (by rw[ht];rfl)
 | true=>
  rw[cz,aO];refine H1.ld rfl (vM H1.t.nil ?_);rw[Bool.true_bne];cases hd: !isNil tv with
  |true=>rw[bF];exact fin (by rw[hd,Bool.or_true])
  |false=>rw[aO];rw[ht,hd]at k;exact k
def aoj{x1:Nat}{T1:TypeId}(hR:g.Right):iG prog (.func (.func 93) #[] #[ptr x1]) (λh=>h[x1]? =some (.cells #[ptr x] T1 (0,0))/\mq h x r g tv cv fv) (σ:=Nat) 0 (zS 6 (iV tv cv)) (u0 6 (iV tv cv)):=by
 rintro yv h0 h Rs K J E ⟨l,rfl⟩ o c hQ hY hK;refine jE (l:=[dS l,ptr x1]) rfl (aej ?_);unfold OB;obtain⟨hm,hI⟩:=hQ _ _ _ c o;refine bJ rfl (bz hm rfl) (AW hR hI λh1 p=> ?_);rw[bP,cz,aO];refine Jy λp1 p2 h2 o2=> ?_;have o:=(o.more p).more o2.ext;refine bV 6 (λi x h'=>x.1=I i/\∃s a,s<=i/\(∀k,s<=k->k<i->iV tv cv k=false)/\J s a/\Own h0 h' a) ⟨rfl,0,Rs,cq _,λk _ h=>absurd h aa,c,o⟩ ?_;rintro i ⟨y,⟨⟩⟩ h Z hi ⟨hy,s,a,hs,hno,hj,o⟩ hZ;dsimp only at hy hZ |-;subst hy;unfold OA;rw[bC,bA];refine⟨λhlt=> ?_,λhge=> ?_⟩
 .have hlt:i<6:=aa;refine Jx i hlt ?_;obtain⟨f,e,hf⟩:=AZ (p1:=p1) (p2:=p2) i hlt;refine o.box λw4 h3 b=> ?_;have b:Own h0 h3 (ak w4 [.bool false,.bool false,.nilFunc] 109::a):=b;refine b.st (l:=ia p1 p2 i) (cs':=ia p1 p2 i) 0 rfl rfl (by rw[e];rfl) rfl (by rw[e];rfl) (by intro u hu;rw[e]at hu;simp at hu;rcases hu with rfl|rfl|rfl;rfl;rfl;exact hf) λh4 d=> ?_;refine d.bZ (cs':=ia p1 p2 i) 0 rfl (by rw[e];rfl) (by rw[e];rfl) ?_;have j:=d.tail;obtain⟨hm,hI⟩:=hQ _ _ _ hj j;refine bJ rfl (bz hm rfl) (YT hlt hI λh5 q=> ?_);have m:=j.more q;unfold GJ;cases hf:iV tv cv i with
  | true=>
   rw[bF];refine hY s _ (i+1) a [] h5 _ ⟨i,hs,hlt,hf,hno,rfl,rfl⟩ hj m.oK (λn h'' hj' o'=> ?_) λn h'' he o'=> ?_
   .rw[bP,cz,aO,bw,wI i aa];exact hZ (I (i+1:Nat),()) h'' hlt ⟨rfl,i+1,n,cq _,λk _ h=>absurd h aa,hj',o'.gi⟩
   .rw[bP,dL,bF];exact hK _ _ (.inr he) o'.gi
  |false=>
   rw[aO,bw,wI i aa];refine hZ (I (i+1:Nat),()) h5 hlt ⟨rfl,s,a,aa,λk h1 h2=> ?_,hj,m⟩;by_cases e:k=i
   .subst e;exact hf
   .exact hno k h1 aa
 .have :i=6:=aa;subst this;exact hK _ _ (.inl ⟨s,λk h1 h2=>hno k h1 h2,hj⟩) o
def pg(tv cv:Value):List Nat:=(List.range 6).filter (iV tv cv)
def YU(o:Own h0 h L)(hR:g.Right)(H:mq h x r g tv cv fv)(hK:∀w h',Own h0 h' (aC aJ 1 3 w (nI (pg tv cv))::L)->K w h'):ah prog 10 [ptr x] h K:=by
 refine aK (ac3 ?_);unfold My;refine aK (adn ?_);unfold M7;refine(Own.start h).box λx1 h1 o1=> ?_;have o1:Own h h1 [ak x1 [ptr x] 37]:=o1;refine Yb o1 (aoj (x:=x) (r:=r) (tv:=tv) (cv:=cv) (fv:=fv) (T1:=37) hR) (λs=>(mj 6 (iV tv cv) (min s 6)).map λ(i:Nat)=>(i:Int)) rfl (λs x s'=> ?_) (λRs h' o'=> ?_) λw h' s hst o'=> ?_
 .rintro⟨j,hs,hj,hf,hno,rfl,rfl⟩;refine⟨(j:Int),rfl,?_,?_⟩
  .rw[iY (show j+1<=6 by omega),iY (show s<=6 by omega),Jo hs hf hno,fq];rfl
  .have :=rG (iV tv cv) (List.range (j+1));rw[gd]at this;rw[iY (show j+1<=6 by omega),gK];unfold mj;omega
 .exact⟨o'.get (Rs.length+0) (by rw[eR aa,show Rs.length+0-Rs.length=0 by omega];rfl),H.more o'.ext⟩
 .have hs:mj 6 (iV tv cv) (min s 6)=pg tv cv:=Jp (Nat.min_le_right _ _) λk' h1 h2=>hst k' aa h2;rw[hs]at o';exact hK w h' (o.frame (o'.bh [0] az))
end
def dst(g:G)(s t:Nat):Int:=aL (g.from s).aM t
structure vN(g:G)(one:Bool)(s t:Nat)(cs:List Nat)(b6:List Ev):Prop where
 o:oV g.n g.aj.length b6
 h:ob g b6
 l:b6.length<2^40
 c:cs.length<2147483648
 yes:dst g s t<aN->Trail g.aj s cs t/\dm g.aj cs=dst g s t/\(one=true->∀e∈b6,e.kind=0->e.side=0/\e.label<=dst g s t)
 no:¬dst g s t<aN->cs=[]
section
variable{h0 h:af}{L T:List aS}{K:KT}{g:G}{x r s t:Nat}{tv cv fv:Value}{al:List Bool}{pl:List Int}{av pv:Value}
def A0(hR:g.Right)(hs:s<g.n)(ht:t<g.n):0<=dst g s t/\dst g s t<=aN:=⟨(gj hR hs).ls.iP ht,(gj hR hs).ls.jX ht⟩
def Eb(h:af)(g:G)(one:Bool)(s t:Nat)(K:KT):Prop:=∀wa a cs b6 h',Own h h' [aC aJ 1 3 wa (nI cs),aC eE 4 100 a b6]->vN g one s t cs b6->K (.tuple #[.agg #[I (dst g s t),wa,a],I 0]) h'
def tU(hF:gy g)(hN:bX h r g)(HP:Vw aJ 1 h pv pl)(HA:Vw eZ 1 h av al)(hl:pl=[]\/g.n=pl.length)(hla:al=[]\/g.aj.length=al.length)(hs:s<g.n)(ht:t<g.n)(hne:s≠t)(hA:xZ g al pl s t)
  (hK:Eb h g true s t K):ah prog 107 [ptr r,.agg (jk s t av pv).toArray] h K:=by
 have hR:=hF.toRight;have f:=hF.jY;have hshort:=hF.short;have c:(g.n+1)*(g.aj.length+1)<2^39:=E9 (nM (show g.n+1<=13 by omega) (show g.aj.length+1<=85 by omega)) az;refine aoi hR hN HP HA hl hla c hs ht (λe=>absurd e hne) λ_ wa d cs h' c1 c2 o=> ?_;have X:=hA.exact hR hs ht;have hd:=A0 hR hs ht;have e:AV (vL g pl al s t) t=dst g s t:=by
  unfold AV;by_cases hlt:dst g s t<aN
  .obtain⟨a,b⟩:=X.yes hlt;have a:(vL g pl al s t).2=true:=a;rw[aW a];exact b
  .have a:(vL g pl al s t).2=false:=X.no hlt;rw[a];simp only[gm,dN];omega
 rw[e];rw[L4]at o;have hlen:=X.len;refine hK wa d cs.reverse _ h' o ⟨X.once,X.IW,by show(SS.run _ _ _ _ _ _ _).1.dg.length<_;omega,?_,λhlt=> ?_,λhlt=> ?_⟩
 .rw[wA];cases hf:(vL g pl al s t).2 with
  |true=>have :=X.short cs hf (c1 hf);omega
  |false=>rw[c2 hf];decide
 .obtain⟨a,b⟩:=X.yes hlt;obtain⟨t1,t2⟩:=X.chain cs a (c1 a);refine⟨t1,t2.trans b,λ_ e he hk=> ?_⟩;have :=X.Xw a e he hk;rw[b]at this;exact this
 .rw[c2 (X.no hlt)];rfl
def Ec(hR:g.Right)(hN:bX h r g)(HP:Vw aJ 1 h pv pl)(hl:pl=[]\/g.n=pl.length)(hs:s<g.n)(ht:t<g.n)(hne:s≠t)(hA:ya ⟨g,s,t,[],pl⟩)
  (hK:Eb h g false s t K):ah prog 108 [ptr r,.agg (jk s t aT pv).toArray] h K:=by
 have hr:qj g s t ([]:List Bool).length pl.length:=by
  unfold qj;refine⟨⟨aa,aa⟩,.inl rfl,?_⟩;rcases hl with rfl|hl
  .exact .inl rfl
  .exact .inr hl.symm
 refine an7 (allow:=[]) hR hN Vw.nil HP (λh=>absurd hr h) (λ_ e=>absurd aa hne) λs' t' e1 e2 hQ hst wa a aj h' hB o=> ?_;have e1:s=s':=aa;have e2:t=t':=aa;subst e1 e2;have hx:(Qs.mk g s t [] pl).fin.aM=dst g s t:=hA.exact hQ hne;obtain⟨st,R,_⟩:=Qs.Xg hQ;rw[hx];have hlen:=R.IX hQ;have b:=hR.most;have hf:aN=72057594037927936:=rfl;unfold Jv at hB;rw[hx]at hB;have hd:=A0 hR hs ht;refine hK wa a aj _ h' o ⟨R.once,R.IW,aa,?_,λhlt=> ?_,λhlt=> ?_⟩
 .rcases hB with ⟨_,rfl⟩|⟨_,_,_,q,_⟩
  .decide
  .have q:aj.length<=2*g.n:=q;omega
 .rcases hB with ⟨q,_⟩|⟨_,q1,q2,_⟩
  .omega
  .exact⟨q1,q2,λh=>by cases h⟩
 .rcases hB with ⟨_,q⟩|⟨q,_⟩
  .exact q
  .exact absurd aa q
structure YV(g:G)(one:Bool)(s t:Nat)(code aM:Int)(cs:List Nat)(b6:List Ev):Prop extends vN g one s t cs b6 where
 ok:dst g s t<aN->code=0/\aM=dst g s t
 bad:¬dst g s t<aN->code=20/\aM=0
def sA(h:af)(g:G)(one:Bool)(s t:Nat)(K:KT):Prop:=∀code aM wa wc a cs b6 h',Own h h' [aC aJ 1 3 wa (nI cs),aC eE 4 100 a b6]->wc.cells= #[wc]->Mh.plainCell wc=true->YV g one s t code aM cs b6->
 K (.tuple #[.agg #[I code,I aM,wa,wc],a]) h'
abbrev ic:List Value:=[I 0,I 0,aT,aT]
def sB{code aM:Int}{wa wc:Value}(h1:Mh.plainCell wa=true)(h2:Mh.plainCell wc=true):∀u∈ [I code,I aM,wa,wc],Mh.plainCell u=true:=by
 intro u hu;simp at hu;rcases hu with rfl|rfl|rfl|rfl
 .rfl
 .rfl
 .exact h1
 .exact h2
def Jz{f a5:Nat}{wa c wc:Value}{cs:List Nat}{b6:List Ev}{one:Bool}{parts:Value->Value->List (Nat×Nat×Value)}{e:KT}(hR:g.Right)(hs:s<g.n)(ht:t<g.n)
  (o:Own h0 h (aC aJ 1 3 wa (nI cs)::aC eE 4 100 c b6::ak f [I (dst g s t),wa,c] 303::ak a5 ic 62::T)) (hS:vN g one s t cs b6) (c1:wc.cells= #[wc]) (c2:Mh.plainCell wc=true)
  (hp:∀a b:Value,a.cells= #[a]->b.cells= #[b]->(∀p∈parts a b,p.2.2.cells= #[p.2.2])/\zP 4 (parts a b)=true/\zO ic (parts a b)=[I 0,a,b,wc])
  (hK:∀code aM i d f' h',d.cells= #[d]->Mh.plainCell d=true->YV g one s t code aM cs b6->Own h0 h' (aC aJ 1 3 i (nI cs)::aC eE 4 100 c b6::f'::ak a5 [I code,I aM,i,d] 62::T)->e c h'):
  au 0 (ptr f) λt23=>ag h t23 λt24=>aq .geq t24 (.int .i64 72057594037927936) λt25=>aA t25
   (aV [(.int .i64 0),(.int .i64 0),(.slice none 0 0),(.slice none 0 0)] [(0,1,(.int .i64 20))] λt26=>au 2 (ptr f) λt27=>ag h t27 λt28=>aD 4 (ptr a5) t26 h λm h_10=>(ag h_10 t27 λj=>j=t28)/\e t28 h_10)
   (au 0 (ptr f) λt29=>ag h t29 λt30=>au 1 (ptr f) λt31=>ag h t31 λt32=>aV [(.int .i64 0),(.int .i64 0),(.slice none 0 0),(.slice none 0 0)] (parts t30 t32) λt33=>au 2 (ptr f) λt34=>ag h t34 λt35=>aD 4 (ptr a5) t33 h λq h_11=>(ag h_11 t34 λk=>k=t35)/\e t35 h_11):=by
 have hd:=A0 hR hs ht;have hf:aN=72057594037927936:=rfl;simp only[aU,bE];refine o.load 2 rfl rfl ?_;rw[dA,bA];refine⟨λhge=> ?_,λhlt=> ?_⟩
 .refine cE (cs':=[I 20,I 0,aT,aT]) (by intro p hp;simp at hp;subst hp;rfl) rfl rfl ?_;refine o.load 2 rfl rfl (o.st (l:=[I 20,I 0,aT,aT]) (cs':=[I 20,I 0,aT,aT]) 3 rfl rfl rfl rfl rfl (sB rfl rfl) λh1 o1=>⟨o1.load 2 rfl rfl rfl,?_⟩);have hn:=hS.no aa;subst hn;have o2:Own h0 h1 (aC aJ 1 3 aT (nI [])::_):=Own.ef o1;exact hK 20 0 aT aT _ h1 rfl rfl ⟨hS,λh=>absurd h aa,λ_=>⟨rfl,rfl⟩⟩ (o2.front 5 [0,2,3,4] az az)
 .have ha:=o.vw 0 rfl;obtain⟨p1,p2,p3⟩:=hp (I (dst g s t)) wa rfl ha.one;refine o.load 2 rfl rfl (o.load 2 rfl rfl (cE (cs':=[I 0,I (dst g s t),wa,wc]) p1 p2 p3 ?_));refine o.load 2 rfl rfl (o.st (l:=[I 0,I (dst g s t),wa,wc]) (cs':=[I 0,I (dst g s t),wa,wc]) 3 rfl rfl rfl rfl rfl (sB ha.plain c2) λh1 o1=>⟨o1.load 2 rfl rfl rfl,?_⟩);exact hK 0 (dst g s t) wa wc _ h1 c1 c2 ⟨hS,λ_=>⟨rfl,rfl⟩,λh=>absurd (show dst g s t<aN by omega) h⟩ o1
def vO{wa a:Value}{cs:List Nat}{b6:List Ev}{D:Int}(h1:Mh.plainCell wa=true)(h2:Mh.plainCell a=true):∀u∈ [I D,wa,a],Mh.plainCell u=true:=by
 intro u hu;simp at hu;rcases hu with rfl|rfl|rfl
 .rfl
 .exact h1
 .exact h2
abbrev nB(way s t:Nat)(act:Int):Value:=.agg #[I way,I s,I t,I act]
abbrev aqF(way s t:Nat)(act:Int):List Value:=[I way,I s,I t,I act]
def YW{fn p way:Nat}{act:Int}{one:Bool}{T1:TypeId}(hR:g.Right)(H:mq h x r g tv cv fv)(hp:h[p]? =some (.cells #[fk fn] T1 (0,0)))(hs:s<g.n)(ht:t<g.n)
  (hF:∀(h':af)(K':KT),bX h' r g->Eb h' g one s t K'->ah prog fn [ptr r,.agg (jk s t aT aT).toArray] h' K')
  (hK:sA h g one s t K):aX prog (.func (.func 194) #[] #[ptr p]) [ptr x,nB way s t act].toArray h K:=by
 refine cg (l:=[ptr x,nB way s t act,ptr p]) rfl (af0 ?_);unfold Rf;refine(Own.start h).box λk h1 o1=>o1.box λa5 h2 o2=> ?_;have o2:Own h h2 [ak a5 ic 62,ak k (aqF way s t act) 56]:=o2;have call:∀{h':af}{K':KT},Ext h h'->Eb h' g one s t K'->aX prog (fk fn) [ptr r,.agg (jk s t aT aT).toArray].toArray h' K':=λm hk=>cg (l:=[ptr r,.agg (jk s t aT aT).toArray]) rfl (I3 (hF _ _ (H.n.more m) hk));refine gW (λy h'=>∃f wa c cs b6,y=(ptr f,())/\vN g one s t cs b6/\Own h h' [aC aJ 1 3 wa (nI cs),aC eE 4 100 c b6,ak f [I (dst g s t),wa,c] 303,ak a5 ic 62,ak k (aqF way s t act) 56]) (λJ hJ=> ?_) ?_
 .refine bJ rfl (bz (o2.ext.get hp) rfl) ?_;simp only[bD,aU,bE];refine(H.more o2.ext).ld rfl (o2.load 1 rfl rfl (o2.load 1 rfl rfl ?_));refine cE (cs':=jk s t aT aT) (by intro p hp;simp at hp;rcases hp with rfl|rfl<;>rfl) rfl rfl ⟨?_,?_⟩
  .refine call o2.ext λwa c cs b6 h3 d hS=> ?_;simp only[cC,cB];have d:=o2.frame d;refine d.box λf h4 i=>i.st (l:=[I (dst g s t),wa,c]) (cs':=[I (dst g s t),wa,c]) 0 rfl rfl rfl rfl rfl (vO (cs:=cs) (b6:=b6) (d.vw 0 rfl).plain (d.vw 1 rfl).plain) λh5 j=> ?_;exact hJ _ _ ⟨f,wa,c,cs,b6,rfl,hS,j.bh [1,2,0,3,4] az⟩
  .refine o2.box λf h3 d=>call d.ext λwa c cs b6 h4 i hS=> ?_;simp only[cC,cB];have i:=d.frame i;refine i.st (l:=[I (dst g s t),wa,c]) (cs':=[I (dst g s t),wa,c]) 2 rfl rfl rfl rfl rfl (vO (cs:=cs) (b6:=b6) (i.vw 0 rfl).plain (i.vw 1 rfl).plain) λh5 j=> ?_;exact hJ _ _ ⟨f,wa,c,cs,b6,rfl,hS,j⟩
 .rintro⟨y,⟨⟩⟩ h3 ⟨f,wa,c,cs,b6,e,hS,d⟩;injection e with e _;dsimp only;subst e;unfold Re;refine Jz (wc:=aT) (parts:=λa b=>[(1,1,a),(2,1,b)]) hR hs ht d hS rfl rfl (λa b ha hb=>⟨λp hp=> ?_,rfl,rfl⟩) λcode aM o q f' h4 d1 d2 hA i=> ?_
  .simp at hp;rcases hp with rfl|rfl
   .exact ha
   .exact hb
  .exact i.bZ 3 rfl rfl rfl (hK code aM o q c cs b6 h4 (i.bh [0,1] az) d1 d2 hA)
end
section
variable{h0 h:af}{L T:List aS}{K:KT}{g:G}{x r s t tb:Nat}{ms:List Nat}{tv cv fv:Value}
def A3(p:Value×Int):List Value:=[p.1,I p.2]
def aok{lv:Value}{rs:List (Value×Int)}(H:Vw A3 2 h lv rs)(hl:rs.length<2^40)(b:∀p∈rs,Mh.plainCell p.1=true)
  (hF:∀p∈rs,∀(h':af)(K':KT),Ext h h'->(∀h'',Ext h' h''->K' (.bool true) h'')->aX prog p.1 [].toArray h' K') (hK:∀h',Ext h h'->K (I 0) h'):ah prog 314 [lv] h K:=by
 refine aK (ahW ?_);unfold TO;refine H.len (bV rs.length (λi x h'=>x.1=I i/\Ext h h') ⟨rfl,.refl _ _⟩ ?_);rintro i ⟨y,⟨⟩⟩ h' Z hi ⟨hy,x1⟩ hZ;dsimp only at hy hZ |-;subst hy;unfold TN;rw[bC,bA];refine⟨λhlt=> ?_,λhge=>hK h' x1⟩;have hlt:i<rs.length:=aa;refine(H.more x1).jW (λ_=>rfl) hlt ?_;refine(Own.start h').box λd h2 o2=> ?_;refine o2.st (l:=A3 rs[i]) (cs':=A3 rs[i]) 0 rfl rfl rfl rfl rfl (by intro u hu;simp[A3]at hu;rcases hu with rfl|rfl;exact b _ (cu hlt);rfl) λh3 a=> ?_;simp only[aU,bE];refine a.load 0 rfl rfl (hF _ (cu hlt) _ _ (x1.trans a.ext λ_ h _=>h) λh4 c=> ?_);rw[bP,cz,aO,bw,wI i aa];exact hZ (I (i+1:Nat),()) h4 hlt ⟨rfl,(x1.trans a.ext λ_ h _=>h).trans c λ_ h _=>h⟩
def aol{way:Nat}{act:Int}(hR:g.Right)(hN:bX h r g)(i:gG h tb g ms)(hne:ms≠ [])(hl:ms.length<=16)(hs:s<g.n)(ht:t<g.n)(hK:∀h',Ext h h'->K (I 0) h'):ah prog 209 [ptr r,ptr tb,nB way s t act] h K:=by
 refine aK (agb ?_);unfold RC;refine(Own.start h).box λn3 h1 o=>o.box λt4 h2 o=>o.box λd h3 o=> ?_;have o:Own h h3 [ak d (aqF way s t act) 56,ak t4 [ptr tb] 48,ak n3 [ptr r] 47]:=o;refine cE (cs':=[.func (.func 315) #[] #[ptr n3],I 1]) (by intro p hp;simp at hp;rcases hp with rfl|rfl<;>rfl) rfl rfl ?_;simp only[aU,bE];refine o.load 0 rfl rfl (o.load 0 rfl rfl ?_);refine cE (cs':=[.func (.func 316) #[] #[ptr t4,ptr n3],I 19]) (by intro p hp;simp at hp;rcases hp with rfl|rfl<;>rfl) rfl rfl ?_;refine cg (l:=[I s,ptr n3]) rfl (TL ?_);unfold Hi;refine o.box λv1 h4 o=>⟨o.load 1 rfl rfl rfl,?_⟩;refine cE (cs':=[.func (.func 313) #[] #[ptr v1,ptr n3],I 17]) (by intro p hp;simp at hp;rcases hp with rfl|rfl<;>rfl) rfl rfl ?_;refine cg (l:=[I t,ptr n3]) rfl (TL ?_);unfold Hi;refine o.box λv2 h5 o=> ?_;refine cE (cs':=[.func (.func 313) #[] #[ptr v2,ptr n3],I 18]) (by intro p hp;simp at hp;rcases hp with rfl|rfl<;>rfl) rfl rfl ?_;have o:Own h h5 [ak v2 [I t] 3,ak v1 [I s] 3,ak d (aqF way s t act) 56,ak t4 [ptr tb] 48,ak n3 [ptr r] 47]:=o;refine o.build (enc:=A3) (n:=2) [(.func (.func 315) #[] #[ptr n3],1),(.func (.func 313) #[] #[ptr v1,ptr n3],17),(.func (.func 313) #[] #[ptr v2,ptr n3],18),(.func (.func 316) #[] #[ptr t4,ptr n3],19)] rfl (bW rfl) rfl λlv h6 o=> ?_;have q1:=o.get 1 rfl;have q2:=o.get 2 rfl;have e:=o.get 4 rfl;have c:=o.get 5 rfl;have node:∀{v:Nat}{w:Nat}(h':af)(K':KT),v<g.n->h'[w]? =some (.cells #[I v] 3 (0,0))->h'[n3]? =some (.cells #[ptr r] 47 (0,0))->bX h' r g->K' (.bool true) h'->aX prog (.func (.func 313) #[] #[ptr w,ptr n3]) [].toArray h' K':=λ{v w} h' K' hv c1 c2 hN hk=>by
  refine cg (l:=[ptr w,ptr n3]) rfl (ahV ?_);unfold TM;have d1:hcell h' ⟨w,0,none⟩=some (I v):=bz c1 rfl;have d2:hcell h' ⟨n3,0,none⟩=some (ptr r):=bz c2 rfl;refine gW (λy h''=>y.1=.bool true/\h''=h') (λJ hJ=> ?_) ?_
  .refine bJ rfl d1 ?_;rw[dA,bT aa,bF];refine bJ rfl d1 (bJ rfl d2 (dV hN ⟨bJ rfl d1 rfl,?_⟩));rw[bC,bT aa];exact hJ _ _ ⟨rfl,rfl⟩
  .rintro⟨y,⟨⟩⟩ h'' ⟨hy,rfl⟩;dsimp only at hy |-;subst hy;exact hk
 refine aok (o.vw 0 rfl) (show 4<2^40 by decide) (by intro p hp;simp at hp;rcases hp with rfl|rfl|rfl|rfl<;>rfl) (λp hp h' K' a hk=> ?_) λh' a=>hK h' (o.uS a);have x0:=o.uS a;simp at hp;rcases hp with rfl|rfl|rfl|rfl
 .refine cg (l:=[ptr n3]) rfl (ahX ?_);unfold TP;exact bJ rfl (bz (a.get c) rfl) (hk _ (.refl _ _))
 .exact node h' _ hs (a.get q2) (a.get c) (hN.more x0) (hk _ (.refl _ _))
 .exact node h' _ ht (a.get q1) (a.get c) (hN.more x0) (hk _ (.refl _ _))
 .refine cg (l:=[ptr t4,ptr n3]) rfl (ahZ ?_);unfold TQ;have f:=i.more x0;refine gW (λy h''=>y.1=.bool true/\Ext h' h'') (λJ hJ=> ?_) ?_
  .refine bJ rfl (bz (a.get e) rfl) (vC (Own.start h') f hl λw h2 o2=>(o2.vw 0 rfl).len ?_);rw[dr,akS,bT (by have :=ur.2 hne;omega),bF];have b:=o2.ext;refine bJ rfl (bz (b.get (a.get e)) rfl) (bJ rfl (bz (b.get (a.get c)) rfl) (yb (f.more b) ⟨bJ rfl (bz (b.get (a.get c)) rfl) rfl,dV ((hN.more x0).more b) ?_⟩));rw[cF,iJ];exact hJ _ _ ⟨rfl,b⟩
  .rintro⟨y,⟨⟩⟩ h'' ⟨hy,b⟩;dsimp only at hy |-;subst hy;exact hk _ b
def Ed{act:List Int}{al:List Bool}(hR:g.Right)(hs:s<g.n)(ht:t<g.n)(hm:∀m∈ms,m<g.n)(hal:dst g s t<aN->∃q,Trail g.aj s q t/\(∀i∈q,fZ al i=true)/\dm g.aj q=dst g s t):xZ g al (qh g (bh ms act) t) s t:=⟨al7 hR (I6 hm),λv=>al6,by rw[aqT hR ht];exact XE,hal⟩
def YX{al:List Bool}(hal:dst g s t<aN->∃q,Trail g.aj s q t/\(∀i∈q,fZ al i=true)/\dm g.aj q=dst g s t):xZ g al [] s t:=⟨al8,λv=>dQ _,rfl,hal⟩
def Ee(hR:g.Right)(hs:s<g.n)(ht:t<g.n):dst g s t<aN->∃q,Trail g.aj s q t/\(∀i∈q,fZ [] i=true)/\dm g.aj q=dst g s t:=λh=>by obtain⟨q,h1,h2,_⟩:=Cs (c:=λ_=>0) (k:=0) hR hs ht rfl h;exact⟨q,h1,λ_ _=>rfl,h2⟩
def aom{way:Nat}{act:Int}(hF:gy g)(hN:bX h r g)(q:gG h tb g ms)(hne:ms≠ [])(hl:ms.length<=16)(hm:∀m∈ms,m<g.n)(hs:s<g.n)(ht:t<g.n)(hst:s≠t)
  (hK:sA h g true s t K):ah prog 110 [ptr r,ptr tb,nB way s t act] h K:=by
 have hR:=hF.toRight;refine aK (aey ?_);unfold OZ;refine(Own.start h).box λv h1 o=>o.box λa6 h2 o=> ?_;have o:Own h h2 [ak a6 ic 62,ak v (aqF way s t act) 56]:=o;refine o.bZ 1 rfl rfl rfl (aol hR (hN.more o.ext) (q.more o.ext) hne hl hs ht λh3 w=> ?_);have o:=o.more w;simp only[aU,bE];rw[fe,iK,aO];refine o.load 1 rfl rfl (o.load 1 rfl rfl ?_);rw[cF,show((s:Int)==(t:Int))=false by simp;omega,aO];refine o.load 1 rfl rfl (o.load 1 rfl rfl (o.load 1 rfl rfl ?_));refine Ja o (q.more o.ext) hR hm hl hs ht λva ac cl zs h4 hA o=> ?_;have o:Own h h4 [aC aJ 1 3 cl zs,ak a6 ic 62,ak v (aqF way s t act) 56]:=o;have u:=hA.1 _ (o.vw 0 rfl);refine gW (λy h'=>∃f wa d cs b6,y=(ptr f,())/\vN g true s t cs b6/\Own h h' [aC aJ 1 3 wa (nI cs),aC eE 4 100 d b6,ak f [I (dst g s t),wa,d] 303,ak a6 ic 62]) (λJ hJ=> ?_) ?_
 .refine o.load 2 rfl rfl (o.load 2 rfl rfl (o.load 2 rfl rfl ⟨?_,?_⟩))
  .refine Jc o (q.more o.ext) hR hm hl ht u hA.2 λpv h5 j=>⟨j.load 3 rfl rfl rfl,j.load 3 rfl rfl rfl,?_⟩;have hp:=j.vw 0 rfl;refine cE (cs':=jk s t aT pv) (by intro p hp';simp at hp';rcases hp' with rfl|rfl|rfl;rfl;rfl;exact hp.one) rfl rfl ⟨?_,?_⟩
   .refine tU (al:=[]) hF (hN.more j.ext) hp Vw.nil (.inr xY.symm) (.inl rfl) hs ht hst (Ed hR hs ht hm (Ee hR hs ht)) λwa d cs b6 h6 c hS=> ?_;simp only[cC,cB];have c:=j.frame c;refine c.box λf h7 i=>i.st (l:=[I (dst g s t),wa,d]) (cs':=[I (dst g s t),wa,d]) 0 rfl rfl rfl rfl rfl (vO (cs:=cs) (b6:=b6) (c.vw 0 rfl).plain (c.vw 1 rfl).plain) λh8 k=> ?_;exact hJ _ _ ⟨f,wa,d,cs,b6,rfl,hS,k.bh [1,2,0,5] az⟩
   .refine j.box λf h6 c=> ?_;refine tU (al:=[]) hF (hN.more c.ext) (c.vw 1 rfl) Vw.nil (.inr xY.symm) (.inl rfl) hs ht hst (Ed hR hs ht hm (Ee hR hs ht)) λwa d cs b6 h7 i hS=> ?_;simp only[cC,cB];have i:=c.frame i;refine i.st (l:=[I (dst g s t),wa,d]) (cs':=[I (dst g s t),wa,d]) 2 rfl rfl rfl rfl rfl (vO (cs:=cs) (b6:=b6) (i.vw 0 rfl).plain (i.vw 1 rfl).plain) λh8 k=> ?_;exact hJ _ _ ⟨f,wa,d,cs,b6,rfl,hS,k.bh [0,1,2,5] az⟩
  .refine o.box λf h5 o=> ?_;refine Jc o (q.more o.ext) hR hm hl ht (hA.1 _ (o.vw 1 rfl)) hA.2 λpv h6 c=>⟨c.load 4 rfl rfl rfl,c.load 4 rfl rfl rfl,?_⟩;have hp:=c.vw 0 rfl;refine cE (cs':=jk s t aT pv) (by intro p hp';simp at hp';rcases hp' with rfl|rfl|rfl;rfl;rfl;exact hp.one) rfl rfl ?_;refine tU (al:=[]) hF (hN.more c.ext) hp Vw.nil (.inr xY.symm) (.inl rfl) hs ht hst (Ed hR hs ht hm (Ee hR hs ht)) λwa d cs b6 h7 i hS=> ?_;simp only[cC,cB];have i:=c.frame i;refine i.st (l:=[I (dst g s t),wa,d]) (cs':=[I (dst g s t),wa,d]) 3 rfl rfl rfl rfl rfl (vO (cs:=cs) (b6:=b6) (i.vw 0 rfl).plain (i.vw 1 rfl).plain) λh8 k=> ?_;exact hJ _ _ ⟨f,wa,d,cs,b6,rfl,hS,k.bh [0,1,3,5] az⟩
 .rintro⟨y,⟨⟩⟩ h5 ⟨f,wa,d,cs,b6,e,hS,j⟩;injection e with e _;dsimp only;subst e;unfold OY;refine Jz (wc:=va) (parts:=λa b=>[(1,1,a),(2,1,b),(3,1,va)]) hR hs ht j hS u.one u.plain (λa b ha hb=>⟨λp hp=> ?_,rfl,rfl⟩) λcode aM z A f' h6 d1 d2 hA c=> ?_
  .simp at hp;rcases hp with rfl|rfl|rfl
   .exact ha
   .exact hb
   .exact u.one
  .exact c.bZ 3 rfl rfl rfl (hK code aM z A d cs b6 h6 (c.bh [0,1] az) d1 d2 hA)
end
section
variable{h0 h:af}{L T:List aS}{K:KT}{g:G}{x r s t way:Nat}{act:Int}{tv cv fv:Value}
abbrev yu(cv fv:Value)(r:Nat)(tv:Value)(way s t:Nat)(act:Int):List Value:=[cv,fv,ptr r,tv,I way,I s,I t,I act]
def YY(q1 qs:Nat):Nat->Value
 |0=>.func (.func 294) #[] #[ptr q1]
 |1=>.func (.func 295) #[] #[ptr q1]
 |2=>.func (.func 296) #[] #[ptr q1]
 |3=>.func (.func 298) #[] #[ptr q1]
 |_=>.func (.func 299) #[ptr qs] #[]
structure yw(h:af)(g:G)(r:Nat)(tv cv fv:Value)(way:Nat):Prop where
 n:bX h r g
 c:∃c b xs M,cv=ptr c/\fv=ptr b/\xs.length=g.n/\jg xs+1=((M:Nat):Int)/\M<=256/\(∀z∈xs,0<=z)/\iB h c xs/\mM h b M g.aj.length (iT g xs M)
 w:way=4\/way=5/\∃t ms,tv=ptr t/\gG h t g ms/\ms≠ []/\ms.length<=16/\∀m∈ms,m<g.n
def yw.more{h':af}(H:yw h g r tv cv fv way)(e:Ext h h'):yw h' g r tv cv fv way:=by
 obtain⟨n,⟨c,b,xs,M,q1,q2,d,f,i,j,k,l⟩,w⟩:=H;refine⟨n.more e,⟨c,b,xs,M,q1,q2,d,f,i,j,k.more e,l.more e⟩,?_⟩;rcases w with h|⟨h,t,ms,a,b,c⟩
 .exact .inl h
 .exact .inr ⟨h,t,ms,a,b.more e,c⟩
def YZ{qs v:Nat}{T1:TypeId}(h2:h[qs]? =some (.cells (yu cv fv r tv way s t act).toArray T1 (0,0)))(hN:bX h r g)(hv:v<g.n)(hK:K (.bool true) h):ah prog 297 [ptr qs,I v] h K:=by refine aK (ahF ?_);unfold Tt;rw[dA,bT aa,bF];have c2:hcell h ⟨qs,2,none⟩=some (ptr r):=bz h2 rfl;simp only[bD,aU,bE];refine bJ rfl c2 (dV hN ?_);rw[bC,bT aa];exact hK
def aon{q1 qs:Nat}{T1 T2:TypeId}(hR:g.Right)(h1:h[q1]? =some (.cells #[ptr qs] T1 (0,0)))(h2:h[qs]? =some (.cells (yu cv fv r tv way s t act).toArray T2 (0,0)))(H:yw h g r tv cv fv way)(hs:s<g.n)(ht:t<g.n)
  (hK:∀h',Ext h h'->K (.bool true) h'):∀i,i<5->aX prog (YY q1 qs i) [].toArray h K
 |0,_=>by refine cg (l:=[ptr q1]) rfl (ahC ?_);unfold Tp;have c1:hcell h ⟨q1,0,none⟩=some (ptr qs):=bz h1 rfl;have c2:hcell h ⟨qs,2,none⟩=some (ptr r):=bz h2 rfl;refine bJ rfl c1 ?_;simp only[bD,aU,bE];exact bJ rfl c2 (hK _ (.refl _ _))
 | 1,_=>by
  refine cg (l:=[ptr q1]) rfl (ahD ?_);unfold Tq;have c1:hcell h ⟨q1,0,none⟩=some (ptr qs):=bz h1 rfl;have c2:hcell h ⟨qs,4,none⟩=some (I way):=bz h2 rfl;refine bJ rfl c1 ?_;simp only[bD,aU,bE];refine bJ rfl c2 ?_;rw[cF,kD];refine⟨λ_=>hK _ (.refl _ _),λhne=>bJ rfl c1 ?_⟩;simp only[bD,aU,bE];refine bJ rfl c2 ?_;have :way=5:=by
   rcases H.w with h|⟨h,_⟩
   .exact absurd aa hne
   .exact h
  rw[cF,this];exact hK _ (.refl _ _)
 |2,_=>by refine cg (l:=[ptr q1]) rfl (ahE ?_);unfold Ts;have c1:hcell h ⟨q1,0,none⟩=some (ptr qs):=bz h1 rfl;have c2:hcell h ⟨qs,5,none⟩=some (I s):=bz h2 rfl;refine bJ rfl c1 (bJ rfl c1 ?_);simp only[bD,aU,bE];exact bJ rfl c2 (YZ h2 H.n hs (hK _ (.refl _ _)))
 |3,_=>by refine cg (l:=[ptr q1]) rfl (ahG ?_);unfold Tu;have c1:hcell h ⟨q1,0,none⟩=some (ptr qs):=bz h1 rfl;have c2:hcell h ⟨qs,6,none⟩=some (I t):=bz h2 rfl;refine bJ rfl c1 (bJ rfl c1 ?_);simp only[bD,aU,bE];exact bJ rfl c2 (YZ h2 H.n ht (hK _ (.refl _ _)))
 | 4,_=>by
  refine cg (l:=[ptr qs]) rfl (ahI ?_);unfold Tv;have c0:hcell h ⟨qs,0,none⟩=some cv:=bz h2 rfl;have c1:hcell h ⟨qs,1,none⟩=some fv:=bz h2 rfl;have c2:hcell h ⟨qs,2,none⟩=some (ptr r):=bz h2 rfl;obtain⟨c,b,xs,M,rfl,rfl,j,k,q,u,m,o⟩:=H.c;refine gW (λy h'=>y.1=.bool true/\Ext h h') (λJ hJ=> ?_) ?_
  .simp only[bD,aU,bE];refine bJ rfl c2 (bJ rfl c0 (bJ rfl c1 (Yi hR j H.n m o k λh3 a=> ?_)));rw[bF];have d4:hcell h3 ⟨qs,4,none⟩=some (I way):=bz (a.get h2) rfl;refine bJ rfl d4 ?_;rw[fe];rcases H.w with rfl|⟨rfl,tb,ms,rfl,hT,hne,hl,hm⟩
   .exact hJ _ _ ⟨rfl,a⟩
   .rw[show(((5:Nat):Int) != 5)=false from rfl,aO];refine aK (aiM ?_);unfold UR;have d3:hcell h3 ⟨qs,3,none⟩=some (ptr tb):=bz (a.get h2) rfl;refine gW (λy h'=>y.1=.bool true/\Ext h h') (λv p=> ?_) ?_
    .simp only[bD,aU,bE];refine bJ rfl d3 (vC (Own.start h3) (hT.more a) hl λw h4 f=>(f.vw 0 rfl).len ?_);rw[dr,akS,bT (by have :=ur.2 hne;omega),bF];have d:Ext h h4:=a.trans f.ext λ_ h _=>h;have e3:hcell h4 ⟨qs,3,none⟩=some (ptr tb):=bz (d.get h2) rfl;have e2:hcell h4 ⟨qs,2,none⟩=some (ptr r):=bz (d.get h2) rfl;refine bJ rfl e3 (bJ rfl e2 (yb (hT.more d) ⟨bJ rfl e2 rfl,dV (H.n.more d) ?_⟩));rw[cF,iJ];exact p _ _ ⟨rfl,d⟩
    .rintro⟨y,⟨⟩⟩ h5 ⟨hy,e⟩;dsimp only at hy |-;subst hy;exact hJ _ _ ⟨rfl,e⟩
  .rintro⟨y,⟨⟩⟩ h5 ⟨hy,e⟩;dsimp only at hy |-;subst hy;exact hK _ e
 |i+5,h=>absurd h aa
def aoo{q1 qs:Nat}{T1:TypeId}:Gd prog (.func (.func 293) #[] #[ptr q1]) (λh=>h[q1]? =some (.cells #[ptr qs] T1 (0,0))) (λx=>∃c:Int,∃i,i<5/\x=[I c,YY q1 qs i]):=by
 rintro yv h0 h Rs K J E ⟨l,rfl⟩ o a hQ hY hK;refine jE (l:=[dS l,ptr q1]) rfl (ahB ?_);unfold To;refine hY () _ () Rs [] h _ ⟨1,0,az,rfl⟩ a o.oK (λRs h j o=> ?_) λRs h e o=>by rw[aO];exact hK _ _ (.inr e) o.gi
 rw[bF];refine hY () _ () Rs [] h _ ⟨16,1,az,rfl⟩ j o (λRs h j o=> ?_) λRs h e o=>by rw[aO];exact hK _ _ (.inr e) o.gi
 rw[bF];refine hY () _ () Rs [] h _ ⟨17,2,az,rfl⟩ j o (λRs h j o=> ?_) λRs h e o=>by rw[aO];exact hK _ _ (.inr e) o.gi
 rw[bF];refine hY () _ () Rs [] h _ ⟨18,3,az,rfl⟩ j o (λRs h j o=> ?_) λRs h e o=>by rw[aO];exact hK _ _ (.inr e) o.gi
 rw[bF];refine bJ rfl (bz (hQ _ _ _ j o.gi) rfl) ?_;exact hY () _ () Rs [] h _ ⟨19,4,az,rfl⟩ j o (λRs h j o=>hK _ _ (.inl ⟨(),trivial,j⟩) o.gi) λRs h e o=>hK _ _ (.inr e) o.gi
def aop{xs:List Int}{M k:Nat}(hR:g.Right)(hs:s<g.n)(ht:t<g.n)(hk:aL xs t=(k:Int))(a:k<M):dst g s t<aN->∃q,Trail g.aj s q t/\(∀i∈q,fZ (sx g.aj.length λi=>fV (iT g xs M) (bM g.aj.length) k i) i=true)/\dm g.aj q=dst g s t:=λh=>by obtain⟨q,h1,h2,h3⟩:=Cs (c:=aL xs) (k:=aL xs t) hR hs ht rfl h;refine⟨q,h1,λi hi=> ?_,h2⟩;have hil:=h1.lt i hi;unfold fZ sx;rw[cI,pK,List.getElem?_range hil];show(_||fV (kO g xs M M) _ _ _)=true;rw[Yg hil (cq _),bT a,kT,<-hk,h3 i hi,Bool.or_true]
def aoq(hF:gy g)(H:yw h g r tv cv fv way)(Q:tv=.pointer none\/∃t,tv=ptr t)(hs:s<g.n)(ht:t<g.n)(hst:s≠t)
  (hK:sA h g true s t K):ah prog 105 [ptr r,tv,.agg #[cv,fv],nB way s t act] h K:=by
 have hR:=hF.toRight;have hshort:=hF.short;refine aK (aeu ?_);unfold OQ;refine(Own.start h).box λz h1 o=>o.box λa7 h2 o=>o.box λt8 h3 o=>o.box λt9 h4 o=> ?_;obtain⟨c,b,xs,M,rfl,rfl,ay,aA,Y,Z,S,ag⟩:=H.c;have o:Own h h4 [ak t9 [aT] 63,ak t8 ic 62,ak a7 (aqF way s t act) 56,ak z [ptr c,ptr b] 201]:=o;refine o.bZ 3 rfl rfl rfl (o.bZ 2 rfl rfl rfl ?_);have aB:tv.cells= #[tv]:=by rcases Q with rfl|⟨_,rfl⟩<;>rfl
 have eq:∀{K':Value->Prop},K' (.agg (yu (ptr c) (ptr b) r tv way s t act).toArray)->aV [(.pointer none),(.pointer none),(.pointer none),(.pointer none),(.int .i64 0),(.int .i64 0),(.int .i64 0),(.int .i64 0)] [(0,2,.agg #[ptr c,ptr b]),(2,1,ptr r),(3,1,tv),(4,4,.agg (aqF way s t act).toArray)] K':=λ{K'} hk=>by
  rcases Q with rfl|⟨_,rfl⟩
  .exact⟨bW rfl,hk⟩
  .exact⟨bW rfl,hk⟩
 refine eq (o.box λqs h5 o=> ?_);refine aK (afV ?_);unfold Q7;refine o.box λq1 h6 o=> ?_;have o:Own h h6 [ak q1 [ptr qs] 293,ak qs (yu (ptr c) (ptr b) r tv way s t act) 295,ak t9 [aT] 63,ak t8 ic 62,ak a7 (aqF way s t act) 56,ak z [ptr c,ptr b] 201]:=o;refine o.range (aoo (qs:=qs) (T1:=293)) (λ_ x _ hn=>by obtain⟨_,_,_,rfl⟩:=hn;rfl)
  (λ_ Rs=>Rs=[ak q1 [ptr qs] 293,ak qs (yu (ptr c) (ptr b) r tv way s t act) 295,ak t9 [aT] 63,ak t8 ic 62,ak a7 (aqF way s t act) 56,ak z [ptr c,ptr b] 201]) (λ_=>False) (λ_ _=>False) rfl ?_ ?_ ?_ (λ_ _ h=>h.elim) (λ_ _ _ h=>h.elim)
 .rintro _ Rs h' rfl o';exact o'.get 0 rfl
 .rintro N _ x _ Rs Pr h' R ⟨cd,i,hi,rfl⟩ rfl o' hN _ _;dsimp only[gh];unfold OO;refine o'.begin 0 rfl λh8 A=> ?_;refine aon (h:=h8) hR (A.get 2 rfl) (A.get 3 rfl) (H.more A.ext) hs ht (λh9 ai=> ?_) i hi;rw[bP,cz,aO];exact hN _ h9 rfl (A.more ai)
 .rintro _ h' Rs _ rfl o;have o:Own h h' [cw h6.size,ak q1 [ptr qs] 293,ak qs (yu (ptr c) (ptr b) r tv way s t act) 295,ak t9 [aT] 63,ak t8 ic 62,ak a7 (aqF way s t act) 56,ak z [ptr c,ptr b] 201]:=o;simp only[aU,bE];refine o.load 5 rfl rfl (o.load 5 rfl rfl ?_);rw[cF,show((s:Int)==(t:Int))=false by simp;omega,aO];refine o.mkMap λm h7 o=>o.mZ 0 rfl (f':=cM (λ_=>none) 4 (.func (.func 190) #[ptr qs] #[])) (λx=>rfl) λh8 o=>o.mZ 0 rfl (f':=cM (cM (λ_=>none) 4 (.func (.func 190) #[ptr qs] #[])) 5 (.func (.func 191) #[ptr qs] #[])) (λx=>rfl) λh9 o=> ?_;refine o.load 6 rfl rfl (o.look 0 rfl ?_);simp only[gm,dN];obtain⟨k,hk⟩:=iX (show 0<=aL xs t by rw[<-jc aa];exact Z _ (cu _));have U:k<M:=by
   have :=Gq (l:=xs) (x:=aL xs t) (by rw[<-jc (d:=xs) (v:=t) aa];exact cu _);omega
  have hlb:bM g.aj.length<=12:=by unfold bM;omega
  have an:M*bM g.aj.length<2^40:=E9 (nM Y hlb) az;have hal:=aop (s:=s) (M:=M) hR hs ht hk U;have hall:g.aj.length=(sx g.aj.length λi=>fV (iT g xs M) (bM g.aj.length) k i).length:=by simp[sx]
  generalize hA:(sx g.aj.length λi=>fV (iT g xs M) (bM g.aj.length) k i)=al at hal hall;refine aX.mono (K:=λv h'=>∃wc pv pl,v=.tuple #[wc,pv]/\wc.cells= #[wc]/\Mh.plainCell wc=true/\(pl=[]\/g.n=pl.length)/\xZ g al pl s t/\
   Own h h' [aC aJ 1 2 pv pl,cw h6.size,ak t9 [aT] 63,ak t8 ic 62,ak a7 (aqF way s t act) 56,ak z [ptr c,ptr b] 201]) ?_ λv h10⟨wc,pv,pl,e,w1,w2,B,C,o⟩=> ?_
  .rcases H.w with rfl|⟨rfl,tb,ms,rfl,hT,hne,hl,hm⟩
   .refine cg (l:=[ptr qs]) rfl (afW ?_);unfold Q8;exact⟨aT,aT,[],rfl,rfl,rfl,.inl rfl,YX hal,(Own.ef (enc:=aJ) (n:=1) (T:=2) o).bh [0,2,5,6,7,8] az⟩
   .refine cg (l:=[ptr qs]) rfl (afX ?_);unfold Q9;simp only[bD,aU,bE];refine o.load 3 rfl rfl (o.load 3 rfl rfl (o.load 3 rfl rfl (o.load 3 rfl rfl ?_)));refine Ja o (hT.more o.ext) hR hm hl hs ht λva ac cl zs h11 hB o=>o.load 4 rfl rfl (o.load 4 rfl rfl ?_);have F:=hB.1 _ (o.vw 0 rfl);refine Jc o (hT.more o.ext) hR hm hl ht F hB.2 λpv h12 o=> ?_;exact⟨va,pv,_,rfl,F.one,F.plain,.inr xY.symm,Ed hR hs ht hm hal,o.bh [0,3,6,7,8,9] az⟩
  .subst e;simp only[cC,cB];have aD:∀{h':af},Ext h h'->iB h' c xs:=λe=>S.more e;have V:∀{h':af}{K':KT},Ext h h'->K' (I k) h'->ah prog 193 [ptr c,I t] h' K':=λe hk'=>Ji (S.more e) aa (by rw[hk];exact hk');have O:∀{h':af}{K':KT}{L':List aS},Own h h' L'->(∀w h'',Own h h'' (aC eZ 1 4 w al::L')->K' w h'')->ah prog 192 [ptr b,I k] h' K':=λo' hk'=>
    am9 o' (ag.more o'.ext) U an aa (vI (k:=M)) λw h'' W=>hk' w h'' (by rw[hA]at W;exact W)
   have P:∀{w:Value}{K':Value->Prop},w.cells= #[w]->pv.cells= #[pv]->K' (.agg (jk s t w pv).toArray)->aV [(.int .i64 0),(.int .i64 0),(.slice none 0 0),(.slice none 0 0)] [(0,1,I s),(1,1,I t),(2,1,w),(3,1,pv)] K':=λ{w K'} h1 h2 hk'=>by
    refine cE (cs':=jk s t w pv) ?_ rfl rfl hk';intro p hp;simp at hp;rcases hp with rfl|rfl|rfl|rfl
    .rfl
    .rfl
    .exact h1
    .exact h2
   have fp:∀{h':af}{wa j:Value}{cs:List Nat}{b6:List Ev}{L':List aS},Own h h' (aC aJ 1 3 wa (nI cs)::aC eE 4 100 j b6::L')->∀u∈ [I (dst g s t),wa,j],Mh.plainCell u=true:=λ{h' wa j cs b6 L'} o'=>vO (cs:=cs) (b6:=b6) (o'.vw 0 rfl).plain (o'.vw 1 rfl).plain;refine gW (λy h'=>∃f wa j cs b6,y=(ptr f,())/\vN g true s t cs b6/\Own h h' [aC aJ 1 3 wa (nI cs),aC eE 4 100 j b6,ak f [I (dst g s t),wa,j] 303,ak t8 ic 62,cw h6.size,ak t9 [aT] 63]) (λJ hJ=> ?_) ?_
   .refine o.load 4 rfl rfl (o.load 4 rfl rfl (o.load 5 rfl rfl (o.load 5 rfl rfl (o.load 4 rfl rfl ⟨?_,?_⟩))))
    .refine V o.ext ⟨o.load 4 rfl rfl rfl,o.load 4 rfl rfl rfl,o.load 5 rfl rfl rfl,?_,?_⟩
     .refine O o λw h11 o=>⟨o.load 5 rfl rfl rfl,o.load 5 rfl rfl rfl,P (o.vw 0 rfl).one (o.vw 1 rfl).one ⟨?_,?_⟩⟩
      .refine tU hF (H.n.more o.ext) (o.vw 1 rfl) (o.vw 0 rfl) B (.inr hall) hs ht hst C λwa j cs b6 h12 o2 hS=> ?_;simp only[cC,cB];have o2:=o.frame o2;refine o2.box λf D aq=>aq.st (l:=[I (dst g s t),wa,j]) (cs':=[I (dst g s t),wa,j]) 0 rfl rfl rfl rfl rfl (fp o2) λE q=> ?_;exact hJ _ _ ⟨f,wa,j,cs,b6,rfl,hS,q.bh [1,2,0,7,5,6] az⟩
      .refine o.box λf h12 o=> ?_;refine tU hF (H.n.more o.ext) (o.vw 2 rfl) (o.vw 1 rfl) B (.inr hall) hs ht hst C λwa j cs b6 D o2 hS=> ?_;simp only[cC,cB];have o2:=o.frame o2;refine o2.st (l:=[I (dst g s t),wa,j]) (cs':=[I (dst g s t),wa,j]) 2 rfl rfl rfl rfl rfl (fp o2) λE q=> ?_;exact hJ _ _ ⟨f,wa,j,cs,b6,rfl,hS,q.bh [0,1,2,7,5,6] az⟩
     .refine o.box λf h11 o=>O o λw h12 o=>⟨o.load 6 rfl rfl rfl,o.load 6 rfl rfl rfl,P (o.vw 0 rfl).one (o.vw 2 rfl).one ?_⟩;refine tU hF (H.n.more o.ext) (o.vw 2 rfl) (o.vw 0 rfl) B (.inr hall) hs ht hst C λwa j cs b6 D o2 hS=> ?_;simp only[cC,cB];have o2:=o.frame o2;refine o2.st (l:=[I (dst g s t),wa,j]) (cs':=[I (dst g s t),wa,j]) 3 rfl rfl rfl rfl rfl (fp o2) λE q=> ?_;exact hJ _ _ ⟨f,wa,j,cs,b6,rfl,hS,q.bh [0,1,3,7,5,6] az⟩
    .refine o.box λf h11 o=>V o.ext ⟨o.load 5 rfl rfl rfl,o.load 5 rfl rfl rfl,o.load 6 rfl rfl rfl,?_⟩;refine O o λw h12 o=>⟨o.load 6 rfl rfl rfl,o.load 6 rfl rfl rfl,P (o.vw 0 rfl).one (o.vw 2 rfl).one ?_⟩;refine tU hF (H.n.more o.ext) (o.vw 2 rfl) (o.vw 0 rfl) B (.inr hall) hs ht hst C λwa j cs b6 D o2 hS=> ?_;simp only[cC,cB];have o2:=o.frame o2;refine o2.st (l:=[I (dst g s t),wa,j]) (cs':=[I (dst g s t),wa,j]) 3 rfl rfl rfl rfl rfl (fp o2) λE q=> ?_;exact hJ _ _ ⟨f,wa,j,cs,b6,rfl,hS,q.bh [0,1,3,7,5,6] az⟩
   .rintro⟨y,⟨⟩⟩ D ⟨f,wa,j,cs,b6,e,hS,o⟩;injection e with e _;dsimp only;subst e;unfold OP;refine Jz (wc:=wc) (parts:=λa b=>[(1,1,a),(2,1,b),(3,1,wc)]) hR hs ht o hS w1 w2 (λa b ha hb=>⟨λp hp=> ?_,rfl,rfl⟩) λcode aM au av f' E d1 d2 hA o=> ?_
    .simp at hp;rcases hp with rfl|rfl|rfl
     .exact ha
     .exact hb
     .exact w1
    .have X:=o.vw 1 rfl;refine o.bu 5 (cs':=[j]) rfl rfl rfl X.one X.plain λaE o=>o.jV 4 rfl λax o=>o.bZ 3 rfl rfl rfl (o.load 5 rfl rfl ?_);exact hK code aM au av j cs b6 ax (o.bh [0,1] az) d1 d2 hA
end
section
variable{h0 h:af}{L:List aS}{K:KT}{e:Nat}{tv:Value}
def aot{K:Exit->bU->List Nat->af->Prop}(hk:K .normal [(6,.bool true),(5,.iface 329 tv),(1,.iface 329 tv),(0,ptr e)] [] h):
  compile prog 18 false (cL (cR (f212.body.getD .skip))) .leaf [(1,.iface 329 tv),(0,ptr e)] [] h K:=
 Eq.mpr (α:=compile prog 18 false (cL (cR (f212.body.getD .skip))) .leaf [(1,.iface 329 tv),(0,ptr e)] [] h K) (β:=K .normal [(6,.bool true),(5,.iface 329 tv),(1,.iface 329 tv),(0,ptr e)] [] h) bn hk
def A4(e own:Value)(tv:Value):bU:=[(3,.bool true),(2,own),(11,.bool true),(10,tv),(7,.tuple #[tv,.bool true]),(9,.tuple #[tv,.bool true]),(8,.iface 329 tv),(6,.bool true),(5,.iface 329 tv),(1,.iface 329 tv),(0,e)]
def aou{K:bU->af->Prop}(hk:aB 329 (.agg #[.int .i64 0]) h λown h1=>aD 1 own tv h1 λ_ h2=>K (A4 (ptr e) own tv) h2):
  sk prog 18 (Ap (cL (cT (cR (cR (f212.body.getD .skip)))))) (λ_ _=>False) (Ap (cL (cT (cR (cR (f212.body.getD .skip)))))).toList [(6,.bool true),(5,.iface 329 tv),(1,.iface 329 tv),(0,ptr e)] h K:=
 Eq.mpr (α:=sk prog 18 (Ap (cL (cT (cR (cR (f212.body.getD .skip)))))) (λ_ _=>False) (Ap (cL (cT (cR (cR (f212.body.getD .skip)))))).toList [(6,.bool true),(5,.iface 329 tv),(1,.iface 329 tv),(0,ptr e)] h K)
  (β:=aB 329 (.agg #[.int .i64 0]) h λown h1=>aD 1 own tv h1 λ_ h2=>K (A4 (ptr e) own tv) h2) bn hk
def aov{own:Value}{K:af->Prop}(hk:au 0 own λt15=>ag h t15 λt16=>aV [(.int .i64 0),(.int .i64 0),(.slice none 0 0),(.slice none 0 0)] [(0,1,t16)] λt17=>aD 4 (ptr e) t17 h λ_ h3=>K h3):
  compile prog 18 false (cR (cT (cR (cR (f212.body.getD .skip))))) (.two (.two .leaf (.two .leaf .leaf)) .leaf) (A4 (ptr e) own tv) [] h (λex _ m h'=>ex=.normal/\m=[]/\K h'):=
 Eq.mpr (α:=compile prog 18 false (cR (cT (cR (cR (f212.body.getD .skip))))) (.two (.two .leaf (.two .leaf .leaf)) .leaf) (A4 (ptr e) own tv) [] h (λex _ m h'=>ex=.normal/\m=[]/\K h'))
  (β:=au 0 own λt15=>ag h t15 λt16=>aV [(.int .i64 0),(.int .i64 0),(.slice none 0 0),(.slice none 0 0)] [(0,1,t16)] λt17=>aD 4 (ptr e) t17 h λ_ h3=>Exit.normal=.normal/\([]:List Nat)=[]/\K h3) bn (by simpa using hk)
def aow{i:Nat}{f:Int}(o:Own h0 h L)(hi:L[i]? =some (ak e ic 62)){KP:af->Prop}(hK:∀h',Own h0 h' (L.set i (ak e [I f,I 0,aT,aT] 62))->KP h'):
  Dz prog 212 #[ptr e] [{v:=.iface 329 (.agg #[I f]),recovered:=false}] h KP:=by
 refine⟨bn,λw hw=> ?_⟩;subst hw;refine callsDIn_of_wpSIn func212 rfl trivial λc₀ cs hu=> ?_;apply wpSIn_seq;generalize hQ:bodyPostS prog _ c₀ cs _=Q;apply wpSIn_region;simp[wpOpsSIn,go_sem,recoverD,hu,ntmps212,Exit.thenS];have hr:∀(tm:Array Value),tm[0]? =some (ptr e)->tm[1]? =some (.iface 329 (.agg #[I f]))->tm.size=18->
   Code.wpSIn Fence.wide 0 prog (cR (f212.body.getD .skip)) Q {tmps:=tm,defers:=[]} ({c₀ with mode:=.panicking [{v:=.iface 329 (.agg #[I f]),recovered:=true}]}::cs) w:=by
  intro tm h1 h2 hs;subst hQ;refine wpSIn_of_wpIn rfl ?_;have hm:prog.follows .mixedOrders=true:=bn;have g:cR (f212.body.getD .skip)=.seq (cL (cR (f212.body.getD .skip))) (.cond (.tmp 6) (.seq (.region (uN (cL (cT (cR (cR (f212.body.getD .skip)))))) (Ap (cL (cT (cR (cR (f212.body.getD .skip)))))) false) (cR (cT (cR (cR (f212.body.getD .skip)))))) .skip):=bn;rw[g];refine wpIn_seq ?_;have j:Rel [(1,.iface 329 (.agg #[I f])),(0,ptr e)] tm:=by
   intro s v hv;unfold Mh.look at hv;split at hv
   .rename_i hb;have :=gl hb;subst this;rw[h2];exact hv
   .unfold Mh.look at hv;split at hv
    .rename_i hb;have :=gl hb;subst this;rw[h1];exact hv
    .cases hv
  refine jT (cL (cR (f212.body.getD .skip))) .leaf none _ [] w.heap (λex e' m h'=>ex=.normal/\m=[]/\h'=w.heap/\e'=[(6,.bool true),(5,.iface 329 (.agg #[I f])),(1,.iface 329 (.agg #[I f])),(0,ptr e)])
   (aot ⟨rfl,rfl,rfl,rfl⟩) hm [] _ w _ j hs rfl rfl ?_
  rintro ex e1 m1 a1 w1 d k q hs1 _ _ ⟨rfl,rfl,r,rfl⟩;refine wpIn_cond_true (c:=.tmp 6) (by rw[qD,<-d.ev (x:=.tmp 6) (by rfl)];rfl) (wpIn_seq ?_);refine akP (n:=18) bn d k r (K:=λe2 h2=>∃own,e2=A4 (ptr e) own (.agg #[I f])/\∃b,own=ptr b/\Own h0 h2 (ak b [I f] 329::L)) ?_ ?_
  .refine aou (e:=e) (tv:=.agg #[I f]) ?_;refine o.box λown h2 o2=>o2.st (l:=[I f]) (cs':=[I f]) 0 rfl rfl rfl rfl rfl (by intro u hu;simp at hu;subst hu;rfl) λh3 a=> ?_;exact⟨ptr own,rfl,own,rfl,a⟩
  rintro e2 a2 w2 t hn2 hd2 hs2 ⟨_,rfl,b,rfl,o2⟩;refine jT (cR (cT (cR (cR (f212.body.getD .skip))))) (.two (.two .leaf (.two .leaf .leaf)) .leaf) none _ [] w2.heap (λex _ m h'=>ex=.normal/\m=[]/\KP h')
   (aov (own:=ptr b) ?_) hm [] _ w2 _ t hn2 (hd2.trans q) rfl ?_
  .simp only[aU,bE];refine o2.load 0 rfl rfl (cE (cs':=[I f,I 0,aT,aT]) (by intro p hp;simp at hp;subst hp;rfl) rfl rfl ?_);exact o2.st (l:=[I f,I 0,aT,aT]) (cs':=[I f,I 0,aT,aT]) (i+1) (by simpa using hi) rfl rfl rfl rfl (sB rfl rfl) λh3 a=>hK h3 (by simpa using a.tail)
  .rintro ex e' m' a' w' hrl _ hd y _ _ ⟨rfl,rfl,hh⟩;have z:a'.defers=[]:=hd;refine⟨z,_,rfl,.tuple #[],?_,_,rfl,rfl,(hs1.trans hs2).trans y,hh⟩
   .have hq:gu prog e' w'.heap f212.results.toList (λl=>l=[]):=by
     rw[results212];rfl
    obtain⟨l,hl,rfl⟩:=tc hrl hq;exact pO hl w' rfl
 refine hr _ ?_ ?_ ?_
 .simp
 .simp
 .simp
def Y3(P:Program)(a b:Value)(h:af)(K:KT)(c:lY):Prop:=
 bY .not a λt5=>
 aA t5
 (aV [(.int .i64 0)] [(0,1,b)] λt7=>
 c [{v:=.iface 329 t7,recovered:=false}] h)
 (K (.tuple #[]) h)
def aox(a b:Value){h:af}{K:KT}{d:lY}(H:Y3 prog a b h K d):An prog 216 [a,b].toArray h K d:=
 aor (eH:=.two (.pl .leaf) (.two .Ef (.pl .leaf))) (c:=f216.body.getD .skip) func216 bn bn bn iC
  (Eq.mpr bn H)
def Y4(P:Program)(t28 a6:Value)(K:KT)(a:Value)(h_24:af):Prop:=
 au 2 a λt46=>
 ag h_24 t46 λt47=>
 au 0 a λt48=>
 ag h_24 t48 λt49=>
 aq .lss t49 (.int .i64 72057594037927936) λt50=>
 Ao P (.func (.func 216) #[] #[]) [t50,(.int .i64 20)].toArray h_24 (λ_ h_25=>
 au 0 a λt52=>
 ag h_25 t52 λt53=>
 au 1 a λt54=>
 ag h_25 t54 λt55=>
 aV [(.int .i64 0),(.int .i64 0),(.slice none 0 0),(.slice none 0 0)] [(1,1,t53),(2,1,t55),(3,1,t28)] λt57=>
 aD 4 a6 t57 h_25 λ_ h_26=>
 js P 212 #[a6] h_26 λh_27=>
 bq 4 h_27 a6 λb=>
 K (.tuple #[b,t47]) h_27) (λc h_28=>
 Dz P 212 #[a6] c h_28 λh_29=>
 bq 4 h_29 a6 λd=>
 K (.tuple #[d,t47]) h_29)
def Y5(P:Program)(n0 t1 q2:Value)(h:af)(K:KT):Prop:=
 aB 56 q2 h λa h_1=>
 aB 62 (.agg #[(.int .i64 0),(.int .i64 0),(.slice none 0 0),(.slice none 0 0)]) h_1 λa6 h_2=>
 bq 4 h_2 a λt13=>
 ah P 213 [n0,t1,t13] h_2 λt14 h_3=>
 au 1 a λt15=>
 ag h_3 t15 λt16=>
 au 2 a λt17=>
 ag h_3 t17 λt18=>
 aq .eql t16 t18 λt19=>
 aA t19
 (bq 4 h_3 a6 λt20=>
 aD 4 a6 t20 h_3 λu h_4=>
 js P 212 #[a6] h_4 λh_5=>
 bq 4 h_5 a6 λres=>
 K (.tuple #[res,(.slice none 0 0)]) h_5)
 (au 1 a λt22=>
 ag h_3 t22 λt23=>
 au 2 a λt24=>
 ag h_3 t24 λt25=>
 au 3 a λt26=>
 ag h_3 t26 λt27=>
 ah P 210 [t1,t23,t25,t27] h_3 λt28 h_6=>
 akV (σ:=bt [9]) (λJ=>
 au 1 a λt30=>
 ag h_6 t30 λt31=>
 au 2 a λt32=>
 ag h_6 t32 λt33=>
 au 1 a λt36=>
 ag h_6 t36 λt37=>
 au 2 a λt38=>
 ag h_6 t38 λt39=>
 (ah P 215 [t1,t28,t37,t39] h_6 λt40 h_7=>
 (ag h_7 t30 λi=>
 i=t31)/\
 (ag h_7 t32 λj=>
 j=t33)/\
 (aV [(.int .i64 0),(.int .i64 0),(.slice none 0 0),(.slice none 0 0)] [(0,1,t31),(1,1,t33),(3,1,t40)] λt41=>
 (ah P 108 [n0,t41] h_7 λt42 h_8=>
 bp t42 0 λt43=>
 bp t42 1 λt44=>
 (ah P 214 [t43,t44] h_8 λt45 h_9=>
 aB 303 (.agg #[(.int .i64 0),(.slice none 0 0),(.slice none 0 0)]) h_9 λf9 h_10=>
 aD 3 f9 t45 h_10 λw h_11=>
 J (f9,()) h_11)/\
 (aB 303 (.agg #[(.int .i64 0),(.slice none 0 0),(.slice none 0 0)]) h_8 λb h_12=>
 ah P 214 [t43,t44] h_12 λk h_13=>
 aD 3 b k h_13 λy h_14=>
 J (b,()) h_14))/\
 (aB 303 (.agg #[(.int .i64 0),(.slice none 0 0),(.slice none 0 0)]) h_7 λc h_15=>
 ah P 108 [n0,t41] h_15 λd h_16=>
 bp d 0 λl=>
 bp d 1 λm=>
 ah P 214 [l,m] h_16 λn h_17=>
 aD 3 c n h_17 λz h_18=>
 J (c,()) h_18)))/\
 (aB 303 (.agg #[(.int .i64 0),(.slice none 0 0),(.slice none 0 0)]) h_6 λf h_19=>
 ah P 215 [t1,t28,t37,t39] h_19 λo h_20=>
 (ag h_20 t30 λp=>
 p=t31)/\
 (ag h_20 t32 λq=>
 q=t33)/\
 (aV [(.int .i64 0),(.int .i64 0),(.slice none 0 0),(.slice none 0 0)] [(0,1,t31),(1,1,t33),(3,1,o)] λr=>
 ah P 108 [n0,r] h_20 λg h_21=>
 bp g 0 λs=>
 bp g 1 λt=>
 ah P 214 [s,t] h_21 λv h_22=>
 aD 3 f v h_22 λA h_23=>
 J (f,()) h_23)))
 (λx hh=>Y4 P t28 a6 K x.1 hh))
def aoy(n0 t1 q2:Value){h:af}{K:KT}(H:Y5 prog n0 t1 q2 h K):aF prog 112 [n0,t1,q2].toArray h K:=
 aos (g:=212) (A:=cL (f112.body.getD .skip)) (B:=cR (cR (f112.body.getD .skip))) (lR:=.leaf) (iF:=.two (.pl .leaf) (.two (.pl (.two .leaf (.two (.two .leaf .leaf) .leaf))) (.two (.pl .leaf) (.cut [9] .leaf (.two (.pl .leaf) (.two .Ef (.pl (.two .leaf .leaf))))))))
  (id:=uN (cL (cR (f112.body.getD .skip)))) (o1:=cO 0 (cL (cR (f112.body.getD .skip)))) (o2:=cO 1 (cL (cR (f112.body.getD .skip)))) (s:=10) (caps:= #[(.tmp 6)]) (c:={callee:=.value (.tmp 10),args:= #[],argTypes:= #[]})
  func112 bn bn bn iC bn bn bn bn rfl rfl bn bn
  (Eq.mpr bn H)
end
section
variable{h0 h:af}{L T:List aS}{K:KT}{g:G}{x r s t tb:Nat}{ms:List Nat}{tv cv fv:Value}
def aoz{P:Program}{f:Nat}{l:List Value}{h:af}{K:KT}{a:lY}(H:An P f l.toArray h K a):Ao P (.func (.func f) #[] #[]) l.toArray h K a:=by show An P f (#[]++l.toArray++ #[]) h K a;simpa using H
def A5{c:Int}(hK:K (.tuple #[]) h):ah prog 216 [.bool true,I c] h K:=by refine aK (agi ?_);unfold RN;rw[bP,cz,aO];exact hK
def aoA{way:Nat}{act:Int}(hN:bX h r g)(d:gG h tb g ms)(hne:ms≠ [])(hl:ms.length<=16)(hs:s<g.n)(ht:t<g.n)(hK:∀h',Ext h h'->K (.tuple #[]) h'):ah prog 213 [ptr r,ptr tb,nB way s t act] h K:=by
 refine aK (age ?_);unfold RI;refine(Own.start h).box λn3 h1 o=>o.box λt4 h2 o=>o.box λa h3 o=>o.box λb h4 o=> ?_;have o:Own h h4 [ak b [.nilFunc] 105,ak a (aqF way s t act) 56,ak t4 [ptr tb] 48,ak n3 [ptr r] 47]:=o;refine o.bu 0 (cs':=[.func (.func 324) #[] #[ptr n3]]) rfl rfl rfl rfl rfl λh5 o=> ?_;refine cE (cs':=[.func (.func 325) #[] #[ptr n3],.func (.func 326) #[] #[ptr b,ptr a],.func (.func 327) #[] #[ptr b,ptr a],.func (.func 328) #[] #[ptr t4,ptr n3]]) (by intro p hp;simp at hp;rcases hp with rfl|rfl|rfl|rfl<;>rfl) rfl rfl ?_;have there:∀{h':af}{v:Nat}{K':KT},v<g.n->Own h h' [ak b [.func (.func 324) #[] #[ptr n3]] 105,ak a (aqF way s t act) 56,ak t4 [ptr tb] 48,ak n3 [ptr r] 47]->K' (.bool true) h'->
   aX prog (.func (.func 324) #[] #[ptr n3]) [I v].toArray h' K':=λ{h' v K'} hv o hk=>by
  refine cg (l:=[I v,ptr n3]) rfl (ah6 ?_);unfold TZ;rw[dA,bT aa,bF];refine o.load 3 rfl rfl (dV (hN.more o.ext) ?_);rw[bC,bT aa];exact hk
 refine bV 4 (λi y h'=>y.1=I i/\Own h h' [ak b [.func (.func 324) #[] #[ptr n3]] 105,ak a (aqF way s t act) 56,ak t4 [ptr tb] 48,ak n3 [ptr r] 47]) ⟨rfl,o⟩ ?_;clear o;rintro i ⟨y,⟨⟩⟩ h6 Z hi ⟨hy,o⟩ hZ;dsimp only at hy hZ |-;subst hy;unfold RH;rw[bC,bA];refine⟨λhlt=> ?_,λhge=>hK h6 o.ext⟩;have nx:∀h',Own h h' [ak b [.func (.func 324) #[] #[ptr n3]] 105,ak a (aqF way s t act) 56,ak t4 [ptr tb] 48,ak n3 [ptr r] 47]->aq .add (I i) (.int .i64 1) λt20=>Z (t20,()) h':=λh' o'=>by rw[bw,wI i aa];exact hZ (_,()) h' aa ⟨rfl,o'⟩
 have hc:i=0\/i=1\/i=2\/i=3:=aa;rcases hc with rfl|rfl|rfl|rfl
 .refine⟨az,az,?_⟩;refine cg (l:=[ptr n3]) rfl (ah7 ?_);unfold T0;exact o.load 3 rfl rfl (A5 (nx _ o))
 .refine⟨az,az,?_⟩;refine cg (l:=[ptr b,ptr a]) rfl (ah8 ?_);unfold T5;simp only[aU,bE];exact o.load 0 rfl rfl (o.load 1 rfl rfl (there hs o (A5 (nx _ o))))
 .refine⟨az,az,?_⟩;refine cg (l:=[ptr b,ptr a]) rfl (ah9 ?_);unfold T6;simp only[aU,bE];exact o.load 0 rfl rfl (o.load 1 rfl rfl (there ht o (A5 (nx _ o))))
 .refine⟨az,az,?_⟩;refine cg (l:=[ptr t4,ptr n3]) rfl (aia ?_);unfold T7;refine o.load 2 rfl rfl (vC o (d.more o.ext) hl λw h7 c=>(c.vw 0 rfl).len ?_);rw[dr,akS,bT (by have :=ur.2 hne;omega),bF];refine c.load 3 rfl rfl (c.load 4 rfl rfl (yb (d.more c.ext) ⟨c.load 4 rfl rfl rfl,dV (hN.more c.ext) ?_⟩));rw[cF,iJ];exact A5 (nx _ c.tail)
def Eg{D:Int}{wa a:Value}(o:Own h0 h L)(hp:∀u∈ [I D,wa,a],Mh.plainCell u=true)(hK:∀h',Own h0 h' L->K (.agg #[I D,wa,a]) h'):ah prog 214 [.agg #[I D,wa,a],I 0] h K:=by refine aK (agf ?_);unfold RJ;refine(Own.start h).box λx2 h1 o1=>o1.box λt4 h2 o1=> ?_;have o1:Own h h2 [ak t4 [I 0,aT,aT] 303,ak x2 [I D,wa,a] 303]:=o1;rw[cF,iJ];refine A5 (o1.bZ 1 rfl rfl rfl (o1.st (l:=[I D,wa,a]) (cs':=[I D,wa,a]) 0 rfl rfl rfl rfl rfl hp λh3 b=>b.bZ 0 rfl rfl rfl ?_));exact hK _ (o.more b.ext)
def aoB{way:Nat}{act:Int}(hR:g.Right)(hN:bX h r g)(v:gG h tb g ms)(hne:ms≠ [])(hl:ms.length<=16)(hm:∀m∈ms,m<g.n)(hs:s<g.n)(ht:t<g.n)(hst:s≠t)
  (hK:sA h g false s t K):ah prog 112 [ptr r,ptr tb,nB way s t act] h K:=by
 have hd:=A0 hR hs ht;have hf:aN=72057594037927936:=rfl;refine aK (aoy _ _ _ ?_);unfold Y5;refine(Own.start h).box λw h1 o=>o.box λa6 h2 o=> ?_;have o:Own h h2 [ak a6 ic 62,ak w (aqF way s t act) 56]:=o;refine o.bZ 1 rfl rfl rfl (aoA (hN.more o.ext) (v.more o.ext) hne hl hs ht λh3 z=> ?_);have o:=o.more z;simp only[aU,bE];refine o.load 1 rfl rfl (o.load 1 rfl rfl ?_);rw[cF,show((s:Int)==(t:Int))=false by simp;omega,aO];refine o.load 1 rfl rfl (o.load 1 rfl rfl (o.load 1 rfl rfl ?_));refine Ja o (v.more o.ext) hR hm hl hs ht λva ac cl zs h4 hA o=> ?_;have o:Own h h4 [aC aJ 1 3 cl zs,ak a6 ic 62,ak w (aqF way s t act) 56]:=o;have q:=hA.1 _ (o.vw 0 rfl);have hB:ya ⟨g,s,t,[],vq g (bh ms ac) s t⟩:=amb hR hs ht (I6 hm);have fp:∀{h':af}{wa a:Value}{cs:List Nat}{b6:List Ev}{L':List aS},Own h h' (aC aJ 1 3 wa (nI cs)::aC eE 4 100 a b6::L')->∀u∈ [I (dst g s t),wa,a],Mh.plainCell u=true:=λ{h' wa a cs b6 L'} o'=>vO (cs:=cs) (b6:=b6) (o'.vw 0 rfl).plain (o'.vw 1 rfl).plain;refine gW (λy h'=>∃f wa a cs b6,y=(ptr f,())/\vN g false s t cs b6/\Own h h' [aC aJ 1 3 wa (nI cs),aC eE 4 100 a b6,ak f [I (dst g s t),wa,a] 303,ak a6 ic 62]) (λJ hJ=> ?_) ?_
 .refine o.load 2 rfl rfl (o.load 2 rfl rfl (o.load 2 rfl rfl (o.load 2 rfl rfl ⟨?_,?_⟩)))
  .refine XN o (v.more o.ext) hR hm hl hs ht q hA.2 λpv h5 d=>⟨d.load 3 rfl rfl rfl,d.load 3 rfl rfl rfl,?_⟩;have hp:=d.vw 0 rfl;refine cE (cs':=jk s t aT pv) (by intro p hp';simp at hp';rcases hp' with rfl|rfl|rfl;rfl;rfl;exact hp.one) rfl rfl ⟨?_,?_⟩
   .refine Ec hR (hN.more d.ext) hp (.inr I1.symm) hs ht hst hB λwa a cs b6 h6 b hS=> ?_;simp only[cC,cB];have b:=d.frame b;refine⟨?_,?_⟩
    .refine Eg b (fp b) λh7 c=>c.box λf h8 j=>j.st (l:=[I (dst g s t),wa,a]) (cs':=[I (dst g s t),wa,a]) 0 rfl rfl rfl rfl rfl (fp b) λh9 k=> ?_;exact hJ _ _ ⟨f,wa,a,cs,b6,rfl,hS,k.bh [1,2,0,5] az⟩
    .refine b.box λf h7 c=>Eg c (fp b) λh8 j=>j.st (l:=[I (dst g s t),wa,a]) (cs':=[I (dst g s t),wa,a]) 0 rfl rfl rfl rfl rfl (fp b) λh9 k=> ?_;exact hJ _ _ ⟨f,wa,a,cs,b6,rfl,hS,k.bh [1,2,0,5] az⟩
   .refine d.box λf h6 b=> ?_;refine Ec hR (hN.more b.ext) (b.vw 1 rfl) (.inr I1.symm) hs ht hst hB λwa a cs b6 h7 c hS=> ?_;simp only[cC,cB];have c:=b.frame c;refine Eg c (fp c) λh8 j=>j.st (l:=[I (dst g s t),wa,a]) (cs':=[I (dst g s t),wa,a]) 2 rfl rfl rfl rfl rfl (fp c) λh9 k=> ?_;exact hJ _ _ ⟨f,wa,a,cs,b6,rfl,hS,k.bh [0,1,2,5] az⟩
  .refine o.box λf h5 o=> ?_;refine XN o (v.more o.ext) hR hm hl hs ht (hA.1 _ (o.vw 1 rfl)) hA.2 λpv h6 b=>⟨b.load 4 rfl rfl rfl,b.load 4 rfl rfl rfl,?_⟩;have hp:=b.vw 0 rfl;refine cE (cs':=jk s t aT pv) (by intro p hp';simp at hp';rcases hp' with rfl|rfl|rfl;rfl;rfl;exact hp.one) rfl rfl ?_;refine Ec hR (hN.more b.ext) hp (.inr I1.symm) hs ht hst hB λwa a cs b6 h7 c hS=> ?_;simp only[cC,cB];have c:=b.frame c;refine Eg c (fp c) λh8 j=>j.st (l:=[I (dst g s t),wa,a]) (cs':=[I (dst g s t),wa,a]) 3 rfl rfl rfl rfl rfl (fp c) λh9 k=> ?_;exact hJ _ _ ⟨f,wa,a,cs,b6,rfl,hS,k.bh [0,1,3,5] az⟩
 .rintro⟨y,⟨⟩⟩ h5 ⟨f,wa,a,cs,b6,e,hS,d⟩;injection e with e _;dsimp only;subst e;unfold Y4;have ha:=d.vw 0 rfl;simp only[aU,bE];refine d.load 2 rfl rfl (d.load 2 rfl rfl ?_);rw[bC];refine aoz (aox _ _ ?_);unfold Y3;rw[bP];by_cases hlt:dst g s t<aN
  .rw[bT aa,cz,aO];simp only[aU,bE];refine d.load 2 rfl rfl (d.load 2 rfl rfl (cE (cs':=[I 0,I (dst g s t),wa,va]) (by intro p hp';simp at hp';rcases hp' with rfl|rfl|rfl;rfl;exact ha.one;exact q.one) rfl rfl ?_));refine d.st (l:=[I 0,I (dst g s t),wa,va]) (cs':=[I 0,I (dst g s t),wa,va]) 3 rfl rfl rfl rfl rfl (sB ha.plain q.plain) λh6 b=>anX ?_;exact b.bZ 3 rfl rfl rfl (hK 0 (dst g s t) wa va a cs b6 h6 (b.bh [0,1] az) q.one q.plain ⟨hS,λ_=>⟨rfl,rfl⟩,λh=>absurd hlt h⟩)
  .rw[bR aa,dL,bF];refine cE (cs':=[I 20]) (by intro p hp;simp at hp;subst hp;rfl) rfl rfl ?_;have hn:=hS.no hlt;subst hn;have b:Own h h5 (aC aJ 1 3 aT (nI [])::_):=Own.ef d;refine aow (f:=20) b (i:=4) rfl λh7 c=> ?_;exact c.bZ 4 rfl rfl rfl (hK 20 0 aT aT a [] b6 h7 (c.bh [0,2] az) rfl rfl ⟨hS,λh=>absurd h hlt,λ_=>⟨rfl,rfl⟩⟩)
end
section
variable{h0 h:af}{L T:List aS}{K:KT}{g:G}{x r s t way:Nat}{act:Int}{tv cv fv:Value}
def A6{c:Int}(hK:K (.tuple #[]) h):ah prog 37 [.bool true,I c] h K:=by refine aK (adt ?_);unfold Nf;rw[bP,cz,aO];exact hK
def Y6{v x2:Nat}{T1:TypeId}(hx:h[x2]? =some (.cells #[ptr x] T1 (0,0)))(H:mq h x r g tv cv fv)(hv:v<g.n)(hK:K (.bool true) h):aX prog (.func (.func 35) #[] #[ptr x2]) [I v].toArray h K:=by refine cg (l:=[I v,ptr x2]) rfl (adr ?_);unfold Nc;rw[dA,bT aa,bF];refine bJ rfl (bz hx rfl) ?_;show aI (ptr x) _;simp only[bD,aU,bE];refine H.ld rfl (dV H.n ?_);rw[bC,bT aa];exact hK
def JA(way:Nat):Bool:=way != 1&&way != 3
def JB{fn t4:Nat}{one:Bool}{args:List Value}(o:Own h0 h (ak t4 ic 62::T))(hF:∀(K':KT),sA h g one s t K'->ah prog fn args h K')(hK:sA h0 g one s t K):
  ah prog fn args h λt15 h_3=>bp t15 0 λt16=>bp t15 1 λt17=>aD 4 (ptr t4) t16 h_3 λu h_4=>bq 4 h_4 (ptr t4) λres=>K (.tuple #[res,t17]) h_4:=by
 refine hF _ λcode aM wa wc a cs b6 h1 o1 c1 c2 hA=> ?_;simp only[cC,cB];have o2:=o.frame o1;have o2:Own h0 h1 (aC aJ 1 3 wa (nI cs)::aC eE 4 100 a b6::ak t4 ic 62::T):=o2;refine o2.st (l:=[I code,I aM,wa,wc]) (cs':=[I code,I aM,wa,wc]) 2 rfl rfl rfl rfl rfl (sB (o2.vw 0 rfl).plain c2) λh2 b=>b.bZ 2 rfl rfl rfl ?_;exact hK code aM wa wc a cs b6 h2 (b.bh [0,1] az) c1 c2 hA
def aoC{p1 p2:Nat}{f:Value}(hF:gy g)(H:mq h x r g tv cv fv)(h1:h[p1]? =some (.cells #[fk 107] 203 (0,0)))(h2:h[p2]? =some (.cells #[fk 108] 203 (0,0)))
  (hs:s<g.n) (ht:t<g.n) (hst:s≠t):∀i,i<6->iV tv cv i=true->∀(K:KT),sA h g (JA i) s t K->∀f,(ia p1 p2 i)[2]? =some f->aX prog f [ptr x,nB i s t act].toArray h K:=by
 have hR:=hF.toRight;have j:∀i,yq i=true->iV tv cv i=true->∃t ms,tv=ptr t/\gG h t g ms/\ms≠ []/\ms.length<=16/\∀m∈ms,m<g.n:=λi hi hh=>by
  unfold iV at hh;rw[hi]at hh;rcases H.t with rfl|h
  .simp[isNil]at hh
  .exact h
 have k:∀i,AY i=true->iV tv cv i=true->∃c b xs M,cv=ptr c/\fv=ptr b/\xs.length=g.n/\jg xs+1=((M:Nat):Int)/\M<=256/\(∀z∈xs,0<=z)/\iB h c xs/\mM h b M g.aj.length (iT g xs M):=λi hi hh=>by
  unfold iV at hh;rw[hi]at hh;rcases H.c with ⟨rfl,rfl⟩|h
  .simp[isNil]at hh
  .exact h
 have sift:∀i,(i=4\/i=5)->iV tv cv i=true->∀K,sA h g true s t K->aX prog (fk 104) [ptr x,nB i s t act].toArray h K:=λi hi hh K hK=>by
  refine cg (l:=[ptr x,nB i s t act]) rfl (aet ?_);unfold ON;refine(Own.start h).box λe h3 o=>o.box λt4 h4 o=> ?_;have o:Own h h4 [ak t4 ic 62,ak e (aqF i s t act) 56]:=o;have H4:=H.more o.ext;simp only[bD,aU,bE];refine H4.ld rfl (H4.ld rfl (H4.ld rfl (H4.ld rfl ?_)));obtain⟨c,b,xs,M,rfl,rfl,rest⟩:=k i (by rcases hi with rfl|rfl<;>rfl) hh;refine cE (cs':=[ptr c,ptr b]) (by intro p hp;simp at hp;rcases hp with rfl|rfl<;>rfl) rfl rfl (o.bZ 1 rfl rfl rfl ?_);refine JB o (λK' hk=>aoq hF (yw.more (h:=h) ⟨H.n,⟨c,b,xs,M,rfl,rfl,rest⟩,?_⟩ o.ext) H.t.nil hs ht hst hk) hK;rcases hi with rfl|rfl
  .exact .inl rfl
  .exact .inr ⟨rfl,j 5 rfl hh⟩
 refine Jw ?_ ?_ ?_ ?_ ?_ ?_
 .intro _ K hK f hf;cases hf;exact YW hR H h1 hs ht (λh' K' hN hk=>tU hF hN Vw.nil Vw.nil (.inl rfl) (.inl rfl) hs ht hst (YX (Ee hR hs ht)) hk) hK
 .intro _ K hK f hf;cases hf;exact YW hR H h2 hs ht (λh' K' hN hk=>Ec hR hN Vw.nil (.inl rfl) hs ht hst (ama hR hs ht) hk) hK
 .intro hh K hK f hf;cases hf;refine cg (l:=[ptr x,nB 2 s t act]) rfl (aex ?_);unfold OW;refine(Own.start h).box λe h3 o=>o.box λt4 h4 o=> ?_;have o:Own h h4 [ak t4 ic 62,ak e (aqF 2 s t act) 56]:=o;have H4:=H.more o.ext;simp only[bD,aU,bE];refine H4.ld rfl (H4.ld rfl (o.bZ 1 rfl rfl rfl ?_));obtain⟨tb,ms,rfl,a,b,c,d⟩:=j 2 rfl hh;exact JB o (λK' hk=>aom hF (H.n.more o.ext) (a.more o.ext) b c d hs ht hst hk) hK
 .intro hh K hK f hf;cases hf;refine cg (l:=[ptr x,nB 3 s t act]) rfl (aez ?_);unfold O2;refine(Own.start h).box λe h3 o=>o.box λt4 h4 o=> ?_;have o:Own h h4 [ak t4 ic 62,ak e (aqF 3 s t act) 56]:=o;have H4:=H.more o.ext;simp only[bD,aU,bE];refine H4.ld rfl (H4.ld rfl (o.bZ 1 rfl rfl rfl ?_));obtain⟨tb,ms,rfl,a,b,c,d⟩:=j 3 rfl hh;exact JB o (λK' hk=>aoB hR (H.n.more o.ext) (a.more o.ext) b c d hs ht hst hk) hK
 .intro hh K hK f hf;cases hf;exact sift 4 (.inl rfl) hh K hK
 .intro hh K hK f hf;cases hf;exact sift 5 (.inr rfl) hh K hK
def Y7(hF:gy g)(H:mq h x r g tv cv fv)(hw:way<6)(hh:iV tv cv way=true)(hs:s<g.n)(ht:t<g.n)(hK:sA h g (JA way) s t K):ah prog 12 [ptr x,nB way s t act] h K:=by
 have hR:=hF.toRight;refine aK (ac5 ?_);unfold ME;refine(Own.start h).box λx2 h1 o=>o.box λj h2 o=>o.box λa4 h3 o=>o.box λk h4 o=> ?_;have o:Own h h4 [ak k [aT] 63,ak a4 ic 62,ak j (aqF way s t act) 56,ak x2 [ptr x] 37]:=o;refine o.load 3 rfl rfl (AW hR (H.more o.ext) λh5 v=>A6 ?_);have o:=o.more v;simp only[aU,bE];refine o.load 2 rfl rfl ?_;rw[dA,bT aa,bF];refine o.load 2 rfl rfl ?_;rw[bC,bT aa];refine A6 ?_;unfold Gu;simp only[aU,bE];refine o.load 2 rfl rfl (Y6 (o.get 3 rfl) (H.more o.ext) hs (A6 (o.load 2 rfl rfl (Y6 (o.get 3 rfl) (H.more o.ext) ht (A6 ?_)))));have m:∀{p1 p2 w7:Nat}{h':af}{L':List aS}{i:Nat}{KH:KT},Own h h' L'->L'[i]? =some (ak w7 [.bool false,.bool false,.nilFunc] 109)->(∀h'',Own h h'' (L'.set i (ak w7 (ia p1 p2 way) 109))->KH undef h'')->aD 3 (ptr w7) (.agg (ia p1 p2 way).toArray) h' KH:=λ{p1 p2 w7 h' L' i KH} o' hi hk=>by obtain⟨f,e,hf⟩:=AZ (p1:=p1) (p2:=p2) way hw;exact o'.st (l:=ia p1 p2 way) (cs':=ia p1 p2 way) i hi rfl (by rw[e];rfl) rfl (by rw[e];rfl) (by intro u hu;rw[e]at hu;simp at hu;rcases hu with rfl|rfl|rfl;rfl;rfl;exact hf) hk
 refine gW (λy h'=>∃w7 p1 p2,y=(ptr w7,())/\Own h h' [ak w7 (ia p1 p2 way) 109,ak p1 [fk 107] 203,ak p2 [fk 108] 203,ak k [aT] 63,ak a4 ic 62,ak j (aqF way s t act) 56,ak x2 [ptr x] 37]) (λJ hJ=> ?_) ?_
 .refine o.load 2 rfl rfl ⟨?_,?_⟩
  .refine Jy λp1 p2 h6 a=> ?_;have a:=o.frame a;refine⟨a.load 4 rfl rfl rfl,Jx way hw (a.box λw7 h7 b=>m (i:=0) b rfl λh8 d=>hJ _ _ ⟨w7,p1,p2,rfl,d⟩)⟩
  .refine o.box λw7 h6 a=>Jy λp1 p2 h7 b=> ?_;have b:=a.frame b;refine⟨b.load 5 rfl rfl rfl,Jx way hw (m (i:=2) b rfl λh8 d=>hJ _ _ ⟨w7,p1,p2,rfl,d.bh [2,0,1,3,4,5,6] az⟩)⟩
 .rintro⟨y,⟨⟩⟩ h8 ⟨w7,p1,p2,e,o⟩;injection e with e _;dsimp only;subst e;unfold MD;obtain⟨f,c,hf⟩:=AZ (p1:=p1) (p2:=p2) way hw;refine o.bZ (cs':=ia p1 p2 way) 0 rfl (by rw[c];rfl) (by rw[c];rfl) (o.load 6 rfl rfl (YT hw (H.more o.ext) λh9 w=> ?_));rw[hh];have o:=o.more w;refine A6 ?_;simp only[aU,bE];refine o.load 5 rfl rfl (o.load 5 rfl rfl ?_);rw[cF];by_cases hst:s=t
  .subst hst;rw[iJ,bF];refine o.bZ 4 rfl rfl rfl (o.st (l:=ic) (cs':=ic) 4 rfl rfl rfl rfl rfl (sB rfl rfl) λh10 o=>o.bu 3 (cs':=[aT]) rfl rfl rfl rfl rfl λh11 o=>YG (o.bZ 4 rfl rfl rfl (o.load 3 rfl rfl ?_)));have o2:=Own.ef (enc:=aJ) (n:=1) (T:=3) (Own.ef (enc:=eE) (n:=4) (T:=100) o);have e0:dst g s s=0:=(gj hR hs).ls.zero;refine hK 0 0 aT aT aT [] [] h11 (o2.bh [0,1] az) rfl rfl ⟨⟨λi e h=>(by simp at h),λi e h=>(by simp at h),az,az,λ_=>⟨rfl,by rw[e0];rfl,λ_ e h=>by cases h⟩,λ_=>rfl⟩,λ_=>⟨rfl,e0.symm⟩,λh=>absurd (by rw[e0];decide) h⟩
  .rw[show((s:Int)==(t:Int))=false by simp;omega,aO];have o:=o;rw[c]at o;refine o.load 0 rfl rfl (o.load 6 rfl rfl (o.bZ 5 rfl rfl rfl ?_));refine aoC (act:=act) (f:=f) hF (H.more o.ext) (o.get 1 rfl) (o.get 2 rfl) hs ht hst way hw hh _ ?_ f (by rw[c];rfl);intro code aM wa wc p cs b6 h10 z c1 c2 hA;simp only[cC,cB];have o2:=o.frame z;have q:=o2.vw 1 rfl;refine o2.st (l:=[I code,I aM,wa,wc]) (cs':=[I code,I aM,wa,wc]) 6 rfl rfl rfl rfl rfl (sB (o2.vw 0 rfl).plain c2) λh11 o=>o.bu 5 (cs':=[p]) rfl rfl rfl q.one q.plain λh12 o=>YG (o.bZ 6 rfl rfl rfl (o.load 5 rfl rfl ?_));exact hK code aM wa wc p cs b6 h12 (o.bh [0,1] az) c1 c2 hA
end
section
variable{h0 h hb:af}{L:List aS}{K:KT}{g:G}{r:Nat}{e:Ev}{l:List Ev}{vl:Value}
def Y8 {n1:Nat} (H:bX h r g) (c:hcell h ⟨n1,0,none⟩=some (ptr r)) (hK:∀h',Ext h h'->K (.bool (lE g.n g.aj.length e)) h'):
    aX prog (.func (.func 183) #[] #[ptr n1]) [.agg (eE e).toArray].toArray h K:=by
  refine cg (l:=[.agg (eE e).toArray,ptr n1]) rfl (afP ?_);unfold QX;refine(Own.start h).box λe2 h1 o=> ?_;rw[Ir]at o;refine gW (λy h'=>y.1=I (nj g.n g.aj.length e.kind)/\Own h h' [ak e2 (eE e) 100]) (λJ hJ=> ?_) ?_
  · simp only[aU];refine bJ rfl (nT o.ext c) (bJ rfl (nT o.ext c) (o.load 0 rfl rfl ?_));have f1:∀x,x=I (nj g.n g.aj.length e.kind)->∀h',Own h h' [ak e2 (eE e) 100]->J (x,()) h':=λx hx h' o=>hJ _ _ ⟨hx,o⟩;have v1:((cM (cM (λ_=>none) 0 (I g.n)) 1 (I g.aj.length)) e.kind).getD (I 0)=I (nj g.n g.aj.length e.kind):=by
      unfold cM nj;by_cases h1:e.kind=1
      · simp[h1]
      · by_cases h0:e.kind=0
        · simp[h0]
        · simp[h1,h0]
    have v2:((cM (cM (λ_=>none) 1 (I g.aj.length)) 0 (I g.n)) e.kind).getD (I 0)=I (nj g.n g.aj.length e.kind):=by
      unfold cM nj;by_cases h1:e.kind=1
      · simp[h1]
      · by_cases h0:e.kind=0
        · simp[h0]
        · simp[h1,h0]
    repeat' (first
      |with_reducible apply And.intro
      |(with_reducible show bH _ _);refine o.mkMap λm hh o=> ?_
      |(with_reducible show e9 _ _ _ _ _ _);refine o.mZ (f':=cM _ _ _) 0 rfl (λx=>rfl) λhh o=> ?_
      |(with_reducible show ah _ 36 _ _ _);refine dV (H.more o.ext) ?_
      |(with_reducible show ah _ 69 _ _ _);refine tE (H.more o.ext) ?_
      |exact bJ rfl (nT o.ext c) rfl
      |exact o.load 0 rfl rfl rfl
      |exact o.load 1 rfl rfl rfl
      |exact o.look 0 rfl (f1 _ v1 _ o.tail)
      |exact o.look 0 rfl (f1 _ v2 _ o.tail))
  · rintro⟨y,⟨⟩⟩ h2 ⟨hy,o⟩;dsimp only at hy |-;subst hy;unfold QW;simp only[aU];have fin:∀b:Bool,(b=true↔Au g.n g.aj.length e)->K (.bool b) h2:=λb hb=>by
      have :b=lE g.n g.aj.length e:=by unfold lE;rw[uh,gT];exact hb
      rw[this];exact hK _ o.ext
    have d:¬Au g.n g.aj.length e->K (.bool false) h2:=λhn=>fin false ⟨λh=>(by cases h),λh=>absurd h hn⟩;refine o.load 0 rfl rfl ?_;simp only[dA,bA];refine⟨λh1=>o.load 0 rfl rfl ?_,λh1=>d λh=>h1 h.1⟩;simp only[bC,bA];refine⟨λh3=>o.load 0 rfl rfl ?_,λh3=>d λh=>h3 h.2.1⟩;have tl:e.side=0\/e.side=1->(ag h2 (.pointer (some ⟨e2,0,none⟩)) λt35=>aq .eql t35 (I 0) λt36=>aA t36 (K (.bool true) h2) (ag h2 (.pointer (some ⟨e2,0+3,none⟩)) λt39=>aq .eql t39 (I 0) λt40=>K t40 h2)):=λhs=>by
      refine o.load 0 rfl rfl ?_;rw[cF];by_cases hk:e.kind=0
      · rw[show(e.kind==0)=true by simpa using hk,bF];exact fin true ⟨λ_=>⟨h1,h3,hs,.inl hk⟩,λ_=>rfl⟩
      · rw[show(e.kind==0)=false by simpa using hk,aO];refine o.load 0 rfl rfl ?_;rw[cF];refine fin _ ?_;rw[qp];exact⟨λh=>⟨h1,h3,hs,Or.inr h⟩,λh=>h.2.2.2.resolve_left hk⟩
    rw[cF];by_cases h0:e.side=0
    · rw[show(e.side==0)=true by simpa using h0,bF];exact tl (.inl h0)
    · rw [show (e.side == 0) =false by simpa using h0,aO];refine o.load 0 rfl rfl ?_;rw[cF];by_cases a:e.side=1
      · rw[show(e.side==1)=true by simpa using a,bF];exact tl (.inr a)
      · rw [show (e.side == 1)=false by simpa using a,aO]
        exact d fun h => by  rcases h.2.2.1 with h|h
                             · exact h0 h
                             · exact a h
def aoD {f:Value} (a:Vw eE 4 hb vl l) (c:l.length<2^40) (J:Nat->af->Prop) (p:Nat->Bool) (b:J 0 h) (hJ:∀i h',J i h'->Ext hb h')
    (hf:∀i(hi:i<l.length) h'(K':KT),J i h'->(∀h'',Ext hb h''->(p i=false->J (i+1) h'')->K' (.bool (p i)) h'')->aX prog f [.agg (eE l[i]).toArray].toArray h' K')
    (hK:∀r' h',Ext hb h'->xS p l.length r'->K (I r') h'):ah prog 184 [vl,f] h K:=by
  refine aK (afQ ?_);unfold QZ;refine(a.more (hJ _ _ b)).len ?_;refine bV l.length (λi x h'=>x.1=I i/\J i h'/\∀k,k<i->p k=false) ⟨rfl,b,λk hk=>aa⟩ ?_;rintro i ⟨x,⟨⟩⟩ h' Z hi ⟨hx,hj,hp⟩ hZ;dsimp only at hx hZ |-;subst hx;unfold QY;simp only[bC,bA];refine⟨λhlt=> ?_,λhge=> ?_⟩
  · have hlt:i<l.length:=aa;refine(a.more (hJ _ _ hj)).jW qS hlt ?_;refine hf i hlt h' _ hj λh2 x2 hj2=> ?_;cases hpi:p i with
    |true=>rw[bF];exact hK _ _ x2 (.inr ⟨i,rfl,hlt,hpi,hp⟩)
    | false=>
      rw[aO,bw,wI i aa];exact hZ (I (i+1:Nat),()) h2 hlt ⟨rfl,hj2 hpi,λk hk=>by
        rcases Nat.lt_succ_iff_lt_or_eq.1 hk with h|rfl
        · exact hp k h
        · exact hpi⟩
  · have :i=l.length:=aa;subst this;exact hK _ _ (hJ _ _ hj) (.inl ⟨rfl,hp⟩)
def Y9{f:Value}(a:Vw eE 4 hb vl l)(c:l.length<2^40)(J:Nat->af->Prop)(p:Nat->Bool)(d:J 0 h)(hJ:∀i h',J i h'->Ext hb h')
    (hf:∀i(hi:i<l.length) h'(K':KT),J i h'->(∀h'',Ext hb h''->(p i=false->J (i+1) h'')->K' (.bool (p i)) h'')->aX prog f [.agg (eE l[i]).toArray].toArray h' K')
    (hK:∀b h',Ext hb h'->(b=true↔∃k,k<l.length/\p k=true)->K (.bool b) h'):ah prog 95 [vl,f] h K:=by
  refine aK (aek ?_);unfold OD;refine aoD a c J p d hJ hf λr' h' x hr=> ?_;rw[dA];exact hK _ _ x hr.any
end
section
variable{h0 h hb:af}{L:List aS}{K:KT}{g:G}{r:Nat}{e:Ev}{l:List Ev}{vl:Value}
def A7(f:uU->Option Value)(l:List Ev):Prop:=∀k,(k∉l.map Ev.key->f k=none)/\(k∈l.map Ev.key->∃c:Nat,f k=some (I c)/\1<=c/\c<=l.length)
def A7.next{f:uU->Option Value}{l:List Ev}{e:Ev}(H:A7 f l):
  ∃c:Nat,(f e.key).getD (I 0)=I c/\c<=l.length/\(1<=c↔e.key∈l.map Ev.key)/\A7 (KM.cM f e.key (I (c+1:Nat))) (l++ [e]):=by
 have key:∀c:Nat,c<=l.length->A7 (KM.cM f e.key (I (c+1:Nat))) (l++ [e]):=λc hc k=>by
  obtain⟨h1,h2⟩:=H k;unfold KM.cM;by_cases hk:k=e.key
  .subst hk;rw[aW rfl];exact⟨λh=>absurd aP h,λ_=>⟨c+1,rfl,aa,by simp;omega⟩⟩
  .rw[aQ hk];have :k∈(l++ [e]).map Ev.key↔k∈l.map Ev.key:=by simp[hk]
   rw[this];refine⟨h1,λh=> ?_⟩;obtain⟨c',h3,h4,h5⟩:=h2 h;exact⟨c',h3,h4,by simp;omega⟩
 obtain⟨h1,h2⟩:=H e.key;by_cases hm:e.key∈l.map Ev.key
 .obtain⟨c,h3,h4,h5⟩:=h2 hm;exact⟨c,by rw[h3];rfl,h5,⟨λ_=>hm,λ_=>h4⟩,key c h5⟩
 .exact⟨0,by rw[h1 hm];rfl,aa,⟨λh=>aa,λh=>absurd h hm⟩,key 0 aa⟩
def vQ(n m:Nat)(l:List Ev)(i:Nat):Bool:=match l[i]? with
 |some e=> !lE n m e||decide (e.key∈(l.take i).map Ev.key)
 |none=>false
def aoE{n m:Nat}{l:List Ev}:(¬∃k,k<l.length/\vQ n m l k=true)↔oV n m l:=by
 constructor
 .intro h i e he;have hi:i<l.length:=(fu.1 he).1;have :vQ n m l i≠true:=λhb=>h ⟨i,hi,hb⟩;unfold vQ at this;rw[he]at this;simp at this;exact⟨this.1,by simpa using this.2⟩
 .rintro h ⟨k,hk,hb⟩;have he:l[k]? =some l[k]:=dD hk;obtain⟨h1,h2⟩:=h k _ he;unfold vQ at hb;rw[he]at hb;simp only[h1,cz,sU,gT]at hb;exact h2 hb
def aoF(H:bX h r g)(y:Vw eE 4 h vl l)(z:l.length<2^40)(hK:∀b h',Ext h h'->(b=true↔oV g.n g.aj.length l)->K (.bool b) h'):ah prog 31 [ptr r,vl] h K:=by
 refine aK (ado ?_);unfold M8;simp only[dM,dW,aO];refine aK (OC ?_);unfold GK;refine(Own.start h).box λn1 h1 o1=>o1.box λv h2 o2=>o2.bu 0 (cs':=[.func (.func 183) #[] #[ptr n1]]) rfl rfl rfl rfl rfl λh3 j=> ?_;refine j.Ci (Q3 3 3) λm h4 t=>t.box λw h5 a=>a.bu 0 (cs':=[.map (some m)]) rfl rfl rfl rfl rfl λh6 d=> ?_;clear a t j o2 o1;refine Y9 (hb:=h) y z (λi h'=>∃f,A7 f (l.take i)/\Own h h' [ak w [.map (some m)] 188,p9 (Q3 3 3) m f,ak v [.func (.func 183) #[] #[ptr n1]] 186,ak n1 [ptr r] 47])
  (vQ g.n g.aj.length l) ⟨_,λk=>⟨λ_=>rfl,λh=>by simp at h⟩,d⟩ (λi h'⟨_,_,o⟩=>o.ext) ?_ ?_
 .rintro i hi h' K' ⟨f,hc,o⟩ q;have he:l[i]? =some l[i]:=dD hi;have A:l.take (i+1)=l.take i++ [l[i]]:=cW hi;have hb:vQ g.n g.aj.length l i=(!lE g.n g.aj.length l[i]||decide (l[i].key∈(l.take i).map Ev.key)):=by unfold vQ;rw[he]
  rw[A]at q;rw[hb]at q;have E:(l.take i).length<2^40:=by rw[dO];omega
  generalize l[i]=e at q;refine cg (l:=[.agg (eE e).toArray,ptr w,ptr v]) rfl (ael ?_);unfold OE;refine o.box λe3 h1 o1=> ?_;rw[Ir]at o1;simp only[aU];refine o1.load 0 rfl rfl (o1.load 0 rfl rfl (o1.load 0 rfl rfl ?_));refine cE (cs':=[I e.kind,I e.side,I e.id]) (λp hp=>by simp at hp;rcases hp with rfl|rfl|rfl<;>rfl) rfl rfl ?_;refine o1.box λF h2 o2=>o2.st (cs':=[I e.kind,I e.side,I e.id]) 0 rfl rfl rfl rfl rfl (by intro u hu;simp at hu;rcases hu with rfl|rfl|rfl<;>rfl) λh3 j=> ?_;refine j.load 2 rfl rfl (j.bZ (cs':=[I e.kind,I e.side,I e.id]) 0 rfl rfl rfl ?_);obtain⟨c,c1,c2,c3,c4⟩:=hc.next (e:=e);refine j.Gi (Q:=Q3 3 3) (k:=e.key) 3 rfl ?_;rw[aQ az,c1,bw,wI c aa];refine j.ack (Q:=Q3 3 3) (k:=e.key) 3 rfl λh4 s t hst=>⟨?_,?_⟩
  .refine t.Gi (Q:=Q3 3 3) (k:=e.key) 3 rfl ?_;rw[aQ az,<-c1];simp[KM.cM]
  .rw[cB];refine hst _ _ λh5 a=> ?_;refine a.load 4 rfl rfl (a.bZ (cs':=eE e) 1 rfl rfl rfl ?_);have B:hcell h5 ⟨n1,0,none⟩=some (ptr r):=bz (a.get 5 rfl) rfl;refine Y8 (H.more a.ext) B λh6 C=> ?_;have d:=a.more C;rw[bP];cases hmay:lE g.n g.aj.length e with
   |false=>rw[dL,bF];rw[hmay]at q;exact q h6 d.ext λh=>by simp at h
   | true=>
    rw[cz,aO];refine d.load 2 rfl rfl (d.bZ (cs':=[I e.kind,I e.side,I e.id]) 0 rfl rfl rfl ?_);refine d.Gi (Q:=Q3 3 3) (k:=e.key) 3 rfl ?_;rw[aQ az];have :((KM.cM f e.key (I (c+1:Nat))) e.key).getD (I 0)=I (c+1:Nat):=by simp[KM.cM]
    rw[this,akS];have e2:decide ((1:Int)<((c+1:Nat):Int))=(!lE g.n g.aj.length e||decide (e.key∈(l.take i).map Ev.key)):=by rw[hmay,cz,sU];exact pN.2 ⟨λh=>c3.1 aa,λh=>by have :=c3.2 h;omega⟩
    rw[e2];exact q h6 d.ext λ_=>⟨_,c4,d.bh [2,3,4,5] az⟩
 .intro b h' x D;rw[bP];refine hK _ _ x ?_;rw[mA,<-aoE,<-D];simp
def aoG(H:bX h r g)(hm:lE g.n g.aj.length e=true)(hk:e.kind≠0)(hK:∀h',Ext h h'->K (I (tK g e)) h'):ah prog 98 [ptr r,I e.id,I e.side] h K:=by
 refine aK (aen ?_);unfold OH;obtain⟨m1,m2,m3,m4⟩:=gM hm;have c:e.kind=1:=by
  unfold nj at m2;rw[aQ hk]at m2;by_cases h1:e.kind=1
  .exact h1
  .rw[aQ h1]at m2;omega
 have hid:e.id<g.aj.length:=by unfold nj at m2;rw[aQ hk,aW c]at m2;exact m2
 obtain⟨i,hi⟩:=iX m1;have hil:i<g.aj.length:=aa;have ht:tK g e=if e.side=1 then(g.aj[i].t:Int)else(g.aj[i].f:Int):=by unfold tK;rw[hi,fL,dD hil]
 rw[hi];refine qP H hil λh1 x1=> ?_;simp only[cC,cB];have o1:=(Own.start h).more x1;refine o1.box λb h2 o2=>o2.st 0 rfl rfl rfl rfl rfl (gQ _) λh3 a=> ?_;simp only[aU];rw[cF];by_cases hs:e.side=1
 .rw[show(e.side==1)=true by simpa using hs,bF];refine a.load 0 rfl rfl ?_;rw[aW hs]at ht;rw[ht]at hK;exact hK _ a.ext
 .rw[show(e.side==1)=false by simpa using hs,aO];refine a.load 0 rfl rfl ?_;rw[aQ hs]at ht;rw[ht]at hK;exact hK _ a.ext
def vR(g:G)(l:List Ev)(i:Nat):Bool:=match l[i]? with
 |some e=> !lE g.n g.aj.length e||decide (e.kind≠0/\j4 (l.take i) e.side≠tK g e)
 |none=>false
def aoH{l:List Ev}:(¬∃k,k<l.length/\vR g l k=true)↔ob g l:=by
 constructor
 .intro h i e he;have hi:i<l.length:=(fu.1 he).1;have :vR g l i≠true:=λhb=>h ⟨i,hi,hb⟩;unfold vR at this;rw[he]at this;have this:=za.2 this;simp only[pI,Bool.not_eq_false',uk]at this;exact⟨this.1,λhk=>lM.1 λhn=>this.2 ⟨hk,hn⟩⟩
 .rintro h ⟨k,hk,hb⟩;have he:l[k]? =some l[k]:=dD hk;obtain⟨h1,h2⟩:=h k _ he;unfold vR at hb;rw[he]at hb;simp only[h1,cz,sU,gT]at hb;exact hb.2 (h2 hb.1)
def aoI(H:bX h r g)(q:Vw eE 4 h vl l)(s:l.length<2^40)(hK:∀b h',Ext h h'->(b=true↔ob g l)->K (.bool b) h'):ah prog 32 [ptr r,vl] h K:=by
 refine aK (adp ?_);unfold M9;refine(Own.start h).box λn2 h1 o1=>o1.load 0 rfl rfl ?_;simp only[dM,dW,aO];refine o1.load 0 rfl rfl ?_;refine aK (OC ?_);unfold GK;refine o1.box λn1 h2 o2=>o2.box λf h3 c=>c.bu 0 (cs':=[.func (.func 183) #[] #[ptr n1]]) rfl rfl rfl rfl rfl λh4 j=> ?_;refine cE (cs':=[I (-1),I (-1)]) (λp hp=>by simp at hp;rcases hp with rfl|rfl<;>rfl) rfl rfl ?_;refine j.box λd h5 k=>k.st (cs':=[I (-1),I (-1)]) 0 rfl rfl rfl rfl rfl (by intro u hu;simp at hu;rcases hu with rfl|rfl<;>rfl) λh6 t=> ?_;clear k j c o2 o1;refine Y9 (hb:=h) q s (λi h'=>Own h h' [ak d [I (j4 (l.take i) 0),I (j4 (l.take i) 1)] 191,ak f [.func (.func 183) #[] #[ptr n1]] 186,ak n1 [ptr r] 47,ak n2 [ptr r] 47])
  (vR g l) t (λi h' o=>o.ext) ?_ ?_
 .intro i hi h' K' o a;have he:l[i]? =some l[i]:=dD hi;have v:l.take (i+1)=l.take i++ [l[i]]:=cW hi;have hb:vR g l i=(!lE g.n g.aj.length l[i]||decide (l[i].kind≠0/\j4 (l.take i) l[i].side≠tK g l[i])):=by unfold vR;rw[he]
  rw[v,hb,Is,Is]at a;generalize l[i]=e at a;generalize l.take i=lt at a o;refine cg (l:=[.agg (eE e).toArray,ptr f,ptr d,ptr n2]) rfl (aem ?_);unfold OG;refine o.box λw h1 o1=> ?_;rw[Ir]at o1;refine o1.load 2 rfl rfl (o1.bZ (cs':=eE e) 0 rfl rfl rfl ?_);have y:hcell h1 ⟨n1,0,none⟩=some (ptr r):=bz (o1.get 3 rfl) rfl;refine Y8 (H.more o1.ext) y λh2 x2=> ?_;have o2:=o1.more x2;rw[bP];cases hmay:lE g.n g.aj.length e with
  |false=>rw[dL,bF];rw[hmay]at a;exact a h2 o2.ext λh=>by simp at h
  | true=>
   rw[cz,aO];rw[hmay,cz,sU]at a;obtain⟨m1,m2,m3,m4⟩:=gM hmay;simp only[aU];refine o2.load 0 rfl rfl ?_;rw[cF];by_cases hk:e.kind=0
   .rw[show(e.kind==0)=true by simpa using hk,bF];refine o2.load 0 rfl rfl (o2.load 0 rfl rfl ?_);rw[bR (λh=>h.1 hk)]at a;rw[ij];refine⟨aa,?_⟩;rcases m3 with hs|hs
    .rw[hs]at a |-;rw[aW ⟨hk,rfl⟩,aQ (by rintro⟨_,h⟩;cases h)]at a;refine o2.bu 1 (cs':=[I e.id,I (j4 lt 1)]) rfl rfl rfl rfl rfl λh3 c=> ?_;exact a h3 c.ext λ_=>c.bh [1,2,3,4] az
    .rw[hs]at a |-;rw[aQ (by rintro⟨_,h⟩;cases h),aW ⟨hk,rfl⟩]at a;refine o2.bu 1 (cs':=[I (j4 lt 0),I e.id]) rfl rfl rfl rfl rfl λh3 c=> ?_;exact a h3 c.ext λ_=>c.bh [1,2,3,4] az
   .rw[show(e.kind==0)=false by simpa using hk,aO];refine o2.load 0 rfl rfl ?_;rw[ij];refine⟨aa,?_⟩;have ld:∀{hh:af}{m:Value->Prop},Own h hh [ak w (eE e) 100,ak d [I (j4 lt 0),I (j4 lt 1)] 191,ak f [.func (.func 183) #[] #[ptr n1]] 186,ak n1 [ptr r] 47,ak n2 [ptr r] 47]->
      m (I (j4 lt e.side))->ag hh (.pointer (some ⟨d,0+e.side.toNat*1,none⟩)) m:=λo hk2=>by
     rcases m3 with hs|hs
     .rw[hs]at hk2 |-;exact o.load 1 rfl rfl hk2
     .rw[hs]at hk2 |-;exact o.load 1 rfl rfl hk2
    refine ld o2 (o2.load 4 rfl rfl (o2.load 0 rfl rfl (o2.load 0 rfl rfl ?_)));refine aoG (H.more o2.ext) hmay hk λh3 z=> ?_;have c:=o2.more z;refine⟨c.load 0 rfl rfl rfl,ld c rfl,?_⟩;rw[fe];have e1:(j4 lt e.side != tK g e)=decide (e.kind≠0/\j4 lt e.side≠tK g e):=by rw[uh,BF,gT];exact⟨λh=>⟨hk,h⟩,λh=>h.2⟩
    rw[e1];rw[aQ (λh=>hk h.1),aQ (λh=>hk h.1)]at a;exact a h3 c.ext λ_=>c.tail
 .intro b h' x A;rw[bP];refine hK _ _ x ?_;rw[mA,<-aoH,<-A];simp
end
section
variable{h0 h:af}{L T:List aS}{K:KT}{g:G}{x r s t way:Nat}{act:Int}{tv cv fv:Value}
def aoJ(hF:gy g)(H:mq h x r g tv cv fv)(hw:way<6)(hh:iV tv cv way=true)(hs:s<g.n)(ht:t<g.n)(hK:∀h',Ext h h'->K (.bool true) h'):ah prog 11 [ptr x,nB way s t act,I (dst g s t)] h K:=by
 have hR:=hF.toRight;have hf:aN=72057594037927936:=rfl;refine aK (ac4 ?_);unfold MC;refine(Own.start h).box λa h1 o=> ?_;have o:Own h h1 [ak a (aqF way s t act) 56]:=o;refine o.bZ 0 rfl rfl rfl (Y7 hF (H.more o.ext) hw hh hs ht λcode aM wa wc f cs b6 h2 o2 c1 c2 hA=> ?_);simp only[cC,cB];have o:=o.frame o2;refine o.box λa7 h3 o=>o.st (l:=[I code,I aM,wa,wc]) (cs':=[I code,I aM,wa,wc]) 0 rfl rfl rfl rfl rfl (sB (o.vw 1 rfl).plain c2) λh4 o=> ?_;have o:Own h h4 [ak a7 [I code,I aM,wa,wc] 62,aC aJ 1 3 wa (nI cs),aC eE 4 100 f b6,ak a (aqF way s t act) 56]:=o;have hd:=A0 hR hs ht;simp only[bD,aU,bE];have H4:=H.more o.ext;refine H4.ld rfl (aoF H4.n (o.vw 2 rfl) hA.l λb h5 k hb=> ?_);have :b=true:=hb.2 hA.o;subst this;have o:=o.more k;rw[bP,cz,aO];have H5:=H.more o.ext;refine H5.ld rfl (aoI H5.n (o.vw 2 rfl) hA.l λb h6 m hb=> ?_);have :b=true:=hb.2 hA.h;subst this;have o:=o.more m;rw[bP,cz,aO];rw[dA,bA];refine⟨λhge=> ?_,λhlt=> ?_⟩
 .obtain⟨e1,e2⟩:=hA.bad aa;have e3:=hA.no aa;subst e1 e2 e3;refine o.load 0 rfl rfl ?_;rw[cF,iJ,bF];refine o.load 0 rfl rfl ?_;rw[cF,iJ,bF];refine o.load 0 rfl rfl ((o.vw 1 rfl).len ?_);rw[cF];exact hK _ o.ext
 .obtain⟨e1,e2⟩:=hA.ok aa;obtain⟨y1,p,d⟩:=hA.yes aa;subst e1 e2;have e:=H.more o.ext;refine e.ld rfl (o.load 3 rfl rfl (o.load 3 rfl rfl (o.load 0 rfl rfl ?_)));have tr:=L3 (w:=0) y1;rw[wk,p]at tr;refine anl hR e.n (o.vw 1 rfl) (by rw[dr];exact hA.c) (λw h7 _ _ hwk x7=> ?_) λh7 hno=>absurd ⟨aa,aa,_,tr⟩ hno;have hwk:nh g.aj (s:Int) 0 (List.map (λ(i:Nat)=>(i:Int)) cs)=some ((t:Int),w):=hwk;rw[tr]at hwk;injection hwk with hwk;injection hwk with _ hwk;subst hwk;have o:=o.more x7;simp only[cC,cB];refine o.load 0 rfl rfl ?_;rw[fe,iK,aO];refine o.load 0 rfl rfl ?_;rw[fe,iK,aO,bP,cz,aO,fe,iK,aO];refine bV b6.length (λi y h'=>y.1=I i/\h'=h7) ⟨rfl,rfl⟩ ?_;rintro i ⟨y,⟨⟩⟩ h' Z hi ⟨hy,rfl⟩ hZ;dsimp only at hy hZ |-;subst hy;unfold MB;refine(o.vw 2 rfl).len ?_;rw[bC,bA];refine⟨λhil=> ?_,λ_=>hK _ o.ext⟩;have hil:i<b6.length:=aa;have q:=hA.l;have nx:xA prog (I i) (λa0 hz=>Z (a0,()) hz) h':=by
   unfold xA;rw[bw,wI i aa];exact hZ (_,()) h' hil ⟨rfl,rfl⟩
  have he:=d;refine(o.vw 2 rfl).tg (j:=0) (u:=I b6[i].kind) qS hil az rfl ?_;rw[cF,kD];refine⟨λhk=> ?_,λ_=>nx⟩;simp only[aU,bE];refine o.load 3 rfl rfl ?_;rw[fe,F7];refine⟨λw1=> ?_,λ_=>nx⟩;refine o.load 3 rfl rfl ?_;rw[fe,F7];refine⟨λw3=> ?_,λ_=>nx⟩;obtain⟨p1,p2⟩:=d (by unfold JA;rw[BF.2 (show way≠1 by omega),BF.2 (show way≠3 by omega)];rfl) _ (cu hil) hk;refine(o.vw 2 rfl).tg (j:=3) (u:=I b6[i].label) qS hil az rfl ?_;rw[akS,bR aa,aO];refine(o.vw 2 rfl).tg (j:=1) (u:=I b6[i].side) qS hil az rfl ?_;rw[p1,fe,iK,aO];exact nx
end
section
variable{h0 h:af}{L:List aS}{K:KT}{g:G}{r:Nat}{av pv:Value}{al:List Bool}
def JC(vx vy va:Value)(g:G):aS:=iq [xR vx g.X,xR vy g.Y,aR va g.aj]
def aoK{vx vy va:Value}{i:Nat}(o:Own h0 h L)(hi:L[i]? =some (JC vx vy va g)):qK h vx vy va g:=by have o1:=o.out i hi;exact⟨o1.vw 0 rfl,o1.vw 1 rfl,o1.vw 2 rfl⟩
def Eh(vb vd:Value)(mk kd cl:Int)(rl:Bool):Value:=.agg #[vb,.int .u8 mk,.bool rl,vd,.int .u8 kd,.int .u8 cl]
abbrev tV(vb vd:Value)(mk kd cl:Int)(rl:Bool):List Value:=[vb,.int .u8 mk,.bool rl,vd,.int .u8 kd,.int .u8 cl]
def aoL{vb vd:Value}{bs:List Int}{mk kd cl:Int}{rl:Bool}(o:Own h0 h L)(H:Vw rW 1 h vb bs)
  (hK:∀(g:G) vx vy va h',gy g->(∀u∈ [I g.n,vx,vy,va],Mh.plainCell u=true)->Own h0 h' (JC vx vy va g::L)->K (.agg #[I g.n,vx,vy,va]) h'):ah prog 5 [Eh vb vd mk kd cl rl] h K:=by
 refine aK (acY ?_);unfold Ms;refine(Own.start h).box λd1 h1 o1=> ?_;have o1:Own h h1 [ak d1 (tV vb vd mk kd cl rl) 25]:=o1;refine o1.box λt2 h2 o2=> ?_;simp only[aU,bE];refine o2.load 1 rfl rfl (o2.load 1 rfl rfl ((H.more o2.ext).len ?_));have e:(if(60:Int)<bs.length then 60 else(bs.length:Int))=((min bs.length 60:Nat):Int):=by split<;>omega
 rw[rU,e];refine H.sub (a:=0) (j:=min bs.length 60) acu rfl rfl aa aa λk hb=>⟨bW (by obtain⟨b,c,e⟩:=hb.kG;subst e;rfl),?_⟩;refine o2.box λd h3 m=> ?_;have p:Own h h3 (dR d k 0:: [ak t2 [I 0,aT,aT,aT] 32,ak d1 (tV vb vd mk kd cl rl) 25]):=by obtain⟨b,c,e⟩:=hb.kG;subst e;exact m
 refine ajB p hb λg vx vy va a' h4 hg f=> ?_;have hp:∀u∈ [I g.n,vx,vy,va],Mh.plainCell u=true:=by
  intro u hu;simp at hu;rcases hu with rfl|rfl|rfl|rfl
  .rfl
  .exact(f.vw 0 rfl).plain
  .exact(f.vw 1 rfl).plain
  .exact(f.vw 2 rfl).plain
 refine f.st (l:=[I g.n,vx,vy,va]) (cs':=[I g.n,vx,vy,va]) 4 rfl rfl rfl rfl rfl hp λh5 i=>i.bZ 4 rfl rfl rfl ?_;have q:=i.front 6 [0,1,2] az az;exact hK g vx vy va h5 hg hp (o.frame (Own.sep (l:=[_,_,_]) (L:=[]) q))
structure Za(p:jK):Prop where
 w:p.wrong=0
 d1:p.lG.length<=12
 d2:∀x∈p.lG,0<=x/\x<=4294967295
def aoM{vb vd:Value}{ds:List Int}{mk kd cl:Int}{rl:Bool}(o:Own h0 h L)(H:Vw aqI 1 h vd ds)(hr:∀x∈ds,0<=x/\x<=4294967295)(r1:0<=mk/\mk<=255)(r2:0<=kd/\kd<=255)(r3:0<=cl/\cl<=255)
  (hK:∀p dv h',Za p->(∀u∈gw p dv,Mh.plainCell u=true)->Own h0 h' (aC aqI 1 253 dv p.lG::L)->K (om p dv) h'):ah prog 6 [Eh vb vd mk kd cl rl] h K:=by
 refine aK (acZ ?_);unfold Mu;refine(Own.start h).box λd1 h1 o1=> ?_;have o1:Own h h1 [ak d1 (tV vb vd mk kd cl rl) 25]:=o1;refine o1.box λt2 h2 o2=> ?_;have o2:Own h h2 [ak t2 [I 0,I 0,aT,I 0,I 0] 35,ak d1 (tV vb vd mk kd cl rl) 25]:=o2;have e1:mk.tmod 6=mk%6:=wC r1.1;have e2:kd.tmod 3=kd%3:=wC r2.1;have e3:cl.tmod 8=cl%8:=wC r3.1;have b1:0<=mk.tmod 6/\mk.tmod 6<=5:=aa;have b2:0<=kd.tmod 3/\kd.tmod 3<=2:=aa;have b3:0<=cl.tmod 8/\cl.tmod 8<=7:=aa;clear e1 e2 e3;have hds:∀x∈ds.take (min ds.length 12),0<=x/\x<=4294967295:=λx hx=>hr x (lK hx);have m:(ds.take (min ds.length 12)).length<=12:=by rw[dO];omega
 have H2:=H.more o2.ext;refine gW (λy h'=>∃p3 dv,y=(ptr p3,())/\Own h h' [ak p3 [I (mk.tmod 6),I 0,dv,I (kd.tmod 3),I (1+cl.tmod 8)] 35,aC aqI 1 253 dv (ds.take (min ds.length 12)),ak t2 [I 0,I 0,aT,I 0,I 0] 35,ak d1 (tV vb vd mk kd cl rl) 25]) (λJ hJ=> ?_) ?_
 .simp only[aU,bE];refine o2.load 1 rfl rfl ?_;rw[nR];refine⟨az,?_⟩;rw[fG,bK aa aa];refine o2.load 1 rfl rfl (o2.load 1 rfl rfl (H2.len ?_));have e:(if(12:Int)<ds.length then 12 else(ds.length:Int))=((min ds.length 12:Nat):Int):=by split<;>omega
  rw[rU,e];refine H2.sub (a:=0) (j:=min ds.length 12) (λ_=>rfl) rfl rfl aa aa λt hd=> ?_;rw[ox,jl]at hd;refine o2.load 1 rfl rfl ?_;rw[nR];refine⟨az,?_⟩;rw[fG,bK aa aa];refine o2.load 1 rfl rfl ?_;rw[nR];refine⟨az,?_⟩;rw[fG,bK aa aa,bw,bK aa aa];generalize ds.take (min ds.length 12)=es at hd hds m hJ;have i:∀{dv:Value}{K':Value->Prop},dv.cells= #[dv]->K' (.agg #[I (mk.tmod 6),I 0,dv,I (kd.tmod 3),I (1+cl.tmod 8)])->aV [(.int .i64 0),(.int .i64 0),(.slice none 0 0),(.int .i64 0),(.int .i64 0)] [(0,1,I (mk.tmod 6)),(2,1,dv),(3,1,I (kd.tmod 3)),(4,1,I (1+cl.tmod 8))] K':=λ{dv K'} h1 hk=>by
   refine cE (cs':=[I (mk.tmod 6),I 0,dv,I (kd.tmod 3),I (1+cl.tmod 8)]) ?_ rfl rfl hk;intro p hp;simp at hp;rcases hp with rfl|rfl|rfl|rfl
   .rfl
   .exact h1
   .rfl
   .rfl
  have pl:∀{dv:Value},Mh.plainCell dv=true->∀u∈ [I (mk.tmod 6),I 0,dv,I (kd.tmod 3),I (1+cl.tmod 8)],Mh.plainCell u=true:=λ{dv} h1 u hu=>by
   simp at hu;rcases hu with rfl|rfl|rfl|rfl|rfl
   .rfl
   .rfl
   .exact h1
   .rfl
   .rfl
  have ld:∀{h':af}{k:Nat}{v:Value}{K':Value->Prop},Ext h2 h'->(tV vb vd mk kd cl rl)[k]? =some v->K' v->ag h' (.pointer (some ⟨d1,k,none⟩)) K':=λx hk s=>(o2.more x).load 1 rfl hk s;refine⟨?_,?_⟩
  .refine(Own.start h2).build (enc:=aqI) (n:=1) (T:=253) [] rfl (bW rfl) rfl λw h3 d=>⟨?_,?_⟩
   .refine d.app (ys:=es) 0 rfl (λ_=>rfl) D5 rfl (hd.more d.ext) az (by simp;omega) λdv h4 b=>⟨ld b.ext rfl rfl,ld b.ext rfl rfl,ld b.ext rfl rfl,?_⟩;have hv:=b.vw 0 rfl;refine i hv.one (b.box λp3 h5 c=>c.st (l:=[I (mk.tmod 6),I 0,dv,I (kd.tmod 3),I (1+cl.tmod 8)]) (cs':=[I (mk.tmod 6),I 0,dv,I (kd.tmod 3),I (1+cl.tmod 8)]) 0 rfl rfl rfl rfl rfl (pl hv.plain) λh6 f=>hJ _ _ ⟨p3,dv,rfl,o2.frame f⟩)
   .refine d.box λp3 h4 b=> ?_;refine b.app (ys:=es) 1 rfl (λ_=>rfl) D5 rfl (hd.more b.ext) az (by simp;omega) λdv h5 c=>⟨ld c.ext rfl rfl,ld c.ext rfl rfl,ld c.ext rfl rfl,?_⟩;have hv:=c.vw 1 rfl;refine i hv.one (c.st (l:=[I (mk.tmod 6),I 0,dv,I (kd.tmod 3),I (1+cl.tmod 8)]) (cs':=[I (mk.tmod 6),I 0,dv,I (kd.tmod 3),I (1+cl.tmod 8)]) 0 rfl rfl rfl rfl rfl (pl hv.plain) λh6 f=>hJ _ _ ⟨p3,dv,rfl,o2.frame f⟩)
  .refine(Own.start h2).box λp3 h3 d=> ?_;refine d.build (enc:=aqI) (n:=1) (T:=253) [] rfl (bW rfl) rfl λw h4 b=> ?_;refine b.app (ys:=es) 0 rfl (λ_=>rfl) D5 rfl (hd.more b.ext) az (by simp;omega) λdv h5 c=>⟨ld c.ext rfl rfl,ld c.ext rfl rfl,ld c.ext rfl rfl,?_⟩;have hv:=c.vw 0 rfl;refine i hv.one (c.st (l:=[I (mk.tmod 6),I 0,dv,I (kd.tmod 3),I (1+cl.tmod 8)]) (cs':=[I (mk.tmod 6),I 0,dv,I (kd.tmod 3),I (1+cl.tmod 8)]) 1 rfl rfl rfl rfl rfl (pl hv.plain) λh6 f=>hJ _ _ ⟨p3,dv,rfl,o2.frame (f.bh [1,0] az)⟩)
 .rintro⟨y,⟨⟩⟩ h' ⟨p3,dv,e,d⟩;injection e with e _;dsimp only;subst e;unfold Mt Gs;simp only[aU,bE];have hv:=d.vw 1 rfl;have fin:∀(p:jK)(h2:af),p.marks=mk.tmod 6->(p.rule=0\/p.rule=1)->p.lG=ds.take (min ds.length 12)->p.kind=kd.tmod 3->p.cells=1+cl.tmod 8->
    Own h h2 [ak p3 (gw p dv) 35,aC aqI 1 253 dv (ds.take (min ds.length 12)),ak t2 [I 0,I 0,aT,I 0,I 0] 35,ak d1 (tV vb vd mk kd cl rl) 25]->
    bq 5 h2 (ptr p3) λt30=>aD 5 (ptr t2) t30 h2 λz h_17=>bq 5 h_17 (ptr t2) λres=>K res h_17:=by
   intro p h2 e1 e2 e3 A B b;have q:∀u∈gw p dv,Mh.plainCell u=true:=λu hu=>by
    simp at hu;rcases hu with rfl|rfl|rfl|rfl|rfl
    .rfl
    .rfl
    .exact hv.plain
    .rfl
    .rfl
   refine b.bZ 0 rfl rfl rfl (b.st (l:=gw p dv) (cs':=gw p dv) 2 rfl rfl rfl rfl rfl q λh5 c=>c.bZ 2 rfl rfl rfl ?_);have f:Own h h5 [aC aqI 1 253 dv p.lG]:=by rw[e3];exact c.bh [1] az
   refine hK p dv h5 ⟨?_,by rw[e3];exact m,by rw[e3];exact hds⟩ q (o.frame f);unfold jK.wrong;rw[aQ aa,aQ aa,aQ aa,aQ aa]
  refine d.load 3 rfl rfl ?_;cases rl with
  |true=>rw[bF];refine d.bu 0 (cs':=gw ⟨mk.tmod 6,1,ds.take (min ds.length 12),kd.tmod 3,1+cl.tmod 8⟩ dv) rfl rfl rfl rfl rfl λh4 b=> ?_;exact fin ⟨mk.tmod 6,1,ds.take (min ds.length 12),kd.tmod 3,1+cl.tmod 8⟩ h4 rfl (.inr rfl) rfl rfl rfl b
  |false=>rw[aO];exact fin ⟨mk.tmod 6,0,ds.take (min ds.length 12),kd.tmod 3,1+cl.tmod 8⟩ h' rfl (.inl rfl) rfl rfl rfl d
end
section
variable{h0 h:af}{L T:List aS}{K:KT}{g:G}{p:jK}{x r s t way:Nat}{act:Int}{tv cv fv:Value}
def aoN(hF:gy g)(hw:p.wrong=0)(hd2:∀x∈p.lG,0<=x/\x<=4294967295)(hx:h[x]? =some (.cells #[ptr r,tv,cv,fv] 52 (0,0)))(hN:bX h r g)(hT:yl h g p tv)(hC:vJ h g p cv fv):mq h x r g tv cv fv:=by
 have hR:=hF.toRight;have hpos:=hR.pos;have d:=(@ye p).1.1 hw;have hmk:=gM (d 0 az);refine⟨hx,hN,?_,?_⟩
 .rcases hT with ⟨_,h⟩|⟨h1,t,h2,h3⟩
  .exact .inl h
  .obtain⟨_,a,b⟩:=Jh (p:=p) hR hF.mid.sm hmk.1 λx hx=>(hd2 x hx).1;exact .inr ⟨t,_,h2,h3,λe=>by rw[e]at b;simp at b;omega,aa,a⟩
 .rcases hC with ⟨_,h1,h2⟩|⟨h1,c,b,xs,M,h2,h3,h4,h5,h6,h7⟩
  .exact .inl ⟨h1,h2⟩
  .have hcell:=(gM (d 3 az)).resolve_left h1;obtain⟨f1,f2,f3,f4⟩:=h4.facts hR hcell.1;exact .inr ⟨c,b,xs,M,h2,h3,f1,h5,aa,λz hz=>by rw[<-f2]at hz;exact(Cr (ns:=[]) hz).1,h6,h7⟩
def aoO(ht:isNil tv=false)(hc:isNil cv=false):pg tv cv=[0,1,2,3,4,5]:=by unfold pg iV;rw[ht,hc];decide
def Ei:G:=⟨3,[0,1,2],[0,0,0],[⟨0,1,2⟩,⟨1,2,3⟩,⟨0,2,6⟩]⟩
def Ej:gy Ei:={toRight:=⟨az,az,rfl,rfl,az,az,az,az⟩,jY:=az,short:=az}
def Zb:jK:=⟨1,0,[],1,2⟩
def Zc:dst Ei 0 2=5:=by decide+kernel
def Zd{K:Value->Prop}(hk:K (.bool false)):bL true .iface .nilIface .nilIface K:=hk
def aoP(hK:∀h',Ext h h'->K (.bool true) h'):ah prog 4 [] h K:=by
 refine aK (acX ?_);unfold Mr;refine(Own.start h).build (enc:=aJ) (n:=1) [0,1,2] rfl (bW rfl) rfl λvx h1 o=> ?_;refine o.build (enc:=aJ) (n:=1) [0,0,0] rfl (bW rfl) rfl λvy h2 o=> ?_;refine cE (cs':=[I 0,I 1,I 2]) (by intro p hp;simp at hp;rcases hp with rfl|rfl|rfl<;>rfl) rfl rfl ?_;refine cE (cs':=[I 1,I 2,I 3]) (by intro p hp;simp at hp;rcases hp with rfl|rfl|rfl<;>rfl) rfl rfl ?_;refine cE (cs':=[I 0,I 2,I 6]) (by intro p hp;simp at hp;rcases hp with rfl|rfl|rfl<;>rfl) rfl rfl ?_;refine o.build (enc:=fI) (n:=3) [⟨0,1,2⟩,⟨1,2,3⟩,⟨0,2,6⟩] rfl (bW rfl) rfl λva h3 o=> ?_;have v1:=o.vw 2 rfl;have v2:=o.vw 1 rfl;have v3:=o.vw 0 rfl;refine cE (cs':=[I 3,vx,vy,va]) (by intro p hp;simp at hp;rcases hp with rfl|rfl|rfl|rfl;rfl;exact v1.one;exact v2.one;exact v3.one) rfl rfl ?_;refine o.box λg1 h4 o=>o.st (l:=[I 3,vx,vy,va]) (cs':=[I 3,vx,vy,va]) 0 rfl rfl rfl rfl rfl (by intro u hu;simp at hu;rcases hu with rfl|rfl|rfl|rfl;rfl;exact v1.plain;exact v2.plain;exact v3.plain) λh5 o=> ?_;refine o.bZ 0 rfl rfl rfl ?_;refine cE (cs':=gw Zb aT) (by intro p hp;simp at hp;rcases hp with rfl|rfl|rfl<;>rfl) rfl rfl ?_;have HR:qL h5 (.agg #[I Ei.n,vx,vy,va]) Ei:=⟨vx,vy,va,rfl,o.vw 3 rfl,o.vw 2 rfl,o.vw 1 rfl⟩;refine YF (p:=Zb) Ej.mid HR az Vw.nil az (λx hx=>by cases hx) λx r tv cv fv h6 j hx hN hT hC=> ?_;have H:=aoN Ej az (λx hx=>by cases hx) hx hN hT hC;have b:isNil tv=false:=by
  rcases hT with ⟨h,_⟩|⟨_,t,rfl,_⟩
  .exact absurd h az
  .rfl
 have d:isNil cv=false:=by
  rcases hC with ⟨h,_⟩|⟨_,c,_,_,_,rfl,_⟩
  .exact absurd h az
  .rfl
 simp only[cC,cB];refine Zd ?_;rw[aO];have k:Ext h h6:=(o.more j).ext;clear o;refine YU (Own.start h6) Ej.toRight H λw h7 e=>(e.vw 0 rfl).len ?_;rw[aoO b d,fe];show aA (.bool false) _ _;rw[aO];refine bV 6 (λi y h'=>y.1=I i/\Ext h6 h') ⟨rfl,e.ext⟩ ?_;rintro i ⟨y,⟨⟩⟩ h8 Z hi ⟨hy,a⟩ hZ;dsimp only at hy hZ |-;subst hy;unfold Mq;rw[bC,bA];refine⟨λhlt=> ?_,λhge=>hK _ (k.trans a λ_ h _=>h)⟩;have hlt:i<6:=aa;refine cE (cs':=aqF i 0 2 0) (by intro p hp;simp at hp;rcases hp with rfl|rfl<;>rfl) rfl rfl ?_;have hh:iV tv cv i=true:=by unfold iV;rw[b,d];simp
 refine Y7 Ej (H.more a) hlt hh az az λcode aM wa wc m cs b6 h9 f c1 c2 hA=> ?_;simp only[cC,cB];obtain⟨e1,e2⟩:=hA.ok (by rw[Zc];decide);rw[Zc]at e2;subst e1 e2;refine f.box λa5 h10 o=>o.st (l:=[I 0,I 5,wa,wc]) (cs':=[I 0,I 5,wa,wc]) 0 rfl rfl rfl rfl rfl (sB (f.vw 0 rfl).plain c2) λh11 o=> ?_;simp only[aU,bE];refine o.load 0 rfl rfl ?_;rw[fe,iK,aO];refine o.load 0 rfl rfl ?_;rw[fe,iK,aO,bw,wI i aa];exact hZ (_,()) h11 hlt ⟨rfl,a.trans o.ext λ_ h _=>h⟩
end
end Go.Proofs.YtacopgnplajifaaGreatDoor
