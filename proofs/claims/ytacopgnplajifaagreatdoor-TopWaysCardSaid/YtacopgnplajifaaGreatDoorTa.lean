/- Lemmas on the way to the law of this seat, joined. They have no conditions of their own. -/
import Derived.Test.YtacopgnplajifaaGreatDoorGb
import Derived.Test.YtacopgnplajifaaGreatDoorMb
import Derived.Tactics
import Derived.Tactics2
import Derived.Test.YtacopgnplajifaaGreatDoorMc
set_option linter.unusedVariables false
set_option linter.unusedSimpArgs false
set_option linter.unusedSectionVars false
set_option linter.defProp false
set_option maxRecDepth 100000

namespace Go.Proofs.YtacopgnplajifaaGreatDoor
open Go Go.Mh Tryz
def ajm{h:af}{K:Exit->bU->List Nat->af->Prop}(hk:∀e,K .normal e [] h):compile prog 17 false (cR (f113.body.getD .skip)) (eX (cR (f113.body.getD .skip)) 0 []).1 [(1,.nilIface)] [] h K:=
 Eq.mpr (α:=compile prog 17 false (cR (f113.body.getD .skip)) (eX (cR (f113.body.getD .skip)) 0 []).1 [(1,.nilIface)] [] h K)
  (β:=K .normal [(6,.bool false),(5,.nilIface),(1,.nilIface)] [] h) bn (hk _)
def ajn{v:Value}{h:af}{K:af->Prop}(hk:K h):js prog 113 #[v] h K:=by
 refine⟨bn,λw hw=> ?_⟩;subst hw;refine callsDIn_of_wpSIn func113 rfl trivial λc₀ cs hu=> ?_;apply wpSIn_seq;generalize hQ:bodyPostS prog _ c₀ cs _=Q;apply wpSIn_region;simp[wpOpsSIn,go_sem,recoverD,hu,ntmps113,Exit.thenS];have hr:∀(tm:Array Value),tm[1]? =some Value.nilIface->tm.size=17->
   Code.wpSIn Fence.wide 0 prog (cR (f113.body.getD .skip)) Q {tmps:=tm,defers:=[]} (c₀::cs) w:=by
  intro tm h1 hs;subst hQ;refine wpSIn_of_wpIn rfl ?_;refine jT _ _ none _ [] w.heap (λex _ m h'=>ex=.normal/\m=[]/\h'=w.heap) (ajm λe=>⟨rfl,rfl,rfl⟩) bn [] _ w _ ?_ hs rfl rfl ?_
  .intro s v hv;unfold Mh.look at hv;split at hv
   .rename_i hb;have :=gl hb;subst this;rw[h1];exact hv
   .cases hv
  .rintro ex e' m' a' w' hrl _ hd a _ _ ⟨rfl,rfl,hh⟩;have b:a'.defers=[]:=hd;refine⟨b,.returning,?_,.tuple #[],?_,_,rfl,rfl,a,hh▸hk⟩
   .cases c₀;simp only at hu;subst hu;rfl
   .have hq:gu prog e' w'.heap f113.results.toList (λl=>l=[]):=by
     rw[results113];rfl
    obtain⟨l,hl,rfl⟩:=tc hrl hq;exact pO hl w' rfl
 refine hr _ ?_ ?_
 .simp
 .simp
structure Pl where
 i:Int
 f:Int
 c:Int
 n:Int
 l:Int
 e:Int
def lV(p:Pl):List Value:=[I p.i,I p.f,I p.c,I p.n,I p.l,I p.e]
def VH(p:Pl):(lV p).length=6:=rfl
def HQ(p:Pl):∀u∈lV p,Mh.plainCell u=true:=by intro u hu;simp[lV]at hu;rcases hu with rfl|rfl|rfl|rfl|rfl|rfl<;>rfl
def Pl.Ok(p:Pl):Prop:=p.l<=p.n/\p.n<p.e
def VI(x:List Value):Prop:=∃p:Pl,x=[.agg (lV p).toArray]/\p.Ok
section
variable{h0 h:af}{L:List aS}{K:KT}{vs:Value}{ps:List Pl}{b:Nat}
def ajo(hl:ps.length<2^40):Iter prog (.func (.func 375) #[] #[ptr b]) (λh=>h[b]? =some (.cells #[vs] 448 (0,0))/\Vw lV 6 h vs ps) ps.length
  (λi hi=>[.agg (lV ps[i]).toArray]):=by
 rintro yv h0 h Rs K J E ⟨l,rfl⟩ o c hQ hY hK;refine jE (l:=[dS l,ptr b]) rfl (aiV ?_);unfold U7;obtain⟨hb,hv⟩:=hQ _ _ _ c o;have hc:hcell h ⟨b,0,none⟩=some vs:=bz hb rfl;simp only[dh,hc];refine hv.len ?_;refine bV ps.length (λi x h'=>x.1=I i/\∃a,J i a/\Own h0 h' a) ⟨rfl,Rs,c,o⟩ ?_;rintro i ⟨x,⟨⟩⟩ h Z hi ⟨hx,a,hj,o⟩ hZ;dsimp only at hx hZ |-;subst hx;unfold U6;simp only[bC,bA];refine⟨λhlt=> ?_,λhge=> ?_⟩
 .have hlt:i<ps.length:=aa;obtain⟨_,hv⟩:=hQ _ _ _ hj o;refine hv.jW VH hlt ?_;refine o.box λv4 h1 o1=>o1.st 0 rfl rfl rfl rfl rfl (HQ _) λh2 o2=>o2.bZ 0 rfl rfl rfl ?_;refine hY i _ (i+1) a [] h2 _ ⟨⟨hlt,rfl⟩,rfl⟩ hj o2.tail.oK (λd h'' hj' o'=> ?_) λd h'' he o'=> ?_
  .rw[bP,cz,aO,bw,wI i aa];exact hZ (I (i+1:Nat),()) h'' hlt ⟨rfl,d,hj',o'.gi⟩
  .rw[bP,dL,bF];exact hK _ _ (.inr he) o'.gi
 .have :i=ps.length:=aa;exact hK _ _ (.inl ⟨i,this,hj⟩) o
def u7(fv:Value)(Q:af->Prop):Prop:=Gd prog fv Q VI
def VJ{h:af}{K:KT}{vs:Value}{ps:List Pl}(o:Own h0 h (aC lV 6 341 vs ps::L))(hl:ps.length<2^40)(hok:∀p∈ps,p.Ok)
  (hK:∀fv Q(q:aS) h',Own h0 h' (q::L)->(∀h'',Own h0 h'' (q::L)->Q h'')->u7 fv Q->K fv h'):ah prog 332 [vs] h K:=by
 refine aK (aie ?_);unfold Ub;refine o.box λb h1 o1=>hK _ _ (zJ [ak b vs.cells.toList 448,aC lV 6 341 vs ps]) h1 (Own.pack (l:=[ak b vs.cells.toList 448,aC lV 6 341 vs ps]) o1) (λh'' a=>a.get 0 rfl) ?_;refine((ajo (b:=b) (vs:=vs) hl).toS (S:=VI) λi hi=>⟨ps[i],rfl,hok _ (cu hi)⟩).need λh hq=> ?_;obtain⟨bl,H⟩:=hq (aC lV 6 341 vs ps) aP;have hc:=hq (ak b vs.cells.toList 448) aP;have e:vs.cells= #[vs]:=(Vw.one ⟨bl,H.view⟩);refine⟨?_,bl,H.view⟩;have c:h[b]? =some (.cells vs.cells.toList.toArray 448 (0,0)):=hc;rw[c,e]
def VK{c n l e:Int}(o:Own h0 h L)(hok:l<=n/\n<e)(hK:∀fv Q(q:aS) h',Own h0 h' (q::L)->(∀h'',Own h0 h'' (q::L)->Q h'')->u7 fv Q->K fv h'):ah prog 218 [I c,I n,I l,I e] h K:=by refine aK (agk ?_);unfold RP;refine⟨bW rfl,?_⟩;refine o.build (enc:=lV) (n:=6) [⟨0,0,c,n,l,e⟩] rfl (bW rfl) rfl λw h1 o1=> ?_;exact VJ o1 aP (by simp[Pl.Ok];exact hok) hK
def ajp{g:G}{vx vy va:Value}(o:Own h0 h L)(hR:g.Right)(H:qK h vx vy va g)(hK:∀fv Q(q:aS) h',Own h0 h' (q::L)->(∀h'',Own h0 h'' (q::L)->Q h'')->u7 fv Q->K fv h'):
  ah prog 220 [.agg #[I g.n,vx,vy,va]] h K:=by
 refine aK (agm ?_);unfold RR;have hm:=hR.most;refine(Own.start h).box λr h1 o1=> ?_;simp only[aU];have H1:=H.more o1.ext;refine o1.load 0 rfl rfl (o1.load 0 rfl rfl (H1.1.len ?_));have e1:IntKind.i64.wrap ((g.n:Int)+1)=(g.n:Int)+1:=bK aa aa;simp only[bw,e1];refine⟨bW rfl,o1.load 0 rfl rfl (H1.2.1.len ⟨bW rfl,?_⟩)⟩;refine o1.build (enc:=lV) (n:=6) [⟨0,0,6,g.X.length,g.n,g.n+1⟩,⟨0,1,6,g.Y.length,g.n,g.n+1⟩] rfl (bW rfl) rfl λw h2 o2=> ?_;refine VJ (L:=[]++L) (o.frame ((o2.bh [0] az))) aP ?_ hK;intro p hp;simp at hp;have hx:=hR.x;have hy:=hR.y;rcases hp with rfl|rfl<;>simp only[Pl.Ok]<;>omega
def ajq{g:G}{vx vy va:Value}{r:Nat}(hR:g.Right):u7 (.func (.func 333) #[] #[ptr r]) (λh=>h[r]? =some (.cells #[I g.n,vx,vy,va] 32 (0,0))/\qK h vx vy va g):=by
 rintro yv h0 h Rs K J E ⟨l,rfl⟩ o d hQ hY hK;refine jE (l:=[dS l,ptr r]) rfl (aif ?_);unfold Ue;obtain⟨hb,hv⟩:=hQ _ _ _ d o;have c1:hcell h ⟨r,1,none⟩=some vx:=bz hb rfl;have hm:=hR.most;have hx:=hR.x;have hy:=hR.y;simp only[aU,dh,bE,c1];refine hv.1.len ?_;refine bV g.X.length (λi x h'=>x.1=I i/\∃a,J () a/\Own h0 h' a) ⟨rfl,Rs,d,o⟩ ?_;rintro i ⟨x,⟨⟩⟩ h Z hi ⟨hx',a,hj,o⟩ hZ;dsimp only at hx' hZ |-;subst hx';unfold Ud;simp only[bC,bA];refine⟨λhlt=> ?_,λhge=>hK _ _ (.inl ⟨(),trivial,hj⟩) o⟩;have hlt:i<g.X.length:=aa;have hlty:i<g.Y.length:=aa;obtain⟨hb,hv⟩:=hQ _ _ _ hj o;have c1:hcell h ⟨r,1,none⟩=some vx:=bz hb rfl;have c2:hcell h ⟨r,2,none⟩=some vy:=bz hb rfl;simp only[aU,dh,bE,c1,c2];refine hv.1.Im hlt (hv.2.1.Im hlty ?_);refine o.build (enc:=aJ) (n:=1) [g.X[i],g.Y[i]] rfl (bW rfl) rfl λw h1 o1=> ?_;refine(o1.vw 0 rfl).len ?_;refine bV 2 (λj x h'=>x.1=I j/\∃a,J () a/\Own h0 h' (a++ [aC aJ 1 2 w [g.X[i],g.Y[i]]])) ⟨rfl,a,hj,o1.oJ⟩ ?_;rintro j ⟨x,⟨⟩⟩ h2 p hj2 ⟨hx',c,hj',o2⟩ e;dsimp only at hx' e |-;subst hx';unfold Uc;simp only[bC,bA];refine⟨λf=> ?_,λhge=> ?_⟩
 .have hw:(c++ [aC aJ 1 2 w [g.X[i],g.Y[i]]])[c.length]? =some (aC aJ 1 2 w [g.X[i],g.Y[i]]):=aP;have hjl:j< [g.X[i],g.Y[i]].length:=by simp at f |-;omega
  refine(o2.vw _ hw).Im hjl ⟨bW rfl,?_⟩;have hr: -2147483648<= [g.X[i],g.Y[i]][j]/\ [g.X[i],g.Y[i]][j]<2147483648:=by
   have h1:=hR.xr _ (cu hlt);have h2:=hR.yr _ (cu hlty);have :j=0\/j=1:=by simp at hjl;omega
   rcases this with rfl|rfl
   .simp only[Kc];omega
   .simp only[vZ,Kc];omega
  refine hY () _ () c _ h2 _ ⟨⟨i,j,7,[g.X[i],g.Y[i]][j],-2147483648,2147483648⟩,rfl,hr⟩ hj' o2 (λk h'' m o'=> ?_) λk h'' he o'=> ?_
  .rw[bP,cz,aO,bw,wI j aa];exact e (I (j+1:Nat),()) h'' (by simp at f;omega) ⟨rfl,k,m,o'⟩
  .rw[bP,dL,bF];exact hK _ _ (.inr he) o'.left
 .rw[bw,wI i aa];exact hZ (I (i+1:Nat),()) h2 hlt ⟨rfl,c,hj',o2.left⟩
def ajr{g:G}{vx vy va:Value}{r:Nat}(hR:g.Right):u7 (.func (.func 334) #[] #[ptr r]) (λh=>h[r]? =some (.cells #[I g.n,vx,vy,va] 32 (0,0))/\qK h vx vy va g):=by
 rintro yv h0 h Rs K J E ⟨l,rfl⟩ o k hQ hY hK;refine jE (l:=[dS l,ptr r]) rfl (aih ?_);unfold Uh;obtain⟨hb,hv⟩:=hQ _ _ _ k o;have c0:hcell h ⟨r,0,none⟩=some (I g.n):=bz hb rfl;have c3:hcell h ⟨r,3,none⟩=some va:=bz hb rfl;have hm:=hR.most;have y:=hR.many;simp only[aU,dh,bE,c0,c3];refine hv.2.2.len ?_;refine bV g.aj.length (λi x h'=>x.1=I i/\∃c,J () c/\Own h0 h' c) ⟨rfl,Rs,k,o⟩ ?_;rintro i ⟨x,⟨⟩⟩ h Z hi ⟨hx',c,hj,o⟩ hZ;dsimp only at hx' hZ |-;subst hx';unfold Ug;simp only[bC,bA];refine⟨λhlt=> ?_,λhge=>hK _ _ (.inl ⟨(),trivial,hj⟩) o⟩;have hlt:i<g.aj.length:=aa;obtain⟨hb,hv⟩:=hQ _ _ _ hj o;refine hv.2.2.jW qJ hlt ?_;have he:=hR.ends _ (cu hlt);generalize g.aj[i]=a at he;refine o.box λa5 h1 o1=>o1.st 0 rfl rfl rfl rfl rfl (gQ _) λh2 o2=> ?_;simp only[aU];refine o2.load 0 rfl rfl ⟨bW rfl,o2.load 0 rfl rfl ⟨bW rfl,o2.load 0 rfl rfl ⟨bW rfl,?_⟩⟩⟩;refine o2.build (enc:=lV) (n:=6) [⟨i,0,9,a.f,0,g.n⟩,⟨i,1,9,a.t,0,g.n⟩,⟨i,2,10,a.w,0,2147483648⟩] bn (bW bn) rfl λw h3 d=> ?_;refine(d.vw 0 rfl).len ?_;obtain⟨ps,hps⟩:∃ps:List Pl,ps=[⟨i,0,9,a.f,0,g.n⟩,⟨i,1,9,a.t,0,g.n⟩,⟨i,2,10,a.w,0,2147483648⟩]:=⟨_,rfl⟩;have u:ps.length=3:=by subst hps;rfl
 have hok:∀p∈ps,p.Ok:=by intro p hp;subst hps;simp at hp;rcases hp with rfl|rfl|rfl<;>simp only[Pl.Ok]<;>omega
 rw[<-hps]at d |-;rw[u];refine bV 3 (λj x h'=>x.1=I j/\∃c,J () c/\Own h0 h' (c++ [aC lV 6 341 w ps])) ⟨rfl,c,hj,(d.erase 1).oJ⟩ ?_;rintro j ⟨x,⟨⟩⟩ h2 z hj2 ⟨hx',e,hj',o2⟩ m;dsimp only at hx' m |-;subst hx';unfold Uf;simp only[bC,bA];refine⟨λA=> ?_,λhge=> ?_⟩
 .have hw:(e++ [aC lV 6 341 w ps])[e.length]? =some (aC lV 6 341 w ps):=aP;have hjl:j<ps.length:=aa;refine(o2.vw _ hw).jW VH hjl ?_;refine o2.box λB h3 d=>d.st 0 rfl rfl rfl rfl rfl (HQ _) λh4 q=>q.bZ 0 rfl rfl rfl ?_;refine hY () _ () e _ h4 _ ⟨ps[j],rfl,hok _ (cu hjl)⟩ hj' q.tail (λs h'' v o'=> ?_) λs h'' he o'=> ?_
  .rw[bP,cz,aO,bw,wI j aa];exact m (I (j+1:Nat),()) h'' aa ⟨rfl,s,v,o'⟩
  .rw[bP,dL,bF];exact hK _ _ (.inr he) o'.left
 .rw[bw,wI i aa];exact hZ (I (i+1:Nat),()) h2 hlt ⟨rfl,e,hj',o2.left⟩
end
section
variable{h0 h:af}{L:List aS}{K:KT}{vs:Value}{ps:List Pl}{b:Nat}
def ajs{fv:Value}{Q:af->Prop}{phase:Value}{c f:af->Prop}(hI:u7 fv Q)(o:Own h0 h L)(hQ:∀h',Own h0 h' L->Q h')(hK:∀h',Own h0 h' (cw h.size::L)->c h'):
  gO prog fv [19] (h.size+1) (h.push (.deferred (some []))) (λM x hh R=>CN prog h phase M x.1 hh R) c f []:=by
 refine o.range hI (λs x s'⟨p,e,_⟩=>by rw[e];rfl) (λ_ Rs=>Rs=L) (λ_=>False) (λ_ _=>False) rfl (λ_ d h' e o'=>hQ h' (e▸o')) ?_ (λ_ h' d _ e o'=>hK h' (e▸o')) (λ_ _ h=>h.elim) (λ_ _ _ h=>h.elim);rintro M ⟨⟩ x ⟨⟩ d Pr h' R ⟨p,rfl,hp⟩ rfl o' hN _ _;dsimp only[gh];unfold CN;refine o'.box λg h1 o1=>o1.st 0 rfl rfl rfl rfl rfl (HQ _) λh2 o2=> ?_;refine o2.begin 1 rfl λh3 a=> ?_;simp only[aU];refine a.load 0 rfl rfl (a.load 0 rfl rfl ?_);simp only[bC,bA];refine⟨λe=>by have :=hp.1;omega,λ_=>a.load 0 rfl rfl (a.load 0 rfl rfl ?_)⟩;simp only[dA,bA];refine⟨λe=>by have :=hp.2;omega,λ_=> ?_⟩;exact hN _ _ rfl a.tail
set_option maxHeartbeats 2000000 in
def ajt{g:G}{v:Value}(hR:g.Right)(H:qL h v g)(hK:∀h',Ext h h'->K (.tuple #[]) h'):ah prog 114 [v] h K:=by
 obtain⟨vx,vy,va,rfl,H⟩:=H;refine aK (aeA ?_);unfold O5;refine(Own.start h).box λr h1 o1=> ?_;refine o1.build (enc:=lT) (n:=1) [.func (.func 217) #[] #[ptr r],.func (.func 219) #[] #[ptr r],.func (.func 221) #[] #[ptr r],.func (.func 223) #[] #[ptr r],.func (.func 224) #[] #[ptr r]] rfl (bW rfl) rfl λw h2 o2=> ?_;refine(o2.vw 0 rfl).len ?_;have hm:=hR.most;have hp1:=hR.pos;refine bV 5 (λi x h'=>∃m,x.1=m/\x.2.1=I i/\Own h h' [kF m,aC lT 1 337 w [.func (.func 217) #[] #[ptr r],.func (.func 219) #[] #[ptr r],.func (.func 221) #[] #[ptr r],.func (.func 223) #[] #[ptr r],.func (.func 224) #[] #[ptr r]],ak r [I g.n,vx,vy,va] 32])
  ⟨[],rfl,rfl,o2.Cf⟩ ?_
 clear o1 o2;rintro i ⟨m,x,⟨⟩⟩ h2 Z hi ⟨m',hm',hx,o⟩ hZ;dsimp only at hx hm' hZ |-;subst hx;obtain rfl:=hm'.symm;unfold O4;simp only[bC,bA];refine⟨λhlt=> ?_,λhge=>o.take 0 rfl λh' o'=>hK h' o'.ext⟩;have hlt:i<5:=by simp at hlt;omega
 have rest:∀{t16:Value},(∀{h3:af}{phase:Nat}{L:List aS}{K:KT},Own h h3 (L++ [ak r [I g.n,vx,vy,va] 32])->(∀fv Q(q:aS) h',Own h h' (q::(L++ [ak r [I g.n,vx,vy,va] 32]))->(∀h'',Own h h'' (q::(L++ [ak r [I g.n,vx,vy,va] 32]))->Q h'')->u7 fv Q->K fv h')->aX prog t16 [].toArray h3 K)->
   aB 3 (.int .i64 0) h2 λf h_4=>aD 1 f (I i) h_4 λu h_5=>aX prog t16 [].toArray h_5 λt18 h_6=>
    gO prog t18 [19] (h_6.size+1) (h_6.push (.deferred (some []))) (λL x hh R=>CN prog h_6 f L x.1 hh R)
     (λh_13=>aq .add (I i) (.int .i64 1) λt43=>Z (h_6.size::m',(t43,())) h_13) (λh_14=>de (h_6.size::m') h_14 λh_15=>K (.tuple #[]) h_15) []:=by
  intro t16 hc;refine o.box λp h3 a=>a.bu 0 rfl rfl rfl rfl rfl λh4 c=> ?_;refine hc (phase:=p) (L:=[ak p [I i] 3,kF m',aC lT 1 337 w [.func (.func 217) #[] #[ptr r],.func (.func 219) #[] #[ptr r],.func (.func 221) #[] #[ptr r],.func (.func 223) #[] #[ptr r],.func (.func 224) #[] #[ptr r]]]) c λfv Q q h5 j hq ht=> ?_;refine ajs ht j hq λh6 k=> ?_;rw[bw,wI i aa];have s:=k.xm 2 rfl;exact hZ (h5.size::m',(I (i+1:Nat),())) h6 hlt ⟨_,rfl,rfl,s.tail.tail⟩
 have raw:∀{h3:af}{L:List aS},Own h h3 (L++ [ak r [I g.n,vx,vy,va] 32])->h3[r]? =some (.cells #[I g.n,vx,vy,va] 32 (0,0))/\qK h3 vx vy va g:=λ{h3 L} a=>⟨a.get (r:=ak r [I g.n,vx,vy,va] 32) L.length aP,H.more a.ext⟩
 have t:i=0\/i=1\/i=2\/i=3\/i=4:=aa;rcases t with rfl|rfl|rfl|rfl|rfl
 .refine(o.vw 1 rfl).dU (e:=λx=>x) (λ_=>rfl) aP ?_;refine rest λ{h3 p L K} a hc=> ?_;show aX prog (.func (.func 217) #[] #[ptr r]) _ _ _;refine cg (l:=[ptr r]) rfl (agj ?_);unfold RO;have c0:hcell h3 ⟨r,0,none⟩=some (I g.n):=bz (raw a).1 rfl;simp only[aU,dh,c0];exact VK a aa hc
 .refine(o.vw 1 rfl).dU (e:=λx=>x) (λ_=>rfl) aP ?_;refine rest λ{h3 p L K} a hc=> ?_;show aX prog (.func (.func 219) #[] #[ptr r]) _ _ _;refine cg (l:=[ptr r]) rfl (agl ?_);unfold RQ;refine a.bZ (cs:=[I g.n,vx,vy,va]) (T:=32) L.length aP rfl rfl ?_;exact ajp a hR (raw a).2 hc
 .refine(o.vw 1 rfl).dU (e:=λx=>x) (λ_=>rfl) aP ?_;refine rest λ{h3 p L K} a hc=> ?_;show aX prog (.func (.func 221) #[] #[ptr r]) _ _ _;refine cg (l:=[ptr r]) rfl (agn ?_);unfold RS;refine a.bZ (cs:=[I g.n,vx,vy,va]) (T:=32) L.length aP rfl rfl ?_;refine aK (ago ?_);unfold RT;exact a.box λb h4 c=>hc _ _ _ h4 c (λh'' d=>⟨d.get 0 rfl,H.more d.ext⟩) (ajq hR)
 .refine(o.vw 1 rfl).dU (e:=λx=>x) (λ_=>rfl) aP ?_;refine rest λ{h3 p L K} a hc=> ?_;show aX prog (.func (.func 223) #[] #[ptr r]) _ _ _;refine cg (l:=[ptr r]) rfl (agp ?_);unfold RU;have c0:hcell h3 ⟨r,3,none⟩=some va:=bz (raw a).1 rfl;have y:=hR.many;simp only[aU,dh,bE,c0];refine(raw a).2.2.2.len ?_;exact VK a aa hc
 .refine(o.vw 1 rfl).dU (e:=λx=>x) (λ_=>rfl) aP ?_;refine rest λ{h3 p L K} a hc=> ?_;show aX prog (.func (.func 224) #[] #[ptr r]) _ _ _;refine cg (l:=[ptr r]) rfl (agq ?_);unfold RV;refine a.bZ (cs:=[I g.n,vx,vy,va]) (T:=32) L.length aP rfl rfl ?_;refine aK (agr ?_);unfold RX;exact a.box λb h4 c=>hc _ _ _ h4 c (λh'' d=>⟨d.get 0 rfl,H.more d.ext⟩) (ajr hR)
end
section
variable{α:Type}{enc:α->List Value}{n bytes:Nat}{T:TypeId}{h0 h:af}{L:List aS}{K:KT}{s:Value}{xs:List α}{z:List Value}
def Db(o:Own h0 h L)(H:Vw enc n h s xs)(he:∀a,(enc a).length=n)(hp:∀a,∀u∈enc a,Mh.plainCell u=true)(hz:z.length=n)(hby:0<bytes)(hl:xs.length*bytes<=2^47)
  (hK:∀v' h',Own h0 h' (aC enc n T v' xs::L)->K v' h'):
  bL false .slice s (.slice none 0 0) λt4=>aA t4 (K (.slice none 0 0) h) (uX T (bO z 0) [] 0 h λt5 h_1=>uY T n bytes z t5 s h_1 λt7 h_2=>K t7 h_2):=by
 obtain⟨b,c,rfl⟩:=H.kG;simp only[ab0];rw[zB];refine⟨λhb=> ?_,λ_=> ?_⟩
 .obtain⟨bl,b',c',e,_,H'⟩:=H;injection e with e1 e2 e3;subst e1;cases b with
  |some a=>cases hb
  |none=>
   rcases H' with ⟨rfl,_⟩|⟨_,_,_,_,_,e,_⟩
   .exact hK _ _ o.ef
   .cases e
 .refine(Own.start h).build (enc:=enc) (n:=n) ([]:List α) (by simp[bO,gq,row]) (bW rfl) rfl λw h1 o1=> ?_;exact o1.app 0 rfl he hp hz (H.more o1.ext) hby (by simpa using hl) λv' h' o'=>hK v' h' (o.frame o')
def Dc{xs:List Nat}(o:Own h0 h L)(H:Vw bg 1 h s xs)(hl:xs.length<=2^40)(hK:∀v' h',Own h0 h' (aC bg 1 3 v' xs::L)->K v' h'):ah prog 53 [s] h K:=aK (Nz (Db o H uV qM rfl az aa hK))
def HS{xs:List Int}(o:Own h0 h L)(H:Vw aJ 1 h s xs)(hl:xs.length<=2^40)(hK:∀v' h',Own h0 h' (aC aJ 1 2 v' xs::L)->K v' h'):ah prog 119 [s] h K:=aK (aeF (Db o H pZ jb rfl az aa hK))
def aju{xs:List A}(o:Own h0 h L)(H:Vw fI 3 h s xs)(hl:xs.length<=2^40)(hK:∀v' h',Own h0 h' (aC fI 3 59 v' xs::L)->K v' h'):ah prog 120 [s] h K:=aK (aeH (Db o H qJ gQ rfl az aa hK))
end
def ajv{n:Nat}(hn:n<4294967296):(BitVec.ofInt 64 (n:Int)&&& BitVec.ofInt 64 4294967295).toNat=n:=by
 have e1:(BitVec.ofInt 64 (n:Int)).toNat=n:=by simp[BitVec.toNat_ofInt];omega
 have e2:(BitVec.ofInt 64 4294967295).toNat=4294967295:=rfl;rw[BitVec.toNat_and,e1,e2,show 4294967295=2^32-1 from rfl,Nat.and_two_pow_sub_one_eq_mod];omega
def HU{n:Int}(h0:0<=n)(h1:n<=18446744073709551615):IntKind.u64.wrap n=n:=F8 h0 h1
section
variable{k k':IntKind}{a b:Int}{K:Value->Prop}
def ajw:aq .and (.int k a) (.int k b) K↔K (.int k (k.wrap (BitVec.ofInt k.bits a&&& BitVec.ofInt k.bits b).toNat)):=by simp[aq]
def ajx:aq .shr (.int k a) (.int k' b) K↔0<=b/\K (.int k (a.fdiv (2^(min b.toNat k.bits)))):=by simp[aq]
end
def ajy{h:af}{K:KT}{n:Nat}(hn:n<4294967296)(hK:K (.tuple #[.int .u64 0,.int .u64 n]) h):ah prog 174 [.int .u64 1,.int .u64 n] h K:=by
 refine aK (afG ?_);unfold QE;refine aK (ahx ?_);unfold Tj;have ea:IntKind.u64.wrap ((BitVec.ofInt IntKind.u64.bits 1&&& BitVec.ofInt IntKind.u64.bits 4294967295).toNat:Int)=1:=rfl;have wn:IntKind.u64.wrap (n:Int)=n:=HU aa aa;have eb:IntKind.u64.wrap ((BitVec.ofInt IntKind.u64.bits (n:Int)&&& BitVec.ofInt IntKind.u64.bits 4294967295).toNat:Int)=n:=by show IntKind.u64.wrap ((BitVec.ofInt 64 (n:Int)&&& BitVec.ofInt 64 4294967295).toNat:Int)=n;rw[ajv hn,wn]
 have c:((n:Int).fdiv (2^(min (32:Int).toNat 64)))=0:=by show(n:Int).fdiv 4294967296=0;rw[EY _ az];omega
 have ed:((0:Int).fdiv (2^(min (32:Int).toNat 64)))=0:=rfl;have d:((1:Int).fdiv (2^(min (32:Int).toNat 64)))=0:=rfl;have w0:IntKind.u64.wrap 0=0:=rfl;have e0:IntKind.u64.wrap ((BitVec.ofInt IntKind.u64.bits 0&&& BitVec.ofInt IntKind.u64.bits 4294967295).toNat:Int)=0:=rfl;have e:∀m,min m IntKind.u64.bits=min m 64:=λ_=>rfl;have f:(0:Int)<=32:=az;simp only[ajw,ajx,iO,bw,e,ea,eb,c,ed,d,w0,e0,wn,f,wj,Int.mul_one,Int.zero_mul,Int.mul_zero,yV,wk,rB,cC,cB];exact hK
def VL{α:Type}{enc:α->List Value}{bytes:Nat}{T:TypeId}{h0 h:af}{L:List aS}{K:KT}{s:Value}{a:α}{z:List Value}{m:Nat}{k1:af->Prop}{L2:Value->(KT)->Value->af->(KT)->Prop}
  (o:Own h0 h L) (H:Vw enc 1 h s [a]) (he:∀a,(enc a).length=1) (hp:∀a,∀u∈enc a,Mh.plainCell u=true) {a0:α} (hz:z=enc a0) (hby:bytes<=64) (hm:m<=16777216)
  (t:∀t30 f h_5 Z,L2 t30 K f h_5 Z=(bB t30 λt36=>aq .lss f t36 λt37=>aA t37 (eW 1 t30 (some f) none none λt41=>eW 1 t30 none (some f) none λt44=>kZ 1 t41 t44 h_5 λt45 h_6=>aq .add f t45 λt46=>Z t46 h_6) (K t30 h_5)))
  (hK:∀v' h',Own h0 h' (aC enc 1 T v' (List.replicate m a)::L)->K v' h'):
  aq .lss (I m) (.int .i64 0) λt10=>aA t10 False (bB s λt14=>cJ .u64 t14 λt15=>cJ .u64 (I m) λt17=>ah prog 174 [t15,t17] h λt18 h_1=>
   bp t18 0 λt19=>bp t18 1 λt20=>aq .gtr t19 (.int .u64 0) λt22=>aA t22 (k1 h_1) (aq .gtr t20 (.int .u64 9223372036854775807) λt25=>aA t25 (k1 h_1) (cJ .i64 t20 λt29=>dG T bytes z t29 t29 h_1 λt30 h_3=>kZ 1 t30 s h_3 λt33 h_4=>bI (σ:=bt [8]) (λx hh d=>L2 t30 K x.1 hh (λa0 hz=>d (a0,()) hz)) (t33,()) h_4))):=by
 simp only[bC,bA];refine⟨λe=>aa,λ_=>H.len ?_⟩;have e1:IntKind.u64.wrap (([a].length:Nat):Int)=1:=rfl;have e2:IntKind.u64.wrap (m:Int)=m:=HU aa aa;simp only[fG,e1,e2];refine ajy aa ?_;simp only[cC,cB,akS,bA];refine⟨λe=>aa,λ_=>⟨λe=>aa,λ_=> ?_⟩⟩;have e3:IntKind.i64.wrap (m:Int)=m:=bK aa aa;simp only[fG,e3];refine(Own.start h).make (n:=1) hz (by have :bytes*m<=64*16777216:=nM hby hm;omega) aa λw h1 o1=> ?_
 have own:∀{h':af}{xs:List α},Own h h' [aC enc 1 T w xs]->xs.length=m->0<m->∃bl cap,w=.slice (some ⟨bl,0,none⟩) m cap/\m<=cap/\eC enc 1 T h' w bl xs/\rV w bl:=by intro h' xs o' hl h0;obtain⟨bl,H⟩:=o'.get 0 rfl;obtain⟨cap,rest,e,hb,hr,hle⟩:=H.full aa;exact⟨bl,cap,by rw[e,hl],aa,H,by rw[e];rfl⟩
 have loop:∀{h':af}{k:Nat},k<=m->(0<m->0<k)->Own h h' [aC enc 1 T w (List.replicate k a++List.replicate (m-k) a0)]->
   bI (σ:=bt [8]) (λx hh d=>L2 w K x.1 hh (λa0 hz=>d (a0,()) hz)) (I k,()) h':=by
  intro h' k hk g o';refine zA (λx h'=>∃k:Nat,x.1=I k/\k<=m/\(0<m->0<k)/\Own h h' [aC enc 1 T w (List.replicate k a++List.replicate (m-k) a0)])
   (λx _=>match x.1 with| .int _ j=>((m:Int)-j).toNat|_=>0) ⟨k,rfl,hk,g,o'⟩ ?_
  clear hk g o' k h';rintro⟨x,⟨⟩⟩ h' Z ⟨k,hx,hk,g,o'⟩ hZ;dsimp only at hx hZ |-;subst hx;rw[t];refine(o'.vw 0 rfl).len ?_;have hl:(List.replicate k a++List.replicate (m-k) a0).length=m:=by simp;omega
  rw[hl];simp only[bC,bA];refine⟨λhlt=> ?_,λhge=> ?_⟩
  .have hlt:k<m:=aa;obtain⟨bl,cap,e,hcap,H,l⟩:=own o' hl aa;have hv:=o'.vw 0 rfl;subst e;have hne:¬cap=k:=aa;refine⟨aP,aa,aa,aa,dQ _,?_⟩;refine⟨aP,aa,aa,aa,dQ _,?_⟩;have hmn:Nat.min ((k:Int).toNat-((0:Nat):Int).toNat) ((m:Int).toNat-(k:Int).toNat)=min k (m-k):=aP;have hc:gN h' 1 (min k (m-k)) (some ⟨bl,0,none⟩)=some (row enc (List.replicate (min k (m-k)) a)):=by
    obtain⟨base,c,e,hc⟩:=hv.cells he;injection e with e1 _ _;subst e1;simp only[gN]at hc |-;obtain⟨cap',rest,_,hb,_⟩:=H.full aa;have hrl:=iN he (List.replicate k a++List.replicate (m-k) a0);rw[hl]at hrl;rw[tf (i:=0) hb _ 0 (by rw[cG,hrl];omega),ox,qt (by rw[hrl];omega),B7 he,qt (by simp;omega),List.take_replicate,show min (min k (m-k)) k=min k (m-k) by omega]
   have v:gE 1 (k:Int).toNat (cap:Int).toNat (some ⟨bl,0,none⟩)=some ⟨bl,k*1,none⟩:=by simp[gE,hne]
   have y:gE 1 ((0:Nat):Int).toNat (cap:Int).toNat (some ⟨bl,0,none⟩)=some ⟨bl,0,none⟩:=by simp[gE]
   rw[v];dsimp only;rw[y];unfold kZ;simp only[hmn,hc];refine o'.xq 0 rfl he hp H l (j:=k) (by simp;omega) λh2 o2=> ?_;have A:IntKind.i64.wrap ((k:Int)+((min k (m-k):Nat):Int))=((k+min k (m-k):Nat):Int):=by rw[bK aa aa];omega
   rw[bw,A];refine hZ (I (k+min k (m-k):Nat),()) h2 ⟨_,rfl,aa,λ_=>aa,?_⟩ (by dsimp only;omega);have ex:(List.replicate k a++List.replicate (m-k) a0).take k++List.replicate (min k (m-k)) a++(List.replicate k a++List.replicate (m-k) a0).drop (k+(List.replicate (min k (m-k)) a).length)=
     List.replicate (k+min k (m-k)) a++List.replicate (m-(k+min k (m-k))) a0:=by
    rw[Bm aP,nN,<-ud,EU aP,List.drop_replicate,List.replicate_append_replicate,Nat.sub_sub]
   rw[ex]at o2;exact o2
  .have :k=m:=aa;subst this;rw[iE,wq,eO]at o';exact hK _ _ (o.frame o')
 have hs:=H.more o1.ext;obtain⟨p,xc,rfl,hx⟩:=hs.cells he;by_cases h0:m=0
 .subst h0;obtain⟨b,c,e⟩:=(o1.vw 0 rfl).kG;have hc:gN h1 1 0 p=some []:=by
   simp only[mQ]at hx;cases p with
   |none=>rfl
   |some q=>
    obtain⟨D,E,qs⟩:=q;cases qs with
    |none=>simp[gN,iL]
    |some _=>cases hx
  have r:bI (σ:=bt [8]) (λx hh d=>L2 w K x.1 hh (λa0 hz=>d (a0,()) hz)) (I (0:Nat),()) h1:=loop (cq _) (λh=>absurd h (Br _)) o1;obtain⟨bl,B⟩:=o1.get 0 rfl;subst e;unfold kZ;have hmn:Nat.min [a].length (List.replicate 0 a0).length=0:=aP;simp only[hmn,hc];rcases B with ⟨e,_⟩|⟨cap,rest,e,_⟩
  .injection e with e1 _ _;subst e1;exact r
  .injection e with e1 _ _;subst e1;exact r
 .obtain⟨bl,cap,e,hcap,C,l⟩:=own o1 aP aa;have hmn:Nat.min [a].length m=1:=iY (by simp;omega);have hx1:gN h1 1 1 p=some (row enc [a]):=hx;have hst:=o1.xq (KP:=λh2=>bI (σ:=bt [8]) (λx hh d=>L2 w K x.1 hh (λa0 hz=>d (a0,()) hz)) (I (1:Nat),()) h2) 0 rfl he hp C l (j:=0) (ys:=[a]) (by simp;omega) λh2 o2=>by
   refine loop aa (λ_=>aa) ?_;have ex:(List.replicate m a0).take 0++ [a]++(List.replicate m a0).drop (0+ [a].length)=List.replicate 1 a++List.replicate (m-1) a0:=aP;rw[ex]at o2;exact o2
  rw[yX]at hst;clear loop own;subst e;unfold kZ;simp only[hmn,hx1];exact hst
def VM{h0 h:af}{L:List aS}{K:KT}{s:Value}{a:Int}{m:Nat}(o:Own h0 h L)(H:Vw aJ 1 h s [a])(hm:m<=16777216)(hK:∀v' h',Own h0 h' (aC aJ 1 3 v' (List.replicate m a)::L)->K v' h'):ah prog 86 [s,I m] h K:=by refine aK (aed ?_);unfold Ou;exact VL (a0:=(0:Int)) (L2:=λt K c h5 Z=>Ot prog t K c h5 Z) o H pZ jb rfl az hm (λ_ _ _ _=>rfl) hK
def VN{h0 h:af}{L:List aS}{K:KT}{s:Value}{a:Int}{m:Nat}(o:Own h0 h L)(H:Vw aJ 1 h s [a])(hm:m<=16777216)(hK:∀v' h',Own h0 h' (aC aJ 1 2 v' (List.replicate m a)::L)->K v' h'):ah prog 85 [s,I m] h K:=by refine aK (aec ?_);unfold Oo;exact VL (a0:=(0:Int)) (L2:=λt K c h5 Z=>On prog t K c h5 Z) o H pZ jb rfl az hm (λ_ _ _ _=>rfl) hK
section
variable{h0 h:af}{L:List aS}{K:KT}{d i:Nat}{vb:Value}{bs:List Int}{a:Nat}
def lW(o:Own h0 h L)(i:Nat)(hi:L[i]? =some (ak d [vb,I a] 68))(hb:Vw rW 1 h0 vb bs)(ha:a<2^40){n:Nat}(hn:1<=n)(hn':n<2^40)
  (hK:∀(k a':Nat) h',k<n->a'<=a+1->Own h0 h' (L.set i (ak d [vb,I a'] 68))->K (I k) h'):ah prog 41 [ptr d,I n] h K:=by
 refine aK (ady ?_);unfold Nl Gz;have o0:Own h0 h (L.set i (ak d [vb,I a] 68)):=o.conv i hi (o.get i hi) λb hb=>hb;simp only[bD,aU];refine o.load i hi rfl ?_;refine(hb.more o.ext).len ?_;simp only[cF,kD];refine⟨λ_=>hK 0 a h hn aa o0,λhlen=> ?_⟩;simp only[bC,bA];refine⟨λe=>aa,λ_=> ?_⟩;refine o.load i hi rfl ?_;have e1:IntKind.i64.wrap ((a:Int)+1)=((a+1:Nat):Int):=wI a aa;simp only[bw,e1];refine o.put i hi rfl aP rfl λh2 o2=> ?_;have hi2:=ng (x:=ak d [vb,I (a+1:Nat)] 68) hi;replace o2:Own h0 h2 (L.set i (ak d [vb,I (a+1:Nat)] 68)):=o2;have c:=hb.more o2.ext;have e2:IntKind.i64.wrap (((a+1:Nat):Int)-1)=(a:Int):=by rw[bK aa aa];omega
 have e3:((a:Int).tmod bs.length)=((a%bs.length:Nat):Int):=rfl;have hlt:a%bs.length<bs.length:=rD _ aa;refine o2.load i hi2 rfl (o2.load i hi2 rfl ?_);simp only[fc,e2];refine o2.load i hi2 rfl (c.len ?_);simp only[nR,e3];refine⟨aa,?_⟩;refine c.dU (e:=λx=>.int .u8 x) (λ_=>rfl) hlt ?_;refine o2.load i hi2 rfl ?_;simp only[fc,e2];refine o2.load i hi2 rfl (c.len ?_);simp only[pX,fG,bw,nR];refine⟨aa,?_⟩;have hw:=acv (bs[a%bs.length]+IntKind.u8.wrap (IntKind.i64.wrap ((a:Int).tdiv bs.length)));generalize IntKind.u8.wrap (bs[a%bs.length]+IntKind.u8.wrap (IntKind.i64.wrap ((a:Int).tdiv bs.length)))=w at hw;have f:IntKind.i64.wrap w=w:=bK aa aa;rw[f];refine⟨aa,?_⟩;obtain⟨u,rfl⟩:=iX hw.1;have g:((u:Int).tmod n)=((u%n:Nat):Int):=rfl;rw[g];exact hK _ (a+1) h2 (rD _ aa) aa o2
def Ab(o:Own h0 h L)(i:Nat)(hi:L[i]? =some (ak d [vb,I a] 68))(hb:Vw rW 1 h0 vb bs)(ha:a<2^39)
  (hK:∀(k a':Nat) h',k<=2147483647->a'<=a+2->Own h0 h' (L.set i (ak d [vb,I a'] 68))->K (I k) h'):ah prog 42 [ptr d] h K:=by
 refine aK (adz ?_);unfold Nn;refine lW (n:=12) o i hi hb aa az az λk a1 h1 hk ha1 o1=> ?_;have hi1:=ng (x:=ak d [vb,I a1] 68) hi;have fin:∀{h2:af}{x:aS},Own h0 h2 ((L.set i (ak d [vb,I a1] 68)).set i x)->Own h0 h2 (L.set i x):=λo=>by rwa[jO]at o
 simp only[bC,bA];refine⟨λ_=>hK 0 a1 h1 aa aa o1,λ_=>⟨λ_=> ?_,λ_=>⟨λ_=> ?_,λ_=> ?_⟩⟩⟩
 .refine lW (n:=9) o1 i hi1 hb aa az az λk a2 h2 hk ha2 o2=> ?_;have e:IntKind.i64.wrap (1+(k:Int))=((1+k:Nat):Int):=by rw[bK aa aa];omega
  rw[bw,e];exact hK _ a2 h2 aa aa (fin o2)
 .refine lW (n:=20) o1 i hi1 hb aa az az λk a2 h2 hk ha2 o2=> ?_;have e:IntKind.i64.wrap (100*(k:Int))=((100*k:Nat):Int):=by rw[bK aa aa];omega
  rw[iO,e];exact hK _ a2 h2 aa aa (fin o2)
 .refine lW (n:=2) o1 i hi1 hb aa az az λk a2 h2 hk ha2 o2=> ?_;have e:IntKind.i64.wrap (2147483647-(k:Int))=((2147483647-k:Nat):Int):=by rw[bK aa aa];omega
  rw[fc,e];exact hK _ a2 h2 aa aa (fin o2)
end
abbrev dR(d:Nat)(vb:Value)(a:Nat):aS:=ak d [vb,I a] 68
abbrev xR(v:Value)(xs:List Int):aS:=aC aJ 1 2 v xs
abbrev aR(v:Value)(xs:List A):aS:=aC fI 3 59 v xs
abbrev aT:Value:=.slice none 0 0
structure gy(g:G):Prop extends G.Right g where
 jY:g.n<=12
 short:g.aj.length<=84
section
variable{h0 h:af}{L:List aS}{K:KT}{d n g3 t2:Nat}{vb vx vy:Value}{bs:List Int}{a:Nat}{xs ys:List Int}
def Dd(h0:af)(L:List aS)(K:KT)(d:Nat)(vb:Value):Prop:=∀(g:G) vx vy va a' h',gy g->Own h0 h' (xR vx g.X::xR vy g.Y::aR va g.aj::dR d vb a'::L)->K (.agg #[I g.n,vx,vy,va]) h'
structure tC(n:Nat)(xs ys:List Int)(aj:List A):Prop where
 n1:1<=n
 n2:n<=12
 x:xs.length=n
 y:ys.length=n
 xr:∀c∈xs,-2147483648<=c/\c<=2147483647
 yr:∀c∈ys,-2147483648<=c/\c<=2147483647
 e:∀a∈aj,a.f<n/\a.t<n/\a.w<=2147483647
def tC.add{aj:List A}(R:tC n xs ys aj){f t w:Nat}(hf:f<n)(ht:t<n)(hw:w<=2147483647):tC n xs ys (aj++ [⟨f,t,w⟩]):=
 ⟨R.n1,R.n2,R.x,R.y,R.xr,R.yr,λa ha=>(cS.1 ha).elim (λh=>R.e a h) λh=>by simp at h;subst h;exact⟨hf,ht,hw⟩⟩
def ajz{aj:List A}{va:Value}{a':Nat}(hK:Dd h0 L K d vb)(R:tC n xs ys aj)(hl:aj.length<=84)
  (o:Own h0 h (aR va aj::xR vx xs::xR vy ys::ak g3 [I n,vx,vy,va] 32::ak t2 [I 0,aT,aT,aT] 32::dR d vb a'::L)):
  bq 4 h (ptr g3) λt116=>aD 4 (ptr t2) t116 h λb h_53=>bq 4 h_53 (ptr t2) λres=>K res h_53:=by
 refine o.bZ 3 rfl rfl rfl ?_;refine o.st 4 rfl rfl rfl rfl rfl ?_ λh2 o2=> ?_
 .intro u hu;simp at hu;rcases hu with rfl|rfl|rfl|rfl
  .rfl
  .exact(o.vw 1 rfl).plain
  .exact(o.vw 2 rfl).plain
  .exact(o.vw 0 rfl).plain
 refine o2.bZ 4 rfl rfl rfl ?_;exact hK ⟨n,xs,ys,aj⟩ vx vy va a' h2 ⟨⟨R.n1,kR R.n2 az,R.x,R.y,R.xr,R.yr,kR hl az,R.e⟩,R.n2,hl⟩ (o2.front 6 [1,2,0,5] az az)
def ajA{aj:List A}{va:Value}{a' many:Nat}(hK:Dd h0 L K d vb)(hb:Vw rW 1 h0 vb bs)(R:tC n xs ys aj)(hl:aj.length<=12)(hm:many<=36)(ha:a'<=1000)
  (o:Own h0 h (aR va aj::xR vx xs::xR vy ys::ak g3 [I n,vx,vy,va] 32::ak t2 [I 0,aT,aT,aT] 32::dR d vb a'::L)):
  zW prog (I many) (ptr g3) (ptr d) (ptr t2) K h:=by
 unfold zW;refine bV many (λi x h'=>∃aj va a',x.1=I i/\tC n xs ys aj/\aj.length<=12+2*i/\a'<=1000+10*i/\
  Own h0 h' (aR va aj::xR vx xs::xR vy ys::ak g3 [I n,vx,vy,va] 32::ak t2 [I 0,aT,aT,aT] 32::dR d vb a'::L)) ⟨aj,va,a',rfl,R,hl,ha,o⟩ ?_
 rintro i ⟨x,⟨⟩⟩ h Z hi ⟨aj,va,a',hx,R,hl,ha,o⟩ hZ;dsimp only at hx hZ |-;subst hx;have n2:=R.n2;unfold MG;simp only[bC,bA];refine⟨λhlt=> ?_,λhge=>ajz hK R aa o⟩;have hlt:i<many:=aa;refine gW (λv h'=>∃(b f t w a2:Nat),v.1=ptr b/\f<n/\t<n/\w<=2147483647/\a2<=a'+4/\
  Own h0 h' (ak b [I f,I t,I w] 59::aR va aj::xR vx xs::xR vy ys::ak g3 [I n,vx,vy,va] 32::ak t2 [I 0,aT,aT,aT] 32::dR d vb a2::L)) (λJ hJ=> ?_) ?_
 .simp only[aU];refine o.load 3 rfl rfl (o.load 3 rfl rfl ?_);refine⟨?_,?_⟩
  .refine lW o 5 rfl hb aa R.n1 aa λf a1 h1 hf ha1 o1=>⟨o1.load 3 rfl rfl rfl,?_,?_⟩
   .refine lW o1 5 rfl hb aa R.n1 aa λt a2 h2 ht ha2 o2=>⟨?_,?_⟩
    .refine Ab o2 5 rfl hb aa λw a3 h3 hw j c=>⟨bW rfl,?_⟩;refine c.box λb h4 e=>e.st 0 rfl rfl rfl rfl rfl (by simp[gq]) λh5 g=>hJ _ _ ⟨b,f,t,w,a3,rfl,hf,ht,hw,aa,g⟩
    .refine o2.box λb h4 e=>Ab e 6 rfl hb aa λw a3 h3 hw j c=>⟨bW rfl,?_⟩;exact c.st 0 rfl rfl rfl rfl rfl (by simp[gq]) λh5 g=>hJ _ _ ⟨b,f,t,w,a3,rfl,hf,ht,hw,aa,g⟩
   .refine o1.box λb h4 e=>lW e 6 rfl hb aa R.n1 aa λt a2 h2 ht ha2 o2=> ?_;refine Ab o2 6 rfl hb aa λw a3 h3 hw j c=>⟨bW rfl,?_⟩;exact c.st 0 rfl rfl rfl rfl rfl (by simp[gq]) λh5 g=>hJ _ _ ⟨b,f,t,w,a3,rfl,hf,ht,hw,aa,g⟩
  .refine o.box λb h4 e=>lW e 6 rfl hb aa R.n1 aa λf a1 h1 hf ha1 o1=>⟨o1.load 4 rfl rfl rfl,?_⟩;refine lW o1 6 rfl hb aa R.n1 aa λt a2 h2 ht ha2 o2=> ?_;refine Ab o2 6 rfl hb aa λw a3 h3 hw j c=>⟨bW rfl,?_⟩;exact c.st 0 rfl rfl rfl rfl rfl (by simp[gq]) λh5 g=>hJ _ _ ⟨b,f,t,w,a3,rfl,hf,ht,hw,aa,g⟩
 .rintro⟨x,⟨⟩⟩ h' ⟨b,f,t,w,a2,hv,hf,ht,hw,ha2,o⟩;dsimp only at hv |-;subst hv;unfold MF Gv;simp only[aU];refine o.load 4 rfl rfl (o.bZ 0 rfl rfl rfl ?_);refine o.fH 1 ⟨f,t,w⟩ rfl rfl (bW rfl) qJ gQ rfl az aa λm h1 o1=> ?_;refine o1.bu 4 rfl rfl rfl (o1.vw 1 rfl).one (o1.vw 1 rfl).plain λh2 o2=> ?_;refine lW (n:=4) o2 6 rfl hb aa az az λk a3 h3 hk j c=> ?_;have l:=R.add hf ht hw;simp only[cF,kD];refine⟨λ_=> ?_,λ_=> ?_⟩
  .refine c.load 4 rfl rfl (c.load 0 rfl rfl (c.load 0 rfl rfl (c.load 0 rfl rfl ⟨bW rfl,?_⟩)));refine c.fH 1 ⟨t,f,w⟩ rfl rfl (bW rfl) qJ gQ rfl az (by simp;omega) λp h4 e=> ?_;refine e.bu 4 rfl rfl rfl (e.vw 1 rfl).one (e.vw 1 rfl).plain λh5 g=> ?_;rw[bw,wI i aa];exact hZ (I (i+1:Nat),()) h5 hlt ⟨_,p,a3,rfl,l.add ht hf hw,by simp;omega,aa,g.tail⟩
  .rw[bw,wI i aa];exact hZ (I (i+1:Nat),()) h3 hlt ⟨_,m,a3,rfl,l,by simp;omega,aa,c.tail⟩
def VO{a':Nat}(hK:Dd h0 L K d vb)(hb:Vw rW 1 h0 vb bs)(R:tC n xs ys [])(ha:a'<=100)
  (o:Own h0 h (xR vx xs::xR vy ys::ak g3 [I n,vx,vy,aT] 32::ak t2 [I 0,aT,aT,aT] 32::dR d vb a'::L)):
  Cv prog (ptr g3) (ptr d) (ptr t2) K h:=by
 unfold Cv;have n1:=R.n1;have n2:=R.n2;simp only[aU];refine o.load 2 rfl rfl ?_;have e1:IntKind.i64.wrap (3*(n:Int))=3*(n:Int):=bK aa aa;have e2:IntKind.i64.wrap (3*(n:Int)+1)=((3*n+1:Nat):Int):=by rw[bK aa aa];omega
 simp only[iO,bw,e1,e2];refine lW o 4 rfl hb aa aa aa λmany a1 h1 hm ha1 o1=> ?_;refine lW (n:=3) o1 4 rfl hb aa az az λk a2 h2 hk ha2 o2=> ?_;simp only[akS];refine bV n (λi x h'=>∃aj va a',x.1=I i/\tC n xs ys aj/\aj.length<=i/\a'<=200+10*i/\
  Own h0 h' (aR va aj::xR vx xs::xR vy ys::ak g3 [I n,vx,vy,va] 32::ak t2 [I 0,aT,aT,aT] 32::dR d vb a'::L)) ⟨[],aT,a2,rfl,R,cq _,aa,o2.ef⟩ ?_
 rintro i ⟨x,⟨⟩⟩ h Z hi ⟨aj,va,a',hx,R,hl,ha,o⟩ hZ;dsimp only at hx hZ |-;subst hx;unfold MH;simp only[aU];refine o.load 3 rfl rfl ?_;have next :zW prog (I many) (ptr g3) (ptr d) (ptr t2) K h:=ajA hK hb R aa aa aa o
 simp only[bC,bA];refine⟨λhlt=>⟨λ_=> ?_,λ_=>next⟩,λ_=>next⟩;have hlt:i<n:=aa;refine o.load 3 rfl rfl ?_;rw[bw,wI i aa];refine o.load 3 rfl rfl ?_;have e3:(((i+1:Nat):Int).tmod n)=(((i+1)%n:Nat):Int):=rfl;rw[nR,e3];refine⟨aa,?_⟩;refine Ab o 5 rfl hb aa λw a3 h3 hw g b=>⟨b.load 3 rfl rfl rfl,b.load 3 rfl rfl rfl,bW rfl,?_⟩;refine b.fH 0 ⟨i,(i+1)%n,w⟩ rfl rfl (bW rfl) qJ gQ rfl az aa λe h4 c=> ?_;refine c.bu 3 rfl rfl rfl (c.vw 0 rfl).one (c.vw 0 rfl).plain λh5 f=> ?_;rw[bw,wI i aa];exact hZ (I (i+1:Nat),()) h5 hlt ⟨_,e,a3,rfl,R.add hlt (rD _ aa) hw,by simp;omega,aa,f⟩
def VP{α:Type}{l:List α}{i:Nat}{a c:α}(h:c∈l.set i a):c∈l\/c=a:=List.mem_or_eq_of_mem_set h
def ajB(o:Own h0 h (dR d vb 0::L))(hb:Vw rW 1 h0 vb bs)(hK:Dd h0 L K d vb):ah prog 13 [ptr d] h K:=by
 refine aK (ac6 ?_);unfold MJ;refine o.box λt2 h1 o1=> ?_;refine lW (n:=12) o1 1 rfl hb az az az λk a1 h2 hk ha1 o2=> ?_;have e1:IntKind.i64.wrap (1+(k:Int))=((k+1:Nat):Int):=by rw[bK aa aa];omega
 simp only[bw,e1];refine⟨bW rfl,?_⟩;refine o2.box λg3 h3 b=> ?_;refine b.st 0 rfl rfl rfl rfl rfl (by simp[gq]) λh4 e=> ?_;obtain⟨n,hn⟩:∃n,n=k+1:=⟨_,rfl⟩;have f:Own h0 h4 (xR aT []::xR aT []::ak g3 [I n,aT,aT,aT] 32::ak t2 [I 0,aT,aT,aT] 32::dR d vb a1::L):=by subst hn;exact(e.ef).ef
 clear e b o2 o1 o e1;have n1:1<=n:=aa;have n2:n<=12:=aa;refine bV n (λi x h'=>∃xs ys vx vy a',x.1=I i/\xs.length=i/\ys.length=i/\(∀c∈xs,-2147483648<=c/\c<=2147483647)/\(∀c∈ys,-2147483648<=c/\c<=2147483647)/\a'<=1+2*i/\
  Own h0 h' (xR vx xs::xR vy ys::ak g3 [I n,vx,vy,aT] 32::ak t2 [I 0,aT,aT,aT] 32::dR d vb a'::L)) ⟨[],[],aT,aT,a1,rfl,rfl,rfl,aP,aP,aa,f⟩ ?_
 clear f;rintro i ⟨x,⟨⟩⟩ h Z hi ⟨xs,ys,vx,vy,a',hx,g,l,m,p,ha,o⟩ hZ;dsimp only at hx hZ |-;subst hx;unfold MI;simp only[aU];refine o.load 2 rfl rfl ?_;simp only[bC,bA];refine⟨λhlt=> ?_,λhge=> ?_⟩
 .have hlt:i<n:=aa;refine o.load 2 rfl rfl ?_;refine lW (n:=9) o 4 rfl hb aa az az λk a2 h2 hk ha2 o2=>⟨o2.load 2 rfl rfl rfl,?_⟩;have e2:IntKind.i64.wrap ((k:Int)-3)=(k:Int)-3:=bK aa aa;simp only[fc,e2];refine o2.fH 0 ((k:Int)-3) rfl rfl (bW rfl) pZ jb rfl az aa λr h3 b=> ?_;refine b.bu 2 rfl rfl rfl (b.vw 0 rfl).one (b.vw 0 rfl).plain λh4 e=> ?_;refine e.load 2 rfl rfl ?_;refine lW (n:=7) e 4 rfl hb aa az az λk2 a3 h5 hk2 u f=>⟨f.load 2 rfl rfl rfl,?_⟩;refine f.fH 1 (k2:Int) rfl rfl (bW rfl) pZ jb rfl az aa λs h6 q=> ?_;refine q.bu 2 rfl rfl rfl (q.vw 1 rfl).one (q.vw 1 rfl).plain λh7 t=> ?_;rw[bw,wI i aa];refine hZ (I (i+1:Nat),()) h7 hlt ⟨_,_,r,s,a3,rfl,by simp[g],by simp[l],?_,?_,aa,t⟩
  .intro c hc;rcases cS.1 hc with h|h
   .exact m c h
   .simp at h;omega
  .intro c hc;rcases cS.1 hc with h|h
   .exact p c h
   .simp at h;omega
 .have hin:i=n:=aa;refine lW (n:=9) o 4 rfl hb aa az az λk a2 h2 hk ha2 o2=> ?_;simp only[cF,kD];refine⟨λ_=> ?_,λ_=>VO hK hb ⟨n1,n2,g.trans hin,l.trans hin,m,p,aP⟩ aa o2⟩;refine o2.load 2 rfl rfl ?_;refine o2.jD 0 (j:=0) rfl aa λh3 b=> ?_;refine b.load 2 rfl rfl (b.load 2 rfl rfl ?_);have e3:IntKind.i64.wrap ((n:Int)-1)=((n-1:Nat):Int):=by rw[bK aa aa];omega
  simp only[fc,e3];refine b.jD 1 (j:=n-1) rfl aa λh4 e=> ?_;refine VO hK hb ⟨n1,n2,by simp[g,hin],by simp[l,hin],λc hc=> ?_,λc hc=> ?_,aP⟩ aa e
  .rcases VP hc with h|rfl
   .exact m c h
   .decide
  .rcases VP hc with h|rfl
   .exact p c h
   .decide
end
section
variable{h0 h:af}{L:List aS}{K:KT}{g:G}{v:Value}
def VQ(hR:g.Right)(H:qL h v g)(hK:∀h',Ext h h'->K .nilIface h'):ah prog 48 [v] h K:=by obtain⟨vx,vy,va,rfl,H⟩:=H;refine aK (adF ?_);unfold Nv;refine(Own.start h).box λr h1 o1=>o1.box λe h2 o2=>o2.bZ 1 rfl rfl rfl ?_;refine ajt hR ⟨vx,vy,va,rfl,H.more o2.ext⟩ λh3 b=> ?_;have c:=o2.more b;refine c.bu 0 rfl rfl rfl rfl rfl λh4 a=> ?_;exact ajn (a.load 0 rfl rfl (hK _ a.ext))
def VR(o:Own h0 h L)(hR:g.Right)(H:qL h v g)(hK:∀vx vy va h',Own h0 h' (xR vx g.X::xR vy g.Y::aR va g.aj::L)->K (.agg #[I g.n,vx,vy,va]) h'):ah prog 51 [v] h K:=by
 obtain⟨vx,vy,va,rfl,H⟩:=H;refine aK (adH ?_);unfold Nx;have hx:=hR.x;have hy:=hR.y;have hm:=hR.most;have q:=hR.many;refine(Own.start h).box λr h1 o1=>o1.box λe h2 o2=> ?_;simp only[aU];refine o2.load 1 rfl rfl (o2.load 1 rfl rfl (o2.load 1 rfl rfl ?_));refine HS o2 (H.more o2.ext).1 aa λf h3 a=>⟨a.load 2 rfl rfl rfl,a.load 2 rfl rfl rfl,?_⟩;refine HS a (H.more a.ext).2.1 aa λi h4 c=>⟨c.load 3 rfl rfl rfl,?_⟩;refine aju c (H.more c.ext).2.2 aa λj h5 b=> ?_;have d:=b.vw 0 rfl;have p1:=b.vw 1 rfl;have p2:=b.vw 2 rfl;refine b.bu 4 rfl rfl rfl p2.one p2.plain λh6 m=> ?_;refine m.bu 4 rfl rfl rfl p1.one p1.plain λh7 p=> ?_;refine p.bu (cs':=[I g.n,f,i,j]) 4 rfl rfl rfl d.one d.plain λh8 k=> ?_;refine k.bZ 4 rfl rfl rfl ?_;refine k.st 3 rfl rfl rfl rfl rfl ?_ λh9 l=> ?_
 .intro u hu;simp at hu;rcases hu with rfl|rfl|rfl|rfl
  .rfl
  .exact p2.plain
  .exact p1.plain
  .exact d.plain
 .refine l.bZ 3 rfl rfl rfl ?_;exact hK f i j h9 (o.frame (l.bh [2,1,0] az))
end
def tD(h:af)(a:Value)(n:Nat)(f:Nat->List Nat):Prop:=∃ls:List Value,ls.length=n/\Vw lT 1 h a ls/\∀v(hv:v<ls.length),Vw bg 1 h ls[v] (f v)
def tD.more{h h':af}{d:Value}{n:Nat}{f:Nat->List Nat}(H:tD h d n f)(x:Ext h h'):tD h' d n f:=by obtain⟨ls,a,b,c⟩:=H;exact⟨ls,a,b.more x,λv hv=>(c v hv).more x⟩
section
variable{p:A->Nat}{l:List A}{bl:Nat}
open Arcs
def oT(p:A->Nat)(l:List A)(bl v len:Nat):Value:=.slice (gE 1 (off p l v) (off p l v+cnt p l v) (some ⟨bl,0,none⟩)) len (cnt p l v)
def VS{v len:Nat}(h:0<cnt p l v):oT p l bl v len=.slice (some ⟨bl,off p l v,none⟩) len (cnt p l v):=by have :¬off p l v+cnt p l v=off p l v:=aa;simp only[oT,gE,aQ this];simp
def u9(p:A->Nat)(l:List A)(n i:Nat)(c:List Nat):Prop:=c.length=l.length/\∀v,v<n->∀j,j<(fill p l i v).length->c[off p l v+j]? =(fill p l i v)[j]?
def u9.zero{n:Nat}{c:List Nat}(h:c.length=l.length):u9 p l n 0 c:=⟨h,λv _ j hj=>by simp[fill,gY]at hj⟩
def u9.succ{n i:Nat}{c:List Nat}(H:u9 p l n i c)(hi:i<l.length):u9 p l n (i+1) (c.set (off p l (p l[i])+(fill p l i (p l[i])).length) i):=by
 refine⟨by simp[H.1],λv hv j hj=> ?_⟩;rw[Cn hi]at hj |-;have hlt:=LU (p:=p) hi;by_cases e:p l[i]=v
 .rw[aW e]at hj |-;rw[e]at hlt |-;simp only[cG,mQ]at hj;by_cases hj':j<(fill p l i v).length
  .rw[gD aa,aqM hj',H.2 v hv j hj']
  .have :j=(fill p l i v).length:=aa;subst this;have hb:off p l v+(fill p l i v).length<c.length:=by
    rw[H.1,xw];have :=Cm (p:=p) (l:=l) (v:=v);omega
   rw[jo hb,eR (cq _),iE];rfl
 .rw[aQ e,eO]at hj |-;rw[gD,H.2 v hv j hj];rw[xw];have a:j<cnt p l v:=pJ hj LP;intro heq;rcases Nat.lt_or_gt_of_ne e with h|h
  .have h1:=LM (p:=p) (l:=l) (show p l[i]+1<=v from h);rw[zQ]at h1;omega
  .have h1:=LM (p:=p) (l:=l) (show v+1<=p l[i]from h);rw[zQ]at h1;omega
def ajC{h:af}{n i:Nat}{c:List Nat}{v:Nat}{T:TypeId}(H:u9 p l n i c)(hv:v<n)(hb:h[bl]? =some (.cells (Mh.row bg c).toArray T (0,0))):Vw bg 1 h (oT p l bl v (fill p l i v).length) (fill p l i v):=by
 have hle:(fill p l i v).length<=cnt p l v:=LP;have a:=Cm (p:=p) (l:=l) (v:=v);refine⟨bl,_,_,rfl,hle,?_⟩;by_cases h0:cnt p l v=0
 .have :fill p l i v=[]:=nH aa;rw[this];refine .inl ⟨rfl,.inr ⟨bl,0,?_⟩⟩;simp[gE,h0]
 .refine .inr ⟨off p l v,Mh.row bg (c.take (off p l v)),Mh.row bg (c.drop (off p l v+(fill p l i v).length)),T,(0,0),?_,?_,?_⟩
  .have :¬off p l v+cnt p l v=off p l v:=aa;simp only[gE,aQ this];simp
  .rw[hb,<-qI,<-qI];have e:(c.drop (off p l v)).take (fill p l i v).length=fill p l i v:=by
    apply nK;intro j;by_cases hj:j<(fill p l i v).length
    .rw[uf hj,yN,H.2 v hv j hj]
    .rw[kU (by simp;omega),kU aa]
   have :c=c.take (off p l v)++fill p l i v++c.drop (off p l v+(fill p l i v).length):=by
    conv=>lhs;rw[<-iI (off p l v) c]
    rw[c7];congr 1
    conv=>lhs;rw[<-iI (fill p l i v).length (c.drop (off p l v))]
    rw[e,ud]
   rw[<-this]
  .rw[iN uV,tZ,dO,H.1];omega
end
section
variable{h0 h:af}{L:List aS}{K:KT}{g:G}{v:Value}{r:Nat}{vx vy va gF:Value}{p:A->Nat}
open Arcs
def kI(gF:Value)(p:A->Nat):Prop:=∀(a:A)(h:af)(K:KT),(∀h',Ext h h'->K (I (p a)) h')->aX prog gF [.agg (fI a).toArray].toArray h K
def ajD:kI (.func (.func 117) #[] #[]) A.f:=by intro a h K hK;refine cg (l:=[.agg (fI a).toArray]) rfl (aeC ?_);unfold O9;refine(Own.start h).box λb h1 o1=> ?_;simp only[aU];exact o1.load 0 rfl rfl (hK _ o1.ext)
def ajE:kI (.func (.func 118) #[] #[]) A.t:=by intro a h K hK;refine cg (l:=[.agg (fI a).toArray]) rfl (aeD ?_);unfold Pa;refine(Own.start h).box λb h1 o1=> ?_;simp only[aU];exact o1.load 0 rfl rfl (hK _ o1.ext)
abbrev qc(p:A->Nat)(l:List A)(n bl i:Nat):List Value:=(List.range n).map λv=>oT p l bl v (fill p l i v).length
def HW(h:af)(g:G)(p:A->Nat)(K:KT):Prop:=∀b(R:aS) h',Own h h' [R]->(∀h'',R.Q h''->tD h'' b g.n λv=>gY (λa=>p a==v) g.aj 0)->K b h'
def ajF{bl:Nat}{c:List Nat}{f:Value}{h':af}(hR:g.Right)(hp:∀a∈g.aj,p a<g.n)(hE:kI gF p)(hv:Vw fI 3 h va g.aj)(hc:c.length=g.aj.length)
  (o:Own h h' [aC lT 1 43 f (qc p g.aj g.n bl 0),ak bl (Mh.row bg c) 3]) (hK:HW h g p K):
  bI (σ:=bt [64]) (λx hh y=>GN prog (I g.aj.length) va gF f K x.1 hh (λa0 hz=>y (a0,()) hz)) ((.int .i64 0),()) h':=by
 have D:=hR.many;refine bV g.aj.length (λi x h'=>x.1=I i/\∃c,u9 p g.aj g.n i c/\Own h h' [aC lT 1 43 f (qc p g.aj g.n bl i),ak bl (Mh.row bg c) 3]) ⟨rfl,c,.zero hc,o⟩ ?_;rintro i ⟨x,⟨⟩⟩ h2 Z hi ⟨hx,c,hC,o⟩ hZ;dsimp only at hx hZ |-;subst hx;unfold GN;simp only[bC,bA];refine⟨λhlt=> ?_,λhge=> ?_⟩
 .have hlt:i<g.aj.length:=aa;unfold akV;dsimp only;refine(hv.more o.ext).jW qJ hlt ?_;have hpa:=hp _ (cu hlt);have E:=LU (p:=p) hlt;have F:=Cm (p:=p) (l:=g.aj) (v:=p g.aj[i]);have hfl:(fill p g.aj i (p g.aj[i])).length=cnt p (g.aj.take i) (p g.aj[i]):=xw;have hrl:p g.aj[i]<(qc p g.aj g.n bl i).length:=by simpa using hpa
  have hrow:(qc p g.aj g.n bl i)[p g.aj[i]]=.slice (some ⟨bl,off p g.aj (p g.aj[i]),none⟩) (fill p g.aj i (p g.aj[i])).length (cnt p g.aj (p g.aj[i])):=by simp only[qv,sP];exact VS aa
  have app:∀{h3:af}{w:Value}{b:Nat}{cs:List Value},Own h h3 [aC bg 1 3 w [i],ak b cs 59,aC lT 1 43 f (qc p g.aj g.n bl i),ak bl (Mh.row bg c) 3]->
    uY 3 1 8 [(.int .i64 0)] (qc p g.aj g.n bl i)[p g.aj[i]] w h3 λt81 h4=>aY 1 f (I (p g.aj[i])) λt82=>aD 1 t82 t81 h4 λu h5=>GM prog (I i) (λa0 hz=>Z (a0,()) hz) h5:=by
   intro h3 w b cs q;rw[hrow];refine q.aci (e:=λx:Nat=>I x) 3 rfl (λ_=>rfl) rfl (q.vw 0 rfl) aa (by rw[iN uV,hC.1];omega) λh4 m=> ?_;have z:.slice (some ⟨bl,off p g.aj (p g.aj[i]),none⟩) ((fill p g.aj i (p g.aj[i])).length+1) (cnt p g.aj (p g.aj[i]))=oT p g.aj bl (p g.aj[i]) (fill p g.aj (i+1) (p g.aj[i])).length:=by rw[VS aa,Cn hlt];simp
   rw[z];refine m.setAt (a:=oT p g.aj bl (p g.aj[i]) (fill p g.aj (i+1) (p g.aj[i])).length) 2 rfl LL (by intro u hu;simp[lT]at hu;subst hu;rfl) hrl rfl λh5 d=> ?_;unfold GM;rw[bw,wI i aa];refine hZ (I (i+1:Nat),()) h5 hlt ⟨rfl,_,hC.succ hlt,?_⟩;have e1:(qc p g.aj g.n bl i).set (p g.aj[i]) (oT p g.aj bl (p g.aj[i]) (fill p g.aj (i+1) (p g.aj[i])).length)=qc p g.aj g.n bl (i+1):=by
    rw[Gj];apply jx;intro v hv;split<;>rename_i e
    .rw[e]
    .rw[Cn hlt,aQ (λe'=>e e'.symm),eO]
   have e2:(Mh.row bg c).set (off p g.aj (p g.aj[i])+(fill p g.aj i (p g.aj[i])).length) (I i)=Mh.row bg (c.set (off p g.aj (p g.aj[i])+(fill p g.aj i (p g.aj[i])).length) i):=by
    have t:∀l:List Nat,Mh.row bg l=l.map λx:Nat=>I x:=λl=>by induction l<;>simp_all [Mh.row,bg]
    rw[t,t,List.map_set]
   rw[<-e1,<-e2];exact d.tail.tail
  refine o.box λb h3 q=>q.st 0 rfl rfl rfl rfl rfl (gQ _) λh4 m=> ?_;refine m.bZ 0 rfl rfl rfl (m.bZ 0 rfl rfl rfl ?_);have build:∀{h5:af}{KH:KT}{R:List aS},Own h h5 R->(∀w h6,Own h h6 (aC bg 1 3 w [i]::R)->KH w h6)->uX 3 (bO [(.int .i64 0)] 1) [(0,1,I i)] 1 h5 KH:=λd hk=>d.build (enc:=bg) (n:=1) [i] rfl (bW rfl) rfl hk
  refine⟨?_,?_⟩
  .refine hE _ _ _ λh5 B=> ?_;have d:=m.more B;refine⟨d.bZ 0 rfl rfl rfl rfl,?_,?_⟩
   .refine hE _ _ _ λh6 s=> ?_;have j:=d.more s;refine(j.vw 1 rfl).dU (e:=λx=>x) (λ_=>rfl) hrl ?_;exact build j λw h7 k=>app k
   .refine build d λw h6 j=>hE _ _ _ λh7 x7=> ?_;have k:=j.more x7;refine(k.vw 2 rfl).dU (e:=λx=>x) (λ_=>rfl) hrl ?_;exact app k
  .refine build m λw h5 d=>hE _ _ _ λh6 s=> ?_;have j:=d.more s;refine⟨j.bZ 1 rfl rfl rfl rfl,hE _ _ _ λh7 x7=> ?_⟩;have k:=j.more x7;refine(k.vw 2 rfl).dU (e:=λx=>x) (λ_=>rfl) hrl ?_;exact app k
 .have :i=g.aj.length:=aa;subst this;refine hK f _ h2 (Own.pack (l:=[aC lT 1 43 f (qc p g.aj g.n bl g.aj.length),ak bl (Mh.row bg c) 3]) o) λh'' hq=> ?_;obtain⟨b2,H⟩:=hq (aC lT 1 43 f (qc p g.aj g.n bl g.aj.length)) aP;have hb:=hq (ak bl (Mh.row bg c) 3) aP;refine⟨_,aP,⟨b2,H.view⟩,λv hv=> ?_⟩;have C:v<g.n:=by simpa using hv
  have :=ajC hC C hb;simp only[qv,sP];rw[show gY (λa=>p a==v) g.aj 0=fill p g.aj g.aj.length v by unfold fill;rw[fM (cq _)]];exact this
end
section
variable{h0 h:af}{L:List aS}{K:KT}{g:G}{v:Value}{r:Nat}{vx vy va gF:Value}{p:A->Nat}
open Arcs
abbrev rX(p:A->Nat)(l:List A)(n i:Nat):List Nat:=(List.range n).map (cnt p (l.take i))
abbrev xG(p:A->Nat)(l:List A)(n bl v:Nat):List Value:=(List.range n).map λu=>if u<v then oT p l bl u 0 else .slice none 0 0
def VT{bl:Nat}{c:List Nat}{vm b:Value}{h':af}(hR:g.Right)(hp:∀a∈g.aj,p a<g.n)(hE:kI gF p)(hr:h[r]? =some (.cells #[I g.n,vx,vy,va] 32 (0,0)))(hv:Vw fI 3 h va g.aj)(hc:c.length=g.aj.length)
  (o:Own h h' [aC bg 1 3 vm (rX p g.aj g.n g.aj.length),aC lT 1 43 b (xG p g.aj g.n bl 0),ak bl (Mh.row bg c) 3]) (hK:HW h g p K):
  GO prog vm (ptr r) gF K (.slice (some ⟨bl,0,none⟩) g.aj.length g.aj.length) b h':=by
 have q:=hR.many;have s:=hR.most;unfold GO;refine(o.vw 0 rfl).len ?_;have d:(rX p g.aj g.n g.aj.length).length=g.n:=aP;rw[d];refine bV g.n (λi x h'=>x.1=I (off p g.aj i)/\x.2.1=I i/\Own h h' [aC bg 1 3 vm (rX p g.aj g.n g.aj.length),aC lT 1 43 b (xG p g.aj g.n bl i),ak bl (Mh.row bg c) 3])
  ⟨by rw[acw];rfl,rfl,o⟩ ?_
 clear o;rintro i ⟨x,y,⟨⟩⟩ h2 Z hi ⟨hx,hy,o⟩ hZ;dsimp only at hx hy hZ |-;subst hx hy;unfold O6;simp only[bC,bA];refine⟨λhlt=> ?_,λhge=> ?_⟩
 .have hlt:i<g.n:=aa;have t:=Cm (p:=p) (l:=g.aj) (v:=i);have hos:=zQ (p:=p) (l:=g.aj) (v:=i);have f:(rX p g.aj g.n g.aj.length)[i]'(by rw[d];exact hlt)=cnt p g.aj i:=by
   simp only[qv,sP,fM (cq _)]
  refine(o.vw 0 rfl).dU (e:=λx:Nat=>I x) (λ_=>rfl) (by rw[d];exact hlt) ?_;rw[f];have e1:IntKind.i64.wrap (((off p g.aj i:Nat):Int)+((cnt p g.aj i:Nat):Int))=((off p g.aj i+cnt p g.aj i:Nat):Int):=by rw[bK aa aa];omega
  simp only[bw,e1];refine⟨λ_=>rfl,aa,dQ _,aa,aa,?_⟩;have j:(Value.slice (gE 1 ((off p g.aj i:Nat):Int).toNat ((off p g.aj i+cnt p g.aj i:Nat):Int).toNat (some ⟨bl,0,none⟩)) (((off p g.aj i:Nat):Int).toNat-((off p g.aj i:Nat):Int).toNat) (((off p g.aj i+cnt p g.aj i:Nat):Int).toNat-((off p g.aj i:Nat):Int).toNat))=oT p g.aj bl i 0:=by simp only[oT,fL,iE];congr 1;omega
  rw[j];refine o.setAt (a:=oT p g.aj bl i 0) 1 rfl LL (by intro u hu;simp[lT]at hu;subst hu;rfl) (by simpa using hlt) rfl λh3 k=> ?_;rw[wI i aa,<-hos];refine hZ (I (off p g.aj (i+1):Nat),(I (i+1:Nat),())) h3 hlt ⟨rfl,rfl,?_⟩;have e2:(xG p g.aj g.n bl i).set i (oT p g.aj bl i 0)=xG p g.aj g.n bl (i+1):=by
   rw[Gj];apply jx;intro u hu;by_cases h1:u=i
   .subst h1;simp
   .by_cases h2:u<i
    .simp[h1,h2,show u<i+1 by omega]
    .simp[h1,h2,show ¬u<i+1 by omega]
  rw[<-e2];exact k
 .have :i=g.n:=aa;subst this;have m:hcell h2 ⟨r,3,none⟩=some va:=bz (o.ext.get hr) rfl;simp only[aU,dh,bE,m];refine(hv.more o.ext).len ?_;refine ajF (bl:=bl) hR hp hE hv hc ?_ hK;have e3:xG p g.aj g.n bl g.n=qc p g.aj g.n bl 0:=by
   apply jx;intro u hu;have :u<g.n:=by simpa using hu
   simp[this,fill,gY]
  rw[<-e3];exact o.tail
def VU(hR:g.Right)(hp:∀a∈g.aj,p a<g.n)(hE:kI gF p)(hr:h[r]? =some (.cells #[I g.n,vx,vy,va] 32 (0,0)))(hv:Vw fI 3 h va g.aj)(hK:HW h g p K):
  aF prog 116 [gF,ptr r].toArray h K:=by
 have w:=hR.many;have y:=hR.most;refine aeB ?_;unfold O8;have c0:hcell h ⟨r,0,none⟩=some (I g.n):=bz hr rfl;simp only[aU,dh,bE,c0];refine(Own.start h).make (enc:=bg) (n:=1) (a:=0) rfl aa aa λvm h1 o1=> ?_;have c3:hcell h1 ⟨r,3,none⟩=some va:=bz (o1.ext.get hr) rfl;simp only[c3];refine(hv.more o1.ext).len ?_;refine bV g.aj.length (λi x h'=>x.1=I i/\Own h h' [aC bg 1 3 vm (rX p g.aj g.n i)]) ⟨rfl,?_⟩ ?_
 .have e:List.replicate g.n 0=rX p g.aj g.n 0:=by
   apply iW
   .simp
   .intro j h1 h2;simp[cnt]
  rw[<-e];exact o1
 clear o1;rintro i ⟨x,⟨⟩⟩ h2 Z hi ⟨hx,o⟩ hZ;dsimp only at hx hZ |-;subst hx;unfold O7;simp only[bC,bA];refine⟨λhlt=> ?_,λhge=> ?_⟩
 .have hlt:i<g.aj.length:=aa;refine(hv.more o.ext).jW qJ hlt ?_;have hpa:=hp _ (cu hlt);have f:p g.aj[i]<(rX p g.aj g.n i).length:=by simpa using hpa
  have hle:cnt p (g.aj.take i) (p g.aj[i])<=(g.aj.take i).length:=acz;simp only[dO]at hle;refine o.box λb h3 d=>d.st 0 rfl rfl rfl rfl rfl (gQ _) λh4 c=> ?_;refine c.bZ 0 rfl rfl rfl (hE _ _ _ λh5 q=> ?_);have k:=c.more q;refine(k.vw 1 rfl).dU (e:=λx:Nat=>I x) (λ_=>rfl) f ?_;simp only[qv,sP];rw[bw,wI _ aa];refine k.setAt (a:=cnt p (g.aj.take i) (p g.aj[i])+1) 1 rfl uV (qM _) f rfl λh6 s=> ?_;rw[bw,wI i aa];refine hZ (I (i+1:Nat),()) h6 hlt ⟨rfl,?_⟩;have e:(rX p g.aj g.n i).set (p g.aj[i]) (cnt p (g.aj.take i) (p g.aj[i])+1)=rX p g.aj g.n (i+1):=by
   rw[Gj];apply jx;intro u hu;rw[LQ hlt];split<;>rename_i e
   .rw[e];simp
   .simp[show ¬p g.aj[i]=u from λe'=>e e'.symm]
  rw[<-e];exact s.tail
 .have :i=g.aj.length:=aa;subst this;have c0:hcell h2 ⟨r,0,none⟩=some (I g.n):=bz (o.ext.get hr) rfl;have c3:hcell h2 ⟨r,3,none⟩=some va:=bz (o.ext.get hr) rfl;unfold akV;simp only[aU,dh,bE,c0,c3];refine(hv.more o.ext).len ?_;have e0:∀m,(List.replicate m [Value.int .i64 0]).flatten=Mh.row bg (List.replicate m 0):=λm=>by simp[Mh.row,List.flatMap,bg]
  have l:∀bl,List.replicate g.n (Value.slice none 0 0)=xG p g.aj g.n bl 0:=λbl=>by
   apply iW
   .simp
   .intro j h1 h2;simp
  have z:=c0;refine⟨?_,?_⟩
  .refine o.LC aa aa λbl h3 d=> ?_;refine d.make (enc:=lT) (n:=1) (a:=.slice none 0 0) rfl aa aa λt h4 c=> ?_;rw[e0,l bl]at c;exact VT hR hp hE hr hv aP (c.bh [2,0,1] az) hK
  .refine o.make (enc:=lT) (n:=1) (a:=.slice none 0 0) rfl aa aa λt h3 d=> ?_;refine d.LC aa aa λbl h4 c=> ?_;rw[e0,l bl]at c;exact VT hR hp hE hr hv aP (c.bh [2,1,0] az) hK
def bX(h:af)(r:Nat)(g:G):Prop:=∃vx vy va vo a,h[r]? =some (.cells #[I g.n,vx,vy,va,vo,a] 184 (0,0))/\qK h vx vy va g/\tD h vo g.n g.out/\tD h a g.n g.in
def bX.more{h h':af}(H:bX h r g)(x:Ext h h'):bX h' r g:=by obtain⟨vx,vy,va,vo,e,a,b,c,d⟩:=H;exact⟨vx,vy,va,vo,e,x.get a,b.more x,c.more x,d.more x⟩
def rY(N:aS)(r:Nat)(g:G):Prop:=∀h,N.Q h->bX h r g
def ajG(o:Own h0 h (xR vx g.X::xR vy g.Y::aR va g.aj::L))(hR:g.Right)(hK:∀r N h',rY N r g->Own h0 h' (N::L)->K (ptr r) h'):ah prog 50 [.agg #[I g.n,vx,vy,va]] h K:=by have z:=o.vw 0 rfl;have p1:=o.vw 1 rfl;have p2:=o.vw 2 rfl;refine aK (adG ?_);unfold Nw;refine(Own.start h).box λrb h1 o1=>o1.bZ 0 rfl rfl rfl ⟨bW rfl,o1.box λr h2 o2=> ?_⟩;refine cg (l:=[_,ptr rb]) rfl (VU hR (λa ha=>(hR.ends a ha).1) ajD (o2.get 1 rfl) (p2.more o2.ext) λvo d h3 s hro=> ?_);have e:=o2.frame s;refine cg (l:=[_,ptr rb]) rfl (VU hR (λa ha=>(hR.ends a ha).2.1) ajE (e.get 2 rfl) (p2.more e.ext) λb i h4 t k=> ?_);have j:=e.frame t;have plain:∀{h:af}{c:Value}{n:Nat}{f:Nat->List Nat},tD h c n f->c.cells= #[c]/\Mh.plainCell c=true:=λ⟨_,_,a,_⟩=>⟨a.one,a.plain⟩;have m:=plain (hro _ (j.get 1 rfl));have q:=plain (k _ (j.get 0 rfl));simp only[bD,aU];refine j.bu 2 rfl rfl rfl m.1 m.2 λh5 u=>u.bu (cs':=[I g.n,vx,vy,va,vo,b]) 2 rfl rfl rfl q.1 q.2 λh6 w=> ?_;have x:=o.frame (w.bh [2,1,0] az);refine hK r (zJ [ak r [I g.n,vx,vy,va,vo,b] 184,d,i,xR vx g.X,xR vy g.Y,aR va g.aj]) h6 (λh hq=> ?_) (Own.pack (l:=[ak r [I g.n,vx,vy,va,vo,b] 184,d,i,xR vx g.X,xR vy g.Y,aR va g.aj]) x);obtain⟨b1,q1⟩:=hq (xR vx g.X) aP;obtain⟨b2,q2⟩:=hq (xR vy g.Y) aP;obtain⟨b3,y⟩:=hq (aR va g.aj) aP;exact⟨vx,vy,va,vo,b,hq (ak r [I g.n,vx,vy,va,vo,b] 184) aP,⟨⟨_,q1.view⟩,⟨_,q2.view⟩,⟨_,y.view⟩⟩,hro _ (hq d aP),k _ (hq i aP)⟩
def VV(o:Own h0 h L)(hR:g.Right)(H:qL h v g)(hK:∀r N h',rY N r g->Own h0 h' (N::L)->K (.tuple #[ptr r,.nilIface]) h'):ah prog 15 [v] h K:=by obtain⟨vx,vy,va,rfl,H⟩:=H;refine aK (ac8 ?_);unfold MM;refine(Own.start h).box λb h1 o1=>o1.bZ 0 rfl rfl rfl ?_;refine VQ hR ⟨vx,vy,va,rfl,H.more o1.ext⟩ λh2 x2=> ?_;have o2:=o1.more x2;simp only[ab1,aO];refine o2.bZ 0 rfl rfl rfl ?_;refine VR o2 hR ⟨vx,vy,va,rfl,H.more o2.ext⟩ λd e f h3 a=> ?_;exact ajG a hR λr N h4 hN c=>hK r N h4 hN (o.frame (c.bh [0] az))
end
section
variable{h0 h:af}{L:List aS}{K:KT}{g:G}{r i:Nat}{z:Int}
def dV(H:bX h r g)(hK:K (I g.n) h):ah prog 36 [ptr r] h K:=by obtain⟨vx,vy,va,vo,a,hr,b,ho,hi⟩:=H;refine aK (ads ?_);unfold Nd;have c0:hcell h ⟨r,0,none⟩=some (I g.n):=bz hr rfl;simp only[dM,dW,aO,bD,aU,dh,bE,c0];exact hK
def tE(H:bX h r g)(hK:K (I g.aj.length) h):ah prog 69 [ptr r] h K:=by obtain⟨vx,vy,va,vo,b,hr,a,ho,hi⟩:=H;refine aK (adX ?_);unfold NZ;have c3:hcell h ⟨r,3,none⟩=some va:=bz hr rfl;simp only[dM,dW,aO,bD,aU,dh,bE,c3];exact a.2.2.len hK
def ajH{v:Value}{l:List A}(H:Vw fI 3 h v l)(h1:∀i(hi:i<l.length),z=(i:Int)->∀h',Ext h h'->K (.tuple #[vA l[i],.bool true]) h')
    (h2:¬(0<=z/\z<l.length)->∀h',Ext h h'->K (.tuple #[vA ⟨0,0,0⟩,.bool false]) h'):ah prog 292 [v,I z] h K:=by
  refine aK (ahA ?_);unfold Tn He;refine(Own.start h).box λb a o1=> ?_;have none:¬(0<=z/\z<l.length)->bq 3 a (ptr b) λt14=>aD 3 (ptr b) t14 a λu h_3=>bq 3 h_3 (ptr b) λres=>K (.tuple #[res,(.bool false)]) h_3:=λhz=>o1.bZ 0 rfl rfl rfl (o1.st 0 rfl rfl rfl rfl rfl (gQ ⟨0,0,0⟩) λc o2=>o2.bZ 0 rfl rfl rfl (h2 hz _ o2.ext))
  simp only[bC,bA];refine⟨λe=>none aa,λe=> ?_⟩;refine(H.more o1.ext).len ?_;simp only[dA,bA];refine⟨λe=>none aa,λe'=> ?_⟩;obtain⟨i,rfl⟩:=iX (show 0<=z by omega);have hi:i<l.length:=aa;refine(H.more o1.ext).jW qJ hi ?_;exact o1.st 0 rfl rfl rfl rfl rfl (gQ _) λc o2=>o2.bZ 0 rfl rfl rfl (h1 i hi rfl _ o2.ext)
def VW(H:bX h r g)(h1:∀i(hi:i<g.aj.length),z=(i:Int)->∀h',Ext h h'->K (.tuple #[vA g.aj[i],.bool true]) h')
    (h2:¬(0<=z/\z<g.aj.length)->∀h',Ext h h'->K (.tuple #[vA ⟨0,0,0⟩,.bool false]) h'):ah prog 180 [ptr r,I z] h K:=by
  obtain⟨vx,vy,va,vo,f,hr,c,ho,hi⟩:=H;refine aK (afM ?_);unfold QS;refine(Own.start h).box λb d o1=> ?_;have c3:hcell d ⟨r,3,none⟩=some va:=bz (o1.ext.get hr) rfl;simp only[dM,dW,aO,bD,aU,dh,bE,c3];refine ajH (c.more o1.ext).2.2 (λi hi hz e x2=> ?_) λhz e x2=> ?_
  · have o2:=o1.more x2;simp only[cC,cB];exact o2.st 0 rfl rfl rfl rfl rfl (gQ _) λh3 a=>a.bZ 0 rfl rfl rfl (h1 i hi hz _ a.ext)
  · have o2:=o1.more x2;simp only[cC,cB];exact o2.st 0 rfl rfl rfl rfl rfl (gQ ⟨0,0,0⟩) λh3 a=>a.bZ 0 rfl rfl rfl (h2 hz _ a.ext)
def qP(H:bX h r g)(hi:i<g.aj.length)(hK:∀h',Ext h h'->K (.tuple #[vA g.aj[i],.bool true]) h'):ah prog 180 [ptr r,I i] h K:=
  VW H (fun j hj e h' x => by      obtain rfl:i=j:=by omega
                                   exact hK h' x) λe=>aa
def VX{v:Value}{n:Nat}{f:Nat->List Nat}(H:tD h v n f)(h1:∀i v',i<n->z=(i:Int)->Vw bg 1 h v' (f i)->K (.tuple #[v',.bool true]) h)
    (h2:¬(0<=z/\z<n)->K (.tuple #[.slice none 0 0,.bool false]) h):ah prog 91 [v,I z] h K:=by
  obtain⟨ls,hl,hv,hls⟩:=H;refine aK (aei ?_);unfold Oz GG;simp only[bC,bA];refine⟨λe=>h2 aa,λe=>hv.len ?_⟩;simp only[dA,bA];refine⟨λe=>h2 aa,λe'=> ?_⟩;obtain⟨i,rfl⟩:=iX (show 0<=z by omega);have hi:i<ls.length:=aa;exact hv.dU (e:=λx=>x) (λ_=>rfl) hi (h1 i _ aa rfl (hls i hi))
def vf{q:A->Bool}{l:List A}{i:Nat}:(gY q l i).length<=l.length:=by rw[zR];exact yQ
def VY(o:Own h0 h L)(hR:g.Right)(H:bX h r g)(hK:∀v' h',Own h0 h' (aC bg 1 3 v' (if 0<=z/\z<g.n then g.out z.toNat else[])::L)->K v' h'):ah prog 27 [ptr r,I z] h K:=by
  have a:=hR.many;obtain⟨vx,vy,va,vo,b,hr,c,ho,hi⟩:=H;refine aK (adl ?_);unfold M5;have c4:hcell h ⟨r,4,none⟩=some vo:=bz hr rfl;simp only[dM,dW,aO,bD,aU,dh,bE,c4];refine VX ho (λi v' hi hz hv=> ?_) λhz=> ?_
  · subst hz;rw[aW aa]at hK;simp only[cC,cB];exact Dc o hv (kR vf aa) hK
  · rw[aQ hz]at hK;simp only[cC,cB];exact Dc o Vw.nil aP hK
def VZ(o:Own h0 h L)(hR:g.Right)(H:bX h r g)(hK:∀v' h',Own h0 h' (aC bg 1 3 v' (if 0<=z/\z<g.n then g.in z.toNat else[])::L)->K v' h'):ah prog 125 [ptr r,I z] h K:=by
  have c:=hR.many;obtain⟨vx,vy,va,vo,a,hr,d,ho,hi⟩:=H;refine aK (aeL ?_);unfold Ph;have b:hcell h ⟨r,5,none⟩=some a:=bz hr rfl;simp only[dM,dW,aO,bD,aU,dh,bE,b];refine VX hi (λi v' hi hz hv=> ?_) λhz=> ?_
  · subst hz;rw[aW aa]at hK;simp only[cC,cB];exact Dc o hv (kR vf aa) hK
  · rw[aQ hz]at hK;simp only[cC,cB];exact Dc o Vw.nil aP hK
end
abbrev nX:Nat:=278
abbrev jZ:Nat:=283
def V0{x:Int}{h:af}{K:KT}(hk:K (.bool false) h):ah prog 348 [I x] h K:=aK (Ht (by simpa[C5]using hk))
def V3{x:Int}{h:af}{K:KT}(hk:K (.bool false) h):ah prog 349 [I x] h K:=aK (Hu (by simpa[C6]using hk))
def lu(x y:Int):Int:=if x<y then -1 else if y<x then 1 else 0
def ajI{x y:Int}{h:af}{K:KT}(hk:K (I (lu x y)) h):ah prog 256 [I x,I y] h K:=by
 refine aK (SG (V0 (V0 ?_)));unfold lu at hk;by_cases h1:x<y
 .simpa[h1]using hk
 .by_cases h2:y<x
  .simpa[h1,h2]using hk
  .simpa[h1,h2]using hk
def ajJ{x y:Int}{h:af}{K:KT}(hk:K (I (lu x y)) h):ah prog 257 [I x,I y] h K:=by
 refine aK (SJ (V3 (V3 ?_)));unfold lu at hk;by_cases h1:x<y
 .simpa[h1]using hk
 .by_cases h2:y<x
  .simpa[h1,h2]using hk
  .simpa[h1,h2]using hk
def ajK{a b:Int}{c:Nat}{h:af}{T:TypeId}{K:KT}(hb:h[c]? =some (.cells #[I a,I b] T (0,0)))
  (hk:K (I (if a=0 then b else a)) h):ah prog 255 [.slice (some ⟨c,0,none⟩) 2 2] h K:=by
 refine aK (SE ?_);have c0:hcell h ⟨c,0,none⟩=some (I a):=bz hb rfl;have c1:hcell h ⟨c,1,none⟩=some (I b):=bz hb rfl;unfold G9;simp only[Lo];refine zA (λx h'=>h'=h/\((x.1=I 0)\/(x.1=I 1/\a=0)\/(x.1=I 2/\a=0/\b=0))) (λx _=>match x.1 with| .int _ n=>(2-n).toNat|_=>0) ⟨rfl,.inl rfl⟩ ?_;rintro⟨x,⟨⟩⟩ h' Z ⟨rfl,hx⟩ hZ;dsimp only at hx hZ |-;unfold G8;rcases hx with rfl|⟨rfl,rfl⟩|⟨rfl,rfl,rfl⟩
 .simp[c0];exact⟨λha=>by simpa[ha]using hk,λha=>hZ _ _ ⟨rfl,.inr (.inl ⟨rfl,ha⟩)⟩ az⟩
 .simp[c1];exact⟨λhb=>by simpa using hk,λhb=>hZ _ _ ⟨rfl,.inr (.inr ⟨rfl,rfl,hb⟩)⟩ az⟩
 .simpa using hk
abbrev HE:=Int×Int
def fC(p:HE):List Value:=[I p.1,I p.2]
def kJ(p:HE):(fC p).length=2:=rfl
def pos(l:List HE)(id:Int):Option Value:=(l.findIdx? (λp=>p.1==id)).map λi=>I i
structure eS(h:af)(r m bl:Nat)(l:List HE)(n:Int):Prop where
 row:∃sl cap rest,h[r]? =some (.cells #[sl,.map (some m),I n] nX (0,0))/\
  ((sl=.slice none 0 0/\l=[]/\cap=0)\/(sl=.slice (some ⟨bl,0,none⟩) l.length cap/\h[bl]? =some (.cells (Mh.row fC l++rest).toArray jZ (0,0))/\
   rest.length=(cap-l.length)*2/\l.length<=cap))
 map:∃es c,h[m]? =some (.map es c)/\IMap es c (pos l)
 ids:(l.map (·.1)).Nodup
 small:l.length<2^40
def eS.bG{h h':af}{r m bl:Nat}{l:List HE}{n:Int}{S:Nat->Prop}(H:eS h r m bl l n)(hu:bN S h h')(h1:¬S r)(h2:¬S m)(h3:¬S bl):eS h' r m bl l n:=by
 obtain⟨⟨sl,cap,rest,hr,hs⟩,⟨es,c,hm,hi⟩,hn,e⟩:=H;refine⟨⟨sl,cap,rest,hu.get hr h1,?_⟩,⟨es,c,hu.get hm h2,hi⟩,hn,e⟩;rcases hs with hs|⟨a,b,c,d⟩
 .exact .inl hs
 .exact .inr ⟨a,hu.get b h3,c,d⟩
def eS.full{h:af}{r m bl:Nat}{l:List HE}{n:Int}(H:eS h r m bl l n)(hl:0<l.length):∃cap rest,
  h[r]? =some (.cells #[.slice (some ⟨bl,0,none⟩) l.length cap,.map (some m),I n] nX (0,0))/\h[bl]? =some (.cells (Mh.row fC l++rest).toArray jZ (0,0))/\
   rest.length=(cap-l.length)*2/\l.length<=cap:=by
 obtain⟨sl,cap,rest,hr,hs⟩:=H.row;rcases hs with ⟨_,h0,_⟩|⟨rfl,b,c,d⟩
 .subst h0;simp at hl
 .exact⟨cap,rest,hr,b,c,d⟩
def eS.De{h:af}{r m bl:Nat}{l:List HE}{n:Int}(H:eS h r m bl l n)(hl:0<l.length):r≠bl/\r≠m/\bl≠m:=by
 obtain⟨cap,rest,hr,hb,_,_⟩:=H.full hl;obtain⟨es,c,hm,_⟩:=H.map;refine⟨?_,?_,?_⟩
 .rintro rfl;rw[hr]at hb;simp at hb;exact absurd hb.2 az
 .rintro rfl;rw[hr]at hm;simp at hm
 .rintro rfl;rw[hb]at hm;simp at hm
def V4{h:af}{bl:Nat}{l:List HE}{rest:List Value}{T:TypeId}{fz:Nat×Nat}(hb:h[bl]? =some (.cells (Mh.row fC l++rest).toArray T fz)){i j:Nat}(hi:i<l.length)(hj:j<2):
  hcell h ⟨bl,i*2+j,none⟩=(fC l[i])[j]? :=by
 rw[bz hb (v:=(fC l[i])[j]'(by rw[kJ];exact hj)) (by have :=uO kJ hi hj rest;rw[mP,this];simp)]
 simp
def xH{h:af}{bl:Nat}{l:List HE}{rest:List Value}{T:TypeId}{fz:Nat×Nat}(hb:h[bl]? =some (.cells (Mh.row fC l++rest).toArray T fz)){i:Nat}(hi:i<l.length):
  hcell h ⟨bl,i*2,none⟩=some (I l[i].1):=V4 hb hi (j:=0) aa
def Df{h:af}{bl:Nat}{l:List HE}{rest:List Value}{T:TypeId}{fz:Nat×Nat}(hb:h[bl]? =some (.cells (Mh.row fC l++rest).toArray T fz)){i:Nat}(hi:i<l.length):
  hcell h ⟨bl,i*2+1,none⟩=some (I l[i].2):=V4 hb hi (j:=1) aa
def hlt(p q:HE):Bool:=decide (p.2<q.2\/p.2=q.2/\p.1<q.1)
def ajL(p q:HE):((if lu p.2 q.2=0 then lu p.1 q.1 else lu p.2 q.2)<0)↔hlt p q=true:=by
 unfold hlt lu;simp only[gT];rcases Int.lt_trichotomy p.2 q.2 with h|h|h
 .simp[h]
 .simp only[h,EZ,dN,e7,false_or,rB];by_cases h1:p.1<q.1
  .simp[h1]
  .simp only[h1,dN,iff_false];split<;>omega
 .have h1:¬p.2<q.2:=aa;have h2:¬p.2=q.2:=aa;simp[h,h1,h2]
def V5{h:af}{r m bl:Nat}{l:List HE}{n:Int}{i k:Nat}{K:KT}(H:eS h r m bl l n)(hi:i<l.length)(hk:k<l.length)
  (hK:∀h',Ext h h'->K (.bool (hlt l[i] l[k])) h'):ah prog 290 [ptr r,I i,I k] h K:=by
 obtain⟨cap,rest,hr,hb,_,_⟩:=H.full aa;refine aK (ahy ?_);have c0:hcell h ⟨r,0,none⟩=some (.slice (some ⟨bl,0,none⟩) l.length cap):=bz hr rfl;have a:=xH hb hi;have c:=Df hb hi;have b:=xH hb hk;have d:=Df hb hk;unfold Tk;simp[c0,hi,hk,a,c,b,d];refine ajI ?_;simp[c0,a,b];refine ajJ ?_;refine⟨by simp[mH,Value.cells,bO],?_⟩;have hnew:(h.push (.cells #[I (lu l[i].2 l[k].2),I (lu l[i].1 l[k].1)] 3 (0,0)))[h.size]? =some (.cells #[I (lu l[i].2 l[k].2),I (lu l[i].1 l[k].1)] 3 (0,0)):=gP;refine ajK hnew ?_;simp only[bC];have :=hK (h.push (.cells #[I (lu l[i].2 l[k].2),I (lu l[i].1 l[k].1)] 3 (0,0))) (bN.push _ _ _);have e:hlt l[i] l[k]=decide ((if lu l[i].2 l[k].2=0 then lu l[i].1 l[k].1 else lu l[i].2 l[k].2)<0):=by rw[uh,gT];exact(ajL _ _).symm
 rw[<-e];exact this
def Ac{l:List HE}(hn:(l.map (·.1)).Nodup){i:Nat}(hi:i<l.length):pos l l[i].1=some (I i):=by
 unfold pos;have :l.findIdx? (λp=>p.1==l[i].1)=some i:=by
  rw[List.findIdx?_eq_some_iff_getElem];refine⟨hi,aP,λj hj=> ?_⟩;have hne:l[j].1≠l[i].1:=by have :=uj.1 hn j i (by simp;omega) (by simpa using hi) hj;simpa using this
  simpa using hne
 rw[this];rfl
def xI{l:List HE}{id:Int}(h:∀p∈l,p.1≠id):pos l id=none:=by
 unfold pos;have :l.findIdx? (λp=>p.1==id)=none:=by rw[Bx];intro p hp;simpa using h p hp
 rw[this];rfl
def Dg(l:List HE)(id:Int):(∃i,∃hi:i<l.length,l[i].1=id)\/∀p∈l,p.1≠id:=by
 by_cases h:∃p∈l,p.1=id
 .obtain⟨p,hp,rfl⟩:=h;obtain⟨i,hi,rfl⟩:=qw.1 hp;exact .inl ⟨i,hi,rfl⟩
 .exact .inr λp hp e=>h ⟨p,hp,e⟩
def Dh{l:List HE}(hn:(l.map (·.1)).Nodup){i k:Nat}(hi:i<l.length)(hk:k<l.length)(he:l[i].1=l[k].1):i=k:=by
 rcases E0 i k with h|h|h
 .have :=uj.1 hn i k (by simpa using hi) (by simpa using hk) h;simp[he]at this
 .exact h
 .have :=uj.1 hn k i (by simpa using hk) (by simpa using hi) h;simp[he]at this
def gv(l:List HE)(i k:Nat)(hi:i<l.length)(hk:k<l.length):List HE:=(l.set i l[k]).set k l[i]
def ni{l:List HE}{i k:Nat}(hi:i<l.length)(hk:k<l.length):(gv l i k hi hk).length=l.length:=by simp[gv]
def Ad{l:List HE}{i k:Nat}(hi:i<l.length)(hk:k<l.length){j:Nat}(hj:j<(gv l i k hi hk).length):
  (gv l i k hi hk)[j]=if j=k then l[i]else if j=i then l[k]else l[j]'(by simpa[gv]using hj):=by
 simp only[gv,qx];by_cases h1:k=j
 .simp[h1]
 .by_cases h2:i=j
  .simp[h1,h2,show ¬j=k from λe=>h1 e.symm]
  .simp[h1,h2,show ¬j=k from λe=>h1 e.symm,show ¬j=i from λe=>h2 e.symm]
def Ae{l:List HE}{i k:Nat}(hi:i<l.length)(hk:k<l.length):(gv l i k hi hk).Perm l:=by
 rw[List.perm_iff_count];intro a;unfold gv;rw[E1 (by simpa using hk),E1 hi,qx];by_cases hik:i=k
 .subst hik;simp only[e7];by_cases h:l[i]=a
  .have :0<l.count a:=yY.2 (h▸cu hi);simp[h];omega
  .simp[h]
 .simp only[hik,dN];by_cases h1:l[i]=a<;>by_cases h2:l[k]=a
  .have :0<l.count a:=yY.2 (h1▸cu hi);simp[h1,h2];omega
  .have :0<l.count a:=yY.2 (h1▸cu hi);simp[h1,h2];omega
  .have :0<l.count a:=yY.2 (h2▸cu hk);simp[h1,h2]
  .simp[h1,h2]
def V6{l:List HE}{i k:Nat}(hi:i<l.length)(hk:k<l.length)(hn:(l.map (·.1)).Nodup):((gv l i k hi hk).map (·.1)).Nodup:=((Ae hi hk).map _).nodup_iff.2 hn
def ajM{l:List HE}{i k:Nat}(hi:i<l.length)(hk:k<l.length)(hn:(l.map (·.1)).Nodup)(id:Int):
  cM (cM (pos l) l[k].1 (I i)) l[i].1 (I k) id=pos (gv l i k hi hk) id:=by
 have hn':=V6 hi hk hn;rcases Dg (gv l i k hi hk) id with ⟨j,hj,rfl⟩|h
 .rw[Ac hn' hj];have hjl:j<l.length:=by simpa[gv]using hj
  rw[Ad hi hk hj];unfold cM;by_cases h1:j=k
  .simp[h1]
  .by_cases h2:j=i
   .subst h2;have :l[k].1≠l[j].1:=λe=>h1 (Dh hn hk hi e).symm;simp[h1,this]
   .have e1:l[j].1≠l[i].1:=λe=>h2 (Dh hn hjl hi e);have e2:l[j].1≠l[k].1:=λe=>h1 (Dh hn hjl hk e);simp[h1,h2,e1,e2,Ac hn hjl]
 .rw[xI h];have hp:=Ae hi hk;have h':∀p∈l,p.1≠id:=λp hp'=>h p (hp.mem_iff.2 hp');have e1:=h' l[i] (cu hi);have e2:=h' l[k] (cu hk);unfold cM;rw[aQ (λe=>e1 e.symm),aQ (λe=>e2 e.symm),xI h']
def HX{h:af}{r m bl:Nat}{l:List HE}{n:Int}{i k:Nat}{K:KT}(H:eS h r m bl l n)(hi:i<l.length)(hk:k<l.length)
  (hK:∀h',eS h' r m bl (gv l i k hi hk) n->bN (λb=>b=m\/b=bl) h h'->K (.tuple #[]) h'):ah prog 177 [ptr r,I i,I k] h K:=by
 obtain⟨cap,rest,hr,hb,g,hcap⟩:=H.full aa;obtain⟨j,p,e⟩:=H.De aa;obtain⟨es,c,hm,him⟩:=H.map;refine aK (afJ ?_);have c0:hcell h ⟨r,0,none⟩=some (.slice (some ⟨bl,0,none⟩) l.length cap):=bz hr rfl;have q:=xH hb hi;have s:=Df hb hi;have t:=xH hb hk;have u:=Df hb hk;unfold QI;simp[c0,hi,hk,iL,q,s,t,u];have hlen:=iN kJ l;have o1:=B9 kJ hi l[k] rest;refine pY rfl hb rfl (by simp[hlen];omega) aP ?_;simp only[Lp];rw[show over (Mh.row fC l++rest) (i*2) [Value.int .i64 l[k].1,Value.int .i64 l[k].2]=Mh.row fC (l.set i l[k])++rest from o1];have v:(bG h bl (.cells (Mh.row fC (l.set i l[k])++rest).toArray jZ (0,0)))[bl]? =_:=aqL hb;have hk':k<(l.set i l[k]).length:=by simpa using hk
 have o2:=B9 kJ hk' l[i] rest;refine pY rfl v rfl (by simp[iN kJ];omega) aP ?_;simp only[Lp];rw[show over (Mh.row fC (l.set i l[k])++rest) (k*2) [Value.int .i64 l[i].1,Value.int .i64 l[i].2]=Mh.row fC (gv l i k hi hk)++rest from o2,zz];have hi':i<(gv l i k hi hk).length:=by simpa[gv]using hi
 have w:k<(gv l i k hi hk).length:=by simpa[gv]using hk
 have a:(bG h bl (.cells (Mh.row fC (gv l i k hi hk)++rest).toArray jZ (0,0)))[bl]? =_:=aqL hb;have d:=(mX (o:=.cells (Mh.row fC (gv l i k hi hk)++rest).toArray jZ (0,0)) j.symm).trans hr;have hm2:=(mX (o:=.cells (Mh.row fC (gv l i k hi hk)++rest).toArray jZ (0,0)) e).trans hm;have d0:=bz (i:=0) d rfl;have d1:=bz (i:=1) d rfl;have f:=xH a hi';have dk:=xH a w;have x:(gv l i k hi hk)[i].1=l[k].1:=by rw[Ad];split<;>simp_all
 have y:(gv l i k hi hk)[k].1=l[i].1:=by rw[Ad];simp
 rw[x]at f;rw[y]at dk;simp[d0,d1,hi,hk,f,dk];refine zH hm2 him λF c1 s1 z hs1=> ?_;simp;refine zI (aqL hm2) z hs1 λG A=> ?_;rw[zz];refine zH (aqL hm2) A λJ c3 s3 B C=> ?_;simp;rw[zz];refine zI (aqL hm2) B C λD E=> ?_;rw[zz];refine hK _ ⟨⟨_,cap,rest,(mX p.symm).trans d,.inr ⟨by rw[ni],(mX e.symm).trans a,by rw[ni];exact g,by rw[ni];exact hcap⟩⟩,
  ⟨D,_,aqL hm2,E.congr λid=> ?_⟩,V6 hi hk H.ids,by rw[ni];exact H.small⟩ ?_
 .rw[Cd,Cd];exact ajM hi hk H.ids id
 .exact(bN.bG h _ (S:=λb=>b=m\/b=bl) (.inr rfl)).trans (bN.bG (S:=λb=>b=m\/b=bl) _ _ (.inl rfl)) λ_ h _=>h
def vg{p q:HE}:hlt p q=true↔p.2<q.2\/p.2=q.2/\p.1<q.1:=by simp[hlt]
def Di{p q:HE}(h:hlt p q=true):¬hlt q p=true:=by rw[vg]at *;omega
def Dj{p q s:HE}(h:¬hlt p q=true)(h':¬hlt q s=true):¬hlt p s=true:=by rw[vg]at *;omega
def Dl{p q s:HE}(h:¬hlt p q=true)(h':hlt s q=true):¬hlt p s=true:=by rw[vg]at *;omega
abbrev gt(l:List HE)(j:Nat):HE:=l.getD j (0,0)
def nY{l:List HE}{j:Nat}(hj:j<l.length):l[j]=gt l j:=by simp[gt,hj]
def rZ{l:List HE}{i k:Nat}(hi:i<l.length)(hk:k<l.length)(j:Nat):gt (gv l i k hi hk) j=if j=k then gt l i else if j=i then gt l k else gt l j:=by
 by_cases hj:j<l.length
 .have hj':j<(gv l i k hi hk).length:=by rw[ni];exact hj
  rw[<-nY hj',Ad hi hk hj'];simp only[nY]
 .have h1:¬j=k:=λe=>hj (e▸hk);have h2:¬j=i:=λe=>hj (e▸hi);simp only[h1,h2,dN];have hj':¬j<(gv l i k hi hk).length:=by rw[ni];exact hj
  simp[gt,hj,hj']
def tF(l:List HE):Prop:=∀j,0<j->j<l.length->¬hlt (gt l j) (gt l ((j-1)/4))=true
def vh(l:List HE)(i:Nat):Prop:=
 (∀j,0<j->j<l.length->j≠i->¬hlt (gt l j) (gt l ((j-1)/4))=true)/\
 (0<i->∀j,0<j->j<l.length->(j-1)/4=i->¬hlt (gt l j) (gt l ((i-1)/4))=true)
def vh.done{l:List HE}{i:Nat}(h:vh l i)(hi:0<i->¬hlt (gt l i) (gt l ((i-1)/4))=true):tF l:=by
 intro j h0 h1;by_cases e:j=i
 .subst e;exact hi h0
 .exact h.1 j h0 h1 e
def vh.step{l:List HE}{i:Nat}(h:vh l i)(h0:0<i)(hi:i<l.length)(hp:(i-1)/4<l.length)(hlt':hlt (gt l i) (gt l ((i-1)/4))=true):
  vh (gv l i ((i-1)/4) hi hp) ((i-1)/4):=by
 have hpi:(i-1)/4<i:=aa;refine⟨λj a j1 jp=> ?_,λc j a j1 d=> ?_⟩
 .rw [ni]at j1;rw[rZ,rZ];simp only[jp,dN];by_cases e:j=i
  .subst e;simp only[e7];exact Di hlt'
  .simp only[e,dN];by_cases e1:(j-1)/4=(i-1)/4
   .simp only[e1,e7];have :=h.1 j a j1 e;rw[e1]at this;exact Dl this hlt'
   .simp only[e1,dN];by_cases e2:(j-1)/4=i
    .simp only[e2,e7];exact h.2 h0 j a j1 e2
    .simp only[e2,dN];exact h.1 j a j1 e
 .rw[ni]at j1;have hg:((i-1)/4-1)/4<(i-1)/4:=aa;have e1:¬((i-1)/4-1)/4=(i-1)/4:=aa;have e2:¬((i-1)/4-1)/4=i:=aa;rw[rZ,rZ];simp only[e1,e2,dN];have jp:¬j=(i-1)/4:=aa;simp only[jp,dN];have b:=h.1 ((i-1)/4) c hp aa;by_cases e:j=i
  .simp only[e,e7];exact b
  .simp only[e,dN];have :=h.1 j a j1 e;rw[d]at this;exact Dj this b
def V7{h:af}{r m bl:Nat}{l:List HE}{n:Int}{i:Nat}{K:KT}(H:eS h r m bl l n)(hi:i<l.length)(hu:vh l i)
  (hK:∀h' l',eS h' r m bl l' n->l'.Perm l->tF l'->bN (λb=>b=m\/b=bl) h h'->K (.tuple #[]) h'):ah prog 175 [ptr r,I i] h K:=by
 refine aK (afH ?_);unfold QG;refine zA (λx h'=>∃(j:Nat)(l':List HE),x.1=I j/\j<l'.length/\eS h' r m bl l' n/\l'.Perm l/\vh l' j/\bN (λb=>b=m\/b=bl) h h')
  (λx _=>match x.1 with| .int _ n=>n.toNat|_=>0) ⟨i,l,rfl,hi,H,.refl _,hu,.refl _ _⟩ ?_
 rintro⟨x,⟨⟩⟩ h' Z ⟨j,l',hx,hj,H',hp,c,d⟩ hZ;dsimp only at hx;subst hx;dsimp only at hZ |-;have f:=H'.small;unfold QF;simp only[akS,bA];refine⟨λh0=> ?_,λh0=> ?_⟩
 .have h0:0<j:=aa;have e:(((j:Int)-1).tdiv 4)=(((j-1)/4:Nat):Int):=by
   rw[show((j:Int)-1)=((j-1:Nat):Int) by omega];rfl
  have e1:IntKind.i64.wrap ((j:Int)-1)=(j:Int)-1:=bK aa aa;have e2:IntKind.i64.wrap (((j-1)/4:Nat):Int)=(((j-1)/4:Nat):Int):=bK aa aa;simp only[fc,pX,e1,e,e2];refine⟨az,?_⟩;have a:(j-1)/4<l'.length:=aa;refine V5 H' hj a λh1 hx1=> ?_;obtain⟨g,hn2,k⟩:=H'.De aa;have H1:=H'.bG hx1 id id id;rw[zB,nY hj,nY a];refine⟨λhb=>⟨az,?_⟩,λhb=> ?_⟩
  .refine HX H1 hj a λh2 H2 hx2=> ?_;refine⟨az,?_⟩;refine hZ _ _ ⟨(j-1)/4,_,rfl,by rw[ni];exact a,H2,(Ae hj a).trans hp,c.step h0 hj a hb,?_⟩ ?_
   .exact(d.trans (hx1.bG (S:=λb=>b=m\/b=bl)) λ_ h _=>h).trans hx2 λ_ h _=>h
   .dsimp only;omega
  .exact hK _ _ H1 hp (c.done λ_=>by rw[hb];simp) (d.trans (hx1.bG (S:=λb=>b=m\/b=bl)) λ_ h _=>h)
 .have h0:j=0:=aa;subst h0;exact hK _ _ H' hp (c.done λh=>absurd h (Br 0)) d
def eS.sl{h:af}{r m bl:Nat}{l:List HE}{n:Int}(H:eS h r m bl l n):∃base cap,h[r]? =some (.cells #[.slice base l.length cap,.map (some m),I n] nX (0,0)):=by
 obtain⟨sl,cap,rest,hr,hs⟩:=H.row;rcases hs with ⟨rfl,rfl,_⟩|⟨rfl,_⟩
 .exact⟨_,_,hr⟩
 .exact⟨_,_,hr⟩
def ajN{h0:af}{r m bl bi b:Nat}{l:List HE}{n:Int}{j:Nat}{B:Loop->bt [13]->af->(Exit->af->Prop)->Prop}{c e:af->Prop}{T1 T2:TypeId}
  (J:Nat->af->Prop) (hj:j<2^40)
  (hJ:∀k h',J k h'->h'[bi]? =some (.cells #[I j] T1 (0,0))/\h'[b]? =some (.cells #[ptr r] T2 (0,0))/\eS h' r m bl l n)
  (f:∀L,J (4*j+1) (h0.push (lo L .ready none)))
  (hstep:∀k h' L R,J k h'->h'[h0.size]? =some (lo L .ready none)->k<l.length->4*j+1<=k->k<=4*j+4->(∀h'',J (k+1) h''->h''[h0.size]? =some (lo L .ready none)->R (.bool true) h'')->
   B L (I k,()) h' (zv h0.size L R))
  (hend:∀k h' L,J k h'->h'[h0.size]? =some (lo L .ready none)->(4*j+4<k\/l.length<=k)->c (bG h' h0.size (lo L .exhausted none))):
  gO prog (.func (.func 363) #[] #[ptr bi,ptr b]) [13] h0.size h0 B c e []:=by
 intro L hy;show aF prog 363 [dS h0.size,ptr bi,ptr b].toArray _ _;refine aiK ?_;have d:=f L;unfold UQ;have a0:=jC (hJ _ _ d).1;have e1:IntKind.i64.wrap (4*(j:Int))=4*(j:Int):=bK aa aa;have e2:IntKind.i64.wrap (4*(j:Int)+1)=4*(j:Int)+1:=bK aa aa;simp only[dh,a0,iO,bw,e1,e2];refine zA (λx h'=>∃k:Nat,x.1=I k/\4*j+1<=k/\k<=4*j+5/\J k h'/\h'[h0.size]? =some (lo L .ready none))
  (λx _=>match x.1 with| .int _ n=>(4*(j:Int)+5-n).toNat|_=>0) ⟨4*j+1,aP,cq _,aa,d,gP⟩ ?_
 rintro⟨x,⟨⟩⟩ h' Z ⟨k,hx,g,hk2,a,hl⟩ hZ;dsimp only at hx;subst hx;dsimp only at hZ |-;obtain⟨b1,b2,H⟩:=hJ _ _ a;obtain⟨base,cap,hr⟩:=H.sl;have c1:=jC b1;have c2:=jC b2;have c3:=jC hr;have e3:IntKind.i64.wrap (4*(j:Int)+4)=4*(j:Int)+4:=bK aa aa;unfold UP;simp only[dh,c1,c2,c3,iO,bw,e1,e3,lS,bC,bA,bD,aU,Lo];refine⟨λhle=>⟨λhlt=> ?_,λhge=> ?_⟩,λhgt=> ?_⟩
 .refine hy (I k,()) h' _ .ready none hl ?_;refine hstep k h' L _ a hl aa g aa λh'' h i=> ?_;simp only[bP,cz,aO];have o:IntKind.i64.wrap ((k:Int)+1)=((k+1:Nat):Int):=by rw[bK aa aa];rfl
  rw[o];exact hZ _ _ ⟨k+1,rfl,aa,aa,h,i⟩ (by dsimp only;omega)
 .exact⟨.ready,none,az,hl,hend k h' L a hl aa⟩
 .exact⟨.ready,none,az,hl,hend k h' L a hl aa⟩
def vj(l:List HE)(i:Nat):Prop:=
 (∀j,0<j->j<l.length->(j-1)/4≠i->¬hlt (gt l j) (gt l ((j-1)/4))=true)/\
 (0<i->∀j,0<j->j<l.length->(j-1)/4=i->¬hlt (gt l j) (gt l ((i-1)/4))=true)
def vj.done{l:List HE}{i:Nat}(h:vj l i)(hi:∀j,0<j->j<l.length->(j-1)/4=i->¬hlt (gt l j) (gt l i)=true):tF l:=by
 intro j h0 h1;by_cases e:(j-1)/4=i
 .rw[e];exact hi j h0 h1 e
 .exact h.1 j h0 h1 e
def vj.step{l:List HE}{i b:Nat}(h:vj l i)(hi:i<l.length)(hb:b<l.length)(b0:0<b)(bi:(b-1)/4=i)
  (hlt':hlt (gt l b) (gt l i)=true) (hmin:∀j,0<j->j<l.length->(j-1)/4=i->¬hlt (gt l j) (gt l b)=true):vj (gv l i b hi hb) b:=by
 have hib:i<b:=aa;refine⟨λj a j1 jp=> ?_,λd j a j1 c=> ?_⟩
 .rw[ni]at j1;rw[rZ,rZ];simp only[jp,dN];by_cases e:(j-1)/4=i
  .simp only[e,e7];by_cases e1:j=b
   .subst e1;simp only[e7];exact Di hlt'
   .have e2:¬j=i:=aa;simp only[e1,e2,dN];exact hmin j a j1 e
  .simp only[e,dN];have e1:¬j=b:=λe'=>e (e'▸bi);simp only[e1,dN];by_cases e2:j=i
   .subst e2;simp only[e7];exact h.2 a b b0 hb bi
   .simp only[e2,dN];exact h.1 j a j1 e
 .rw[ni]at j1;rw[rZ,rZ,bi];have e1:¬j=b:=aa;have e2:¬j=i:=aa;have e3:¬i=b:=aa;simp only[e1,e2,e3,dN,e7];have :=h.1 j a j1 aa;rw[c]at this;exact this
def ajO{h:af}{r m bl:Nat}{l:List HE}{n:Int}{i:Nat}{K:KT}(H:eS h r m bl l n)(hi:i<2^40)(hi':i<l.length\/l=[])(aj:bl<h.size)(hu:vj l i)
  (hK:∀h' l',eS h' r m bl l' n->l'.Perm l->tF l'->bN (λb=>b=m\/b=bl) h h'->K (.tuple #[]) h'):ah prog 178 [ptr r,I i] h K:=by
 refine aK (afK ?_);obtain⟨az,aB,ak⟩:=H.sl;obtain⟨aC,c0,hm0,_⟩:=H.map;have hrl:=eY ak;have hml:=eY hm0;unfold QM;refine xh ?_;refine pY rfl gP rfl aP aP ?_;have u1:Ext h (bG (h.push (.cells (Value.nilFunc).cells 357 (0,0))) h.size (.cells (over [Value.nilFunc] 0 (Value.func (.func 290) #[ptr r] #[]).cells.toList).toArray 357 (0,0))):=((bN.push _ _ _).trans (bN.bG (S:=λb=>b=h.size) _ _ rfl) (λb hb hlt=>aa))
 refine zA (λx h'=>∃(j:Nat)(l':List HE),x.2.1=I j/\j<2^40/\(j<l'.length\/l'=[])/\eS h' r m bl l' n/\l'.Perm l/\vj l' j/\bN (λb=>b=m\/b=bl) h h'/\
   h'[h.size]? =some (.cells #[.func (.func 290) #[ptr r] #[]] 357 (0,0))/\(∀D∈x.1,h.size<D/\h'[D]? =some (.deferred (some [])))/\x.1.Nodup)
  (λx _=>match x.2.1 with| .int _ n=>(2^40-n).toNat|_=>0)
  ⟨i,l,rfl,hi,hi',H.bG u1 id id id,.refl _,hu,u1.bG,aqL gP,aP,aP⟩ ?_
 rintro⟨mk,x,⟨⟩⟩ h' Z ⟨j,l',hx,hj,hjl,H',hp,T,a,y,hmk,hmn⟩ hZ;dsimp only at hx;subst hx;dsimp only at hZ hmk hmn |-;unfold QL;refine xh ?_;refine pY rfl gP rfl aP aP ?_;have z:(bG (h'.push (.cells (I 0).cells 3 (0,0))) h'.size (.cells (over [I 0] 0 (I j).cells.toList).toArray 3 (0,0)))[h'.size]? =some (.cells #[I j] 3 (0,0)):=aqL gP;have x2:Ext h' (bG (h'.push (.cells (I 0).cells 3 (0,0))) h'.size (.cells (over [I 0] 0 (I j).cells.toList).toArray 3 (0,0))):=((bN.push _ _ _).trans (bN.bG (S:=λb=>b=h'.size) _ _ rfl) (λb hb hlt=>aa))
 generalize e2:(bG (h'.push (.cells (I 0).cells 3 (0,0))) h'.size (.cells (over [I 0] 0 (I j).cells.toList).toArray 3 (0,0)))=h2 at z x2;have hsz:=x2.size;have aE:=eY z;clear e2;refine aK (ahz ?_);unfold Tl;refine xh (xh ?_);simp only[td,ab3,ab2];have U:((h2.push (.cells #[ptr r] 420 (0,0))).push (.cells #[I j] 3 (0,0)))[h2.size]? =some (.cells #[ptr r] 420 (0,0)):=(bN.push (λ_=>False) (h2.push (.cells #[ptr r] 420 (0,0))) (.cells #[I j] 3 (0,0))).get gP id
 have V:((h2.push (.cells #[ptr r] 420 (0,0))).push (.cells #[I j] 3 (0,0)))[h2.size+1]? =some (.cells #[I j] 3 (0,0)):=by have :=gP (h:=h2.push (.cells #[ptr r] 420 (0,0))) (o:=.cells #[I j] 3 (0,0));rwa[td]at this
 have A:Ext h2 ((h2.push (.cells #[ptr r] 420 (0,0))).push (.cells #[I j] 3 (0,0))):=(bN.push _ _ _).trans (bN.push _ _ _) λ_ h _=>h;have W:((h2.push (.cells #[ptr r] 420 (0,0))).push (.cells #[I j] 3 (0,0))).size=h2.size+2:=aP;generalize ((h2.push (.cells #[ptr r] 420 (0,0))).push (.cells #[I j] 3 (0,0)))=h3 at U V A W;have s:Ext h3 (h3.push (.deferred (some []))):=bN.push _ _ _;have X:(h3.push (.deferred (some [])))[h3.size]? =some (.deferred (some [])):=gP;have hs4:(h3.push (.deferred (some []))).size=h3.size+1:=aP;rw[show h2.size+1+1=h3.size from W.symm,<-hs4];generalize h3.push (.deferred (some []))=h4 at s X hs4;have B:Ext h' h4:=(x2.trans A λ_ h _=>h).trans s λ_ h _=>h;have H4:=H'.bG B id id id;have v:=s.get (A.get z);have an:=s.get U;have aq:=s.get V;have Y:=B.get y;have aF:=H'.small;refine ajN (r:=r) (m:=m) (bl:=bl) (l:=l') (n:=n) (j:=j) (T1:=3) (T2:=420)
  (λk hh=>∃b:Nat,(b=j\/(4*j+1<=b/\b<=4*j+4/\b<l'.length/\hlt (gt l' b) (gt l' j)=true))/\(∀c,4*j+1<=c->c<k->c<l'.length->¬hlt (gt l' c) (gt l' b)=true)/\
   hh[h'.size]? =some (.cells #[I b] 3 (0,0))/\bN (λc=>c=h'.size) h4 hh)
  hj ?_ ?_ ?_ ?_
 .rintro k hh ⟨b,_,_,_,d⟩;refine⟨d.get aq aa,d.get an aa,H4.bG d ?_ ?_ ?_⟩
  .have :=a.size;omega
  .have :=a.size;omega
  .have :=a.size;omega
 .intro L;refine⟨j,.inl rfl,λc h1 h2=>aa,(bN.push (λ_=>False) _ _).get v id,bN.push _ _ _⟩
 .rintro k hh L R ⟨b,hb,hc,C,d⟩ hl hk h1 h2 hR;have E:eS hh r m bl l' n:=H4.bG d (by have :=a.size;omega) (by have :=a.size;omega) (by have :=a.size;omega);unfold QJ;rw[<-hs4];refine Ls hl ?_;have f:bN (λc=>c=h4.size) hh (bG hh h4.size (lo L .busy none)):=bN.bG _ _ rfl;have t:(bG hh h4.size (lo L .busy none))[h4.size]? =some (lo L .busy none):=aqL hl;have aG:=eY hl;have f1:=f.get (d.get Y (by have :=a.size;have :=eY y;omega)) (by have :=eY Y;omega);have f2:=f.get C aa;have q:eS (bG hh h4.size (lo L .busy none)) r m bl l' n:=E.bG f (by have :=eY v;have :=a.size;omega) (by have :=eY v;have :=a.size;omega) (by have :=eY v;have :=a.size;omega);generalize bG hh h4.size (lo L .busy none)=h5 at f t f1 f2 q;have au:=jC f1;have F:=jC f2;simp only[dh,au,F];have G:b<l'.length:=by
   rcases hb with rfl|⟨_,_,hb,_⟩
   .rcases hjl with h|h
    .exact h
    .subst h;simp at hk
   .exact hb
  have :=V5 (K:=λt17 h_9=>aA t17 (aD 1 (ptr h'.size) (I k) h_9 λaH h_10=>zv h4.size L R .normal h_10) (zv h4.size L R .normal h_9)) q hk G (λh6 g=>by
   rw[zB];refine⟨λht=> ?_,λhf=> ?_⟩
   .refine pY rfl (g.get f2) rfl aP aP ?_;rw[nY hk,nY G]at ht;have hne:h'.size≠h4.size:=aa;refine Lr ((mX hne).trans (g.get t)) (hR _ ?_ ?_)
    .refine⟨k,.inr ⟨h1,h2,hk,?_⟩,?_,?_,?_⟩
     .rcases hb with rfl|⟨_,_,_,hb⟩
      .exact ht
      .exact Classical.byContradiction λav=>(Dl (Dl av hb) ht) (by rw[vg]at *;omega)
     .intro c hc1 ax J;by_cases M:c=k
      .subst M;exact λe=>Di e e
      .exact Dl (hc c hc1 aa J) ht
     .exact(mX hne.symm).trans (aqL (g.get f2))
     .refine bN.trans (bN.trans (bN.trans (d.trans f (S:=λc=>c=h'.size) ?_) g ?_) (bN.bG (S:=λc=>c=h'.size) _ _ rfl) ?_) (bN.bG (S:=λc=>c=h4.size) _ _ rfl) ?_
      .intro b hb hlt;omega
      .intro b hb hlt;exact hb.elim
      .intro b hb hlt;exact hb
      .intro b hb hlt;omega
    .exact aqL ((mX hne).trans (g.get t))
   .rw[nY hk,nY G]at hf;have hne:h'.size≠h4.size:=aa;refine Lr (g.get t) (hR _ ?_ ?_)
    .refine⟨b,hb,?_,?_,?_⟩
     .intro c hc1 ax J;by_cases M:c=k
      .subst M;rw[hf];simp
      .exact hc c hc1 aa J
     .exact(mX hne.symm).trans (g.get f2)
     .refine bN.trans (bN.trans (d.trans f (S:=λc=>c=h'.size) ?_) g ?_) (bN.bG (S:=λc=>c=h4.size) _ _ rfl) ?_
      .intro b hb hlt;omega
      .intro b hb hlt;exact hb.elim
      .intro b hb hlt;omega
    .exact aqL (g.get t))
  exact this
 .rintro k hh L ⟨b,hb,hc,C,d⟩ hl hend;have E:eS hh r m bl l' n:=H4.bG d (by have :=a.size;omega) (by have :=a.size;omega) (by have :=a.size;omega);have f:bN (λc=>c=h4.size) hh (bG hh h4.size (lo L .exhausted none)):=bN.bG _ _ rfl;have f2:=f.get C aa;have hsize:h4.size<=hh.size:=d.size;have q:eS (bG hh h4.size (lo L .exhausted none)) r m bl l' n:=E.bG f (by have :=a.size;omega) (by have :=a.size;omega) (by have :=a.size;omega);have N:bN (λc=>c=h'.size\/c=h4.size) h4 (bG hh h4.size (lo L .exhausted none)):=(d.mono λ_ h _=>.inl h).trans f λb h _=>.inr h;generalize bG hh h4.size (lo L .exhausted none)=h5 at f f2 q N;have O:Ext h' h5:=B.trans N λb hb hlt=>aa;have u:∀D∈h3.size::mk,h.size<D/\h5[D]? =some (.deferred (some [])):=by
   intro D hD;rcases cV.1 hD with rfl|hD
   .exact⟨by have :=a.size;omega,N.get X aa⟩
   .exact⟨(hmk D hD).1,O.get (hmk D hD).2⟩
  have ag:(h3.size::mk).Nodup:=gC.2 ⟨λhin=>by have :=eY (hmk _ hin).2;omega,hmn⟩;have F:=jC f2;simp only[dh,F,cF,kD];have ai:bN (λb=>b=m\/b=bl) h h5:=a.trans O λ_ h _=>h.elim;refine⟨λhe=> ?_,λhe=> ?_⟩
  .have he:b=j:=aa;subst he;refine Cc _ _ (λD hD=>(u D hD).2) ag λh6 p=> ?_;have hn:∀c,c<h.size->¬c∈h3.size::mk:=λc hc hin=>by have :=(u c hin).1;omega
   refine hK h6 l' (q.bG p (hn _ hrl) (hn _ hml) (hn _ aj)) hp (T.done λc c0 c1 c2=>hc c aa aa c1) (ai.trans p λc hc hlt=>(hn c hlt hc).elim)
  .have he:¬b=j:=λe=>he (by rw[e]);rcases hb with hb|⟨aI,aJ,w,hb4⟩
   .exact(he hb).elim
   .have P:j<l'.length:=aa;refine HX q P w λh6 ay p=> ?_;have Q:∀c,h.size<=c->¬(c=m\/c=bl):=λc hc=>aa;have f3:=jC (p.get f2 (Q _ (by have :=a.size;omega)));simp only[dh,f3];refine hZ (h3.size::mk,(I b,())) h6 ⟨b,_,rfl,aa,.inl (by rw[ni];exact w),ay,(Ae P w).trans hp,?_,ai.trans p λ_ h _=>h,?_,?_,ag⟩ ?_
    .exact T.step P w aa aa hb4 λc c0 c1 c2=>hc c aa aa c1
    .exact p.get (O.get y) (Q _ (cq _))
    .intro D hD;exact⟨(u D hD).1,p.get (u D hD).2 (Q _ (by have :=(u D hD).1;omega))⟩
    .dsimp only;omega
def ajP(a:HE):∀u∈fC a,Mh.plainCell u=true:=by intro u hu;simp[fC]at hu;rcases hu with rfl|rfl<;>rfl
def eS.vk{h:af}{r m bl:Nat}{l:List HE}{n:Int}(H:eS h r m bl l n):∃v,h[r]? =some (.cells #[v,.map (some m),I n] nX (0,0))/\eC fC 2 jZ h v bl l:=by
 obtain⟨sl,cap,rest,hr,hs⟩:=H.row;refine⟨sl,hr,?_⟩;rcases hs with ⟨a,b,_⟩|⟨a,b,c,d⟩
 .exact .inl ⟨a,b⟩
 .exact .inr ⟨cap,rest,a,b,c,d⟩
def eS.of{h:af}{r m bl:Nat}{l:List HE}{n:Int}{v:Value}{es:Array MapEntry}{c:Nat}(hr:h[r]? =some (.cells #[v,.map (some m),I n] nX (0,0)))(hs:eC fC 2 jZ h v bl l)
  (hm:h[m]? =some (.map es c)) (hi:IMap es c (pos l)) (hn:(l.map (·.1)).Nodup) (hl:l.length<2^40):eS h r m bl l n:=by
 refine⟨?_,⟨es,c,hm,hi⟩,hn,hl⟩;rcases hs with ⟨a,b⟩|⟨cap,rest,a,b,c,d⟩
 .exact⟨v,0,[],hr,.inl ⟨a,b,rfl⟩⟩
 .exact⟨v,cap,rest,hr,.inr ⟨a,b,c,d⟩⟩
def Grow(h:af)(F F':Nat->Prop):Prop:=∀b,F' b->F b\/h.size<=b
structure HV(h:af)(F:Nat->Prop)(r:Nat)(l:List HE)(n:Int):Prop where
 rep:∃m bl,eS h r m bl l n/\tF l/\F r/\F m/\F bl
 low:∀b,F b->b<h.size
 xJ:∀p∈l,0<=p.1/\p.1<n
def HV.nodup{h:af}{F:Nat->Prop}{r:Nat}{l:List HE}{n:Int}(H:HV h F r l n):(l.map (·.1)).Nodup:=by obtain⟨m,bl,R,_⟩:=H.rep;exact R.ids
def Min(l:List HE)(p:HE):Prop:=p∈l/\∀q∈l,¬hlt q p=true
def ajQ{p q:HE}(h1:¬hlt p q=true)(h2:¬hlt q p=true):p=q:=by rw[vg]at h1 h2;obtain⟨a,b⟩:=p;obtain⟨c,d⟩:=q;simp only[mO]at *;omega
def Min.uniq{l l':List HE}{p p':HE}(h:Min l p)(h':Min l' p')(hp:l.Perm l'):p=p':=ajQ (h'.2 p (hp.mem_iff.1 h.1)) (h.2 p' (hp.mem_iff.2 h'.1))
def tF.min{l:List HE}(h:tF l)(hl:0<l.length):Min l l[0]:=by
 refine⟨cu hl,λq hq=> ?_⟩;obtain⟨j,hj,rfl⟩:=qw.1 hq;rw[nY hj,nY hl];clear hq
 induction j using Nat.strongRecOn with
 |_ j ih=>
  by_cases h0:j=0
  .subst h0;exact λe=>Di e e
  .exact Dj (h j aa hj) (ih ((j-1)/4) aa aa)
def Dm{h:af}{F:Nat->Prop}{r:Nat}{l:List HE}{n:Int}{K:KT}(H:HV h F r l n)(hK:K (I l.length) h):ah prog 176 [ptr r] h K:=by obtain⟨⟨m,bl,R,ho,f1,f2,f3⟩,a,b⟩:=H;obtain⟨v,hr,hs⟩:=R.vk;refine aK (afI ?_);unfold QH;have c0:=jC hr;simp only[dM,dW,aO,bD,aU,dh,c0];exact hs.aqS hK
def ajR{h:af}{F:Nat->Prop}{r:Nat}{l:List HE}{n:Int}{K:KT}(H:HV h F r l n)
  (h0:l=[]->K (.tuple #[I 0,.bool false]) h) (h1:∀p,Min l p->K (.tuple #[I p.2,.bool true]) h):ah prog 309 [ptr r] h K:=by
 refine aK (ahS ?_);unfold TI;refine Dm H ?_;obtain⟨⟨m,bl,R,ho,f1,f2,f3⟩,a,b⟩:=H;obtain⟨v,hr,hs⟩:=R.vk;have c0:=jC hr;simp only[cF,kD,bD,aU,dh,c0];refine⟨λhe=>h0 (nH aa),λhe=> ?_⟩;have hl:0<l.length:=aa;have hi:=hs.idx (i:=0) (k:=.i64) (K:=λt12=>au 1 t12 λt13=>ag h t13 λt14=>K (.tuple #[t14,.bool true]) h) hl (by have :=hs.slot kJ hl (j:=1) aa;simp only[yX,bE]at this;simp only[aU,dh,yX,bE,this];exact h1 _ (ho.min hl))
 exact hi
def ajS{h:af}{F:Nat->Prop}{r:Nat}{l:List HE}{n id:Int}{K:KT}(H:HV h F r l n)
  (h0:(∀p∈l,p.1≠id)->K (.tuple #[I 0,.bool false]) h) (h1:∀p∈l,p.1=id->K (.tuple #[I p.2,.bool true]) h):ah prog 181 [ptr r,I id] h K:=by
 refine aK (afN ?_);unfold QT;refine Dm H ?_;obtain⟨⟨m,bl,R,ho,f1,f2,f3⟩,a,b⟩:=H;obtain⟨v,hr,hs⟩:=R.vk;obtain⟨es,c,hm,him⟩:=R.map;have c0:=jC hr;have c1:=zC hr;simp only[cF,kD,bD,aU,dh,c0,c1,bE];refine⟨λhe=>h0 (by have :l=[]:=nH aa;subst this;simp),λhe=> ?_⟩;refine xl hm him ?_;rcases Dg l id with ⟨i,hi,rfl⟩|hno
 .simp only[Ac R.ids hi,e7,e8,kz,uP];show bY .not (.bool true) _;simp only[bP,cz,aO];refine hs.idx hi ?_;simp only[aU,dh,hs.slot kJ hi (j:=1) aa];exact h1 _ (cu hi) rfl
 .simp only[xI hno,e7,mR,mw,uP];show bY .not (.bool false) _;simp only[bP,dL,bF];exact h0 hno
def ajT{h:af}{n:Int}{K:KT}(hK:∀h' F r,HV h' F r [] (max n 0)->(∀b,F b->h.size<=b)->Ext h h'->K (ptr r) h'):ah prog 84 [I n] h K:=by
 refine aK (aeb ?_);unfold Ol bH aV;refine⟨by simp[mH],?_⟩;dsimp only;rw[oI];have e:(if(0:Int)>n then 0 else n)=max n 0:=aa;rw[e];refine⟨by simp[mH,gq],?_⟩;refine xh ?_;simp only[gq];have hs1:(h.push (Obj.map #[] 0)).size=h.size+1:=aP;refine hK _ (λb=>b=h.size\/b=h.size+1) (h.push (Obj.map #[] 0)).size ?_ (λb hb=>aa) ((bN.push _ _ _).trans (bN.push _ _ _) λ_ h _=>h);have hm:((h.push (Obj.map #[] 0)).push (.cells #[.slice none 0 0,.map (some h.size),I (max n 0)] nX (0,0)))[h.size]? =some (.map #[] 0):=(bN.push (λ_=>False) (h.push (Obj.map #[] 0)) (.cells #[.slice none 0 0,.map (some h.size),I (max n 0)] nX (0,0))).get gP id
 refine⟨⟨h.size,h.size,eS.of gP (.inl ⟨rfl,rfl⟩) hm (IMap.empty.congr λk=>rfl) aP aP,λj _ hj=>by simp at hj,.inr hs1,.inl rfl,.inl rfl⟩,λb hb=>by simp;omega,aP⟩
def V8{l:List HE}{a:HE}{j:Nat}(hj:j<l.length):gt (l++ [a]) j=gt l j:=by simp[gt,aqM hj]
def ajU{l:List HE}{a:HE}(hno:∀p∈l,p.1≠a.1)(x:Int):cM (pos l) a.1 (I l.length) x=pos (l++ [a]) x:=by
 unfold cM pos;rw[List.findIdx?_append];by_cases hx:x=a.1
 .subst hx;have :l.findIdx? (λp=>p.1==a.1)=none:=by
   rw[Bx];intro p hp;simpa using hno p hp
  simp[this]
 .rw[aQ hx];have :[a].findIdx? (λp=>p.1==x)=none:=by
   rw[Bx];intro p hp;simp at hp;subst hp;simpa using λe=>hx e.symm
  rw[this];simp
def ajV{h:af}{F:Nat->Prop}{r:Nat}{l:List HE}{n id key:Int}{K:KT}(H:HV h F r l n)(J:l.length+1<2^40)
  (h2:((∃p∈l,p.1=id)\/id<0\/n<=id)->K (I 2) h)
  (h0:(∀p∈l,p.1≠id)->0<=id->id<n->∀h' F' l',HV h' F' r l' n->l'.Perm ((id,key)::l)->Grow h F F'->bN F h h'->K (I 0) h'):
  ah prog 87 [ptr r,I id,I key] h K:=by
 refine aK (aee ?_);unfold Ov;obtain⟨⟨m,bl,R,ho,f1,f2,f3⟩,w,L⟩:=H;obtain⟨v,hr,hs⟩:=R.vk;obtain⟨es,c,hm,him⟩:=R.map;have c0:=jC hr;have c1:=zC hr;have c2:=Lq hr;simp only[dM,dW,aO,bD,aU,dh,c0,c1,c2,bE];refine xl hm him ?_;rcases Dg l id with ⟨i,hi,rfl⟩|hno
 .simp only[Ac R.ids hi,e7,e8,kz,uP];show aA (.bool true) _ _;simp only[bF];exact h2 (.inl ⟨_,cu hi,rfl⟩)
 .simp only[xI hno,e7,mR,mw,uP];show aA (.bool false) _ _;simp only[aO,bC,dA,bA];refine⟨λhlt=>h2 (.inr (.inl hlt)),λhlt=>⟨λhge=>h2 (.inr (.inr hge)),λhge=> ?_⟩⟩;refine hs.aqS ?_;refine Ly hm him λes' c' M=> ?_;have x:m≠r:=by rintro rfl;rw[hm]at hr;simp at hr
  have q:=(mX (o:=.map es' c') x).trans hr;have N:=jC q;simp only[N];have hs1:eC fC 2 jZ (bG h m (.map es' c')) v bl l:=by
   rcases hs with ⟨a,b⟩|⟨cap,rest,a,b,c,d⟩
   .exact .inl ⟨a,b⟩
   .have :m≠bl:=by rintro rfl;rw[hm]at b;simp at b
    exact .inr ⟨cap,rest,a,(mX this).trans b,c,d⟩
  have s:(bG h m (.map es' c'))[m]? =some (.map es' c'):=aqL hm;have u1:bN (λb=>b=m) h (bG h m (.map es' c')):=bN.bG _ _ rfl;have O:(bG h m (.map es' c')).size=h.size:=iM;generalize bG h m (.map es' c')=h1 at q hs1 s u1 O;refine⟨by simp[mH],?_⟩;refine⟨by simp[mH,gq,bO,Value.cells],?_⟩;have hnew:(h1.push (.cells (gq (bO [Value.int .i64 0,Value.int .i64 0] 1) [(0,2,.agg (gq [Value.int .i64 0,Value.int .i64 0] [(0,1,I id),(1,1,I key)]).toArray)]).toArray jZ (0,0)))[h1.size]? =
   some (.cells #[I id,I key] jZ (0,0)):=by rw[gP];rfl
  have u2:=bN.push (λ_=>False) h1 (.cells (gq (bO [Value.int .i64 0,Value.int .i64 0] 1) [(0,2,.agg (gq [Value.int .i64 0,Value.int .i64 0] [(0,1,I id),(1,1,I key)]).toArray)]).toArray jZ (0,0));have P:(h1.push (.cells (gq (bO [Value.int .i64 0,Value.int .i64 0] 1) [(0,2,.agg (gq [Value.int .i64 0,Value.int .i64 0] [(0,1,I id),(1,1,I key)]).toArray)]).toArray jZ (0,0))).size=h1.size+1:=td;generalize (h1.push (.cells (gq (bO [Value.int .i64 0,Value.int .i64 0] 1) [(0,2,.agg (gq [Value.int .i64 0,Value.int .i64 0] [(0,1,I id),(1,1,I key)]).toArray)]).toArray jZ (0,0)))=y at hnew u2 P;refine ab6 (ys:=[(id,key)]) kJ ajP rfl (hs1.bG u2 (λf=>f)) rfl ?_ az (by simp;omega) λv' g h3 k Q u3 hlt3=> ?_
  .simp only[gN,Bz];rw[tf (i:=0) (cs:=[I id,I key]) hnew _ 0 aP];rfl
  have t:h3[r]? =_:=u3.get (u2.get q (λf=>f)) (by rintro⟨rfl,cs,hcs⟩;rw[u2.get q (λf=>f)]at hcs;simp at hcs;exact absurd hcs.2 az)
  have S:h3[m]? =_:=u3.get (u2.get s (λf=>f)) (by rintro⟨rfl,cs,hcs⟩;rw[u2.get s (λf=>f)]at hcs;simp at hcs)
  have hrb:r≠g:=by rintro rfl;obtain⟨_,_,_,hb,_⟩:=k.full aP;rw[t]at hb;simp at hb;exact absurd hb.2 az
  refine pY rfl t (by rcases k.len with ⟨_,_,rfl⟩;rfl) (by rcases k.len with ⟨_,_,rfl⟩;simp) (by rcases k.len with ⟨_,_,rfl⟩;simp) ?_;have T:over [v,Value.map (some m),I n] 0 v'.cells.toList=[v',Value.map (some m),I n]:=by rcases k.len with ⟨_,_,rfl⟩;rfl
  rw[T];have u4:bN (λb=>b=r) h3 (bG h3 r (.cells [v',Value.map (some m),I n].toArray nX (0,0))):=bN.bG _ _ rfl;have u:(bG h3 r (.cells [v',Value.map (some m),I n].toArray nX (0,0)))[r]? =_:=aqL t;have z:=u4.get S x;have hs4:=k.bG u4 (λe=>hrb e.symm);generalize bG h3 r (.cells [v',Value.map (some m),I n].toArray nX (0,0))=h4 at u4 u z hs4;have c4:=jC u;simp only[c4];refine hs4.aqS ?_;have U:IntKind.i64.wrap (((l++ [(id,key)]).length:Int)-1)=(l.length:Int):=by rw[cG,mQ,bK aa aa];omega
  rw[fc,U];have V:eS h4 r m g (l++ [(id,key)]) n:=by refine eS.of u hs4 z (M.congr (ajU (a:=(id,key)) hno)) ?_ (by simpa using J);rw[fq,kq];refine⟨R.ids,aP,?_⟩;intro a ha b hb;simp at hb;subst hb;obtain⟨p,hp,rfl⟩:=cP.1 ha;exact hno p hp
  refine V7 V (i:=l.length) aP ?_ λh5 W X A Y B=> ?_
  .refine⟨λj C j1 j2=> ?_,λ_ j C j1 j2=> ?_⟩
   .have D:j<l.length:=by simp at j1;omega
    rw[V8 D,V8 (show(j-1)/4<l.length by omega)];exact ho j C D
   .simp at j1;omega
  have ak:h.size<=y.size:=aa;have E:g=bl\/h.size<=g:=by rcases Q with e|e<;>omega
  have Z:bN F y h3:=u3.mono λb hb _=>hb.1▸f3;have ag:bN F h h4:=(((u1.mono (S':=F) λb hb _=>by subst hb;exact f2).trans (u2.mono (S':=F) λ_ hf _=>hf.elim) λ_ h _=>h).trans Z λ_ h _=>h).trans (u4.mono (S':=F) λb hb _=>by subst hb;exact f1) λ_ h _=>h;have G:bN F h h5:=ag.trans B λb hb hlt=>by
   rcases hb with rfl|rfl
   .exact f2
   .rcases E with e|e
    .rw[e];exact f3
    .omega
  have ai:=G.size;have aj:g<h5.size:=pJ (hlt3 (by have :=w _ f3;omega)) (kR u4.size B.size);refine h0 hno aa aa h5 (λb=>F b\/b=g) W ⟨⟨m,g,X,Y,.inl f1,.inl f2,.inr rfl⟩,?_,?_⟩ ?_ ?_ G
  .rintro b (hb|rfl)
   .exact pJ (w b hb) ai
   .exact aj
  .intro p hp;have :=A.mem_iff.1 hp;simp only[cS,eP]at this;rcases this with hp|rfl
   .exact L p hp
   .exact⟨aa,aa⟩
  .exact A.trans (List.perm_append_comm (l₁:=l) (l₂:=[(id,key)]))
  .rintro b (hb|rfl)
   .exact .inl hb
   .rcases E with e|e
    .rw[e];exact .inl f3
    .exact .inr e
def Dn{l:List HE}{i j:Nat}{a:HE}(hi:i<l.length):gt (l.set i a) j=if j=i then a else gt l j:=by
 by_cases e:j=i
 .subst e;simp[gt,hi]
 .by_cases hj:j<l.length
  .simp[gt,hj,e,qx,show ¬i=j from λh=>e h.symm]
  .simp[gt,hj,e]
def HY{l:List HE}{i:Nat}{k:Int}(hi:i<l.length):(l.set i (l[i].1,k)).map (·.1)=l.map (·.1):=by
 apply iW
 .simp
 .intro j h1 h2;simp only[qv,qx];split
  .rename_i e;subst e;rfl
  .rfl
def ajW{l l':List HE}(h:l.map (·.1)=l'.map (·.1))(x:Int):pos l x=pos l' x:=by
 have key:∀l:List HE,pos l x=((l.map (·.1)).findIdx? (· ==x)).map λi=>I i:=by intro l;unfold pos;rw[List.findIdx?_map];rfl
 rw[key,key,h]
def set_perm{l:List HE}{i:Nat}{a:HE}(hi:i<l.length):(l.set i a).Perm (a::l.erase l[i]):=by rw[List.perm_iff_count];intro x;rw[E1 hi,List.count_cons,List.count_erase]
def ajX{h:af}{F:Nat->Prop}{r:Nat}{l:List HE}{n id key:Int}{K:KT}(H:HV h F r l n)
  (h2:(id<0\/n<=id)->K (I 2) h)
  (x:0<=id->id<n->(∀p∈l,p.1≠id)->K (I 20) h)
  (y:∀p∈l,p.1=id->p.2<key->K (I 2) h)
  (h0:∀p∈l,p.1=id->¬p.2<key->∀h' F' l',HV h' F' r l' n->l'.Perm ((id,key)::l.erase p)->Grow h F F'->bN F h h'->K (I 0) h'):
  ah prog 182 [ptr r,I id,I key] h K:=by
 refine aK (afO ?_);unfold QV;obtain⟨⟨m,bl,R,ho,f1,f2,f3⟩,z,g⟩:=H;obtain⟨v,hr,hs⟩:=R.vk;obtain⟨es,c,hm,him⟩:=R.map;have c0:=jC hr;have c1:=zC hr;have c2:=Lq hr;simp only[dM,dW,aO,bD,aU,dh,c0,c1,c2,bE];refine xl hm him ?_;rcases Dg l id with ⟨i,hi,rfl⟩|hno
 .have O:=g _ (cu hi);simp only[Ac R.ids hi,e7,e8,kz];simp only[uP];show aq .lss _ _ _;simp only[bC,dA,bA];refine⟨λhlt=>aa,λ_=>⟨λhge=>aa,λ_=> ?_⟩⟩;show bY .not (.bool true) _;simp only[bP,cz,aO];refine hs.idx hi ?_;have ck:=hs.slot kJ hi (j:=1) aa;have A:hcell h ⟨bl,i*2+1,none⟩=some (I l[i].2):=ck;simp only[aU,dh,A];simp only[bC,bA];refine⟨λhk=>y _ (cu hi) rfl hk,λhk=> ?_⟩;refine hs.idx hi ?_;obtain⟨cap,rest,rfl,hb,B,hcap⟩:=hs.full aa;have hlen:=iN kJ l;simp only[aU];refine pY rfl hb rfl (by simp[hlen];omega) aP ?_;have C:over (Mh.row fC l++rest) (i*2+1) (I key).cells.toList=Mh.row fC (l.set i (l[i].1,key))++rest:=by
   have o:=B9 kJ hi (l[i].1,key) rest;rw[<-o];have P:=F6 kJ hi rest;have hd:(Mh.row fC l++rest).drop (i*2)=I l[i].1::(Mh.row fC l++rest).drop (i*2+1):=by
    have hg:=uO kJ hi (j:=0) aa rest;have hlt':i*2<(Mh.row fC l++rest).length:=by simp[hlen];omega
    rw[iD hlt'];congr 1;rw[sM,dD hlt']at hg;simpa[fC]using hg
   have ht:(Mh.row fC l++rest).take (i*2+1)=(Mh.row fC l++rest).take (i*2)++ [I l[i].1]:=by
    have hlt':i*2<(Mh.row fC l++rest).length:=by simp[hlen];omega
    rw[cW hlt'];congr 2;have hg:=uO kJ hi (j:=0) aa rest;rw[sM,dD hlt']at hg;simpa[fC]using hg
   unfold over;rw[ht];simp[fC]
  rw[C];obtain⟨D,Q,E⟩:=R.De aa;have k:(bG h bl (.cells (Mh.row fC (l.set i (l[i].1,key))++rest).toArray jZ (0,0)))[bl]? =_:=aqL hb;have s:=(mX (o:=.cells (Mh.row fC (l.set i (l[i].1,key))++rest).toArray jZ (0,0)) D.symm).trans hr;have t:=(mX (o:=.cells (Mh.row fC (l.set i (l[i].1,key))++rest).toArray jZ (0,0)) E).trans hm;have u1:bN F h (bG h bl (.cells (Mh.row fC (l.set i (l[i].1,key))++rest).toArray jZ (0,0))):=bN.bG _ _ f3;generalize bG h bl (.cells (Mh.row fC (l.set i (l[i].1,key))++rest).toArray jZ (0,0))=h1 at k s t u1;have d:(l.set i (l[i].1,key)).length=l.length:=kV;have G:eS h1 r m bl (l.set i (l[i].1,key)) n:=eS.of s (.inr ⟨cap,rest,by rw[d],k,by rw[d];exact B,by rw[d];exact hcap⟩) t
   (him.congr (ajW (HY hi).symm)) (by rw[HY hi];exact R.ids) (by rw[d];exact R.small)
  have hnew:¬hlt l[i] (l[i].1,key)=true:=by rw[vg];simp only;omega
  refine V7 G (i:=i) (by rw[d];exact hi) ?_ λh5 J L u M w=> ?_
  .refine⟨λj f j1 j2=> ?_,λi0 j f j1 j2=> ?_⟩
   .rw[d]at j1;rw[Dn hi,Dn hi,aQ j2];have :=ho j f j1;split
    .rename_i e;rw[e,<-nY hi]at this;exact Dj this hnew
    .exact this
   .rw[d]at j1;rw[Dn hi,Dn hi,aQ aa,aQ aa];have a:=ho j f j1;have b:=ho i i0 hi;rw[j2]at a;exact Dj a b
  .refine h0 _ (cu hi) rfl hk h5 F J ⟨⟨m,bl,L,M,f1,f2,f3⟩,?_,?_⟩ ?_ (λb hb=>.inl hb) ?_
   .exact λb hb=>pJ (z b hb) (kR u1.size w.size)
   .intro p hp;have :=u.mem_iff.1 hp;have hm':p.1∈(l.set i (l[i].1,key)).map (·.1):=cP.2 ⟨p,this,rfl⟩;rw[HY hi]at hm';obtain⟨q,hq,N⟩:=cP.1 hm';rw[<-N];exact g q hq
   .exact u.trans (set_perm hi)
   .exact u1.trans w λb hb hlt=>by rcases hb with rfl|rfl;exact f2;exact f3
 .simp only[xI hno,e7,mR,mw,uP];show aq .lss _ _ _;simp only[bC,dA,bA];refine⟨λhlt=>h2 (.inl hlt),λhlt=>⟨λhge=>h2 (.inr hge),λhge=> ?_⟩⟩;show bY .not (.bool false) _;simp only[bP,dL,bF];exact x aa aa hno
def ajY{l:List HE}(hl:0<l.length):gv l 0 (l.length-1) hl aa=(gv l 0 (l.length-1) hl aa).take (l.length-1)++ [l[0]]:=by
 have hlen:=ni (l:=l) hl (show l.length-1<l.length by omega);apply iW
 .simp[hlen];omega
 .intro j h1 h2;rw[hlen]at h1;by_cases hj:j<l.length-1
  .rw[vY (by simp[hlen];omega)];simp
  .have :j=l.length-1:=aa;subst this;rw[Ad,aW rfl,J9 (by simp[hlen])];simp
def ajZ{l2:List HE}{p:HE}(hn:((l2++ [p]).map (·.1)).Nodup)(x:Int):zD (pos (l2++ [p])) p.1 x=pos l2 x:=by
 unfold zD;by_cases hx:x=p.1
 .subst hx;rw[aW rfl];refine(xI λq hq e=> ?_).symm;rw[fq,kq]at hn;exact hn.2.2 q.1 (cP.2 ⟨q,hq,rfl⟩) p.1 aP e
 .rw[aQ hx];unfold pos;rw[List.findIdx?_append];have :[p].findIdx? (λq=>q.1==x)=none:=by
   rw[Bx];intro q hq;simp at hq;subst hq;simpa using λe=>hx e.symm
  rw[this];simp
def aj0{h:af}{F:Nat->Prop}{r:Nat}{l:List HE}{n:Int}{K:KT}(H:HV h F r l n)
  (h0:l=[]->K (.tuple #[I 0,I 0,.bool false]) h)
  (h1:∀p,Min l p->∀h' F' l',HV h' F' r l' n->l'.Perm (l.erase p)->Grow h F F'->bN F h h'->K (.tuple #[I p.1,I p.2,.bool true]) h'):
  ah prog 88 [ptr r] h K:=by
 refine aK (aef ?_);unfold Ow;refine Dm H ?_;obtain⟨⟨m,bl,R,ho,f1,f2,f3⟩,o,U⟩:=H;obtain⟨v,hr,hs⟩:=R.vk;obtain⟨es,c,hm,him⟩:=R.map;have c0:=jC hr;simp only[cF,kD,bD,aU,dh,c0,bE];refine⟨λhe=>h0 (nH aa),λhe=> ?_⟩;have hl:0<l.length:=aa;refine hs.idx (i:=0) (k:=.i64) hl ?_;simp only[Ca,yX];have ca:iL h bl 0 2=some [I l[0].1,I l[0].2]:=by obtain⟨cap,rest,rfl,hb,_,_⟩:=hs.full hl;have hlen:=iN kJ l;rw[tf (i:=0) hb 2 0 (by simp[hlen];omega)];have :=F6 kJ hl rest;rw[yX]at this;rw[this];rfl
 simp only[ca];refine hs.aqS ?_;have e1:IntKind.i64.wrap ((l.length:Int)-1)=((l.length-1:Nat):Int):=by have :=R.small;rw[bK aa aa];omega
 rw[fc,e1];refine xh ?_;refine pY rfl gP rfl aP (by simp[Mh.plainCell]) ?_;have x1:Ext h (bG (h.push (.cells (Value.agg #[.int .i64 0,.int .i64 0]).cells 283 (0,0))) h.size (.cells (over [Value.int .i64 0,Value.int .i64 0] 0 (Value.agg [I l[0].1,I l[0].2].toArray).cells.toList).toArray 283 (0,0))):=((bN.push _ _ _).trans (bN.bG (S:=λb=>b=h.size) _ _ rfl) (λb hb hlt=>aa))
 have s:(bG (h.push (.cells (Value.agg #[.int .i64 0,.int .i64 0]).cells 283 (0,0))) h.size (.cells (over [Value.int .i64 0,Value.int .i64 0] 0 (Value.agg [I l[0].1,I l[0].2].toArray).cells.toList).toArray 283 (0,0)))[h.size]? =
  some (.cells #[I l[0].1,I l[0].2] 283 (0,0)):=aqL gP
 have V:=eY s;generalize (bG (h.push (.cells (Value.agg #[.int .i64 0,.int .i64 0]).cells 283 (0,0))) h.size (.cells (over [Value.int .i64 0,Value.int .i64 0] 0 (Value.agg [I l[0].1,I l[0].2].toArray).cells.toList).toArray 283 (0,0)))=hA at x1 s V;have W:=R.bG x1 id id id;have X:=x1.get hr;have Y:=jC X;simp only[Y,rB];have aE:=o _ f1;have aF:=o _ f2;have aG:=o _ f3;refine HX W (i:=0) (k:=l.length-1) hl aa λh2 f u2=> ?_;obtain⟨S,f,hlen,hS,B,Z,hgt⟩:∃S:List HE,eS h2 r m bl S n/\S.length=l.length/\S=S.take (l.length-1)++ [l[0]]/\(S.map (·.1)).Nodup/\S.Perm l/\
   (∀j,gt S j=if j=l.length-1 then gt l 0 else if j=0 then gt l (l.length-1)else gt l j):=
  ⟨_,f,ni _ _,ajY hl,f.ids,Ae _ _,rZ _ _⟩
 obtain⟨v2,t,hs2⟩:=f.vk;obtain⟨aH,c2,hm2,ag⟩:=f.map;have d0:=jC t;have ai:=u2.get s aa;simp only[d0];refine hs2.pre kJ (by rw[hlen];omega) λv3 C=> ?_;have q:v3.cells.size=1/\(∀u∈v3.cells.toList,Mh.plainCell u=true)/\v3.cells.toList=[v3]:=by rcases C.len with ⟨_,_,rfl⟩;simp
 refine pY rfl t q.1 (by rw[q.1];simp) q.2.1 ?_;have aj:over [v2,Value.map (some m),I n] 0 v3.cells.toList=[v3,Value.map (some m),I n]:=by rw[q.2.2];rfl
 rw[aj];have u3:bN (λb=>b=r) h2 (bG h2 r (.cells [v3,Value.map (some m),I n].toArray nX (0,0))):=bN.bG _ _ rfl;have w:(bG h2 r (.cells [v3,Value.map (some m),I n].toArray nX (0,0)))[r]? =_:=aqL t;obtain⟨ak,D,an⟩:=f.De aa;have y:=u3.get hm2 (λe=>D e.symm);have E:=C.bG u3 (λe=>ak e.symm);have z:=u3.get ai aa;generalize bG h2 r (.cells [v3,Value.map (some m),I n].toArray nX (0,0))=h3 at u3 w y E z;have g1:=zC w;have g2:=jC z;simp only[g1,g2,aU,dh,sM,bE];refine acd y ag λA aq=> ?_;have u4:bN (λb=>b=m) h3 (bG h3 m (.map A c2)):=bN.bG _ _ rfl;have G:=u4.get w D;have J:(bG h3 m (.map A c2))[m]? =_:=aqL y;have hs4:=E.bG u4 an;have L:=u4.get z aa;generalize bG h3 m (.map A c2)=h4 at u4 G J hs4 L;have g:(S.take (l.length-1)).length=l.length-1:=by simp[hlen]
 have M:S.Perm (l[0]::S.take (l.length-1)):=by
  rw[hS];have :((S.take (l.length-1))++ [l[0]]).take (l.length-1)=S.take (l.length-1):=by rw[qt (by rw[g];exact cq _),yZ,BA]
  rw[this];exact List.perm_append_comm
 have au:eS h4 r m bl (S.take (l.length-1)) n:=by
  refine eS.of G hs4 J (aq.congr λx=> ?_) ?_ (by rw[g];have :=R.small;omega)
  .have :=ajZ (l2:=S.take (l.length-1)) (p:=l[0]) (by rw[<-hS];exact B) x;rw[<-hS]at this;exact this
  .have :=(M.map (·.1)).nodup_iff.1 B;rw[dI,gC]at this;exact this.2
 have N:∀j,j<l.length-1->gt (S.take (l.length-1)) j=gt S j:=by intro j hj;rw[<-nY (by rw[g];exact hj),<-nY (by rw[hlen];omega)];simp
 have av:bl<h4.size:=by have a:=x1.size;have b:=u2.size;have c:=u3.size;have d:=u4.size;omega
 have ax:bN F h h4:=(((x1.mono (S':=F) λ_ hf _=>hf.elim).trans u2 λb hb _=>by rcases hb with rfl|rfl;exact f2;exact f3).trans u3 λb hb _=>by subst hb;exact f1).trans u4 λb hb _=>by subst hb;exact f2
 refine ajO au (i:=0) az (by rcases Nat.eq_zero_or_pos (l.length-1)with e|e;exact .inr (nH (by rw[g];exact e));exact .inl (by rw[g];exact e)) av ?_ λh5 O ay aA aB P=> ?_
 .refine⟨λj aC j1 j2=> ?_,λi0=>absurd i0 (Br 0)⟩;rw[g]at j1;have aD:(j-1)/4<l.length-1:=aa;rw[N j j1,N _ aD,hgt,hgt,aQ aa,aQ aa,aQ aa,aQ aa];exact ho j aC aa
 .have Q:=P.get L aa;have k0:=jC Q;have k1:=zC Q;simp only[k0,k1,aU,dh,sM,bE];have T:bN F h h5:=ax.trans P λb hb _=>by rcases hb with rfl|rfl;exact f2;exact f3
  have hpe:O.Perm (l.erase l[0]):=by have :=(Z.symm.trans M).erase l[0];simp only[List.erase_cons_head]at this;exact aA.trans this.symm
  refine h1 l[0] (ho.min hl) h5 F O ⟨⟨m,bl,ay,aB,f1,f2,f3⟩,λb hb=>pJ (o b hb) T.size,λp hp=>U p (kW (hpe.mem_iff.1 hp))⟩ hpe (λb hb=>.inl hb) T
instance (l:List HE) (p:HE):Decidable (Min l p):=by unfold Min;exact inferInstance
def PV(h:af)(F:Nat->Prop)(r:Nat)(L:List HE)(n:Int):Prop:=∃l,HV h F r l n/\l.Perm L
section
variable{h h':af}{F G S:Nat->Prop}{r:Nat}{L:List HE}{n id key:Int}{K:KT}{p:HE}
def PV.low(H:PV h F r L n):∀b,F b->b<h.size:=by obtain⟨l,H,hp⟩:=H;exact H.low
def PV.xJ(H:PV h F r L n):∀p∈L,0<=p.1/\p.1<n:=by obtain⟨l,H,hp⟩:=H;exact λp h=>H.xJ p (hp.mem_iff.2 h)
def PV.nodup(H:PV h F r L n):(L.map (·.1)).Nodup:=by obtain⟨l,H,hp⟩:=H;exact(hp.map _).nodup_iff.1 H.nodup
def Min.perm{l l':List HE}(hp:l.Perm l')(h:Min l p):Min l' p:=⟨hp.mem_iff.1 h.1,λq hq=>h.2 q (hp.mem_iff.2 hq)⟩
def aj1(H:PV h F r L n)(hK:K (I L.length) h):ah prog 176 [ptr r] h K:=by obtain⟨l,H,hp⟩:=H;exact Dm H (by rw[hp.length_eq];exact hK)
def V9(H:PV h F r L n)(h0:L=[]->K (.tuple #[I 0,.bool false]) h)(h1:∀p,Min L p->K (.tuple #[I p.2,.bool true]) h):ah prog 309 [ptr r] h K:=by obtain⟨l,H,hp⟩:=H;exact ajR H (λe=>h0 (by subst e;exact hp.nil_eq.symm)) λp hm=>h1 p (hm.perm hp)
def aj2(H:PV h F r L n)(h0:(∀p∈L,p.1≠id)->K (.tuple #[I 0,.bool false]) h)(h1:∀p∈L,p.1=id->K (.tuple #[I p.2,.bool true]) h):ah prog 181 [ptr r,I id] h K:=by obtain⟨l,H,hp⟩:=H;exact ajS H (λe=>h0 λp hm=>e p (hp.mem_iff.2 hm)) λp hm=>h1 p (hp.mem_iff.1 hm)
def aj3(hK:∀h' F r,PV h' F r [] (max n 0)->(∀b,F b->h.size<=b)->Ext h h'->K (ptr r) h'):ah prog 84 [I n] h K:=ajT λh' F r H a b=>hK h' F r ⟨[],H,.refl _⟩ a b
def aj4(H:PV h F r L n)(c:L.length+1<2^40)
  (h2:((∃p∈L,p.1=id)\/id<0\/n<=id)->K (I 2) h)
  (h0:(∀p∈L,p.1≠id)->0<=id->id<n->∀h' F',PV h' F' r ((id,key)::L) n->Grow h F F'->bN F h h'->K (I 0) h'):
  ah prog 87 [ptr r,I id,I key] h K:=by
 obtain⟨l,H,hp⟩:=H;refine ajV H (by rw[hp.length_eq];exact c) (λe=>h2 ?_) λhno a b h' F' l' H' hp' hg hu=>h0 (λp hm=>hno p (hp.mem_iff.2 hm)) a b h' F' ⟨l',H',hp'.trans (hp.cons _)⟩ hg hu;rcases e with ⟨p,hm,e⟩|e
 .exact .inl ⟨p,hp.mem_iff.1 hm,e⟩
 .exact .inr e
def aj5(H:PV h F r L n)(a:L.length+1<2^40)(hno:∀p∈L,p.1≠id)(h1:0<=id)(h2:id<n)
  (h0:∀h' F',PV h' F' r ((id,key)::L) n->Grow h F F'->bN F h h'->K (I 0) h'):ah prog 87 [ptr r,I id,I key] h K:=
 aj4 H a (λe=>by
  rcases e with ⟨p,hm,e⟩|e
  .exact(hno p hm e).elim
  .omega) λ_ _ _=>h0
def aj6(H:PV h F r L n)
  (h2:(id<0\/n<=id)->K (I 2) h) (c:0<=id->id<n->(∀p∈L,p.1≠id)->K (I 20) h) (d:∀p∈L,p.1=id->p.2<key->K (I 2) h)
  (h0:∀p∈L,p.1=id->¬p.2<key->∀h' F',PV h' F' r ((id,key)::L.erase p) n->Grow h F F'->bN F h h'->K (I 0) h'):
  ah prog 182 [ptr r,I id,I key] h K:=by
 obtain⟨l,H,hp⟩:=H;exact ajX H h2 (λa b e=>c a b λp hm=>e p (hp.mem_iff.2 hm)) (λp hm=>d p (hp.mem_iff.1 hm)) λp hm e hk h' F' l' H' hp' hg hu=>h0 p (hp.mem_iff.1 hm) e hk h' F' ⟨l',H',hp'.trans ((hp.erase p).cons _)⟩ hg hu
def HZ(hn:(L.map (·.1)).Nodup){q:HE}(hp:p∈L)(hq:q∈L)(he:p.1=q.1):p=q:=by obtain⟨i,hi,rfl⟩:=qw.1 hp;obtain⟨j,hj,rfl⟩:=qw.1 hq;have :=Dh hn hi hj he;subst this;rfl
def aj7(H:PV h F r L n)(hp:p∈L)(he:p.1=id)(hk:¬p.2<key)
  (h0:∀h' F',PV h' F' r ((id,key)::L.erase p) n->Grow h F F'->bN F h h'->K (I 0) h'):ah prog 182 [ptr r,I id,I key] h K:=by
 have hr:=H.xJ p hp;refine aj6 H (λe=>aa) (λ_ _ e=>(e p hp he).elim) (λq hq e hk'=> ?_) λq hq e hk'=> ?_
 .have :=HZ H.nodup hp hq (he.trans e.symm);subst this;exact(hk hk').elim
 .have :=HZ H.nodup hp hq (he.trans e.symm);subst this;exact h0
def Wa(H:PV h F r L n)(h0:L=[]->K (.tuple #[I 0,I 0,.bool false]) h)
  (h1:∀p,Min L p->∀h' F',PV h' F' r (L.erase p) n->Grow h F F'->bN F h h'->K (.tuple #[I p.1,I p.2,.bool true]) h'):ah prog 88 [ptr r] h K:=by
 obtain⟨l,H,hp⟩:=H;exact aj0 H (λe=>h0 (by subst e;exact hp.nil_eq.symm)) λp hm h' F' l' H' hp' hg hu=>h1 p (hm.perm hp) h' F' ⟨l',H',hp'.trans (hp.erase p)⟩ hg hu
def aj8(H:PV h F r L n)(hm:Min L p)(h1:∀h' F',PV h' F' r (L.erase p) n->Grow h F F'->bN F h h'->K (.tuple #[I p.1,I p.2,.bool true]) h'):ah prog 88 [ptr r] h K:=
 Wa H (λe=>by subst e;simp[Min]at hm) λq hq=>by have :=hq.uniq hm (.refl _);subst this;exact h1
end
def eS.st{h h':af}{r m bl:Nat}{l:List HE}{n:Int}(H:eS h r m bl l n)(h1:h'[r]? =h[r]?)(h2:h'[m]? =h[m]?)(h3:h'[bl]? =h[bl]?):eS h' r m bl l n:=by
 obtain⟨⟨sl,cap,rest,hr,hs⟩,⟨es,c,hm,hi⟩,hn,e⟩:=H;refine⟨⟨sl,cap,rest,h1.trans hr,?_⟩,⟨es,c,h2.trans hm,hi⟩,hn,e⟩;rcases hs with hs|⟨a,b,c,d⟩
 .exact .inl hs
 .exact .inr ⟨a,h3.trans b,c,d⟩
def gR(F:Nat->Prop)(r:Nat)(H:List HE)(n:Nat):aS:=⟨F,λh=>∃l,(∃m bl,eS h r m bl l n/\tF l/\F r/\F m/\F bl)/\(∀p∈l,0<=p.1/\p.1<n)/\l.Perm H,λhs⟨l,⟨m,bl,R,ho,f1,f2,f3⟩,hr,hp⟩=>⟨l,⟨m,bl,R.st (hs _ f1) (hs _ f2) (hs _ f3),ho,f1,f2,f3⟩,hr,hp⟩⟩
def PV.toR{h:af}{F:Nat->Prop}{r:Nat}{H:List HE}{n:Nat}(P:PV h F r H n):(gR F r H n).Q h:=by obtain⟨l,⟨a,b,c⟩,d⟩:=P;exact⟨l,a,c,d⟩
section
variable{h0 h:af}{L:List aS}{F:Nat->Prop}{r n:Nat}{H:List HE}{id key:Int}{K:KT}
def vt(o:Own h0 h L)(i:Nat)(hi:L[i]? =some (gR F r H n)):PV h F r H n:=by obtain⟨l,a,c,d⟩:=o.get i hi;exact⟨l,⟨a,λb hb=>((o.q hi).2 b hb).2,c⟩,d⟩
def aj9{p:HE}:Min H p↔p∈H/\∀q∈H,¬hl q p=true:=by
 unfold Min;have :∀q:HE,hlt q p=hl q p:=λq=>by
  have h1:=@vg q p;have h2:=@oO q p;by_cases hx:hl q p=true
  .rw[hx];exact h1.2 (h2.1 hx)
  .simp at hx;rw[hx];by_cases hy:hlt q p=true
   .rw[h2.2 (h1.1 hy)]at hx;cases hx
   .simpa using hy
 simp only[this]
def Wb{p:HE}(h:least H=some p):Min H p:=aj9.2 (jF h)
def Dp(o:Own h0 h L)(hK:∀F r h',Own h0 h' (gR F r [] n::L)->K (ptr r) h'):ah prog 84 [I n] h K:=by refine aj3 λh' F r P hF x=>hK F r h' (o.cons x ?_ λb hb=>⟨hF b hb,P.low b hb⟩);rw[show max (n:Int) 0=n by omega]at P;exact P.toR
def H8{h':af}{F':Nat->Prop}{H':List HE}(o:Own h0 h L)(i:Nat)(hi:L[i]? =some (gR F r H n))(P:PV h' F' r H' n)(g:Grow h F F')(u:bN F h h'):Own h0 h' (L.set i (gR F' r H' n)):=o.set i hi u P.toR λb hb=>⟨g b hb,P.low b hb⟩
def Af(o:Own h0 h L)(i:Nat)(hi:L[i]? =some (gR F r H n))(a:H.length+1<2^40){v:Nat}(hno:∀p∈H,p.1≠v)(hv:v<n)
  (hK:∀F' h',Own h0 h' (L.set i (gR F' r (((v:Int),key)::H) n))->K (I 0) h'):ah prog 87 [ptr r,I v,I key] h K:=
 aj5 (vt o i hi) a hno aa aa λh' F' P g u=>hK F' h' (H8 o i hi P g u)
def Dq(o:Own h0 h L)(i:Nat)(hi:L[i]? =some (gR F r H n)){v:Nat}{was:Int}(hm:((v:Int),was)∈H)(hk:¬was<key)
  (hK:∀F' h',Own h0 h' (L.set i (gR F' r (((v:Int),key)::H.erase ((v:Int),was)) n))->K (I 0) h'):ah prog 182 [ptr r,I v,I key] h K:=
 aj7 (vt o i hi) hm rfl hk λh' F' P g u=>hK F' h' (H8 o i hi P g u)
def Wc(o:Own h0 h L)(i:Nat)(hi:L[i]? =some (gR F r H n)){v:Nat}
  (hK:K (.tuple #[I ((nU H v).getD 0),.bool (nU H v).isSome]) h):ah prog 181 [ptr r,I v] h K:=by
 have P:=vt o i hi;refine aj2 P (λhno=> ?_) λp hp e=> ?_
 .have :nU H v=none:=tu.2 hno;rw[this]at hK;exact hK
 .cases hl:nU H v with
  |none=>exact absurd e (tu.1 hl p hp)
  |some k=>have hm:=tw hl;have :=HZ P.nodup hp hm e;subst this;rw[hl]at hK;exact hK
def H9(o:Own h0 h L)(i:Nat)(hi:L[i]? =some (gR F r H n))(hz:least H=none->K (.tuple #[I 0,.bool false]) h)(hK:∀p,least H=some p->K (.tuple #[I p.2,.bool true]) h):
  ah prog 309 [ptr r] h K:=by
 cases hl:least H with
 |none=>have e:=uW.1 hl;subst e;exact V9 (vt o i hi) (λ_=>hz hl) λp hm=>by simp[Min]at hm
 |some p=>refine V9 (vt o i hi) (λe=>by rw[e]at hl;cases hl) λq hm=> ?_;have :=Min.uniq (Wb hl) hm (.refl _);subst this;exact hK _ hl
def Ag(o:Own h0 h L)(i:Nat)(hi:L[i]? =some (gR F r H n))(hz:least H=none->∀h',Own h0 h' L->K (.tuple #[I 0,I 0,.bool false]) h')
  (hK:∀p,least H=some p->∀F' h',Own h0 h' (L.set i (gR F' r (H.erase p) n))->K (.tuple #[I p.1,I p.2,.bool true]) h'):ah prog 88 [ptr r] h K:=by
 cases hl:least H with
 |none=>have e:=uW.1 hl;subst e;exact Wa (vt o i hi) (λ_=>hz hl h o) λp hm=>by simp[Min]at hm
 |some p=>exact aj8 (vt o i hi) (Wb hl) λh' F' P g u=>hK p hl F' h' (H8 o i hi P g u)
end
section
variable{h0 h:af}{L:List aS}{K:KT}{g:G}{r:Nat}
def aka:kI (.func (.func 28) #[] #[]) A.t:=by intro a h K hK;refine cg (l:=[.agg (fI a).toArray]) rfl (adm ?_);unfold M6;refine(Own.start h).box λb h1 o1=> ?_;simp only[aU];exact o1.load 0 rfl rfl (hK _ o1.ext)
def akb:kI (.func (.func 126) #[] #[]) A.f:=by intro a h K hK;refine cg (l:=[.agg (fI a).toArray]) rfl (aeM ?_);unfold Pj;refine(Own.start h).box λb h1 o1=> ?_;simp only[aU];exact o1.load 0 rfl rfl (hK _ o1.ext)
def akc{l4 n3 a:Nat}{vl gF:Value}{ids:List Nat}{head:A->Nat}{T1 T2 T3:TypeId}(m:∀i∈ids,i<g.aj.length)(q:ids.length<2^40)(hE:kI gF head):
  Iter prog (.func (.func 179) #[] #[ptr l4,ptr n3,ptr a])
   (λh=>h[l4]? =some (.cells #[vl] T1 (0,0))/\h[n3]? =some (.cells #[ptr r] T2 (0,0))/\h[a]? =some (.cells #[gF] T3 (0,0))/\Vw bg 1 h vl ids/\bX h r g) ids.length
   (λi hi=>[I ids[i],vA ⟨0,head (aH g.aj ids[i]),(aH g.aj ids[i]).w⟩]):=by
 rintro yv h0 h Rs K J E ⟨l,rfl⟩ o f hQ hY hK;refine jE (l:=[dS l,ptr l4,ptr n3,ptr a]) rfl (afL ?_);unfold QO;obtain⟨hb,_,_,hv,_⟩:=hQ _ _ _ f o;have hc:hcell h ⟨l4,0,none⟩=some vl:=bz hb rfl;simp only[dh,hc];refine hv.len ?_;refine bV ids.length (λi x h'=>x.1=I i/\∃c,J i c/\Own h0 h' c) ⟨rfl,Rs,f,o⟩ ?_;rintro i ⟨x,⟨⟩⟩ h Z hi ⟨hx,c,hj,o⟩ hZ;dsimp only at hx hZ |-;subst hx;unfold QN;simp only[bC,bA];refine⟨λhlt=> ?_,λhge=> ?_⟩
 .have hlt:i<ids.length:=aa;obtain⟨_,hn,he,hv,hN⟩:=hQ _ _ _ hj o;refine hv.dU (e:=λx:Nat=>I x) (λ_=>rfl) hlt ?_;have hc:hcell h ⟨n3,0,none⟩=some (ptr r):=bz hn rfl;simp only[dh,hc];have hil:=m _ (cu hlt);refine qP hN hil λh1 x1=> ?_;have ea:aH g.aj ids[i]=g.aj[ids[i]]:=by simp[aH,hil]
  have o1:=o.more x1;simp only[cC,cB];refine o1.box λb h2 o2=>o2.st 0 rfl rfl rfl rfl rfl (gQ _) λh3 d=> ?_;obtain⟨_,_,n,_,_⟩:=hQ _ _ _ hj d.tail;have hc:hcell h3 ⟨a,0,none⟩=some gF:=bz n rfl;simp only[dh,hc,aU];refine d.bZ 0 rfl rfl rfl ?_;have hl:=λ{K}(hk:K (I (g.aj[ids[i]]).w))=>d.load (off:=2) (K:=K) 0 rfl rfl hk;simp only[dh]at hl;refine hl (hE _ _ _ λh4 p=> ?_);have j:=d.more p;refine⟨j.load 0 rfl rfl rfl,bW rfl,?_⟩;rw[<-ea];refine hY i _ (i+1) c [] h4 _ ⟨⟨hlt,rfl⟩,rfl⟩ hj j.tail.oK (λk h'' hj' o'=> ?_) λk h'' he o'=> ?_
  .rw[bP,cz,aO,bw,wI i aa];exact hZ (I (i+1:Nat),()) h'' hlt ⟨rfl,k,hj',o'.gi⟩
  .rw[bP,dL,bF];exact hK _ _ (.inr he) o'.gi
 .have :i=ids.length:=aa;exact hK _ _ (.inl ⟨i,this,hj⟩) o
def lz(order:List Nat):Int->Option Value:=λk=>if order.any (λv=>(v:Int)==k)then some (I 1)else none
def Dr{order:List Nat}{v:Nat}(h:v∈order):lz order v=some (I 1):=by have :order.any (λu=>(u:Int)==(v:Int))=true:=yW.2 ⟨v,h,aP⟩;simp[lz,this]
def xK{order:List Nat}{v:Nat}(h:v∉order):lz order v=none:=by
 have :order.any (λu=>(u:Int)==(v:Int))=false:=by simp only[List.any_eq_false,qp];intro u hu e;have :u=v:=aa;exact h (this▸hu)
 simp[lz,this]
def Ia{order:List Nat}{v:Nat}(x:Int):lz (order++ [v]) x=cM (lz order) v (I 1) x:=by
 unfold cM;by_cases h:x=v
 .subst h;rw[aW rfl,Dr aP]
 .rw[aQ h];have :((v:Int)==x)=false:=by simpa using λe=>h e.symm
  simp[lz,this]
def Wd{α:Type}{l:List α}{i j:Nat}{a b:α}(hi:l[i]? =some a)(hj:l[j]? =some b):(l.set i a).set j b=l:=by
 have e1:l.set i a=l:=by
  apply nK;intro k;by_cases e:i=k
  .subst e;rw[jo (fu.1 hi).1,hi]
  .rw[gD e]
 rw[e1];apply nK;intro k;by_cases e:j=k
 .subst e;rw[jo (fu.1 hj).1,hj]
 .rw[gD e]
def akd{rr hp n m:Nat}{F:Nat->Prop}{sd sa so:Value}{s:FS}{B:Int}{v a:Nat}{d:Int}(o:Own h0 h L)(i1 i2 i3 i4:Nat)
  (h1:L[i1]? =some (ak rr [ptr hp,sd,sa,so,.map (some m)] 172)) (h2:L[i2]? =some (gR F hp s.hp n)) (h3:L[i3]? =some (aC aJ 1 3 sa s.bS)) (h4:L[i4]? =some (eD m (lz s.order)))
  (n12:i2≠i1) (n23:i2≠i3) (n24:i2≠i4) (inv:fB n B s) (hn:n<=16777216) (hv:v<n)
  (hK:∀F' h',Own h0 h' ((L.set i2 (gR F' hp (s.reach v a d).hp n)).set i3 (aC aJ 1 3 sa (s.reach v a d).bS))->K (.tuple #[]) h'):
  ah prog 90 [ptr rr,I v,I a,I d] h K:=by
 refine aK (aeh ?_);unfold Oy;simp only[bD,aU];refine o.load i1 h1 rfl (Wc o i2 h2 ?_);simp only[cC,cB];refine o.load i1 h1 rfl ?_;refine o.look i4 h4 ?_;simp only[gm,dN];have hlen:s.hp.length<=n:=by
  have :(s.hp.map (·.1.toNat)).length<=n:=kH (by
   have :s.hp.map (·.1.toNat)=(s.hp.map (·.1)).map Int.toNat:=aP;rw[this,kX,pM];refine(kX.1 inv.ids).imp_of_mem λ{x y} hx hy hne e=>hne ?_;obtain⟨p,hp,rfl⟩:=cP.1 hx;obtain⟨q,hq,rfl⟩:=cP.1 hy;obtain⟨u,e1,_⟩:=inv.cK p hp;obtain⟨w,e2,_⟩:=inv.cK q hq;rw[e1,e2]at e |-;have e':u=w:=by simpa using e
   rw[e']) (λx hx=>by
   obtain⟨p,hp,rfl⟩:=cP.1 hx;obtain⟨u,e1,e2,_⟩:=inv.cK p hp;rw[e1];simpa using e2)
  simpa using this
 by_cases hc:v∈s.order
 .rw[Dr hc];simp only[e8];have :s.reach v a d=s:=by simp[FS.reach,hc]
  rw[this,]at hK;have hk:=λh=>hK F h;rw[Wd h2 h3]at hk;simpa using hk h o
 .rw[xK hc];simp only[mR,akS,bA];refine⟨λe=>aa,λ_=> ?_⟩;cases hl:nU s.hp v with
  | some was=>
   simp only[kz,bF,e8,lS,bA];refine⟨λhle=> ?_,λhgt=> ?_⟩
   .have :s.reach v a d=s:=by simp[FS.reach,hc,hl,hle]
    rw[this]at hK;have hk:=λh=>hK F h;rw[Wd h2 h3]at hk;exact hk h o
   .unfold CJ CI;simp only[bF,bD,aU];refine o.load i1 h1 rfl (Dq o i2 h2 (tw hl) aa λF' h5 b=> ?_);refine b.load i1 (by rw[gD n12];exact h1) rfl ?_;refine b.jD (z:=a) i3 (by rw[gD n23];exact h3) (by rw[inv.al];exact hv) λh6 c=> ?_;have :s.reach v a d={s with hp:=((v:Int),d)::s.hp.erase ((v:Int),was),bS:=s.bS.set v a}:=by simp[FS.reach,hc,hl,hgt]
    rw[this]at hK;exact hK F' h6 c
  |none=>
   simp only[mw,aO];unfold CJ CI;simp only[aO,bD,aU];refine o.load i1 h1 rfl (Af o i2 h2 aa (tu.1 hl) hv λF' h5 b=> ?_);refine b.load i1 (by rw[gD n12];exact h1) rfl ?_;refine b.jD (z:=a) i3 (by rw[gD n23];exact h3) (by rw[inv.al];exact hv) λh6 c=> ?_;have :s.reach v a d={s with hp:=((v:Int),d)::s.hp,bS:=s.bS.set v a}:=by simp[FS.reach,hc,hl]
   rw[this]at hK;exact hK F' h6 c
end
def ake{l:List A}{head:A->Nat}{key:Int}{s:FS}{ids:List Nat}{i:Nat}(hi:i<ids.length):
    s.scan l head key (ids.take (i+1))=(s.scan l head key (ids.take i)).reach (head (aH l ids[i])) ids[i] (key+(aH l ids[i]).w):=by
  unfold FS.scan;rw[cW hi,jP];rfl
section
variable{h0 h:af}{L:List aS}{K:KT}{g:G}{r:Nat}{outs:Nat->List Nat}{head:A->Nat}{tG gF:Value}
def vu(tG:Value)(g:G)(r:Nat)(outs:Nat->List Nat):Prop:=∀(h0 h:af)(L:List aS)(K:KT)(v:Nat),v<g.n->bX h r g->Own h0 h L->(∀v' h',Own h0 h' (aC bg 1 3 v' (outs v)::L)->K v' h')->aX prog tG [I v].toArray h K
def We(hR:g.Right):vu (.func (.func 27) #[ptr r] #[]) g r g.out:=by intro h0 h L K v hv H o hK;refine cg (l:=[ptr r,I v]) rfl ?_;have :=VY (z:=v) o hR H (K:=K) (by rw[aW aa];exact hK);simpa[ah,aX]using this
def Wf(hR:g.Right):vu (.func (.func 125) #[ptr r] #[]) g r g.in:=by intro h0 h L K v hv H o hK;refine cg (l:=[ptr r,I v]) rfl ?_;have :=VZ (z:=v) o hR H (K:=K) (by rw[aW aa];exact hK);simpa[ah,aX]using this
abbrev Ah(a rr m hp t8 n:Nat)(sd sa:Value)(kb:Nat)(key:Int)(F:Nat->Prop)(H:List HE)(so:Value)(st:FS)(b:List Nat):List aS:=
  [ak kb [I key] 2,ak a [ptr rr] 165,ak rr [ptr hp,sd,sa,so,.map (some m)] 172,gR F hp H n,aC aJ 1 3 sa st.bS,eD m (lz st.order),xR sd st.aM,aC bg 1 3 so st.order,
    ak t8 [aT,aT,aT] 45,kF b]
def akf {d rr m hp t8:Nat} {sd sa:Value} {fin:FS} {h':af} {x:List Nat×bt [10,11,12]} (hR:g.Right) (H:bX h r g) (hN:vu tG g r outs) (hE:kI gF head) (ax:gF.cells= #[gF]) (X:∀a∈g.aj,head a<g.n)
    (hout:∀v,v<g.n->∀i∈outs v,i<g.aj.length) (ay:∀v,(outs v).length<=g.aj.length)
    (hK:∀so h',Own h h' [xR sd fin.aM,aC aJ 1 3 sa fin.bS,aC bg 1 3 so fin.order]->K (.agg #[sd,sa,so]) h')
    (J:∃(st:FS)(kb:Nat)(key:Int)(so:Value)(F:Nat->Prop)(H:List HE),x.2.2.1=ptr kb/\FS.run g.aj outs head (g.n+1-st.order.length) st=fin/\fB g.n (st.order.length*W) st/\
      ((least st.hp=none/\x.2.2.2.1=.bool false)\/∃p,least st.hp=some p/\x.2.1=I p.1/\key=p.2/\x.2.2.2.1=.bool true/\H=st.hp.erase p)/\Own h h' (Ah d rr m hp t8 g.n sd sa kb key F H so st x.1)):
    bI (σ:=List Nat×bt [10,11,12]) (λx hh aA=>Gw prog (ptr d) tG (ptr r) gF (ptr t8) K x.1 x.2.1 x.2.2.1 x.2.2.2.1 hh (λaB a0 a1 a2 hz=>aA (aB,(a0,(a1,(a2,())))) hz)) x h':=by
  have aD:=hR.most;have aQ:=hR.many;obtain⟨Q,J⟩:=J;refine tj (k0:=g.n+1-Q.order.length) (λk x h'=>∃(st:FS)(kb:Nat)(key:Int)(so:Value)(F:Nat->Prop)(H:List HE),k=g.n+1-st.order.length/\x.2.2.1=ptr kb/\FS.run g.aj outs head (g.n+1-st.order.length) st=fin/\fB g.n (st.order.length*W) st/\
      ((least st.hp=none/\x.2.2.2.1=.bool false)\/∃p,least st.hp=some p/\x.2.1=I p.1/\key=p.2/\x.2.2.2.1=.bool true/\H=st.hp.erase p)/\Own h h' (Ah d rr m hp t8 g.n sd sa kb key F H so st x.1))
    (by obtain⟨kb,key,so,F,H,J⟩:=J;exact⟨Q,kb,key,so,F,H,rfl,J⟩) ?_
  clear J Q h' x;rintro k ⟨y,v,kv,is,⟨⟩⟩ h' Z ⟨st,kb,key,so,F,aR,hk,hkb,hrun,inv,Y,o⟩ hZ;dsimp only at hkb Y o hZ |-;subst hkb;unfold Gw;simp only[bD,aU];rcases Y with ⟨hl,rfl⟩|⟨p,hl,rfl,rfl,rfl,rfl⟩
  · rw[aO];have hf:st=fin:=by
      rw[<-hrun];cases g.n+1-st.order.length with
      |zero=>rfl
      |succ k=>simp only[FS.run,hl]
    subst hf;refine o.load 1 rfl rfl ?_;simp only[bD,aU];refine o.bZ 2 rfl rfl rfl ?_;refine o.st 8 rfl rfl rfl rfl rfl ?_ λh2 o2=> ?_
    · intro u hu;simp at hu;rcases hu with rfl|rfl|rfl
      · exact(o.vw 6 rfl).plain
      · exact(o.vw 4 rfl).plain
      · exact(o.vw 7 rfl).plain
    · refine o2.take 9 rfl fun h3 c=> ?_;exact c.bZ 8 rfl rfl rfl (hK so h3 (c.bh [6,4,7] az))
  · rw [bF];have hm:=(jF hl).1;obtain⟨u,hu,hun,hno,ag,aE⟩:=inv.cK p hm;obtain⟨pv,key⟩:=p;dsimp only at hu ag aE o |-;subst hu;have hroom:=inv.room (by intro e;rw[e]at hm;cases hm);have hB:(st.order.length:Int)*W+W<=16777216*W:=by
      have :(st.order.length:Int)+1<=16777216:=aa;have :=nL this (show(0:Int)<=W by decide);rw[pL,wj]at this;exact this
    refine o.load 1 rfl rfl ?_;simp only[bD,aU];refine o.load 2 rfl rfl ?_;refine o.look 5 rfl ?_;rw[xK hno];simp only[gm,dN,mR,bw];rw[show IntKind.i64.wrap (0+1)=1 from rfl];refine o.mZ (f':=lz (st.order++ [u])) 5 rfl Ia λh1 o1=> ?_;refine o1.load 1 rfl rfl ?_;simp only[bD,aU];refine o1.load 2 rfl rfl (o1.load 0 rfl rfl ?_);refine o1.jD 6 rfl (by rw[inv.dl];exact hun) λh2 o2=> ?_;refine o2.load 1 rfl rfl (o2.load 1 rfl rfl ?_);simp only[bD,aU];refine o2.load 2 rfl rfl ?_;refine o2.fH 7 u rfl rfl (bW rfl) uV qM rfl az aa λz h3 c=>⟨c.load 1 rfl rfl rfl,?_⟩;refine c.bu 2 rfl rfl rfl (c.vw 7 rfl).one (c.vw 7 rfl).plain λh4 ah=> ?_;refine hN _ _ _ _ u hun (H.more ah.ext) ah λvl h5 ai=> ?_;refine aK (aeg ?_);unfold Ox;refine ai.box λn3 h6 aF=>aF.box λl4 h7 aG=>aG.box λan h8 aI=> ?_;have hvl:=ai.vw 0 rfl;obtain⟨bu,D⟩:∃bu,bu=st.pop u key:=⟨_,rfl⟩;have hW:(0:Int)<=W:=az;have inv1:fB g.n (st.order.length*W+W) bu:=by subst D;exact(inv.nV hm).mono aa
    have E:bu.order.length=st.order.length+1:=by subst D;simp[FS.pop]
    have S:=hout u hun;have aq:∀i,fB g.n (st.order.length*W+W) (bu.scan g.aj head key ((outs u).take i)):=λi=>fB.scan (λa ha=>⟨X a ha,by have :=(hR.ends a ha).2.2;show(a.w:Int)<=2147483647;omega⟩) ag aa (λj hj=>S j (lK hj)) inv1
    have aL:Own h h8 (ak an gF.cells.toList 91::ak l4 vl.cells.toList 43::ak n3 [ptr r] 47::aC bg 1 3 vl (outs u)::Ah d rr m hp t8 g.n sd sa kb key F (bu.scan g.aj head key ((outs u).take 0)).hp z (bu.scan g.aj head key ((outs u).take 0)) y):=by subst D;exact aI
    refine aL.range (akc (r:=r) (T1:=43) (T2:=47) (T3:=91) (vl:=vl) S (by have :=ay u;omega) hE) (λi x i'⟨⟨hi,e⟩,_⟩=>by rw[e];rfl)
      (λi Rs=>∃F,Rs=ak an gF.cells.toList 91::ak l4 vl.cells.toList 43::ak n3 [ptr r] 47::aC bg 1 3 vl (outs u)::Ah d rr m hp t8 g.n sd sa kb key F (bu.scan g.aj head key ((outs u).take i)).hp z (bu.scan g.aj head key ((outs u).take i)) y)
      (λ_=>False) (λ_ _=>False) ⟨F,rfl⟩ ?_ ?_ ?_ (λ_ _ h=>h.elim) (λ_ _ _ h=>h.elim)
    · rintro i au h' ⟨F,rfl⟩ o';refine⟨?_,o'.get 2 rfl,?_,o'.vw 3 rfl,H.more o'.ext⟩
      · have :=o'.get 1 rfl;rw[show vl.cells.toList=[vl] by rw[hvl.one]]at this;exact this
      · have :=o'.get 0 rfl;rw[show gF.cells.toList=[gF] by rw[ax]]at this;exact this
    · rintro M i x i' au Pr h9 R ⟨⟨hi,rfl⟩,rfl⟩ ⟨F,rfl⟩ f aN _ _;dsimp only[gh];unfold M3;refine f.box λaT h10 T=>T.st 0 rfl rfl rfl rfl rfl (gQ _) λh11 q=> ?_;refine q.begin 1 rfl λh12 b=> ?_;refine b.load 8 rfl rfl ?_;simp only[aU];refine b.load 0 rfl rfl (b.load 7 rfl rfl (b.load 0 rfl rfl ?_));have hil:=S _ (cu hi);have ha:aH g.aj (outs u)[i]∈g.aj:=by simp[aH,hil]
      have hw:=(hR.ends _ ha).2.2
      have e1 : IntKind.i64.wrap (key+((aH g.aj (outs u)[i]).w:Int))=key+(aH g.aj (outs u)[i]).w:=by
        have aV:(16777216:Int)*W<=2^62:=az
        exact bK (by omega) (by  have :(W:Int)=2147483647:=rfl
                                 omega)
      rw[bw,e1];refine akd b 9 10 11 12 rfl rfl rfl rfl az az az (aq i) aD (X _ ha) λF' N t=> ?_;refine aN _ _ ⟨F',rfl⟩ ?_;have hsc:=ake (l:=g.aj) (head:=head) (key:=key) (s:=bu) hi;have hro:=@Cp (bu.scan g.aj head key ((outs u).take i)) (head (aH g.aj (outs u)[i])) (outs u)[i] (key+(aH g.aj (outs u)[i]).w);rw[<-hsc]at hro;have :=t.tail;rw[<-hsc]at this;simp only[Ah,hro.1,hro.2];exact this
    · rintro i h9 au rfl ⟨F',rfl⟩ f;rw[fF]at f;have O:=@Gk g.aj head key (outs u) bu;refine f.load 5 rfl rfl (f.box λP h10 T=> ?_);refine T.bu 0 rfl rfl rfl rfl rfl λh11 q=> ?_;refine q.load 7 rfl rfl ?_;simp only[bD,aU];refine q.load 8 rfl rfl ?_;have inv2:fB g.n ((bu.scan g.aj head key (outs u)).order.length*W) (bu.scan g.aj head key (outs u)):=by
        have :=aq (outs u).length;rw[fF]at this;refine this.mono ?_;rw[O.1,E];have :((st.order.length+1:Nat):Int)*W=st.order.length*W+W:=by rw[sS,pL];rfl
        omega
      have av:FS.run g.aj outs head (g.n+1-(bu.scan g.aj head key (outs u)).order.length) (bu.scan g.aj head key (outs u))=fin:=by rw[<-hrun,O.1,E];rw[show g.n+1-st.order.length=(g.n+1-(st.order.length+1))+1 by omega];simp only[FS.run,hl,fL];rw[<-D]
      have mark:=λ{h'':af}{A B:aS}{C:List aS}(o:Own h h'' (A::B::C))=>o;refine Ag q 9 rfl (λU h12 b=> ?_) λp U aP h12 b=> ?_
      · simp only[cC,cB,nS];refine b.bu 0 rfl rfl rfl rfl rfl λN t=> ?_;have V:=(t.swap).xm 14 rfl;refine hZ (_::y,(I 0,(ptr P,(.bool false,())))) N _ (by rw[O.1,E];omega) ⟨bu.scan g.aj head key (outs u),P,0,z,F',(bu.scan g.aj head key (outs u)).hp,rfl,rfl,av,inv2,.inl ⟨U,rfl⟩,?_⟩;exact V.bh [0,6,7,8,9,10,11,12,13,14] az
      · simp only[cC,cB,nS];refine b.bu 0 rfl rfl rfl rfl rfl λN t=> ?_;have V:=(t.swap).xm 14 rfl;refine hZ (_::y,(I p.1,(ptr P,(.bool true,())))) N _ (by rw[O.1,E];omega) ⟨bu.scan g.aj head key (outs u),P,p.2,z,aP,(bu.scan g.aj head key (outs u)).hp.erase p,rfl,rfl,av,inv2,.inr ⟨p,U,rfl,rfl,rfl,rfl⟩,?_⟩;exact V.bh [0,6,7,8,9,10,11,12,13,14] az
end
section
variable{h0 h:af}{L:List aS}{K:KT}{g:G}{r:Nat}{outs:Nat->List Nat}{head:A->Nat}{tG gF:Value}
def tH(h:af)(t:Tr)(K:KT):Prop:=∀sd sa so h',Own h h' [xR sd t.aM,aC aJ 1 3 sa t.bS,aC bg 1 3 so t.order]->K (.agg #[sd,sa,so]) h'
def Wg{s:Int}{rv:Value}(hs:rv=.pointer none\/(rv=ptr r/\bX h r g/\¬(0<=s/\s<g.n)))(hK:tH h .none K):ah prog 26 [rv,I s,tG,gF] h K:=by
 refine aK (M4 ?_);unfold Gx Cy;refine(Own.start h).box λt8 h1 o1=> ?_;have none:∀{h2:af},Own h h2 [ak t8 [aT,aT,aT] 45]->aV [(.slice none 0 0),(.slice none 0 0),(.slice none 0 0)] [] λt27=>aD 3 (ptr t8) t27 h2 λu h_3=>bq 3 h_3 (ptr t8) λres=>K res h_3:=λo2=>⟨trivial,o2.st (cs':=[aT,aT,aT]) 0 rfl (l:=[aT,aT,aT]) rfl rfl rfl rfl aP λh3 a=>a.bZ 0 rfl rfl rfl (hK aT aT aT h3 ((a.ef.ef.ef).bh [0,1,2] az))⟩
 rcases hs with rfl|⟨rfl,H,hs⟩
 .simp only[dM,E2,bF];exact none o1
 .simp only[dM,dW,aO,bC,bA];refine⟨λ_=>none o1,λe=>dV (H.more o1.ext) ?_⟩;simp only[dA,bA];exact⟨λ_=>none o1,λe'=>aa⟩
def Wh{s:Nat}(hR:g.Right)(H:bX h r g)(hs:s<g.n)(hN:vu tG g r outs)(hE:kI gF head)(z:gF.cells= #[gF])(B:∀a∈g.aj,head a<g.n)
  (hout:∀v,v<g.n->∀i∈outs v,i<g.aj.length) (C:∀v,(outs v).length<=g.aj.length) (hK:tH h (Co g.aj g.n outs head s) K):ah prog 26 [ptr r,I s,tG,gF] h K:=by
 have t:=hR.most;refine aK (M4 ?_);unfold Gx;refine(Own.start h).box λt8 h1 o1=> ?_;simp only[dM,dW,aO,bC,bA];refine⟨λe=>aa,λ_=>dV (H.more o1.ext) ?_⟩;simp only[dA,bA];refine⟨λe=>aa,λ_=>dV (H.more o1.ext) (Dp o1 λF hp h2 o2=> ?_)⟩;refine o2.build (enc:=aJ) (n:=1) [aN] rfl (bW rfl) rfl λwf h3 j=>dV (H.more j.ext) ?_;refine VN j (j.vw 0 rfl) t λsd h4 D=> ?_;refine D.build (enc:=aJ) (n:=1) [-1] rfl (bW rfl) rfl λE h5 k=>dV (H.more k.ext) ?_;refine VM k (k.vw 0 rfl) t λsa h6 d=>⟨bW (by obtain⟨b,c,e⟩:=(d.vw 0 rfl).kG;obtain⟨b',c',e'⟩:=(d.vw 2 rfl).kG;subst e e';rfl),?_⟩
 have R:sa.cells= #[sa]/\sd.cells= #[sd]:=⟨(d.vw 0 rfl).one,(d.vw 2 rfl).one⟩;refine d.mkMap λm h7 f=> ?_;obtain⟨ba,ca,ea⟩:=(f.vw 1 rfl).kG;obtain⟨bd,cd,ed⟩:=(f.vw 3 rfl).kG;refine⟨bW (by subst ea ed;rfl),f.box λrr h8 u=>u.box λJ h9 w=>w.bu 0 rfl rfl rfl rfl rfl λh10 y=> ?_⟩;have l:Own h h10 (ak J [ptr rr] 165::ak rr [ptr hp,sd,sa,aT,.map (some m)] 172::eD m (λ_=>none)::aC aJ 1 3 sa (List.replicate g.n (-1))::aC aJ 1 3 E [-1]::xR sd (List.replicate g.n aN)::xR wf [aN]::gR F hp [] g.n:: [ak t8 [aT,aT,aT] 45]):=by subst ea ed;exact y
 clear y w u f d;refine l.load 0 rfl rfl ?_;simp only[bD,aU];refine l.load 1 rfl rfl (Af l 7 rfl aP aP hs λS h12 o=> ?_);refine o.load 0 rfl rfl ?_;simp only[bD,aU];refine o.load 1 rfl rfl ?_;refine Ag o 7 rfl (λe=>by simp[least]at e) λp hp' M U N=> ?_;have hp2:p=((s:Int),0):=by simpa[least]using hp'.symm
 subst hp2;simp only[cC,cB,nS];refine N.box λkb V O=>O.bu 0 rfl rfl rfl rfl rfl λW P=> ?_;have Q:=(P.Cf).ef (enc:=bg) (n:=1) (T:=3);refine akf (fin:=FS.run g.aj outs head (g.n+1) (FS.start g.n s)) (m:=m) (sd:=sd) (sa:=sa) (rr:=rr) (hp:=hp) hR H hN hE z B hout C (λso h' o'=>hK sd sa so h' o') ?_;refine⟨FS.start g.n s,kb,0,aT,M,_,rfl,rfl,(fB.start hs).mono (by simp[FS.start]),.inr ⟨((s:Int),0),hp',rfl,rfl,rfl,rfl⟩,?_⟩;have e:(λ_=>none:Int->Option Value)=lz (FS.start g.n s).order:=by funext x;simp[lz,FS.start]
 have q:=Q.bh [2,3,4,10,6,5,8,0,11,1] az;dsimp only[List.map,List.getD]at q;rw[e]at q;exact q
end
section
variable{h0 h:af}{L:List aS}{K:KT}{g:G}{r:Nat}{s:Int}
def akg{g:G}{v i:Nat}(h:i∈g.out v):i<g.aj.length:=by have :=(oM.1 h).2.1;omega
def Wi{g:G}{v i:Nat}(h:i∈g.in v):i<g.aj.length:=by have :=(oM.1 h).2.1;omega
def Ai(hR:g.Right)(H:bX h r g)(hK:tH h (g.cU s) K):ah prog 9 [ptr r,I s] h K:=by
 refine aK (ac2 ?_);unfold Mx;refine(Own.start h).box λt4 h1 o1=> ?_;have fin:tH h1 (g.cU s) λt9 h_2=>aD 3 (ptr t4) t9 h_2 λu h_3=>bq 3 h_3 (ptr t4) λres=>K res h_3:=by
  intro sd sa so h2 o2;have b:=o1.frame o2;refine b.st 3 rfl rfl rfl rfl rfl ?_ λh3 c=>c.bZ 3 rfl rfl rfl (hK sd sa so h3 (c.bh [0,1,2] az));intro u hu;simp at hu;rcases hu with rfl|rfl|rfl
  .exact(b.vw 0 rfl).plain
  .exact(b.vw 1 rfl).plain
  .exact(b.vw 2 rfl).plain
 unfold G.cU at fin;split at fin<;>rename_i hs
 .obtain⟨s,rfl⟩:=iX hs.1;exact Wh hR (H.more o1.ext) aa (We hR) aka rfl (λa ha=>(hR.ends a ha).2.1) (λv _ i=>akg) (λv=>vf) fin
 .exact Wg (g:=g) (.inr ⟨rfl,H.more o1.ext,hs⟩) fin
def Ib(hR:g.Right)(H:bX h r g)(hK:tH h (g.toI s) K):ah prog 56 [ptr r,I s] h K:=by
 refine aK (adL ?_);unfold NC;refine(Own.start h).box λt4 h1 o1=> ?_;have fin:tH h1 (g.toI s) λt9 h_2=>aD 3 (ptr t4) t9 h_2 λu h_3=>bq 3 h_3 (ptr t4) λres=>K res h_3:=by
  intro sd sa so h2 o2;have b:=o1.frame o2;refine b.st 3 rfl rfl rfl rfl rfl ?_ λh3 c=>c.bZ 3 rfl rfl rfl (hK sd sa so h3 (c.bh [0,1,2] az));intro u hu;simp at hu;rcases hu with rfl|rfl|rfl
  .exact(b.vw 0 rfl).plain
  .exact(b.vw 1 rfl).plain
  .exact(b.vw 2 rfl).plain
 unfold G.toI at fin;split at fin<;>rename_i hs
 .obtain⟨s,rfl⟩:=iX hs.1;exact Wh hR (H.more o1.ext) aa (Wf hR) akb rfl (λa ha=>(hR.ends a ha).1) (λv _ i=>Wi) (λv=>vf) fin
 .exact Wg (g:=g) (.inr ⟨rfl,H.more o1.ext,hs⟩) fin
end
section
variable{h0 h:af}{L:List aS}{K:KT}{g:G}{r v d:Nat}{vl:Value}
def sg{α:Type}{l:List α}{i:Nat}{a:α}(h:i<l.length):l.getD i a=l[i]:=by rw[cI,dD h];rfl
def Wz{l:List Int}(H:Vw aJ 1 h vl l)(hv:v<l.length)(hK:K (.tuple #[I (l.getD v 0),.bool true]) h):ah prog 343 [vl,I v] h K:=by refine aK (ain ?_);unfold Us;rw[bC,bR aa,aO];refine H.len ?_;rw[dA,bR aa,aO];refine H.Im hv ?_;rw[sg hv]at hK;exact hK
def WA(hR:g.Right)(H:bX h r g)(hv:v<g.n)(hK:K (.tuple #[I (g.X.getD v 0),I (g.Y.getD v 0),.bool true]) h):ah prog 248 [ptr r,I v] h K:=by obtain⟨vx,vy,va,vo,b,hr,a,ho,hi⟩:=H;refine aK (agJ ?_);unfold Sw;have c1:hcell h ⟨r,1,none⟩=some vx:=bz hr rfl;have c2:hcell h ⟨r,2,none⟩=some vy:=bz hr rfl;simp only[dM,dW,aO,bD,aU];refine bJ rfl c1 (Wz a.1 (by rw[hR.x];exact hv) ?_);simp only[cC,cB];refine bJ rfl c2 (Wz a.2.1 (by rw[hR.y];exact hv) ?_);simp only[cC,cB];exact hK
def fK:Nat->Value
 |0=>.func (.func 380) #[] #[]
 |1=>.func (.func 381) #[] #[]
 |2=>.func (.func 382) #[] #[]
 |_=>.func (.func 383) #[] #[]
def aky:(fK d).cells= #[fK d]:=by unfold fK;split<;>rfl
def WB:Mh.plainCell (fK d)=true:=by unfold fK;split<;>rfl
def WC(hK:∀h',Ext h h'->K (.agg #[fK 0,fK 1,fK 2,fK 3]) h'):ah prog 344 [] h K:=by
 refine aK (aio ?_);unfold Ut;refine(Own.start h).box λt0 h1 o1=> ?_;refine cE (cs':=[fK 0,fK 1,fK 2,fK 3]) (λp hp=>by simp at hp;rcases hp with rfl|rfl|rfl|rfl<;>rfl) rfl rfl ?_
 refine o1.st (l:=[fK 0,fK 1,fK 2,fK 3]) (cs':=[fK 0,fK 1,fK 2,fK 3]) 0 rfl rfl rfl rfl rfl ?_ λh2 o2=>o2.bZ (cs':=[fK 0,fK 1,fK 2,fK 3]) 0 rfl rfl rfl (hK h2 o2.ext);intro u hu;simp at hu;rcases hu with rfl|rfl|rfl|rfl<;>exact WB
def akz{x y:Int}(hd:d<4)(hx: -2147483648<=x/\x<=2147483647)(hy: -2147483648<=y/\y<=2147483647)(hK:K (I (if d=0 then x else if d=1 then y else if d=2 then x+y else x-y)) h):aX prog (fK d) [I x,I y].toArray h K:=by
 rcases(show d=0\/d=1\/d=2\/d=3 by omega)with rfl|rfl|rfl|rfl
 .refine cg (l:=[I x,I y]) rfl (aiZ ?_);exact hK
 .refine cg (l:=[I x,I y]) rfl (ai1 ?_);exact hK
 .refine cg (l:=[I x,I y]) rfl (ai2 ?_);unfold Vd;rw[bw,bK aa aa];exact hK
 .refine cg (l:=[I x,I y]) rfl (ai3 ?_);unfold Ve;rw[fc,bK aa aa];exact hK
def Dx{l:List Int}{n:Nat}(h:∀c∈l,-2147483648<=c/\c<=2147483647): -2147483648<=l.getD n 0/\l.getD n 0<=2147483647:=by
 rw[cI];cases e:l[n]? with
 |none=>exact⟨az,az⟩
 |some c=>exact h c (mE e)
def akA(hR:g.Right): -4294967296<=fP g d v/\fP g d v<=4294967296:=by
 have hx:=Dx (n:=v) hR.xr;have hy:=Dx (n:=v) hR.yr;unfold fP;split
 .omega
 .split
  .omega
  .split<;>omega
def Al(p2 tl:Nat):Value:=.func (.func 346) #[] #[ptr p2,ptr tl]
def WD{p:Nat}(o:Own h0 h L)(hd:d<4)(hK:∀p2 tl h',Own h0 h' (ak tl [fK d] 446::ak p2 [ptr p] 233::L)->Ext h h'->K (Al p2 tl) h'):ah prog 252 [ptr p,I d] h K:=by
 refine aK (agN ?_);unfold SB;refine(Own.start h).box λp2 h1 o1=> ?_;have o1:Own h h1 [ak p2 [ptr p] 233]:=o1;refine WC λh2 x2=> ?_;have o2:=o1.more x2;refine⟨aa,aa,?_⟩;have e:(#[fK 0,fK 1,fK 2,fK 3]:Array Value)[(d:Int).toNat]? =some (fK d):=by rcases(show d=0\/d=1\/d=2\/d=3 by omega)with rfl|rfl|rfl|rfl<;>rfl
 rw[e];refine o2.box λtl h3 b=>b.bu 0 (cs':=[fK d]) rfl rfl rfl aky WB λh4 a=> ?_;exact hK p2 tl h4 (o.frame a) a.ext
def Ig{p p2 tl:Nat}{pc:List Value}(o:Own h0 h L)(i j k:Nat)(hi:L[i]? =some (ak tl [fK d] 446))(hj:L[j]? =some (ak p2 [ptr p] 233))(hk:L[k]? =some (ak p (ptr r::pc) 235))(hR:g.Right)(hN:bX h r g)(hd:d<4)(hv:v<g.n)
  (hK:K (I (fP g d v)) h):aX prog (Al p2 tl) [I v].toArray h K:=by
 refine cg (l:=[I v,ptr p2,ptr tl]) rfl (aiq ?_);unfold Uw;refine o.load j hj rfl ?_;simp only[bD,aU];refine o.load k hk rfl ?_;refine WA hR hN hv ?_;simp only[cC,cB,nS];refine o.load i hi rfl ?_;exact akz hd (Dx hR.xr) (Dx hR.yr) hK
def akB{a b:Int}:(if b>a then b else a)=max a b:=by split<;>omega
def akC{a b:Int}:(if b<a then b else a)=min a b:=by split<;>omega
def akD{fv:Value}{f:Nat->Int}{l:List Nat}(b:Vw bg 1 h vl l)(hl:l.length<2^40)(hr:∀x,-4294967296<=f x/\f x<=4294967296)(hT:∀x∈l,∀K':KT,K' (I (f x)) h->aX prog fv [I x].toArray h K')(hK:K (I (n7 f l)) h):
  ah prog 345 [vl,fv] h K:=by
 refine aK (aip ?_);unfold Uv;refine b.len ?_;rw[cF,kD];refine⟨λe=> ?_,λe=> ?_⟩
 .have :l=[]:=nH aa;subst this;exact hK
 .have hpos:0<l.length:=aa;refine b.dU (e:=λ(x:Nat)=>I x) (λ_=>rfl) (i:=0) hpos ?_;refine hT _ (cu hpos) _ (b.len ?_);refine bV l.length (λi x h'=>x.1=I (nZ f (l.take i) (f l[0]))/\x.2.1=I (n5 f (l.take i) (f l[0]))/\x.2.2.1=I i/\h'=h) ⟨rfl,rfl,rfl,rfl⟩ ?_;rintro i ⟨x,y,z,⟨⟩⟩ h' Z hi ⟨hx,hy,hz,rfl⟩ hZ;dsimp only at hx hy hz hZ |-;subst hx hy hz;unfold Uu;rw[bC,bA];refine⟨λhlt=> ?_,λhge=> ?_⟩
  .have hlt:i<l.length:=aa;have tk:l.take (i+1)=l.take i++ [l[i]]:=cW hlt;refine b.dU (e:=λ(x:Nat)=>I x) (λ_=>rfl) hlt ?_;refine hT _ (cu hlt) _ ?_;rw[rU,akC];refine hT _ (cu hlt) _ ?_;rw[oI,akB,bw,wI i aa];exact hZ (_,_,_,()) _ hlt ⟨by rw[tk,akj],by rw[tk,akk],rfl,rfl⟩
  .have :i=l.length:=aa;subst this;rw[fF];have e1:=(@Dt f l (f l[0])).1;have e2:=(@Du f l (f l[0])).1;have e3:=@Wl f (-4294967296) l (f l[0]) (hr _).1 λx _=>(hr x).1;have c:=@Wm f 4294967296 l (f l[0]) (hr _).2 λx _=>(hr x).2;rw[fc,bK aa aa];have :n7 f l=n5 f l (f l[0])-nZ f l (f l[0]):=by
    match l,hpos with
    |a::l,_=>rfl
   rw[this]at hK;exact hK
def akE{p:Nat}{pc:List Value}{l:List Nat}(o:Own h0 h L)(k:Nat)(hk:L[k]? =some (ak p (ptr r::pc) 235))(hR:g.Right)(hN:∀h',Ext h h'->bX h' r g)(e:Vw bg 1 h vl l)(hl:l.length<2^40)(j:∀x∈l,x<g.n)
  (hK:∀h',Own h0 h' L->Ext h h'->K (.tuple #[I (oU g l).1,I (oU g l).2]) h'):ah prog 251 [ptr p,vl] h K:=by
 refine aK (agM ?_);unfold SA;refine WC λh1 x1=> ?_;refine bV 4 (λi x h'=>x.1=I (jJ (λd=>n7 (fP g d) l) i).1/\x.2.1=I (jJ (λd=>n7 (fP g d) l) i).2/\x.2.2.1=I i/\Own h0 h' L/\Ext h h') ⟨rfl,rfl,rfl,o.more x1,x1⟩ ?_;clear o;rintro i ⟨x,y,z,⟨⟩⟩ h2 Z hi ⟨hx,hy,hz,o,x2⟩ hZ;dsimp only at hx hy hz hZ |-;subst hx hy hz;unfold Sz;rw[bC,bA];refine⟨λhlt=> ?_,λhge=> ?_⟩
 .have hlt:i<4:=aa;refine WD o hlt λp2 tl h3 b m=> ?_;have a:Ext h h3:=x2.trans m λ_ h _=>h;refine akD (f:=fP g i) (e.more a) hl (λx=>akA hR) (λx hx K' hk'=>Ig b 0 1 (k+2) rfl rfl hk hR (hN _ a) hlt (j x hx) hk') ?_;have st:jJ (λd=>n7 (fP g d) l) (i+1)=if(jJ (λd=>n7 (fP g d) l) i).2<n7 (fP g i) l then(i,n7 (fP g i) l)else jJ (λd=>n7 (fP g d) l) i:=rfl;unfold G7;rw[akS,bA];refine⟨λc=> ?_,λc=> ?_⟩
  .rw[bw,wI i aa];exact hZ (_,_,_,()) _ hlt ⟨by rw[st,aW c],by rw[st,aW c],rfl,b.tail.tail,a⟩
  .rw[bw,wI i aa];exact hZ (_,_,_,()) _ hlt ⟨by rw[st,aQ c],by rw[st,aQ c],rfl,b.tail.tail,a⟩
 .have :i=4:=aa;subst this;exact hK h2 o x2
end
section
variable{h0 h:af}{L:List aS}{K:KT}{vo:Value}{O:List Nat}
def WE(O:List Nat)(i:Nat)(x:List Value)(i':Nat):Prop:=i<O.length/\i'=i+1/\x=[I (O.getD i 0:Nat)]
def Ih{b:Nat}{T:TypeId}(hl:O.length<2^40):iG prog (.func (.func 341) #[] #[ptr b]) (λh=>h[b]? =some (.cells #[vo] T (0,0))/\Vw bg 1 h vo O) (σ:=Nat) 0 (WE O) (λi=>i=O.length):=by
 rintro yv h0 h Rs K J E ⟨l,rfl⟩ o c hQ hY hK;refine jE (l:=[dS l,ptr b]) rfl (ail ?_);unfold Uo;obtain⟨hb,hv⟩:=hQ _ _ _ c o;have hc:hcell h ⟨b,0,none⟩=some vo:=bz hb rfl;refine bJ rfl hc (hv.len ?_);refine bV O.length (λi x h'=>x.1=I i/\∃a,J i a/\Own h0 h' a) ⟨rfl,Rs,c,o⟩ ?_;clear o c hc hb;have f:=hv;rintro i ⟨x,⟨⟩⟩ h Z hi ⟨hx,a,hj,o⟩ hZ;dsimp only at hx hZ |-;subst hx;unfold Un;rw[bC,bA];refine⟨λhlt=> ?_,λhge=> ?_⟩
 .have hlt:i<O.length:=aa;obtain⟨_,hv⟩:=hQ _ _ _ hj o;refine hv.dU (e:=λ(x:Nat)=>I x) (λ_=>rfl) hlt ?_;have e:O[i]=O.getD i 0:=by rw[cI,dD hlt];rfl
  rw[e];refine hY i _ (i+1) a [] h _ ⟨hlt,rfl,rfl⟩ hj o.oK (λd h'' hj' o'=> ?_) λd h'' he o'=> ?_
  .rw[bP,cz,aO,bw,wI i aa];exact hZ (_,()) h'' hlt ⟨rfl,d,hj',o'.gi⟩
  .rw[bP,dL,bF];exact hK _ _ (.inr he) o'.gi
 .have :i=O.length:=aa;exact hK _ _ (.inl ⟨i,this,hj⟩) o
def Ii{vo:Value}{O:List Nat}(o:Own h0 h L)(a:Vw bg 1 h vo O)(hK:∀s h',Own h0 h' (ak s [vo] 43::L)->K (.func (.func 341) #[] #[ptr s]) h'):ah prog 242 [vo] h K:=by refine aK (agD ?_);unfold Sp;refine o.box λs h1 o1=> ?_;rw[show(Value.cells vo).toList=[vo] by rw[a.one]]at o1;exact hK s h1 o1
end
end Go.Proofs.YtacopgnplajifaaGreatDoor
