/- Texts of the proofs of seat YthglofkkjoiepaaGreatDoor, joined: ChA, ChB, ChC, LiA, DrA, DrB, NtA, NtB, NtC, NtD, HpB, HpC, HpD, HpE, HpF, HpG, HpH, HpI, HoA, FlA, FlB, FlC, FlD. They have no conditions of their own. -/
import Derived.Test.YthglofkkjoiepaaGreatDoorGb
import Derived.Test.YthglofkkjoiepaaGreatDoorMb
import Derived.Tactics
import Derived.Tactics2
import Derived.Test.YthglofkkjoiepaaGreatDoorMc
set_option linter.unusedVariables false
set_option linter.unusedSimpArgs false
set_option linter.unusedSectionVars false

set_option maxRecDepth 100000
namespace Go.Proofs.YthglofkkjoiepaaGreatDoor
open Go Go.Mh
theorem aeW{h:aa}{K:Exit->bM->List Nat->aa->Prop}(hk:∀e,K .normal e [] h):compile Tryz.prog 17 false (cR (Tryz.f43.body.getD .skip)) (bD (cR (Tryz.f43.body.getD .skip)) 0 []).1 [(1,.nilIface)] [] h K:=
 Eq.mpr (α:=compile Tryz.prog 17 false (cR (Tryz.f43.body.getD .skip)) (bD (cR (Tryz.f43.body.getD .skip)) 0 []).1 [(1,.nilIface)] [] h K)
  (β:=K .normal [(6,.bool false),(5,.nilIface),(1,.nilIface)] [] h) (by kernel_rfl) (hk _)
theorem aeX{v:Value}{h:aa}{K:aa->Prop}(hk:K h):jo Tryz.prog DA #[v] h K:=by
 refine⟨by kernel_rfl,λw hw=> ?_⟩;subst hw;refine callsDIn_of_wpSIn Tryz.func43 rfl trivial λc₀ cs hu=> ?_;apply wpSIn_seq;generalize hQ:bodyPostS Tryz.prog _ c₀ cs _=Q;apply wpSIn_region;simp[wpOpsSIn,go_sem,recoverD,hu,Tryz.ntmps43,Exit.thenS];have hr:∀(tm:Array Value),tm[1]? =some Value.nilIface->tm.size=17->
   Code.wpSIn Fence.wide 0 Tryz.prog (cR (Tryz.f43.body.getD .skip)) Q {tmps:=tm,defers:=[]} (c₀::cs) w:=by
  intro tm h1 hs;subst hQ;refine wpSIn_of_wpIn rfl ?_;refine jH _ _ none _ [] w.heap (λex _ m h'=>ex=.normal/\m=[]/\h'=w.heap) (aeW λe=>⟨rfl,rfl,rfl⟩) (by kernel_rfl) [] _ w _ ?_ hs rfl rfl ?_
  ·intro s v hv;unfold Mh.look at hv;split at hv
   ·rename_i hb;have :=Nat.eq_of_beq_eq_true hb;subst this;rw[h1];exact hv
   ·cases hv
  ·rintro ex e' m' a' w' hrl _ hd a _ _ ⟨rfl,rfl,hh⟩;have b:a'.defers=[]:=hd;refine⟨b,.returning,?_,.tuple #[],?_,_,rfl,rfl,a,hh▸hk⟩
   ·cases c₀;simp only at hu;subst hu;rfl
   ·have hq:fD Tryz.prog e' w'.heap Tryz.f43.results.toList (λl=>l=[]):=by
     rw[Tryz.results43];rfl
    obtain⟨l,hl,rfl⟩:=sZ hrl hq;exact om hl w' rfl
 refine hr _ ?_ ?_
 ·simp
 ·simp
open Go Go.Mh
structure Pl where
 i:Int
 f:Int
 c:Int
 n:Int
 l:Int
 e:Int
def jP(p:Pl):List Value:=[I p.i,I p.f,I p.c,I p.n,I p.l,I p.e]
theorem Tn(p:Pl):(jP p).length=6:=rfl
theorem GM(p:Pl):∀u∈jP p,Mh.plainCell u=true:=by
 intro u hu;simp[jP]at hu;rcases hu with rfl|rfl|rfl|rfl|rfl|rfl<;>rfl
def Pl.Ok(p:Pl):Prop:=p.l<=p.n/\p.n<p.e
def To(x:List Value):Prop:=∃p:Pl,x=[.agg (jP p).toArray]/\p.Ok
section
variable{h0 h:aa}{L:List aM}{K:KT}{vs:Value}{ps:List Pl}{b:Nat}
theorem aeY(hl:ps.length<2^40):Iter Tryz.prog (.func (.func E8) #[] #[ptr b]) (λh=>h[b]? =some (.cells #[vs] uc (0,0))/\Vw jP 6 h vs ps) ps.length
  (λi hi=>[.agg (jP ps[i]).toArray]):=by
 rintro yv h0 h e K J E ⟨l,rfl⟩ o c hQ hY hK;refine iJ (l:=[dm l,ptr b]) rfl (ad5 _ _ ?_);unfold RV;obtain⟨hb,hv⟩:=hQ _ _ _ c o;have hc:hcell h ⟨b,0,none⟩=some vs:=aY hb rfl;simp only[cI,hc];refine hv.len ?_;refine cg ps.length (λi x h'=>x.1=I i/\∃a,J i a/\Own h0 h' a) ⟨rfl,e,c,o⟩ ?_;rintro i ⟨x,⟨⟩⟩ h Z hi ⟨hx,a,hj,o⟩ hZ;dsimp only at hx hZ ⊢;subst hx;unfold RU;simp only[bu,bg];refine⟨λhlt=> ?_,λhge=> ?_⟩
 ·have hlt:i<ps.length:=by omega
  obtain⟨_,hv⟩:=hQ _ _ _ hj o;refine hv.mh Tn hlt ?_;refine o.box λv4 h1 o1=>o1.st 0 rfl rfl rfl rfl rfl (GM _) λh2 o2=>o2.bN 0 rfl rfl rfl ?_;refine hY i _ (i+1) a [] h2 _ ⟨⟨hlt,rfl⟩,rfl⟩ hj o2.tail.mW (λd h'' hj' o'=> ?_) λd h'' he o'=> ?_
  ·rw[bH,Bool.not_true,aL,bt,wI i (by omega)];exact hZ (I (i+1:Nat),()) h'' hlt ⟨rfl,d,hj',o'.fm⟩
  ·rw[bH,Bool.not_false,bq];exact hK _ _ (.inr he) o'.fm
 ·have :i=ps.length:=by omega
  exact hK _ _ (.inl ⟨i,this,hj⟩) o
def rN(fv:Value)(Q:aa->Prop):Prop:=C4 Tryz.prog fv Q To
theorem Tp{h:aa}{K:KT}{vs:Value}{ps:List Pl}(o:Own h0 h (aA jP 6 lE vs ps::L))(hl:ps.length<2^40)(hok:∀p∈ps,p.Ok)
  (hK:∀fv Q(q:aM) h',Own h0 h' (q::L)->(∀h'',Own h0 h'' (q::L)->Q h'')->rN fv Q->K fv h'):ah Tryz.prog zX [vs] h K:=by
 refine aK (acR _ ?_);unfold PW;refine o.box λb h1 o1=>hK _ _ (C7 [aj b vs.cells.toList uc,aA jP 6 lE vs ps]) h1 (Own.pack (l:=[aj b vs.cells.toList uc,aA jP 6 lE vs ps]) o1) (λh'' a=>a.get 0 rfl) ?_;refine((aeY (b:=b) (vs:=vs) hl).toS (S:=To) λi hi=>⟨ps[i],rfl,hok _ (List.getElem_mem hi)⟩).need λh hq=> ?_;obtain⟨bl,H⟩:=hq (aA jP 6 lE vs ps) (by simp);have hc:=hq (aj b vs.cells.toList uc) (by simp);have e:vs.cells= #[vs]:=(Vw.one ⟨bl,H.view⟩);refine⟨?_,bl,H.view⟩;have c:h[b]? =some (.cells vs.cells.toList.toArray uc (0,0)):=hc;rw[c,e]
theorem Tq{c n l e:Int}(o:Own h0 h L)(hok:l<=n/\n<e)(hK:∀fv Q(q:aM) h',Own h0 h' (q::L)->(∀h'',Own h0 h'' (q::L)->Q h'')->rN fv Q->K fv h'):ah Tryz.prog zM [I c,I n,I l,I e] h K:=by
 refine aK (aby _ _ _ _ ?_);unfold NX;refine⟨bW rfl,?_⟩;refine o.build (enc:=jP) (n:=6) [⟨0,0,c,n,l,e⟩] rfl (bW rfl) rfl λw h1 o1=> ?_;exact Tp o1 (by simp) (by simp[Pl.Ok];exact hok) hK
theorem aeZ{g:G}{vx vy va:Value}(o:Own h0 h L)(hR:g.Right)(H:nO h vx vy va g)(hK:∀fv Q(q:aM) h',Own h0 h' (q::L)->(∀h'',Own h0 h'' (q::L)->Q h'')->rN fv Q->K fv h'):
  ah Tryz.prog DY [.agg #[I g.n,vx,vy,va]] h K:=by
 refine aK (abA _ ?_);unfold NZ;have hm:=hR.most;refine(Own.start h).box λr h1 o1=> ?_;simp only[aQ];have H1:=H.more o1.ext;refine o1.load 0 rfl rfl (o1.load 0 rfl rfl (H1.1.len ?_));have e1:IntKind.i64.wrap ((g.n:Int)+1)=(g.n:Int)+1:=bG (by omega) (by omega);simp only[bt,e1];refine⟨bW rfl,o1.load 0 rfl rfl (H1.2.1.len ⟨bW rfl,?_⟩)⟩;refine o1.build (enc:=jP) (n:=6) [⟨0,0,6,g.X.length,g.n,g.n+1⟩,⟨0,1,6,g.Y.length,g.n,g.n+1⟩] rfl (bW rfl) rfl λw h2 o2=> ?_;refine Tp (L:=[]++L) (o.frame ((o2.bh [0] (by decide)))) (by simp) ?_ hK;intro p hp;simp at hp;have hx:=hR.x;have hy:=hR.y;rcases hp with rfl|rfl<;>simp only[Pl.Ok]<;>omega
theorem ae0{g:G}{vx vy va:Value}{r:Nat}(hR:g.Right):rN (.func (.func Eu) #[] #[ptr r]) (λh=>h[r]? =some (.cells #[I g.n,vx,vy,va] cN (0,0))/\nO h vx vy va g):=by
 rintro yv h0 h m K J E ⟨l,rfl⟩ o d hQ hY hK;refine iJ (l:=[dm l,ptr r]) rfl (acS _ _ ?_);unfold PZ;obtain⟨hb,hv⟩:=hQ _ _ _ d o;have c1:hcell h ⟨r,1,none⟩=some vx:=aY hb rfl;have hm:=hR.most;have hx:=hR.x;have hy:=hR.y;simp only[aQ,cI,Nat.zero_add,c1];refine hv.1.len ?_;refine cg g.X.length (λi x h'=>x.1=I i/\∃a,J () a/\Own h0 h' a) ⟨rfl,m,d,o⟩ ?_;rintro i ⟨x,⟨⟩⟩ h Z hi ⟨hx',a,hj,o⟩ hZ;dsimp only at hx' hZ ⊢;subst hx';unfold PY;simp only[bu,bg];refine⟨λhlt=> ?_,λhge=>hK _ _ (.inl ⟨(),trivial,hj⟩) o⟩;have hlt:i<g.X.length:=by omega
 have hlty:i<g.Y.length:=by omega
 obtain⟨hb,hv⟩:=hQ _ _ _ hj o;have c1:hcell h ⟨r,1,none⟩=some vx:=aY hb rfl;have c2:hcell h ⟨r,2,none⟩=some vy:=aY hb rfl;simp only[aQ,cI,Nat.zero_add,c1,c2];refine hv.1.cV hlt (hv.2.1.cV hlty ?_);refine o.build (enc:=aG) (n:=1) [g.X[i],g.Y[i]] rfl (bW rfl) rfl λw h1 o1=> ?_;refine(o1.vw 0 rfl).len ?_;refine cg 2 (λj x h'=>x.1=I j/\∃a,J () a/\Own h0 h' (a++ [aA aG 1 bY w [g.X[i],g.Y[i]]])) ⟨rfl,a,hj,o1.mT⟩ ?_;rintro j ⟨x,⟨⟩⟩ h2 q hj2 ⟨hx',c,hj',o2⟩ e;dsimp only at hx' e ⊢;subst hx';unfold PX;simp only[bu,bg];refine⟨λf=> ?_,λhge=> ?_⟩
 ·have hw:(c++ [aA aG 1 bY w [g.X[i],g.Y[i]]])[c.length]? =some (aA aG 1 bY w [g.X[i],g.Y[i]]):=by simp
  have hjl:j< [g.X[i],g.Y[i]].length:=by simp at f ⊢;omega
  refine(o2.vw _ hw).cV hjl ⟨bW rfl,?_⟩;have hr: -2147483648<= [g.X[i],g.Y[i]][j]/\ [g.X[i],g.Y[i]][j]<2147483648:=by
   have h1:=hR.xr _ (List.getElem_mem hlt);have h2:=hR.yr _ (List.getElem_mem hlty);have :j=0\/j=1:=by simp at hjl;omega
   rcases this with rfl|rfl
   ·simp only[List.getElem_cons_zero];omega
   ·simp only[List.getElem_cons_succ,List.getElem_cons_zero];omega
  refine hY () _ () c _ h2 _ ⟨⟨i,j,7,[g.X[i],g.Y[i]][j],-2147483648,2147483648⟩,rfl,hr⟩ hj' o2 (λk h'' p o'=> ?_) λk h'' he o'=> ?_
  ·rw[bH,Bool.not_true,aL,bt,wI j (by omega)];exact e (I (j+1:Nat),()) h'' (by simp at f;omega) ⟨rfl,k,p,o'⟩
  ·rw[bH,Bool.not_false,bq];exact hK _ _ (.inr he) o'.left
 ·rw[bt,wI i (by omega)];exact hZ (I (i+1:Nat),()) h2 hlt ⟨rfl,c,hj',o2.left⟩
theorem ae1{g:G}{vx vy va:Value}{r:Nat}(hR:g.Right):rN (.func (.func Ew) #[] #[ptr r]) (λh=>h[r]? =some (.cells #[I g.n,vx,vy,va] cN (0,0))/\nO h vx vy va g):=by
 rintro yv h0 h u K J E ⟨l,rfl⟩ o k hQ hY hK;refine iJ (l:=[dm l,ptr r]) rfl (acT _ _ ?_);unfold Qb;obtain⟨hb,hv⟩:=hQ _ _ _ k o;have c0:hcell h ⟨r,0,none⟩=some (I g.n):=aY hb rfl;have c3:hcell h ⟨r,3,none⟩=some va:=aY hb rfl;have hm:=hR.most;have z:=hR.many;simp only[aQ,cI,Nat.zero_add,c0,c3];refine hv.2.2.len ?_;refine cg g.ag.length (λi x h'=>x.1=I i/\∃c,J () c/\Own h0 h' c) ⟨rfl,u,k,o⟩ ?_;rintro i ⟨x,⟨⟩⟩ h Z hi ⟨hx',c,hj,o⟩ hZ;dsimp only at hx' hZ ⊢;subst hx';unfold Qa;simp only[bu,bg];refine⟨λhlt=> ?_,λhge=>hK _ _ (.inl ⟨(),trivial,hj⟩) o⟩;have hlt:i<g.ag.length:=by omega
 obtain⟨hb,hv⟩:=hQ _ _ _ hj o;refine hv.2.2.mh mj hlt ?_;have he:=hR.ends _ (List.getElem_mem hlt);generalize g.ag[i]=a at he;refine o.box λa5 h1 o1=>o1.st 0 rfl rfl rfl rfl rfl (fS _) λh2 o2=> ?_;simp only[aQ];refine o2.load 0 rfl rfl ⟨bW rfl,o2.load 0 rfl rfl ⟨bW rfl,o2.load 0 rfl rfl ⟨bW rfl,?_⟩⟩⟩;refine o2.build (enc:=jP) (n:=6) [⟨i,0,9,a.f,0,g.n⟩,⟨i,1,9,a.t,0,g.n⟩,⟨i,2,10,a.w,0,2147483648⟩] (by kernel_rfl) (bW (by kernel_rfl)) rfl λw h3 d=> ?_;refine(d.vw 0 rfl).len ?_;obtain⟨ps,hps⟩:∃ps:List Pl,ps=[⟨i,0,9,a.f,0,g.n⟩,⟨i,1,9,a.t,0,g.n⟩,⟨i,2,10,a.w,0,2147483648⟩]:=⟨_,rfl⟩;have v:ps.length=3:=by subst hps;rfl
 have hok:∀p∈ps,p.Ok:=by
  intro p hp;subst hps;simp at hp;rcases hp with rfl|rfl|rfl<;>simp only[Pl.Ok]<;>omega
 rw[<-hps]at d ⊢;rw[v];refine cg 3 (λj x h'=>x.1=I j/\∃c,J () c/\Own h0 h' (c++ [aA jP 6 lE w ps])) ⟨rfl,c,hj,(d.erase 1).mT⟩ ?_;rintro j ⟨x,⟨⟩⟩ h2 A hj2 ⟨hx',e,hj',o2⟩ m;dsimp only at hx' m ⊢;subst hx';unfold P0;simp only[bu,bg];refine⟨λB=> ?_,λhge=> ?_⟩
 ·have hw:(e++ [aA jP 6 lE w ps])[e.length]? =some (aA jP 6 lE w ps):=by simp
  have hjl:j<ps.length:=by omega
  refine(o2.vw _ hw).mh Tn hjl ?_;refine o2.box λC h3 d=>d.st 0 rfl rfl rfl rfl rfl (GM _) λh4 q=>q.bN 0 rfl rfl rfl ?_;refine hY () _ () e _ h4 _ ⟨ps[j],rfl,hok _ (List.getElem_mem hjl)⟩ hj' q.tail (λs h'' y o'=> ?_) λs h'' he o'=> ?_
  ·rw[bH,Bool.not_true,aL,bt,wI j (by omega)];exact m (I (j+1:Nat),()) h'' (by omega) ⟨rfl,s,y,o'⟩
  ·rw[bH,Bool.not_false,bq];exact hK _ _ (.inr he) o'.left
 ·rw[bt,wI i (by omega)];exact hZ (I (i+1:Nat),()) h2 hlt ⟨rfl,e,hj',o2.left⟩
end
open Go Go.Mh
section
variable{h0 h:aa}{L:List aM}{K:KT}{vs:Value}{ps:List Pl}{b:Nat}
theorem ae2{fv:Value}{Q:aa->Prop}{phase:Value}{c f:aa->Prop}(hI:rN fv Q)(o:Own h0 h L)(hQ:∀h',Own h0 h' L->Q h')(hK:∀h',Own h0 h' (bX h.size::L)->c h'):
  gd Tryz.prog fv [19] (h.size+1) (h.push (.deferred (some []))) (λM x hh R=>AI Tryz.prog h phase M x.1 hh R) c f []:=by
 refine o.range hI (λs x s'⟨p,e,_⟩=>by rw[e];rfl) (λ_ g=>g=L) (λ_=>False) (λ_ _=>False) rfl (λ_ d h' e o'=>hQ h' (e▸o')) ?_ (λ_ h' d _ e o'=>hK h' (e▸o')) (λ_ _ h=>h.elim) (λ_ _ _ h=>h.elim);rintro M ⟨⟩ x ⟨⟩ d Pr h' R ⟨p,rfl,hp⟩ rfl o' hN _ _;dsimp only[fk];unfold AI;refine o'.box λi h1 o1=>o1.st 0 rfl rfl rfl rfl rfl (GM _) λh2 o2=> ?_;refine o2.begin 1 rfl λh3 a=> ?_;simp only[aQ];refine a.load 0 rfl rfl (a.load 0 rfl rfl ?_);simp only[bu,bg];refine⟨λe=>by have :=hp.1;omega,λ_=>a.load 0 rfl rfl (a.load 0 rfl rfl ?_)⟩;simp only[c8,bg];refine⟨λe=>by have :=hp.2;omega,λ_=> ?_⟩;exact hN _ _ rfl a.tail
set_option maxHeartbeats 2000000 in
theorem ae3{g:G}{v:Value}(hR:g.Right)(H:mY h v g)(hK:∀h',Ext h h'->K (.tuple #[]) h'):ah Tryz.prog DB [v] h K:=by
 obtain⟨vx,vy,va,rfl,H⟩:=H;refine aK (aaC _ ?_);unfold Mz;refine(Own.start h).box λr h1 o1=> ?_;refine o1.build (enc:=jL) (n:=1) [.func (.func tB) #[] #[ptr r],.func (.func tC) #[] #[ptr r],.func (.func tD) #[] #[ptr r],.func (.func tE) #[] #[ptr r],.func (.func tF) #[] #[ptr r]] rfl (bW rfl) rfl λw h2 o2=> ?_;refine(o2.vw 0 rfl).len ?_;have hm:=hR.most;have hp1:=hR.pos;refine cg 5 (λi x h'=>∃m,x.1=m/\x.2.1=I i/\Own h h' [iY m,aA jL 1 FI w [.func (.func tB) #[] #[ptr r],.func (.func tC) #[] #[ptr r],.func (.func tD) #[] #[ptr r],.func (.func tE) #[] #[ptr r],.func (.func tF) #[] #[ptr r]],aj r [I g.n,vx,vy,va] cN])
  ⟨[],rfl,rfl,o2.zd⟩ ?_
 clear o1 o2;rintro i ⟨m,x,⟨⟩⟩ h2 Z hi ⟨m',hm',hx,o⟩ hZ;dsimp only at hx hm' hZ ⊢;subst hx;obtain rfl:=hm'.symm;unfold My;simp only[bu,bg];refine⟨λhlt=> ?_,λhge=>o.take 0 rfl λh' o'=>hK h' o'.ext⟩;have hlt:i<5:=by simp at hlt;omega
 have rest:∀{t16:Value},(∀{h3:aa}{phase:Nat}{L:List aM}{K:KT},Own h h3 (L++ [aj r [I g.n,vx,vy,va] cN])->(∀fv Q(q:aM) h',Own h h' (q::(L++ [aj r [I g.n,vx,vy,va] cN]))->(∀h'',Own h h'' (q::(L++ [aj r [I g.n,vx,vy,va] cN]))->Q h'')->rN fv Q->K fv h')->aS Tryz.prog t16 [].toArray h3 K)->
   aB au (.int .i64 0) h2 λf h_4=>aC 1 f (I i) h_4 λu h_5=>aS Tryz.prog t16 [].toArray h_5 λt18 h_6=>
    gd Tryz.prog t18 [19] (h_6.size+1) (h_6.push (.deferred (some []))) (λL x hh R=>AI Tryz.prog h_6 f L x.1 hh R)
     (λh_13=>ak .add (I i) (.int .i64 1) λt43=>Z (h_6.size::m',(t43,())) h_13) (λh_14=>cH (h_6.size::m') h_14 λh_15=>K (.tuple #[]) h_15) []:=by
  intro t16 hc;refine o.box λp h3 a=>a.bf 0 rfl rfl rfl rfl rfl λh4 c=> ?_;refine hc (phase:=p) (L:=[aj p [I i] au,iY m',aA jL 1 FI w [.func (.func tB) #[] #[ptr r],.func (.func tC) #[] #[ptr r],.func (.func tD) #[] #[ptr r],.func (.func tE) #[] #[ptr r],.func (.func tF) #[] #[ptr r]]]) c λfv Q q h5 j hq ht=> ?_;refine ae2 ht j hq λh6 k=> ?_;rw[bt,wI i (by omega)];have s:=k.tg 2 rfl;exact hZ (h5.size::m',(I (i+1:Nat),())) h6 hlt ⟨_,rfl,rfl,s.tail.tail⟩
 have raw:∀{h3:aa}{L:List aM},Own h h3 (L++ [aj r [I g.n,vx,vy,va] cN])->h3[r]? =some (.cells #[I g.n,vx,vy,va] cN (0,0))/\nO h3 vx vy va g:=λ{h3 L} a=>
  ⟨a.get (r:=aj r [I g.n,vx,vy,va] cN) L.length (by simp),H.more a.ext⟩
 have t:i=0\/i=1\/i=2\/i=3\/i=4:=by omega
 rcases t with rfl|rfl|rfl|rfl|rfl
 ·refine(o.vw 1 rfl).dH (e:=λx=>x) (λ_=>rfl) (by simp) ?_;refine rest λ{h3 p L K} a hc=> ?_;show aS Tryz.prog (.func (.func tB) #[] #[ptr r]) _ _ _;refine bU (l:=[ptr r]) rfl (abx _ ?_);unfold NW;have c0:hcell h3 ⟨r,0,none⟩=some (I g.n):=aY (raw a).1 rfl;simp only[aQ,cI,c0];exact Tq a (by omega) hc
 ·refine(o.vw 1 rfl).dH (e:=λx=>x) (λ_=>rfl) (by simp) ?_;refine rest λ{h3 p L K} a hc=> ?_;show aS Tryz.prog (.func (.func tC) #[] #[ptr r]) _ _ _;refine bU (l:=[ptr r]) rfl (abz _ ?_);unfold NY;refine a.bN (cs:=[I g.n,vx,vy,va]) (T:=cN) L.length (by simp) rfl rfl ?_;exact aeZ a hR (raw a).2 hc
 ·refine(o.vw 1 rfl).dH (e:=λx=>x) (λ_=>rfl) (by simp) ?_;refine rest λ{h3 p L K} a hc=> ?_;show aS Tryz.prog (.func (.func tD) #[] #[ptr r]) _ _ _;refine bU (l:=[ptr r]) rfl (abB _ ?_);unfold N0;refine a.bN (cs:=[I g.n,vx,vy,va]) (T:=cN) L.length (by simp) rfl rfl ?_;refine aK (abC _ ?_);unfold N1;exact a.box λb h4 c=>hc _ _ _ h4 c (λh'' d=>⟨d.get 0 rfl,H.more d.ext⟩) (ae0 hR)
 ·refine(o.vw 1 rfl).dH (e:=λx=>x) (λ_=>rfl) (by simp) ?_;refine rest λ{h3 p L K} a hc=> ?_;show aS Tryz.prog (.func (.func tE) #[] #[ptr r]) _ _ _;refine bU (l:=[ptr r]) rfl (abD _ ?_);unfold N2;have c0:hcell h3 ⟨r,3,none⟩=some va:=aY (raw a).1 rfl;have y:=hR.many;simp only[aQ,cI,Nat.zero_add,c0];refine(raw a).2.2.2.len ?_;exact Tq a (by omega) hc
 ·refine(o.vw 1 rfl).dH (e:=λx=>x) (λ_=>rfl) (by simp) ?_;refine rest λ{h3 p L K} a hc=> ?_;show aS Tryz.prog (.func (.func tF) #[] #[ptr r]) _ _ _;refine bU (l:=[ptr r]) rfl (abE _ ?_);unfold N3;refine a.bN (cs:=[I g.n,vx,vy,va]) (T:=cN) L.length (by simp) rfl rfl ?_;refine aK (abF _ ?_);unfold N4;exact a.box λb h4 c=>hc _ _ _ h4 c (λh'' d=>⟨d.get 0 rfl,H.more d.ext⟩) (ae1 hR)
end
open Go Go.Mh
section
variable{α:Type}{enc:α->List Value}{n bytes:Nat}{T:TypeId}{h0 h:aa}{L:List aM}{K:KT}{s:Value}{xs:List α}{z:List Value}
theorem Bf(o:Own h0 h L)(H:Vw enc n h s xs)(he:∀a,(enc a).length=n)(hp:∀a,∀u∈enc a,Mh.plainCell u=true)(hz:z.length=n)(hby:0<bytes)(hl:xs.length*bytes<=2^47)
  (hK:∀v' h',Own h0 h' (aA enc n T v' xs::L)->K v' h'):
  bL false .slice s (.slice none 0 0) λt4=>az t4 (K (.slice none 0 0) h) (cz T (bO z 0) [] 0 h λt5 h_1=>cZ T n bytes z t5 s h_1 λt7 h_2=>K t7 h_2):=by
 obtain⟨b,c,rfl⟩:=H.mV;simp only[YW];rw[vH];refine⟨λhb=> ?_,λ_=> ?_⟩
 ·obtain⟨bl,b',c',e,_,H'⟩:=H;injection e with e1 e2 e3;subst e1;cases b with
  |some a=>cases hb
  |none=>
   rcases H' with ⟨rfl,_⟩|⟨_,_,_,_,_,e,_⟩
   ·exact hK _ _ o.en
   ·cases e
 ·refine(Own.start h).build (enc:=enc) (n:=n) ([]:List α) (by simp[bO,fC,row]) (bW rfl) rfl λw h1 o1=> ?_;exact o1.app 0 rfl he hp hz (H.more o1.ext) hby (by simpa using hl) λv' h' o'=>hK v' h' (o.frame o')
theorem Bg{xs:List Nat}(o:Own h0 h L)(H:Vw aV 1 h s xs)(hl:xs.length<=2^40)(hK:∀v' h',Own h0 h' (aA aV 1 au v' xs::L)->K v' h'):ah Tryz.prog nS [s] h K:=
 aK (MN _ (Bf o H rm nP rfl (by decide) (by omega) hK))
theorem Ts{xs:List Int}(o:Own h0 h L)(H:Vw aG 1 h s xs)(hl:xs.length<=2^40)(hK:∀v' h',Own h0 h' (aA aG 1 bY v' xs::L)->K v' h'):ah Tryz.prog zE [s] h K:=
 aK (aaH _ (Bf o H mU ja rfl (by decide) (by omega) hK))
theorem ae4{xs:List A}(o:Own h0 h L)(H:Vw dS 3 h s xs)(hl:xs.length<=2^40)(hK:∀v' h',Own h0 h' (aA dS 3 cC v' xs::L)->K v' h'):ah Tryz.prog DE [s] h K:=
 aK (aaJ _ (Bf o H mj fS rfl (by decide) (by omega) hK))
end
theorem ae5{n:Nat}(hn:n<4294967296):(BitVec.ofInt 64 (n:Int)&&& BitVec.ofInt 64 4294967295).toNat=n:=by
 have e1:(BitVec.ofInt 64 (n:Int)).toNat=n:=by simp[BitVec.toNat_ofInt];omega
 have e2:(BitVec.ofInt 64 4294967295).toNat=4294967295:=rfl;rw[BitVec.toNat_and,e1,e2,show 4294967295=2^32-1 from rfl,Nat.and_two_pow_sub_one_eq_mod];omega
theorem GN{n:Int}(h0:0<=n)(h1:n<=18446744073709551615):IntKind.u64.wrap n=n:=C0 h0 h1
section
variable{k k':IntKind}{a b:Int}{K:Value->Prop}
theorem ae6:ak .and (.int k a) (.int k b) K↔K (.int k (k.wrap (BitVec.ofInt k.bits a&&& BitVec.ofInt k.bits b).toNat)):=by simp[ak]
theorem ae7:ak .shr (.int k a) (.int k' b) K↔0<=b/\K (.int k (a.fdiv (2^(min b.toNat k.bits)))):=by simp[ak]
end
theorem ae8{h:aa}{K:KT}{n:Nat}(hn:n<4294967296)(hK:K (.tuple #[.int .u64 0,.int .u64 n]) h):ah Tryz.prog wA [.int .u64 1,.int .u64 n] h K:=by
 refine aK (ab9 _ _ ?_);unfold OL;refine aK (ado _ _ ?_);unfold Q2;have ea:IntKind.u64.wrap ((BitVec.ofInt IntKind.u64.bits 1&&& BitVec.ofInt IntKind.u64.bits 4294967295).toNat:Int)=1:=rfl;have wn:IntKind.u64.wrap (n:Int)=n:=GN (by omega) (by omega);have eb:IntKind.u64.wrap ((BitVec.ofInt IntKind.u64.bits (n:Int)&&& BitVec.ofInt IntKind.u64.bits 4294967295).toNat:Int)=n:=by
  show IntKind.u64.wrap ((BitVec.ofInt 64 (n:Int)&&& BitVec.ofInt 64 4294967295).toNat:Int)=n;rw[ae5 hn,wn]
 have c:((n:Int).fdiv (2^(min (32:Int).toNat 64)))=0:=by
  show(n:Int).fdiv 4294967296=0;rw[Int.fdiv_eq_ediv_of_nonneg _ (by decide)];omega
 have ed:((0:Int).fdiv (2^(min (32:Int).toNat 64)))=0:=rfl;have d:((1:Int).fdiv (2^(min (32:Int).toNat 64)))=0:=rfl;have w0:IntKind.u64.wrap 0=0:=rfl;have e0:IntKind.u64.wrap ((BitVec.ofInt IntKind.u64.bits 0&&& BitVec.ofInt IntKind.u64.bits 4294967295).toNat:Int)=0:=rfl;have e:∀m,min m IntKind.u64.bits=min m 64:=λ_=>rfl;have f:(0:Int)<=32:=by decide
 simp only[ae6,ae7,jr,bt,e,ea,eb,c,ed,d,w0,e0,wn,f,Int.one_mul,Int.mul_one,Int.zero_mul,Int.mul_zero,Int.add_zero,Int.zero_add,true_and,b9,bZ];exact hK
theorem Tt{α:Type}{enc:α->List Value}{bytes:Nat}{T:TypeId}{h0 h:aa}{L:List aM}{K:KT}{s:Value}{a:α}{z:List Value}{m:Nat}{k1:aa->Prop}{L2:Value->(KT)->Value->aa->(KT)->Prop}
  (o:Own h0 h L) (H:Vw enc 1 h s [a]) (he:∀a,(enc a).length=1) (hp:∀a,∀u∈enc a,Mh.plainCell u=true) {a0:α} (hz:z=enc a0) (hby:bytes<=64) (hm:m<=16777216)
  (t:∀t30 f h_5 Z,L2 t30 K f h_5 Z=(bx t30 λt36=>ak .lss f t36 λt37=>az t37 (dY 1 t30 (some f) none none λt41=>dY 1 t30 none (some f) none λt44=>jl 1 t41 t44 h_5 λt45 h_6=>ak .add f t45 λt46=>Z t46 h_6) (K t30 h_5)))
  (hK:∀v' h',Own h0 h' (aA enc 1 T v' (List.replicate m a)::L)->K v' h'):
  ak .lss (I m) (.int .i64 0) λt10=>az t10 False (bx s λt14=>fR .u64 t14 λt15=>fR .u64 (I m) λt17=>ah Tryz.prog wA [t15,t17] h λt18 h_1=>
   aX t18 0 λt19=>aX t18 1 λt20=>ak .gtr t19 (.int .u64 0) λt22=>az t22 (k1 h_1) (ak .gtr t20 (.int .u64 9223372036854775807) λt25=>az t25 (k1 h_1) (fR .i64 t20 λt29=>
    c9 T bytes z t29 t29 h_1 λt30 h_3=>jl 1 t30 s h_3 λt33 h_4=>bK (σ:=bw [8]) (λx hh d=>L2 t30 K x.1 hh (λa0 hz=>d (a0,()) hz)) (t33,()) h_4))):=by
 simp only[bu,bg];refine⟨λe=>by omega,λ_=>H.len ?_⟩;have e1:IntKind.u64.wrap (([a].length:Nat):Int)=1:=rfl;have e2:IntKind.u64.wrap (m:Int)=m:=GN (by omega) (by omega);simp only[me,e1,e2];refine ae8 (by omega) ?_;simp only[b9,bZ,dZ,bg];refine⟨λe=>by omega,λ_=>⟨λe=>by omega,λ_=> ?_⟩⟩;have e3:IntKind.i64.wrap (m:Int)=m:=bG (by omega) (by omega);simp only[me,e3];refine(Own.start h).make (n:=1) hz (by
  have :bytes*m<=64*16777216:=Nat.mul_le_mul hby hm;omega) (by omega) λw h1 o1=> ?_
 have own:∀{h':aa}{xs:List α},Own h h' [aA enc 1 T w xs]->xs.length=m->0<m->∃bl cap,w=.slice (some ⟨bl,0,none⟩) m cap/\m<=cap/\dL enc 1 T h' w bl xs/\oK w bl:=by
  intro h' xs o' hl h0;obtain⟨bl,H⟩:=o'.get 0 rfl;obtain⟨cap,rest,e,hb,hr,hle⟩:=H.full (by omega);exact⟨bl,cap,by rw[e,hl],by omega,H,by rw[e];rfl⟩
 have loop:∀{h':aa}{k:Nat},k<=m->(0<m->0<k)->Own h h' [aA enc 1 T w (List.replicate k a++List.replicate (m-k) a0)]->
   bK (σ:=bw [8]) (λx hh d=>L2 w K x.1 hh (λa0 hz=>d (a0,()) hz)) (I k,()) h':=by
  intro h' k hk g o';refine vG (λx h'=>∃k:Nat,x.1=I k/\k<=m/\(0<m->0<k)/\Own h h' [aA enc 1 T w (List.replicate k a++List.replicate (m-k) a0)])
   (λx _=>match x.1 with| .int _ j=>((m:Int)-j).toNat|_=>0) ⟨k,rfl,hk,g,o'⟩ ?_
  clear hk g o' k h';rintro⟨x,⟨⟩⟩ h' Z ⟨k,hx,hk,g,o'⟩ hZ;dsimp only at hx hZ ⊢;subst hx;rw[t];refine(o'.vw 0 rfl).len ?_;have hl:(List.replicate k a++List.replicate (m-k) a0).length=m:=by simp;omega
  rw[hl];simp only[bu,bg];refine⟨λhlt=> ?_,λhge=> ?_⟩
  ·have hlt:k<m:=by omega
   obtain⟨bl,cap,e,hcap,H,l⟩:=own o' hl (by omega);have hv:=o'.vw 0 rfl;subst e;have hne:¬cap=k:=by omega
   refine⟨by simp,by omega,by omega,by omega,Int.le_refl _,?_⟩;refine⟨by simp,by omega,by omega,by omega,Int.le_refl _,?_⟩;have hmn:Nat.min ((k:Int).toNat-((0:Nat):Int).toNat) ((m:Int).toNat-(k:Int).toNat)=min k (m-k):=by simp
   have hc:gM h' 1 (min k (m-k)) (some ⟨bl,0,none⟩)=some (row enc (List.replicate (min k (m-k)) a)):=by
    obtain⟨base,c,e,hc⟩:=hv.cells he;injection e with e1 _ _;subst e1;simp only[gM]at hc ⊢;obtain⟨cap',rest,_,hb,_⟩:=H.full (by omega);have hrl:=gi he (List.replicate k a++List.replicate (m-k) a0);rw[hl]at hrl;rw[qV (i:=0) hb _ 0 (by rw[List.length_append,hrl];omega),List.drop_zero,List.take_append_of_le_length (by rw[hrl];omega),y7 he,List.take_append_of_le_length (by simp;omega),List.take_replicate,show min (min k (m-k)) k=min k (m-k) by omega]
   have v:fN 1 (k:Int).toNat (cap:Int).toNat (some ⟨bl,0,none⟩)=some ⟨bl,k*1,none⟩:=by simp[fN,hne]
   have y:fN 1 ((0:Nat):Int).toNat (cap:Int).toNat (some ⟨bl,0,none⟩)=some ⟨bl,0,none⟩:=by simp[fN]
   rw[v];dsimp only;rw[y];unfold jl;simp only[hmn,hc];refine o'.vO 0 rfl he hp H l (j:=k) (by simp;omega) λh2 o2=> ?_;have A:IntKind.i64.wrap ((k:Int)+((min k (m-k):Nat):Int))=((k+min k (m-k):Nat):Int):=by rw[bG (by omega) (by omega)];omega
   rw[bt,A];refine hZ (I (k+min k (m-k):Nat),()) h2 ⟨_,rfl,by omega,λ_=>by omega,?_⟩ (by dsimp only;omega);have ex:(List.replicate k a++List.replicate (m-k) a0).take k++List.replicate (min k (m-k)) a++(List.replicate k a++List.replicate (m-k) a0).drop (k+(List.replicate (min k (m-k)) a).length)=
     List.replicate (k+min k (m-k)) a++List.replicate (m-(k+min k (m-k))) a0:=by
    rw[List.take_left' (by simp),List.length_replicate,<-List.drop_drop,List.drop_left' (by simp),List.drop_replicate,List.replicate_append_replicate,Nat.sub_sub]
   rw[ex]at o2;exact o2
  ·have :k=m:=by omega
   subst this;rw[Nat.sub_self,List.replicate_zero,List.append_nil]at o';exact hK _ _ (o.frame o')
 have hs:=H.more o1.ext;obtain⟨p,xc,rfl,hx⟩:=hs.cells he;by_cases h0:m=0
 ·subst h0;obtain⟨b,c,e⟩:=(o1.vw 0 rfl).mV;have hc:gM h1 1 0 p=some []:=by
   simp only[List.length_singleton]at hx;cases p with
   |none=>rfl
   |some q=>
    obtain⟨D,E,qs⟩:=q;cases qs with
    |none=>simp[gM,gL]
    |some _=>cases hx
  have r:bK (σ:=bw [8]) (λx hh d=>L2 w K x.1 hh (λa0 hz=>d (a0,()) hz)) (I (0:Nat),()) h1:=loop (Nat.le_refl _) (λh=>absurd h (Nat.lt_irrefl _)) o1;obtain⟨bl,B⟩:=o1.get 0 rfl;subst e;unfold jl;have hmn:Nat.min [a].length (List.replicate 0 a0).length=0:=by simp
  simp only[hmn,hc];rcases B with ⟨e,_⟩|⟨cap,rest,e,_⟩
  ·injection e with e1 _ _;subst e1;exact r
  ·injection e with e1 _ _;subst e1;exact r
 ·obtain⟨bl,cap,e,hcap,C,l⟩:=own o1 (by simp) (by omega);have hmn:Nat.min [a].length m=1:=Nat.min_eq_left (by simp;omega);have hx1:gM h1 1 1 p=some (row enc [a]):=hx;have hst:=o1.vO (KP:=λh2=>bK (σ:=bw [8]) (λx hh d=>L2 w K x.1 hh (λa0 hz=>d (a0,()) hz)) (I (1:Nat),()) h2) 0 rfl he hp C l (j:=0) (ys:=[a]) (by simp;omega) λh2 o2=>by
   refine loop (by omega) (λ_=>by omega) ?_;have ex:(List.replicate m a0).take 0++ [a]++(List.replicate m a0).drop (0+ [a].length)=List.replicate 1 a++List.replicate (m-1) a0:=by simp
   rw[ex]at o2;exact o2
  rw[Nat.zero_mul]at hst;clear loop own;subst e;unfold jl;simp only[hmn,hx1];exact hst
theorem Tu{h0 h:aa}{L:List aM}{K:KT}{s:Value}{a:Int}{m:Nat}(o:Own h0 h L)(H:Vw aG 1 h s [a])(hm:m<=16777216)(hK:∀v' h',Own h0 h' (aA aG 1 au v' (List.replicate m a)::L)->K v' h'):ah Tryz.prog zI [s,I m] h K:=by
 refine aK (aa9 _ _ ?_);unfold Np;exact Tt (a0:=(0:Int)) (L2:=λt K c h5 Z=>No Tryz.prog t K c h5 Z) o H mU ja rfl (by decide) hm (λ_ _ _ _=>rfl) hK
theorem Tv{h0 h:aa}{L:List aM}{K:KT}{s:Value}{a:Int}{m:Nat}(o:Own h0 h L)(H:Vw aG 1 h s [a])(hm:m<=16777216)(hK:∀v' h',Own h0 h' (aA aG 1 bY v' (List.replicate m a)::L)->K v' h'):ah Tryz.prog zH [s,I m] h K:=by
 refine aK (aa8 _ _ ?_);unfold Nl;exact Tt (a0:=(0:Int)) (L2:=λt K c h5 Z=>Nk Tryz.prog t K c h5 Z) o H mU ja rfl (by decide) hm (λ_ _ _ _=>rfl) hK
open Go Go.Mh
section
variable{h0 h:aa}{L:List aM}{K:KT}{d i:Nat}{vb:Value}{bs:List Int}{a:Nat}
theorem jQ(o:Own h0 h L)(i:Nat)(hi:L[i]? =some (aj d [vb,I a] ng))(hb:Vw oM 1 h0 vb bs)(ha:a<2^40){n:Nat}(hn:1<=n)(hn':n<2^40)
  (hK:∀(k a':Nat) h',k<n->a'<=a+1->Own h0 h' (L.set i (aj d [vb,I a'] ng))->K (I k) h'):ah Tryz.prog jb [ptr d,I n] h K:=by
 refine aK (aaA _ _ ?_);unfold Mv FP;have o0:Own h0 h (L.set i (aj d [vb,I a] ng)):=o.conv i hi (o.get i hi) λb hb=>hb;simp only[bz,aQ];refine o.load i hi rfl ?_;refine(hb.more o.ext).len ?_;simp only[cF,iW];refine⟨λ_=>hK 0 a h hn (by omega) o0,λhlen=> ?_⟩;simp only[bu,bg];refine⟨λe=>by omega,λ_=> ?_⟩;refine o.load i hi rfl ?_;have e1:IntKind.i64.wrap ((a:Int)+1)=((a+1:Nat):Int):=wI a (by omega);simp only[bt,e1];refine o.put i hi rfl (by simp) rfl λh2 o2=> ?_;have hi2:=kF (x:=aj d [vb,I (a+1:Nat)] ng) hi;replace o2:Own h0 h2 (L.set i (aj d [vb,I (a+1:Nat)] ng)):=o2;have c:=hb.more o2.ext;have e2:IntKind.i64.wrap (((a+1:Nat):Int)-1)=(a:Int):=by rw[bG (by omega) (by omega)];omega
 have e3:((a:Int).tmod bs.length)=((a%bs.length:Nat):Int):=rfl;have hlt:a%bs.length<bs.length:=Nat.mod_lt _ (by omega);refine o2.load i hi2 rfl (o2.load i hi2 rfl ?_);simp only[eM,e2];refine o2.load i hi2 rfl (c.len ?_);simp only[nN,e3];refine⟨by omega,?_⟩;refine c.dH (e:=λx=>.int .u8 x) (λ_=>rfl) hlt ?_;refine o2.load i hi2 rfl ?_;simp only[eM,e2];refine o2.load i hi2 rfl (c.len ?_);simp only[mR,me,bt,nN];refine⟨by omega,?_⟩;have hw:=Zh (bs[a%bs.length]+IntKind.u8.wrap (IntKind.i64.wrap ((a:Int).tdiv bs.length)));generalize IntKind.u8.wrap (bs[a%bs.length]+IntKind.u8.wrap (IntKind.i64.wrap ((a:Int).tdiv bs.length)))=w at hw;have f:IntKind.i64.wrap w=w:=bG (by omega) (by omega);rw[f];refine⟨by omega,?_⟩;obtain⟨u,rfl⟩:=Int.eq_ofNat_of_zero_le hw.1;have g:((u:Int).tmod n)=((u%n:Nat):Int):=rfl;rw[g];exact hK _ (a+1) h2 (Nat.mod_lt _ (by omega)) (by omega) o2
theorem xu(o:Own h0 h L)(i:Nat)(hi:L[i]? =some (aj d [vb,I a] ng))(hb:Vw oM 1 h0 vb bs)(ha:a<2^39)
  (hK:∀(k a':Nat) h',k<=2147483647->a'<=a+2->Own h0 h' (L.set i (aj d [vb,I a'] ng))->K (I k) h'):ah Tryz.prog rA [ptr d] h K:=by
 refine aK (aaB _ ?_);unfold Mw;refine jQ (n:=12) o i hi hb (by omega) (by decide) (by decide) λk a1 h1 hk ha1 o1=> ?_;have hi1:=kF (x:=aj d [vb,I a1] ng) hi;have fin:∀{h2:aa}{x:aM},Own h0 h2 ((L.set i (aj d [vb,I a1] ng)).set i x)->Own h0 h2 (L.set i x):=λo=>by rwa[List.set_set]at o
 simp only[bu,bg];refine⟨λ_=>hK 0 a1 h1 (by omega) (by omega) o1,λ_=>⟨λ_=> ?_,λ_=>⟨λ_=> ?_,λ_=> ?_⟩⟩⟩
 ·refine jQ (n:=9) o1 i hi1 hb (by omega) (by decide) (by decide) λk a2 h2 hk ha2 o2=> ?_;have e:IntKind.i64.wrap (1+(k:Int))=((1+k:Nat):Int):=by rw[bG (by omega) (by omega)];omega
  rw[bt,e];exact hK _ a2 h2 (by omega) (by omega) (fin o2)
 ·refine jQ (n:=20) o1 i hi1 hb (by omega) (by decide) (by decide) λk a2 h2 hk ha2 o2=> ?_;have e:IntKind.i64.wrap (100*(k:Int))=((100*k:Nat):Int):=by rw[bG (by omega) (by omega)];omega
  rw[jr,e];exact hK _ a2 h2 (by omega) (by omega) (fin o2)
 ·refine jQ (n:=2) o1 i hi1 hb (by omega) (by decide) (by decide) λk a2 h2 hk ha2 o2=> ?_;have e:IntKind.i64.wrap (2147483647-(k:Int))=((2147483647-k:Nat):Int):=by rw[bG (by omega) (by omega)];omega
  rw[eM,e];exact hK _ a2 h2 (by omega) (by omega) (fin o2)
end
open Go Go.Mh
abbrev dR(d:Nat)(vb:Value)(a:Nat):aM:=aj d [vb,I a] ng
abbrev xR(v:Value)(xs:List Int):aM:=aA aG 1 bY v xs
abbrev aR(v:Value)(xs:List A):aM:=aA dS 3 cC v xs
abbrev aN:Value:=.slice none 0 0
structure jR(g:G):Prop extends G.Right g where
 xw:g.n<=12
 short:g.ag.length<=84
section
variable{h0 h:aa}{L:List aM}{K:KT}{d n g3 t2:Nat}{vb vx vy:Value}{bs:List Int}{a:Nat}{xs ys:List Int}
def Bh(h0:aa)(L:List aM)(K:KT)(d:Nat)(vb:Value):Prop:=
 ∀(g:G) vx vy va a' h',jR g->Own h0 h' (xR vx g.X::xR vy g.Y::aR va g.ag::dR d vb a'::L)->K (.agg #[I g.n,vx,vy,va]) h'
structure ql(n:Nat)(xs ys:List Int)(ag:List A):Prop where
 n1:1<=n
 n2:n<=12
 x:xs.length=n
 y:ys.length=n
 xr:∀c∈xs,-2147483648<=c/\c<=2147483647
 yr:∀c∈ys,-2147483648<=c/\c<=2147483647
 e:∀a∈ag,a.f<n/\a.t<n/\a.w<=2147483647
theorem ql.add{ag:List A}(R:ql n xs ys ag){f t w:Nat}(hf:f<n)(ht:t<n)(hw:w<=2147483647):ql n xs ys (ag++ [⟨f,t,w⟩]):=
 ⟨R.n1,R.n2,R.x,R.y,R.xr,R.yr,λa ha=>(List.mem_append.1 ha).elim (λh=>R.e a h) λh=>by
  simp at h;subst h;exact⟨hf,ht,hw⟩⟩
theorem ae9{ag:List A}{va:Value}{a':Nat}(hK:Bh h0 L K d vb)(R:ql n xs ys ag)(hl:ag.length<=84)
  (o:Own h0 h (aR va ag::xR vx xs::xR vy ys::aj g3 [I n,vx,vy,va] cN::aj t2 [I 0,aN,aN,aN] cN::dR d vb a'::L)):
  aZ 4 h (ptr g3) λt116=>aC 4 (ptr t2) t116 h λb h_53=>aZ 4 h_53 (ptr t2) λres=>K res h_53:=by
 refine o.bN 3 rfl rfl rfl ?_;refine o.st 4 rfl rfl rfl rfl rfl ?_ λh2 o2=> ?_
 ·intro u hu;simp at hu;rcases hu with rfl|rfl|rfl|rfl
  ·rfl
  ·exact(o.vw 1 rfl).plain
  ·exact(o.vw 2 rfl).plain
  ·exact(o.vw 0 rfl).plain
 refine o2.bN 4 rfl rfl rfl ?_;exact hK ⟨n,xs,ys,ag⟩ vx vy va a' h2 ⟨⟨R.n1,Nat.le_trans R.n2 (by decide),R.x,R.y,R.xr,R.yr,Nat.le_trans hl (by decide),R.e⟩,R.n2,hl⟩ (o2.front 6 [1,2,0,5] (by decide) (by decide))
theorem afa{ag:List A}{va:Value}{a' many:Nat}(hK:Bh h0 L K d vb)(hb:Vw oM 1 h0 vb bs)(R:ql n xs ys ag)(hl:ag.length<=12)(hm:many<=36)(ha:a'<=1000)
  (o:Own h0 h (aR va ag::xR vx xs::xR vy ys::aj g3 [I n,vx,vy,va] cN::aj t2 [I 0,aN,aN,aN] cN::dR d vb a'::L)):
  xg Tryz.prog (I many) (ptr g3) (ptr d) (ptr t2) K h:=by
 unfold xg;refine cg many (λi x h'=>∃ag va a',x.1=I i/\ql n xs ys ag/\ag.length<=12+2*i/\a'<=1000+10*i/\
  Own h0 h' (aR va ag::xR vx xs::xR vy ys::aj g3 [I n,vx,vy,va] cN::aj t2 [I 0,aN,aN,aN] cN::dR d vb a'::L)) ⟨ag,va,a',rfl,R,hl,ha,o⟩ ?_
 rintro i ⟨x,⟨⟩⟩ h Z hi ⟨ag,va,a',hx,R,hl,ha,o⟩ hZ;dsimp only at hx hZ ⊢;subst hx;have n2:=R.n2;unfold LP;simp only[bu,bg];refine⟨λhlt=> ?_,λhge=>ae9 hK R (by omega) o⟩;have hlt:i<many:=by omega
 refine gh (λv h'=>∃(b f t w a2:Nat),v.1=ptr b/\f<n/\t<n/\w<=2147483647/\a2<=a'+4/\
  Own h0 h' (aj b [I f,I t,I w] cC::aR va ag::xR vx xs::xR vy ys::aj g3 [I n,vx,vy,va] cN::aj t2 [I 0,aN,aN,aN] cN::dR d vb a2::L)) (λJ hJ=> ?_) ?_
 ·simp only[aQ];refine o.load 3 rfl rfl (o.load 3 rfl rfl ?_);refine⟨?_,?_⟩
  ·refine jQ o 5 rfl hb (by omega) R.n1 (by omega) λf a1 h1 hf ha1 o1=>⟨o1.load 3 rfl rfl rfl,?_,?_⟩
   ·refine jQ o1 5 rfl hb (by omega) R.n1 (by omega) λt a2 h2 ht ha2 o2=>⟨?_,?_⟩
    ·refine xu o2 5 rfl hb (by omega) λw a3 h3 hw j c=>⟨bW rfl,?_⟩;refine c.box λb h4 e=>e.st 0 rfl rfl rfl rfl rfl (by simp[fC]) λh5 g=>hJ _ _ ⟨b,f,t,w,a3,rfl,hf,ht,hw,by omega,g⟩
    ·refine o2.box λb h4 e=>xu e 6 rfl hb (by omega) λw a3 h3 hw j c=>⟨bW rfl,?_⟩;exact c.st 0 rfl rfl rfl rfl rfl (by simp[fC]) λh5 g=>hJ _ _ ⟨b,f,t,w,a3,rfl,hf,ht,hw,by omega,g⟩
   ·refine o1.box λb h4 e=>jQ e 6 rfl hb (by omega) R.n1 (by omega) λt a2 h2 ht ha2 o2=> ?_;refine xu o2 6 rfl hb (by omega) λw a3 h3 hw j c=>⟨bW rfl,?_⟩;exact c.st 0 rfl rfl rfl rfl rfl (by simp[fC]) λh5 g=>hJ _ _ ⟨b,f,t,w,a3,rfl,hf,ht,hw,by omega,g⟩
  ·refine o.box λb h4 e=>jQ e 6 rfl hb (by omega) R.n1 (by omega) λf a1 h1 hf ha1 o1=>⟨o1.load 4 rfl rfl rfl,?_⟩;refine jQ o1 6 rfl hb (by omega) R.n1 (by omega) λt a2 h2 ht ha2 o2=> ?_;refine xu o2 6 rfl hb (by omega) λw a3 h3 hw j c=>⟨bW rfl,?_⟩;exact c.st 0 rfl rfl rfl rfl rfl (by simp[fC]) λh5 g=>hJ _ _ ⟨b,f,t,w,a3,rfl,hf,ht,hw,by omega,g⟩
 ·rintro⟨x,⟨⟩⟩ h' ⟨b,f,t,w,a2,hv,hf,ht,hw,ha2,o⟩;dsimp only at hv ⊢;subst hv;unfold LO FL;simp only[aQ];refine o.load 4 rfl rfl (o.bN 0 rfl rfl rfl ?_);refine o.fF 1 ⟨f,t,w⟩ rfl rfl (bW rfl) mj fS rfl (by decide) (by omega) λm h1 o1=> ?_;refine o1.bf 4 rfl rfl rfl (o1.vw 1 rfl).one (o1.vw 1 rfl).plain λh2 o2=> ?_;refine jQ (n:=4) o2 6 rfl hb (by omega) (by decide) (by decide) λk a3 h3 hk j c=> ?_;have l:=R.add hf ht hw;simp only[cF,iW];refine⟨λ_=> ?_,λ_=> ?_⟩
  ·refine c.load 4 rfl rfl (c.load 0 rfl rfl (c.load 0 rfl rfl (c.load 0 rfl rfl ⟨bW rfl,?_⟩)));refine c.fF 1 ⟨t,f,w⟩ rfl rfl (bW rfl) mj fS rfl (by decide) (by simp;omega) λp h4 e=> ?_;refine e.bf 4 rfl rfl rfl (e.vw 1 rfl).one (e.vw 1 rfl).plain λh5 g=> ?_;rw[bt,wI i (by omega)];exact hZ (I (i+1:Nat),()) h5 hlt ⟨_,p,a3,rfl,l.add ht hf hw,by simp;omega,by omega,g.tail⟩
  ·rw[bt,wI i (by omega)];exact hZ (I (i+1:Nat),()) h3 hlt ⟨_,m,a3,rfl,l,by simp;omega,by omega,c.tail⟩
theorem Tw{a':Nat}(hK:Bh h0 L K d vb)(hb:Vw oM 1 h0 vb bs)(R:ql n xs ys [])(ha:a'<=100)
  (o:Own h0 h (xR vx xs::xR vy ys::aj g3 [I n,vx,vy,aN] cN::aj t2 [I 0,aN,aN,aN] cN::dR d vb a'::L)):
  AD Tryz.prog (ptr g3) (ptr d) (ptr t2) K h:=by
 unfold AD;have n1:=R.n1;have n2:=R.n2;simp only[aQ];refine o.load 2 rfl rfl ?_;have e1:IntKind.i64.wrap (3*(n:Int))=3*(n:Int):=bG (by omega) (by omega);have e2:IntKind.i64.wrap (3*(n:Int)+1)=((3*n+1:Nat):Int):=by rw[bG (by omega) (by omega)];omega
 simp only[jr,bt,e1,e2];refine jQ o 4 rfl hb (by omega) (by omega) (by omega) λmany a1 h1 hm ha1 o1=> ?_;refine jQ (n:=3) o1 4 rfl hb (by omega) (by decide) (by decide) λk a2 h2 hk ha2 o2=> ?_;simp only[dZ];refine cg n (λi x h'=>∃ag va a',x.1=I i/\ql n xs ys ag/\ag.length<=i/\a'<=200+10*i/\
  Own h0 h' (aR va ag::xR vx xs::xR vy ys::aj g3 [I n,vx,vy,va] cN::aj t2 [I 0,aN,aN,aN] cN::dR d vb a'::L)) ⟨[],aN,a2,rfl,R,Nat.le_refl _,by omega,o2.en⟩ ?_
 rintro i ⟨x,⟨⟩⟩ h Z hi ⟨ag,va,a',hx,R,hl,ha,o⟩ hZ;dsimp only at hx hZ ⊢;subst hx;unfold LQ;simp only[aQ];refine o.load 3 rfl rfl ?_;have next :xg Tryz.prog (I many) (ptr g3) (ptr d) (ptr t2) K h:=afa hK hb R (by omega) (by omega) (by omega) o
 simp only[bu,bg];refine⟨λhlt=>⟨λ_=> ?_,λ_=>next⟩,λ_=>next⟩;have hlt:i<n:=by omega
 refine o.load 3 rfl rfl ?_;rw[bt,wI i (by omega)];refine o.load 3 rfl rfl ?_;have e3:(((i+1:Nat):Int).tmod n)=(((i+1)%n:Nat):Int):=rfl;rw[nN,e3];refine⟨by omega,?_⟩;refine xu o 5 rfl hb (by omega) λw a3 h3 hw g b=>⟨b.load 3 rfl rfl rfl,b.load 3 rfl rfl rfl,bW rfl,?_⟩;refine b.fF 0 ⟨i,(i+1)%n,w⟩ rfl rfl (bW rfl) mj fS rfl (by decide) (by omega) λe h4 c=> ?_;refine c.bf 3 rfl rfl rfl (c.vw 0 rfl).one (c.vw 0 rfl).plain λh5 f=> ?_;rw[bt,wI i (by omega)];exact hZ (I (i+1:Nat),()) h5 hlt ⟨_,e,a3,rfl,R.add hlt (Nat.mod_lt _ (by omega)) hw,by simp;omega,by omega,f⟩
theorem Tx{α:Type}{l:List α}{i:Nat}{a c:α}(h:c∈l.set i a):c∈l\/c=a:=List.mem_or_eq_of_mem_set h
theorem afb(o:Own h0 h (dR d vb 0::L))(hb:Vw oM 1 h0 vb bs)(hK:Bh h0 L K d vb):ah Tryz.prog Dq [ptr d] h K:=by
 refine aK (aab _ ?_);unfold LV;refine o.box λt2 h1 o1=> ?_;refine jQ (n:=12) o1 1 rfl hb (by decide) (by decide) (by decide) λk a1 h2 hk ha1 o2=> ?_;have e1:IntKind.i64.wrap (1+(k:Int))=((k+1:Nat):Int):=by rw[bG (by omega) (by omega)];omega
 simp only[bt,e1];refine⟨bW rfl,?_⟩;refine o2.box λg3 h3 b=> ?_;refine b.st 0 rfl rfl rfl rfl rfl (by simp[fC]) λh4 e=> ?_;obtain⟨n,hn⟩:∃n,n=k+1:=⟨_,rfl⟩;have f:Own h0 h4 (xR aN []::xR aN []::aj g3 [I n,aN,aN,aN] cN::aj t2 [I 0,aN,aN,aN] cN::dR d vb a1::L):=by subst hn;exact(e.en).en
 clear e b o2 o1 o e1;have n1:1<=n:=by omega
 have n2:n<=12:=by omega
 refine cg n (λi x h'=>∃xs ys vx vy a',x.1=I i/\xs.length=i/\ys.length=i/\(∀c∈xs,-2147483648<=c/\c<=2147483647)/\(∀c∈ys,-2147483648<=c/\c<=2147483647)/\a'<=1+2*i/\
  Own h0 h' (xR vx xs::xR vy ys::aj g3 [I n,vx,vy,aN] cN::aj t2 [I 0,aN,aN,aN] cN::dR d vb a'::L)) ⟨[],[],aN,aN,a1,rfl,rfl,rfl,by simp,by simp,by omega,f⟩ ?_
 clear f;rintro i ⟨x,⟨⟩⟩ h Z hi ⟨xs,ys,vx,vy,a',hx,g,l,m,p,ha,o⟩ hZ;dsimp only at hx hZ ⊢;subst hx;unfold LU;simp only[aQ];refine o.load 2 rfl rfl ?_;simp only[bu,bg];refine⟨λhlt=> ?_,λhge=> ?_⟩
 ·have hlt:i<n:=by omega
  refine o.load 2 rfl rfl ?_;refine jQ (n:=9) o 4 rfl hb (by omega) (by decide) (by decide) λk a2 h2 hk ha2 o2=>⟨o2.load 2 rfl rfl rfl,?_⟩;have e2:IntKind.i64.wrap ((k:Int)-3)=(k:Int)-3:=bG (by omega) (by omega);simp only[eM,e2];refine o2.fF 0 ((k:Int)-3) rfl rfl (bW rfl) mU ja rfl (by decide) (by omega) λr h3 b=> ?_;refine b.bf 2 rfl rfl rfl (b.vw 0 rfl).one (b.vw 0 rfl).plain λh4 e=> ?_;refine e.load 2 rfl rfl ?_;refine jQ (n:=7) e 4 rfl hb (by omega) (by decide) (by decide) λk2 a3 h5 hk2 u f=>⟨f.load 2 rfl rfl rfl,?_⟩;refine f.fF 1 (k2:Int) rfl rfl (bW rfl) mU ja rfl (by decide) (by omega) λs h6 q=> ?_;refine q.bf 2 rfl rfl rfl (q.vw 1 rfl).one (q.vw 1 rfl).plain λh7 t=> ?_;rw[bt,wI i (by omega)];refine hZ (I (i+1:Nat),()) h7 hlt ⟨_,_,r,s,a3,rfl,by simp[g],by simp[l],?_,?_,by omega,t⟩
  ·intro c hc;rcases List.mem_append.1 hc with h|h
   ·exact m c h
   ·simp at h;omega
  ·intro c hc;rcases List.mem_append.1 hc with h|h
   ·exact p c h
   ·simp at h;omega
 ·have hin:i=n:=by omega
  refine jQ (n:=9) o 4 rfl hb (by omega) (by decide) (by decide) λk a2 h2 hk ha2 o2=> ?_;simp only[cF,iW];refine⟨λ_=> ?_,λ_=>Tw hK hb ⟨n1,n2,g.trans hin,l.trans hin,m,p,by simp⟩ (by omega) o2⟩;refine o2.load 2 rfl rfl ?_;refine o2.iu 0 (j:=0) rfl (by omega) λh3 b=> ?_;refine b.load 2 rfl rfl (b.load 2 rfl rfl ?_);have e3:IntKind.i64.wrap ((n:Int)-1)=((n-1:Nat):Int):=by rw[bG (by omega) (by omega)];omega
  simp only[eM,e3];refine b.iu 1 (j:=n-1) rfl (by omega) λh4 e=> ?_;refine Tw hK hb ⟨n1,n2,by simp[g,hin],by simp[l,hin],λc hc=> ?_,λc hc=> ?_,by simp⟩ (by omega) e
  ·rcases Tx hc with h|rfl
   ·exact m c h
   ·decide
  ·rcases Tx hc with h|rfl
   ·exact p c h
   ·decide
end
open Go Go.Mh
section
variable{h0 h:aa}{L:List aM}{K:KT}{g:G}{v:Value}
theorem afc(hR:g.Right)(H:mY h v g)(hK:∀h',Ext h h'->K .nilIface h'):ah Tryz.prog Dr [v] h K:=by
 obtain⟨vx,vy,va,rfl,H⟩:=H;refine aK (aac _ ?_);unfold LW;refine(Own.start h).box λr h1 o1=>o1.box λe h2 o2=>o2.bN 1 rfl rfl rfl ?_;refine ae3 hR ⟨vx,vy,va,rfl,H.more o2.ext⟩ λh3 b=> ?_;have c:=o2.more b;refine c.bf 0 rfl rfl rfl rfl rfl λh4 a=> ?_;exact aeX (a.load 0 rfl rfl (hK _ a.ext))
theorem afd(o:Own h0 h L)(hR:g.Right)(H:mY h v g)(hK:∀vx vy va h',Own h0 h' (xR vx g.X::xR vy g.Y::aR va g.ag::L)->K (.agg #[I g.n,vx,vy,va]) h'):ah Tryz.prog Dt [v] h K:=by
 obtain⟨vx,vy,va,rfl,H⟩:=H;refine aK (aae _ ?_);unfold LY;have hx:=hR.x;have hy:=hR.y;have hm:=hR.most;have q:=hR.many;refine(Own.start h).box λr h1 o1=>o1.box λe h2 o2=> ?_;simp only[aQ];refine o2.load 1 rfl rfl (o2.load 1 rfl rfl (o2.load 1 rfl rfl ?_));refine Ts o2 (H.more o2.ext).1 (by omega) λf h3 a=>⟨a.load 2 rfl rfl rfl,a.load 2 rfl rfl rfl,?_⟩;refine Ts a (H.more a.ext).2.1 (by omega) λi h4 c=>⟨c.load 3 rfl rfl rfl,?_⟩;refine ae4 c (H.more c.ext).2.2 (by omega) λj h5 b=> ?_;have d:=b.vw 0 rfl;have p1:=b.vw 1 rfl;have p2:=b.vw 2 rfl;refine b.bf 4 rfl rfl rfl p2.one p2.plain λh6 m=> ?_;refine m.bf 4 rfl rfl rfl p1.one p1.plain λh7 p=> ?_;refine p.bf (cs':=[I g.n,f,i,j]) 4 rfl rfl rfl d.one d.plain λh8 k=> ?_;refine k.bN 4 rfl rfl rfl ?_;refine k.st 3 rfl rfl rfl rfl rfl ?_ λh9 l=> ?_
 ·intro u hu;simp at hu;rcases hu with rfl|rfl|rfl|rfl
  ·rfl
  ·exact p2.plain
  ·exact p1.plain
  ·exact d.plain
 ·refine l.bN 3 rfl rfl rfl ?_;exact hK f i j h9 (o.frame (l.bh [2,1,0] (by decide)))
end
open Go Go.Mh
def qm(h:aa)(a:Value)(n:Nat)(f:Nat->List Nat):Prop:=
 ∃ls:List Value,ls.length=n/\Vw jL 1 h a ls/\∀v(hv:v<ls.length),Vw aV 1 h ls[v] (f v)
theorem qm.more{h h':aa}{d:Value}{n:Nat}{f:Nat->List Nat}(H:qm h d n f)(x:Ext h h'):qm h' d n f:=by
 obtain⟨ls,a,b,c⟩:=H;exact⟨ls,a,b.more x,λv hv=>(c v hv).more x⟩
section
variable{p:A->Nat}{l:List A}{bl:Nat}
open Arcs
def mC(p:A->Nat)(l:List A)(bl v len:Nat):Value:=.slice (fN 1 (off p l v) (off p l v+cnt p l v) (some ⟨bl,0,none⟩)) len (cnt p l v)
theorem Ty{v len:Nat}(h:0<cnt p l v):mC p l bl v len=.slice (some ⟨bl,off p l v,none⟩) len (cnt p l v):=by
 have :¬off p l v+cnt p l v=off p l v:=by omega
 simp only[mC,fN,if_neg this];simp
def rO(p:A->Nat)(l:List A)(n i:Nat)(c:List Nat):Prop:=
 c.length=l.length/\∀v,v<n->∀j,j<(fill p l i v).length->c[off p l v+j]? =(fill p l i v)[j]?
theorem rO.zero{n:Nat}{c:List Nat}(h:c.length=l.length):rO p l n 0 c:=⟨h,λv _ j hj=>by simp[fill,fT]at hj⟩
theorem rO.succ{n i:Nat}{c:List Nat}(H:rO p l n i c)(hi:i<l.length):rO p l n (i+1) (c.set (off p l (p l[i])+(fill p l i (p l[i])).length) i):=by
 refine⟨by simp[H.1],λv hv j hj=> ?_⟩;rw[zj hi]at hj ⊢;have hlt:=J8 (p:=p) hi;by_cases e:p l[i]=v
 ·rw[if_pos e]at hj ⊢;rw[e]at hlt ⊢;simp only[List.length_append,List.length_singleton]at hj;by_cases hj':j<(fill p l i v).length
  ·rw[List.getElem?_set_ne (by omega),List.getElem?_append_left hj',H.2 v hv j hj']
  ·have :j=(fill p l i v).length:=by omega
   subst this;have hb:off p l v+(fill p l i v).length<c.length:=by
    rw[H.1,tj];have :=zi (p:=p) (l:=l) (v:=v);omega
   rw[List.getElem?_set_self hb,List.getElem?_append_right (Nat.le_refl _),Nat.sub_self];rfl
 ·rw[if_neg e,List.append_nil]at hj ⊢;rw[List.getElem?_set_ne,H.2 v hv j hj];rw[tj];have a:j<cnt p l v:=Nat.lt_of_lt_of_le hj J6;intro heq;rcases Nat.lt_or_gt_of_ne e with h|h
  ·have h1:=J3 (p:=p) (l:=l) (show p l[i]+1<=v from h);rw[vT]at h1;omega
  ·have h1:=J3 (p:=p) (l:=l) (show v+1<=p l[i]from h);rw[vT]at h1;omega
theorem afe{h:aa}{n i:Nat}{c:List Nat}{v:Nat}{T:TypeId}(H:rO p l n i c)(hv:v<n)(hb:h[bl]? =some (.cells (Mh.row aV c).toArray T (0,0))):Vw aV 1 h (mC p l bl v (fill p l i v).length) (fill p l i v):=by
 have hle:(fill p l i v).length<=cnt p l v:=J6;have a:=zi (p:=p) (l:=l) (v:=v);refine⟨bl,_,_,rfl,hle,?_⟩;by_cases h0:cnt p l v=0
 ·have :fill p l i v=[]:=List.eq_nil_of_length_eq_zero (by omega);rw[this];refine .inl ⟨rfl,.inr ⟨bl,0,?_⟩⟩;simp[fN,h0]
 ·refine .inr ⟨off p l v,Mh.row aV (c.take (off p l v)),Mh.row aV (c.drop (off p l v+(fill p l i v).length)),T,(0,0),?_,?_,?_⟩
  ·have :¬off p l v+cnt p l v=off p l v:=by omega
   simp only[fN,if_neg this];simp
  ·rw[hb,<-oH,<-oH];have e:(c.drop (off p l v)).take (fill p l i v).length=fill p l i v:=by
    apply List.ext_getElem?;intro j;by_cases hj:j<(fill p l i v).length
    ·rw[List.getElem?_take_of_lt hj,List.getElem?_drop,H.2 v hv j hj]
    ·rw[List.getElem?_eq_none (by simp;omega),List.getElem?_eq_none (by omega)]
   have :c=c.take (off p l v)++fill p l i v++c.drop (off p l v+(fill p l i v).length):=by
    conv=>lhs;rw[<-List.take_append_drop (off p l v) c]
    rw[List.append_assoc];congr 1
    conv=>lhs;rw[<-List.take_append_drop (fill p l i v).length (c.drop (off p l v))]
    rw[e,List.drop_drop]
   rw[<-this]
  ·rw[gi rm,Nat.mul_one,List.length_take,H.1];omega
end
section
variable{h0 h:aa}{L:List aM}{K:KT}{g:G}{v:Value}{r:Nat}{vx vy va fJ:Value}{p:A->Nat}
open Arcs
def jd(fJ:Value)(p:A->Nat):Prop:=∀(a:A)(h:aa)(K:KT),(∀h',Ext h h'->K (I (p a)) h')->aS Tryz.prog fJ [.agg (dS a).toArray].toArray h K
theorem aff:jd (.func (.func DC) #[] #[]) A.f:=by
 intro a h K hK;refine bU (l:=[.agg (dS a).toArray]) rfl (aaE _ ?_);unfold MD;refine(Own.start h).box λb h1 o1=> ?_;simp only[aQ];exact o1.load 0 rfl rfl (hK _ o1.ext)
theorem afg:jd (.func (.func DD) #[] #[]) A.t:=by
 intro a h K hK;refine bU (l:=[.agg (dS a).toArray]) rfl (aaF _ ?_);unfold ME;refine(Own.start h).box λb h1 o1=> ?_;simp only[aQ];exact o1.load 0 rfl rfl (hK _ o1.ext)
abbrev nk(p:A->Nat)(l:List A)(n bl i:Nat):List Value:=(List.range n).map λv=>mC p l bl v (fill p l i v).length
def GO(h:aa)(g:G)(p:A->Nat)(K:KT):Prop:=
 ∀b(R:aM) h',Own h h' [R]->(∀h'',R.Q h''->qm h'' b g.n λv=>fT (λa=>p a==v) g.ag 0)->K b h'
theorem afh{bl:Nat}{c:List Nat}{f:Value}{h':aa}(hR:g.Right)(hp:∀a∈g.ag,p a<g.n)(hE:jd fJ p)(hv:Vw dS 3 h va g.ag)(hc:c.length=g.ag.length)
  (o:Own h h' [aA jL 1 bR f (nk p g.ag g.n bl 0),aj bl (Mh.row aV c) au]) (hK:GO h g p K):
  bK (σ:=bw [64]) (λx hh y=>FR Tryz.prog (I g.ag.length) va fJ f K x.1 hh (λa0 hz=>y (a0,()) hz)) ((.int .i64 0),()) h':=by
 have D:=hR.many;refine cg g.ag.length (λi x h'=>x.1=I i/\∃c,rO p g.ag g.n i c/\Own h h' [aA jL 1 bR f (nk p g.ag g.n bl i),aj bl (Mh.row aV c) au]) ⟨rfl,c,.zero hc,o⟩ ?_;rintro i ⟨x,⟨⟩⟩ h2 Z hi ⟨hx,c,hC,o⟩ hZ;dsimp only at hx hZ ⊢;subst hx;unfold FR;simp only[bu,bg];refine⟨λhlt=> ?_,λhge=> ?_⟩
 ·have hlt:i<g.ag.length:=by omega
  unfold eW;dsimp only;refine(hv.more o.ext).mh mj hlt ?_;have hpa:=hp _ (List.getElem_mem hlt);have E:=J8 (p:=p) hlt;have F:=zi (p:=p) (l:=g.ag) (v:=p g.ag[i]);have hfl:(fill p g.ag i (p g.ag[i])).length=cnt p (g.ag.take i) (p g.ag[i]):=tj;have hrl:p g.ag[i]<(nk p g.ag g.n bl i).length:=by simpa using hpa
  have hrow:(nk p g.ag g.n bl i)[p g.ag[i]]=.slice (some ⟨bl,off p g.ag (p g.ag[i]),none⟩) (fill p g.ag i (p g.ag[i])).length (cnt p g.ag (p g.ag[i])):=by
   simp only[List.getElem_map,List.getElem_range];exact Ty (by omega)
  have app:∀{h3:aa}{w:Value}{b:Nat}{cs:List Value},Own h h3 [aA aV 1 au w [i],aj b cs cC,aA jL 1 bR f (nk p g.ag g.n bl i),aj bl (Mh.row aV c) au]->
    cZ au 1 8 [(.int .i64 0)] (nk p g.ag g.n bl i)[p g.ag[i]] w h3 λt81 h4=>aW 1 f (I (p g.ag[i])) λt82=>aC 1 t82 t81 h4 λu h5=>FQ Tryz.prog (I i) (λa0 hz=>Z (a0,()) hz) h5:=by
   intro h3 w b cs q;rw[hrow];refine q.Y8 (e:=λx:Nat=>I x) 3 rfl (λ_=>rfl) rfl (q.vw 0 rfl) (by omega) (by rw[gi rm,hC.1];omega) λh4 m=> ?_;have z:.slice (some ⟨bl,off p g.ag (p g.ag[i]),none⟩) ((fill p g.ag i (p g.ag[i])).length+1) (cnt p g.ag (p g.ag[i]))=mC p g.ag bl (p g.ag[i]) (fill p g.ag (i+1) (p g.ag[i])).length:=by
    rw[Ty (by omega),zj hlt];simp
   rw[z];refine m.setAt (a:=mC p g.ag bl (p g.ag[i]) (fill p g.ag (i+1) (p g.ag[i])).length) 2 rfl J1 (by intro u hu;simp[jL]at hu;subst hu;rfl) hrl rfl λh5 d=> ?_;unfold FQ;rw[bt,wI i (by omega)];refine hZ (I (i+1:Nat),()) h5 hlt ⟨rfl,_,hC.succ hlt,?_⟩;have e1:(nk p g.ag g.n bl i).set (p g.ag[i]) (mC p g.ag bl (p g.ag[i]) (fill p g.ag (i+1) (p g.ag[i])).length)=nk p g.ag g.n bl (i+1):=by
    rw[Dd];apply List.map_congr_left;intro v hv;split<;>rename_i e
    ·rw[e]
    ·rw[zj hlt,if_neg (λe'=>e e'.symm),List.append_nil]
   have e2:(Mh.row aV c).set (off p g.ag (p g.ag[i])+(fill p g.ag i (p g.ag[i])).length) (I i)=Mh.row aV (c.set (off p g.ag (p g.ag[i])+(fill p g.ag i (p g.ag[i])).length) i):=by
    have t:∀l:List Nat,Mh.row aV l=l.map λx:Nat=>I x:=λl=>by induction l<;>simp_all [Mh.row,aV]
    rw[t,t,List.map_set]
   rw[<-e1,<-e2];exact d.tail.tail
  refine o.box λb h3 q=>q.st 0 rfl rfl rfl rfl rfl (fS _) λh4 m=> ?_;refine m.bN 0 rfl rfl rfl (m.bN 0 rfl rfl rfl ?_);have build:∀{h5:aa}{KH:KT}{R:List aM},Own h h5 R->(∀w h6,Own h h6 (aA aV 1 au w [i]::R)->KH w h6)->cz au (bO [(.int .i64 0)] 1) [(0,1,I i)] 1 h5 KH:=λd hk=>
   d.build (enc:=aV) (n:=1) [i] rfl (bW rfl) rfl hk
  refine⟨?_,?_⟩
  ·refine hE _ _ _ λh5 B=> ?_;have d:=m.more B;refine⟨d.bN 0 rfl rfl rfl rfl,?_,?_⟩
   ·refine hE _ _ _ λh6 s=> ?_;have j:=d.more s;refine(j.vw 1 rfl).dH (e:=λx=>x) (λ_=>rfl) hrl ?_;exact build j λw h7 k=>app k
   ·refine build d λw h6 j=>hE _ _ _ λh7 x7=> ?_;have k:=j.more x7;refine(k.vw 2 rfl).dH (e:=λx=>x) (λ_=>rfl) hrl ?_;exact app k
  ·refine build m λw h5 d=>hE _ _ _ λh6 s=> ?_;have j:=d.more s;refine⟨j.bN 1 rfl rfl rfl rfl,hE _ _ _ λh7 x7=> ?_⟩;have k:=j.more x7;refine(k.vw 2 rfl).dH (e:=λx=>x) (λ_=>rfl) hrl ?_;exact app k
 ·have :i=g.ag.length:=by omega
  subst this;refine hK f _ h2 (Own.pack (l:=[aA jL 1 bR f (nk p g.ag g.n bl g.ag.length),aj bl (Mh.row aV c) au]) o) λh'' hq=> ?_;obtain⟨b2,H⟩:=hq (aA jL 1 bR f (nk p g.ag g.n bl g.ag.length)) (by simp);have hb:=hq (aj bl (Mh.row aV c) au) (by simp);refine⟨_,by simp,⟨b2,H.view⟩,λv hv=> ?_⟩;have C:v<g.n:=by simpa using hv
  have :=afe hC C hb;simp only[List.getElem_map,List.getElem_range];rw[show fT (λa=>p a==v) g.ag 0=fill p g.ag g.ag.length v by unfold fill;rw[List.take_of_length_le (Nat.le_refl _)]];exact this
end
open Go Go.Mh
section
variable{h0 h:aa}{L:List aM}{K:KT}{g:G}{v:Value}{r:Nat}{vx vy va fJ:Value}{p:A->Nat}
open Arcs
abbrev oU(p:A->Nat)(l:List A)(n i:Nat):List Nat:=(List.range n).map (cnt p (l.take i))
abbrev uk(p:A->Nat)(l:List A)(n bl v:Nat):List Value:=(List.range n).map λu=>if u<v then mC p l bl u 0 else .slice none 0 0
theorem Tz{bl:Nat}{c:List Nat}{vm b:Value}{h':aa}(hR:g.Right)(hp:∀a∈g.ag,p a<g.n)(hE:jd fJ p)(hr:h[r]? =some (.cells #[I g.n,vx,vy,va] cN (0,0)))(hv:Vw dS 3 h va g.ag)(hc:c.length=g.ag.length)
  (o:Own h h' [aA aV 1 au vm (oU p g.ag g.n g.ag.length),aA jL 1 bR b (uk p g.ag g.n bl 0),aj bl (Mh.row aV c) au]) (hK:GO h g p K):
  FT Tryz.prog vm (ptr r) fJ K (.slice (some ⟨bl,0,none⟩) g.ag.length g.ag.length) b h':=by
 have q:=hR.many;have s:=hR.most;unfold FT;refine(o.vw 0 rfl).len ?_;have d:(oU p g.ag g.n g.ag.length).length=g.n:=by simp
 rw[d];refine cg g.n (λi x h'=>x.1=I (off p g.ag i)/\x.2.1=I i/\Own h h' [aA aV 1 au vm (oU p g.ag g.n g.ag.length),aA jL 1 bR b (uk p g.ag g.n bl i),aj bl (Mh.row aV c) au])
  ⟨by rw[Zi];rfl,rfl,o⟩ ?_
 clear o;rintro i ⟨x,y,⟨⟩⟩ h2 Z hi ⟨hx,hy,o⟩ hZ;dsimp only at hx hy hZ ⊢;subst hx hy;unfold MA;simp only[bu,bg];refine⟨λhlt=> ?_,λhge=> ?_⟩
 ·have hlt:i<g.n:=by omega
  have t:=zi (p:=p) (l:=g.ag) (v:=i);have hos:=vT (p:=p) (l:=g.ag) (v:=i);have f:(oU p g.ag g.n g.ag.length)[i]'(by rw[d];exact hlt)=cnt p g.ag i:=by
   simp only[List.getElem_map,List.getElem_range,List.take_of_length_le (Nat.le_refl _)]
  refine(o.vw 0 rfl).dH (e:=λx:Nat=>I x) (λ_=>rfl) (by rw[d];exact hlt) ?_;rw[f];have e1:IntKind.i64.wrap (((off p g.ag i:Nat):Int)+((cnt p g.ag i:Nat):Int))=((off p g.ag i+cnt p g.ag i:Nat):Int):=by rw[bG (by omega) (by omega)];omega
  simp only[bt,e1];refine⟨λ_=>rfl,by omega,Int.le_refl _,by omega,by omega,?_⟩;have j:(Value.slice (fN 1 ((off p g.ag i:Nat):Int).toNat ((off p g.ag i+cnt p g.ag i:Nat):Int).toNat (some ⟨bl,0,none⟩)) (((off p g.ag i:Nat):Int).toNat-((off p g.ag i:Nat):Int).toNat) (((off p g.ag i+cnt p g.ag i:Nat):Int).toNat-((off p g.ag i:Nat):Int).toNat))=mC p g.ag bl i 0:=by
   simp only[mC,Int.toNat_natCast,Nat.sub_self];congr 1;omega
  rw[j];refine o.setAt (a:=mC p g.ag bl i 0) 1 rfl J1 (by intro u hu;simp[jL]at hu;subst hu;rfl) (by simpa using hlt) rfl λh3 k=> ?_;rw[wI i (by omega),<-hos];refine hZ (I (off p g.ag (i+1):Nat),(I (i+1:Nat),())) h3 hlt ⟨rfl,rfl,?_⟩;have e2:(uk p g.ag g.n bl i).set i (mC p g.ag bl i 0)=uk p g.ag g.n bl (i+1):=by
   rw[Dd];apply List.map_congr_left;intro u hu;by_cases h1:u=i
   ·subst h1;simp
   ·by_cases h2:u<i
    ·simp[h1,h2,show u<i+1 by omega]
    ·simp[h1,h2,show ¬u<i+1 by omega]
  rw[<-e2];exact k
 ·have :i=g.n:=by omega
  subst this;have m:hcell h2 ⟨r,3,none⟩=some va:=aY (o.ext.get hr) rfl;simp only[aQ,cI,Nat.zero_add,m];refine(hv.more o.ext).len ?_;refine afh (bl:=bl) hR hp hE hv hc ?_ hK;have e3:uk p g.ag g.n bl g.n=nk p g.ag g.n bl 0:=by
   apply List.map_congr_left;intro u hu;have :u<g.n:=by simpa using hu
   simp[this,fill,fT]
  rw[<-e3];exact o.tail
theorem TA(hR:g.Right)(hp:∀a∈g.ag,p a<g.n)(hE:jd fJ p)(hr:h[r]? =some (.cells #[I g.n,vx,vy,va] cN (0,0)))(hv:Vw dS 3 h va g.ag)(hK:GO h g p K):
  aE Tryz.prog zD [fJ,ptr r].toArray h K:=by
 have w:=hR.many;have y:=hR.most;refine aaD _ _ ?_;unfold MC;have c0:hcell h ⟨r,0,none⟩=some (I g.n):=aY hr rfl;simp only[aQ,cI,Nat.zero_add,c0];refine(Own.start h).make (enc:=aV) (n:=1) (a:=0) rfl (by omega) (by omega) λvm h1 o1=> ?_;have c3:hcell h1 ⟨r,3,none⟩=some va:=aY (o1.ext.get hr) rfl;simp only[c3];refine(hv.more o1.ext).len ?_;refine cg g.ag.length (λi x h'=>x.1=I i/\Own h h' [aA aV 1 au vm (oU p g.ag g.n i)]) ⟨rfl,?_⟩ ?_
 ·have e:List.replicate g.n 0=oU p g.ag g.n 0:=by
   apply List.ext_getElem
   ·simp
   ·intro j h1 h2;simp[cnt]
  rw[<-e];exact o1
 clear o1;rintro i ⟨x,⟨⟩⟩ h2 Z hi ⟨hx,o⟩ hZ;dsimp only at hx hZ ⊢;subst hx;unfold MB;simp only[bu,bg];refine⟨λhlt=> ?_,λhge=> ?_⟩
 ·have hlt:i<g.ag.length:=by omega
  refine(hv.more o.ext).mh mj hlt ?_;have hpa:=hp _ (List.getElem_mem hlt);have f:p g.ag[i]<(oU p g.ag g.n i).length:=by simpa using hpa
  have hle:cnt p (g.ag.take i) (p g.ag[i])<=(g.ag.take i).length:=Zk;simp only[List.length_take]at hle;refine o.box λb h3 d=>d.st 0 rfl rfl rfl rfl rfl (fS _) λh4 c=> ?_;refine c.bN 0 rfl rfl rfl (hE _ _ _ λh5 q=> ?_);have k:=c.more q;refine(k.vw 1 rfl).dH (e:=λx:Nat=>I x) (λ_=>rfl) f ?_;simp only[List.getElem_map,List.getElem_range];rw[bt,wI _ (by omega)];refine k.setAt (a:=cnt p (g.ag.take i) (p g.ag[i])+1) 1 rfl rm (nP _) f rfl λh6 s=> ?_;rw[bt,wI i (by omega)];refine hZ (I (i+1:Nat),()) h6 hlt ⟨rfl,?_⟩;have e:(oU p g.ag g.n i).set (p g.ag[i]) (cnt p (g.ag.take i) (p g.ag[i])+1)=oU p g.ag g.n (i+1):=by
   rw[Dd];apply List.map_congr_left;intro u hu;rw[J7 hlt];split<;>rename_i e
   ·rw[e];simp
   ·simp[show ¬p g.ag[i]=u from λe'=>e e'.symm]
  rw[<-e];exact s.tail
 ·have :i=g.ag.length:=by omega
  subst this;have c0:hcell h2 ⟨r,0,none⟩=some (I g.n):=aY (o.ext.get hr) rfl;have c3:hcell h2 ⟨r,3,none⟩=some va:=aY (o.ext.get hr) rfl;unfold eW;simp only[aQ,cI,Nat.zero_add,c0,c3];refine(hv.more o.ext).len ?_;have e0:∀m,(List.replicate m [Value.int .i64 0]).flatten=Mh.row aV (List.replicate m 0):=λm=>by simp[Mh.row,List.flatMap,aV]
  have l:∀bl,List.replicate g.n (Value.slice none 0 0)=uk p g.ag g.n bl 0:=λbl=>by
   apply List.ext_getElem
   ·simp
   ·intro j h1 h2;simp
  have z:=c0;refine⟨?_,?_⟩
  ·refine o.JT (by omega) (by omega) λbl h3 d=> ?_;refine d.make (enc:=jL) (n:=1) (a:=.slice none 0 0) rfl (by omega) (by omega) λt h4 c=> ?_;rw[e0,l bl]at c;exact Tz hR hp hE hr hv (by simp) (c.bh [2,0,1] (by decide)) hK
  ·refine o.make (enc:=jL) (n:=1) (a:=.slice none 0 0) rfl (by omega) (by omega) λt h3 d=> ?_;refine d.JT (by omega) (by omega) λbl h4 c=> ?_;rw[e0,l bl]at c;exact Tz hR hp hE hr hv (by simp) (c.bh [2,1,0] (by decide)) hK
def bJ(h:aa)(r:Nat)(g:G):Prop:=
 ∃vx vy va vo a,h[r]? =some (.cells #[I g.n,vx,vy,va,vo,a] wV (0,0))/\nO h vx vy va g/\qm h vo g.n g.out/\qm h a g.n g.in
theorem bJ.more{h h':aa}(H:bJ h r g)(x:Ext h h'):bJ h' r g:=by
 obtain⟨vx,vy,va,vo,e,a,b,c,d⟩:=H;exact⟨vx,vy,va,vo,e,x.get a,b.more x,c.more x,d.more x⟩
def rP(N:aM)(r:Nat)(g:G):Prop:=∀h,N.Q h->bJ h r g
theorem afi(o:Own h0 h (xR vx g.X::xR vy g.Y::aR va g.ag::L))(hR:g.Right)(hK:∀r N h',rP N r g->Own h0 h' (N::L)->K (ptr r) h'):ah Tryz.prog Ds [.agg #[I g.n,vx,vy,va]] h K:=by
 have z:=o.vw 0 rfl;have p1:=o.vw 1 rfl;have p2:=o.vw 2 rfl;refine aK (aad _ ?_);unfold LX;refine(Own.start h).box λrb h1 o1=>o1.bN 0 rfl rfl rfl ⟨bW rfl,o1.box λr h2 o2=> ?_⟩;refine bU (l:=[_,ptr rb]) rfl (TA hR (λa ha=>(hR.ends a ha).1) aff (o2.get 1 rfl) (p2.more o2.ext) λvo d h3 s hro=> ?_);have e:=o2.frame s;refine bU (l:=[_,ptr rb]) rfl (TA hR (λa ha=>(hR.ends a ha).2.1) afg (e.get 2 rfl) (p2.more e.ext) λb i h4 t k=> ?_);have j:=e.frame t;have plain:∀{h:aa}{c:Value}{n:Nat}{f:Nat->List Nat},qm h c n f->c.cells= #[c]/\Mh.plainCell c=true:=λ⟨_,_,a,_⟩=>⟨a.one,a.plain⟩;have m:=plain (hro _ (j.get 1 rfl));have q:=plain (k _ (j.get 0 rfl));simp only[bz,aQ];refine j.bf 2 rfl rfl rfl m.1 m.2 λh5 u=>u.bf (cs':=[I g.n,vx,vy,va,vo,b]) 2 rfl rfl rfl q.1 q.2 λh6 w=> ?_;have x:=o.frame (w.bh [2,1,0] (by decide));refine hK r (C7 [aj r [I g.n,vx,vy,va,vo,b] wV,d,i,xR vx g.X,xR vy g.Y,aR va g.ag]) h6 (λh hq=> ?_) (Own.pack (l:=[aj r [I g.n,vx,vy,va,vo,b] wV,d,i,xR vx g.X,xR vy g.Y,aR va g.ag]) x);obtain⟨b1,q1⟩:=hq (xR vx g.X) (by simp);obtain⟨b2,q2⟩:=hq (xR vy g.Y) (by simp);obtain⟨b3,y⟩:=hq (aR va g.ag) (by simp);exact⟨vx,vy,va,vo,b,hq (aj r [I g.n,vx,vy,va,vo,b] wV) (by simp),⟨⟨_,q1.view⟩,⟨_,q2.view⟩,⟨_,y.view⟩⟩,hro _ (hq d (by simp)),k _ (hq i (by simp))⟩
theorem TC(o:Own h0 h L)(hR:g.Right)(H:mY h v g)(hK:∀r N h',rP N r g->Own h0 h' (N::L)->K (.tuple #[ptr r,.nilIface]) h'):ah Tryz.prog zn [v] h K:=by
 obtain⟨vx,vy,va,rfl,H⟩:=H;refine aK (Z4 _ ?_);unfold LB;refine(Own.start h).box λb h1 o1=>o1.bN 0 rfl rfl rfl ?_;refine afc hR ⟨vx,vy,va,rfl,H.more o1.ext⟩ λh2 a=> ?_;have o2:=o1.more a;simp only[YX,aL];refine o2.bN 0 rfl rfl rfl ?_;refine afd o2 hR ⟨vx,vy,va,rfl,H.more o2.ext⟩ λe f i h3 c=> ?_;exact afi c hR λr N h4 hN d=>hK r N h4 hN (o.frame (d.bh [0] (by decide)))
end
open Go Go.Mh
section
variable{h0 h:aa}{L:List aM}{K:KT}{g:G}{r i:Nat}{z:Int}
theorem dF(H:bJ h r g)(hK:K (I g.n) h):ah Tryz.prog ct [ptr r] h K:=by
  obtain⟨vx,vy,va,vo,a,hr,b,ho,hi⟩:=H;refine aK (aau _ ?_);unfold Mo;have c0:hcell h ⟨r,0,none⟩=some (I g.n):=aY hr rfl;simp only[ef,Option.isNone_some,aL,bz,aQ,cI,Nat.zero_add,c0];exact hK
theorem rQ(H:bJ h r g)(hK:K (I g.ag.length) h):ah Tryz.prog kH [ptr r] h K:=by
  obtain⟨vx,vy,va,vo,b,hr,a,ho,hi⟩:=H;refine aK (aa4 _ ?_);unfold Nf;have c3:hcell h ⟨r,3,none⟩=some va:=aY hr rfl;simp only[ef,Option.isNone_some,aL,bz,aQ,cI,Nat.zero_add,c3];exact a.2.2.len hK
theorem afj{v:Value}{l:List A}(H:Vw dS 3 h v l)(h1:∀i(hi:i<l.length),z=(i:Int)->∀h',Ext h h'->K (.tuple #[vA l[i],.bool true]) h')
    (h2:¬(0<=z/\z<l.length)->∀h',Ext h h'->K (.tuple #[vA ⟨0,0,0⟩,.bool false]) h'):ah Tryz.prog EN [v,I z] h K:=by
  refine aK (adr _ _ ?_);unfold Q6 Gp;refine(Own.start h).box λb a o1=> ?_;have none:¬(0<=z/\z<l.length)->aZ 3 a (ptr b) λt14=>aC 3 (ptr b) t14 a λu h_3=>aZ 3 h_3 (ptr b) λres=>K (.tuple #[res,(.bool false)]) h_3:=λhz=>
    o1.bN 0 rfl rfl rfl (o1.st 0 rfl rfl rfl rfl rfl (fS ⟨0,0,0⟩) λc o2=>o2.bN 0 rfl rfl rfl (h2 hz _ o2.ext))
  simp only[bu,bg];refine⟨λe=>none (by omega),λe=> ?_⟩;refine(H.more o1.ext).len ?_;simp only[c8,bg];refine⟨λe=>none (by omega),λe'=> ?_⟩;obtain⟨i,rfl⟩:=Int.eq_ofNat_of_zero_le (show 0<=z by omega);have hi:i<l.length:=by omega
  refine(H.more o1.ext).mh mj hi ?_;exact o1.st 0 rfl rfl rfl rfl rfl (fS _) λc o2=>o2.bN 0 rfl rfl rfl (h1 i hi rfl _ o2.ext)
theorem TD(H:bJ h r g)(h1:∀i(hi:i<g.ag.length),z=(i:Int)->∀h',Ext h h'->K (.tuple #[vA g.ag[i],.bool true]) h')
    (h2:¬(0<=z/\z<g.ag.length)->∀h',Ext h h'->K (.tuple #[vA ⟨0,0,0⟩,.bool false]) h'):ah Tryz.prog jN [ptr r,I z] h K:=by
  obtain⟨vx,vy,va,vo,j,hr,d,ho,hi⟩:=H;refine aK (aci _ _ ?_);unfold OV;refine(Own.start h).box λb e o1=> ?_;have c3:hcell e ⟨r,3,none⟩=some va:=aY (o1.ext.get hr) rfl;simp only[ef,Option.isNone_some,aL,bz,aQ,cI,Nat.zero_add,c3];refine afj (d.more o1.ext).2.2 (λi hi hz f c=> ?_) λhz f c=> ?_
  · have o2:=o1.more c;simp only[b9,bZ];exact o2.st 0 rfl rfl rfl rfl rfl (fS _) λh3 a=>a.bN 0 rfl rfl rfl (h1 i hi hz _ a.ext)
  · have o2:=o1.more c;simp only[b9,bZ];exact o2.st 0 rfl rfl rfl rfl rfl (fS ⟨0,0,0⟩) λh3 a=>a.bN 0 rfl rfl rfl (h2 hz _ a.ext)
theorem nY(H:bJ h r g)(hi:i<g.ag.length)(hK:∀h',Ext h h'->K (.tuple #[vA g.ag[i],.bool true]) h'):ah Tryz.prog jN [ptr r,I i] h K:=
  TD H (fun j hj e h' x => by      obtain rfl:i=j:=by omega
                                   exact hK h' x) λe=>by omega
theorem TE{v:Value}{n:Nat}{f:Nat->List Nat}(H:qm h v n f)(h1:∀i v',i<n->z=(i:Int)->Vw aV 1 h v' (f i)->K (.tuple #[v',.bool true]) h)
    (h2:¬(0<=z/\z<n)->K (.tuple #[.slice none 0 0,.bool false]) h):ah Tryz.prog zJ [v,I z] h K:=by
  obtain⟨ls,hl,hv,hls⟩:=H;refine aK (abe _ _ ?_);unfold Nu FX;simp only[bu,bg];refine⟨λe=>h2 (by omega),λe=>hv.len ?_⟩;simp only[c8,bg];refine⟨λe=>h2 (by omega),λe'=> ?_⟩;obtain⟨i,rfl⟩:=Int.eq_ofNat_of_zero_le (show 0<=z by omega);have hi:i<ls.length:=by omega
  exact hv.dH (e:=λx=>x) (λ_=>rfl) hi (h1 i _ (by omega) rfl (hls i hi))
theorem rR{q:A->Bool}{l:List A}{i:Nat}:(fT q l i).length<=l.length:=by rw[vU];exact List.countP_le_length
theorem TF(o:Own h0 h L)(hR:g.Right)(H:bJ h r g)(hK:∀v' h',Own h0 h' (aA aV 1 au v' (if 0<=z/\z<g.n then g.out z.toNat else[])::L)->K v' h'):ah Tryz.prog rz [ptr r,I z] h K:=by
  have a:=hR.many;obtain⟨vx,vy,va,vo,b,hr,c,ho,hi⟩:=H;refine aK (aan _ _ ?_);unfold Mf;have c4:hcell h ⟨r,4,none⟩=some vo:=aY hr rfl;simp only[ef,Option.isNone_some,aL,bz,aQ,cI,Nat.zero_add,c4];refine TE ho (λi v' hi hz hv=> ?_) λhz=> ?_
  · subst hz;rw[if_pos (by omega)]at hK;simp only[b9,bZ];exact Bg o hv (Nat.le_trans rR (by omega)) hK
  · rw[if_neg hz]at hK;simp only[b9,bZ];exact Bg o Vw.nil (by simp) hK
theorem TG(o:Own h0 h L)(hR:g.Right)(H:bJ h r g)(hK:∀v' h',Own h0 h' (aA aV 1 au v' (if 0<=z/\z<g.n then g.in z.toNat else[])::L)->K v' h'):ah Tryz.prog rC [ptr r,I z] h K:=by
  have c:=hR.many;obtain⟨vx,vy,va,vo,a,hr,d,ho,hi⟩:=H;refine aK (abJ _ _ ?_);unfold Ob;have b:hcell h ⟨r,5,none⟩=some a:=aY hr rfl;simp only[ef,Option.isNone_some,aL,bz,aQ,cI,Nat.zero_add,b];refine TE hi (λi v' hi hz hv=> ?_) λhz=> ?_
  · subst hz;rw[if_pos (by omega)]at hK;simp only[b9,bZ];exact Bg o hv (Nat.le_trans rR (by omega)) hK
  · rw[if_neg hz]at hK;simp only[b9,bZ];exact Bg o Vw.nil (by simp) hK
end
open Go Go.Mh
abbrev lG:Nat:=Lq
abbrev iN:Nat:=nj
theorem TH{x:Int}{h:aa}{K:KT}(hk:K (.bool false) h):ah Tryz.prog Ao [I x] h K:=
 aK (Gv _ (by simpa[A9]using hk))
theorem TI{x:Int}{h:aa}{K:KT}(hk:K (.bool false) h):ah Tryz.prog Ap [I x] h K:=
 aK (Gw _ (by simpa[Ba]using hk))
def jx(x y:Int):Int:=if x<y then -1 else if y<x then 1 else 0
theorem afk{x y:Int}{h:aa}{K:KT}(hk:K (I (jx x y)) h):ah Tryz.prog tO [I x,I y] h K:=by
 refine aK (QT _ _ (TH (TH ?_)));unfold jx at hk;by_cases h1:x<y
 ·simpa[h1]using hk
 ·by_cases h2:y<x
  ·simpa[h1,h2]using hk
  ·simpa[h1,h2]using hk
theorem afl{x y:Int}{h:aa}{K:KT}(hk:K (I (jx x y)) h):ah Tryz.prog wM [I x,I y] h K:=by
 refine aK (QV _ _ (TI (TI ?_)));unfold jx at hk;by_cases h1:x<y
 ·simpa[h1]using hk
 ·by_cases h2:y<x
  ·simpa[h1,h2]using hk
  ·simpa[h1,h2]using hk
theorem afm{a b:Int}{c:Nat}{h:aa}{T:TypeId}{K:KT}(hb:h[c]? =some (.cells #[I a,I b] T (0,0)))
  (hk:K (I (if a=0 then b else a)) h):ah Tryz.prog wL [.slice (some ⟨c,0,none⟩) 2 2] h K:=by
 refine aK (QO _ ?_);have c0:hcell h ⟨c,0,none⟩=some (I a):=aY hb rfl;have c1:hcell h ⟨c,1,none⟩=some (I b):=aY hb rfl;unfold Gn;simp only[JF];refine vG (λx h'=>h'=h/\((x.1=I 0)\/(x.1=I 1/\a=0)\/(x.1=I 2/\a=0/\b=0))) (λx _=>match x.1 with| .int _ n=>(2-n).toNat|_=>0) ⟨rfl,.inl rfl⟩ ?_;rintro⟨x,⟨⟩⟩ h' Z ⟨rfl,hx⟩ hZ;dsimp only at hx hZ ⊢;unfold Gm;rcases hx with rfl|⟨rfl,rfl⟩|⟨rfl,rfl,rfl⟩
 ·simp[c0];exact⟨λha=>by simpa[ha]using hk,λha=>hZ _ _ ⟨rfl,.inr (.inl ⟨rfl,ha⟩)⟩ (by decide)⟩
 ·simp[c1];exact⟨λhb=>by simpa using hk,λhb=>hZ _ _ ⟨rfl,.inr (.inr ⟨rfl,rfl,hb⟩)⟩ (by decide)⟩
 ·simpa using hk
abbrev HE:=Int×Int
def dX(p:HE):List Value:=[I p.1,I p.2]
theorem jf(p:HE):(dX p).length=2:=rfl
def pos(l:List HE)(id:Int):Option Value:=(l.findIdx? (λp=>p.1==id)).map λi=>I i
structure dM(h:aa)(r m bl:Nat)(l:List HE)(n:Int):Prop where
 row:∃sl cap rest,h[r]? =some (.cells #[sl,.map (some m),I n] lG (0,0))/\
  ((sl=.slice none 0 0/\l=[]/\cap=0)\/(sl=.slice (some ⟨bl,0,none⟩) l.length cap/\h[bl]? =some (.cells (Mh.row dX l++rest).toArray iN (0,0))/\
   rest.length=(cap-l.length)*2/\l.length<=cap))
 map:∃es c,h[m]? =some (.map es c)/\IMap es c (pos l)
 ids:(l.map (·.1)).Nodup
 small:l.length<2^40
theorem dM.bn{h h':aa}{r m bl:Nat}{l:List HE}{n:Int}{S:Nat->Prop}(H:dM h r m bl l n)(hu:bB S h h')(h1:¬S r)(h2:¬S m)(h3:¬S bl):dM h' r m bl l n:=by
 obtain⟨⟨sl,cap,rest,hr,hs⟩,⟨es,c,hm,hi⟩,hn,e⟩:=H;refine⟨⟨sl,cap,rest,hu.get hr h1,?_⟩,⟨es,c,hu.get hm h2,hi⟩,hn,e⟩;rcases hs with hs|⟨a,b,c,d⟩
 ·exact .inl hs
 ·exact .inr ⟨a,hu.get b h3,c,d⟩
theorem dM.full{h:aa}{r m bl:Nat}{l:List HE}{n:Int}(H:dM h r m bl l n)(hl:0<l.length):∃cap rest,
  h[r]? =some (.cells #[.slice (some ⟨bl,0,none⟩) l.length cap,.map (some m),I n] lG (0,0))/\h[bl]? =some (.cells (Mh.row dX l++rest).toArray iN (0,0))/\
   rest.length=(cap-l.length)*2/\l.length<=cap:=by
 obtain⟨sl,cap,rest,hr,hs⟩:=H.row;rcases hs with ⟨_,h0,_⟩|⟨rfl,b,c,d⟩
 ·subst h0;simp at hl
 ·exact⟨cap,rest,hr,b,c,d⟩
theorem dM.Bi{h:aa}{r m bl:Nat}{l:List HE}{n:Int}(H:dM h r m bl l n)(hl:0<l.length):r≠bl/\r≠m/\bl≠m:=by
 obtain⟨cap,rest,hr,hb,_,_⟩:=H.full hl;obtain⟨es,c,hm,_⟩:=H.map;refine⟨?_,?_,?_⟩
 ·rintro rfl;rw[hr]at hb;simp at hb;exact absurd hb.2 (by decide)
 ·rintro rfl;rw[hr]at hm;simp at hm
 ·rintro rfl;rw[hb]at hm;simp at hm
theorem TJ{h:aa}{bl:Nat}{l:List HE}{rest:List Value}{T:TypeId}{fz:Nat×Nat}(hb:h[bl]? =some (.cells (Mh.row dX l++rest).toArray T fz)){i j:Nat}(hi:i<l.length)(hj:j<2):
  hcell h ⟨bl,i*2+j,none⟩=(dX l[i])[j]? :=by
 rw[aY hb (v:=(dX l[i])[j]'(by rw[jf];exact hj)) (by
  have :=qW jf hi hj rest;rw[List.getElem?_toArray,this];simp)]
 simp
theorem um{h:aa}{bl:Nat}{l:List HE}{rest:List Value}{T:TypeId}{fz:Nat×Nat}(hb:h[bl]? =some (.cells (Mh.row dX l++rest).toArray T fz)){i:Nat}(hi:i<l.length):
  hcell h ⟨bl,i*2,none⟩=some (I l[i].1):=TJ hb hi (j:=0) (by omega)
theorem Bj{h:aa}{bl:Nat}{l:List HE}{rest:List Value}{T:TypeId}{fz:Nat×Nat}(hb:h[bl]? =some (.cells (Mh.row dX l++rest).toArray T fz)){i:Nat}(hi:i<l.length):
  hcell h ⟨bl,i*2+1,none⟩=some (I l[i].2):=TJ hb hi (j:=1) (by omega)
def hlt(p q:HE):Bool:=decide (p.2<q.2\/p.2=q.2/\p.1<q.1)
theorem afn(p q:HE):((if jx p.2 q.2=0 then jx p.1 q.1 else jx p.2 q.2)<0)↔hlt p q=true:=by
 unfold hlt jx;simp only[decide_eq_true_eq];rcases Int.lt_trichotomy p.2 q.2 with h|h|h
 ·simp[h]
 ·simp only[h,Int.lt_irrefl,if_false,if_true,false_or,true_and];by_cases h1:p.1<q.1
  ·simp[h1]
  ·simp only[h1,if_false,iff_false];split<;>omega
 ·have h1:¬p.2<q.2:=by omega
  have h2:¬p.2=q.2:=by omega
  simp[h,h1,h2]
theorem TK{h:aa}{r m bl:Nat}{l:List HE}{n:Int}{i k:Nat}{K:KT}(H:dM h r m bl l n)(hi:i<l.length)(hk:k<l.length)
  (hK:∀h',Ext h h'->K (.bool (hlt l[i] l[k])) h'):ah Tryz.prog tP [ptr r,I i,I k] h K:=by
 obtain⟨cap,rest,hr,hb,_,_⟩:=H.full (by omega);refine aK (adp _ _ _ ?_);have c0:hcell h ⟨r,0,none⟩=some (.slice (some ⟨bl,0,none⟩) l.length cap):=aY hr rfl;have a:=um hb hi;have c:=Bj hb hi;have b:=um hb hk;have d:=Bj hb hk;unfold Q4;simp[c0,hi,hk,a,c,b,d];refine afk ?_;simp[c0,a,b];refine afl ?_;refine⟨by simp[kW,Value.cells,bO],?_⟩;have hnew:(h.push (.cells #[I (jx l[i].2 l[k].2),I (jx l[i].1 l[k].1)] au (0,0)))[h.size]? =some (.cells #[I (jx l[i].2 l[k].2),I (jx l[i].1 l[k].1)] au (0,0)):=fO;refine afm hnew ?_;simp only[bu];have :=hK (h.push (.cells #[I (jx l[i].2 l[k].2),I (jx l[i].1 l[k].1)] au (0,0))) (bB.push _ _ _);have e:hlt l[i] l[k]=decide ((if jx l[i].2 l[k].2=0 then jx l[i].1 l[k].1 else jx l[i].2 l[k].2)<0):=by
  rw[Bool.eq_iff_iff,decide_eq_true_eq];exact(afn _ _).symm
 rw[<-e];exact this
theorem xy{l:List HE}(hn:(l.map (·.1)).Nodup){i:Nat}(hi:i<l.length):pos l l[i].1=some (I i):=by
 unfold pos;have :l.findIdx? (λp=>p.1==l[i].1)=some i:=by
  rw[List.findIdx?_eq_some_iff_getElem];refine⟨hi,by simp,λj hj=> ?_⟩;have hne:l[j].1≠l[i].1:=by
   have :=List.pairwise_iff_getElem.1 hn j i (by simp;omega) (by simpa using hi) hj;simpa using this
  simpa using hne
 rw[this];rfl
theorem uo{l:List HE}{id:Int}(h:∀p∈l,p.1≠id):pos l id=none:=by
 unfold pos;have :l.findIdx? (λp=>p.1==id)=none:=by
  rw[List.findIdx?_eq_none_iff];intro p hp;simpa using h p hp
 rw[this];rfl
theorem Bl(l:List HE)(id:Int):(∃i,∃hi:i<l.length,l[i].1=id)\/∀p∈l,p.1≠id:=by
 by_cases h:∃p∈l,p.1=id
 ·obtain⟨p,hp,rfl⟩:=h;obtain⟨i,hi,rfl⟩:=List.mem_iff_getElem.1 hp;exact .inl ⟨i,hi,rfl⟩
 ·exact .inr λp hp e=>h ⟨p,hp,e⟩
theorem Bm{l:List HE}(hn:(l.map (·.1)).Nodup){i k:Nat}(hi:i<l.length)(hk:k<l.length)(he:l[i].1=l[k].1):i=k:=by
 rcases Nat.lt_trichotomy i k with h|h|h
 ·have :=List.pairwise_iff_getElem.1 hn i k (by simpa using hi) (by simpa using hk) h;simp[he]at this
 ·exact h
 ·have :=List.pairwise_iff_getElem.1 hn k i (by simpa using hk) (by simpa using hi) h;simp[he]at this
def fe(l:List HE)(i k:Nat)(hi:i<l.length)(hk:k<l.length):List HE:=(l.set i l[k]).set k l[i]
theorem kL{l:List HE}{i k:Nat}(hi:i<l.length)(hk:k<l.length):(fe l i k hi hk).length=l.length:=by simp[fe]
theorem xz{l:List HE}{i k:Nat}(hi:i<l.length)(hk:k<l.length){j:Nat}(hj:j<(fe l i k hi hk).length):
  (fe l i k hi hk)[j]=if j=k then l[i]else if j=i then l[k]else l[j]'(by simpa[fe]using hj):=by
 simp only[fe,List.getElem_set];by_cases h1:k=j
 ·simp[h1]
 ·by_cases h2:i=j
  ·simp[h1,h2,show ¬j=k from λe=>h1 e.symm]
  ·simp[h1,h2,show ¬j=k from λe=>h1 e.symm,show ¬j=i from λe=>h2 e.symm]
theorem xA{l:List HE}{i k:Nat}(hi:i<l.length)(hk:k<l.length):(fe l i k hi hk).Perm l:=by
 rw[List.perm_iff_count];intro a;unfold fe;rw[List.count_set (by simpa using hk),List.count_set hi,List.getElem_set];by_cases hik:i=k
 ·subst hik;simp only[if_true];by_cases h:l[i]=a
  ·have :0<l.count a:=List.count_pos_iff.2 (h▸List.getElem_mem hi);simp[h];omega
  ·simp[h]
 ·simp only[hik,if_false];by_cases h1:l[i]=a<;>by_cases h2:l[k]=a
  ·have :0<l.count a:=List.count_pos_iff.2 (h1▸List.getElem_mem hi);simp[h1,h2];omega
  ·have :0<l.count a:=List.count_pos_iff.2 (h1▸List.getElem_mem hi);simp[h1,h2];omega
  ·have :0<l.count a:=List.count_pos_iff.2 (h2▸List.getElem_mem hk);simp[h1,h2]
  ·simp[h1,h2]
theorem TL{l:List HE}{i k:Nat}(hi:i<l.length)(hk:k<l.length)(hn:(l.map (·.1)).Nodup):((fe l i k hi hk).map (·.1)).Nodup:=
 ((xA hi hk).map _).nodup_iff.2 hn
theorem afo{l:List HE}{i k:Nat}(hi:i<l.length)(hk:k<l.length)(hn:(l.map (·.1)).Nodup)(id:Int):
  cu (cu (pos l) l[k].1 (I i)) l[i].1 (I k) id=pos (fe l i k hi hk) id:=by
 have hn':=TL hi hk hn;rcases Bl (fe l i k hi hk) id with ⟨j,hj,rfl⟩|h
 ·rw[xy hn' hj];have hjl:j<l.length:=by simpa[fe]using hj
  rw[xz hi hk hj];unfold cu;by_cases h1:j=k
  ·simp[h1]
  ·by_cases h2:j=i
   ·subst h2;have :l[k].1≠l[j].1:=λe=>h1 (Bm hn hk hi e).symm;simp[h1,this]
   ·have e1:l[j].1≠l[i].1:=λe=>h2 (Bm hn hjl hi e);have e2:l[j].1≠l[k].1:=λe=>h1 (Bm hn hjl hk e);simp[h1,h2,e1,e2,xy hn hjl]
 ·rw[uo h];have hp:=xA hi hk;have h':∀p∈l,p.1≠id:=λp hp'=>h p (hp.mem_iff.2 hp');have e1:=h' l[i] (List.getElem_mem hi);have e2:=h' l[k] (List.getElem_mem hk);unfold cu;rw[if_neg (λe=>e1 e.symm),if_neg (λe=>e2 e.symm),uo h']
theorem GP{h:aa}{r m bl:Nat}{l:List HE}{n:Int}{i k:Nat}{K:KT}(H:dM h r m bl l n)(hi:i<l.length)(hk:k<l.length)
  (hK:∀h',dM h' r m bl (fe l i k hi hk) n->bB (λb=>b=m\/b=bl) h h'->K (.tuple #[]) h'):ah Tryz.prog wB [ptr r,I i,I k] h K:=by
 obtain⟨cap,rest,hr,hb,g,hcap⟩:=H.full (by omega);obtain⟨j,p,e⟩:=H.Bi (by omega);obtain⟨es,c,hm,him⟩:=H.map;refine aK (acf _ _ _ ?_);have c0:hcell h ⟨r,0,none⟩=some (.slice (some ⟨bl,0,none⟩) l.length cap):=aY hr rfl;have q:=um hb hi;have s:=Bj hb hi;have t:=um hb hk;have u:=Bj hb hk;unfold OP;simp[c0,hi,hk,gL,q,s,t,u];have hlen:=gi jf l;have o1:=vF jf hi l[k] rest;refine mg rfl hb rfl (by simp[hlen];omega) (by simp) ?_;simp only[JG];rw[show over (Mh.row dX l++rest) (i*2) [Value.int .i64 l[k].1,Value.int .i64 l[k].2]=Mh.row dX (l.set i l[k])++rest from o1];have v:(bn h bl (.cells (Mh.row dX (l.set i l[k])++rest).toArray iN (0,0)))[bl]? =_:=gA hb;have hk':k<(l.set i l[k]).length:=by simpa using hk
 have o2:=vF jf hk' l[i] rest;refine mg rfl v rfl (by simp[gi jf];omega) (by simp) ?_;simp only[JG];rw[show over (Mh.row dX (l.set i l[k])++rest) (k*2) [Value.int .i64 l[i].1,Value.int .i64 l[i].2]=Mh.row dX (fe l i k hi hk)++rest from o2,vE];have hi':i<(fe l i k hi hk).length:=by simpa[fe]using hi
 have w:k<(fe l i k hi hk).length:=by simpa[fe]using hk
 have a:(bn h bl (.cells (Mh.row dX (fe l i k hi hk)++rest).toArray iN (0,0)))[bl]? =_:=gA hb;have d:=(kD (o:=.cells (Mh.row dX (fe l i k hi hk)++rest).toArray iN (0,0)) j.symm).trans hr;have hm2:=(kD (o:=.cells (Mh.row dX (fe l i k hi hk)++rest).toArray iN (0,0)) e).trans hm;have d0:=aY (i:=0) d rfl;have d1:=aY (i:=1) d rfl;have f:=um a hi';have dk:=um a w;have x:(fe l i k hi hk)[i].1=l[k].1:=by rw[xz];split<;>simp_all
 have y:(fe l i k hi hk)[k].1=l[i].1:=by rw[xz];simp
 rw[x]at f;rw[y]at dk;simp[d0,d1,hi,hk,f,dk];refine vM hm2 him λF c1 s1 z hs1=> ?_;simp;refine vN (gA hm2) z hs1 λG A=> ?_;rw[vE];refine vM (gA hm2) A λJ c3 s3 B C=> ?_;simp;rw[vE];refine vN (gA hm2) B C λD E=> ?_;rw[vE];refine hK _ ⟨⟨_,cap,rest,(kD p.symm).trans d,.inr ⟨by rw[kL],(kD e.symm).trans a,by rw[kL];exact g,by rw[kL];exact hcap⟩⟩,
  ⟨D,_,gA hm2,E.congr λid=> ?_⟩,TL hi hk H.ids,by rw[kL];exact H.small⟩ ?_
 ·rw[zb,zb];exact afo hi hk H.ids id
 ·exact(bB.bn h _ (S:=λb=>b=m\/b=bl) (.inr rfl)).trans (bB.bn (S:=λb=>b=m\/b=bl) _ _ (.inl rfl)) λ_ h _=>h
open Go Go.Mh
theorem rS{p q:HE}:hlt p q=true↔p.2<q.2\/p.2=q.2/\p.1<q.1:=by simp[hlt]
theorem Bn{p q:HE}(h:hlt p q=true):¬hlt q p=true:=by rw[rS]at *;omega
theorem Bo{p q s:HE}(h:¬hlt p q=true)(h':¬hlt q s=true):¬hlt p s=true:=by rw[rS]at *;omega
theorem Bp{p q s:HE}(h:¬hlt p q=true)(h':hlt s q=true):¬hlt p s=true:=by rw[rS]at *;omega
abbrev gt(l:List HE)(j:Nat):HE:=l.getD j (0,0)
theorem lH{l:List HE}{j:Nat}(hj:j<l.length):l[j]=gt l j:=by simp[gt,hj]
theorem oV{l:List HE}{i k:Nat}(hi:i<l.length)(hk:k<l.length)(j:Nat):gt (fe l i k hi hk) j=if j=k then gt l i else if j=i then gt l k else gt l j:=by
 by_cases hj:j<l.length
 ·have hj':j<(fe l i k hi hk).length:=by rw[kL];exact hj
  rw[<-lH hj',xz hi hk hj'];simp only[lH]
 ·have h1:¬j=k:=λe=>hj (e▸hk);have h2:¬j=i:=λe=>hj (e▸hi);simp only[h1,h2,if_false];have hj':¬j<(fe l i k hi hk).length:=by rw[kL];exact hj
  simp[gt,hj,hj']
def qn(l:List HE):Prop:=∀j,0<j->j<l.length->¬hlt (gt l j) (gt l ((j-1)/4))=true
def rT(l:List HE)(i:Nat):Prop:=
 (∀j,0<j->j<l.length->j≠i->¬hlt (gt l j) (gt l ((j-1)/4))=true)/\
 (0<i->∀j,0<j->j<l.length->(j-1)/4=i->¬hlt (gt l j) (gt l ((i-1)/4))=true)
theorem rT.done{l:List HE}{i:Nat}(h:rT l i)(hi:0<i->¬hlt (gt l i) (gt l ((i-1)/4))=true):qn l:=by
 intro j h0 h1;by_cases e:j=i
 ·subst e;exact hi h0
 ·exact h.1 j h0 h1 e
theorem rT.step{l:List HE}{i:Nat}(h:rT l i)(h0:0<i)(hi:i<l.length)(hp:(i-1)/4<l.length)(hlt':hlt (gt l i) (gt l ((i-1)/4))=true):
  rT (fe l i ((i-1)/4) hi hp) ((i-1)/4):=by
 have hpi:(i-1)/4<i:=by omega
 refine⟨λj a j1 jp=> ?_,λc j a j1 d=> ?_⟩
 ·rw [kL]at j1;rw[oV,oV];simp only[jp,if_false];by_cases e:j=i
  ·subst e;simp only[if_true];exact Bn hlt'
  ·simp only[e,if_false];by_cases e1:(j-1)/4=(i-1)/4
   ·simp only[e1,if_true];have :=h.1 j a j1 e;rw[e1]at this;exact Bp this hlt'
   ·simp only[e1,if_false];by_cases e2:(j-1)/4=i
    ·simp only[e2,if_true];exact h.2 h0 j a j1 e2
    ·simp only[e2,if_false];exact h.1 j a j1 e
 ·rw[kL]at j1;have hg:((i-1)/4-1)/4<(i-1)/4:=by omega
  have e1:¬((i-1)/4-1)/4=(i-1)/4:=by omega
  have e2:¬((i-1)/4-1)/4=i:=by omega
  rw[oV,oV];simp only[e1,e2,if_false];have jp:¬j=(i-1)/4:=by omega
  simp only[jp,if_false];have b:=h.1 ((i-1)/4) c hp (by omega);by_cases e:j=i
  ·simp only[e,if_true];exact b
  ·simp only[e,if_false];have :=h.1 j a j1 e;rw[d]at this;exact Bo this b
theorem TM{h:aa}{r m bl:Nat}{l:List HE}{n:Int}{i:Nat}{K:KT}(H:dM h r m bl l n)(hi:i<l.length)(hu:rT l i)
  (hK:∀h' l',dM h' r m bl l' n->l'.Perm l->qn l'->bB (λb=>b=m\/b=bl) h h'->K (.tuple #[]) h'):ah Tryz.prog zR [ptr r,I i] h K:=by
 refine aK (acd _ _ ?_);unfold ON;refine vG (λx h'=>∃(j:Nat)(l':List HE),x.1=I j/\j<l'.length/\dM h' r m bl l' n/\l'.Perm l/\rT l' j/\bB (λb=>b=m\/b=bl) h h')
  (λx _=>match x.1 with| .int _ n=>n.toNat|_=>0) ⟨i,l,rfl,hi,H,.refl _,hu,.refl _ _⟩ ?_
 rintro⟨x,⟨⟩⟩ h' Z ⟨j,l',hx,hj,H',hp,c,d⟩ hZ;dsimp only at hx;subst hx;dsimp only at hZ ⊢;have f:=H'.small;unfold OM;simp only[dZ,bg];refine⟨λh0=> ?_,λh0=> ?_⟩
 ·have h0:0<j:=by omega
  have e:(((j:Int)-1).tdiv 4)=(((j-1)/4:Nat):Int):=by
   rw[show((j:Int)-1)=((j-1:Nat):Int) by omega];rfl
  have e1:IntKind.i64.wrap ((j:Int)-1)=(j:Int)-1:=bG (by omega) (by omega);have e2:IntKind.i64.wrap (((j-1)/4:Nat):Int)=(((j-1)/4:Nat):Int):=bG (by omega) (by omega);simp only[eM,mR,e1,e,e2];refine⟨by decide,?_⟩;have a:(j-1)/4<l'.length:=by omega
  refine TK H' hj a λh1 hx1=> ?_;obtain⟨g,hn2,k⟩:=H'.Bi (by omega);have H1:=H'.bn hx1 id id id;rw[vH,lH hj,lH a];refine⟨λhb=>⟨by decide,?_⟩,λhb=> ?_⟩
  ·refine GP H1 hj a λh2 H2 hx2=> ?_;refine⟨by decide,?_⟩;refine hZ _ _ ⟨(j-1)/4,_,rfl,by rw[kL];exact a,H2,(xA hj a).trans hp,c.step h0 hj a hb,?_⟩ ?_
   ·exact(d.trans (hx1.bn (S:=λb=>b=m\/b=bl)) λ_ h _=>h).trans hx2 λ_ h _=>h
   ·dsimp only;omega
  ·exact hK _ _ H1 hp (c.done λ_=>by rw[hb];simp) (d.trans (hx1.bn (S:=λb=>b=m\/b=bl)) λ_ h _=>h)
 ·have h0:j=0:=by omega
  subst h0;exact hK _ _ H' hp (c.done λh=>absurd h (Nat.lt_irrefl 0)) d
open Go Go.Mh
theorem dM.sl{h:aa}{r m bl:Nat}{l:List HE}{n:Int}(H:dM h r m bl l n):∃base cap,h[r]? =some (.cells #[.slice base l.length cap,.map (some m),I n] lG (0,0)):=by
 obtain⟨sl,cap,rest,hr,hs⟩:=H.row;rcases hs with ⟨rfl,rfl,_⟩|⟨rfl,_⟩
 ·exact⟨_,_,hr⟩
 ·exact⟨_,_,hr⟩
theorem afp{h0:aa}{r m bl bi b:Nat}{l:List HE}{n:Int}{j:Nat}{B:Loop->bw [13]->aa->(Exit->aa->Prop)->Prop}{c e:aa->Prop}{T1 T2:TypeId}
  (J:Nat->aa->Prop) (hj:j<2^40)
  (hJ:∀k h',J k h'->h'[bi]? =some (.cells #[I j] T1 (0,0))/\h'[b]? =some (.cells #[ptr r] T2 (0,0))/\dM h' r m bl l n)
  (f:∀L,J (4*j+1) (h0.push (lo L .ready none)))
  (hstep:∀k h' L R,J k h'->h'[h0.size]? =some (lo L .ready none)->k<l.length->4*j+1<=k->k<=4*j+4->(∀h'',J (k+1) h''->h''[h0.size]? =some (lo L .ready none)->R (.bool true) h'')->
   B L (I k,()) h' (vv h0.size L R))
  (hend:∀k h' L,J k h'->h'[h0.size]? =some (lo L .ready none)->(4*j+4<k\/l.length<=k)->c (bn h' h0.size (lo L .exhausted none))):
  gd Tryz.prog (.func (.func Aq) #[] #[ptr bi,ptr b]) [13] h0.size h0 B c e []:=by
 intro L hy;show aE Tryz.prog Aq [dm h0.size,ptr bi,ptr b].toArray _ _;refine ael _ _ _ ?_;have d:=f L;unfold Sr;have a0:=ir (hJ _ _ d).1;have e1:IntKind.i64.wrap (4*(j:Int))=4*(j:Int):=bG (by omega) (by omega);have e2:IntKind.i64.wrap (4*(j:Int)+1)=4*(j:Int)+1:=bG (by omega) (by omega);simp only[cI,a0,jr,bt,e1,e2];refine vG (λx h'=>∃k:Nat,x.1=I k/\4*j+1<=k/\k<=4*j+5/\J k h'/\h'[h0.size]? =some (lo L .ready none))
  (λx _=>match x.1 with| .int _ n=>(4*(j:Int)+5-n).toNat|_=>0) ⟨4*j+1,by simp,Nat.le_refl _,by omega,d,fO⟩ ?_
 rintro⟨x,⟨⟩⟩ h' Z ⟨k,hx,g,hk2,a,hl⟩ hZ;dsimp only at hx;subst hx;dsimp only at hZ ⊢;obtain⟨b1,b2,H⟩:=hJ _ _ a;obtain⟨base,cap,hr⟩:=H.sl;have c1:=ir b1;have c2:=ir b2;have c3:=ir hr;have e3:IntKind.i64.wrap (4*(j:Int)+4)=4*(j:Int)+4:=bG (by omega) (by omega);unfold Sq;simp only[cI,c1,c2,c3,jr,bt,e1,e3,mS,bu,bg,bz,aQ,JF];refine⟨λhle=>⟨λhlt=> ?_,λhge=> ?_⟩,λhgt=> ?_⟩
 ·refine hy (I k,()) h' _ .ready none hl ?_;refine hstep k h' L _ a hl (by omega) g (by omega) λh'' h i=> ?_;simp only[bH,Bool.not_true,aL];have o:IntKind.i64.wrap ((k:Int)+1)=((k+1:Nat):Int):=by rw[bG (by omega) (by omega)];rfl
  rw[o];exact hZ _ _ ⟨k+1,rfl,by omega,by omega,h,i⟩ (by dsimp only;omega)
 ·exact⟨.ready,none,by decide,hl,hend k h' L a hl (by omega)⟩
 ·exact⟨.ready,none,by decide,hl,hend k h' L a hl (by omega)⟩
def rU(l:List HE)(i:Nat):Prop:=
 (∀j,0<j->j<l.length->(j-1)/4≠i->¬hlt (gt l j) (gt l ((j-1)/4))=true)/\
 (0<i->∀j,0<j->j<l.length->(j-1)/4=i->¬hlt (gt l j) (gt l ((i-1)/4))=true)
theorem rU.done{l:List HE}{i:Nat}(h:rU l i)(hi:∀j,0<j->j<l.length->(j-1)/4=i->¬hlt (gt l j) (gt l i)=true):qn l:=by
 intro j h0 h1;by_cases e:(j-1)/4=i
 ·rw[e];exact hi j h0 h1 e
 ·exact h.1 j h0 h1 e
theorem rU.step{l:List HE}{i b:Nat}(h:rU l i)(hi:i<l.length)(hb:b<l.length)(b0:0<b)(bi:(b-1)/4=i)
  (hlt':hlt (gt l b) (gt l i)=true) (hmin:∀j,0<j->j<l.length->(j-1)/4=i->¬hlt (gt l j) (gt l b)=true):rU (fe l i b hi hb) b:=by
 have hib:i<b:=by omega
 refine⟨λj a j1 jp=> ?_,λd j a j1 c=> ?_⟩
 ·rw[kL]at j1;rw[oV,oV];simp only[jp,if_false];by_cases e:(j-1)/4=i
  ·simp only[e,if_true];by_cases e1:j=b
   ·subst e1;simp only[if_true];exact Bn hlt'
   ·have e2:¬j=i:=by omega
    simp only[e1,e2,if_false];exact hmin j a j1 e
  ·simp only[e,if_false];have e1:¬j=b:=λe'=>e (e'▸bi);simp only[e1,if_false];by_cases e2:j=i
   ·subst e2;simp only[if_true];exact h.2 a b b0 hb bi
   ·simp only[e2,if_false];exact h.1 j a j1 e
 ·rw[kL]at j1;rw[oV,oV,bi];have e1:¬j=b:=by omega
  have e2:¬j=i:=by omega
  have e3:¬i=b:=by omega
  simp only[e1,e2,e3,if_false,if_true];have :=h.1 j a j1 (by omega);rw[c]at this;exact this
theorem afq{h:aa}{r m bl:Nat}{l:List HE}{n:Int}{i:Nat}{K:KT}(H:dM h r m bl l n)(hi:i<2^40)(hi':i<l.length\/l=[])(aj:bl<h.size)(hu:rU l i)
  (hK:∀h' l',dM h' r m bl l' n->l'.Perm l->qn l'->bB (λb=>b=m\/b=bl) h h'->K (.tuple #[]) h'):ah Tryz.prog Ed [ptr r,I i] h K:=by
 refine aK (acg _ _ ?_);obtain⟨aB,aD,ak⟩:=H.sl;obtain⟨aE,c0,hm0,_⟩:=H.map;have hrl:=dN ak;have hml:=dN hm0;unfold OS;refine s9 ?_;refine mg rfl fO rfl (by simp) (by simp) ?_;have u1:Ext h (bn (h.push (.cells (Value.nilFunc).cells Az (0,0))) h.size (.cells (over [Value.nilFunc] 0 (Value.func (.func tP) #[ptr r] #[]).cells.toList).toArray Az (0,0))):=
  ((bB.push _ _ _).trans (bB.bn (S:=λb=>b=h.size) _ _ rfl) (λb hb hlt=>by omega))
 refine vG (λx h'=>∃(j:Nat)(l':List HE),x.2.1=I j/\j<2^40/\(j<l'.length\/l'=[])/\dM h' r m bl l' n/\l'.Perm l/\rU l' j/\bB (λb=>b=m\/b=bl) h h'/\
   h'[h.size]? =some (.cells #[.func (.func tP) #[ptr r] #[]] Az (0,0))/\(∀D∈x.1,h.size<D/\h'[D]? =some (.deferred (some [])))/\x.1.Nodup)
  (λx _=>match x.2.1 with| .int _ n=>(2^40-n).toNat|_=>0)
  ⟨i,l,rfl,hi,hi',H.bn u1 id id id,.refl _,hu,u1.bn,gA fO,by simp,by simp⟩ ?_
 rintro⟨mk,x,⟨⟩⟩ h' Z ⟨j,l',hx,hj,hjl,H',hp,U,a,y,hmk,hmn⟩ hZ;dsimp only at hx;subst hx;dsimp only at hZ hmk hmn ⊢;unfold OR;refine s9 ?_;refine mg rfl fO rfl (by simp) (by simp) ?_;have z:(bn (h'.push (.cells (I 0).cells au (0,0))) h'.size (.cells (over [I 0] 0 (I j).cells.toList).toArray au (0,0)))[h'.size]? =some (.cells #[I j] au (0,0)):=gA fO;have A:Ext h' (bn (h'.push (.cells (I 0).cells au (0,0))) h'.size (.cells (over [I 0] 0 (I j).cells.toList).toArray au (0,0))):=
  ((bB.push _ _ _).trans (bB.bn (S:=λb=>b=h'.size) _ _ rfl) (λb hb hlt=>by omega))
 generalize e2:(bn (h'.push (.cells (I 0).cells au (0,0))) h'.size (.cells (over [I 0] 0 (I j).cells.toList).toArray au (0,0)))=h2 at z A;have hsz:=A.size;have aF:=dN z;clear e2;refine aK (adq _ _ ?_);unfold Q5;refine s9 (s9 ?_);simp only[pT,YZ,YY];have V:((h2.push (.cells #[ptr r] nX (0,0))).push (.cells #[I j] au (0,0)))[h2.size]? =some (.cells #[ptr r] nX (0,0)):=
  (bB.push (λ_=>False) (h2.push (.cells #[ptr r] nX (0,0))) (.cells #[I j] au (0,0))).get fO id
 have W:((h2.push (.cells #[ptr r] nX (0,0))).push (.cells #[I j] au (0,0)))[h2.size+1]? =some (.cells #[I j] au (0,0)):=by
  have :=fO (h:=h2.push (.cells #[ptr r] nX (0,0))) (o:=.cells #[I j] au (0,0));rwa[pT]at this
 have B:Ext h2 ((h2.push (.cells #[ptr r] nX (0,0))).push (.cells #[I j] au (0,0))):=(bB.push _ _ _).trans (bB.push _ _ _) λ_ h _=>h;have X:((h2.push (.cells #[ptr r] nX (0,0))).push (.cells #[I j] au (0,0))).size=h2.size+2:=by simp
 generalize ((h2.push (.cells #[ptr r] nX (0,0))).push (.cells #[I j] au (0,0)))=h3 at V W B X;have s:Ext h3 (h3.push (.deferred (some []))):=bB.push _ _ _;have Y:(h3.push (.deferred (some [])))[h3.size]? =some (.deferred (some [])):=fO;have hs4:(h3.push (.deferred (some []))).size=h3.size+1:=by simp
 rw[show h2.size+1+1=h3.size from X.symm,<-hs4];generalize h3.push (.deferred (some []))=h4 at s Y hs4;have C:Ext h' h4:=(A.trans B λ_ h _=>h).trans s λ_ h _=>h;have H4:=H'.bn C id id id;have v:=s.get (B.get z);have an:=s.get V;have aq:=s.get W;have af:=C.get y;have aG:=H'.small;refine afp (r:=r) (m:=m) (bl:=bl) (l:=l') (n:=n) (j:=j) (T1:=au) (T2:=nX)
  (λk hh=>∃b:Nat,(b=j\/(4*j+1<=b/\b<=4*j+4/\b<l'.length/\hlt (gt l' b) (gt l' j)=true))/\(∀c,4*j+1<=c->c<k->c<l'.length->¬hlt (gt l' c) (gt l' b)=true)/\
   hh[h'.size]? =some (.cells #[I b] au (0,0))/\bB (λc=>c=h'.size) h4 hh)
  hj ?_ ?_ ?_ ?_
 ·rintro k hh ⟨b,_,_,_,d⟩;refine⟨d.get aq (by omega),d.get an (by omega),H4.bn d ?_ ?_ ?_⟩
  ·have :=a.size;omega
  ·have :=a.size;omega
  ·have :=a.size;omega
 ·intro L;refine⟨j,.inl rfl,λc h1 h2=>by omega,(bB.push (λ_=>False) _ _).get v id,bB.push _ _ _⟩
 ·rintro k hh L R ⟨b,hb,hc,E,d⟩ hl hk h1 h2 hR;have F:dM hh r m bl l' n:=H4.bn d (by have :=a.size;omega) (by have :=a.size;omega) (by have :=a.size;omega);unfold OQ;rw[<-hs4];refine JJ hl ?_;have f:bB (λc=>c=h4.size) hh (bn hh h4.size (lo L .busy none)):=bB.bn _ _ rfl;have t:(bn hh h4.size (lo L .busy none))[h4.size]? =some (lo L .busy none):=gA hl;have aH:=dN hl;have f1:=f.get (d.get af (by have :=a.size;have :=dN y;omega)) (by have :=dN af;omega);have f2:=f.get E (by omega);have q:dM (bn hh h4.size (lo L .busy none)) r m bl l' n:=F.bn f (by have :=dN v;have :=a.size;omega) (by have :=dN v;have :=a.size;omega) (by have :=dN v;have :=a.size;omega);generalize bn hh h4.size (lo L .busy none)=h5 at f t f1 f2 q;have av:=ir f1;have G:=ir f2;simp only[cI,av,G];have J:b<l'.length:=by
   rcases hb with rfl|⟨_,_,hb,_⟩
   ·rcases hjl with h|h
    ·exact h
    ·subst h;simp at hk
   ·exact hb
  have :=TK (K:=λt17 h_9=>az t17 (aC 1 (ptr h'.size) (I k) h_9 λaI h_10=>vv h4.size L R .normal h_10) (vv h4.size L R .normal h_9)) q hk J (λh6 g=>by
   rw[vH];refine⟨λht=> ?_,λhf=> ?_⟩
   ·refine mg rfl (g.get f2) rfl (by simp) (by simp) ?_;rw[lH hk,lH J]at ht;have hne:h'.size≠h4.size:=by omega
    refine JI ((kD hne).trans (g.get t)) (hR _ ?_ ?_)
    ·refine⟨k,.inr ⟨h1,h2,hk,?_⟩,?_,?_,?_⟩
     ·rcases hb with rfl|⟨_,_,_,hb⟩
      ·exact ht
      ·exact Classical.byContradiction λax=>(Bp (Bp ax hb) ht) (by rw[rS]at *;omega)
     ·intro c hc1 ay M;by_cases N:c=k
      ·subst N;exact λe=>Bn e e
      ·exact Bp (hc c hc1 (by omega) M) ht
     ·exact(kD hne.symm).trans (gA (g.get f2))
     ·refine bB.trans (bB.trans (bB.trans (d.trans f (S:=λc=>c=h'.size) ?_) g ?_) (bB.bn (S:=λc=>c=h'.size) _ _ rfl) ?_) (bB.bn (S:=λc=>c=h4.size) _ _ rfl) ?_
      ·intro b hb hlt;omega
      ·intro b hb hlt;exact hb.elim
      ·intro b hb hlt;exact hb
      ·intro b hb hlt;omega
    ·exact gA ((kD hne).trans (g.get t))
   ·rw[lH hk,lH J]at hf;have hne:h'.size≠h4.size:=by omega
    refine JI (g.get t) (hR _ ?_ ?_)
    ·refine⟨b,hb,?_,?_,?_⟩
     ·intro c hc1 ay M;by_cases N:c=k
      ·subst N;rw[hf];simp
      ·exact hc c hc1 (by omega) M
     ·exact(kD hne.symm).trans (g.get f2)
     ·refine bB.trans (bB.trans (d.trans f (S:=λc=>c=h'.size) ?_) g ?_) (bB.bn (S:=λc=>c=h4.size) _ _ rfl) ?_
      ·intro b hb hlt;omega
      ·intro b hb hlt;exact hb.elim
      ·intro b hb hlt;omega
    ·exact gA (g.get t))
  exact this
 ·rintro k hh L ⟨b,hb,hc,E,d⟩ hl hend;have F:dM hh r m bl l' n:=H4.bn d (by have :=a.size;omega) (by have :=a.size;omega) (by have :=a.size;omega);have f:bB (λc=>c=h4.size) hh (bn hh h4.size (lo L .exhausted none)):=bB.bn _ _ rfl;have f2:=f.get E (by omega);have hsize:h4.size<=hh.size:=d.size;have q:dM (bn hh h4.size (lo L .exhausted none)) r m bl l' n:=F.bn f (by have :=a.size;omega) (by have :=a.size;omega) (by have :=a.size;omega);have O:bB (λc=>c=h'.size\/c=h4.size) h4 (bn hh h4.size (lo L .exhausted none)):=(d.mono λ_ h _=>.inl h).trans f λb h _=>.inr h;generalize bn hh h4.size (lo L .exhausted none)=h5 at f f2 q O;have P:Ext h' h5:=C.trans O λb hb hlt=>by omega
  have u:∀D∈h3.size::mk,h.size<D/\h5[D]? =some (.deferred (some [])):=by
   intro D hD;rcases List.mem_cons.1 hD with rfl|hD
   ·exact⟨by have :=a.size;omega,O.get Y (by omega)⟩
   ·exact⟨(hmk D hD).1,P.get (hmk D hD).2⟩
  have ag:(h3.size::mk).Nodup:=List.nodup_cons.2 ⟨λhin=>by have :=dN (hmk _ hin).2;omega,hmn⟩;have G:=ir f2;simp only[cI,G,cF,iW];have ai:bB (λb=>b=m\/b=bl) h h5:=a.trans P λ_ h _=>h.elim;refine⟨λhe=> ?_,λhe=> ?_⟩
  ·have he:b=j:=by omega
   subst he;refine za _ _ (λD hD=>(u D hD).2) ag λh6 p=> ?_;have hn:∀c,c<h.size->¬c∈h3.size::mk:=λc hc hin=>by have :=(u c hin).1;omega
   refine hK h6 l' (q.bn p (hn _ hrl) (hn _ hml) (hn _ aj)) hp (U.done λc c0 c1 c2=>hc c (by omega) (by omega) c1) (ai.trans p λc hc hlt=>(hn c hlt hc).elim)
  ·have he:¬b=j:=λe=>he (by rw[e]);rcases hb with hb|⟨aJ,aL,w,hb4⟩
   ·exact(he hb).elim
   ·have Q:j<l'.length:=by omega
    refine GP q Q w λh6 aA p=> ?_;have T:∀c,h.size<=c->¬(c=m\/c=bl):=λc hc=>by omega
    have f3:=ir (p.get f2 (T _ (by have :=a.size;omega)));simp only[cI,f3];refine hZ (h3.size::mk,(I b,())) h6 ⟨b,_,rfl,by omega,.inl (by rw[kL];exact w),aA,(xA Q w).trans hp,?_,ai.trans p λ_ h _=>h,?_,?_,ag⟩ ?_
    ·exact U.step Q w (by omega) (by omega) hb4 λc c0 c1 c2=>hc c (by omega) (by omega) c1
    ·exact p.get (P.get y) (T _ (Nat.le_refl _))
    ·intro D hD;exact⟨(u D hD).1,p.get (u D hD).2 (T _ (by have :=(u D hD).1;omega))⟩
    ·dsimp only;omega
open Go Go.Mh
theorem afr(a:HE):∀u∈dX a,Mh.plainCell u=true:=by intro u hu;simp[dX]at hu;rcases hu with rfl|rfl<;>rfl
theorem dM.rV{h:aa}{r m bl:Nat}{l:List HE}{n:Int}(H:dM h r m bl l n):∃v,h[r]? =some (.cells #[v,.map (some m),I n] lG (0,0))/\dL dX 2 iN h v bl l:=by
 obtain⟨sl,cap,rest,hr,hs⟩:=H.row;refine⟨sl,hr,?_⟩;rcases hs with ⟨a,b,_⟩|⟨a,b,c,d⟩
 ·exact .inl ⟨a,b⟩
 ·exact .inr ⟨cap,rest,a,b,c,d⟩
theorem dM.of{h:aa}{r m bl:Nat}{l:List HE}{n:Int}{v:Value}{es:Array MapEntry}{c:Nat}(hr:h[r]? =some (.cells #[v,.map (some m),I n] lG (0,0)))(hs:dL dX 2 iN h v bl l)
  (hm:h[m]? =some (.map es c)) (hi:IMap es c (pos l)) (hn:(l.map (·.1)).Nodup) (hl:l.length<2^40):dM h r m bl l n:=by
 refine⟨?_,⟨es,c,hm,hi⟩,hn,hl⟩;rcases hs with ⟨a,b⟩|⟨cap,rest,a,b,c,d⟩
 ·exact⟨v,0,[],hr,.inl ⟨a,b,rfl⟩⟩
 ·exact⟨v,cap,rest,hr,.inr ⟨a,b,c,d⟩⟩
def Grow(h:aa)(F F':Nat->Prop):Prop:=∀b,F' b->F b\/h.size<=b
structure HV(h:aa)(F:Nat->Prop)(r:Nat)(l:List HE)(n:Int):Prop where
 rep:∃m bl,dM h r m bl l n/\qn l/\F r/\F m/\F bl
 low:∀b,F b->b<h.size
 uq:∀p∈l,0<=p.1/\p.1<n
theorem HV.nodup{h:aa}{F:Nat->Prop}{r:Nat}{l:List HE}{n:Int}(H:HV h F r l n):(l.map (·.1)).Nodup:=by
 obtain⟨m,bl,R,_⟩:=H.rep;exact R.ids
def Min(l:List HE)(p:HE):Prop:=p∈l/\∀q∈l,¬hlt q p=true
theorem afs{p q:HE}(h1:¬hlt p q=true)(h2:¬hlt q p=true):p=q:=by
 rw[rS]at h1 h2;obtain⟨a,b⟩:=p;obtain⟨c,d⟩:=q;simp only[Prod.mk.injEq]at *;omega
theorem Min.uniq{l l':List HE}{p p':HE}(h:Min l p)(h':Min l' p')(hp:l.Perm l'):p=p':=
 afs (h'.2 p (hp.mem_iff.1 h.1)) (h.2 p' (hp.mem_iff.2 h'.1))
theorem qn.min{l:List HE}(h:qn l)(hl:0<l.length):Min l l[0]:=by
 refine⟨List.getElem_mem hl,λq hq=> ?_⟩;obtain⟨j,hj,rfl⟩:=List.mem_iff_getElem.1 hq;rw[lH hj,lH hl];clear hq
 induction j using Nat.strongRecOn with
 |_ j ih=>
  by_cases h0:j=0
  ·subst h0;exact λe=>Bn e e
  ·exact Bo (h j (by omega) hj) (ih ((j-1)/4) (by omega) (by omega))
theorem Bq{h:aa}{F:Nat->Prop}{r:Nat}{l:List HE}{n:Int}{K:KT}(H:HV h F r l n)(hK:K (I l.length) h):ah Tryz.prog tH [ptr r] h K:=by
 obtain⟨⟨m,bl,R,ho,f1,f2,f3⟩,a,b⟩:=H;obtain⟨v,hr,hs⟩:=R.rV;refine aK (ace _ ?_);unfold OO;have c0:=ir hr;simp only[ef,Option.isNone_some,aL,bz,aQ,cI,c0];exact hs.ta hK
theorem aft{h:aa}{F:Nat->Prop}{r:Nat}{l:List HE}{n:Int}{K:KT}(H:HV h F r l n)
  (h0:l=[]->K (.tuple #[I 0,.bool false]) h) (h1:∀p,Min l p->K (.tuple #[I p.2,.bool true]) h):ah Tryz.prog tQ [ptr r] h K:=by
 refine aK (adJ _ ?_);unfold Rt;refine Bq H ?_;obtain⟨⟨m,bl,R,ho,f1,f2,f3⟩,a,b⟩:=H;obtain⟨v,hr,hs⟩:=R.rV;have c0:=ir hr;simp only[cF,iW,bz,aQ,cI,c0];refine⟨λhe=>h0 (List.eq_nil_of_length_eq_zero (by omega)),λhe=> ?_⟩;have hl:0<l.length:=by omega
 have hi:=hs.idx (i:=0) (k:=.i64) (K:=λt12=>aq 1 t12 λt13=>af h t13 λt14=>K (.tuple #[t14,.bool true]) h) hl (by
  have :=hs.slot jf hl (j:=1) (by omega);simp only[Nat.zero_mul,Nat.zero_add]at this;simp only[aQ,cI,Nat.zero_mul,Nat.zero_add,this];exact h1 _ (ho.min hl))
 exact hi
theorem afu{h:aa}{F:Nat->Prop}{r:Nat}{l:List HE}{n id:Int}{K:KT}(H:HV h F r l n)
  (h0:(∀p∈l,p.1≠id)->K (.tuple #[I 0,.bool false]) h) (h1:∀p∈l,p.1=id->K (.tuple #[I p.2,.bool true]) h):ah Tryz.prog tI [ptr r,I id] h K:=by
 refine aK (acj _ _ ?_);unfold OW;refine Bq H ?_;obtain⟨⟨m,bl,R,ho,f1,f2,f3⟩,a,b⟩:=H;obtain⟨v,hr,hs⟩:=R.rV;obtain⟨es,c,hm,him⟩:=R.map;have c0:=ir hr;have c1:=vI hr;simp only[cF,iW,bz,aQ,cI,c0,c1,Nat.zero_add];refine⟨λhe=>h0 (by have :l=[]:=List.eq_nil_of_length_eq_zero (by omega);subst this;simp),λhe=> ?_⟩;refine td hm him ?_;rcases Bl l id with ⟨i,hi,rfl⟩|hno
 ·simp only[xy R.ids hi,if_true,Option.getD_some,Option.isSome_some,qX];show bS .not (.bool true) _;simp only[bH,Bool.not_true,aL];refine hs.idx hi ?_;simp only[aQ,cI,hs.slot jf hi (j:=1) (by omega)];exact h1 _ (List.getElem_mem hi) rfl
 ·simp only[uo hno,if_true,Option.getD_none,Option.isSome_none,qX];show bS .not (.bool false) _;simp only[bH,Bool.not_false,bq];exact h0 hno
theorem afv{h:aa}{n:Int}{K:KT}(hK:∀h' F r,HV h' F r [] (max n 0)->(∀b,F b->h.size<=b)->Ext h h'->K (ptr r) h'):ah Tryz.prog cP [I n] h K:=by
 refine aK (aa7 _ ?_);unfold Ni bp aP;refine⟨by simp[kW],?_⟩;dsimp only;rw[l9];have e:(if(0:Int)>n then 0 else n)=max n 0:=by omega
 rw[e];refine⟨by simp[kW,fC],?_⟩;refine s9 ?_;simp only[fC];have hs1:(h.push (Obj.map #[] 0)).size=h.size+1:=by simp
 refine hK _ (λb=>b=h.size\/b=h.size+1) (h.push (Obj.map #[] 0)).size ?_ (λb hb=>by omega) ((bB.push _ _ _).trans (bB.push _ _ _) λ_ h _=>h);have hm:((h.push (Obj.map #[] 0)).push (.cells #[.slice none 0 0,.map (some h.size),I (max n 0)] lG (0,0)))[h.size]? =some (.map #[] 0):=
  (bB.push (λ_=>False) (h.push (Obj.map #[] 0)) (.cells #[.slice none 0 0,.map (some h.size),I (max n 0)] lG (0,0))).get fO id
 refine⟨⟨h.size,h.size,dM.of fO (.inl ⟨rfl,rfl⟩) hm (IMap.empty.congr λk=>rfl) (by simp) (by simp),λj _ hj=>by simp at hj,.inr hs1,.inl rfl,.inl rfl⟩,λb hb=>by simp;omega,by simp⟩
open Go Go.Mh
theorem TN{l:List HE}{a:HE}{j:Nat}(hj:j<l.length):gt (l++ [a]) j=gt l j:=by
 simp[gt,List.getElem?_append_left hj]
theorem afw{l:List HE}{a:HE}(hno:∀p∈l,p.1≠a.1)(x:Int):cu (pos l) a.1 (I l.length) x=pos (l++ [a]) x:=by
 unfold cu pos;rw[List.findIdx?_append];by_cases hx:x=a.1
 ·subst hx;have :l.findIdx? (λp=>p.1==a.1)=none:=by
   rw[List.findIdx?_eq_none_iff];intro p hp;simpa using hno p hp
  simp[this]
 ·rw[if_neg hx];have :[a].findIdx? (λp=>p.1==x)=none:=by
   rw[List.findIdx?_eq_none_iff];intro p hp;simp at hp;subst hp;simpa using λe=>hx e.symm
  rw[this];simp
theorem afx{h:aa}{F:Nat->Prop}{r:Nat}{l:List HE}{n id key:Int}{K:KT}(H:HV h F r l n)(J:l.length+1<2^40)
  (h2:((∃p∈l,p.1=id)\/id<0\/n<=id)->K (I 2) h)
  (h0:(∀p∈l,p.1≠id)->0<=id->id<n->∀h' F' l',HV h' F' r l' n->l'.Perm ((id,key)::l)->Grow h F F'->bB F h h'->K (I 0) h'):
  ah Tryz.prog oP [ptr r,I id,I key] h K:=by
 refine aK (aba _ _ _ ?_);unfold Nq;obtain⟨⟨m,bl,R,ho,f1,f2,f3⟩,w,L⟩:=H;obtain⟨v,hr,hs⟩:=R.rV;obtain⟨es,c,hm,him⟩:=R.map;have c0:=ir hr;have c1:=vI hr;have c2:=JH hr;simp only[ef,Option.isNone_some,aL,bz,aQ,cI,c0,c1,c2,Nat.zero_add];refine td hm him ?_;rcases Bl l id with ⟨i,hi,rfl⟩|hno
 ·simp only[xy R.ids hi,if_true,Option.getD_some,Option.isSome_some,qX];show az (.bool true) _ _;simp only[bq];exact h2 (.inl ⟨_,List.getElem_mem hi,rfl⟩)
 ·simp only[uo hno,if_true,Option.getD_none,Option.isSome_none,qX];show az (.bool false) _ _;simp only[aL,bu,c8,bg];refine⟨λhlt=>h2 (.inr (.inl hlt)),λhlt=>⟨λhge=>h2 (.inr (.inr hge)),λhge=> ?_⟩⟩;refine hs.ta ?_;refine JO hm him λes' c' M=> ?_;have x:m≠r:=by rintro rfl;rw[hm]at hr;simp at hr
  have q:=(kD (o:=.map es' c') x).trans hr;have N:=ir q;simp only[N];have hs1:dL dX 2 iN (bn h m (.map es' c')) v bl l:=by
   rcases hs with ⟨a,b⟩|⟨cap,rest,a,b,c,d⟩
   ·exact .inl ⟨a,b⟩
   ·have :m≠bl:=by rintro rfl;rw[hm]at b;simp at b
    exact .inr ⟨cap,rest,a,(kD this).trans b,c,d⟩
  have s:(bn h m (.map es' c'))[m]? =some (.map es' c'):=gA hm;have u1:bB (λb=>b=m) h (bn h m (.map es' c')):=bB.bn _ _ rfl;have O:(bn h m (.map es' c')).size=h.size:=gx;generalize bn h m (.map es' c')=h1 at q hs1 s u1 O;refine⟨by simp[kW],?_⟩;refine⟨by simp[kW,fC,bO,Value.cells],?_⟩;have hnew:(h1.push (.cells (fC (bO [Value.int .i64 0,Value.int .i64 0] 1) [(0,2,.agg (fC [Value.int .i64 0,Value.int .i64 0] [(0,1,I id),(1,1,I key)]).toArray)]).toArray iN (0,0)))[h1.size]? =
   some (.cells #[I id,I key] iN (0,0)):=by rw[fO];rfl
  have u2:=bB.push (λ_=>False) h1 (.cells (fC (bO [Value.int .i64 0,Value.int .i64 0] 1) [(0,2,.agg (fC [Value.int .i64 0,Value.int .i64 0] [(0,1,I id),(1,1,I key)]).toArray)]).toArray iN (0,0));have P:(h1.push (.cells (fC (bO [Value.int .i64 0,Value.int .i64 0] 1) [(0,2,.agg (fC [Value.int .i64 0,Value.int .i64 0] [(0,1,I id),(1,1,I key)]).toArray)]).toArray iN (0,0))).size=h1.size+1:=pT;generalize (h1.push (.cells (fC (bO [Value.int .i64 0,Value.int .i64 0] 1) [(0,2,.agg (fC [Value.int .i64 0,Value.int .i64 0] [(0,1,I id),(1,1,I key)]).toArray)]).toArray iN (0,0)))=y at hnew u2 P;refine C1 (ys:=[(id,key)]) jf afr rfl (hs1.bn u2 (λf=>f)) rfl ?_ (by decide) (by simp;omega) λv' g h3 k Q u3 hlt3=> ?_
  ·simp only[gM,Nat.one_mul];rw[qV (i:=0) (cs:=[I id,I key]) hnew _ 0 (by simp)];rfl
  have t:h3[r]? =_:=u3.get (u2.get q (λf=>f)) (by
   rintro⟨rfl,cs,hcs⟩;rw[u2.get q (λf=>f)]at hcs;simp at hcs;exact absurd hcs.2 (by decide))
  have S:h3[m]? =_:=u3.get (u2.get s (λf=>f)) (by
   rintro⟨rfl,cs,hcs⟩;rw[u2.get s (λf=>f)]at hcs;simp at hcs)
  have hrb:r≠g:=by
   rintro rfl;obtain⟨_,_,_,hb,_⟩:=k.full (by simp);rw[t]at hb;simp at hb;exact absurd hb.2 (by decide)
  refine mg rfl t (by rcases k.len with ⟨_,_,rfl⟩;rfl) (by rcases k.len with ⟨_,_,rfl⟩;simp) (by rcases k.len with ⟨_,_,rfl⟩;simp) ?_;have T:over [v,Value.map (some m),I n] 0 v'.cells.toList=[v',Value.map (some m),I n]:=by
   rcases k.len with ⟨_,_,rfl⟩;rfl
  rw[T];have u4:bB (λb=>b=r) h3 (bn h3 r (.cells [v',Value.map (some m),I n].toArray lG (0,0))):=bB.bn _ _ rfl;have u:(bn h3 r (.cells [v',Value.map (some m),I n].toArray lG (0,0)))[r]? =_:=gA t;have z:=u4.get S x;have hs4:=k.bn u4 (λe=>hrb e.symm);generalize bn h3 r (.cells [v',Value.map (some m),I n].toArray lG (0,0))=h4 at u4 u z hs4;have c4:=ir u;simp only[c4];refine hs4.ta ?_;have U:IntKind.i64.wrap (((l++ [(id,key)]).length:Int)-1)=(l.length:Int):=by
   rw[List.length_append,List.length_singleton,bG (by omega) (by omega)];omega
  rw[eM,U];have V:dM h4 r m g (l++ [(id,key)]) n:=by
   refine dM.of u hs4 z (M.congr (afw (a:=(id,key)) hno)) ?_ (by simpa using J);rw[List.map_append,List.nodup_append];refine⟨R.ids,by simp,?_⟩;intro a ha b hb;simp at hb;subst hb;obtain⟨p,hp,rfl⟩:=List.mem_map.1 ha;exact hno p hp
  refine TM V (i:=l.length) (by simp) ?_ λh5 W X A Y B=> ?_
  ·refine⟨λj C j1 j2=> ?_,λ_ j C j1 j2=> ?_⟩
   ·have D:j<l.length:=by simp at j1;omega
    rw[TN D,TN (show(j-1)/4<l.length by omega)];exact ho j C D
   ·simp at j1;omega
  have aj:h.size<=y.size:=by omega
  have E:g=bl\/h.size<=g:=by rcases Q with e|e<;>omega
  have Z:bB F y h3:=u3.mono λb hb _=>hb.1▸f3;have af:bB F h h4:=(((u1.mono (S':=F) λb hb _=>by subst hb;exact f2).trans (u2.mono (S':=F) λ_ hf _=>hf.elim) λ_ h _=>h).trans Z λ_ h _=>h).trans (u4.mono (S':=F) λb hb _=>by subst hb;exact f1) λ_ h _=>h;have G:bB F h h5:=af.trans B λb hb hlt=>by
   rcases hb with rfl|rfl
   ·exact f2
   ·rcases E with e|e
    ·rw[e];exact f3
    ·omega
  have ag:=G.size;have ai:g<h5.size:=Nat.lt_of_lt_of_le (hlt3 (by have :=w _ f3;omega)) (Nat.le_trans u4.size B.size);refine h0 hno (by omega) (by omega) h5 (λb=>F b\/b=g) W ⟨⟨m,g,X,Y,.inl f1,.inl f2,.inr rfl⟩,?_,?_⟩ ?_ ?_ G
  ·rintro b (hb|rfl)
   ·exact Nat.lt_of_lt_of_le (w b hb) ag
   ·exact ai
  ·intro p hp;have :=A.mem_iff.1 hp;simp only[List.mem_append,List.mem_singleton]at this;rcases this with hp|rfl
   ·exact L p hp
   ·exact⟨by omega,by omega⟩
  ·exact A.trans (List.perm_append_comm (l₁:=l) (l₂:=[(id,key)]))
  ·rintro b (hb|rfl)
   ·exact .inl hb
   ·rcases E with e|e
    ·rw[e];exact .inl f3
    ·exact .inr e
open Go Go.Mh
theorem Br{l:List HE}{i j:Nat}{a:HE}(hi:i<l.length):gt (l.set i a) j=if j=i then a else gt l j:=by
 by_cases e:j=i
 ·subst e;simp[gt,hi]
 ·by_cases hj:j<l.length
  ·simp[gt,hj,e,List.getElem_set,show ¬i=j from λh=>e h.symm]
  ·simp[gt,hj,e]
theorem GQ{l:List HE}{i:Nat}{k:Int}(hi:i<l.length):(l.set i (l[i].1,k)).map (·.1)=l.map (·.1):=by
 apply List.ext_getElem
 ·simp
 ·intro j h1 h2;simp only[List.getElem_map,List.getElem_set];split
  ·rename_i e;subst e;rfl
  ·rfl
theorem afy{l l':List HE}(h:l.map (·.1)=l'.map (·.1))(x:Int):pos l x=pos l' x:=by
 have key:∀l:List HE,pos l x=((l.map (·.1)).findIdx? (· ==x)).map λi=>I i:=by
  intro l;unfold pos;rw[List.findIdx?_map];rfl
 rw[key,key,h]
theorem set_perm{l:List HE}{i:Nat}{a:HE}(hi:i<l.length):(l.set i a).Perm (a::l.erase l[i]):=by
 rw[List.perm_iff_count];intro x;rw[List.count_set hi,List.count_cons,List.count_erase]
theorem afz{h:aa}{F:Nat->Prop}{r:Nat}{l:List HE}{n id key:Int}{K:KT}(H:HV h F r l n)
  (h2:(id<0\/n<=id)->K (I 2) h)
  (x:0<=id->id<n->(∀p∈l,p.1≠id)->K (I 20) h)
  (y:∀p∈l,p.1=id->p.2<key->K (I 2) h)
  (h0:∀p∈l,p.1=id->¬p.2<key->∀h' F' l',HV h' F' r l' n->l'.Perm ((id,key)::l.erase p)->Grow h F F'->bB F h h'->K (I 0) h'):
  ah Tryz.prog qg [ptr r,I id,I key] h K:=by
 refine aK (ack _ _ _ ?_);unfold OY;obtain⟨⟨m,bl,R,ho,f1,f2,f3⟩,z,g⟩:=H;obtain⟨v,hr,hs⟩:=R.rV;obtain⟨es,c,hm,him⟩:=R.map;have c0:=ir hr;have c1:=vI hr;have c2:=JH hr;simp only[ef,Option.isNone_some,aL,bz,aQ,cI,c0,c1,c2,Nat.zero_add];refine td hm him ?_;rcases Bl l id with ⟨i,hi,rfl⟩|hno
 ·have O:=g _ (List.getElem_mem hi);simp only[xy R.ids hi,if_true,Option.getD_some,Option.isSome_some];simp only[qX];show ak .lss _ _ _;simp only[bu,c8,bg];refine⟨λhlt=>by omega,λ_=>⟨λhge=>by omega,λ_=> ?_⟩⟩;show bS .not (.bool true) _;simp only[bH,Bool.not_true,aL];refine hs.idx hi ?_;have ck:=hs.slot jf hi (j:=1) (by omega);have A:hcell h ⟨bl,i*2+1,none⟩=some (I l[i].2):=ck;simp only[aQ,cI,A];simp only[bu,bg];refine⟨λhk=>y _ (List.getElem_mem hi) rfl hk,λhk=> ?_⟩;refine hs.idx hi ?_;obtain⟨cap,rest,rfl,hb,B,hcap⟩:=hs.full (by omega);have hlen:=gi jf l;simp only[aQ];refine mg rfl hb rfl (by simp[hlen];omega) (by simp) ?_;have C:over (Mh.row dX l++rest) (i*2+1) (I key).cells.toList=Mh.row dX (l.set i (l[i].1,key))++rest:=by
   have o:=vF jf hi (l[i].1,key) rest;rw[<-o];have P:=CX jf hi rest;have hd:(Mh.row dX l++rest).drop (i*2)=I l[i].1::(Mh.row dX l++rest).drop (i*2+1):=by
    have hg:=qW jf hi (j:=0) (by omega) rest;have hlt':i*2<(Mh.row dX l++rest).length:=by simp[hlen];omega
    rw[List.drop_eq_getElem_cons hlt'];congr 1;rw[Nat.add_zero,List.getElem?_eq_getElem hlt']at hg;simpa[dX]using hg
   have ht:(Mh.row dX l++rest).take (i*2+1)=(Mh.row dX l++rest).take (i*2)++ [I l[i].1]:=by
    have hlt':i*2<(Mh.row dX l++rest).length:=by simp[hlen];omega
    rw[List.take_succ_eq_append_getElem hlt'];congr 2;have hg:=qW jf hi (j:=0) (by omega) rest;rw[Nat.add_zero,List.getElem?_eq_getElem hlt']at hg;simpa[dX]using hg
   unfold over;rw[ht];simp[dX]
  rw[C];obtain⟨D,Q,E⟩:=R.Bi (by omega);have k:(bn h bl (.cells (Mh.row dX (l.set i (l[i].1,key))++rest).toArray iN (0,0)))[bl]? =_:=gA hb;have s:=(kD (o:=.cells (Mh.row dX (l.set i (l[i].1,key))++rest).toArray iN (0,0)) D.symm).trans hr;have t:=(kD (o:=.cells (Mh.row dX (l.set i (l[i].1,key))++rest).toArray iN (0,0)) E).trans hm;have u1:bB F h (bn h bl (.cells (Mh.row dX (l.set i (l[i].1,key))++rest).toArray iN (0,0))):=bB.bn _ _ f3;generalize bn h bl (.cells (Mh.row dX (l.set i (l[i].1,key))++rest).toArray iN (0,0))=h1 at k s t u1;have d:(l.set i (l[i].1,key)).length=l.length:=List.length_set;have G:dM h1 r m bl (l.set i (l[i].1,key)) n:=dM.of s (.inr ⟨cap,rest,by rw[d],k,by rw[d];exact B,by rw[d];exact hcap⟩) t
   (him.congr (afy (GQ hi).symm)) (by rw[GQ hi];exact R.ids) (by rw[d];exact R.small)
  have hnew:¬hlt l[i] (l[i].1,key)=true:=by rw[rS];simp only;omega
  refine TM G (i:=i) (by rw[d];exact hi) ?_ λh5 J L u M w=> ?_
  ·refine⟨λj f j1 j2=> ?_,λi0 j f j1 j2=> ?_⟩
   ·rw[d]at j1;rw[Br hi,Br hi,if_neg j2];have :=ho j f j1;split
    ·rename_i e;rw[e,<-lH hi]at this;exact Bo this hnew
    ·exact this
   ·rw[d]at j1;rw[Br hi,Br hi,if_neg (by omega),if_neg (by omega)];have a:=ho j f j1;have b:=ho i i0 hi;rw[j2]at a;exact Bo a b
  ·refine h0 _ (List.getElem_mem hi) rfl hk h5 F J ⟨⟨m,bl,L,M,f1,f2,f3⟩,?_,?_⟩ ?_ (λb hb=>.inl hb) ?_
   ·exact λb hb=>Nat.lt_of_lt_of_le (z b hb) (Nat.le_trans u1.size w.size)
   ·intro p hp;have :=u.mem_iff.1 hp;have hm':p.1∈(l.set i (l[i].1,key)).map (·.1):=List.mem_map.2 ⟨p,this,rfl⟩;rw[GQ hi]at hm';obtain⟨q,hq,N⟩:=List.mem_map.1 hm';rw[<-N];exact g q hq
   ·exact u.trans (set_perm hi)
   ·exact u1.trans w λb hb hlt=>by rcases hb with rfl|rfl;exact f2;exact f3
 ·simp only[uo hno,if_true,Option.getD_none,Option.isSome_none,qX];show ak .lss _ _ _;simp only[bu,c8,bg];refine⟨λhlt=>h2 (.inl hlt),λhlt=>⟨λhge=>h2 (.inr hge),λhge=> ?_⟩⟩;show bS .not (.bool false) _;simp only[bH,Bool.not_false,bq];exact x (by omega) (by omega) hno
open Go Go.Mh
theorem afA{l:List HE}(hl:0<l.length):fe l 0 (l.length-1) hl (by omega)=(fe l 0 (l.length-1) hl (by omega)).take (l.length-1)++ [l[0]]:=by
 have hlen:=kL (l:=l) hl (show l.length-1<l.length by omega);apply List.ext_getElem
 ·simp[hlen];omega
 ·intro j h1 h2;rw[hlen]at h1;by_cases hj:j<l.length-1
  ·rw[List.getElem_append_left (by simp[hlen];omega)];simp
  ·have :j=l.length-1:=by omega
   subst this;rw[xz,if_pos rfl,List.getElem_append_right (by simp[hlen])];simp
theorem afB{l2:List HE}{p:HE}(hn:((l2++ [p]).map (·.1)).Nodup)(x:Int):vJ (pos (l2++ [p])) p.1 x=pos l2 x:=by
 unfold vJ;by_cases hx:x=p.1
 ·subst hx;rw[if_pos rfl];refine(uo λq hq e=> ?_).symm;rw[List.map_append,List.nodup_append]at hn;exact hn.2.2 q.1 (List.mem_map.2 ⟨q,hq,rfl⟩) p.1 (by simp) e
 ·rw[if_neg hx];unfold pos;rw[List.findIdx?_append];have :[p].findIdx? (λq=>q.1==x)=none:=by
   rw[List.findIdx?_eq_none_iff];intro q hq;simp at hq;subst hq;simpa using λe=>hx e.symm
  rw[this];simp
theorem afC{h:aa}{F:Nat->Prop}{r:Nat}{l:List HE}{n:Int}{K:KT}(H:HV h F r l n)
  (h0:l=[]->K (.tuple #[I 0,I 0,.bool false]) h)
  (h1:∀p,Min l p->∀h' F' l',HV h' F' r l' n->l'.Perm (l.erase p)->Grow h F F'->bB F h h'->K (.tuple #[I p.1,I p.2,.bool true]) h'):
  ah Tryz.prog oQ [ptr r] h K:=by
 refine aK (abb _ ?_);unfold Nr;refine Bq H ?_;obtain⟨⟨m,bl,R,ho,f1,f2,f3⟩,o,U⟩:=H;obtain⟨v,hr,hs⟩:=R.rV;obtain⟨es,c,hm,him⟩:=R.map;have c0:=ir hr;simp only[cF,iW,bz,aQ,cI,c0,Nat.zero_add];refine⟨λhe=>h0 (List.eq_nil_of_length_eq_zero (by omega)),λhe=> ?_⟩;have hl:0<l.length:=by omega
 refine hs.idx (i:=0) (k:=.i64) hl ?_;simp only[CZ,Nat.zero_mul];have ca:gL h bl 0 2=some [I l[0].1,I l[0].2]:=by
  obtain⟨cap,rest,rfl,hb,_,_⟩:=hs.full hl;have hlen:=gi jf l;rw[qV (i:=0) hb 2 0 (by simp[hlen];omega)];have :=CX jf hl rest;rw[Nat.zero_mul]at this;rw[this];rfl
 simp only[ca];refine hs.ta ?_;have e1:IntKind.i64.wrap ((l.length:Int)-1)=((l.length-1:Nat):Int):=by
  have :=R.small;rw[bG (by omega) (by omega)];omega
 rw[eM,e1];refine s9 ?_;refine mg rfl fO rfl (by simp) (by simp[Mh.plainCell]) ?_;have x1:Ext h (bn (h.push (.cells (Value.agg #[.int .i64 0,.int .i64 0]).cells nj (0,0))) h.size (.cells (over [Value.int .i64 0,Value.int .i64 0] 0 (Value.agg [I l[0].1,I l[0].2].toArray).cells.toList).toArray nj (0,0))):=
  ((bB.push _ _ _).trans (bB.bn (S:=λb=>b=h.size) _ _ rfl) (λb hb hlt=>by omega))
 have s:(bn (h.push (.cells (Value.agg #[.int .i64 0,.int .i64 0]).cells nj (0,0))) h.size (.cells (over [Value.int .i64 0,Value.int .i64 0] 0 (Value.agg [I l[0].1,I l[0].2].toArray).cells.toList).toArray nj (0,0)))[h.size]? =
  some (.cells #[I l[0].1,I l[0].2] nj (0,0)):=gA fO
 have V:=dN s;generalize (bn (h.push (.cells (Value.agg #[.int .i64 0,.int .i64 0]).cells nj (0,0))) h.size (.cells (over [Value.int .i64 0,Value.int .i64 0] 0 (Value.agg [I l[0].1,I l[0].2].toArray).cells.toList).toArray nj (0,0)))=hA at x1 s V;have W:=R.bn x1 id id id;have X:=x1.get hr;have Y:=ir X;simp only[Y,true_and];have aC:=o _ f1;have aD:=o _ f2;have aE:=o _ f3;refine GP W (i:=0) (k:=l.length-1) hl (by omega) λh2 f u2=> ?_;obtain⟨S,f,hlen,hS,B,Z,hgt⟩:∃S:List HE,dM h2 r m bl S n/\S.length=l.length/\S=S.take (l.length-1)++ [l[0]]/\(S.map (·.1)).Nodup/\S.Perm l/\
   (∀j,gt S j=if j=l.length-1 then gt l 0 else if j=0 then gt l (l.length-1)else gt l j):=
  ⟨_,f,kL _ _,afA hl,f.ids,xA _ _,oV _ _⟩
 obtain⟨v2,t,hs2⟩:=f.rV;obtain⟨aF,c2,hm2,af⟩:=f.map;have d0:=ir t;have ag:=u2.get s (by omega);simp only[d0];refine hs2.pre jf (by rw[hlen];omega) λv3 C=> ?_;have q:v3.cells.size=1/\(∀u∈v3.cells.toList,Mh.plainCell u=true)/\v3.cells.toList=[v3]:=by
  rcases C.len with ⟨_,_,rfl⟩;simp
 refine mg rfl t q.1 (by rw[q.1];simp) q.2.1 ?_;have ai:over [v2,Value.map (some m),I n] 0 v3.cells.toList=[v3,Value.map (some m),I n]:=by rw[q.2.2];rfl
 rw[ai];have u3:bB (λb=>b=r) h2 (bn h2 r (.cells [v3,Value.map (some m),I n].toArray lG (0,0))):=bB.bn _ _ rfl;have w:(bn h2 r (.cells [v3,Value.map (some m),I n].toArray lG (0,0)))[r]? =_:=gA t;obtain⟨aj,D,ak⟩:=f.Bi (by omega);have y:=u3.get hm2 (λe=>D e.symm);have E:=C.bn u3 (λe=>aj e.symm);have z:=u3.get ag (by omega);generalize bn h2 r (.cells [v3,Value.map (some m),I n].toArray lG (0,0))=h3 at u3 w y E z;have g1:=vI w;have g2:=ir z;simp only[g1,g2,aQ,cI,Nat.add_zero,Nat.zero_add];refine Y3 y af λA an=> ?_;have u4:bB (λb=>b=m) h3 (bn h3 m (.map A c2)):=bB.bn _ _ rfl;have G:=u4.get w D;have J:(bn h3 m (.map A c2))[m]? =_:=gA y;have hs4:=E.bn u4 ak;have L:=u4.get z (by omega);generalize bn h3 m (.map A c2)=h4 at u4 G J hs4 L;have g:(S.take (l.length-1)).length=l.length-1:=by simp[hlen]
 have M:S.Perm (l[0]::S.take (l.length-1)):=by
  rw[hS];have :((S.take (l.length-1))++ [l[0]]).take (l.length-1)=S.take (l.length-1):=by rw[List.take_append_of_le_length (by rw[g];exact Nat.le_refl _),List.take_take,Nat.min_self]
  rw[this];exact List.perm_append_comm
 have aq:dM h4 r m bl (S.take (l.length-1)) n:=by
  refine dM.of G hs4 J (an.congr λx=> ?_) ?_ (by rw[g];have :=R.small;omega)
  ·have :=afB (l2:=S.take (l.length-1)) (p:=l[0]) (by rw[<-hS];exact B) x;rw[<-hS]at this;exact this
  ·have :=(M.map (·.1)).nodup_iff.1 B;rw[List.map_cons,List.nodup_cons]at this;exact this.2
 have N:∀j,j<l.length-1->gt (S.take (l.length-1)) j=gt S j:=by
  intro j hj;rw[<-lH (by rw[g];exact hj),<-lH (by rw[hlen];omega)];simp
 have au:bl<h4.size:=by
  have a:=x1.size;have b:=u2.size;have c:=u3.size;have d:=u4.size;omega
 have av:bB F h h4:=(((x1.mono (S':=F) λ_ hf _=>hf.elim).trans u2 λb hb _=>by rcases hb with rfl|rfl;exact f2;exact f3).trans u3 λb hb _=>by subst hb;exact f1).trans u4 λb hb _=>by subst hb;exact f2
 refine afq aq (i:=0) (by decide) (by rcases Nat.eq_zero_or_pos (l.length-1)with e|e;exact .inr (List.eq_nil_of_length_eq_zero (by rw[g];exact e));exact .inl (by rw[g];exact e)) au ?_ λh5 O ax ay az P=> ?_
 ·refine⟨λj aA j1 j2=> ?_,λi0=>absurd i0 (Nat.lt_irrefl 0)⟩;rw[g]at j1;have aB:(j-1)/4<l.length-1:=by omega
  rw[N j j1,N _ aB,hgt,hgt,if_neg (by omega),if_neg (by omega),if_neg (by omega),if_neg (by omega)];exact ho j aA (by omega)
 ·have Q:=P.get L (by omega);have k0:=ir Q;have k1:=vI Q;simp only[k0,k1,aQ,cI,Nat.add_zero,Nat.zero_add];have T:bB F h h5:=av.trans P λb hb _=>by rcases hb with rfl|rfl;exact f2;exact f3
  have hpe:O.Perm (l.erase l[0]):=by
   have :=(Z.symm.trans M).erase l[0];simp only[List.erase_cons_head]at this;exact ay.trans this.symm
  refine h1 l[0] (ho.min hl) h5 F O ⟨⟨m,bl,ax,az,f1,f2,f3⟩,λb hb=>Nat.lt_of_lt_of_le (o b hb) T.size,λp hp=>U p (List.mem_of_mem_erase (hpe.mem_iff.1 hp))⟩ hpe (λb hb=>.inl hb) T
open Go Go.Mh
instance (l:List HE) (p:HE):Decidable (Min l p):=by unfold Min;exact inferInstance
def PV(h:aa)(F:Nat->Prop)(r:Nat)(L:List HE)(n:Int):Prop:=∃l,HV h F r l n/\l.Perm L
section
variable{h h':aa}{F G S:Nat->Prop}{r:Nat}{L:List HE}{n id key:Int}{K:KT}{p:HE}
theorem PV.low(H:PV h F r L n):∀b,F b->b<h.size:=by obtain⟨l,H,hp⟩:=H;exact H.low
theorem PV.uq(H:PV h F r L n):∀p∈L,0<=p.1/\p.1<n:=by obtain⟨l,H,hp⟩:=H;exact λp h=>H.uq p (hp.mem_iff.2 h)
theorem PV.nodup(H:PV h F r L n):(L.map (·.1)).Nodup:=by obtain⟨l,H,hp⟩:=H;exact(hp.map _).nodup_iff.1 H.nodup
theorem Min.perm{l l':List HE}(hp:l.Perm l')(h:Min l p):Min l' p:=⟨hp.mem_iff.1 h.1,λq hq=>h.2 q (hp.mem_iff.2 hq)⟩
theorem afD(H:PV h F r L n)(hK:K (I L.length) h):ah Tryz.prog tH [ptr r] h K:=by
 obtain⟨l,H,hp⟩:=H;exact Bq H (by rw[hp.length_eq];exact hK)
theorem TO(H:PV h F r L n)(h0:L=[]->K (.tuple #[I 0,.bool false]) h)(h1:∀p,Min L p->K (.tuple #[I p.2,.bool true]) h):ah Tryz.prog tQ [ptr r] h K:=by
 obtain⟨l,H,hp⟩:=H;exact aft H (λe=>h0 (by subst e;exact hp.nil_eq.symm)) λp hm=>h1 p (hm.perm hp)
theorem afE(H:PV h F r L n)(h0:(∀p∈L,p.1≠id)->K (.tuple #[I 0,.bool false]) h)(h1:∀p∈L,p.1=id->K (.tuple #[I p.2,.bool true]) h):ah Tryz.prog tI [ptr r,I id] h K:=by
 obtain⟨l,H,hp⟩:=H;exact afu H (λe=>h0 λp hm=>e p (hp.mem_iff.2 hm)) λp hm=>h1 p (hp.mem_iff.1 hm)
theorem afF(hK:∀h' F r,PV h' F r [] (max n 0)->(∀b,F b->h.size<=b)->Ext h h'->K (ptr r) h'):ah Tryz.prog cP [I n] h K:=
 afv λh' F r H a b=>hK h' F r ⟨[],H,.refl _⟩ a b
theorem afG(H:PV h F r L n)(c:L.length+1<2^40)
  (h2:((∃p∈L,p.1=id)\/id<0\/n<=id)->K (I 2) h)
  (h0:(∀p∈L,p.1≠id)->0<=id->id<n->∀h' F',PV h' F' r ((id,key)::L) n->Grow h F F'->bB F h h'->K (I 0) h'):
  ah Tryz.prog oP [ptr r,I id,I key] h K:=by
 obtain⟨l,H,hp⟩:=H;refine afx H (by rw[hp.length_eq];exact c) (λe=>h2 ?_) λhno a b h' F' l' H' hp' hg hu=>h0 (λp hm=>hno p (hp.mem_iff.2 hm)) a b h' F' ⟨l',H',hp'.trans (hp.cons _)⟩ hg hu;rcases e with ⟨p,hm,e⟩|e
 ·exact .inl ⟨p,hp.mem_iff.1 hm,e⟩
 ·exact .inr e
theorem afH(H:PV h F r L n)(a:L.length+1<2^40)(hno:∀p∈L,p.1≠id)(h1:0<=id)(h2:id<n)
  (h0:∀h' F',PV h' F' r ((id,key)::L) n->Grow h F F'->bB F h h'->K (I 0) h'):ah Tryz.prog oP [ptr r,I id,I key] h K:=
 afG H a (λe=>by
  rcases e with ⟨p,hm,e⟩|e
  ·exact(hno p hm e).elim
  ·omega) λ_ _ _=>h0
theorem afI(H:PV h F r L n)
  (h2:(id<0\/n<=id)->K (I 2) h) (c:0<=id->id<n->(∀p∈L,p.1≠id)->K (I 20) h) (d:∀p∈L,p.1=id->p.2<key->K (I 2) h)
  (h0:∀p∈L,p.1=id->¬p.2<key->∀h' F',PV h' F' r ((id,key)::L.erase p) n->Grow h F F'->bB F h h'->K (I 0) h'):
  ah Tryz.prog qg [ptr r,I id,I key] h K:=by
 obtain⟨l,H,hp⟩:=H;exact afz H h2 (λa b e=>c a b λp hm=>e p (hp.mem_iff.2 hm)) (λp hm=>d p (hp.mem_iff.1 hm)) λp hm e hk h' F' l' H' hp' hg hu=>
  h0 p (hp.mem_iff.1 hm) e hk h' F' ⟨l',H',hp'.trans ((hp.erase p).cons _)⟩ hg hu
theorem GR(hn:(L.map (·.1)).Nodup){q:HE}(hp:p∈L)(hq:q∈L)(he:p.1=q.1):p=q:=by
 obtain⟨i,hi,rfl⟩:=List.mem_iff_getElem.1 hp;obtain⟨j,hj,rfl⟩:=List.mem_iff_getElem.1 hq;have :=Bm hn hi hj he;subst this;rfl
theorem afJ(H:PV h F r L n)(hp:p∈L)(he:p.1=id)(hk:¬p.2<key)
  (h0:∀h' F',PV h' F' r ((id,key)::L.erase p) n->Grow h F F'->bB F h h'->K (I 0) h'):ah Tryz.prog qg [ptr r,I id,I key] h K:=by
 have hr:=H.uq p hp;refine afI H (λe=>by omega) (λ_ _ e=>(e p hp he).elim) (λq hq e hk'=> ?_) λq hq e hk'=> ?_
 ·have :=GR H.nodup hp hq (he.trans e.symm);subst this;exact(hk hk').elim
 ·have :=GR H.nodup hp hq (he.trans e.symm);subst this;exact h0
theorem TP(H:PV h F r L n)(h0:L=[]->K (.tuple #[I 0,I 0,.bool false]) h)
  (h1:∀p,Min L p->∀h' F',PV h' F' r (L.erase p) n->Grow h F F'->bB F h h'->K (.tuple #[I p.1,I p.2,.bool true]) h'):ah Tryz.prog oQ [ptr r] h K:=by
 obtain⟨l,H,hp⟩:=H;exact afC H (λe=>h0 (by subst e;exact hp.nil_eq.symm)) λp hm h' F' l' H' hp' hg hu=>h1 p (hm.perm hp) h' F' ⟨l',H',hp'.trans (hp.erase p)⟩ hg hu
theorem afK(H:PV h F r L n)(hm:Min L p)(h1:∀h' F',PV h' F' r (L.erase p) n->Grow h F F'->bB F h h'->K (.tuple #[I p.1,I p.2,.bool true]) h'):ah Tryz.prog oQ [ptr r] h K:=
 TP H (λe=>by subst e;simp[Min]at hm) λq hq=>by
  have :=hq.uniq hm (.refl _);subst this;exact h1
end
open Go Go.Mh
theorem dM.st{h h':aa}{r m bl:Nat}{l:List HE}{n:Int}(H:dM h r m bl l n)(h1:h'[r]? =h[r]?)(h2:h'[m]? =h[m]?)(h3:h'[bl]? =h[bl]?):dM h' r m bl l n:=by
 obtain⟨⟨sl,cap,rest,hr,hs⟩,⟨es,c,hm,hi⟩,hn,e⟩:=H;refine⟨⟨sl,cap,rest,h1.trans hr,?_⟩,⟨es,c,h2.trans hm,hi⟩,hn,e⟩;rcases hs with hs|⟨a,b,c,d⟩
 ·exact .inl hs
 ·exact .inr ⟨a,h3.trans b,c,d⟩
def fP(F:Nat->Prop)(r:Nat)(H:List HE)(n:Nat):aM:=⟨F,λh=>∃l,(∃m bl,dM h r m bl l n/\qn l/\F r/\F m/\F bl)/\(∀p∈l,0<=p.1/\p.1<n)/\l.Perm H,λhs⟨l,⟨m,bl,R,ho,f1,f2,f3⟩,hr,hp⟩=>
 ⟨l,⟨m,bl,R.st (hs _ f1) (hs _ f2) (hs _ f3),ho,f1,f2,f3⟩,hr,hp⟩⟩
theorem PV.toR{h:aa}{F:Nat->Prop}{r:Nat}{H:List HE}{n:Nat}(P:PV h F r H n):(fP F r H n).Q h:=by
 obtain⟨l,⟨a,b,c⟩,d⟩:=P;exact⟨l,a,c,d⟩
section
variable{h0 h:aa}{L:List aM}{F:Nat->Prop}{r n:Nat}{H:List HE}{id key:Int}{K:KT}
theorem rW(o:Own h0 h L)(i:Nat)(hi:L[i]? =some (fP F r H n)):PV h F r H n:=by
 obtain⟨l,a,c,d⟩:=o.get i hi;exact⟨l,⟨a,λb hb=>((o.q hi).2 b hb).2,c⟩,d⟩
theorem afL{p:HE}:Min H p↔p∈H/\∀q∈H,¬hl q p=true:=by
 unfold Min;have :∀q:HE,hlt q p=hl q p:=λq=>by
  have h1:=@rS q p;have h2:=@mq q p;by_cases hx:hl q p=true
  ·rw[hx];exact h1.2 (h2.1 hx)
  ·simp at hx;rw[hx];by_cases hy:hlt q p=true
   ·rw[h2.2 (h1.1 hy)]at hx;cases hx
   ·simpa using hy
 simp only[this]
theorem TQ{p:HE}(h:least H=some p):Min H p:=afL.2 (iw h)
theorem Bs(o:Own h0 h L)(hK:∀F r h',Own h0 h' (fP F r [] n::L)->K (ptr r) h'):ah Tryz.prog cP [I n] h K:=by
 refine afF λh' F r P hF x=>hK F r h' (o.cons x ?_ λb hb=>⟨hF b hb,P.low b hb⟩);rw[show max (n:Int) 0=n by omega]at P;exact P.toR
theorem GU{h':aa}{F':Nat->Prop}{H':List HE}(o:Own h0 h L)(i:Nat)(hi:L[i]? =some (fP F r H n))(P:PV h' F' r H' n)(g:Grow h F F')(u:bB F h h'):Own h0 h' (L.set i (fP F' r H' n)):=
 o.set i hi u P.toR λb hb=>⟨g b hb,P.low b hb⟩
theorem xB(o:Own h0 h L)(i:Nat)(hi:L[i]? =some (fP F r H n))(a:H.length+1<2^40){v:Nat}(hno:∀p∈H,p.1≠v)(hv:v<n)
  (hK:∀F' h',Own h0 h' (L.set i (fP F' r (((v:Int),key)::H) n))->K (I 0) h'):ah Tryz.prog oP [ptr r,I v,I key] h K:=
 afH (rW o i hi) a hno (by omega) (by omega) λh' F' P g u=>hK F' h' (GU o i hi P g u)
theorem Bt(o:Own h0 h L)(i:Nat)(hi:L[i]? =some (fP F r H n)){v:Nat}{was:Int}(hm:((v:Int),was)∈H)(hk:¬was<key)
  (hK:∀F' h',Own h0 h' (L.set i (fP F' r (((v:Int),key)::H.erase ((v:Int),was)) n))->K (I 0) h'):ah Tryz.prog qg [ptr r,I v,I key] h K:=
 afJ (rW o i hi) hm rfl hk λh' F' P g u=>hK F' h' (GU o i hi P g u)
theorem TR(o:Own h0 h L)(i:Nat)(hi:L[i]? =some (fP F r H n)){v:Nat}
  (hK:K (.tuple #[I ((lq H v).getD 0),.bool (lq H v).isSome]) h):ah Tryz.prog tI [ptr r,I v] h K:=by
 have P:=rW o i hi;refine afE P (λhno=> ?_) λp hp e=> ?_
 ·have :lq H v=none:=pY.2 hno;rw[this]at hK;exact hK
 ·cases hl:lq H v with
  |none=>exact absurd e (pY.1 hl p hp)
  |some k=>
   have hm:=pZ hl;have :=GR P.nodup hp hm e;subst this;rw[hl]at hK;exact hK
theorem GV(o:Own h0 h L)(i:Nat)(hi:L[i]? =some (fP F r H n))(hz:least H=none->K (.tuple #[I 0,.bool false]) h)(hK:∀p,least H=some p->K (.tuple #[I p.2,.bool true]) h):
  ah Tryz.prog tQ [ptr r] h K:=by
 cases hl:least H with
 |none=>
  have e:=rq.1 hl;subst e;exact TO (rW o i hi) (λ_=>hz hl) λp hm=>by simp[Min]at hm
 |some p=>
  refine TO (rW o i hi) (λe=>by rw[e]at hl;cases hl) λq hm=> ?_;have :=Min.uniq (TQ hl) hm (.refl _);subst this;exact hK _ hl
theorem xC(o:Own h0 h L)(i:Nat)(hi:L[i]? =some (fP F r H n))(hz:least H=none->∀h',Own h0 h' L->K (.tuple #[I 0,I 0,.bool false]) h')
  (hK:∀p,least H=some p->∀F' h',Own h0 h' (L.set i (fP F' r (H.erase p) n))->K (.tuple #[I p.1,I p.2,.bool true]) h'):ah Tryz.prog oQ [ptr r] h K:=by
 cases hl:least H with
 |none=>
  have e:=rq.1 hl;subst e;exact TP (rW o i hi) (λ_=>hz hl h o) λp hm=>by simp[Min]at hm
 |some p=>exact afK (rW o i hi) (TQ hl) λh' F' P g u=>hK p hl F' h' (GU o i hi P g u)
end
open Go Go.Mh
section
variable{h0 h:aa}{L:List aM}{K:KT}{g:G}{r:Nat}
theorem afM:jd (.func (.func Dw) #[] #[]) A.t:=by
 intro a h K hK;refine bU (l:=[.agg (dS a).toArray]) rfl (aao _ ?_);unfold Mg;refine(Own.start h).box λb h1 o1=> ?_;simp only[aQ];exact o1.load 0 rfl rfl (hK _ o1.ext)
theorem afN:jd (.func (.func D0) #[] #[]) A.f:=by
 intro a h K hK;refine bU (l:=[.agg (dS a).toArray]) rfl (abK _ ?_);unfold Oc;refine(Own.start h).box λb h1 o1=> ?_;simp only[aQ];exact o1.load 0 rfl rfl (hK _ o1.ext)
theorem afO{l4 n3 a:Nat}{vl fJ:Value}{ids:List Nat}{head:A->Nat}{T1 T2 T3:TypeId}(m:∀i∈ids,i<g.ag.length)(s:ids.length<2^40)(hE:jd fJ head):
  Iter Tryz.prog (.func (.func Ee) #[] #[ptr l4,ptr n3,ptr a])
   (λh=>h[l4]? =some (.cells #[vl] T1 (0,0))/\h[n3]? =some (.cells #[ptr r] T2 (0,0))/\h[a]? =some (.cells #[fJ] T3 (0,0))/\Vw aV 1 h vl ids/\bJ h r g) ids.length
   (λi hi=>[I ids[i],vA ⟨0,head (aD g.ag ids[i]),(aD g.ag ids[i]).w⟩]):=by
 rintro yv h0 h n K J E ⟨l,rfl⟩ o f hQ hY hK;refine iJ (l:=[dm l,ptr l4,ptr n3,ptr a]) rfl (ach _ _ _ _ ?_);unfold OU;obtain⟨hb,_,_,hv,_⟩:=hQ _ _ _ f o;have hc:hcell h ⟨l4,0,none⟩=some vl:=aY hb rfl;simp only[cI,hc];refine hv.len ?_;refine cg ids.length (λi x h'=>x.1=I i/\∃c,J i c/\Own h0 h' c) ⟨rfl,n,f,o⟩ ?_;rintro i ⟨x,⟨⟩⟩ h Z hi ⟨hx,c,hj,o⟩ hZ;dsimp only at hx hZ ⊢;subst hx;unfold OT;simp only[bu,bg];refine⟨λhlt=> ?_,λhge=> ?_⟩
 ·have hlt:i<ids.length:=by omega
  obtain⟨_,hn,he,hv,hN⟩:=hQ _ _ _ hj o;refine hv.dH (e:=λx:Nat=>I x) (λ_=>rfl) hlt ?_;have hc:hcell h ⟨n3,0,none⟩=some (ptr r):=aY hn rfl;simp only[cI,hc];have hil:=m _ (List.getElem_mem hlt);refine nY hN hil λh1 x1=> ?_;have ea:aD g.ag ids[i]=g.ag[ids[i]]:=by simp[aD,hil]
  have o1:=o.more x1;simp only[b9,bZ];refine o1.box λb h2 o2=>o2.st 0 rfl rfl rfl rfl rfl (fS _) λh3 d=> ?_;obtain⟨_,_,p,_,_⟩:=hQ _ _ _ hj d.tail;have hc:hcell h3 ⟨a,0,none⟩=some fJ:=aY p rfl;simp only[cI,hc,aQ];refine d.bN 0 rfl rfl rfl ?_;have hl:=λ{K}(hk:K (I (g.ag[ids[i]]).w))=>d.load (off:=2) (K:=K) 0 rfl rfl hk;simp only[cI]at hl;refine hl (hE _ _ _ λh4 q=> ?_);have j:=d.more q;refine⟨j.load 0 rfl rfl rfl,bW rfl,?_⟩;rw[<-ea];refine hY i _ (i+1) c [] h4 _ ⟨⟨hlt,rfl⟩,rfl⟩ hj j.tail.mW (λk h'' hj' o'=> ?_) λk h'' he o'=> ?_
  ·rw[bH,Bool.not_true,aL,bt,wI i (by omega)];exact hZ (I (i+1:Nat),()) h'' hlt ⟨rfl,k,hj',o'.fm⟩
  ·rw[bH,Bool.not_false,bq];exact hK _ _ (.inr he) o'.fm
 ·have :i=ids.length:=by omega
  exact hK _ _ (.inl ⟨i,this,hj⟩) o
def jy(order:List Nat):Int->Option Value:=λk=>if order.any (λv=>(v:Int)==k)then some (I 1)else none
theorem Bu{order:List Nat}{v:Nat}(h:v∈order):jy order v=some (I 1):=by
 have :order.any (λu=>(u:Int)==(v:Int))=true:=List.any_eq_true.2 ⟨v,h,by simp⟩;simp[jy,this]
theorem ur{order:List Nat}{v:Nat}(h:v∉order):jy order v=none:=by
 have :order.any (λu=>(u:Int)==(v:Int))=false:=by
  simp only[List.any_eq_false,beq_iff_eq];intro u hu e;have :u=v:=by omega
  exact h (this▸hu)
 simp[jy,this]
theorem GW{order:List Nat}{v:Nat}(x:Int):jy (order++ [v]) x=cu (jy order) v (I 1) x:=by
 unfold cu;by_cases h:x=v
 ·subst h;rw[if_pos rfl,Bu (by simp)]
 ·rw[if_neg h];have :((v:Int)==x)=false:=by simpa using λe=>h e.symm
  simp[jy,this]
theorem TS{α:Type}{l:List α}{i j:Nat}{a b:α}(hi:l[i]? =some a)(hj:l[j]? =some b):(l.set i a).set j b=l:=by
 have e1:l.set i a=l:=by
  apply List.ext_getElem?;intro k;by_cases e:i=k
  ·subst e;rw[List.getElem?_set_self (List.getElem?_eq_some_iff.1 hi).1,hi]
  ·rw[List.getElem?_set_ne e]
 rw[e1];apply List.ext_getElem?;intro k;by_cases e:j=k
 ·subst e;rw[List.getElem?_set_self (List.getElem?_eq_some_iff.1 hj).1,hj]
 ·rw[List.getElem?_set_ne e]
theorem afP{rr hp n m:Nat}{F:Nat->Prop}{sd sa so:Value}{s:FS}{B:Int}{v a:Nat}{d:Int}(o:Own h0 h L)(i1 i2 i3 i4:Nat)
  (h1:L[i1]? =some (aj rr [ptr hp,sd,sa,so,.map (some m)] Ax)) (h2:L[i2]? =some (fP F hp s.hp n)) (h3:L[i3]? =some (aA aG 1 au sa s.bF)) (h4:L[i4]? =some (dz m (jy s.order)))
  (n12:i2≠i1) (n23:i2≠i3) (n24:i2≠i4) (inv:dW n B s) (hn:n<=16777216) (hv:v<n)
  (hK:∀F' h',Own h0 h' ((L.set i2 (fP F' hp (s.reach v a d).hp n)).set i3 (aA aG 1 au sa (s.reach v a d).bF))->K (.tuple #[]) h'):
  ah Tryz.prog DM [ptr rr,I v,I a,I d] h K:=by
 refine aK (abd _ _ _ _ ?_);unfold Nt;simp only[bz,aQ];refine o.load i1 h1 rfl (TR o i2 h2 ?_);simp only[b9,bZ];refine o.load i1 h1 rfl ?_;refine o.look i4 h4 ?_;simp only[Bool.false_eq_true,if_false];have hlen:s.hp.length<=n:=by
  have :(s.hp.map (·.1.toNat)).length<=n:=iL (by
   have :s.hp.map (·.1.toNat)=(s.hp.map (·.1)).map Int.toNat:=by simp
   rw[this,List.nodup_iff_pairwise_ne,List.pairwise_map];refine(List.nodup_iff_pairwise_ne.1 inv.ids).imp_of_mem λ{x y} hx hy hne e=>hne ?_;obtain⟨p,hp,rfl⟩:=List.mem_map.1 hx;obtain⟨q,hq,rfl⟩:=List.mem_map.1 hy;obtain⟨u,e1,_⟩:=inv.cr p hp;obtain⟨w,e2,_⟩:=inv.cr q hq;rw[e1,e2]at e ⊢;have e':u=w:=by simpa using e
   rw[e']) (λx hx=>by
   obtain⟨p,hp,rfl⟩:=List.mem_map.1 hx;obtain⟨u,e1,e2,_⟩:=inv.cr p hp;rw[e1];simpa using e2)
  simpa using this
 by_cases hc:v∈s.order
 ·rw[Bu hc];simp only[Option.getD_some];have :s.reach v a d=s:=by simp[FS.reach,hc]
  rw[this,]at hK;have hk:=λh=>hK F h;rw[TS h2 h3]at hk;simpa using hk h o
 ·rw[ur hc];simp only[Option.getD_none,dZ,bg];refine⟨λe=>by omega,λ_=> ?_⟩;cases hl:lq s.hp v with
  | some was=>
   simp only[Option.isSome_some,bq,Option.getD_some,mS,bg];refine⟨λhle=> ?_,λhgt=> ?_⟩
   ·have :s.reach v a d=s:=by simp[FS.reach,hc,hl,hle]
    rw[this]at hK;have hk:=λh=>hK F h;rw[TS h2 h3]at hk;exact hk h o
   ·unfold AN AM;simp only[bq,bz,aQ];refine o.load i1 h1 rfl (Bt o i2 h2 (pZ hl) (by omega) λF' h5 b=> ?_);refine b.load i1 (by rw[List.getElem?_set_ne n12];exact h1) rfl ?_;refine b.iu (z:=a) i3 (by rw[List.getElem?_set_ne n23];exact h3) (by rw[inv.al];exact hv) λh6 c=> ?_;have :s.reach v a d={s with hp:=((v:Int),d)::s.hp.erase ((v:Int),was),bF:=s.bF.set v a}:=by simp[FS.reach,hc,hl,hgt]
    rw[this]at hK;exact hK F' h6 c
  |none=>
   simp only[Option.isSome_none,aL];unfold AN AM;simp only[aL,bz,aQ];refine o.load i1 h1 rfl (xB o i2 h2 (by omega) (pY.1 hl) hv λF' h5 b=> ?_);refine b.load i1 (by rw[List.getElem?_set_ne n12];exact h1) rfl ?_;refine b.iu (z:=a) i3 (by rw[List.getElem?_set_ne n23];exact h3) (by rw[inv.al];exact hv) λh6 c=> ?_;have :s.reach v a d={s with hp:=((v:Int),d)::s.hp,bF:=s.bF.set v a}:=by simp[FS.reach,hc,hl]
   rw[this]at hK;exact hK F' h6 c
end
open Go Go.Mh
theorem afQ{l:List A}{head:A->Nat}{key:Int}{s:FS}{ids:List Nat}{i:Nat}(hi:i<ids.length):
    s.scan l head key (ids.take (i+1))=(s.scan l head key (ids.take i)).reach (head (aD l ids[i])) ids[i] (key+(aD l ids[i]).w):=by
  unfold FS.scan;rw[List.take_succ_eq_append_getElem hi,List.foldl_append];rfl
section
variable{h0 h:aa}{L:List aM}{K:KT}{g:G}{r:Nat}{outs:Nat->List Nat}{head:A->Nat}{qp fJ:Value}
def rX(qp:Value)(g:G)(r:Nat)(outs:Nat->List Nat):Prop:=
  ∀(h0 h:aa)(L:List aM)(K:KT)(v:Nat),v<g.n->bJ h r g->Own h0 h L->(∀v' h',Own h0 h' (aA aV 1 au v' (outs v)::L)->K v' h')->aS Tryz.prog qp [I v].toArray h K
theorem TT(hR:g.Right):rX (.func (.func rz) #[ptr r] #[]) g r g.out:=by
  intro h0 h L K v hv H o hK;refine bU (l:=[ptr r,I v]) rfl ?_;have :=TF (z:=v) o hR H (K:=K) (by rw[if_pos (by omega)];exact hK);simpa[ah,aS]using this
theorem TU(hR:g.Right):rX (.func (.func rC) #[ptr r] #[]) g r g.in:=by
  intro h0 h L K v hv H o hK;refine bU (l:=[ptr r,I v]) rfl ?_;have :=TG (z:=v) o hR H (K:=K) (by rw[if_pos (by omega)];exact hK);simpa[ah,aS]using this
abbrev xD(a rr m hp t8 n:Nat)(sd sa:Value)(kb:Nat)(key:Int)(F:Nat->Prop)(H:List HE)(so:Value)(st:FS)(b:List Nat):List aM:=
  [aj kb [I key] bY,aj a [ptr rr] FG,aj rr [ptr hp,sd,sa,so,.map (some m)] Ax,fP F hp H n,aA aG 1 au sa st.bF,dz m (jy st.order),xR sd st.aH,aA aV 1 au so st.order,
    aj t8 [aN,aN,aN] qi,iY b]
theorem afR {d rr m hp t8:Nat} {sd sa:Value} {fin:FS} {h':aa} {x:List Nat×bw [10,11,12]} (hR:g.Right) (H:bJ h r g) (hN:rX qp g r outs) (hE:jd fJ head) (ax:fJ.cells= #[fJ]) (X:∀a∈g.ag,head a<g.n)
    (hout:∀v,v<g.n->∀i∈outs v,i<g.ag.length) (ay:∀v,(outs v).length<=g.ag.length)
    (hK:∀so h',Own h h' [xR sd fin.aH,aA aG 1 au sa fin.bF,aA aV 1 au so fin.order]->K (.agg #[sd,sa,so]) h')
    (J:∃(st:FS)(kb:Nat)(key:Int)(so:Value)(F:Nat->Prop)(H:List HE),x.2.2.1=ptr kb/\FS.run g.ag outs head (g.n+1-st.order.length) st=fin/\dW g.n (st.order.length*W) st/\
      ((least st.hp=none/\x.2.2.2.1=.bool false)\/∃p,least st.hp=some p/\x.2.1=I p.1/\key=p.2/\x.2.2.2.1=.bool true/\H=st.hp.erase p)/\Own h h' (xD d rr m hp t8 g.n sd sa kb key F H so st x.1)):
    bK (σ:=List Nat×bw [10,11,12]) (λx hh az=>FM Tryz.prog (ptr d) qp (ptr r) fJ (ptr t8) K x.1 x.2.1 x.2.2.1 x.2.2.2.1 hh (λaB a0 a1 a2 hz=>az (aB,(a0,(a1,(a2,())))) hz)) x h':=by
  have aC:=hR.most;have aS:=hR.many;obtain⟨Q,J⟩:=J;refine pW (k0:=g.n+1-Q.order.length) (λk x h'=>∃(st:FS)(kb:Nat)(key:Int)(so:Value)(F:Nat->Prop)(H:List HE),k=g.n+1-st.order.length/\x.2.2.1=ptr kb/\FS.run g.ag outs head (g.n+1-st.order.length) st=fin/\dW g.n (st.order.length*W) st/\
      ((least st.hp=none/\x.2.2.2.1=.bool false)\/∃p,least st.hp=some p/\x.2.1=I p.1/\key=p.2/\x.2.2.2.1=.bool true/\H=st.hp.erase p)/\Own h h' (xD d rr m hp t8 g.n sd sa kb key F H so st x.1))
    (by obtain⟨kb,key,so,F,H,J⟩:=J;exact⟨Q,kb,key,so,F,H,rfl,J⟩) ?_
  clear J Q h' x;rintro k ⟨y,v,kv,is,⟨⟩⟩ h' Z ⟨st,kb,key,so,F,aT,hk,hkb,hrun,inv,Y,o⟩ hZ;dsimp only at hkb Y o hZ ⊢;subst hkb;unfold FM;simp only[bz,aQ];rcases Y with ⟨hl,rfl⟩|⟨p,hl,rfl,rfl,rfl,rfl⟩
  · rw[aL];have hf:st=fin:=by
      rw[<-hrun];cases g.n+1-st.order.length with
      |zero=>rfl
      |succ k=>simp only[FS.run,hl]
    subst hf;refine o.load 1 rfl rfl ?_;simp only[bz,aQ];refine o.bN 2 rfl rfl rfl ?_;refine o.st 8 rfl rfl rfl rfl rfl ?_ λh2 o2=> ?_
    · intro u hu;simp at hu;rcases hu with rfl|rfl|rfl
      · exact(o.vw 6 rfl).plain
      · exact(o.vw 4 rfl).plain
      · exact(o.vw 7 rfl).plain
    · refine o2.take 9 rfl fun h3 c=> ?_;exact c.bN 8 rfl rfl rfl (hK so h3 (c.bh [6,4,7] (by decide)))
  · rw [bq];have hm:=(iw hl).1;obtain⟨u,hu,hun,hno,af,aE⟩:=inv.cr p hm;obtain⟨pv,key⟩:=p;dsimp only at hu af aE o ⊢;subst hu;have hroom:=inv.room (by intro e;rw[e]at hm;cases hm);have hB:(st.order.length:Int)*W+W<=16777216*W:=by
      have :(st.order.length:Int)+1<=16777216:=by omega
      have :=Int.mul_le_mul_of_nonneg_right this (show(0:Int)<=W by decide);rw[Int.add_mul,Int.one_mul]at this;exact this
    refine o.load 1 rfl rfl ?_;simp only[bz,aQ];refine o.load 2 rfl rfl ?_;refine o.look 5 rfl ?_;rw[ur hno];simp only[Bool.false_eq_true,if_false,Option.getD_none,bt];rw[show IntKind.i64.wrap (0+1)=1 from rfl];refine o.kE (f':=jy (st.order++ [u])) 5 rfl GW λh1 o1=> ?_;refine o1.load 1 rfl rfl ?_;simp only[bz,aQ];refine o1.load 2 rfl rfl (o1.load 0 rfl rfl ?_);refine o1.iu 6 rfl (by rw[inv.dl];exact hun) λh2 o2=> ?_;refine o2.load 1 rfl rfl (o2.load 1 rfl rfl ?_);simp only[bz,aQ];refine o2.load 2 rfl rfl ?_;refine o2.fF 7 u rfl rfl (bW rfl) rm nP rfl (by decide) (by omega) λz h3 c=>⟨c.load 1 rfl rfl rfl,?_⟩;refine c.bf 2 rfl rfl rfl (c.vw 7 rfl).one (c.vw 7 rfl).plain λh4 ah=> ?_;refine hN _ _ _ _ u hun (H.more ah.ext) ah λvl h5 ai=> ?_;refine aK (abc _ _ _ ?_);unfold Ns;refine ai.box λn3 h6 aF=>aF.box λl4 h7 aI=>aI.box λak h8 aJ=> ?_;have hvl:=ai.vw 0 rfl;obtain⟨bf,D⟩:∃bf,bf=st.pop u key:=⟨_,rfl⟩;have hW:(0:Int)<=W:=by decide
    have inv1:dW g.n (st.order.length*W+W) bf:=by subst D;exact(inv.lu hm).mono (by omega)
    have E:bf.order.length=st.order.length+1:=by subst D;simp[FS.pop]
    have S:=hout u hun;have an:∀i,dW g.n (st.order.length*W+W) (bf.scan g.ag head key ((outs u).take i)):=λi=>
      dW.scan (λa ha=>⟨X a ha,by have :=(hR.ends a ha).2.2;show(a.w:Int)<=2147483647;omega⟩) af (by omega) (λj hj=>S j (List.mem_of_mem_take hj)) inv1
    have aN:Own h h8 (aj ak fJ.cells.toList Aw::aj l4 vl.cells.toList bR::aj n3 [ptr r] cq::aA aV 1 au vl (outs u)::xD d rr m hp t8 g.n sd sa kb key F (bf.scan g.ag head key ((outs u).take 0)).hp z (bf.scan g.ag head key ((outs u).take 0)) y):=by
      subst D;exact aJ
    refine aN.range (afO (r:=r) (T1:=bR) (T2:=cq) (T3:=Aw) (vl:=vl) S (by have :=ay u;omega) hE) (λi x i'⟨⟨hi,e⟩,_⟩=>by rw[e];rfl)
      (λi aO=>∃F,aO=aj ak fJ.cells.toList Aw::aj l4 vl.cells.toList bR::aj n3 [ptr r] cq::aA aV 1 au vl (outs u)::xD d rr m hp t8 g.n sd sa kb key F (bf.scan g.ag head key ((outs u).take i)).hp z (bf.scan g.ag head key ((outs u).take i)) y)
      (λ_=>False) (λ_ _=>False) ⟨F,rfl⟩ ?_ ?_ ?_ (λ_ _ h=>h.elim) (λ_ _ _ h=>h.elim)
    · rintro i aq h' ⟨F,rfl⟩ o';refine⟨?_,o'.get 2 rfl,?_,o'.vw 3 rfl,H.more o'.ext⟩
      · have :=o'.get 1 rfl;rw[show vl.cells.toList=[vl] by rw[hvl.one]]at this;exact this
      · have :=o'.get 0 rfl;rw[show fJ.cells.toList=[fJ] by rw[ax]]at this;exact this
    · rintro M i x i' aq Pr h9 R ⟨⟨hi,rfl⟩,rfl⟩ ⟨F,rfl⟩ f aP _ _;dsimp only[fk];unfold Md;refine f.box λaU h10 T=>T.st 0 rfl rfl rfl rfl rfl (fS _) λh11 q=> ?_;refine q.begin 1 rfl λh12 b=> ?_;refine b.load 8 rfl rfl ?_;simp only[aQ];refine b.load 0 rfl rfl (b.load 7 rfl rfl (b.load 0 rfl rfl ?_));have hil:=S _ (List.getElem_mem hi);have ha:aD g.ag (outs u)[i]∈g.ag:=by simp[aD,hil]
      have hw:=(hR.ends _ ha).2.2
      have e1 : IntKind.i64.wrap (key+((aD g.ag (outs u)[i]).w:Int))=key+(aD g.ag (outs u)[i]).w:=by
        have aW:(16777216:Int)*W<=2^62:=by decide
        exact bG (by omega) (by  have :(W:Int)=2147483647:=rfl
                                 omega)
      rw[bt,e1];refine afP b 9 10 11 12 rfl rfl rfl rfl (by decide) (by decide) (by decide) (an i) aC (X _ ha) λF' N t=> ?_;refine aP _ _ ⟨F',rfl⟩ ?_;have hsc:=afQ (l:=g.ag) (head:=head) (key:=key) (s:=bf) hi;have hro:=@zl (bf.scan g.ag head key ((outs u).take i)) (head (aD g.ag (outs u)[i])) (outs u)[i] (key+(aD g.ag (outs u)[i]).w);rw[<-hsc]at hro;have :=t.tail;rw[<-hsc]at this;simp only[xD,hro.1,hro.2];exact this
    · rintro i h9 aq rfl ⟨F',rfl⟩ f;rw[List.take_length]at f;have O:=@De g.ag head key (outs u) bf;refine f.load 5 rfl rfl (f.box λP h10 T=> ?_);refine T.bf 0 rfl rfl rfl rfl rfl λh11 q=> ?_;refine q.load 7 rfl rfl ?_;simp only[bz,aQ];refine q.load 8 rfl rfl ?_;have inv2:dW g.n ((bf.scan g.ag head key (outs u)).order.length*W) (bf.scan g.ag head key (outs u)):=by
        have :=an (outs u).length;rw[List.take_length]at this;refine this.mono ?_;rw[O.1,E];have :((st.order.length+1:Nat):Int)*W=st.order.length*W+W:=by
          rw[Int.natCast_add,Int.add_mul];rfl
        omega
      have av:FS.run g.ag outs head (g.n+1-(bf.scan g.ag head key (outs u)).order.length) (bf.scan g.ag head key (outs u))=fin:=by
        rw[<-hrun,O.1,E];rw[show g.n+1-st.order.length=(g.n+1-(st.order.length+1))+1 by omega];simp only[FS.run,hl,Int.toNat_natCast];rw[<-D]
      have mark:=λ{h'':aa}{A B:aM}{C:List aM}(o:Own h h'' (A::B::C))=>o;refine xC q 9 rfl (λU h12 b=> ?_) λp U aR h12 b=> ?_
      · simp only[b9,bZ,k8];refine b.bf 0 rfl rfl rfl rfl rfl λN t=> ?_;have V:=(t.swap).tg 14 rfl;refine hZ (_::y,(I 0,(ptr P,(.bool false,())))) N _ (by rw[O.1,E];omega) ⟨bf.scan g.ag head key (outs u),P,0,z,F',(bf.scan g.ag head key (outs u)).hp,rfl,rfl,av,inv2,.inl ⟨U,rfl⟩,?_⟩;exact V.bh [0,6,7,8,9,10,11,12,13,14] (by decide)
      · simp only[b9,bZ,k8];refine b.bf 0 rfl rfl rfl rfl rfl λN t=> ?_;have V:=(t.swap).tg 14 rfl;refine hZ (_::y,(I p.1,(ptr P,(.bool true,())))) N _ (by rw[O.1,E];omega) ⟨bf.scan g.ag head key (outs u),P,p.2,z,aR,(bf.scan g.ag head key (outs u)).hp.erase p,rfl,rfl,av,inv2,.inr ⟨p,U,rfl,rfl,rfl,rfl⟩,?_⟩;exact V.bh [0,6,7,8,9,10,11,12,13,14] (by decide)
end
open Go Go.Mh
section
variable{h0 h:aa}{L:List aM}{K:KT}{g:G}{r:Nat}{outs:Nat->List Nat}{head:A->Nat}{qp fJ:Value}
def uu(h:aa)(t:Tr)(K:KT):Prop:=
 ∀sd sa so h',Own h h' [xR sd t.aH,aA aG 1 au sa t.bF,aA aV 1 au so t.order]->K (.agg #[sd,sa,so]) h'
theorem TV{s:Int}{rv:Value}(hs:rv=.pointer none\/(rv=ptr r/\bJ h r g/\¬(0<=s/\s<g.n)))(hK:uu h .none K):ah Tryz.prog vX [rv,I s,qp,fJ] h K:=by
 refine aK (Me _ _ _ _ ?_);unfold FN AE;refine(Own.start h).box λt8 h1 o1=> ?_;have none:∀{h2:aa},Own h h2 [aj t8 [aN,aN,aN] qi]->aP [(.slice none 0 0),(.slice none 0 0),(.slice none 0 0)] [] λt27=>aC 3 (ptr t8) t27 h2 λu h_3=>aZ 3 h_3 (ptr t8) λres=>K res h_3:=λo2=>
  ⟨trivial,o2.st (cs':=[aN,aN,aN]) 0 rfl (l:=[aN,aN,aN]) rfl rfl rfl rfl (by simp) λh3 a=>a.bN 0 rfl rfl rfl (hK aN aN aN h3 ((a.en.en.en).bh [0,1,2] (by decide)))⟩
 rcases hs with rfl|⟨rfl,H,hs⟩
 ·simp only[ef,Option.isNone_none,bq];exact none o1
 ·simp only[ef,Option.isNone_some,aL,bu,bg];refine⟨λ_=>none o1,λe=>dF (H.more o1.ext) ?_⟩;simp only[c8,bg];exact⟨λ_=>none o1,λe'=>by omega⟩
theorem TW{s:Nat}(hR:g.Right)(H:bJ h r g)(hs:s<g.n)(hN:rX qp g r outs)(hE:jd fJ head)(z:fJ.cells= #[fJ])(B:∀a∈g.ag,head a<g.n)
  (hout:∀v,v<g.n->∀i∈outs v,i<g.ag.length) (C:∀v,(outs v).length<=g.ag.length) (hK:uu h (zk g.ag g.n outs head s) K):ah Tryz.prog vX [ptr r,I s,qp,fJ] h K:=by
 have t:=hR.most;refine aK (Me _ _ _ _ ?_);unfold FN;refine(Own.start h).box λt8 h1 o1=> ?_;simp only[ef,Option.isNone_some,aL,bu,bg];refine⟨λe=>by omega,λ_=>dF (H.more o1.ext) ?_⟩;simp only[c8,bg];refine⟨λe=>by omega,λ_=>dF (H.more o1.ext) (Bs o1 λF hp h2 o2=> ?_)⟩;refine o2.build (enc:=aG) (n:=1) [aI] rfl (bW rfl) rfl λwf h3 j=>dF (H.more j.ext) ?_;refine Tv j (j.vw 0 rfl) t λsd h4 D=> ?_;refine D.build (enc:=aG) (n:=1) [-1] rfl (bW rfl) rfl λE h5 k=>dF (H.more k.ext) ?_;refine Tu k (k.vw 0 rfl) t λsa h6 d=>⟨bW (by
  obtain⟨b,c,e⟩:=(d.vw 0 rfl).mV;obtain⟨b',c',e'⟩:=(d.vw 2 rfl).mV;subst e e';rfl),?_⟩
 have R:sa.cells= #[sa]/\sd.cells= #[sd]:=⟨(d.vw 0 rfl).one,(d.vw 2 rfl).one⟩;refine d.mkMap λm h7 f=> ?_;obtain⟨ba,ca,ea⟩:=(f.vw 1 rfl).mV;obtain⟨bd,cd,ed⟩:=(f.vw 3 rfl).mV;refine⟨bW (by subst ea ed;rfl),f.box λrr h8 u=>u.box λJ h9 w=>w.bf 0 rfl rfl rfl rfl rfl λh10 y=> ?_⟩;have l:Own h h10 (aj J [ptr rr] FG::aj rr [ptr hp,sd,sa,aN,.map (some m)] Ax::dz m (λ_=>none)::aA aG 1 au sa (List.replicate g.n (-1))::aA aG 1 au E [-1]::xR sd (List.replicate g.n aI)::xR wf [aI]::fP F hp [] g.n:: [aj t8 [aN,aN,aN] qi]):=by
  subst ea ed;exact y
 clear y w u f d;refine l.load 0 rfl rfl ?_;simp only[bz,aQ];refine l.load 1 rfl rfl (xB l 7 rfl (by simp) (by simp) hs λS h12 o=> ?_);refine o.load 0 rfl rfl ?_;simp only[bz,aQ];refine o.load 1 rfl rfl ?_;refine xC o 7 rfl (λe=>by simp[least]at e) λp hp' M U N=> ?_;have hp2:p=((s:Int),0):=by simpa[least]using hp'.symm
 subst hp2;simp only[b9,bZ,k8];refine N.box λkb V O=>O.bf 0 rfl rfl rfl rfl rfl λW P=> ?_;have Q:=(P.zd).en (enc:=aV) (n:=1) (T:=au);refine afR (fin:=FS.run g.ag outs head (g.n+1) (FS.start g.n s)) (m:=m) (sd:=sd) (sa:=sa) (rr:=rr) (hp:=hp) hR H hN hE z B hout C (λso h' o'=>hK sd sa so h' o') ?_;refine⟨FS.start g.n s,kb,0,aN,M,_,rfl,rfl,(dW.start hs).mono (by simp[FS.start]),.inr ⟨((s:Int),0),hp',rfl,rfl,rfl,rfl⟩,?_⟩;have e:(λ_=>none:Int->Option Value)=jy (FS.start g.n s).order:=by funext x;simp[jy,FS.start]
 have q:=Q.bh [2,3,4,10,6,5,8,0,11,1] (by decide);dsimp only[List.map,List.getD]at q;rw[e]at q;exact q
end
open Go Go.Mh
section
variable{h0 h:aa}{L:List aM}{K:KT}{g:G}{r:Nat}{s:Int}
theorem afS{g:G}{v i:Nat}(h:i∈g.out v):i<g.ag.length:=by
 have :=(mo.1 h).2.1;omega
theorem TX{g:G}{v i:Nat}(h:i∈g.in v):i<g.ag.length:=by
 have :=(mo.1 h).2.1;omega
theorem xE(hR:g.Right)(H:bJ h r g)(hK:uu h (g.dg s) K):ah Tryz.prog lC [ptr r,I s] h K:=by
 refine aK (Z7 _ _ ?_);unfold LG;refine(Own.start h).box λt4 h1 o1=> ?_;have fin:uu h1 (g.dg s) λt9 h_2=>aC 3 (ptr t4) t9 h_2 λu h_3=>aZ 3 h_3 (ptr t4) λres=>K res h_3:=by
  intro sd sa so h2 o2;have b:=o1.frame o2;refine b.st 3 rfl rfl rfl rfl rfl ?_ λh3 c=>c.bN 3 rfl rfl rfl (hK sd sa so h3 (c.bh [0,1,2] (by decide)));intro u hu;simp at hu;rcases hu with rfl|rfl|rfl
  ·exact(b.vw 0 rfl).plain
  ·exact(b.vw 1 rfl).plain
  ·exact(b.vw 2 rfl).plain
 unfold G.dg at fin;split at fin<;>rename_i hs
 ·obtain⟨s,rfl⟩:=Int.eq_ofNat_of_zero_le hs.1;exact TW hR (H.more o1.ext) (by omega) (TT hR) afM rfl (λa ha=>(hR.ends a ha).2.1) (λv _ i=>afS) (λv=>rR) fin
 ·exact TV (g:=g) (.inr ⟨rfl,H.more o1.ext,hs⟩) fin
theorem GX(hR:g.Right)(H:bJ h r g)(hK:uu h (g.toI s) K):ah Tryz.prog tu [ptr r,I s] h K:=by
 refine aK (aaS _ _ ?_);unfold MQ;refine(Own.start h).box λt4 h1 o1=> ?_;have fin:uu h1 (g.toI s) λt9 h_2=>aC 3 (ptr t4) t9 h_2 λu h_3=>aZ 3 h_3 (ptr t4) λres=>K res h_3:=by
  intro sd sa so h2 o2;have b:=o1.frame o2;refine b.st 3 rfl rfl rfl rfl rfl ?_ λh3 c=>c.bN 3 rfl rfl rfl (hK sd sa so h3 (c.bh [0,1,2] (by decide)));intro u hu;simp at hu;rcases hu with rfl|rfl|rfl
  ·exact(b.vw 0 rfl).plain
  ·exact(b.vw 1 rfl).plain
  ·exact(b.vw 2 rfl).plain
 unfold G.toI at fin;split at fin<;>rename_i hs
 ·obtain⟨s,rfl⟩:=Int.eq_ofNat_of_zero_le hs.1;exact TW hR (H.more o1.ext) (by omega) (TU hR) afN rfl (λa ha=>(hR.ends a ha).1) (λv _ i=>TX) (λv=>rR) fin
 ·exact TV (g:=g) (.inr ⟨rfl,H.more o1.ext,hs⟩) fin
end
end Go.Proofs.YthglofkkjoiepaaGreatDoor
