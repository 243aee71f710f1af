/- Lemmas on the way to the law of this seat, joined. They have no conditions of their own. -/
import Derived.Test.YtacopgnplajifaaGreatDoorTb
import Derived.Test.YtacopgnplajifaaGreatDoorTa
import Derived.Test.YtacopgnplajifaaGreatDoorMb
import Derived.Test.YtacopgnplajifaaGreatDoorMc
import Derived.Test.YtacopgnplajifaaGreatDoorMd
import Derived.Test.YtacopgnplajifaaGreatDoorGb
import Derived.Tactics
import Derived.Tactics2
set_option linter.unusedVariables false
set_option linter.unusedSimpArgs false
set_option linter.unusedSectionVars false
set_option linter.defProp false
set_option maxRecDepth 100000

namespace Go.Proofs.YtacopgnplajifaaGreatDoor
open Go Go.Mh Tryz
section
variable{h0 h:af}{L:List aS}{K:KT}{g:G}{r:Nat}
def Yo{l:List Int}{i:Nat}(hi:i<l.length):gA (l.take (i+1))=fU (gA (l.take i)) l[i]:=by unfold gA;rw[cW hi,jP];rfl
def Yp(e:nw):∀u∈gJ e,Mh.plainCell u=true:=by intro u hu;simp[gJ]at hu;rcases hu with rfl|rfl|rfl<;>rfl
set_option maxHeartbeats 4000000 in
def anb{cells:Nat}(o0:Own h0 h L)(hR:g.Right)(hN:bX h r g)(hc1:1<=cells)(aj:cells<=256)
  (hK:∀rows w h',vF cells rows->Own h0 h' (aC aJ 1 3 w (yd g rows (cells/rows))::L)->K w h'):ah prog 64 [ptr r,I cells] h K:=by
 refine aK (adS ?_);unfold NT;have aG:=hR.most;have hpos:=hR.pos;have O:=hR.x;have P:=hR.y;refine(Own.start h).box λl4 h1 o1=> ?_;refine ana hc1 aj λrows hS=> ?_;simp only[cC,cB];have A:=hS.eL;have an:cells/rows<=cells:=E8 _ _;have hrl:rows<=256:=by have h1:=hS.1;have h2:=hS.2.1;have :=lJ rows h1;omega
 have Q:=hS.1;have p:=λw h'=>hK rows w h' hS;generalize cells/rows=eL at A p an;refine o1.box λm h2 o2=>o2.bu 0 (cs':=[I eL]) rfl rfl rfl rfl rfl λh3 aq=> ?_;rw[cF,show((rows:Int)==0)=false by simp;omega,aO];refine aq.box λac h4 au=>au.box λd h5 q=> ?_;refine aK (Pz ?_);unfold GU;refine q.box λn1 h6 f=> ?_;have f:Own h h6 [ak n1 [ptr r] 47,ak d (gJ (gA (g.Y.take 0))) 226,ak ac (gJ (gA (g.X.take 0))) 226,ak m [I eL] 3,ak l4 [.slice none 0 0] 43]:=f;refine f.range (Yk (r:=r) (n1:=n1) (T:=47) hR) (by rintro s x s' ⟨⟨_,rfl⟩,_⟩;rfl)
  (λi Rs=>i<=g.n/\Rs=[ak n1 [ptr r] 47,ak d (gJ (gA (g.Y.take i))) 226,ak ac (gJ (gA (g.X.take i))) 226,ak m [I eL] 3,ak l4 [.slice none 0 0] 43]) (λ_=>False) (λ_ _=>False) ⟨fE _,rfl⟩ ?_ ?_ ?_ (λ_ _ h=>h.elim) (λ_ _ _ h=>h.elim)
 .rintro i Rs h' ⟨_,rfl⟩ o';exact⟨o'.get 0 rfl,hN.more o'.ext⟩
 .rintro M i x i' Rs Pr h' R ⟨⟨hlt,rfl⟩,rfl⟩ ⟨_,rfl⟩ o' B _ _;dsimp only[gh];unfold NQ;refine o'.begin 0 rfl λh10 a=> ?_;have a:Own h h10 (cD _ _::cw _::ak n1 [ptr r] 47::ak d (gJ (gA (g.Y.take i))) 226::ak ac (gJ (gA (g.X.take i))) 226::ak m [I eL] 3::ak l4 [.slice none 0 0] 43::Pr):=a;refine a.bZ 4 rfl rfl rfl (a.bZ 3 rfl rfl rfl ?_);refine Yl (e:=gA (g.X.take i)) λh11 S=>⟨(a.more S).bZ 3 rfl rfl rfl rfl,?_⟩;refine Yl (e:=gA (g.Y.take i)) λh12 av=> ?_;have ax:=(a.more S).more av;refine ax.st (l:=gJ (fU (gA (g.X.take i)) (g.X.getD i 0))) (cs':=gJ (fU (gA (g.X.take i)) (g.X.getD i 0))) 4 rfl rfl rfl rfl rfl (Yp _) λaH ay=> ?_;refine ay.st (l:=gJ (fU (gA (g.Y.take i)) (g.Y.getD i 0))) (cs':=gJ (fU (gA (g.Y.take i)) (g.Y.getD i 0))) 3 rfl rfl rfl rfl rfl (Yp _) λaA U=> ?_;rw[sg aa,sg aa,<-Yo aa,<-Yo aa]at U;exact B _ aA ⟨aa,rfl⟩ U
 rintro i t Rs hi ⟨_,rfl⟩ k;subst hi;rw[fM aa,fM aa]at k;have aB:g.X≠ []:=λe=>by rw[e]at O;simp at O;omega
 have aD:g.Y≠ []:=λe=>by rw[e]at P;simp at P;omega
 obtain⟨C,D,V,W⟩:=DU hR.xr aB;obtain⟨E,F,Z,ag⟩:=DU hR.yr aD;have hX:∀i,i<g.n->g.X.getD i 0∈g.X:=λi hi=>by rw[sg aa];exact cu _
 have hY:∀i,i<g.n->g.Y.getD i 0∈g.Y:=λi hi=>by rw[sg aa];exact cu _
 have hg:∀rows eL,yd g rows eL=(List.range g.n).map λv=>partOf (gA g.Y) rows (g.Y.getD v 0)*eL+partOf (gA g.X) eL (g.X.getD v 0):=λ_ _=>rfl;rw[hg]at p;generalize gA g.X=ex at k C D V W p;generalize gA g.Y=b at k E F Z ag p;have lx:∀{h':af}{K:Value->Prop},Ext t h'->K (yh ex)->bq 3 h' (ptr ac) K:=λx hk=>(k.more x).bZ 3 rfl rfl rfl hk;have ly:∀{h':af}{K:Value->Prop},Ext t h'->K (yh b)->bq 3 h' (ptr d) K:=λx hk=>(k.more x).bZ 2 rfl rfl rfl hk;refine gW (λy h'=>∃col row ea ma wa eb c wb,y=(ptr col,(ptr row,()))/\Own t h' [ak row [ny eb c wb] 231,ak col [ny ea ma wa] 231,qX eb c wb b rows,qX ea ma wa ex eL]) (λJ hJ=> ?_) ?_
 .have o:=Own.start t;refine lx (.refl _ _) ((k.load 4 rfl rfl) (ly (.refl _ _) ?_))
  repeat' (first
   |refine Ym o C D V λea ma wa hh o=> ?_
   |refine Ym o E F Z λeb c wb hh o=> ?_
   |refine o.box λcol hh o=> ?_
   |refine o.bu 0 (cs':=[ny _ _ _]) rfl rfl rfl rfl rfl λhh o=> ?_
   |refine o.bu 1 (cs':=[ny _ _ _]) rfl rfl rfl rfl rfl λhh o=> ?_
   |refine o.bu 2 (cs':=[ny _ _ _]) rfl rfl rfl rfl rfl λhh o=> ?_
   |refine o.bu 3 (cs':=[ny _ _ _]) rfl rfl rfl rfl rfl λhh o=> ?_
   |exact ly o.ext rfl
   |exact hJ _ _ ⟨_,_,_,_,_,_,_,_,rfl,o.bh [0,1,2,3] az⟩
   |exact hJ _ _ ⟨_,_,_,_,_,_,_,_,rfl,o.bh [1,0,2,3] az⟩
   |exact hJ _ _ ⟨_,_,_,_,_,_,_,_,rfl,o.bh [0,2,1,3] az⟩
   |exact hJ _ _ ⟨_,_,_,_,_,_,_,_,rfl,o.bh [2,0,1,3] az⟩
   |exact hJ _ _ ⟨_,_,_,_,_,_,_,_,rfl,o.bh [1,2,0,3] az⟩
   |exact hJ _ _ ⟨_,_,_,_,_,_,_,_,rfl,o.bh [2,1,0,3] az⟩
   |exact hJ _ _ ⟨_,_,_,_,_,_,_,_,rfl,o.bh [0,3,1,2] az⟩
   |exact hJ _ _ ⟨_,_,_,_,_,_,_,_,rfl,o.bh [3,0,1,2] az⟩
   |exact hJ _ _ ⟨_,_,_,_,_,_,_,_,rfl,o.bh [1,3,0,2] az⟩
   |exact hJ _ _ ⟨_,_,_,_,_,_,_,_,rfl,o.bh [3,1,0,2] az⟩
   |exact hJ _ _ ⟨_,_,_,_,_,_,_,_,rfl,o.bh [2,3,0,1] az⟩
   |exact hJ _ _ ⟨_,_,_,_,_,_,_,_,rfl,o.bh [3,2,0,1] az⟩
   |with_reducible apply And.intro)
 rintro⟨y,z,⟨⟩⟩ aI ⟨col,row,ea,ma,wa,eb,c,wb,e,aE⟩;injection e with e1 e2;injection e2 with e2 _;dsimp only;subst e1 e2;unfold NS;have H:=(k.frame aE).Cf;have H:=Own.xm (j:=0) (H.bh [5,0,1,2,3,4,6,7,8,9,10] az) rfl;refine aK (Pz ?_);unfold GU;refine H.box λn2 aF N=> ?_;have N:Own h aF (aC aJ 1 3 (.slice none 0 0) (((List.range g.n).map λv=>partOf b rows (g.Y.getD v 0)*eL+partOf ex eL (g.X.getD v 0)).take 0)::ak n2 [ptr r] 47::kF [h6.size]::ak row [ny eb c wb] 231::ak col [ny ea ma wa] 231::qX eb c wb b rows::qX ea ma wa ex eL::ak n1 [ptr r] 47::ak d (gJ b) 226::ak ac (gJ ex) 226::ak m [I eL] 3::ak l4 [.slice none 0 0] 43:: []):=Own.ef (enc:=aJ) (n:=1) (T:=3) N;refine N.range (Yk (r:=r) (n1:=n2) (T:=47) hR) (by rintro s x s' ⟨⟨_,rfl⟩,_⟩;rfl)
  (λi Rs=>i<=g.n/\∃w,Rs=aC aJ 1 3 w (((List.range g.n).map λv=>partOf b rows (g.Y.getD v 0)*eL+partOf ex eL (g.X.getD v 0)).take i)::ak n2 [ptr r] 47::kF [h6.size]::ak row [ny eb c wb] 231::ak col [ny ea ma wa] 231::qX eb c wb b rows::qX ea ma wa ex eL::ak n1 [ptr r] 47::ak d (gJ b) 226::ak ac (gJ ex) 226::ak m [I eL] 3::ak l4 [w] 43:: []) (λ_=>False) (λ_ _=>False) ⟨fE _,_,rfl⟩ ?_ ?_ ?_ (λ_ _ h=>h.elim) (λ_ _ _ h=>h.elim)
 .rintro i Rs h' ⟨_,w,rfl⟩ o';exact⟨o'.get 1 rfl,hN.more o'.ext⟩
 .rintro M i x i' Rs Pr h' R ⟨⟨hlt,rfl⟩,rfl⟩ ⟨_,w,rfl⟩ o' B _ _;dsimp only[gh];unfold NR;refine o'.begin 0 rfl λh10 a=> ?_;have a:Own h h10 (cD _ _::cw _::aC aJ 1 3 w (((List.range g.n).map λv=>partOf b rows (g.Y.getD v 0)*eL+partOf ex eL (g.X.getD v 0)).take i)::ak n2 [ptr r] 47::kF [h6.size]::ak row [ny eb c wb] 231::ak col [ny ea ma wa] 231::qX eb c wb b rows::qX ea ma wa ex eL::ak n1 [ptr r] 47::ak d (gJ b) 226::ak ac (gJ ex) 226::ak m [I eL] 3::ak l4 [w] 43::([]++Pr)):=a;have ix:=W _ (hX i hlt);have u:=ag _ (hY i hlt);refine a.load 13 rfl rfl (a.load 5 rfl rfl (a.load 12 rfl rfl (a.load 6 rfl rfl ?_)));refine Yn a 7 rfl E F u.1 u.2 hrl Q ⟨a.load 13 rfl rfl rfl,a.load 12 rfl rfl rfl,a.load 6 rfl rfl rfl,?_⟩;have p1:=AO u.1 u.2 Q;have p2:=AO ix.1 ix.2 A.1;have hm:partOf b rows (g.Y.getD i 0)*(eL:Int)<=256*256:=Int.mul_le_mul aa aa aa aa;have hm0:0<=partOf b rows (g.Y.getD i 0)*(eL:Int):=Bs p1.1 aa;rw[iO,bK aa aa];refine Yn a 8 rfl C D ix.1 ix.2 aa A.1 ⟨a.load 13 rfl rfl rfl,a.load 12 rfl rfl rfl,?_⟩;rw[bw,bK aa aa];refine a.fH 2 (partOf b rows (g.Y.getD i 0)*(eL:Int)+partOf ex eL (g.X.getD i 0)) rfl rfl (bW rfl) (λ_=>rfl) jb rfl az (by rw[dO];omega) λw' h5 q=> ?_;have hw':=q.vw 2 rfl;refine q.bu 13 (cs':=[w']) rfl rfl rfl hw'.one hw'.plain λh6 f=> ?_;refine B _ h6 ⟨aa,w',rfl⟩ ?_;rw[cW (by simpa using hlt)];simp only[qv,sP];exact f
 .rintro i h' Rs hi ⟨_,w,rfl⟩ o';subst hi;rw[fM aP]at o';have hw':=o'.vw 1 rfl;refine o'.load 12 rfl rfl (o'.bu 12 (cs':=[w]) rfl rfl rfl hw'.one hw'.plain λh6 f=> ?_);refine Own.acf f 2 rfl λh7 ai=>ai.load 11 rfl rfl ?_;exact p w h7 (o0.frame (ai.bh [0] az))
end
section
variable{h0 h:af}{L:List aS}{K:KT}{g:G}{r:Nat}{vo:Value}{O:List Nat}
def ane(O:List Nat)(i:Nat)(x:List Value)(i':Nat):Prop:=i<O.length/\i'=i+1/\∃k:Int,x=[I k,I (O.reverse.getD i 0:Nat)]
def anf(O:List Nat)(i:Nat)(x:List Value)(i':Nat):Prop:=i<O.length/\i'=i+1/\x=[I (O.reverse.getD i 0:Nat)]
def Yq{i:Nat}(h:i<O.length):O.reverse.getD i 0=O[O.length-1-i]'aa:=by rw[cI,List.getElem?_reverse h,dD aa];rfl
def ang{b:Nat}{T:TypeId}(hl:O.length<2^40):iG prog (.func (.func 395) #[] #[ptr b]) (λh=>h[b]? =some (.cells #[vo] T (0,0))/\Vw bg 1 h vo O) (σ:=Nat) 0 (ane O) (λi=>i=O.length):=by
 rintro yv h0 h Rs K J E ⟨l,rfl⟩ o c hQ hY hK;refine jE (l:=[dS l,ptr b]) rfl (ajj ?_);unfold VC;obtain⟨hb,hv⟩:=hQ _ _ _ c o;have hc:hcell h ⟨b,0,none⟩=some vo:=bz hb rfl;refine bJ rfl hc (hv.len ?_);rw[fc,bK aa aa];refine bV O.length (λi x h'=>x.1=I ((O.length:Int)-1-i)/\∃a,J i a/\Own h0 h' a) ⟨by show I _=I _;congr 1;omega,Rs,c,o⟩ ?_;clear hb hv hc o c;rintro i ⟨x,⟨⟩⟩ h Z hi ⟨hx,a,hj,o⟩ hZ;dsimp only at hx hZ |-;subst hx;unfold VB;rw[dA,bA];refine⟨λhlt=> ?_,λhge=> ?_⟩
 .have hlt:i<O.length:=aa;obtain⟨hb,hv⟩:=hQ _ _ _ hj o;have hc:hcell h ⟨b,0,none⟩=some vo:=bz hb rfl;refine bJ rfl hc ?_;rw[show((O.length:Int)-1-i)=((O.length-1-i:Nat):Int) by omega];refine hv.dU (e:=λ(x:Nat)=>I x) (λ_=>rfl) (show O.length-1-i<O.length by omega) ?_;rw[<-Yq hlt];refine hY i _ (i+1) a [] h _ ⟨hlt,rfl,_,rfl⟩ hj o.oK (λd h'' hj' o'=> ?_) λd h'' he o'=> ?_
  .rw[bP,cz,aO,fc,bK aa aa];exact hZ (_,()) h'' hlt ⟨by show I _=I _;congr 1;omega,d,hj',o'.gi⟩
  .rw[bP,dL,bF];exact hK _ _ (.inr he) o'.gi
 .have :i=O.length:=aa;exact hK _ _ (.inl ⟨i,this,hj⟩) o
def anh{b:Nat}{T:TypeId}(hl:O.length<2^40):iG prog (.func (.func 376) #[] #[ptr b]) (λh=>h[b]? =some (.cells #[vo] T (0,0))/\Vw bg 1 h vo O) (σ:=Nat) 0 (anf O) (λi=>i=O.length):=by
 rintro yv h0 h Rs K J E ⟨l,rfl⟩ o f hQ hY hK;refine jE (l:=[dS l,ptr b]) rfl (aiW ?_);unfold U9;obtain⟨hb,hv⟩:=hQ _ _ _ f o;have hone:=hv.one;refine o.box λe h1 o1=> ?_;have o1:Own h0 h1 (ak e [dS l] 105::Rs):=o1;obtain⟨q,t⟩:=hQ _ _ _ f o1.tail;have hc:hcell h1 ⟨b,0,none⟩=some vo:=bz q rfl;refine bJ rfl hc ?_;refine aK (aiX ?_);unfold Va;refine o1.box λs1 h2 o2=> ?_;rw[show(Value.cells vo).toList=[vo] by rw[hone]]at o2;refine o2.range (ang (O:=O) (vo:=vo) (T:=43) hl) (by rintro i x i' ⟨_,_,k,rfl⟩;rfl)
  (λi c=>∃a,c=ak s1 [vo] 43::ak e [dS l] 105::a/\J i a)
  (λc=>∃a,c=ak s1 [vo] 43::ak e [dS l] 105::a/\E a) (λ_ _=>False) ⟨Rs,rfl,f⟩ ?_ ?_ ?_ ?_ (λ_ _ _ h=>h.elim)
 .rintro i c h' ⟨a,rfl,hj⟩ o';exact⟨o'.get 0 rfl,(hQ _ _ _ hj o'.tail.tail).2⟩
 .rintro M i x i' c Pr h' R ⟨h1,rfl,k,rfl⟩ ⟨a,rfl,hj⟩ o' hN hR _;dsimp only[gh];unfold U8;refine o'.begin 0 rfl λh3 n=> ?_;refine n.load 3 rfl rfl ?_;have s:Own h0 h3 ([cD (h2.size+1) (lo M .busy none),cw h2.size,ak s1 [vo] 43,ak e [dS l] 105]++(a++Pr)):=n;have p:=Own.comm s;rw[c7]at p;refine hY i _ (i+1) a _ h3 _ ⟨h1,rfl,rfl⟩ hj p (λj h'' hj' d=> ?_) λj h'' he d=> ?_
  .rw[bP,cz,aO];rw[<-c7]at d;exact hN _ h'' ⟨j,rfl,hj'⟩ (Own.comm d)
  .rw[bP,dL,bF];rw[<-c7]at d;exact hR _ h'' ⟨j,rfl,he⟩ (Own.comm d)
 .rintro i h' c rfl ⟨a,rfl,hj⟩ o';exact o'.jV 0 rfl λh10 m=>hK _ _ (.inl ⟨_,rfl,hj⟩) m.tail.tail.tail
 .rintro h' c ⟨a,rfl,he⟩ o';exact o'.jV 0 rfl λh10 m=>hK _ _ (.inr he) m.tail.tail.tail
def AR:Option Nat->Value
 |none=>I (-1)
 |some w=>I w
def Yr{fv hv:Value}{f:Nat->Int}{Q:af->Prop}(o:Own h0 h L)(hone:hv.cells= #[hv])(n:Mh.plainCell hv=true)(hI:iG prog fv Q (σ:=Nat) 0 (WE O) (λi=>i=O.length))(hQ:∀h',Own h0 h' L->Q h')
  (hH:∀h'(v:Nat)(K:KT),v∈O->Own h0 h' L->K (I (f v)) h'->aX prog hv [I v].toArray h' K) (hK:∀h',Own h0 h' L->K (AR (kM f O)) h'):ah prog 241 [fv,hv] h K:=by
 refine aK (agC ?_);unfold aqW;refine o.box λa3 h1 o1=>o1.box λf5 h2 o2=>o2.bu 0 (cs':=[I (-1)]) rfl rfl rfl rfl rfl λh3 c=> ?_;have c:Own h0 h3 (ak f5 [AR (kM f (O.take 0))] 3::ak a3 [hv] 369::L):=by
  have :(Value.cells hv).toList=[hv]:=by rw[hone]
  rw[this]at c;exact c
 clear o1 o2;refine c.range hI (by rintro i x i' ⟨_,_,rfl⟩;rfl) (λi Rs=>i<=O.length/\Rs=ak f5 [AR (kM f (O.take i))] 3::ak a3 [hv] 369::L) (λ_=>False) (λ_ _=>False) ⟨fE _,rfl⟩ ?_ ?_ ?_ (λ_ _ h=>h.elim) (λ_ _ _ h=>h.elim)
 .rintro i Rs h' ⟨_,rfl⟩ o';exact hQ _ o'.tail.tail
 .rintro M i x i' Rs Pr h' R ⟨h1,rfl,rfl⟩ ⟨_,rfl⟩ o' hN _ _;dsimp only[gh];unfold Sn;have e:O.getD i 0=O[i]:=by rw[cI,dD h1];rfl
  rw[e];have hmem:O[i]∈O:=cu h1;have d:kM f (O.take (i+1))=tM f (kM f (O.take i)) O[i]:=by rw[cW h1,alP]
  have hold:∀w,kM f (O.take i)=some w->w∈O:=λw hw=>by
   rcases su (f:=f) (l:=O.take i)with ⟨e,_⟩|⟨w',e,h1,_⟩
   .rw[e]at hw;cases hw
   .rw[e]at hw;cases hw;exact lK h1
  generalize O[i]=v at hmem d;generalize kM f (O.take i)=b at o' d hold;refine o'.begin 0 rfl λh4 a=> ?_;have a:Own h0 h4 (cD (h3.size+1) (lo M .busy none)::cw h3.size::ak f5 [AR b] 3::ak a3 [hv] 369::(L++Pr)):=a;have j:Own h0 h4 L:=a.tail.tail.tail.tail.left;have k2:tM f b v=some v->z7 prog (ptr f5) (I v) R h4:=λhb=>by unfold z7;refine a.bu 2 (cs':=[I v]) rfl rfl rfl rfl rfl λh5 k=> ?_;refine hN _ h5 ⟨h1,rfl⟩ ?_;rw[d,hb];exact k
  have same:tM f b v=b->R .normal h4:=λhb=>by refine hN _ h4 ⟨h1,rfl⟩ ?_;rw[d,hb];exact a
  refine a.load 3 rfl rfl (hH _ _ _ hmem j ?_);rw[akS,bA];refine⟨λhp=>a.load 2 rfl rfl ?_,λhn=>same (aQ λh=>hn h.1)⟩;cases b with
  |none=>show aq .lss (I (-1)) _ _;rw[bC,show decide ((-1:Int)<0)=true from rfl,bF];exact k2 (aW ⟨hp,rfl⟩)
  |some w=>show aq .lss (I w) _ _;rw[bC,show decide ((w:Int)<0)=false from bR aa,aO];refine a.load 3 rfl rfl (a.load 2 rfl rfl (hH _ w _ (hold w rfl) j ?_));rw[akS,bA];refine⟨λhw=>k2 (aW ⟨hp,bT (.inl hw)⟩),λhw=>a.load 3 rfl rfl (a.load 2 rfl rfl (hH _ w _ (hold w rfl) j ?_))⟩;rw[cF,kD];refine⟨λhe=>a.load 2 rfl rfl ?_,λhe=>same (aQ λh=>by have :=gM h.2;omega)⟩;show aq .lss _ (I w) _;rw[bC,bA];exact⟨λhl=>k2 (aW ⟨hp,bT (.inr ⟨he,aa⟩)⟩),λhl=>same (aQ λh=>by have :=gM h.2;omega)⟩
 .rintro i h' Rs rfl ⟨_,rfl⟩ o';rw[fF]at o';refine o'.load 1 rfl rfl (o'.jV 0 rfl λh10 m=> ?_);exact hK _ m.tail.tail.tail
end
section
variable{h0 h:af}{L:List aS}{K:KT}{g:G}{r:Nat}
def ani{z:Int}(H:bX h r g)(hK:K (.bool (decide (0<=z)&&decide (z<g.n))) h):ah prog 99 [ptr r,I z] h K:=by
 refine aK (aeo ?_);unfold OI;simp only[dA,bA];refine⟨λh1=>dV H ?_,λh1=> ?_⟩
 .rw[bC];rw[bT h1,kT]at hK;exact hK
 .rw[bR h1,oy]at hK;exact hK
def Ju{z:Int}(H:bX h r g)(hK:∀h',Ext h h'->K (.tuple #[vA (akT g.aj z).1,.bool (akT g.aj z).2]) h'):ah prog 180 [ptr r,I z] h K:=by
 refine VW H (λi hi e h' x=> ?_) λhn h' x=> ?_
 .subst e;have :=hK h' x;rw[show akT g.aj (i:Int)=(g.aj[i],true) by simp[akT,aH,hi]]at this;exact this
 .have :=hK h' x;rw[akT,aQ hn]at this;exact this
def anj(hR:g.Right){z:Int}:((akT g.aj z).1.w:Int)<=2147483647:=by
 unfold akT;split
 .rename_i h1;have :=(hR.ends _ (jf (l:=g.aj) (i:=z.toNat) aa)).2.2;show((aH g.aj z.toNat).w:Int)<=_;omega
 .decide
def ank{a5 n3 s4:Nat}{s:Int}{va:Value}{aj:List Int}{T1 T2:TypeId}(hl:aj.length<2^40):
  uT prog (.func (.func 185) #[] #[ptr a5,ptr n3,ptr s4]) (λ_ h=>h[a5]? =some (.cells #[va] T1 (0,0))/\h[n3]? =some (.cells #[ptr r] T2 (0,0))/\bX h r g/\Vw aJ 1 h va aj)
   [ak s4 [I s] 3] (σ:=Nat×Int) (0,s) (L5 g.aj aj) (λp=>p.1=aj.length):=by
 rintro yv h0 h Rs K J E ⟨l,rfl⟩ o j hQ hY hK;refine jE (l:=[dS l,ptr a5,ptr n3,ptr s4]) rfl (afR ?_);unfold Q1;obtain⟨ha,_,_,hv⟩:=hQ _ _ _ j o.left;refine bJ rfl (bz ha rfl) (hv.len ?_);refine bV aj.length (λi x h'=>x.1=I i/\∃s' d,J (i,s') d/\Own h0 h' (d++ [ak s4 [I s'] 3])) ⟨rfl,s,Rs,j,o⟩ ?_;clear ha hv;rintro i ⟨x,⟨⟩⟩ h Z hi ⟨hx,s,d,hj,o⟩ hZ;dsimp only at hx hZ |-;subst hx;unfold Q0;simp only[bC,bA];refine⟨λhlt=> ?_,λhge=> ?_⟩
 .have hlt:i<aj.length:=aa;obtain⟨ha,hn,hN,hv⟩:=hQ _ _ _ hj o.left;refine hv.Im hlt (bJ rfl (bz hn rfl) (Ju hN λh1 x1=> ?_));have nx:L5 g.aj aj (i,s) [vA (akT g.aj aj[i]).1,.bool ((akT g.aj aj[i]).2&&decide (((akT g.aj aj[i]).1.f:Int)=s))] (i+1,((akT g.aj aj[i]).1.t:Int)):=⟨hlt,rfl,rfl⟩;generalize akT g.aj aj[i]=w at nx;simp only[cC,cB];have o1:=o.more x1;refine o1.box λb h2 o2=>o2.st 0 rfl rfl rfl rfl rfl (gQ _) λh3 e=> ?_;simp only[aU];refine e.bZ 0 rfl rfl rfl ?_;have k:Own h0 h3 (d++ [ak s4 [I s] 3,ak b (fI w.1) 59]):=by
   have :=e.oJ;rw[c7]at this;exact this
  have after:∀(a:List aS)(h'':af),J (i+1,(w.1.t:Int)) a->Own h0 h'' (a++ [ak s4 [I s] 3,ak b (fI w.1) 59])->xB prog K (ptr b) (ptr s4) (I i) (λa0 hz=>Z (a0,()) hz) (.bool false) h'':=by
   intro a h'' hj' o';unfold xB;simp only[aU,aO];refine o'.load (a.length+1) (b:=b) (cs:=fI w.1) (T:=59) (off:=0+1) (by rw[eR aa];simp) rfl ?_;refine o'.bu a.length (b:=s4) (T:=3) (cs:=[I s]) (cs':=[I w.1.t]) (by rw[eR aa];simp) rfl rfl rfl rfl λh4 m=> ?_;rw[bw,wI i aa];refine hZ (I (i+1:Nat),()) h4 hlt ⟨rfl,(w.1.t:Int),a,hj',?_⟩;rw[mG _ _ aa,iE]at m;have :Own h0 h4 ((a++ [ak s4 [I w.1.t] 3])++ [ak b (fI w.1) 59]):=by rw[c7];exact m
   exact this.left
  have y:∀c:Bool,c=(w.2&&decide ((w.1.f:Int)=s))->aX prog (dS l) [vA w.1,.bool c].toArray h3 λt30 h_5=>bY .not t30 λt31=>xB prog K (ptr b) (ptr s4) (I i) (λa0 hz=>Z (a0,()) hz) t31 h_5:=by
   intro c hc;subst hc;refine hY _ _ _ d _ h3 _ nx hj k (λa h'' hj' o'=> ?_) λa h'' he o'=> ?_
   .rw[bP,cz];exact after a h'' hj' o'
   .rw[bP,dL];unfold xB;rw[bF];exact hK _ _ (.inr he) o'.left
  cases hw:w.2 with
  |true=>rw[bF];refine e.load 0 rfl rfl (k.load d.length (b:=s4) (cs:=[I s]) (T:=3) (by rw[eR aa];simp) rfl ?_);rw[cF];exact y _ (by rw[hw,kT];rfl)
  |false=>rw[aO];exact y _ (by rw[hw,oy])
 .have :i=aj.length:=aa;exact hK _ _ (.inl ⟨(i,s),this,hj⟩) o.left
def anl{s t:Int}{va:Value}{aj:List Int}(hR:g.Right)(H:bX h r g)(hv:Vw aJ 1 h va aj)(hl:aj.length<2147483648)
  (o:∀w h',0<=s->s<g.n->nh g.aj s 0 aj=some (t,w)->Ext h h'->K (.tuple #[I w,.bool true]) h')
  (d:∀h',¬(0<=s/\s<g.n/\∃w,nh g.aj s 0 aj=some (t,w))->Ext h h'->K (.tuple #[I 0,.bool false]) h'):ah prog 33 [ptr r,I s,I t,va] h K:=by
 refine aK (adq ?_);unfold Nb;refine(Own.start h).box λj h1 o1=>ani (H.more o1.ext) ?_;by_cases hs:0<=s/\s<g.n
 .rw[bT hs.1,bT hs.2,kT,bP,cz,aO];refine o1.box λk h2 o2=>o2.bu 0 (cs':=[I s]) rfl rfl rfl rfl rfl λh3 u=> ?_;refine aK (aep ?_);unfold OJ;refine u.box λn3 h4 v=>v.box λs4 h5 y=>y.box λa5 h6 m=> ?_;have A:=hv.one;have B:Own h h6 ([ak a5 [va] 43,ak n3 [ptr r] 47,ak k [I s] 3,ak j [I 0] 2]++ [ak s4 [I s] 3]):=by
   rw[show va.cells.toList=[va] by rw[A]]at m;exact m.bh [0,2,3,4,1] az
  refine B.LF (ank (g:=g) (r:=r) (va:=va) (aj:=aj) (T1:=43) (T2:=47) aa) (by rintro p x p' ⟨_,rfl,_⟩;rfl)
   (λp Rs=>∃w:Int,0<=p.2/\0<=w/\w<=p.1*2147483647/\p.1<=aj.length/\nh g.aj s 0 aj=nh g.aj p.2 w (aj.drop p.1)/\Rs=[ak a5 [va] 43,ak n3 [ptr r] 47,ak k [I p.2] 3,ak j [I w] 2])
   (λ_=>False)
   (λid Rs=>id=0/\nh g.aj s 0 aj=none/\∃w,Rs=[ak a5 [va] 43,ak n3 [ptr r] 47,ak k [I (-1)] 3,ak j [I w] 2])
   ⟨0,hs.1,aa,aa,fE _,rfl,rfl⟩ ?_ ?_ ?_ (λ_ _ h=>h.elim) ?_
  .rintro p l h' ⟨w,_,_,_,_,_,rfl⟩ o';exact⟨o'.get 0 rfl,o'.get 1 rfl,H.more o'.ext,hv.more o'.ext⟩
  .rintro M ⟨i,e⟩ x p' l Pr h' R ⟨hi,rfl,rfl⟩ ⟨w,he,hw0,hw1,hil,hch,rfl⟩ o' hN _ hX;dsimp only[gh]at hi hch hw1 |-;rw[acI hi]at hch;have C:=anj hR (z:=aj[i]);generalize akT g.aj aj[i]=q at hch hN C;unfold Na;refine o'.box λJ h8 D=>D.st 0 rfl rfl rfl rfl rfl (gQ _) λh9 E=> ?_;refine E.begin 1 rfl λh10 c=> ?_;rw[bP];by_cases hc:(q.2&&decide ((q.1.f:Int)=e))=true
   .rw[aW hc]at hch;rw[hc,cz,aO];simp only[aU];refine c.load 6 rfl rfl (c.load 0 rfl rfl ?_);rw[bw,bK aa aa];refine c.bu 6 (cs':=[I (w+q.1.w)]) rfl rfl rfl rfl rfl λh11 a=> ?_;refine a.load 0 rfl rfl (a.bu 5 (cs':=[I q.1.t]) rfl rfl rfl rfl rfl λh12 b=> ?_);refine hN _ _ ⟨w+q.1.w,aa,aa,by(show _<=((i+1:Nat):Int)*_;omega),hi,hch,rfl⟩ ?_;exact b.tail
   .rw[aQ hc]at hch;have hc:(q.2&&decide ((q.1.f:Int)=e))=false:=by simpa using hc
    rw[hc,dL,bF];refine c.bu 5 (cs':=[I (-1)]) rfl rfl rfl rfl rfl λh11 a=> ?_;exact hX 0 _ _ ⟨rfl,hch,w,rfl⟩ a.tail
  .rintro⟨i,e⟩ h' l hst ⟨w,he,hw0,hw1,hil,hch,rfl⟩ o';dsimp only at hst hch he;subst hst;rw[uu]at hch;simp only[nh]at hch;unfold zX;refine o'.load 3 rfl rfl ?_;rw[bC,bR aa,aO];refine o'.load 3 rfl rfl ?_;rw[fe];by_cases ht:e=t
   .subst ht;rw[iK,aO];refine o'.load 4 rfl rfl (o'.bu 4 (cs':=[I w]) rfl rfl rfl rfl rfl λh11 a=> ?_);refine a.jV 0 rfl λh12 b=>b.load 4 rfl rfl (o w _ hs.1 hs.2 hch b.ext)
   .rw[show(e != t)=true by simpa using ht,bF];unfold CA;refine o'.bu 4 (cs':=[I 0]) rfl rfl rfl rfl rfl λh11 a=> ?_;refine a.jV 0 rfl λh12 b=>b.load 4 rfl rfl (d _ ?_ b.ext);rintro⟨_,_,w',hw'⟩;rw[hch]at hw';exact ht (eG Prod.fst (eV hw'))
  .rintro id h' l ⟨rfl,hch,w,rfl⟩ o';show zX _ _ _ _ _ _ _;unfold zX;refine o'.load 3 rfl rfl ?_;rw[bC,bT aa,bF];unfold CA;refine o'.bu 4 (cs':=[I 0]) rfl rfl rfl rfl rfl λh11 a=> ?_;refine a.jV 0 rfl λh12 b=>b.load 4 rfl rfl (d _ ?_ b.ext);rintro⟨_,_,w',hw'⟩;rw[hch]at hw';cases hw'
 .have F:(decide (0<=s)&&decide (s<(g.n:Int)))=false:=by
   rw[Bool.and_eq_false_imp];intro h1;exact bR λh2=>hs ⟨gM h1,h2⟩
  rw[F,bP,dL,bF];refine o1.bu 0 (cs':=[I 0]) rfl rfl rfl rfl rfl λh2 o2=>o2.load 0 rfl rfl (d _ (λe=>hs ⟨e.1,e.2.1⟩) o2.ext)
end
abbrev iU(g:G)(t:Tr)(rn r pt tr m pm b5 b4 b3:Nat)(vs vm sd sa so vl:Value)(f:Int->Option Value)(S:GS)(rest:List aS):List aS:=
  ak pt [ptr tr] 362::ak tr [sd,sa,so,.map (some m),vs] 368::eD m f::ak pm [vm] 43::aC aJ 1 3 vm S.mc::xR vs S.sz::xR sd t.aM::aC aJ 1 3 sa t.bS::aC bg 1 3 so t.order::
    ak b5 [I r] 3::ak b4 [vl] 219::ak b3 [ptr rn] 47::rest
section
variable{h0 h:af}{L Pr:List aS}{K:KT}{g:G}{t:Tr}{rn r pt tr m pm b5 b4 b3:Nat}{vs vm sd sa so vl:Value}{f:Int->Option Value}{S:GS}{a b:aS}{kv:Nat->Value}{R:Exit->af->Prop}{v:Nat}
def anm{l:List A}{z:Int}:((akT l z).2=true↔0<=z/\z<l.length)/\((akT l z).2=true->(akT l z).1=aH l z.toNat):=by
  unfold akT;split
  · rename_i h;exact⟨⟨λ_=>h,λ_=>rfl⟩,λ_=>rfl⟩
  · rename_i h;exact⟨⟨λe=>(by cases e),λe=>absurd e h⟩,λe=>(by cases e)⟩
def Ys (hN:bX h0 rn g) (hal:t.bS.length=g.n) (hv:v<g.n) (hn:g.n<=16777216) (j:∀p,fS g.aj t v=some p->p<g.n) (k:∀x,(S.kd x).length<=2^32) (hf:∀u:Nat,(f u).getD aT=kv u)
    (o:Own h0 h (a::b::iU g t rn r pt tr m pm b5 b4 b3 vs vm sd sa so vl f S (fA bg 1 3 kv S.kd g.n++Pr)))
    (hR:∀f' kv' h',(∀u:Nat,(f' u).getD aT=kv' u)->Own h0 h' (a::b::iU g t rn r pt tr m pm b5 b4 b3 vs vm sd sa so vl f' ⟨S.sz,S.mc,sr S.kd v (fS g.aj t v)⟩ (fA bg 1 3 kv' (sr S.kd v (fS g.aj t v)) g.n++Pr))->R .normal h'):
    CZ prog (ptr b3) (ptr pt) (I v) R h:=by
  unfold CZ;obtain⟨w1,w2⟩:=@anm g.aj (t.bS.getD v (-1));refine gW (λy h'=>∃c:Nat,y.1=ptr c/\y.2.1=.bool (akT g.aj (t.bS.getD v (-1))).2/\Own h0 h' (ak c [I (akT g.aj (t.bS.getD v (-1))).1.f,I (akT g.aj (t.bS.getD v (-1))).1.t,I (akT g.aj (t.bS.getD v (-1))).1.w] 59::a::b::iU g t rn r pt tr m pm b5 b4 b3 vs vm sd sa so vl f S (fA bg 1 3 kv S.kd g.n++Pr))) (λJ hJ=> ?_) ?_
  · refine o.load 13 rfl rfl (o.load 2 rfl rfl ?_);simp only[bD,aU];refine o.load 3 rfl rfl ((o.vw 9 rfl).Im (by rw[hal];exact hv) ?_);rw[acA (by rw[hal];exact hv)];generalize t.bS.getD v (-1)=z at hJ;refine⟨Ju (hN.more o.ext) λh1 x1=> ?_,o.box λc h1 o1=>Ju (hN.more o1.ext) λh2 x2=> ?_⟩
    · have o1:=o.more x1;simp only[cC,cB];refine o1.box λc h2 o2=>o2.st (cs':=[I (akT g.aj z).1.f,I (akT g.aj z).1.t,I (akT g.aj z).1.w]) 0 rfl rfl rfl rfl rfl (by intro u hu;simp at hu;rcases hu with rfl|rfl|rfl<;>rfl) λh3 d=>hJ _ _ ⟨c,rfl,rfl,d⟩
    · have o2:=o1.more x2;simp only[cC,cB];refine o2.st (cs':=[I (akT g.aj z).1.f,I (akT g.aj z).1.t,I (akT g.aj z).1.w]) 0 rfl rfl rfl rfl rfl (by intro u hu;simp at hu;rcases hu with rfl|rfl|rfl<;>rfl) λh3 d=>hJ _ _ ⟨c,rfl,rfl,d⟩
  · rintro⟨y1,A,⟨⟩⟩ h' ⟨c,hy1,hy2,o1⟩;dsimp only at hy1 hy2 |-;subst hy1 hy2;unfold Si;cases hw:(akT g.aj (t.bS.getD v (-1))).2 with
    | false=>
      rw[aO];have hp:fS g.aj t v=none:=by unfold fS;rw[aQ λh=>by rw[w1.2 h]at hw;cases hw]
      rw[hp]at hR;exact hR f kv h' hf o1.tail
    | true=>
      rw[bF];have hz:=w1.1 hw;have ha:=w2 hw;have hp:fS g.aj t v=some (aH g.aj (t.bS.getD v (-1)).toNat).f:=by unfold fS;rw[aW hz]
      rw[ha]at o1;have i:=j _ hp;rw[hp]at hR;generalize aH g.aj (t.bS.getD v (-1)).toNat=q at o1 hR i;refine o1.load 3 rfl rfl ?_;simp only[bD,aU];refine o1.load 4 rfl rfl (o1.load 0 rfl rfl (o1.load 3 rfl rfl ?_));simp only[bD,aU];refine o1.load 4 rfl rfl (o1.load 0 rfl rfl (o1.look 5 rfl ?_));have l:=hf q.f;show uX 3 _ _ 1 h' λt137 s=>uY 3 1 8 _ ((f q.f).getD aT) t137 s _;rw[l];have hi:(ak c [I q.f,I q.t,I q.w] 59::a::b::iU g t rn r pt tr m pm b5 b4 b3 vs vm sd sa so vl f S (fA bg 1 3 kv S.kd g.n++Pr))[q.f+15]? =some (aC bg 1 3 (kv q.f) (S.kd q.f)):=by show(fA bg 1 3 kv S.kd g.n++Pr)[q.f]? =_;rw[aqM (by simp[fA];exact i),xu i]
      have :=k q.f;refine o1.fH (q.f+15) v hi rfl (bW rfl) (λ_=>rfl) qM rfl az aa λw h2 o2=> ?_;have o2:Own h0 h2 (ak c [I q.f,I q.t,I q.w] 59::a::b::iU g t rn r pt tr m pm b5 b4 b3 vs vm sd sa so vl f S ((fA bg 1 3 kv S.kd g.n++Pr).set q.f (aC bg 1 3 w (S.kd q.f++ [v])))):=o2;rw[List.set_append_left _ _ (by simp[fA];exact i),acq]at o2;refine⟨o2.load 3 rfl rfl rfl,o2.load 4 rfl rfl rfl,o2.load 0 rfl rfl rfl,?_⟩;refine o2.mZ (f':=cM f q.f w) 5 rfl (λx=>rfl) λh3 d=> ?_;refine hR (cM f q.f w) (tq kv q.f w) h3 (λu=> ?_) ?_
      · unfold cM tq;by_cases e:u=q.f
        · subst e;simp
        · rw[aQ aa,aQ e];exact hf u
      · have e:sr S.kd v (some q.f)=tq S.kd q.f (S.kd q.f++ [v]):=by
          funext x;unfold sr tq;by_cases e:x=q.f
          · subst e;simp
          · simp[e]
        rw[e];exact d.tail
def kP(S:GS)(v q:Nat):Int:=((S.kd v).take q).foldl (λa k=>a+S.mc.getD k 0) (S.mc.getD v 0)
def nA(S:GS)(v:Nat)(w0:Int)(q:Nat):Int:=((S.kd v).take q).foldl (λa k=>oe a (S.sz.getD k 0)) w0
def Yt (hm:∀u,0<=S.mc.getD u 0/\S.mc.getD u 0<=2^32):∀q,0<=kP S v q/\kP S v q<=(q+1)*2^32
  |0=>by have :=hm v;show 0<=S.mc.getD v 0/\S.mc.getD v 0<=_;omega
  | q + 1=>by
    have ih:=Yt hm q;by_cases hq:q<(S.kd v).length
    · have e:kP S v (q+1)=kP S v q+S.mc.getD ((S.kd v)[q]) 0:=by
        unfold kP;rw[cW hq,jP];rfl
      have :=hm (S.kd v)[q];omega
    · have e:kP S v (q+1)=kP S v q:=by
        unfold kP;rw[fM aa,fM aa]
      omega
def ano{a b:Int}:0<=oe a b/\oe a b<=2305843009213693952:=by unfold oe j7 tL;omega
def Yu {w0:Int} (h0:0<=w0/\w0<=aN):∀q,0<=nA S v w0 q/\nA S v w0 q<=2305843009213693952
  | 0 => by have :aN=72057594037927936:=rfl
            show 0<=w0/\w0<=_;omega
  | q + 1=>by
    by_cases hq:q<(S.kd v).length
    · have e:nA S v w0 (q+1)=oe (nA S v w0 q) (S.sz.getD ((S.kd v)[q]) 0):=by
        unfold nA;rw[cW hq,jP];rfl
      rw[e];exact ano
    · have e:nA S v w0 (q+1)=nA S v w0 q:=by
        unfold nA;rw[fM aa,fM aa]
      rw[e];exact Yu h0 q
def D4{l:List Int}{i:Nat}(h:i<l.length):l[i]=l.getD i 0:=by rw[cI,dD h];rfl
def Yv{wt:Nat->Int}(hN:bX h0 rn g)(hal:t.bS.length=g.n)(hv:v<g.n)(hn:g.n<=16777216)(i:∀p,fS g.aj t v=some p->p<g.n)(c:∀x,(S.kd x).length<=2^20)(hf:∀u:Nat,(f u).getD aT=kv u)
    (d:S.sz.length=g.n) (hml:S.mc.length=g.n) (hk:∀k∈S.kd v,k<g.n/\k≠v) (hm:∀u,0<=S.mc.getD u 0/\S.mc.getD u 0<=2^32) (hw:0<=wt v/\wt v<=aN)
    (o:Own h0 h (a::b::iU g t rn r pt tr m pm b5 b4 b3 vs vm sd sa so vl f S (fA bg 1 3 kv S.kd g.n++Pr)))
    (hR:∀f' kv' h',(∀u:Nat,(f' u).getD aT=kv' u)->Own h0 h' (a::b::iU g t rn r pt tr m pm b5 b4 b3 vs vm sd sa so vl f' (S.step (fS g.aj t) wt v) (fA bg 1 3 kv' (S.step (fS g.aj t) wt v).kd g.n++Pr))->R .normal h'):
    C0 prog (ptr pt) (I v) (ptr pm) (ptr b3) R (I (wt v)) h:=by
  unfold C0;refine o.load 2 rfl rfl ?_;simp only[bD,aU];refine o.load 3 rfl rfl (o.look 4 rfl ?_);have z:=hf v;show bB ((f v).getD aT) _;rw[z];have j:∀(S':GS),S'.kd=S.kd->(a::b::iU g t rn r pt tr m pm b5 b4 b3 vs vm sd sa so vl f S' (fA bg 1 3 kv S.kd g.n++Pr))[v+14]? =some (aC bg 1 3 (kv v) (S.kd v)):=λS' _=>by show(fA bg 1 3 kv S.kd g.n++Pr)[v]? =_;rw[aqM (by simp[fA];exact hv),xu hv]
  refine(o.vw (v+14) (j S rfl)).len ?_;have e0:S.mc.set v (kP S v 0)=S.mc:=by show S.mc.set v (S.mc.getD v 0)=S.mc;rw[<-D4 aa];exact List.set_getElem_self aa
  refine bV (S.kd v).length (λq y h'=>y.1=I (nA S v (wt v) q)/\y.2.1=I q/\Own h0 h' (a::b::iU g t rn r pt tr m pm b5 b4 b3 vs vm sd sa so vl f ⟨S.sz,S.mc.set v (kP S v q),S.kd⟩ (fA bg 1 3 kv S.kd g.n++Pr))) ⟨rfl,rfl,by rw[e0];exact o⟩ ?_;clear o;rintro q ⟨y1,C,⟨⟩⟩ h1 Z hq ⟨hy1,hy2,o⟩ hZ;dsimp only at hy1 hy2 hZ |-;subst hy1 hy2;have hkv:=c v;have hmr:=Yt (v:=v) hm q;have D:=Yu (S:=S) (v:=v) hw q;have gp:(S.mc.set v (kP S v q)).length=g.n:=by rw[kV];exact hml
  unfold Sj;rw[bC,bA];refine⟨λhlt=> ?_,λhge=> ?_⟩
  · have hlt:q<(S.kd v).length:=aa;have l:nA S v (wt v) (q+1)=oe (nA S v (wt v) q) (S.sz.getD ((S.kd v)[q]) 0):=by
      unfold nA;rw[cW hlt,jP];rfl
    have s:kP S v (q+1)=kP S v q+S.mc.getD ((S.kd v)[q]) 0:=by unfold kP;rw[cW hlt,jP];rfl
    refine(show Vw bg 1 h1 (kv v) (S.kd v)from o.vw (v+14) (j ⟨S.sz,S.mc.set v (kP S v q),S.kd⟩ rfl)).dU (e:=λ(x:Nat)=>I x) (λ_=>rfl) hlt ?_;obtain⟨hkn,w⟩:=hk _ (cu hlt);generalize (S.kd v)[q]=k at l s hkn w;have hmk:=hm k;refine o.load 2 rfl rfl ?_;simp only[bD,aU];refine o.load 3 rfl rfl ((o.vw 7 rfl).Im (by rw[d];exact hkn) ?_);rw[D4 (by rw[d];exact hkn)];refine alW aa aa λh2 x2=> ?_;rw[<-l];have o2:=o.more x2;clear o;refine o2.load 5 rfl rfl ((o2.vw 6 rfl).Im (by rw[gp];exact hv) (o2.load 5 rfl rfl ((o2.vw 6 rfl).Im (by rw[gp];exact hkn) ?_)));rw[yK,List.getElem_set_ne (λe=>w e.symm),D4 aa,bw,bK aa aa,<-s];refine o2.jD 6 rfl (by rw[gp];exact hv) λh3 A=> ?_;rw[bw,wI q aa];refine hZ (_,_,()) h3 hlt ⟨rfl,rfl,?_⟩;rw[<-jO (a:=kP S v q)];exact A
  · have :q=(S.kd v).length:=aa;subst this;have em:kP S v (S.kd v).length=S.mK v:=by unfold kP GS.mK;rw[fF]
    have B:nA S v (wt v) (S.kd v).length=S.own wt v:=by unfold nA GS.own;rw[fF]
    rw[em]at o gp;rw[B];refine o.load 5 rfl rfl ((o.vw 6 rfl).Im (by rw[gp];exact hv) ?_);rw[yK,cF,kD];refine⟨λh0=>o.load 2 rfl rfl ?_,λh0=> ?_⟩
    · simp only[bD,aU];refine o.load 3 rfl rfl (o.jD 7 rfl (by rw[d];exact hv) λh2 o2=> ?_);refine Ys (S:=⟨S.sz.set v (S.own wt v),S.mc.set v (S.mK v),S.kd⟩) hN hal hv hn i (λx=>by have :=c x;show(S.kd x).length<=_;omega) hf o2 λf' kv' h' hf' o'=>hR f' kv' h' hf' ?_;unfold GS.step;rw[aW h0];exact o'
    · refine Ys (S:=⟨S.sz,S.mc.set v (S.mK v),S.kd⟩) hN hal hv hn i (fun x=>by have :=c x;show(S.kd x).length<=_;omega) hf o fun f' kv' h' hf' o'=>hR f' kv' h' hf' ?_;unfold GS.step;rw[aQ h0];exact o'
end
section
variable{h0 h hD:af}{L Pr:List aS}{K:KT}{g:G}{rn r pt tr m pm b5 b4 b3:Nat}{vs vm sd sa so vl:Value}{f:Int->Option Value}{S:GS}{kv:Nat->Value}{R:Exit->af->Prop}{v:Nat}{M:Loop}{ms:List MV}
def anp(hR:g.Right)(hN:bX h0 rn g)(hn:g.n<=16777216)(hr:r<g.n)(hv:v<g.n)(a:∀m∈ms,tP g h0 m)(j:Vw akX 7 h0 vl ms)(hl:ms.length<2^40)(l:v∈(g.from r).order)
  (b:∀x,(S.kd x).length<=2^20) (hf:∀u:Nat,(f u).getD aT=kv u) (c:S.sz.length=g.n) (hml:S.mc.length=g.n) (hk:∀k∈S.kd v,k<g.n/\k≠v) (hm:∀u,0<=S.mc.getD u 0/\S.mc.getD u 0<=2^32)
  (o:Own h0 h (cD (hD.size+1) (lo M .ready none)::cw hD.size::iU g (g.from r) rn r pt tr m pm b5 b4 b3 vs vm sd sa so vl f S (fA bg 1 3 kv S.kd g.n++Pr)))
  (hK:∀f' kv' h',(∀u:Nat,(f' u).getD aT=kv' u)->Own h0 h' (cD (hD.size+1) (lo M .busy none)::cw hD.size::iU g (g.from r) rn r pt tr m pm b5 b4 b3 vs vm sd sa so vl f' (S.step (qf g r) (jj g (ms.map MV.node) r) v) (fA bg 1 3 kv' (S.step (qf g r) (jj g (ms.map MV.node) r) v).kd g.n++Pr))->R .normal h'):
  G5 prog hD (ptr b5) (ptr pt) (ptr b4) (ptr pm) (ptr b3) M (I v) h R:=by
 have T:=gj hR hr;have hmn:∀x∈ms.map MV.node,x<g.n:=λx hx=>by obtain⟨y,hy,rfl⟩:=cP.1 hx;exact(a y hy).1
 have hwr:=DK hR hr hmn v l;have d:∀p,fS g.aj (g.from r) v=some p->p<g.n:=λp hp=>T.range p (od T hp).2.2.1;unfold G5;refine o.begin 0 rfl λh1 o1=> ?_;have o1:Own h0 h1 (cD (hD.size+1) (lo M .busy none)::cw hD.size::iU g (g.from r) rn r pt tr m pm b5 b4 b3 vs vm sd sa so vl f S (fA bg 1 3 kv S.kd g.n++Pr)):=o1;clear o;refine o1.load 11 rfl rfl ?_;rw[fe,F7];refine⟨λhne=> ?_,λhe=> ?_⟩
 .have hne:v≠r:=λe=>hne (by rw[e]);refine o1.load 2 rfl rfl ?_;simp only[bD,aU];have i:v<(g.from r).aM.length:=by rw[T.ls.len];exact hv
  refine o1.load 3 rfl rfl ((o1.vw 8 rfl).zL i λb1 f1 c1=>bJ rfl c1 ?_);rw[jc i]at c1 |-;refine o1.load 12 rfl rfl (o1.load 11 rfl rfl ?_);refine alY hR (λm hm=>(a m hm).more o1.ext) (j.more o1.ext) hl hr hv λh2 x2=> ?_;have o2:=o1.more x2;refine⟨o2.load 2 rfl rfl rfl,o2.load 3 rfl rfl rfl,bJ rfl (nT x2 c1) rfl,?_⟩;have hw:jj g (ms.map MV.node) r v=aL (g.from r).aM v-hG g (ms.map MV.node) r v:=aW hne;have q:aN=72057594037927936:=rfl;rw[fc,bK aa aa,<-hw];exact Yv hN T.al hv hn d b hf c hml hk hm hwr o2 hK
 .have he:v=r:=aa;have hw:jj g (ms.map MV.node) r v=0:=aQ (by simpa using he);have :=Yv (wt:=jj g (ms.map MV.node) r) hN T.al hv hn d b hf c hml hk hm hwr o1 hK;rw[hw]at this;exact this
def anq(hR:g.Right)(hN:bX h0 rn g)(hn:Sm g)(hr:r<g.n)(k:∀m∈ms,tP g h0 m)(p:Vw akX 7 h0 vl ms)(hl:ms.length<=2^20)
  (o:Own h0 h [ak pt [ptr tr] 362,ak tr [sd,sa,so,.map (some m),vs] 368,eD m (λ_=>none),xR vs (List.replicate g.n 0),xR sd (g.from r).aM,aC aJ 1 3 sa (g.from r).bS,aC bg 1 3 so (g.from r).order,ak b5 [I r] 3,ak b4 [vl] 219,ak b3 [ptr rn] 47])
  (hK:∀vm pm f kv h' ord,(∀u:Nat,(f u).getD aT=kv u)->Own h0 h' (iU g (g.from r) rn r pt tr m pm b5 b4 b3 vs vm sd sa so vl f (fT g (ms.map MV.node) r) (fA bg 1 3 kv (fT g (ms.map MV.node) r).kd g.n++ [ak ord [so] 43]))->K (ptr tr) h'):
  G6 prog (ptr b3) (ptr b4) (ptr b5) K (ptr pt) h:=by
 have F:=hR.most;have H:=hn r hr;have T:=gj hR hr;have hmn:∀x∈ms.map MV.node,x<g.n:=λx hx=>by obtain⟨y,hy,rfl⟩:=cP.1 hx;exact(k y hy).1
 have A:(ms.map MV.node).length<=2^20:=by rw[gK];exact hl
 unfold G6;refine o.load 9 rfl rfl (dV (hN.more o.ext) ?_);refine o.make (enc:=aJ) (n:=1) (a:=0) (m:=g.n) rfl aa aa λvm h1 o1=> ?_;refine o1.box λpm h2 o2=> ?_;have hv:=o2.vw 1 rfl;refine o2.bu 0 (cs':=[vm]) rfl rfl rfl hv.one hv.plain λh3 e=> ?_;clear o o1 o2 hv;have e:Own h0 h3 (ak pm [vm] 43::aC aJ 1 3 vm (List.replicate g.n 0):: [ak pt [ptr tr] 362,ak tr [sd,sa,so,.map (some m),vs] 368,eD m (λ_=>none),xR vs (List.replicate g.n 0),xR sd (g.from r).aM,aC aJ 1 3 sa (g.from r).bS,aC bg 1 3 so (g.from r).order,ak b5 [I r] 3,ak b4 [vl] 219,ak b3 [ptr rn] 47]):=e;have j:Own h0 h3 (iU g (g.from r) rn r pt tr m pm b5 b4 b3 vs vm sd sa so vl (λ_=>none) ⟨List.replicate g.n 0,List.replicate g.n 0,λ_=>[]⟩ []):=e.bh [2,3,4,0,1,5,6,7,8,9,10,11] az;clear e;refine j.load 10 rfl rfl ((p.more j.ext).len ?_);have e0:(List.range g.n).map (gH ([]:List Nat))=List.replicate g.n 0:=by
  apply nK;intro i;by_cases hi:i<g.n
  .simp[hi,gH]
  .rw[kU (by simp;omega),kU (by simp;omega)]
 refine bV ms.length (λi x h'=>x.1=I i/\Own h0 h' (iU g (g.from r) rn r pt tr m pm b5 b4 b3 vs vm sd sa so vl (λ_=>none) ⟨List.replicate g.n 0,(List.range g.n).map (gH ((ms.take i).map MV.node)),λ_=>[]⟩ [])) ⟨rfl,by rw[E7,sO,e0];exact j⟩ ?_;clear j;rintro i ⟨x,⟨⟩⟩ h4 Z hi ⟨hx,o⟩ hZ;dsimp only at hx hZ |-;subst hx;unfold Sk;rw[bC,bA];refine⟨λhlt=> ?_,λhge=> ?_⟩
 .have hlt:i<ms.length:=aa;refine(p.more o.ext).jW AG hlt ?_;have tk:(ms.take (i+1)).map MV.node=(ms.take i).map MV.node++ [ms[i].node]:=by rw[cW hlt,fq];rfl
  have z:=k _ (cu hlt);rw[tk]at hZ;generalize ms[i]=mv at z hZ;have hmn:=z.1;refine o.box λm8 h5 d=>d.st (l:=akX mv) (cs':=akX mv) 0 rfl rfl rfl rfl rfl (AH mv) λh6 c=> ?_;clear o d;simp only[aU];refine c.load 4 rfl rfl (c.load 0 rfl rfl ?_);have q:mv.node<((List.range g.n).map (gH ((ms.take i).map MV.node))).length:=by simpa using hmn
  refine(c.vw 5 rfl).Im q ?_;have J:gH ((ms.take i).map MV.node) mv.node<=2^20/\0<=gH ((ms.take i).map MV.node) mv.node:=by unfold gH;have :=List.count_le_length (a:=mv.node) (l:=(ms.take i).map MV.node);rw[gK,dO]at this;omega
  rw[show((List.range g.n).map (gH ((ms.take i).map MV.node)))[mv.node]'q=gH ((ms.take i).map MV.node) mv.node by simp,bw,bK aa aa];refine c.jD 5 rfl q λh7 s=> ?_;rw[bw,wI i aa];refine hZ (_,()) h7 hlt ⟨rfl,?_⟩;rw[<-amq hmn];exact s.tail
 .have :i=ms.length:=aa;subst this;rw[fF]at o;clear hZ;refine o.load 0 rfl rfl ?_;simp only[bD,aU];refine o.load 1 rfl rfl ?_;refine aK (aii ?_);unfold Ui;have B:=(o.vw 8 rfl).one;refine o.box λord h5 d=> ?_;rw[show(Value.cells so).toList=[so] by rw[B]]at d;have c:=d.acr (enc:=bg) (n:=1) (T:=3) (m:=g.n);have s:Own h0 h5 (iU g (g.from r) rn r pt tr m pm b5 b4 b3 vs vm sd sa so vl (λ_=>none) (iS g (ms.map MV.node) r 0) (fA bg 1 3 (λ_=>aT) (iS g (ms.map MV.node) r 0).kd g.n++ [ak ord [so] 43])):=by
   have :=Own.comm c;have h2:Own h0 h5 (ak ord [so] 43::(iU g (g.from r) rn r pt tr m pm b5 b4 b3 vs vm sd sa so vl (λ_=>none) (iS g (ms.map MV.node) r 0) (fA bg 1 3 (λ_=>aT) (iS g (ms.map MV.node) r 0).kd g.n))):=this;exact Own.comm (L:=[_]) h2
  clear d c o;have N:(g.from r).order.length<=g.n:=kH T.nodup T.range;refine s.range (anh (O:=(g.from r).order) (vo:=so) (b:=ord) (T:=43) aa) (by rintro i x i' ⟨_,_,rfl⟩;rfl)
   (λi Rs=>i<=(g.from r).order.length/\∃f kv,(∀u:Nat,(f u).getD aT=kv u)/\Rs=iU g (g.from r) rn r pt tr m pm b5 b4 b3 vs vm sd sa so vl f (iS g (ms.map MV.node) r i) (fA bg 1 3 kv (iS g (ms.map MV.node) r i).kd g.n++ [ak ord [so] 43]))
   (λ_=>False) (λ_ _=>False) ⟨fE _,λ_=>none,λ_=>aT,λu=>rfl,rfl⟩ ?_ ?_ ?_ (λ_ _ h=>h.elim) (λ_ _ _ h=>h.elim)
  .rintro i Rs h' ⟨_,f,kv,_,rfl⟩ o';have :=Own.comm (L:=iU g (g.from r) rn r pt tr m pm b5 b4 b3 vs vm sd sa so vl f (iS g (ms.map MV.node) r i) (fA bg 1 3 kv (iS g (ms.map MV.node) r i).kd g.n)) (L':=[ak ord [so] 43]) o';exact⟨this.get 0 rfl,o'.vw 8 rfl⟩
  .rintro M i x i' Rs Pr h' R ⟨h1,rfl,rfl⟩ ⟨_,f,kv,hf,rfl⟩ o' C _ _;dsimp only[gh];obtain⟨f1,f2,f3,f4,f5⟩:=XV hR hn hr hmn A i;have hst:=amo (g:=g) (ms:=ms.map MV.node) (r:=r) h1;have t:(g.from r).order.reverse.getD i 0∈(g.from r).order:=by rw[Yq h1];exact cu _
   generalize (g.from r).order.reverse.getD i 0=v at hst t;have D:Own h0 h' (cD (h5.size+1) (lo M .ready none)::cw h5.size::iU g (g.from r) rn r pt tr m pm b5 b4 b3 vs vm sd sa so vl f (iS g (ms.map MV.node) r i) (fA bg 1 3 kv (iS g (ms.map MV.node) r i).kd g.n++([ak ord [so] 43]++Pr))):=by rw[<-c7];exact o'
   refine anp hR hN hR.most hr (T.range v t) k p aa t (λx=>by have :=f1 x;omega) hf f2 f3 (f4 v) f5 D λf' kv' h'' hf' w=> ?_;rw[<-hst]at w;refine C _ h'' ⟨h1,f',kv',hf',rfl⟩ ?_;rw[<-c7]at w;exact w
  .rintro i h' Rs rfl ⟨_,f,kv,hf,rfl⟩ o';rw[XU]at o';refine o'.load 1 rfl rfl (o'.jV 0 rfl λh10 E=> ?_);exact hK vm pm f kv h10 ord hf E.tail
end
set_option maxRecDepth 20000
set_option maxHeartbeats 0
section
variable{h0 h:af}{L:List aS}{K:KT}{g:G}{rn r:Nat}{vl:Value}{ms:List MV}
def yj{sd sa so vs:Value}{m:Nat}{K:Value->Prop}(hvs:vs.cells= #[vs])(hk:K (.agg #[sd,sa,so,.map (some m),vs])):
  aV [(.slice none 0 0),(.slice none 0 0),(.slice none 0 0),(.map none),(.slice none 0 0)] [(0,3,.agg #[sd,sa,so]),(3,1,.map (some m)),(4,1,vs)] K:=by
 refine⟨⟨rfl,az,rfl,az,by rw[hvs];rfl,az,trivial⟩,?_⟩;have e:gq [(.slice none 0 0),(.slice none 0 0),(.slice none 0 0),(.map none),(.slice none 0 0)] [(0,3,.agg #[sd,sa,so]),(3,1,.map (some m)),(4,1,vs)]=[sd,sa,so,.map (some m),vs]:=by show[sd,sa,so,.map (some m)]++vs.cells.toList++List.drop (4+vs.cells.size) [sd,sa,so,.map (some m),.slice none 0 0]=_;rw[hvs];rfl
 rw[e];exact hk
def anr(hR:g.Right)(hN:bX h rn g)(hn:Sm g)(hr:r<g.n)(c:∀m∈ms,tP g h m)(b:Vw akX 7 h vl ms)(hl:ms.length<=2^20)
  (hK:∀pt tr m pm b5 b4 b3 ord vs vm sd sa so f kv h',(∀u:Nat,(f u).getD aT=kv u)->Own h h' (iU g (g.from r) rn r pt tr m pm b5 b4 b3 vs vm sd sa so vl f (fT g (ms.map MV.node) r) (fA bg 1 3 kv (fT g (ms.map MV.node) r).kd g.n++ [ak ord [so] 43]))->K (ptr tr) h'):
  ah prog 240 [ptr rn,vl,I r] h K:=by
 have d:=hR.most;have e:=hn r hr;refine aK (agB ?_);unfold Sl;refine(Own.start h).box λb3 h1 o1=>o1.box λb4 h2 o2=>o2.box λb5 h3 o=> ?_;rw[show(Value.cells vl).toList=[vl] by rw[b.one]]at o;have o:Own h h3 [ak b5 [I r] 3,ak b4 [vl] 219,ak b3 [ptr rn] 47]:=o;clear o1 o2;have hfr:g.cU r=g.from r:=by simp[G.cU,hr]
 refine gW (λy h'=>∃pt tr m vs sd sa so,y.1=ptr pt/\Own h h' [ak pt [ptr tr] 362,ak tr [sd,sa,so,.map (some m),vs] 368,eD m (λ_=>none),xR vs (List.replicate g.n 0),xR sd (g.cU r).aM,aC aJ 1 3 sa (g.cU r).bS,aC bg 1 3 so (g.cU r).order,ak b5 [I r] 3,ak b4 [vl] 219,ak b3 [ptr rn] 47]) (λJ hJ=> ?_) ?_
 .refine o.load 2 rfl rfl (o.load 0 rfl rfl (o.load 2 rfl rfl ?_))
  repeat' (first
   |with_reducible apply And.intro
   |((with_reducible show ag _ _ _);first |exact o.load 2 rfl rfl rfl|exact o.load 3 rfl rfl rfl|exact o.load 4 rfl rfl rfl|exact o.load 5 rfl rfl rfl|exact o.load 6 rfl rfl rfl|exact o.load 7 rfl rfl rfl)
   |((with_reducible show aV _ _ _);first |refine yj (o.vw 0 rfl).one ?_|refine yj (o.vw 1 rfl).one ?_|refine yj (o.vw 2 rfl).one ?_|refine yj (o.vw 3 rfl).one ?_|refine yj (o.vw 4 rfl).one ?_|refine yj (o.vw 5 rfl).one ?_)
   |((with_reducible show bH _ _);refine o.mkMap λm hh o=> ?_)
   |((with_reducible show dG _ _ _ _ _ _ _);refine o.make (enc:=aJ) (n:=1) (a:=0) (m:=g.n) rfl aa aa λvs hh o=> ?_)
   |((with_reducible show aB _ _ _ _);refine o.box λp hh o=> ?_)
   |((with_reducible show aD _ _ _ _ _);first |refine o.bu 0 rfl rfl rfl rfl rfl λhh o=> ?_|refine o.bu 1 rfl rfl rfl rfl rfl λhh o=> ?_|refine o.bu 2 rfl rfl rfl rfl rfl λhh o=> ?_|refine o.bu 3 rfl rfl rfl rfl rfl λhh o=> ?_|refine o.bu 4 rfl rfl rfl rfl rfl λhh o=> ?_|refine o.bu 5 rfl rfl rfl rfl rfl λhh o=> ?_|refine o.bu 6 rfl rfl rfl rfl rfl λhh o=> ?_)
   |((with_reducible show ah prog 36 _ _ _);refine dV (hN.more o.ext) ?_)
   |((with_reducible show ah prog 9 _ _ _);refine Ai hR (hN.more o.ext) λsd sa so hh o'=> ?_;replace o:=o.frame o';clear o')
   |exact hJ _ _ ⟨_,_,_,_,_,_,_,rfl,o.bh [6,0,2,1,3,4,5,7,8,9] az⟩
   |exact hJ _ _ ⟨_,_,_,_,_,_,_,rfl,o.bh [3,0,2,1,4,5,6,7,8,9] az⟩
   |exact hJ _ _ ⟨_,_,_,_,_,_,_,rfl,o.bh [2,0,3,1,4,5,6,7,8,9] az⟩
   |exact hJ _ _ ⟨_,_,_,_,_,_,_,rfl,o.bh [1,0,3,2,4,5,6,7,8,9] az⟩
   |exact hJ _ _ ⟨_,_,_,_,_,_,_,rfl,o.bh [0,1,3,2,4,5,6,7,8,9] az⟩
   |exact hJ _ _ ⟨_,_,_,_,_,_,_,rfl,o.bh [6,0,1,2,3,4,5,7,8,9] az⟩
   |exact hJ _ _ ⟨_,_,_,_,_,_,_,rfl,o.bh [3,0,1,2,4,5,6,7,8,9] az⟩
   |exact hJ _ _ ⟨_,_,_,_,_,_,_,rfl,o.bh [2,0,1,3,4,5,6,7,8,9] az⟩
   |exact hJ _ _ ⟨_,_,_,_,_,_,_,rfl,o.bh [1,0,2,3,4,5,6,7,8,9] az⟩
   |exact hJ _ _ ⟨_,_,_,_,_,_,_,rfl,o.bh [0,1,2,3,4,5,6,7,8,9] az⟩
   |exact hJ _ _ ⟨_,_,_,_,_,_,_,rfl,o.bh [6,0,5,1,2,3,4,7,8,9] az⟩
   |exact hJ _ _ ⟨_,_,_,_,_,_,_,rfl,o.bh [5,0,6,1,2,3,4,7,8,9] az⟩
   |exact hJ _ _ ⟨_,_,_,_,_,_,_,rfl,o.bh [2,0,6,1,3,4,5,7,8,9] az⟩
   |exact hJ _ _ ⟨_,_,_,_,_,_,_,rfl,o.bh [1,0,6,2,3,4,5,7,8,9] az⟩
   |exact hJ _ _ ⟨_,_,_,_,_,_,_,rfl,o.bh [0,1,6,2,3,4,5,7,8,9] az⟩
   |exact hJ _ _ ⟨_,_,_,_,_,_,_,rfl,o.bh [6,0,5,4,1,2,3,7,8,9] az⟩
   |exact hJ _ _ ⟨_,_,_,_,_,_,_,rfl,o.bh [5,0,6,4,1,2,3,7,8,9] az⟩
   |exact hJ _ _ ⟨_,_,_,_,_,_,_,rfl,o.bh [4,0,6,5,1,2,3,7,8,9] az⟩
   |exact hJ _ _ ⟨_,_,_,_,_,_,_,rfl,o.bh [1,0,6,5,2,3,4,7,8,9] az⟩
   |exact hJ _ _ ⟨_,_,_,_,_,_,_,rfl,o.bh [0,1,6,5,2,3,4,7,8,9] az⟩
   |exact hJ _ _ ⟨_,_,_,_,_,_,_,rfl,o.bh [6,0,1,5,2,3,4,7,8,9] az⟩
   |exact hJ _ _ ⟨_,_,_,_,_,_,_,rfl,o.bh [5,0,1,6,2,3,4,7,8,9] az⟩
   |exact hJ _ _ ⟨_,_,_,_,_,_,_,rfl,o.bh [2,0,1,6,3,4,5,7,8,9] az⟩
   |exact hJ _ _ ⟨_,_,_,_,_,_,_,rfl,o.bh [1,0,2,6,3,4,5,7,8,9] az⟩
   |exact hJ _ _ ⟨_,_,_,_,_,_,_,rfl,o.bh [0,1,2,6,3,4,5,7,8,9] az⟩
   |exact hJ _ _ ⟨_,_,_,_,_,_,_,rfl,o.bh [6,0,4,5,1,2,3,7,8,9] az⟩
   |exact hJ _ _ ⟨_,_,_,_,_,_,_,rfl,o.bh [5,0,4,6,1,2,3,7,8,9] az⟩
   |exact hJ _ _ ⟨_,_,_,_,_,_,_,rfl,o.bh [4,0,5,6,1,2,3,7,8,9] az⟩
   |exact hJ _ _ ⟨_,_,_,_,_,_,_,rfl,o.bh [1,0,5,6,2,3,4,7,8,9] az⟩
   |exact hJ _ _ ⟨_,_,_,_,_,_,_,rfl,o.bh [0,1,5,6,2,3,4,7,8,9] az⟩)
 .rintro⟨y,⟨⟩⟩ h' ⟨pt,tr,m,vs,sd,sa,so,hy,o1⟩;dsimp only at hy |-;subst hy;rw[hfr]at o1;exact anq hR hN hn hr c b hl o1 λvm pm f kv h' ord hf o'=>hK pt tr m pm b5 b4 b3 ord vs vm sd sa so f kv h' hf o'
end
section
variable{h0 h:af}{L:List aS}{K:KT}
def Yw{tr v i j:Nat}{sd sa so a vs:Value}{T:TypeId}{sz:List Int}(o:Own h0 h L)(hi:L[i]? =some (ak tr [sd,sa,so,a,vs] T))(hj:L[j]? =some (xR vs sz))(hv:v<sz.length)(hK:K (I (sz.getD v 0)) h):
  aX prog (.func (.func 243) #[ptr tr] #[]) [I v].toArray h K:=by
 refine cg (l:=[ptr tr,I v]) rfl (agE ?_);unfold Sq;simp only[bD,aU];refine o.load i hi rfl ((o.vw j hj).Im hv ?_);rw[D4 hv];exact hK
def ans{b:Nat}{m:MV}{x:Nat}(hone:∀u∈akX m,u.cells= #[u])(o:Own h0 h L)(i:Nat)(hi:L[i]? =some (ak b [I x] 3))(hK:∀h',Ext h h'->K (.bool (decide (m.node=x))) h'):
  aX prog (.func (.func 245) #[] #[ptr b]) [.agg (akX m).toArray].toArray h K:=by
 refine cg (l:=[.agg (akX m).toArray,ptr b]) rfl (agG ?_);unfold Ss;refine(Own.start h).box λm1 h1 o1=> ?_;have o1:Own h h1 [ak m1 (akX m) 372]:=o1;have o2:=o.more o1.ext;simp only[aU];refine o1.load 0 rfl rfl (o2.load i hi rfl ?_);rw[cF,show((m.node:Int)==(x:Int))=decide (m.node=x) by rw[uh,qp,gT];omega];exact hK _ o1.ext
end
section
variable{h0 h:af}{L:List aS}{K:KT}{g:G}{r:Nat}{vc vm:Value}{c:List Int}{ms:List Int}
def ant{a b c:Value}{K:Value->Prop}(hk:K a):oD 0 (.agg #[a,b,c]) K:=hk
def Yx{l:List Nat}{i:Nat}(h0:i≠0)(hi:i<l.length):l.take i≠ []:=by
 intro e;rw[List.take_eq_nil_iff]at e;rcases e with e|e
 .exact h0 e
 .subst e;cases hi
def anu{a b:Int}:(if b<a then b else a)=min a b:=by split<;>omega
def Yy{m:Int}(o:Own h0 h L)(p:Nat)(hp:L[p]? =some (xR vc c))(hc:c.length=g.n)(hR:g.Right)(H:bX h r g)(hK:∀h',Own h0 h' (L.set p (xR vc (cl c (g.cU m).aM)))->K (.tuple #[]) h'):
  ah prog 237 [ptr r,vc,I m] h K:=by
 refine aK (agy ?_);unfold Sf;have a:=hR.most;refine Ai hR H λsd sa so h1 o1=> ?_;replace o1:=o.frame o1;have hd:(g.cU m).aM.length<=g.n:=by have :=acB hR (s:=m);omega
 refine ant ?_;refine(o1.vw 0 rfl).len ?_;refine bV (g.cU m).aM.length (λi x h'=>x.1=I i/\Own h0 h' ([xR sd (g.cU m).aM,aC aJ 1 3 sa (g.cU m).bS,aC bg 1 3 so (g.cU m).order]++L.set p (xR vc (mg c (g.cU m).aM i)))) ⟨rfl,by rw[amh,tI hp];exact o1⟩ ?_;clear o1;rintro i ⟨x,⟨⟩⟩ h' Z hi ⟨hx,o1⟩ hZ;dsimp only at hx hZ |-;subst hx;unfold Se;simp only[bC,bA];refine⟨λhlt=> ?_,λhge=> ?_⟩
 .have hlt:i<(g.cU m).aM.length:=aa;have hic:i<c.length:=aa;have hq:([xR sd (g.cU m).aM,aC aJ 1 3 sa (g.cU m).bS,aC bg 1 3 so (g.cU m).order]++L.set p (xR vc (mg c (g.cU m).aM i)))[p+3]? =some (xR vc (mg c (g.cU m).aM i)):=by
   rw[eR aP];exact ng hp
  have hi2:i<(mg c (g.cU m).aM i).length:=by rw[AN];exact hic
  refine(o1.vw 0 rfl).Im hlt ?_;rw[jc hlt];refine(o1.vw (p+3) hq).Im hi2 ?_;rw[ami hic,rU,anu];refine o1.jD (p+3) hq hi2 λh2 o2=> ?_;rw[amj hic]at o2;rw[bw,wI i aa];refine hZ (I (i+1:Nat),()) h2 hlt ⟨rfl,?_⟩;rw[mG _ _ aP]at o2;simp only[fO,vX,vS,jO]at o2;exact o2
 .have :i=(g.cU m).aM.length:=aa;subst this;exact hK h' o1.tail.tail.tail
def Yz(o:Own h0 h L)(hR:g.Right)(H:bX h r g)(hm:Vw aJ 1 h vm ms)(hml:ms.length<2^40)(hK:∀w h',Own h0 h' (xR w (mh g ms)::L)->K w h'):ah prog 232 [ptr r,vm] h K:=by
 refine aK (agt ?_);unfold R7;have b:=hR.most;refine(Own.start h).build (enc:=aJ) (n:=1) [aN] rfl (bW rfl) rfl λw1 h1 o1=> ?_;refine dV (H.more o1.ext) (VN o1 (o1.vw 0 rfl) aa λw h2 o2=> ?_);refine hm.len ?_;refine bV ms.length (λi x h'=>x.1=I i/\Own h h' [xR w (mh g (ms.take i))]) ⟨rfl,o2.bh [0] az⟩ ?_;clear o2 o1;rintro i ⟨x,⟨⟩⟩ h' Z hi ⟨hx,o1⟩ hZ;dsimp only at hx hZ |-;subst hx;unfold R6;simp only[bC,bA];refine⟨λhlt=> ?_,λhge=> ?_⟩
 .have hlt:i<ms.length:=aa;have a:ms.take (i+1)=ms.take i++ [ms[i]]:=cW hlt;refine(hm.more o1.ext).Im hlt ?_;generalize ms[i]=m at a;refine Yy o1 0 rfl Jd hR (H.more o1.ext) λh2 o2=> ?_;rw[bw,wI i aa];refine hZ (I (i+1:Nat),()) h2 hlt ⟨rfl,?_⟩;rw[a,amk];exact o2
 .have :i=ms.length:=aa;subst this;rw[fF]at o1;exact hK w h' (o.frame o1)
def anv{left:List Nat}{vl:Value}{a:Nat}{T1:TypeId}(k:Vw aJ 1 h vl (nI left))(n:h[a]? =some (.cells #[vc] T1 (0,0)))(Hc:Vw aJ 1 h vc c)(hr:∀v∈left,v<c.length)(p:left.length<2^40)
  (hK:K (I (iA c left)) h):ah prog 233 [vl,.func (.func 234) #[] #[ptr a]] h K:=by
 refine aK (agu ?_);unfold R9;refine k.len ?_;rw[dr];refine bV left.length (λi x h'=>x.2.1=I i/\x.1=I (iA c (left.take i))/\h'=h) ⟨rfl,rfl,rfl⟩ ?_;rintro i ⟨x,y,⟨⟩⟩ h' Z hi ⟨hy,hx,rfl⟩ hZ;dsimp only at hx hy hZ |-;subst hx hy;unfold R8;simp only[bC,bA];refine⟨λhlt=> ?_,λhge=> ?_⟩
 .have hlt:i<left.length:=aa;have hq:(nI left)[i]? =some ((left[i]:Nat):Int):=by simp[nI,hlt]
  have d:left.take (i+1)=left.take i++ [left[i]]:=cW hlt;have f:=hr _ (cu hlt);have o:i≠0->iA c (left.take i)<c.length:=λh0=>hr _ (lK (DR (c:=c) (Yx h0 hlt)));refine k.zK hq ?_;generalize left[i]=v at f d;have j:∀b:Nat,b=iA c (left.take (i+1))->CX prog (I i) (λa0 a1 hz=>Z (a0,(a1,())) hz) (I b) h':=by intro b e;unfold CX;rw[bw,wI i aa];exact hZ (_,I (i+1:Nat),()) h' hlt ⟨rfl,by rw[e],rfl⟩
  unfold G4;rw[cF];by_cases h0:i=0
  .subst h0;show aA (.bool true) _ _;rw[bF];exact j v (by rw[d];rfl)
  .rw[show((i:Int)==0)=false by simpa using h0,aO];have hb:=o h0;have ne:left.take i≠ []:=Yx h0 hlt;have bs:=aml (c:=c) (y:=v) ne;rw[<-d]at bs;generalize iA c (left.take i)=b at hb bs;refine cg (l:=[I v,I b,ptr a]) rfl (agv ?_);unfold Sa;have m:hcell h' ⟨a,0,none⟩=some vc:=bz n rfl;refine bJ rfl m (Hc.Im f (bJ rfl m (Hc.Im hb ?_)));have g1:c[v]=c.getD v 0:=by simp[cI,f]
   have g2:c[b]=c.getD b 0:=by simp[cI,hb]
   rw[g1,g2,akS];show aA (.bool (decide (c.getD b 0<c.getD v 0))) _ _;rw[bA];exact⟨λh=>j v (by rw[bs,aW h]),λh=>j b (by rw[bs,aQ h])⟩
 .have :i=left.length:=aa;subst this;rw[fF];exact hK
end
section
variable{h0 h:af}{L:List aS}{K:KT}{g:G}{r:Nat}{vl:Value}{left:List Nat}{m m8:Nat}{T1:TypeId}
def YA{v:Nat}(hm:h[m8]? =some (.cells #[I m] T1 (0,0)))(hK:K (.bool (decide (v=m))) h):aX prog (.func (.func 236) #[] #[ptr m8]) [I v].toArray h K:=by refine cg (l:=[I v,ptr m8]) rfl (agx ?_);unfold Sd;have cm:hcell h ⟨m8,0,none⟩=some (I m):=bz hm rfl;refine bJ rfl cm ?_;rw[cF];have :((v:Int)==(m:Int))=decide (v=m):=uh.2 (by simp;omega);rw[this];exact hK
def anw(a:Vw aJ 1 h vl (nI left))(hm:h[m8]? =some (.cells #[I m] T1 (0,0)))(b:left.length<2^40)(hin:m∈left)
  (hK:∀i(hi:i<left.length),left[i]=m->m∉left.take i->K (I i) h):ah prog 230 [vl,.func (.func 236) #[] #[ptr m8]] h K:=by
 refine aK (G3 ?_);unfold CV;refine a.len ?_;rw[dr];refine bV left.length (λi x h'=>x.1=I i/\m∉left.take i/\h'=h) ⟨rfl,aP,rfl⟩ ?_;rintro i ⟨x,⟨⟩⟩ h' Z hi ⟨hx,hn,rfl⟩ hZ;dsimp only at hx hZ |-;subst hx;unfold CU;simp only[bC,bA];refine⟨λhlt=> ?_,λhge=> ?_⟩
 .have hlt:i<left.length:=aa;have hq:(nI left)[i]? =some ((left[i]:Nat):Int):=by simp[nI,hlt]
  refine a.zK hq (YA hm ?_);show aA (.bool (decide (left[i]=m))) _ _;rw[bA];refine⟨λe=>hK i hlt e hn,λe=> ?_⟩;rw[bw,wI i aa];refine hZ (I (i+1:Nat),()) _ hlt ⟨rfl,?_,rfl⟩;rw[cW hlt,cS,not_or];exact⟨hn,by simpa using λh=>e h.symm⟩
 .have :i=left.length:=aa;subst this;rw[fF]at hn;exact absurd hin hn
def anx{l:List Nat}(h:m∉l):l.filter (· != m)=l:=by rw[Bn];intro a ha;simp only[BF];intro e;subst e;exact h ha
def anz{p q:Nat}(o:Own h0 h L)(hp:L[p]? =some (aC aJ 1 3 vl (nI left)))(hq:L[q]? =some (ak m8 [I m] T1))(hpq:p≠q)(z:left.length<2^40)(hin:m∈left)
  (hK:∀v' h',Own h0 h' (L.set p (aC aJ 1 3 v' (nI (left.filter (· != m)))))->K v' h'):ah prog 235 [vl,.func (.func 236) #[] #[ptr m8]] h K:=by
 refine aK (agw ?_);unfold Sc;refine anw (o.vw p hp) (o.get q hq) z hin λi0 A e0 n0=> ?_;rw[cF,show((i0:Int)== -1)=false by simp,aO,bw,wI i0 aa];have gp:∀{ys:List Int},(L.set p (aC aJ 1 3 vl ys))[p]? =some (aC aJ 1 3 vl ys):=ng hp;have B:∀{r:aS},(L.set p r)[q]? =some (ak m8 [I m] T1):=λ{r}=>by rw[gD hpq];exact hq
 have f0:(left.take (i0+1)).filter (· != m)=left.take i0:=by rw[cW A,mD,anx n0,e0];simp
 refine bV (left.length-(i0+1)) (λk x h'=>∃(ys:List Int)(a:Nat),x.1=I a/\x.2.1=I ((i0+1+k:Nat):Int)/\a<i0+1+k/\ys.length=left.length/\ys.take a=nI ((left.take (i0+1+k)).filter (· != m))/\ys.drop (i0+1+k)=(nI left).drop (i0+1+k)/\Own h0 h' (L.set p (aC aJ 1 3 vl ys)))
  ⟨nI left,i0,rfl,rfl,aa,dr,by rw[sM,f0];simp[nI,List.map_take],rfl,by rw[tI hp];exact o⟩ ?_
 clear o;rintro k ⟨x,y,⟨⟩⟩ h' Z hk ⟨ys,a,hx,hy,haj,d,c,f,o⟩ hZ;dsimp only at hx hy hZ |-;subst hx hy;generalize hj:i0+1+k=j at haj c f hZ;unfold Sb;refine(o.vw p gp).len ?_;rw[d];simp only[bC,bA];refine⟨λhlt=> ?_,λhge=> ?_⟩
 .have hlt:j<left.length:=aa;have t:ys[j]? =some ((left[j]:Nat):Int):=by
   have :=eG (λl:List Int=>l[0]?) f;simp only[yN,sM]at this;rw[this];simp[nI,hlt]
  have i:left.take (j+1)=left.take j++ [left[j]]:=cW hlt;refine(o.vw p gp).zK t (YA (o.get q B) ?_);generalize left[j]=v at t i;have u:∀(zs:List Int)(b:Nat) h2,b<j+1->zs.length=left.length->zs.take b=nI ((left.take (j+1)).filter (· != m))->zs.drop (j+1)=(nI left).drop (j+1)->Own h0 h2 (L.set p (aC aJ 1 3 vl zs))->CY prog (I j) (λa0 a1 hz=>Z (a0,(a1,())) hz) (I b) h2:=by intro zs b h2 hb hzl C D E;unfold CY;rw[bw,wI j aa];have n:i0+1+(k+1)=j+1:=aa;exact hZ (I b,I (j+1:Nat),()) h2 aa ⟨zs,b,rfl,by rw[n],aa,hzl,by rw[n];exact C,by rw[n];exact D,E⟩
  have w:ys.drop (j+1)=(nI left).drop (j+1):=by have :=eG (List.drop 1) f;simpa[ud,yL]using this
  rw[bP];by_cases hv:v=m
  .rw[bT hv,cz,aO];refine u ys a h' aa d ?_ w o;rw[i,mD,hv,c];simp
  .rw[bR hv,dL,bF];refine o.jD p gp aa λh2 o2=> ?_;rw[jO]at o2;rw[bw,wI a aa];refine u (ys.set a v) (a+1) h2 aa (by rw[kV];exact d) ?_ ?_ o2
   .rw[i,mD];have :[v].filter (· != m)=[v]:=by simp[hv]
    rw[this];have e1:(ys.set a (v:Int)).take (a+1)=ys.take a++ [(v:Int)]:=by rw[cW (by rw[kV];omega),yK,EH (cq _)]
    rw[e1,c];simp[nI]
   .rw[EI aa];exact w
 .have hjl:j=left.length:=aa;subst hjl;have hal:a<=ys.length:=aa;refine o.ak1 p gp hal λh2 o2=> ?_;rw[jO]at o2;refine o2.pre pZ p (ng hp) (by simp;omega) λv' s=> ?_;rw[jO]at s;rw[fF]at c;have e:(ys.take a++List.replicate (ys.length-a) (0:Int)).take a=nI (left.filter (· != m)):=by
   rw[qt (by simp;omega),yZ,BA];exact c
  rw[e]at s;exact hK v' h2 s
end
section
variable{h0 h:af}{L:List aS}{K:KT}{g:G}{r:Nat}
def upto(n i:Nat):List Int:=nI (List.range i)++List.replicate (n-i) 0
def anA{n i:Nat}(h:i<n):(upto n i).set i (i:Int)=upto n (i+1):=by
 unfold upto;have hl:(nI (List.range i)).length=i:=by rw[dr,gd]
 rw[mG _ _ aa,hl,iE,show n-i=(n-(i+1))+1 by omega,y5,y6,ku];simp[nI]
def anB{n2 f3:Nat}{first :Int}{T1 T2:TypeId}(hR:g.Right):
  iG prog (.func (.func 231) #[] #[ptr n2,ptr f3]) (λh=>h[n2]? =some (.cells #[ptr r] T1 (0,0))/\h[f3]? =some (.cells #[I first] T2 (0,0))/\bX h r g) (σ:=Nat×List Nat×List Int)
   (0,List.range g.n,mh g [first]) (XS g) (λp=>p.2.1=[]):=by
 rintro yv h0 h Rs K J E ⟨l,rfl⟩ o t hQ hY hK;refine jE (l:=[dS l,ptr n2,ptr f3]) rfl (ags ?_);unfold R3;have ai:=hR.most;obtain⟨hn,hf,hN⟩:=hQ _ _ _ t o;have u:hcell h ⟨n2,0,none⟩=some (ptr r):=bz hn rfl;have cf:hcell h ⟨f3,0,none⟩=some (I first):=bz hf rfl;refine bJ rfl u (dV hN ?_);refine(Own.start h).make (enc:=aJ) (n:=1) (a:=0) rfl aa aa λvl h1 o1=> ?_;refine(o1.vw 0 rfl).len ?_;rw[nN];refine bV g.n (λi x h'=>x.1=I i/\Own h h' [aC aJ 1 3 vl (upto g.n i)]) ⟨rfl,by simpa[upto,nI]using o1⟩ ?_;clear o1;rintro i ⟨x,⟨⟩⟩ h1 Z hi ⟨hx,o1⟩ hZ;dsimp only at hx hZ |-;subst hx;unfold RZ;have V:(upto g.n i).length=g.n:=by unfold upto;rw[cG,dr,gd,nN];omega
 simp only[bC,bA];refine⟨λhlt=> ?_,λhge=> ?_⟩
 .have hlt:i<g.n:=aa;refine o1.jD 0 rfl aa λh2 o2=> ?_;rw[anA hlt]at o2;rw[bw,wI i aa];exact hZ (I (i+1:Nat),()) h2 hlt ⟨rfl,o2⟩
 .have :i=g.n:=aa;subst this;have H:upto g.n g.n=nI (List.range g.n):=by unfold upto;rw[iE,wq,eO]
  rw[H]at o1;refine bJ rfl (nT o1.ext u) (bJ rfl (nT o1.ext cf) ?_);refine o1.build (enc:=aJ) (n:=1) [first] rfl (bW rfl) rfl λwf h2 o2=> ?_;refine Yz o2 hR (hN.more o2.ext) (o2.vw 0 rfl) aP λvc h3 w=> ?_;have z:=w.vw 0 rfl;refine w.box λb h4 M=>M.bu 0 (cs':=[vc]) rfl rfl rfl z.one z.plain λh5 N=> ?_;have O:Own h0 h5 ([aC aJ 1 3 vl (nI (List.range g.n)),ak b [vc] 29,xR vc (mh g [first])]++Rs):=o.frame (N.bh [3,0,1] az);clear N M w o2 o1 hZ H V;refine tj (λk x h'=>∃(left:List Nat)(i:Nat)(c:List Int)(vc:Value)(j:List aS),k=left.length/\x.2.1=I i/\i+left.length<=g.n/\c.length=g.n/\(∀v∈left,v<g.n)/\left.Nodup/\J (i,left,c) j/\
   Own h0 h' ([aC aJ 1 3 x.1 (nI left),ak b [vc] 29,xR vc c]++j)) (k0:=g.n) ⟨List.range g.n,0,mh g [first],vc,Rs,aP,rfl,aP,Jd,aP,Bv,t,O⟩ ?_
  clear O z hn hf hN u cf o t;rintro k ⟨vl,y,⟨⟩⟩ h6 W ⟨left,i,c,vc,j,rfl,hy,hil,P,hlr,X,hj,o⟩ Q;dsimp only at hy o Q |-;subst hy;unfold RY;refine(o.vw 0 rfl).len ?_;rw[dr];simp only[akS,bA];refine⟨λhpos=> ?_,λhz=> ?_⟩
  .have hne:left≠ []:=λe=>by subst e;simp at hpos
   obtain⟨hn,hf,hN⟩:=hQ _ _ _ hj o.tail.tail.tail;have hm:=DR (c:=c) hne;have hmn:=hlr _ hm;refine anv (o.vw 0 rfl) (o.get 1 rfl) (o.vw 2 rfl) (λv hv=>by rw[P];exact hlr v hv) aa ?_;have nx:XS g (i,left,c) [I (iA c left)] (i+1,left.filter (· != iA c left),cl (if i=0 then List.replicate g.n aN else c) (g.cU (iA c left)).aM):=⟨hne,rfl,rfl⟩;have hfl:(left.filter (· != iA c left)).length<left.length:=by have :=List.length_filter_lt_length_iff_exists (l:=left) (p:=(· != iA c left));exact this.2 ⟨_,hm,aP⟩
   generalize iA c left=m at hm hmn nx hfl;refine o.box λm8 h7 Y=>Y.bu 0 (cs':=[I m]) rfl rfl rfl rfl rfl λh8 R=>R.load 0 rfl rfl ?_;have af:Own h0 h8 (j++ [ak m8 [I m] 3,aC aJ 1 3 vl (nI left),ak b [vc] 29,xR vc c]):=Own.comm (L:=[ak m8 [I m] 3,aC aJ 1 3 vl (nI left),ak b [vc] 29,xR vc c]) R;refine hY _ _ _ j _ h8 _ nx hj af (λs h9 hj' o'=> ?_) λs h9 he o'=> ?_
   .rw[bP,cz,aO];have ag:Own h0 h9 ([ak m8 [I m] 3,aC aJ 1 3 vl (nI left),ak b [vc] 29,xR vc c]++s):=Own.comm o';refine anz ag (p:=1) (q:=0) rfl rfl az aa hm λA h10 B=> ?_;obtain⟨hn',hf',C⟩:=hQ _ _ _ hj' B.tail.tail.tail.tail;have D:hcell h10 ⟨n2,0,none⟩=some (ptr r):=bz hn' rfl;have S:∀(d:Value)(c':List Int) h11,c'.length=g.n->c'=(if i=0 then List.replicate g.n aN else c)->Own h0 h11 ([ak m8 [I m] 3,aC aJ 1 3 A (nI (left.filter (· != m))),ak b [d] 29,xR d c']++s)->
      CW prog (ptr n2) (ptr b) (ptr m8) (I i) (λa0 a1 hz=>W (a0,(a1,())) hz) A h11:=by
     intro d c' h11 T ah f;unfold CW;obtain⟨hn',hf',C⟩:=hQ _ _ _ hj' f.tail.tail.tail.tail;have D:hcell h11 ⟨n2,0,none⟩=some (ptr r):=bz hn' rfl;refine bJ rfl D (f.load 2 rfl rfl (f.load 0 rfl rfl ?_));refine Yy f 3 rfl T hR C λh12 F=> ?_;rw[bw,wI i aa];refine Q (A,I (i+1:Nat),()) h12 (left.filter (· != m)).length hfl ⟨left.filter (· != m),i+1,cl c' (g.cU m).aM,d,s,rfl,rfl,aa,by rw[XO];exact T,λv hv=>hlr v (gL.1 hv).1,X.filter _,by rw[ah];exact hj',F.tail⟩
    rw[cF];by_cases h0:i=0
    .subst h0;show aA (.bool true) _ _;rw[bF];refine bJ rfl D (Yz B hR C .nil az λd h11 f=> ?_);have U:=f.vw 0 rfl;refine f.bu 3 (cs':=[d]) rfl rfl rfl U.one U.plain λh12 F=> ?_;refine S d (mh g []) h12 Jd rfl ?_;exact F.front 5 [1,2,3,0] az az
    .rw[show((i:Int)==0)=false by simpa using h0,aO];exact S vc c h10 P (by rw[aQ h0]) B
   .rw[bP,dL,bF];exact hK _ _ (.inr he) o'.left
  .have hle:left=[]:=nH aa;exact hK _ _ (.inl ⟨_,hle,hj⟩) o.tail.tail.tail
end
section
variable{h0 h:af}{L:List aS}{K:KT}{g:G}{r:Nat}
abbrev aqI(x:Int):List Value:=jL .u32 x
def D5(x:Int):∀u∈aqI x,Mh.plainCell u=true:=by intro u hu;simp[jL]at hu;subst hu;rfl
def qY:List Int->Nat->Int×List Int
 | [],_=>(0,[])
 |x::r,n=>(x.tmod n,r)
def anH{vl:Value}{xs:List Int}(o:Own h0 h L)(b:Vw aqI 1 h vl xs)(hb:(xs.length:Int)*4<=2^48)(hK:∀pd w h',Own h0 h' (ak pd [w] 136::lC aqI 1 253 w xs::L)->K (ptr pd) h'):ah prog 18 [vl] h K:=by refine aK (adb ?_);unfold MQ;refine b.len ?_;refine(Own.start h).make (enc:=aqI) (n:=1) (a:=0) (m:=xs.length) rfl aa aa λw h1 o1=> ?_;refine o1.ak3 (ys:=xs) 0 rfl (λ_=>rfl) D5 (b.more o1.ext) aP λh2 o2=> ?_;have hw:=o2.vw 0 rfl;refine cE (cs':=[w]) (λp hp=>by simp at hp;subst hp;exact hw.one) rfl rfl ?_;refine o2.box λpd h3 c=> ?_;have d:=c.It 1 rfl;exact hK pd w h3 (o.frame d)
def anI{pd:Nat}{vl:Value}{xs:List Int}(o:Own h0 h L)(p q:Nat)(hp:L[p]? =some (ak pd [vl] 136))(hq:L[q]? =some (lC aqI 1 253 vl xs))(hK:K (I xs.length) h):ah prog 238 [ptr pd] h K:=by refine aK (agz ?_);unfold Sg;simp only[dM,dW,aO];simp only[bD,aU];exact o.load p hp rfl ((o.Aq q hq).len hK)
def YD{pd n:Nat}{vl:Value}{xs:List Int}(o:Own h0 h L)(p q:Nat)(hp:L[p]? =some (ak pd [vl] 136))(hq:L[q]? =some (lC aqI 1 253 vl xs))(hpq:p≠q)(hn:1<=n)(hn2:n<2^40)(c:xs.length<2^62)(hr:∀x∈xs,0<=x/\x<=4294967295)
  (hK:∀a h',Own h0 h' ((L.set p (ak pd [a] 136)).set q (lC aqI 1 253 a (qY xs n).2))->K (I (qY xs n).1) h'):ah prog 128 [ptr pd,I n] h K:=by
 refine aK (aeO ?_);unfold Pm;rw[bC,bR aa,aO];refine anI o p q hp hq ?_;rw[cF];cases xs with
 |nil=>show aA (.bool true) _ _;rw[bF];unfold GQ;refine hK vl h ?_;rw[tI hp];have :L.set q (lC aqI 1 253 vl (qY [] n).2)=L:=tI hq;rw[this];exact o
 |cons x r=>
  rw[show(((x::r).length:Int)==0)=false by simp;omega,aO];simp only[bD,aU];refine o.load p hp rfl ?_;refine aK (agA ?_);unfold Sh;have hx:=hr x (cN ..);refine(o.Aq q hq).dU (e:=λx:Int=>.int .u32 x) (λ_=>rfl) (i:=0) aP ?_;refine(o.Aq q hq).len ((o.Aq q hq).len ?_);refine o.ak2 (λ_=>rfl) q hq aP λv' o1=> ?_;simp only[cC,cB]
  try simp only[bD,aU]
  have hp1:(L.set q (lC aqI 1 253 v' r))[p]? =some (ak pd [vl] 136):=by rw[gD (Ne.symm hpq)];exact hp
  have b:=o1.Aq q (ng hq);refine o1.bu p hp1 (cs':=[v']) rfl rfl b.one b.plain λh2 o2=> ?_;simp only[fG];rw[show((x::r)[0]'aP)=x from rfl,bK aa aa,nR];refine⟨aa,hK v' h2 ?_⟩;rw[List.set_comm _ _ (Ne.symm hpq)]at o2;exact o2
def anJ{k:Nat}{PL:List aS->Prop}{first :Int}{d:Value}(hR:g.Right)(H0:∀{h' L'},PL L'->Own h0 h' L'->bX h' r g)(hk:1<=k)(B:k<2^40)
  (hd:∀{K':KT}{h1:af}{A:List aS},Own h h1 A->(∀h2 L',PL L'->Own h0 h2 (A++L')->K' (I first) h2)->ah prog 128 [d,I g.n] h1 K') (H1:bX h r g)
  (hK:∀w h' L',PL L'->Own h0 h' (aC aJ 1 3 w (nI (lF g k 0 (List.range g.n) (mh g [first])))::L')->K w h'):ah prog 57 [ptr r,I k,d] h K:=by
 refine aK (adM ?_);unfold NG;have C:=hR.most;refine(Own.start h).box λb h1 o1=>o1.box λa h2 o2=> ?_;simp only[dM,dW,aO];refine o2.load 1 rfl rfl ?_;rw[bC,bR aa,aO];refine dV (H1.more o2.ext) (hd o2 λh3 L' q v=> ?_);have H:∀{h'},Own h0 h' L'->bX h' r g:=λo=>H0 q o;refine aK (aeN ?_);unfold Pk;refine v.box λn2 h4 y=>y.box λf3 h5 s=> ?_;have s:Own h0 h5 ([ak f3 [I first] 3,ak n2 [ptr r] 47,ak a [.slice none 0 0] 43,ak b [I k] 3]++L'):=s;have z:Own h0 h5 ([ak f3 [I first] 3,ak n2 [ptr r] 47,aC aJ 1 3 (.slice none 0 0) (nI []),ak a [.slice none 0 0] 43,ak b [I k] 3]++L'):=(s.ef (enc:=aJ) (n:=1) (T:=3)).front 5 [1,2,0,3,4] az az;generalize hall:lF g k 0 (List.range g.n) (mh g [first])=all at hK;refine z.range (anB (r:=r) (T1:=47) (T2:=3) hR) (by rintro p x p' ⟨_,rfl,_⟩;rfl)
  (λp Rs=>∃acc vl,acc.length=p.1/\p.1<k/\all=acc++lF g (k-p.1) p.1 p.2.1 p.2.2/\Rs=[ak f3 [I first] 3,ak n2 [ptr r] 47,aC aJ 1 3 vl (nI acc),ak a [vl] 43,ak b [I k] 3]++L')
  (λ_=>False)
  (λid Rs=>id=0/\∃vl,Rs=[ak f3 [I first] 3,ak n2 [ptr r] 47,aC aJ 1 3 vl (nI all),ak a [vl] 43,ak b [I k] 3]++L')
  ⟨[],.slice none 0 0,rfl,aa,hall.symm,rfl⟩ ?_ ?_ ?_ (λ_ _ h=>h.elim) ?_
 .rintro p t h' ⟨acc,vl,_,_,_,rfl⟩ o';exact⟨o'.get 1 rfl,o'.get 0 rfl,H o'.tail.tail.tail.tail.tail⟩
 .rintro M ⟨i,left,c⟩ x p' t Pr h' R ⟨hne,rfl,rfl⟩ ⟨acc,vl,hacc,hik,hch,rfl⟩ o' hN _ hX;dsimp only[gh]at hne hacc hik hch |-;rw[show k-i=(k-(i+1))+1 by omega,DT hne]at hch;generalize iA c left=m at hch hN;unfold NF;refine o'.begin 0 rfl λh9 f=> ?_;have f:Own h0 h9 (cD _ _::cw _::ak f3 [I first] 3::ak n2 [ptr r] 47::aC aJ 1 3 vl (nI acc)::ak a [vl] 43::ak b [I k] 3::(L'++Pr)):=f;refine f.load 5 rfl rfl ?_;refine f.fH 4 (m:Int) rfl rfl (bW rfl) pZ jb rfl az (by rw[dr];omega) λj h10 e=> ?_;have e1:nI acc++ [(m:Int)]=nI (acc++ [m]):=by simp[nI]
  rw[e1]at e;have u:=e.vw 4 rfl;refine e.bu 5 (cs':=[j]) rfl rfl rfl u.one u.plain λh11 l=>l.load 5 rfl rfl ?_;refine(l.vw 4 rfl).len (l.load 6 rfl rfl ?_);rw[dr,cG,mQ,cF];by_cases D:i+1=k
  .rw[show(((acc.length+1:Nat):Int)==(k:Int))=true by simp;omega,bF];refine hX 0 ([ak f3 [I first] 3,ak n2 [ptr r] 47,aC aJ 1 3 j (nI all),ak a [j] 43,ak b [I k] 3]++L') h11 ⟨rfl,j,rfl⟩ ?_;have :all=acc++ [m]:=by rw[hch,show k-(i+1)=0 by omega];rfl
   rw[this];exact l
  .rw[show(((acc.length+1:Nat):Int)==(k:Int))=false by simp;omega,aO];refine hN ([ak f3 [I first] 3,ak n2 [ptr r] 47,aC aJ 1 3 j (nI (acc++ [m])),ak a [j] 43,ak b [I k] 3]++L') h11 ⟨acc++ [m],j,by simp[hacc],aa,by rw[hch];simp,rfl⟩ ?_;exact l
 .rintro⟨i,left,c⟩ h' t hst ⟨acc,vl,hacc,hik,hch,rfl⟩ o';dsimp only at hst hch;subst hst;have :all=acc:=by
   rw[hch,show k-i=(k-(i+1))+1 by dsimp only at hik;omega];simp[lF]
  subst this;unfold zY;have o':Own h0 h' (cw _::ak f3 [I first] 3::ak n2 [ptr r] 47::aC aJ 1 3 vl (nI all)::ak a [vl] 43::ak b [I k] 3::L'):=o';have hv:=o'.vw 3 rfl;refine o'.load 4 rfl rfl (o'.bu 4 (cs':=[vl]) rfl rfl rfl hv.one hv.plain λh9 f=>f.jV 0 rfl λh10 e=>e.load 4 rfl rfl (hK vl h10 L' q ?_));exact e.front 6 [3] az az
 .rintro id h' t ⟨rfl,vl,rfl⟩ o';show zY prog (ptr a) h5 K h';unfold zY;have o':Own h0 h' (cw _::ak f3 [I first] 3::ak n2 [ptr r] 47::aC aJ 1 3 vl (nI all)::ak a [vl] 43::ak b [I k] 3::L'):=o';have hv:=o'.vw 3 rfl;refine o'.load 4 rfl rfl (o'.bu 4 (cs':=[vl]) rfl rfl rfl hv.one hv.plain λh9 f=>f.jV 0 rfl λh10 e=>e.load 4 rfl rfl (hK vl h10 L' q ?_));exact e.front 6 [3] az az
def anK{k pd:Nat}{vl:Value}{xs:List Int}{N:aS}(o:Own h0 h (ak pd [vl] 136::lC aqI 1 253 vl xs::L))(p:Nat)(hp:L[p]? =some N)(hR:g.Right)(hN:rY N r g)(hk:1<=k)(b:k<2^40)(c:xs.length<2^62)(hr:∀x∈xs,0<=x/\x<=4294967295)
  (hK:∀w a h',Own h0 h' (aC aJ 1 3 w (nI (lF g k 0 (List.range g.n) (mh g [(qY xs g.n).1])))::ak pd [a] 136::lC aqI 1 253 a (qY xs g.n).2::L)->K w h'):ah prog 57 [ptr r,I k,ptr pd] h K:=by
 have hpos:=hR.pos;have f:=hR.most;refine anJ (PL:=λL2=>∃a,L2=ak pd [a] 136::lC aqI 1 253 a (qY xs g.n).2::L) (first :=(qY xs g.n).1) hR ?_ hk b ?_ (hN _ (o.get (p+2) hp)) λw h' L'⟨a,e⟩ o'=>hK w a h' (by subst e;exact o')
 .rintro h' L' ⟨a,rfl⟩ o';exact hN _ (o'.get (p+2) hp)
 .intro K' h1 A d hk';have o1:=o.frame d;refine YD o1 A.length (A.length+1) (by rw[eR (cq _),iE];rfl) (by rw[eR aa,wh];rfl) aa hpos aa c hr λa h2 o2=>hk' h2 _ ⟨a,rfl⟩ ?_;rw[mG _ _ (cq _),iE,y6,mG _ _ aa,wh]at o2;exact o2
end
def anL{u:Value}(h:Mh.plainCell u=true):u.cells= #[u]:=by cases u<;>first |rfl|(exfalso;revert h;decide)|simp[Mh.plainCell]at h
section
variable{h0 h:af}{L:List aS}{K:KT}{g:G}{rn r:Nat}{vl:Value}{ms:List MV}
def anM{b x:Nat}(o:Own h0 h L)(i:Nat)(hi:L[i]? =some (ak b [I x] 3))(a:Vw akX 7 h vl ms)(hl:ms.length<2^40)(hK:∀h',Own h0 h' L->K (.bool (decide (x∈ms.map MV.node))) h'):
  ah prog 244 [vl,.func (.func 245) #[] #[ptr b]] h K:=by
 refine aK (agF ?_);unfold Sr;refine aK (aim ?_);unfold Uq;refine a.len ?_;refine bV ms.length (λj y h'=>y.1=I j/\Ext h h'/\Own h0 h' L/\x∉(ms.take j).map MV.node) ⟨rfl,(Own.start h).ext,o,aP⟩ ?_;rintro j ⟨y,⟨⟩⟩ h1 Z hj ⟨hy,x1,o1,hno⟩ hZ;dsimp only at hy hZ |-;subst hy;unfold Up;rw[bC,bA];refine⟨λhlt=> ?_,λhge=> ?_⟩
 .have hlt:j<ms.length:=aa;refine(a.more x1).jW AG hlt ?_;refine ans (λu hu=>anL (AH _ u hu)) o1 i hi λh2 x2=> ?_;rw[bA];refine⟨λhe=> ?_,λhe=> ?_⟩
  .dsimp only;rw[dA,bT aa];have :x∈ms.map MV.node:=cP.2 ⟨_,cu hlt,he⟩;rw[bT this]at hK;exact hK h2 (o1.more x2)
  .rw[bw,wI j aa];refine hZ (_,()) h2 hlt ⟨rfl,x1.trans x2 λ_ h _=>h,o1.more x2,?_⟩;rw[cW hlt,fq,cS];rintro(h|h)
   .exact hno h
   .simp at h;exact he h.symm
 .have :j=ms.length:=aa;subst this;rw[fF]at hno;dsimp only;rw[dA,bR aa];rw[bR hno]at hK;exact hK h1 o1
def anN{M:List Nat}{k v:Nat}(h:v∈M):og M (k+1) v=og M k (v+1):=by
 conv=>lhs;unfold og
 rw[aW h]
def anO{M:List Nat}{k v:Nat}(h:v∉M):og M (k+1) v=v:=by unfold og;rw[aQ h]
def anP(o:Own h0 h L)(hR:g.Right)(hN:bX h rn g)(hn:Sm g)(hr:r<g.n)(z:∀m∈ms,tP g h m)(A:Vw akX 7 h vl ms)(hl:ms.length<g.n)(S:ms.length<=2^20)(U:(ms.map MV.node).Nodup)
  (hK:∀h',Own h0 h' L->K (I (oh g (ms.map MV.node) r)) h'):ah prog 129 [ptr rn,vl,I r] h K:=by
 have V:=hR.most;have W:=hn r hr;refine aK (aeU ?_);unfold Pq;have T:=gj hR hr;have hmn:∀x∈ms.map MV.node,x<g.n:=λx hx=>by obtain⟨y,hy,rfl⟩:=cP.1 hx;exact(z y hy).1
 have Y:(g.from r).order.length<=g.n:=kH T.nodup T.range;refine anr hR hN hn hr z A aa λpt tr m pm b5 b4 b3 ord vs vm sd sa so f kv h1 hf o1=> ?_;have x1:=o1.ext;simp only[bD,aU];refine o1.load 1 rfl rfl ?_;refine Ii o1 (o1.vw 8 rfl) λs1 h2 o2=> ?_;have B:(fT g (ms.map MV.node) r).sz.length=g.n:=(DL hR hn hr hmn).sl;refine Yr (f:=gI g (ms.map MV.node) r) (O:=(g.from r).order) o2 rfl rfl (Ih (b:=s1) (T:=43) aa) (λh' o'=>⟨o'.get 0 rfl,o'.vw 9 rfl⟩)
  (λh' v K' hv o' hk=>Yw (sz:=(fT g (ms.map MV.node) r).sz) o' (i:=2) (j:=6) rfl rfl (by rw[B];exact T.range v hv) hk) λh3 C=> ?_
 refine C.tail.box λD h4 E=> ?_;clear o1 o2 C;have s:oh g (ms.map MV.node) r=match kM (gI g (ms.map MV.node) r) (g.from r).order with
  |none=>og (ms.map MV.node) (g.n+1) 0
  |some v=>down (gI g (ms.map MV.node) r) (fT g (ms.map MV.node) r).kd g.n v:=rfl
 have F:∀w,kM (gI g (ms.map MV.node) r) (g.from r).order=some w->w∈(g.from r).order:=λw hw=>by
  rcases su (f:=gI g (ms.map MV.node) r) (l:=(g.from r).order)with ⟨e,_⟩|⟨w',e,h1,_⟩
  .rw[e]at hw;cases hw
  .rw[e]at hw;cases hw;exact h1
 generalize kM (gI g (ms.map MV.node) r) (g.from r).order=bb at s F;refine E.bu 0 (cs':=[AR bb]) rfl rfl rfl (by cases bb<;>rfl) (by cases bb<;>rfl) λh5 d=>d.load 0 rfl rfl ?_;clear E;cases bb with
 | none=>
  show aq .lss (I (-1)) _ _;rw[bC,show decide ((-1:Int)<0)=true from rfl,bF];refine d.bu 0 (cs':=[I (0:Nat)]) rfl rfl rfl rfl rfl λh6 k=> ?_;clear d;have hml:(ms.map MV.node).length=ms.length:=gK _;refine bV ms.length (λi y h'=>(∀u,u<i->u∈ms.map MV.node)/\og (ms.map MV.node) (g.n+1-i) i=oh g (ms.map MV.node) r/\∃L',Own h h' (ak D [I i] 3::L')) ⟨λu hu=>aa,s.symm,_,k⟩ ?_;rintro i ⟨⟩ h7 Z hi ⟨hall,t,L',a⟩ hZ;unfold Po;refine anM a 0 rfl (A.more a.ext) aa λh8 p=> ?_;rw[bA];refine⟨λhin=> ?_,λhno=> ?_⟩
  .have H:∀u,u<i+1->u∈ms.map MV.node:=λu hu=>by
    by_cases e:u=i
    .rw[e];exact hin
    .exact hall u aa
   have :=AF H;rw[gd,hml]at this;refine p.load 0 rfl rfl ?_;rw[bw,wI i aa];refine p.bu 0 (cs':=[I (i+1:Nat)]) rfl rfl rfl rfl rfl λh9 q=>hZ () h9 this ⟨H,?_,L',q⟩;rw[<-t,show g.n+1-i=(g.n+1-(i+1))+1 by omega,anN hin]
  .refine p.load 0 rfl rfl ?_;have :=AF hall;rw[gd,hml]at this;rw[show g.n+1-i=(g.n-i)+1 by omega,anO hno]at t;rw[<-t]at hK;exact hK h8 (o.more p.ext)
 | some w0=>
  show aq .lss (I w0) _ _;rw[bC,show decide ((w0:Int)<0)=false from bR aa,aO];refine d.load 0 rfl rfl ?_;have J:∀v,∀w∈(fT g (ms.map MV.node) r).kd v,w∈(g.from r).order/\(g.from r).order.idxOf v<(g.from r).order.idxOf w:=λv w hw=>by obtain⟨q1,_,_,P⟩:=od T ((DM hR hn hr hmn).1 hw);exact⟨q1,P⟩
  have Q:=F w0 rfl;dsimp only at s;refine bV g.n (λi y h'=>(∃v':Value,Own h h' (ak D [v'] 3::iU g (g.from r) rn r pt tr m pm b5 b4 b3 vs vm sd sa so vl f (fT g (ms.map MV.node) r) (fA bg 1 3 kv (fT g (ms.map MV.node) r).kd g.n++ [ak ord [so] 43]))/\
    ((∃w:Nat,y.1=I w/\w∈(g.from r).order/\i<=(g.from r).order.idxOf w/\down (gI g (ms.map MV.node) r) (fT g (ms.map MV.node) r).kd (g.n-i) w=oh g (ms.map MV.node) r)\/(y.1=I (-1)/\v'=I (oh g (ms.map MV.node) r))))) ⟨_,d,.inl ⟨w0,rfl,Q,fE _,s.symm⟩⟩ ?_
  clear d;rintro i ⟨y,⟨⟩⟩ h6 Z hi ⟨v',k,hs⟩ hZ;dsimp only at hs hZ |-;unfold Pp;rcases hs with ⟨w,rfl,hw1,af,c⟩|⟨rfl,rfl⟩
  .have hil:i<g.n:=by have :=sR hw1;omega
   have hwn:=T.range w hw1;rw[dA,bT aa,bF];refine k.bu 0 (cs':=[I w]) rfl rfl rfl rfl rfl λh7 a=> ?_;clear k;simp only[bD,aU];refine a.load 2 rfl rfl (a.load 0 rfl rfl (a.look 3 rfl ?_));have R:=hf w;show ah prog 242 [(f w).getD aT] h7 _;rw[R];have M:∀{N:aS}{X:List aS},(N::iU g (g.from r) rn r pt tr m pm b5 b4 b3 vs vm sd sa so vl f (fT g (ms.map MV.node) r) (fA bg 1 3 kv (fT g (ms.map MV.node) r).kd g.n++X))[w+13]? =some (aC bg 1 3 (kv w) ((fT g (ms.map MV.node) r).kd w)):=by intro N X;show(fA bg 1 3 kv (fT g (ms.map MV.node) r).kd g.n++X)[w]? =_;rw[aqM (by simp[fA];exact hwn),xu hwn]
   refine Ii a (a.vw (w+13) M) λs2 h8 p=> ?_;have ag:((fT g (ms.map MV.node) r).kd w).length<=32:=by have :=(XV hR hn hr hmn (by rw[gK];omega) (g.from r).order.length).1 w;rw[XU]at this;exact this
   refine Yr (f:=gI g (ms.map MV.node) r) (O:=(fT g (ms.map MV.node) r).kd w) p rfl rfl (Ih (b:=s2) (T:=43) aa) (λh' o'=>⟨o'.get 0 rfl,o'.tail.vw (w+13) M⟩)
    (λh' v K' hv o' hk=>Yw (sz:=(fT g (ms.map MV.node) r).sz) o' (i:=3) (j:=7) rfl rfl (by rw[B];exact T.range v (J w v hv).1) hk) λh9 q=> ?_
   replace q:=q.tail;refine hZ (_,()) h9 hil ⟨_,q,?_⟩;rw[show g.n-i=(g.n-(i+1))+1 by omega]at c;unfold down at c;rcases su (f:=gI g (ms.map MV.node) r) (l:=(fT g (ms.map MV.node) r).kd w)with ⟨e,_⟩|⟨w',e,h1,_⟩
   .rw[e]at c |-;dsimp only at c;rw[c];exact .inr ⟨rfl,rfl⟩
   .rw[e]at c |-;dsimp only at c;obtain⟨q1,q2⟩:=J w w' h1;exact .inl ⟨w',rfl,q1,aa,c⟩
  .rw[dA,show decide ((0:Int)<= -1)=false from rfl,aO];exact k.load 0 rfl rfl (hK h6 (o.more k.ext))
end
section
variable{h0 h:af}{L:List aS}{K:KT}{g:G}{r:Nat}{d:Value}{xs:List Int}{DS:Nat->List aS->Prop}
def anQ{A B C:List aS}(o:Own h0 h (A++(B++C))):Own h0 h (A++C):=by
 have o1:Own h0 h ((A++B)++C):=by rw[c7];exact o
 have o2:=Own.comm o1;rw[<-c7]at o2;exact Own.comm o2.left
def anR{i n:Nat}(hn:0<n)(hx:∀x∈xs,0<=x):(qY (xs.drop i) n).1=(qg xs n i:Int)/\(qY (xs.drop i) n).2=xs.drop (i+1):=by
 by_cases h:i<xs.length
 .rw[iD h];refine⟨?_,rfl⟩;show xs[i].tmod n=_;unfold qg;rw[dD h];show _=(((xs[i].tmod n).toNat:Nat):Int);have :=Int.tmod_nonneg (n:Int) (hx _ (cu h));omega
 .rw[rz aa,rz aa];refine⟨?_,rfl⟩;unfold qg;rw[kU aa];rfl
def anS{k:Int}(o:Own h0 h L)(hR:g.Right)(hn:Sm g)(hx:∀x∈xs,0<=x)(hk2:k<2^20)(H0:∀{i h' L'},DS i L'->Own h0 h' L'->bX h' r g)(hL:DS 0 L)
  (hd:∀{i:Nat}{K':KT}{h1:af}{A L':List aS},DS i L'->Own h0 h1 (A++L')->(∀h2 E,DS (i+1) E->Own h0 h2 (A++E)->K' (I (qg xs g.n i)) h2)->ah prog 128 [d,I g.n] h1 K')
  (hK:∀w h' L',DS (min k g.n).toNat L'->Own h0 h' (aC bg 1 3 w (gz g xs (min k g.n).toNat)::L')->K w h'):ah prog 58 [ptr r,I k,d] h K:=by
 have R:=hR.most;refine aK (adN ?_);unfold NI;have hpos:=hR.pos;simp only[dM,dW,aO];generalize hkk:(min k g.n).toNat=kk at hK;have hkn:kk<=g.n:=aa;refine bV kk (λi x h'=>∃(ms:List MV)(c L':List aS),ms.map MV.node=gz g xs i/\DS i L'/\(∀m∈ms,xR m.sd (g.to m.node).aM∈c/\xR m.fd (g.from m.node).aM∈c)/\
  Own h0 h' (aC bg 1 3 x.1 (gz g xs i)::aC akX 7 372 x.2.1 ms::(c++L'))) ⟨[],[],L,rfl,hL,λm hm=>by(cases hm),o.ef.ef⟩ ?_
 rintro i ⟨e,wl,⟨⟩⟩ h1 Z hi ⟨ms,c,L',p,t,F,o1⟩ hZ;dsimp only at o1 hZ |-;unfold NH;refine(o1.vw 0 rfl).len ?_;rw[tO];have j:Own h0 h1 L':=(Own.comm (L:=aC bg 1 3 e (gz g xs i)::aC akX 7 372 wl ms::c) o1).left;have hN:=H0 t j;refine dV hN ?_;rw[rU,show(if(g.n:Int)<k then(g.n:Int)else k)=min k g.n by split<;>omega,bC,bA];refine⟨λhlt=> ?_,λhge=> ?_⟩
 .have hlt:i<kk:=aa;obtain⟨H,J⟩:=IL hR hn hx (k:=i) (xs:=xs) aa;refine dV hN ?_;refine hd (A:=aC bg 1 3 e (gz g xs i)::aC akX 7 372 wl ms::c) t o1 λh2 L2 u o2=> ?_;clear o1 j hN;have o2:Own h0 h2 (aC bg 1 3 e (gz g xs i)::aC akX 7 372 wl ms::(c++L2)):=o2;have y:qg xs g.n i<g.n:=Xq aa hx;have hlen:ms.length=i:=by rw[<-gK (f:=MV.node),p,tO]
  have k2:∀(v:Nat)(h3:af),v<g.n->gz g xs (i+1)=gz g xs i++ [v]->Own h0 h3 (aC bg 1 3 e (gz g xs i)::aC akX 7 372 wl ms::(c++L2))->
    CC prog e (ptr r) wl (λa0 a1 hz=>Z (a0,(a1,())) hz) (I v) h3:=by
   intro v h3 hv he z;unfold CC;refine z.fH 0 v rfl rfl (bW rfl) (λ_=>rfl) qM rfl az (by rw[tO];omega) λw' h4 q=> ?_;have q:Own h0 h4 (aC bg 1 3 w' (gz g xs i++ [v])::aC akX 7 372 wl ms::(c++L2)):=q;rw[<-he]at q;refine q.build (enc:=aJ) (n:=1) [(v:Int)] rfl (bW rfl) rfl λM h5 C=> ?_;have j:Own h0 h5 L2:=(Own.comm (L:=aC aJ 1 3 M [(v:Int)]::aC bg 1 3 w' (gz g xs (i+1))::aC akX 7 372 wl ms::c) C).left;refine alZ C hR (H0 u j) (C.vw 0 rfl) (show 1<2^32 by decide) λN ms1 h6 D s=> ?_;have e1:qQ g.n [(v:Int)]=[v]:=by have :=akh (n:=g.n) (l:=[v]) (λm hm=>by rw[eP.1 hm];exact hv);exact this
   rw[e1]at D;obtain⟨m,rfl⟩:∃m,ms1=[m]:=by
    match ms1,D with
    | [m],_=>exact⟨m,rfl⟩
   have O:m.node=v:=by simpa using D
   have s:Own h0 h6 (aC akX 7 372 N [m]::xR m.sd (g.to m.node).aM::xR m.fd (g.from m.node).aM::aC aJ 1 3 M [(v:Int)]::aC bg 1 3 w' (gz g xs (i+1))::aC akX 7 372 wl ms::(c++L2)):=s;refine s.app 5 rfl AG AH rfl (s.vw 0 rfl) az (by simp only[fO,vX];omega) λw7 h7 P=> ?_;refine hZ (w',(w7,())) h7 hlt ⟨ms++ [m],xR m.sd (g.to m.node).aM::xR m.fd (g.from m.node).aM::c,L2,?_,u,λm' hm'=> ?_,?_⟩
   .rw[fq,p,he];simp[O]
   .rcases cS.1 hm' with hm'|hm'
    .obtain⟨a,b⟩:=F m' hm';exact⟨cZ _ (cZ _ a),cZ _ (cZ _ b)⟩
    .rw[eP.1 hm'];exact⟨cN,cZ _ cN⟩
   .exact P.front 6 [4,5,1,2] az az
  refine(o2.vw 0 rfl).len ?_;rw[tO,akS,bA];refine⟨λhp=> ?_,λhz=> ?_⟩
  .have j:Own h0 h2 L2:=(Own.comm (L:=aC bg 1 3 e (gz g xs i)::aC akX 7 372 wl ms::c) o2).left;refine anP (ms:=ms) o2 hR (H0 u j) hn y (λm hm=> ?_) (o2.vw 1 rfl) aa aa (by rw[p];exact H) λh3 z=> ?_
   .obtain⟨a,b⟩:=F m hm;refine⟨J _ (by rw[<-p];exact mF hm),o2.zN (T:=2) ?_,o2.zN (T:=2) ?_⟩
    .exact cZ _ (cZ _ (aqJ _ a))
    .exact cZ _ (cZ _ (aqJ _ b))
   .rw[p];refine k2 _ h3 (Xp hR hn y J H (by rw[tO];omega)).1 ?_ z;show gz g xs i++ [if i=0 then _ else _]=_;rw[aQ aa]
  .have Q:i=0:=aa;subst Q;exact k2 _ h2 y rfl o2
 .have :i=kk:=aa;subst this;refine hK e h1 L' t ?_;exact anQ (A:=[aC bg 1 3 e (gz g xs i)]) (B:=aC akX 7 372 wl ms::c) o1
def anT{k:Int}{pd:Nat}{vl:Value}{N:aS}(o:Own h0 h (ak pd [vl] 136::lC aqI 1 253 vl xs::L))(p:Nat)(hp:L[p]? =some N)(hR:g.Right)(hN:rY N r g)(hn:Sm g)(hk:k<2^20)(c:xs.length<2^62)(hr:∀x∈xs,0<=x/\x<=4294967295)
  (hK:∀w a h',Own h0 h' (aC bg 1 3 w (gz g xs (min k g.n).toNat)::ak pd [a] 136::lC aqI 1 253 a (xs.drop (min k g.n).toNat)::L)->K w h'):ah prog 58 [ptr r,I k,ptr pd] h K:=by
 have f:=hR.most;have hpos:=hR.pos;have j:=hR.most;refine anS (xs:=xs) (DS:=λi L2=>∃a,L2=ak pd [a] 136::lC aqI 1 253 a (xs.drop i)::L) o hR hn (λx hx=>(hr x hx).1) hk ?_ ⟨vl,rfl⟩ ?_ λw h' L'⟨a,e⟩ o'=>hK w a h' (by subst e;exact o')
 .rintro i h' L' ⟨a,rfl⟩ o';exact hN _ (o'.get (p+2) hp)
 .rintro i K' h1 A L' ⟨a,rfl⟩ o1 hk';have hlen:(xs.drop i).length<2^62:=by rw[sK];omega
  obtain⟨e1,e2⟩:=anR (xs:=xs) (i:=i) (n:=g.n) aa λx hx=>(hr x hx).1;refine YD o1 A.length (A.length+1) (by rw[eR (cq _),iE];rfl) (by rw[eR aa,wh];rfl) aa hpos aa hlen (λx hx=>hr x (BB hx)) λb h2 o2=> ?_;rw[e1];refine hk' h2 _ ⟨b,rfl⟩ ?_;rw[e2,mG _ _ (cq _),iE,y6,mG _ _ aa,wh]at o2;exact o2
end
section
variable{h0 h:af}{L:List aS}{K:KT}{g:G}{p:jK}{dv:Value}{x r p3:Nat}{N:aS}
def gy.mid{g:G}(H:gy g):Jg g:={toRight:=H.toRight,sm:=Sm.alR H.toRight (by have :=H.jY;omega),short:=H.short}
def yl(h:af)(g:G)(p:jK)(tv:Value):Prop:=(p.marks=0/\tv=.pointer none)\/(p.marks≠0/\∃t,tv=ptr t/\gG h t g (marksOf g p))
def vJ(h:af)(g:G)(p:jK)(cv fv:Value):Prop:=(p.kind=0/\cv=.pointer none/\fv=.pointer none)\/
 (p.kind≠0/\∃c b xs M,cv=ptr c/\fv=ptr b/\DV g p xs/\jg xs+1=((M:Nat):Int)/\iB h c xs/\mM h b M g.aj.length (iT g xs M))
def D6{i:Nat}{R:aS}{A:List aS}(hi:L[i]? =some R):(A++L)[A.length+i]? =some R:=by rw[eR aa,show A.length+i-A.length=i by omega];exact hi
def YE{tv:Value}{i j k:Nat}(o:Own h0 h L)(hF:Jg g)(hN:rY N r g)(hw:p.wrong=0)(hij:i≠j)(hik:i≠k)(hi:L[i]? =some (ak x [ptr r,tv,.pointer none,.pointer none] 52))(hj:L[j]? =some (ak p3 (gw p dv) 35))(hk:L[k]? =some N)
  (hK:∀cv fv L' h',Own h0 h' (L.set i (ak x [ptr r,tv,cv,fv] 52)++L')->vJ h' g p cv fv->K (.tuple #[ptr x,.nilIface]) h'):zV prog (ptr p3) (ptr r) (ptr x) K h:=by
 have hR:=hF.toRight;have I:=hR.most;have hpos:=hR.pos;have t:=(@ye p).1.1 hw;have z:=gM (t 2 az);have hcell:=gM (t 3 az);unfold zV;simp only[aU,bE];refine o.load j hj rfl ?_;rw[fe];by_cases f:p.kind=0
 .rw[show(p.kind != 0)=false by simp[f],aO];unfold zU;refine hK (.pointer none) (.pointer none) [] h ?_ (.inl ⟨f,rfl,rfl⟩);rw[eO,tI hi];exact o
 rw[show(p.kind != 0)=true by simpa using f,bF];have hc:=hcell.resolve_left f;refine o.load j hj rfl (o.load j hj rfl (X0 o λm h1 o1=> ?_));have hj1:(eD m tT::L)[j+1]? =some (ak p3 (gw p dv) 35):=by simpa using hj
 refine⟨o1.load (j+1) hj1 rfl rfl,o1.load (j+1) hj1 rfl rfl,o1.look 0 rfl ?_⟩;simp only[gm,dN];have o1:=o1.tail;have rest:∀(ys:List Int)(w:Value)(h2:af),DV g p (norm ys)->ys.length=g.n->Own h0 h2 (aC aJ 1 3 w ys::L)->
   ah prog 20 [w] h2 λt57 h_14=>ah prog 19 [t57] h_14 λt58 h_15=>aI (ptr x) λt59=>au 2 t59 λt60=>aD 1 t60 t58 h_15 λJ h_16=>aI (ptr x) λt64=>au 2 t64 λt65=>ag h_16 t65 λt66=>ah prog 22 [ptr r,t66] h_16 λt67 h_17=>aI (ptr x) λt68=>au 3 t68 λt69=>aD 1 t69 t67 h_17 λO h_18=>zU prog K (ptr x) h_18:=by
  intro ys w h2 hC P o2;obtain⟨f1,f2,f3,f4⟩:=hC.facts hR hc.1;refine X4 o2 (o2.vw 0 rfl) aa λw2 h3 B=> ?_;refine X5 B 0 rfl (λe=>by rw[e]at f1;simp at f1;omega) f2 aa aa f3 λc v' h4 l=> ?_;simp only[bD,aU,bE];have l:Own h0 h4 ([ak c (qV v' (norm ys)) 140,aC aJ 1 3 v' (norm ys),aC aJ 1 3 w2 (norm ys),aC aJ 1 3 w ys]++L):=l;refine l.bu (4+i) (cs':=[ptr r,tv,ptr c,.pointer none]) (D6 (A:=[_,_,_,_]) hi) rfl rfl rfl rfl λh5 a=> ?_;rw[mG _ _ aP]at a;have e:4+i - [ak c (qV v' (norm ys)) 140,aC aJ 1 3 v' (norm ys),aC aJ 1 3 w2 (norm ys),aC aJ 1 3 w ys].length=i:=aP;rw[e]at a;have u:(L.set i (ak x [ptr r,tv,ptr c,.pointer none] 52))[i]? =some (ak x [ptr r,tv,ptr c,.pointer none] 52):=ng hi;have C:(L.set i (ak x [ptr r,tv,ptr c,.pointer none] 52))[k]? =some N:=by rw[gD hik];exact hk
  refine a.load (4+i) (D6 (A:=[_,_,_,_]) u) rfl ?_;have D:iB h5 c (norm ys):=⟨v',a.get 0 rfl,a.vw 1 rfl⟩;have E:bX h5 r g:=hN _ (a.get (4+k) (D6 (A:=[_,_,_,_]) C));obtain⟨M,v⟩:=iX (show 0<=jg (norm ys)+1 by omega);have hsmall:M*bM g.aj.length<=268435456:=by
   have h1:=hF.short;have :bM g.aj.length<=12:=by unfold bM;omega
   have :=nM (show M<=256 by omega) this;omega
  refine am6 a hR f1 E D v aa hsmall λb s h6 q=> ?_;have q:Own h0 h6 ([ak b (j8 M g.aj.length s) 238,aC eA 1 5 s (iT g (norm ys) M),ak c (qV v' (norm ys)) 140,aC aJ 1 3 v' (norm ys),aC aJ 1 3 w2 (norm ys),aC aJ 1 3 w ys]++L.set i (ak x [ptr r,tv,ptr c,.pointer none] 52)):=q;refine q.bu (6+i) (cs':=[ptr r,tv,ptr c,ptr b]) (D6 (A:=[_,_,_,_,_,_]) u) rfl rfl rfl rfl λh7 d=> ?_;rw[mG _ _ aP]at d;have e:6+i - [ak b (j8 M g.aj.length s) 238,aC eA 1 5 s (iT g (norm ys) M),ak c (qV v' (norm ys)) 140,aC aJ 1 3 v' (norm ys),aC aJ 1 3 w2 (norm ys),aC aJ 1 3 w ys].length=i:=aP;rw[e,jO]at d;unfold zU;exact hK (ptr c) (ptr b) _ h7 d.comm (.inr ⟨f,c,b,norm ys,M,rfl,rfl,hC,v,⟨v',d.get 2 rfl,d.vw 3 rfl⟩,⟨s,d.get 0 rfl,d.vw 1 rfl⟩⟩)
 obtain⟨F,H⟩:=iX (show 0<=p.cells by omega);rcases @X2 p.kind with ⟨e,h⟩|⟨e,h⟩|⟨e,h⟩|⟨e1,e2,e3,h⟩
 .exact absurd e f
 .rw[h,e8,H];refine anb o1 hR (hN _ (o1.get k hk)) aa aa λrows w h2 hS o2=> ?_;have y:p.cells.toNat=F:=aa;exact rest _ w h2 ⟨_,rfl,.inl ⟨e,rows,by rw[y];exact hS,by rw[y]⟩⟩ XX o2
 .rw[h,e8];refine alh o1 hk hN hR λw h2 o2=> ?_;unfold Ip at o2;rw[aW hc]at o2;exact rest _ w h2 ⟨_,rfl,.inr ⟨e,rfl⟩⟩ Dv o2
 .rcases z with h|h|h
  .exact absurd h e1
  .exact absurd h e2
  .exact absurd h e3
def anU{w:Value}{ms:List Nat}(o:Own h0 h (aC bg 1 3 w ms::L)):Own h0 h (aC aJ 1 3 w (nI ms)::L):=by
 refine o.weak (λ⟨bl,H⟩=>⟨bl,?_⟩) λb hb=>hb;rcases H with ⟨h1,h2⟩|⟨cap,rest,h1,h2,h3,h4⟩
 .exact .inl ⟨h1,by rw[h2];rfl⟩
 .have e:Mh.row aJ (nI ms)=Mh.row bg ms:=by
   simp only[Mh.row,nI,aJ,List.flatMap_map];rfl
  exact .inr ⟨cap,rest,by rw[dr];exact h1,by rw[e];exact h2,by rw[dr];exact h3,by rw[dr];exact h4⟩
def YF{raw:Value}(hF:Jg g)(HR:qL h raw g)(hw:p.wrong=0)(Hd:Vw aqI 1 h dv p.lG)(F:p.lG.length<=2^20)(hd2:∀x∈p.lG,0<=x/\x<=4294967295)
  (hK:∀x r tv cv fv h',Ext h h'->h'[x]? =some (.cells #[ptr r,tv,cv,fv] 52 (0,0))->bX h' r g->yl h' g p tv->vJ h' g p cv fv->K (.tuple #[ptr x,.nilIface]) h'):ah prog 7 [raw,om p dv] h K:=by
 have hR:=hF.toRight;have v:=(@ye p).1.1 hw;have hmk:=gM (v 0 az);have hrl:=gM (v 1 az);refine aK (ac0 ?_);unfold Mv;have z:=HR;obtain⟨vx,vy,va,rfl,H⟩:=HR;refine(Own.start h).box λo h1 o1=>o1.box λp3 h2 o2=> ?_;have o2:Own h h2 [ak p3 (gw p dv) 35,ak o [I g.n,vx,vy,va] 32]:=o2;refine o2.bZ 0 rfl rfl rfl ?_;refine amA (p:=p) (dv:=dv) (λ_ h3 A=> ?_) λhne=>absurd hw hne;have q:=o2.more A;have y:∀{K:Value->Prop},K (.bool false)->bL true .iface .nilIface .nilIface K:=λhk=>hk;refine y ?_;rw[aO];refine q.bZ 1 rfl rfl rfl ?_;refine VV q hR (z.more q.ext) λr N h4 hN B=> ?_;simp only[cC,cB];refine y ?_;rw[aO];refine cE (cs':=[ptr r,.pointer none,.pointer none,.pointer none]) (by intro p hp;simp at hp;subst hp;rfl) rfl rfl ?_;refine B.box λx h5 c=> ?_;have c:Own h h5 [ak x [ptr r,.pointer none,.pointer none,.pointer none] 52,N,ak p3 (gw p dv) 35,ak o [I g.n,vx,vy,va] 32]:=c;simp only[aU,bE];refine c.load 2 rfl rfl ?_;rw[akS,bA];refine⟨λhpos=> ?_,λhnp=> ?_⟩
 .obtain⟨mk,C⟩:=iX hmk.1;refine c.load 2 rfl rfl (c.load 2 rfl rfl (c.load 2 rfl rfl (XZ c λm h6 a=>⟨a.load 3 rfl rfl rfl,a.load 3 rfl rfl rfl,a.load 3 rfl rfl rfl,?_⟩)));refine a.look 0 rfl ?_;simp only[gm,dN];refine anH a (Hd.more a.ext) aa λpd w h7 f=>⟨f.load 5 rfl rfl rfl,f.load 5 rfl rfl rfl,?_⟩;have hlk:∀{K:Value->Prop},K ((tS p.rule).getD .nilFunc)->dP (.int .i64) .nilFunc false h7 (.map (some m)) (I p.rule) K:=λhk=>f.look 2 rfl (by simpa using hk);obtain⟨f1,f2,f3⟩:=Jh hR hF.sm hmk.1 (λx hx=>(hd2 x hx).1) (p:=p);have fin:∀(w' d:Value)(qs:List Int)(h8:af),Own h h8 (aC aJ 1 3 w' (nI (marksOf g p))::ak pd [d] 136::lC aqI 1 253 d qs::eD m tS:: [ak x [ptr r,.pointer none,.pointer none,.pointer none] 52,N,ak p3 (gw p dv) 35,ak o [I g.n,vx,vy,va] 32])->
    ah prog 16 [ptr r,w'] h8 λt42 h_9=>aI (ptr x) λt43=>au 1 t43 λt44=>aD 1 t44 t42 h_9 λu h_10=>zV prog (ptr p3) (ptr r) (ptr x) K h_10:=λw' d qs h8 b=>by
   refine alo b (b.vw 0 rfl) hR (hN _ (b.get 5 rfl)) aa f1 f2 λt mv tv fv ps J h9 e1 e2 D=> ?_;simp only[bD,aU,bE];refine D.bu 8 (cs':=[ptr r,ptr t,.pointer none,.pointer none]) rfl rfl rfl rfl rfl λh10 E=> ?_;refine YE (i:=8) (j:=10) (k:=9) E hF hN hw az az rfl rfl rfl λcv sy L' h11 l s=> ?_;refine hK x r (ptr t) cv sy h11 l.ext (l.get 8 rfl) (hN _ (l.get 9 rfl)) (.inr ⟨aa,t,rfl,alp (L:=_) l e1 e2⟩) s
  rcases @X1 p.rule with ⟨e,hh⟩|⟨e,hh⟩|⟨e1,e2,hh⟩
  .rw[hh,e8]at hlk |-;refine⟨hlk (K:=λt=>t=fk 57) rfl,?_⟩;rw[C];refine anK (k:=mk) f 2 rfl hR hN aa aa aa hd2 λw' d h8 b=> ?_;have em:lF g mk 0 (List.range g.n) (mh g [(qY p.lG g.n).1])=marksOf g p:=by
    unfold marksOf Jf;rw[aW e,show p.marks.toNat=mk by omega];cases p.lG<;>rfl
   rw[em]at b;exact fin w' d _ h8 b
  .rw[hh,e8]at hlk |-;refine⟨hlk (K:=λt=>t=fk 58) rfl,?_⟩;refine anT (k:=p.marks) f 2 rfl hR hN hF.sm aa aa hd2 λw' d h8 b=> ?_;have em:gz g p.lG (min p.marks g.n).toNat=marksOf g p:=by
    unfold marksOf;rw[aQ aa]
   rw[em]at b;exact fin w' d _ h8 (anU b)
  .exact absurd hrl λh=>h.elim e1 e2
 .refine YE (i:=0) (j:=2) (k:=1) c hF hN hw az az rfl rfl rfl λcv fv L' h6 a s=> ?_;exact hK x r (.pointer none) cv fv h6 a.ext (a.get 0 rfl) (hN _ (a.get 1 rfl)) (.inl ⟨aa,rfl⟩) s
end
def anV{h:af}{K:Exit->bU->List Nat->af->Prop}(hk:∀e,K .normal e [] h):compile prog 19 false (cR (f34.body.getD .skip)) (eX (cR (f34.body.getD .skip)) 0 []).1 [(2,.nilIface)] [] h K:=
 Eq.mpr (α:=compile prog 19 false (cR (f34.body.getD .skip)) (eX (cR (f34.body.getD .skip)) 0 []).1 [(2,.nilIface)] [] h K)
  (β:=K .normal [(7,.bool false),(6,.nilIface),(2,.nilIface)] [] h) bn (hk _)
def YG{v v':Value}{h:af}{K:af->Prop}(hk:K h):js prog 34 #[v,v'] h K:=by
 refine⟨bn,λw hw=> ?_⟩;subst hw;refine callsDIn_of_wpSIn func34 rfl trivial λc₀ cs hu=> ?_;apply wpSIn_seq;generalize hQ:bodyPostS prog _ c₀ cs _=Q;apply wpSIn_region;simp[wpOpsSIn,go_sem,recoverD,hu,ntmps34,Exit.thenS];have hr:∀(tm:Array Value),tm[2]? =some Value.nilIface->tm.size=19->
   Code.wpSIn Fence.wide 0 prog (cR (f34.body.getD .skip)) Q {tmps:=tm,defers:=[]} (c₀::cs) w:=by
  intro tm h1 hs;subst hQ;refine wpSIn_of_wpIn rfl ?_;refine jT _ _ none _ [] w.heap (λex _ m h'=>ex=.normal/\m=[]/\h'=w.heap) (anV λe=>⟨rfl,rfl,rfl⟩) bn [] _ w _ ?_ hs rfl rfl ?_
  .intro s v hv;unfold Mh.look at hv;split at hv
   .rename_i hb;have :=gl hb;subst this;rw[h1];exact hv
   .cases hv
  .rintro ex e' m' a' w' hrl _ hd a _ _ ⟨rfl,rfl,hh⟩;have b:a'.defers=[]:=hd;refine⟨b,.returning,?_,.tuple #[],?_,_,rfl,rfl,a,hh▸hk⟩
   .cases c₀;simp only at hu;subst hu;rfl
   .have hq:gu prog e' w'.heap f34.results.toList (λl=>l=[]):=by
     rw[results34];rfl
    obtain⟨l,hl,rfl⟩:=tc hrl hq;exact pO hl w' rfl
 refine hr _ ?_ ?_
 .simp
 .simp
def anW{h:af}{K:Exit->bU->List Nat->af->Prop}(hk:∀e,K .normal e [] h):compile prog 18 false (cR (f212.body.getD .skip)) (eX (cR (f212.body.getD .skip)) 0 []).1 [(1,.nilIface)] [] h K:=
 Eq.mpr (α:=compile prog 18 false (cR (f212.body.getD .skip)) (eX (cR (f212.body.getD .skip)) 0 []).1 [(1,.nilIface)] [] h K)
  (β:=K .normal [(6,.bool false),(5,.nilIface),(1,.nilIface)] [] h) bn (hk _)
def anX{v:Value}{h:af}{K:af->Prop}(hk:K h):js prog 212 #[v] h K:=by
 refine⟨bn,λw hw=> ?_⟩;subst hw;refine callsDIn_of_wpSIn func212 rfl trivial λc₀ cs hu=> ?_;apply wpSIn_seq;generalize hQ:bodyPostS prog _ c₀ cs _=Q;apply wpSIn_region;simp[wpOpsSIn,go_sem,recoverD,hu,ntmps212,Exit.thenS];have hr:∀(tm:Array Value),tm[1]? =some Value.nilIface->tm.size=18->
   Code.wpSIn Fence.wide 0 prog (cR (f212.body.getD .skip)) Q {tmps:=tm,defers:=[]} (c₀::cs) w:=by
  intro tm h1 hs;subst hQ;refine wpSIn_of_wpIn rfl ?_;refine jT _ _ none _ [] w.heap (λex _ m h'=>ex=.normal/\m=[]/\h'=w.heap) (anW λe=>⟨rfl,rfl,rfl⟩) bn [] _ w _ ?_ hs rfl rfl ?_
  .intro s v hv;unfold Mh.look at hv;split at hv
   .rename_i hb;have :=gl hb;subst this;rw[h1];exact hv
   .cases hv
  .rintro ex e' m' a' w' hrl _ hd a _ _ ⟨rfl,rfl,hh⟩;have b:a'.defers=[]:=hd;refine⟨b,.returning,?_,.tuple #[],?_,_,rfl,rfl,a,hh▸hk⟩
   .cases c₀;simp only at hu;subst hu;rfl
   .have hq:gu prog e' w'.heap f212.results.toList (λl=>l=[]):=by
     rw[results212];rfl
    obtain⟨l,hl,rfl⟩:=tc hrl hq;exact pO hl w' rfl
 refine hr _ ?_ ?_
 .simp
 .simp
def zj(f:Int->Option Int):Int->Option Value:=λz=>(f z).map λa=>I a
abbrev D7(x:Bool):List Value:=[.bool x]
abbrev AU(b hp lm am cm:Nat)(x:Bool)(fo fh:Value):aS:=ak b [ptr hp,I (sI x),I (if x then -1 else 1),fo,fh,.map (some lm),.map (some am),.map (some cm)] 429
abbrev eF(Q:Qs)(rs r:Nat)(va vp:Value)(b hp lm am cm:Bool->Nat)(fo fh:Bool->Value)(F:Bool->Nat->Prop)(S:BW)(ve:Value)(M:List aS):List aS:=
 ak rs [ptr r,I Q.s,I Q.t,va,vp,ptr (b false),ptr (b true),I S.aM,aT,ve,I S.meet] 318::
 AU (b false) (hp false) (lm false) (am false) (cm false) false (fo false) (fh false)::gR (F false) (hp false) (S.sd false).hp Q.g.n::eD (lm false) (zj (S.sd false).lab)::eD (am false) (zj (S.sd false).bS)::eD (cm false) (lz (S.sd false).ord)::
 AU (b true) (hp true) (lm true) (am true) (cm true) true (fo true) (fh true)::gR (F true) (hp true) (S.sd true).hp Q.g.n::eD (lm true) (zj (S.sd true).lab)::eD (am true) (zj (S.sd true).bS)::eD (cm true) (lz (S.sd true).ord)::
 aC eE 4 100 ve S.ev::M
abbrev ix(x:Bool)(k:Nat):Nat:=if x then 6+k else 1+k
section
variable{h0 h:af}{L M:List aS}{K:KT}{Q:Qs}{rs r:Nat}{va vp ve:Value}{b hp lm am cm:Bool->Nat}{fo fh:Bool->Value}{F:Bool->Nat->Prop}{S:BW}{B:Bool->Int}
def YH{v:Nat}(hQ:Q.Ok)(o:Own h0 h (eF Q rs r va vp b hp lm am cm fo fh F S ve M))(a:Vw aJ 1 h0 vp Q.pi)(hv:v<Q.g.n)(hK:K (.tuple #[I (Q.p v),.bool (Q.cQ v)]) h):ah prog 308 [ptr rs,I v] h K:=by
 refine aK (ahR ?_);unfold TH;simp only[bD,aU];have HP:=a.more o.ext;refine o.load 0 rfl rfl (HP.len ?_);rw[cF];rcases hQ.pi with hn|hl
 .rw[hn,show(((([]:List Int).length:Nat):Int)==0)=true from rfl,bF];rw[show Q.p v=0 by unfold Qs.p;rw[hn];rfl,show Q.cQ v=true by unfold Qs.cQ;rw[hn];rfl]at hK;exact hK
 .have hpos:=hQ.r.pos;rw[show((Q.pi.length:Int)==0)=false from rA.2 aa,aO];refine o.load 0 rfl rfl (HP.Im (i:=v) aa ?_);have e:Q.pi[v]=Q.p v:=by unfold Qs.p;simp[cI,show v<Q.pi.length by omega]
  rw[e];have ho:Q.cQ v=(decide (-aN<Q.p v)&&decide (Q.p v<aN)):=by unfold Qs.cQ;rw[show Q.pi.isEmpty=false by cases hp:Q.pi with|nil=>rw[hp]at hl;simp at hl;omega|cons=>rfl];rfl
  rw[ho]at hK;rw[akS,bA];refine⟨λh1=> ?_,λh1=> ?_⟩
  .rw[bC];rw[show decide (-aN<Q.p v)=true from bT h1,kT]at hK;exact hK
  .rw[show decide (-aN<Q.p v)=false from bR h1,oy]at hK;exact hK
def D8{f:Int->Option Int}{v:Nat}{d:Int}(z:Int):zj (λw=>if w=(v:Int)then some d else f w) z=cM (zj f) v (I d) z:=by
 unfold zj cM;by_cases h:z=(v:Int)
 .simp[h]
 .simp[h]
def YI{v:Nat}{a d:Int}(hQ:Q.Ok)(H:BI Q S B)(hB:∀x,B x<=aN)(o:Own h0 h (eF Q rs r va vp b hp lm am cm fo fh F S ve M))(f:Vw aJ 1 h0 vp Q.pi)(hv:v<Q.g.n)(hd:0<=d/\d<=aN)
  (hK:∀F' h',Own h0 h' (eF Q rs r va vp b hp lm am cm fo fh F' (Q.reach S false v a d) ve M)->K (.tuple #[]) h'):
  ah prog 204 [ptr rs,ptr (b false),I v,I a,I d] h K:=by
 have l:=hQ.r.most;have q:aN=72057594037927936:=rfl;refine aK (Rv ?_);unfold GZ;refine YH hQ o f hv ?_;simp only[cC,cB,bD,aU];have stay:(S.sd false).takes Q.cQ v d=false->K (.tuple #[]) h:=λht=>by
  have :Q.reach S false v a d=S:=by unfold Qs.reach;rw[ht];rfl
  rw[this]at hK;exact hK F h o
 have hlen:=(H.si false).hlen;refine o.load 1 rfl rfl (o.look 3 rfl ?_);rw[aW rfl];simp only[cC,cB,bP];cases hop:Q.cQ v with
 |false=>rw[dL,bF];exact stay (by unfold BS.takes;rw[hop];rfl)
 | true=>
  rw[cz,aO];refine o.load 1 rfl rfl (o.look 5 rfl ?_);rw[aQ az];by_cases hc:v∈(S.sd false).ord
  .rw[Dr hc];rw[e8,akS,show decide ((0:Int)<1)=true from rfl,bF];exact stay (by rw[za];exact λht=>(l8.1 ht).2.1 hc)
  .rw [xK hc,Option.getD_none,akS,show decide ((0:Int)<0)=false from rfl,aO];have s:=Qs.Az hop;have key:(S.sd false).takes Q.cQ v d=true->xD prog (ptr (b false)) (I v) (I d) (I a) (I (Q.p v)) (.bool (zj (S.sd false).lab (v:Int)).isSome) (ptr rs) K h:=λht=>by
    have hr:Q.reach S false v a d=Q.put S false v a d:=by unfold Qs.reach;rw[aW ht]
    rw[hr]at hK;unfold xD;simp only[bD,aU];refine o.load 1 rfl rfl (o.load 1 rfl rfl ?_);refine o.Cj (f':=zj ((S.sd false).put (Q.cH false) v a d).lab) 3 rfl D8 λh1 o1=> ?_;refine o1.Cj (f':=zj ((S.sd false).put (Q.cH false) v a d).bS) 4 rfl D8 λh2 o2=> ?_;rw[iO,bK aa aa];refine o2.load 1 rfl rfl ?_;have i:∀{K:Value->Prop},K (I (Q.cH false v))->aq .mul (I (if false=true then -1 else 1)) (I (Q.p v)) K:=λhk=>by
     rw[iO];have :(if false=true then(-1:Int)else 1)*Q.p v=Q.cH false v:=by unfold Qs.cH;simp
     rw[this,bK (by unfold Qs.cH;simp;omega) (by unfold Qs.cH;simp;omega)];exact hk
    have t: -aN<Q.cH false v/\Q.cH false v<aN:=by unfold Qs.cH;simp;omega
    refine i ?_;rw[bw,bK aa aa];have k2:∀F' hh,Own h0 hh (eF Q rs r va vp b hp lm am cm fo fh F' {S with sd:=fN S.sd false ((S.sd false).put (Q.cH false) v a d)} ve M)->xC prog (ptr (b false)) (ptr rs) (I v) (I d) K hh:=λF' hh o=>by
     unfold xC;simp only[bD,aU];refine o.load 1 rfl rfl ?_;rw[fc,show IntKind.i64.wrap (1-sI false)=sI true from rfl,ij];refine⟨az,o.load 0 rfl rfl ?_⟩;simp only[bD,aU];refine o.load 6 rfl rfl (o.look 8 rfl ?_);rw[aW rfl];simp only[cC,cB];cases hm:(S.sd true).lab v with
     |none=>
      have hn:S.near false v d=none:=by unfold BW.near;rw[show(!false)=true from rfl,hm]
      have :zj (S.sd true).lab (v:Int)=none:=by unfold zj;rw[hm];rfl
      show aA (.bool (zj (S.sd true).lab (v:Int)).isSome) _ _;rw[this,mw,aO];refine hK F' hh ?_;have hS:Q.put S false v a d={S with sd:=fN S.sd false ((S.sd false).put (Q.cH false) v a d)}:=by unfold Qs.put;rw[hn];rfl
      rw[hS];exact o
     | some m=>
      have hm2:zj (S.sd true).lab (v:Int)=some (I m):=by unfold zj;rw[hm];rfl
      obtain⟨_,_,_,_,m0,u,_⟩:=(H.si true).lab _ _ hm;have z:=hB true;show aA (.bool (zj (S.sd true).lab (v:Int)).isSome) _ _;rw[hm2,kz,bF];show aq .add (I d) ((zj (S.sd true).lab (v:Int)).getD (I 0)) _;rw[hm2,e8,bw,bK aa aa];refine o.load 0 rfl rfl ?_;rw[bC,bA];refine⟨λhlt=> ?_,λhge=> ?_⟩
      .have hn:S.near false v d=some (d+m):=by unfold BW.near;rw[show(!false)=true from rfl,hm];exact aW hlt
       have hS:Q.put S false v a d=⟨fN S.sd false ((S.sd false).put (Q.cH false) v a d),S.ev,d+m,(v:Int)⟩:=by unfold Qs.put;rw[hn];rfl
       show aq .add (I d) ((zj (S.sd true).lab (v:Int)).getD (I 0)) _;rw[hm2,e8,bw,bK aa aa];refine o.bu 0 rfl rfl rfl rfl rfl λh9 j=>j.bu 0 rfl rfl rfl rfl rfl λh10 k=>hK F' h10 ?_;rw[hS];exact k
      .have hn:S.near false v d=none:=by unfold BW.near;rw[show(!false)=true from rfl,hm];exact aQ hge
       have hS:Q.put S false v a d={S with sd:=fN S.sd false ((S.sd false).put (Q.cH false) v a d)}:=by unfold Qs.put;rw[hn];rfl
       refine hK F' hh ?_;rw[hS];exact o
    cases hl:(S.sd false).lab v with
    |none=>
     have hlv:zj (S.sd false).lab (v:Int)=none:=by unfold zj;rw[hl];rfl
     rw[hlv,mw,aO];refine o2.load 1 rfl rfl (Af o2 2 rfl aa ((H.si false).Iu hl) hv λF' h5 c=> ?_);refine k2 (λy=>if y=false then F' else F y) h5 ?_;have hh:((S.sd false).put (Q.cH false) v a d).hp=((v:Int),2*d+Q.cH false v)::(S.sd false).hp:=by unfold BS.put;rw[hl]
     simp only[eF,nk,hh,show fN S.sd false ((S.sd false).put (Q.cH false) v a d) true=S.sd true from qT (x:=false)];exact c
    |some was=>
     have hlv:zj (S.sd false).lab (v:Int)=some (I was):=by unfold zj;rw[hl];rfl
     obtain⟨_,e,_,_,_,_,hm⟩:=(H.si false).lab _ _ hl;obtain rfl:=gU e;have hm:=hm.resolve_left hc;have A:=(l8.1 ht).2.2 was hl;rw[hlv,kz,bF];refine o2.load 1 rfl rfl (Dq o2 2 rfl hm aa λF' h5 c=> ?_);refine k2 (λy=>if y=false then F' else F y) h5 ?_;have hh:((S.sd false).put (Q.cH false) v a d).hp=((v:Int),2*d+Q.cH false v)::(S.sd false).hp.erase ((v:Int),2*was+Q.cH false v):=by unfold BS.put;rw[hl]
     simp only[eF,nk,hh,show fN S.sd false ((S.sd false).put (Q.cH false) v a d) true=S.sd true from qT (x:=false)];exact c
   cases hl:(S.sd false).lab v with
   |none=>
    have hlv:zj (S.sd false).lab (v:Int)=none:=by unfold zj;rw[hl];rfl
    have :=key (l8.2 ⟨hop,hc,λw hw=>by rw[hl]at hw;cases hw⟩);rw[hlv]at this;show aA (.bool (zj (S.sd false).lab (v:Int)).isSome) _ _;rw[hlv];exact this
   | some was=>
    have hlv:zj (S.sd false).lab (v:Int)=some (I was):=by unfold zj;rw[hl];rfl
    show aA (.bool (zj (S.sd false).lab (v:Int)).isSome) _ _;rw[hlv,kz,bF];rw[e8,lS,bA];refine⟨λhle=>stay ?_,λhgt=> ?_⟩
    .rw[za];intro ht;have :=(l8.1 ht).2.2 was hl;omega
    .have :=key (l8.2 ⟨hop,hc,λw hw=>by rw[hl]at hw;rw[<-eV hw];omega⟩);rw[hlv]at this;exact this
def YJ{v:Nat}{a d:Int}(hQ:Q.Ok)(H:BI Q S B)(hB:∀x,B x<=aN)(o:Own h0 h (eF Q rs r va vp b hp lm am cm fo fh F S ve M))(f:Vw aJ 1 h0 vp Q.pi)(hv:v<Q.g.n)(hd:0<=d/\d<=aN)
  (hK:∀F' h',Own h0 h' (eF Q rs r va vp b hp lm am cm fo fh F' (Q.reach S true v a d) ve M)->K (.tuple #[]) h'):
  ah prog 204 [ptr rs,ptr (b true),I v,I a,I d] h K:=by
 have l:=hQ.r.most;have q:aN=72057594037927936:=rfl;refine aK (Rv ?_);unfold GZ;refine YH hQ o f hv ?_;simp only[cC,cB,bD,aU];have stay:(S.sd true).takes Q.cQ v d=false->K (.tuple #[]) h:=λht=>by
  have :Q.reach S true v a d=S:=by unfold Qs.reach;rw[ht];rfl
  rw[this]at hK;exact hK F h o
 have hlen:=(H.si true).hlen;refine o.load 6 rfl rfl (o.look 8 rfl ?_);rw[aW rfl];simp only[cC,cB,bP];cases hop:Q.cQ v with
 |false=>rw[dL,bF];exact stay (by unfold BS.takes;rw[hop];rfl)
 | true=>
  rw[cz,aO];refine o.load 6 rfl rfl (o.look 10 rfl ?_);rw[aQ az];by_cases hc:v∈(S.sd true).ord
  .rw[Dr hc];rw[e8,akS,show decide ((0:Int)<1)=true from rfl,bF];exact stay (by rw[za];exact λht=>(l8.1 ht).2.1 hc)
  .rw [xK hc,Option.getD_none,akS,show decide ((0:Int)<0)=false from rfl,aO];have s:=Qs.Az hop;have key:(S.sd true).takes Q.cQ v d=true->xD prog (ptr (b true)) (I v) (I d) (I a) (I (Q.p v)) (.bool (zj (S.sd true).lab (v:Int)).isSome) (ptr rs) K h:=λht=>by
    have hr:Q.reach S true v a d=Q.put S true v a d:=by unfold Qs.reach;rw[aW ht]
    rw[hr]at hK;unfold xD;simp only[bD,aU];refine o.load 6 rfl rfl (o.load 6 rfl rfl ?_);refine o.Cj (f':=zj ((S.sd true).put (Q.cH true) v a d).lab) 8 rfl D8 λh1 o1=> ?_;refine o1.Cj (f':=zj ((S.sd true).put (Q.cH true) v a d).bS) 9 rfl D8 λh2 o2=> ?_;rw[iO,bK aa aa];refine o2.load 6 rfl rfl ?_;have i:∀{K:Value->Prop},K (I (Q.cH true v))->aq .mul (I (if true=true then -1 else 1)) (I (Q.p v)) K:=λhk=>by
     rw[iO];have :(if true=true then(-1:Int)else 1)*Q.p v=Q.cH true v:=by unfold Qs.cH;simp
     rw[this,bK (by unfold Qs.cH;simp;omega) (by unfold Qs.cH;simp;omega)];exact hk
    have t: -aN<Q.cH true v/\Q.cH true v<aN:=by unfold Qs.cH;simp;omega
    refine i ?_;rw[bw,bK aa aa];have k2:∀F' hh,Own h0 hh (eF Q rs r va vp b hp lm am cm fo fh F' {S with sd:=fN S.sd true ((S.sd true).put (Q.cH true) v a d)} ve M)->xC prog (ptr (b true)) (ptr rs) (I v) (I d) K hh:=λF' hh o=>by
     unfold xC;simp only[bD,aU];refine o.load 6 rfl rfl ?_;rw[fc,show IntKind.i64.wrap (1-sI true)=sI false from rfl,ij];refine⟨az,o.load 0 rfl rfl ?_⟩;simp only[bD,aU];refine o.load 1 rfl rfl (o.look 3 rfl ?_);rw[aW rfl];simp only[cC,cB];cases hm:(S.sd false).lab v with
     |none=>
      have hn:S.near true v d=none:=by unfold BW.near;rw[show(!true)=false from rfl,hm]
      have :zj (S.sd false).lab (v:Int)=none:=by unfold zj;rw[hm];rfl
      show aA (.bool (zj (S.sd false).lab (v:Int)).isSome) _ _;rw[this,mw,aO];refine hK F' hh ?_;have hS:Q.put S true v a d={S with sd:=fN S.sd true ((S.sd true).put (Q.cH true) v a d)}:=by unfold Qs.put;rw[hn];rfl
      rw[hS];exact o
     | some m=>
      have hm2:zj (S.sd false).lab (v:Int)=some (I m):=by unfold zj;rw[hm];rfl
      obtain⟨_,_,_,_,m0,u,_⟩:=(H.si false).lab _ _ hm;have z:=hB false;show aA (.bool (zj (S.sd false).lab (v:Int)).isSome) _ _;rw[hm2,kz,bF];show aq .add (I d) ((zj (S.sd false).lab (v:Int)).getD (I 0)) _;rw[hm2,e8,bw,bK aa aa];refine o.load 0 rfl rfl ?_;rw[bC,bA];refine⟨λhlt=> ?_,λhge=> ?_⟩
      .have hn:S.near true v d=some (d+m):=by unfold BW.near;rw[show(!true)=false from rfl,hm];exact aW hlt
       have hS:Q.put S true v a d=⟨fN S.sd true ((S.sd true).put (Q.cH true) v a d),S.ev,d+m,(v:Int)⟩:=by unfold Qs.put;rw[hn];rfl
       show aq .add (I d) ((zj (S.sd false).lab (v:Int)).getD (I 0)) _;rw[hm2,e8,bw,bK aa aa];refine o.bu 0 rfl rfl rfl rfl rfl λh9 j=>j.bu 0 rfl rfl rfl rfl rfl λh10 k=>hK F' h10 ?_;rw[hS];exact k
      .have hn:S.near true v d=none:=by unfold BW.near;rw[show(!true)=false from rfl,hm];exact aQ hge
       have hS:Q.put S true v a d={S with sd:=fN S.sd true ((S.sd true).put (Q.cH true) v a d)}:=by unfold Qs.put;rw[hn];rfl
       refine hK F' hh ?_;rw[hS];exact o
    cases hl:(S.sd true).lab v with
    |none=>
     have hlv:zj (S.sd true).lab (v:Int)=none:=by unfold zj;rw[hl];rfl
     rw[hlv,mw,aO];refine o2.load 6 rfl rfl (Af o2 7 rfl aa ((H.si true).Iu hl) hv λF' h5 c=> ?_);refine k2 (λy=>if y=true then F' else F y) h5 ?_;have hh:((S.sd true).put (Q.cH true) v a d).hp=((v:Int),2*d+Q.cH true v)::(S.sd true).hp:=by unfold BS.put;rw[hl]
     simp only[eF,nk,hh,show fN S.sd true ((S.sd true).put (Q.cH true) v a d) false=S.sd false from qT (x:=true)];exact c
    |some was=>
     have hlv:zj (S.sd true).lab (v:Int)=some (I was):=by unfold zj;rw[hl];rfl
     obtain⟨_,e,_,_,_,_,hm⟩:=(H.si true).lab _ _ hl;obtain rfl:=gU e;have hm:=hm.resolve_left hc;have A:=(l8.1 ht).2.2 was hl;rw[hlv,kz,bF];refine o2.load 6 rfl rfl (Dq o2 7 rfl hm aa λF' h5 c=> ?_);refine k2 (λy=>if y=true then F' else F y) h5 ?_;have hh:((S.sd true).put (Q.cH true) v a d).hp=((v:Int),2*d+Q.cH true v)::(S.sd true).hp.erase ((v:Int),2*was+Q.cH true v):=by unfold BS.put;rw[hl]
     simp only[eF,nk,hh,show fN S.sd true ((S.sd true).put (Q.cH true) v a d) false=S.sd false from qT (x:=true)];exact c
   cases hl:(S.sd true).lab v with
   |none=>
    have hlv:zj (S.sd true).lab (v:Int)=none:=by unfold zj;rw[hl];rfl
    have :=key (l8.2 ⟨hop,hc,λw hw=>by rw[hl]at hw;cases hw⟩);rw[hlv]at this;show aA (.bool (zj (S.sd true).lab (v:Int)).isSome) _ _;rw[hlv];exact this
   | some was=>
    have hlv:zj (S.sd true).lab (v:Int)=some (I was):=by unfold zj;rw[hl];rfl
    show aA (.bool (zj (S.sd true).lab (v:Int)).isSome) _ _;rw[hlv,kz,bF];rw[e8,lS,bA];refine⟨λhle=>stay ?_,λhgt=> ?_⟩
    .rw[za];intro ht;have :=(l8.1 ht).2.2 was hl;omega
    .have :=key (l8.2 ⟨hop,hc,λw hw=>by rw[hl]at hw;rw[<-eV hw];omega⟩);rw[hlv]at this;exact this
def YK{x:Bool}{v:Nat}{a d:Int}(hQ:Q.Ok)(H:BI Q S B)(hB:∀x,B x<=aN)(o:Own h0 h (eF Q rs r va vp b hp lm am cm fo fh F S ve M))(c:Vw aJ 1 h0 vp Q.pi)(hv:v<Q.g.n)(hd:0<=d/\d<=aN)
  (hK:∀F' h',Own h0 h' (eF Q rs r va vp b hp lm am cm fo fh F' (Q.reach S x v a d) ve M)->K (.tuple #[]) h'):
  ah prog 204 [ptr rs,ptr (b x),I v,I a,I d] h K:=by
 cases x
 .exact YI hQ H hB o c hv hd hK
 .exact YJ hQ H hB o c hv hd hK
end
section
variable{h0 h:af}{L M:List aS}{K:KT}{Q:Qs}{rs r:Nat}{va vp ve:Value}{b hp lm am cm:Bool->Nat}{fo fh:Bool->Value}{F:Bool->Nat->Prop}{S:BW}{B:Bool->Int}
def oZ(b:Bool->Nat)(S:BW):Value:=match S.next with
 |none=>.pointer none
 |some x=>ptr (b x)
def YL(H:BI Q S B)(hB:∀x,B x<=aN)(o:Own h0 h (eF Q rs r va vp b hp lm am cm fo fh F S ve M))(hK:K (oZ b S) h):ah prog 205 [ptr rs] h K:=by
 have c:aN=72057594037927936:=rfl;refine aK (af9 ?_);unfold Rw CT;simp only[bD,aU];have hG:∀x p,p∈(S.sd x).hp-> - (4*aN)<=p.2/\p.2<=4*aN:=λx p hp=>by
  obtain⟨u,_,_,d,h1,h2⟩:=(H.si x).cK p hp;obtain⟨u',e,_,ho,d0,f,_⟩:=(H.si x).lab _ _ h1;obtain rfl:=gU e;have hp:=Qs.Az ho;have hb:=hB x;have hq:Q.cH x u=Q.p u\/Q.cH x u= - Q.p u:=by cases x;exact .inl rfl;exact .inr rfl
  omega
 have hdist:=H.c3;have g: -aN<=S.aM:=by
  rcases H.c2 with h|⟨u,d0,d1,_,h2,h3,h4⟩
  .omega
  .obtain⟨_,_,_,_,a1,_⟩:=(H.si false).lab _ _ h2;obtain⟨_,_,_,_,a2,_⟩:=(H.si true).lab _ _ h3;omega
 rw[ij];refine⟨az,o.load 0 rfl rfl ?_⟩;simp only[bD,aU];refine o.load 1 rfl rfl (H9 o 2 rfl (λhl=> ?_) λp hl=> ?_)
 .have hn:oZ b S=.pointer none:=by unfold oZ BW.next;rw[hl]
  rw[hn]at hK;simp only[cC,cB];rw[ij];refine⟨az,o.load 0 rfl rfl ?_⟩;simp only[bD,aU];refine o.load 6 rfl rfl (H9 o 7 rfl (λhl=> ?_) λp hl=> ?_)
  .simp only[cC,cB];rw[bP,dL,bF];exact hK
  .simp only[cC,cB];rw[bP,dL,bF];exact hK
 .simp only[cC,cB];rw[ij];refine⟨az,o.load 0 rfl rfl ?_⟩;simp only[bD,aU];refine o.load 6 rfl rfl (H9 o 7 rfl (λa=> ?_) λq a=> ?_)
  .have hn:oZ b S=.pointer none:=by unfold oZ BW.next;rw[hl,a]
   rw[hn]at hK;simp only[cC,cB];rw[bP,cz,aO,bP,dL,bF];exact hK
  .have b1:=hG false p (jF hl).1;have b2:=hG true q (jF a).1;have hn:oZ b S=if 2*S.aM<=p.2+q.2 then .pointer none else if p.2<=q.2 then ptr (b false)else ptr (b true):=by
    unfold oZ BW.next;rw[hl,a];dsimp only;by_cases c1:2*S.aM<=p.2+q.2
    .simp only[aW c1]
    .by_cases c2:p.2<=q.2
     .simp only[aQ c1,aW c2]
     .simp only[aQ c1,aQ c2]
   rw[hn]at hK;simp only[cC,cB];rw[bP,cz,aO,bP,cz,aO,bw,bK aa aa];refine o.load 0 rfl rfl ?_;rw[iO,bK aa aa,dA,bA];refine⟨λc1=>by rw[aW c1]at hK;exact hK,λc1=> ?_⟩;rw[aQ c1]at hK;rw[lS,bA];refine⟨λc2=> ?_,λc2=> ?_⟩
   .rw[aW c2]at hK;rw[ij];exact⟨az,o.load 0 rfl rfl hK⟩
   .rw[aQ c2]at hK;rw[ij];exact⟨az,o.load 0 rfl rfl hK⟩
def anY{st:List dJ}(hQ:Q.Ok)(R:WO Q S st)(hn:S.next=some false)(H:bX h0 r Q.g)(hN:vu (fo false) Q.g r (iH Q.g false))(hE:kI (fh false) (dz false))
  (o:Own h0 h (eF Q rs r va vp b hp lm am cm fo fh F S ve M)) (Y:Vw aJ 1 h0 vp Q.pi) (Ha:Vw D7 1 h0 va Q.allow) (aA:S.ev.length<=2^32)
  (hK:∀F' a h',Own h0 h' (eF Q rs r va vp b hp lm am cm fo fh F' (Q.step false S) a M)->K (.tuple #[]) h'):
  ah prog 206 [ptr rs,ptr (b false)] h K:=by
 have aB:=hQ.r.most;have aD:=hQ.r.many;have aE:aN=72057594037927936:=rfl;obtain⟨v,k,d,hle,af,hno,E,B,P⟩:=R.nV hQ hn;have hstep:Q.step false S=Q.scan false v (Q.pop false ((v:Int),k) S) (iH Q.g false v):=by unfold Qs.step;rw[hle];dsimp only;rw[fL]
 rw[hstep]at hK;refine aK (Ry ?_);unfold G1;simp only[bD,aU];refine o.load 1 rfl rfl (Ag o 2 rfl (λe=>by rw[hle]at e;cases e) λp hp2 G h1 o1=> ?_);rw[hle]at hp2;obtain rfl:=eV hp2;simp only[cC,cB,nS];refine o1.load 1 rfl rfl (o1.look 5 rfl ?_);rw[aQ az,xK hno,mR,bw,show IntKind.i64.wrap (0+1)=1 from rfl];refine o1.mZ (f':=lz ((S.sd false).ord++ [v])) 5 rfl Ia λh2 o2=> ?_;refine o2.load 0 rfl rfl (o2.load 1 rfl rfl (o2.load 1 rfl rfl (o2.look 3 rfl ?_)));rw[aQ az,show(zj (S.sd false).lab (v:Int)).getD (.int .i64 0)=I d by unfold zj;rw[E];rfl];refine cE (cs':=eE ⟨0,sI false,v,d⟩) (λp hp=>by simp at hp;rcases hp with rfl|rfl|rfl|rfl<;>rfl) rfl rfl ?_;refine o2.fH 11 (kL ⟨false,v,d⟩) rfl rfl (bW rfl) qS xQ rfl az aa λl h3 A=> ?_;have f:=A.vw 11 rfl;refine A.bu 0 rfl rfl rfl f.one f.plain λh4 J=> ?_;have C:Q.pop false ((v:Int),k) S=⟨fN S.sd false ((S.sd false).pop v k),S.ev++ [kL ⟨false,v,d⟩],S.aM,S.meet⟩:=by unfold Qs.pop;rw[E];simp only[fL,e8]
 have m:Own h0 h4 (eF Q rs r va vp b hp lm am cm fo fh (λy=>if y=false then G else F y) (Q.pop false ((v:Int),k) S) l M):=by rw[C];simp only[eF,nk,show fN S.sd false ((S.sd false).pop v k) true=S.sd true from qT (x:=false)];exact J
 have hel:(Q.pop false ((v:Int),k) S).ev.length<=2^32+1:=by rw[C];simp;omega
 clear o1 o2 A J f C;generalize Q.pop false ((v:Int),k) S=S1 at P hK m hel;refine m.load 1 rfl rfl (hN h0 h4 _ _ v af (H.more m.ext) m λvl h6 D=> ?_);refine(D.vw 0 rfl).len ?_;have N:∀i∈iH Q.g false v,i<Q.g.aj.length/\dH false (aH Q.g.aj i)=v:=λi hi=>xT.mem false v i hi;have hil:=@W9 Q.g false v;have O:Own h0 h6 (eF Q rs r va vp b hp lm am cm fo fh (λy=>if y=false then G else F y) S1 l (aC bg 1 3 vl (iH Q.g false v)::M)):=D.front 13 [1,2,3,4,5,6,7,8,9,10,11,12,0] az az;clear D m;generalize iH Q.g false v=ids at *;refine bV ids.length (λq y h'=>y.1=I q/\∃F' a,Own h0 h' (eF Q rs r va vp b hp lm am cm fo fh F' (Q.scan false v S1 (ids.take q)) a (aC bg 1 3 vl ids::M))) ⟨rfl,_,_,O⟩ ?_;clear O;rintro q ⟨y,⟨⟩⟩ h7 Z hq ⟨hy,F',a,o⟩ hZ;dsimp only at hy hZ |-;subst hy;unfold G0;rw[bC,bA];refine⟨λhlt=> ?_,λhge=> ?_⟩
 .have hlt:q<ids.length:=aa;have P1:=P.scan hQ (ids:=ids.take q) λi hi=>N i (lK hi);have T:=Xu (Q:=Q) (x:=false) (v:=v) (S1:=S1) hlt;have U:=IU (Q:=Q) (x:=false) (v:=v) (ids:=ids.take q) (S1:=S1);rw[dO]at U;have s:∀F' a h',Own h0 h' (eF Q rs r va vp b hp lm am cm fo fh F' (Q.scan false v S1 (ids.take (q+1))) a (aC bg 1 3 vl ids::M))->xE prog (I q) (λa0 hz=>Z (a0,()) hz) h':=λF' a h' o'=>by
   unfold xE;rw[bw,wI q aa];exact hZ (_,()) h' hlt ⟨rfl,F',a,o'⟩
  obtain⟨hi,ht⟩:=N ids[q] (cu hlt);rw[T]at s;have hread:∀{K:Value->Prop},K (I ids[q])->aY 1 vl (I q) (λt=>ag h7 t K):=λhk=>(o.vw 12 rfl).dU (e:=λx:Nat=>I x) (λ_=>rfl) hlt hk;generalize ids[q]=i at hi ht s T hread;generalize Q.scan false v S1 (ids.take q)=c at P1 s o U;refine hread ?_;simp only[bD,aU];have V:Q.j5 i=true->xF prog (ptr rs) (ptr (b false)) (I i) (I v) (I q) (λa0 hz=>Z (a0,()) hz) h7:=λha=>by
   unfold xF;simp only[bD,aU];refine o.load 0 rfl rfl (o.load 1 rfl rfl ?_);refine cE (cs':=eE ⟨1,sI false,i,0⟩) (λp hp=>by simp at hp;rcases hp with rfl|rfl|rfl<;>rfl) rfl rfl ?_;refine o.fH 11 (iQ false i) rfl rfl (bW rfl) qS xQ rfl az aa λl h8 X=> ?_;have f:=X.vw 11 rfl;refine X.bu 0 rfl rfl rfl f.one f.plain λh9 u=> ?_;have u:Own h0 h9 (eF Q rs r va vp b hp lm am cm fo fh F' {c with ev:=c.ev++ [iQ false i]} l (aC bg 1 3 vl ids::M)):=u;refine u.load 0 rfl rfl (qP (H.more u.ext) hi λh10 ai=> ?_);have ak:=u.more ai;have ea:Q.g.aj[i]=aH Q.g.aj i:=by simp[aH,hi]
   rw[ea];simp only[cC,cB];refine ak.box λa9 h11 an=>an.st 0 rfl rfl rfl rfl rfl (gQ _) λh12 j=> ?_;have hw:((aH Q.g.aj i).w:Int)<=2147483647:=by have :=(hQ.r.ends _ (jf hi)).2.2;omega
   have hlv:(zj (c.sd false).lab (v:Int)).getD (.int .i64 0)=I d:=by unfold zj;rw[P1.lab];rfl
   have aF:=P1.bd;have aG:=P1.aN false;have hW:(W:Int)=2147483647:=rfl;have aI:=P1.d0;refine j.load 2 rfl rfl (j.bZ (cs':=fI (aH Q.g.aj i)) 0 rfl rfl rfl (j.load 2 rfl rfl (j.look 4 rfl ?_)));rw[aQ az,hlv];refine j.load 0 rfl rfl ?_;rw[bw,bK aa aa];refine hE _ _ _ λaL aq=> ?_;have z:=j.more aq;refine⟨z.load 2 rfl rfl rfl,z.look 4 rfl (by rw[aQ az,hlv]),z.load 0 rfl rfl rfl,?_⟩;have au:dz false (aH Q.g.aj i)<Q.g.n:=by have :=hQ.r.ends _ (jf hi);exact this.2.1
   refine YI hQ (P1.bi.ev _) P1.aN z.tail Y au aa λav ax ay=> ?_;refine s av l ax ?_;have hsc:Q.iw false v c i=Q.reach {c with ev:=c.ev++ [iQ false i]} false (dz false (aH Q.g.aj i)) i (d+(aH Q.g.aj i).w):=by unfold Qs.iw;rw[aW ha,P1.lab];rfl
   rw[hsc];exact ay
  have HA:=Ha.more o.ext;refine o.load 0 rfl rfl (HA.len ?_);rw[akS,bA];refine⟨λhpos=> ?_,λhz=>V ?_⟩
  .have hal:Q.allow.length=Q.g.aj.length:=hQ.allow.resolve_left λe=>by rw[e]at hpos;simp at hpos
   refine o.load 0 rfl rfl (HA.dU (e:=λx:Bool=>.bool x) (λ_=>rfl) (i:=i) aa ?_);have hai:Q.j5 i=Q.allow[i]:=by unfold Qs.j5;rw[show Q.allow.isEmpty=false by cases hq:Q.allow with|nil=>rw[hq]at hal;simp at hal;omega|cons=>rfl];simp[cI,show i<Q.allow.length by omega]
   rw[<-hai,bP];cases ha:Q.j5 i with
   |true=>rw[cz,aO];exact V ha
   |false=>rw[dL,bF];refine s F' a h7 ?_;rw[show Q.iw false v c i=c by unfold Qs.iw;rw[ha];rfl];exact o
  .have :Q.allow=[]:=y7.1 aa;unfold Qs.j5;rw[this];rfl
 .have :q=ids.length:=aa;subst this;rw[fF]at o;exact hK F' a h7 (o.front 13 [0,1,2,3,4,5,6,7,8,9,10,11] az az)
def anZ{st:List dJ}(hQ:Q.Ok)(R:WO Q S st)(hn:S.next=some true)(H:bX h0 r Q.g)(hN:vu (fo true) Q.g r (iH Q.g true))(hE:kI (fh true) (dz true))
  (o:Own h0 h (eF Q rs r va vp b hp lm am cm fo fh F S ve M)) (Y:Vw aJ 1 h0 vp Q.pi) (Ha:Vw D7 1 h0 va Q.allow) (aA:S.ev.length<=2^32)
  (hK:∀F' a h',Own h0 h' (eF Q rs r va vp b hp lm am cm fo fh F' (Q.step true S) a M)->K (.tuple #[]) h'):
  ah prog 206 [ptr rs,ptr (b true)] h K:=by
 have aB:=hQ.r.most;have aD:=hQ.r.many;have aE:aN=72057594037927936:=rfl;obtain⟨v,k,d,hle,af,hno,E,B,P⟩:=R.nV hQ hn;have hstep:Q.step true S=Q.scan true v (Q.pop true ((v:Int),k) S) (iH Q.g true v):=by unfold Qs.step;rw[hle];dsimp only;rw[fL]
 rw[hstep]at hK;refine aK (Ry ?_);unfold G1;simp only[bD,aU];refine o.load 6 rfl rfl (Ag o 7 rfl (λe=>by rw[hle]at e;cases e) λp hp2 G h1 o1=> ?_);rw[hle]at hp2;obtain rfl:=eV hp2;simp only[cC,cB,nS];refine o1.load 6 rfl rfl (o1.look 10 rfl ?_);rw[aQ az,xK hno,mR,bw,show IntKind.i64.wrap (0+1)=1 from rfl];refine o1.mZ (f':=lz ((S.sd true).ord++ [v])) 10 rfl Ia λh2 o2=> ?_;refine o2.load 0 rfl rfl (o2.load 6 rfl rfl (o2.load 6 rfl rfl (o2.look 8 rfl ?_)));rw[aQ az,show(zj (S.sd true).lab (v:Int)).getD (.int .i64 0)=I d by unfold zj;rw[E];rfl];refine cE (cs':=eE ⟨0,sI true,v,d⟩) (λp hp=>by simp at hp;rcases hp with rfl|rfl|rfl|rfl<;>rfl) rfl rfl ?_;refine o2.fH 11 (kL ⟨true,v,d⟩) rfl rfl (bW rfl) qS xQ rfl az aa λl h3 A=> ?_;have f:=A.vw 11 rfl;refine A.bu 0 rfl rfl rfl f.one f.plain λh4 J=> ?_;have C:Q.pop true ((v:Int),k) S=⟨fN S.sd true ((S.sd true).pop v k),S.ev++ [kL ⟨true,v,d⟩],S.aM,S.meet⟩:=by unfold Qs.pop;rw[E];simp only[fL,e8]
 have m:Own h0 h4 (eF Q rs r va vp b hp lm am cm fo fh (λy=>if y=true then G else F y) (Q.pop true ((v:Int),k) S) l M):=by rw[C];simp only[eF,nk,show fN S.sd true ((S.sd true).pop v k) false=S.sd false from qT (x:=true)];exact J
 have hel:(Q.pop true ((v:Int),k) S).ev.length<=2^32+1:=by rw[C];simp;omega
 clear o1 o2 A J f C;generalize Q.pop true ((v:Int),k) S=S1 at P hK m hel;refine m.load 6 rfl rfl (hN h0 h4 _ _ v af (H.more m.ext) m λvl h6 D=> ?_);refine(D.vw 0 rfl).len ?_;have N:∀i∈iH Q.g true v,i<Q.g.aj.length/\dH true (aH Q.g.aj i)=v:=λi hi=>xT.mem true v i hi;have hil:=@W9 Q.g true v;have O:Own h0 h6 (eF Q rs r va vp b hp lm am cm fo fh (λy=>if y=true then G else F y) S1 l (aC bg 1 3 vl (iH Q.g true v)::M)):=D.front 13 [1,2,3,4,5,6,7,8,9,10,11,12,0] az az;clear D m;generalize iH Q.g true v=ids at *;refine bV ids.length (λq y h'=>y.1=I q/\∃F' a,Own h0 h' (eF Q rs r va vp b hp lm am cm fo fh F' (Q.scan true v S1 (ids.take q)) a (aC bg 1 3 vl ids::M))) ⟨rfl,_,_,O⟩ ?_;clear O;rintro q ⟨y,⟨⟩⟩ h7 Z hq ⟨hy,F',a,o⟩ hZ;dsimp only at hy hZ |-;subst hy;unfold G0;rw[bC,bA];refine⟨λhlt=> ?_,λhge=> ?_⟩
 .have hlt:q<ids.length:=aa;have P1:=P.scan hQ (ids:=ids.take q) λi hi=>N i (lK hi);have T:=Xu (Q:=Q) (x:=true) (v:=v) (S1:=S1) hlt;have U:=IU (Q:=Q) (x:=true) (v:=v) (ids:=ids.take q) (S1:=S1);rw[dO]at U;have s:∀F' a h',Own h0 h' (eF Q rs r va vp b hp lm am cm fo fh F' (Q.scan true v S1 (ids.take (q+1))) a (aC bg 1 3 vl ids::M))->xE prog (I q) (λa0 hz=>Z (a0,()) hz) h':=λF' a h' o'=>by
   unfold xE;rw[bw,wI q aa];exact hZ (_,()) h' hlt ⟨rfl,F',a,o'⟩
  obtain⟨hi,ht⟩:=N ids[q] (cu hlt);rw[T]at s;have hread:∀{K:Value->Prop},K (I ids[q])->aY 1 vl (I q) (λt=>ag h7 t K):=λhk=>(o.vw 12 rfl).dU (e:=λx:Nat=>I x) (λ_=>rfl) hlt hk;generalize ids[q]=i at hi ht s T hread;generalize Q.scan true v S1 (ids.take q)=c at P1 s o U;refine hread ?_;simp only[bD,aU];have V:Q.j5 i=true->xF prog (ptr rs) (ptr (b true)) (I i) (I v) (I q) (λa0 hz=>Z (a0,()) hz) h7:=λha=>by
   unfold xF;simp only[bD,aU];refine o.load 0 rfl rfl (o.load 6 rfl rfl ?_);refine cE (cs':=eE ⟨1,sI true,i,0⟩) (λp hp=>by simp at hp;rcases hp with rfl|rfl|rfl<;>rfl) rfl rfl ?_;refine o.fH 11 (iQ true i) rfl rfl (bW rfl) qS xQ rfl az aa λl h8 X=> ?_;have f:=X.vw 11 rfl;refine X.bu 0 rfl rfl rfl f.one f.plain λh9 u=> ?_;have u:Own h0 h9 (eF Q rs r va vp b hp lm am cm fo fh F' {c with ev:=c.ev++ [iQ true i]} l (aC bg 1 3 vl ids::M)):=u;refine u.load 0 rfl rfl (qP (H.more u.ext) hi λh10 ai=> ?_);have ak:=u.more ai;have ea:Q.g.aj[i]=aH Q.g.aj i:=by simp[aH,hi]
   rw[ea];simp only[cC,cB];refine ak.box λa9 h11 an=>an.st 0 rfl rfl rfl rfl rfl (gQ _) λh12 j=> ?_;have hw:((aH Q.g.aj i).w:Int)<=2147483647:=by have :=(hQ.r.ends _ (jf hi)).2.2;omega
   have hlv:(zj (c.sd true).lab (v:Int)).getD (.int .i64 0)=I d:=by unfold zj;rw[P1.lab];rfl
   have aF:=P1.bd;have aG:=P1.aN true;have hW:(W:Int)=2147483647:=rfl;have aI:=P1.d0;refine j.load 7 rfl rfl (j.bZ (cs':=fI (aH Q.g.aj i)) 0 rfl rfl rfl (j.load 7 rfl rfl (j.look 9 rfl ?_)));rw[aQ az,hlv];refine j.load 0 rfl rfl ?_;rw[bw,bK aa aa];refine hE _ _ _ λaL aq=> ?_;have z:=j.more aq;refine⟨z.load 7 rfl rfl rfl,z.look 9 rfl (by rw[aQ az,hlv]),z.load 0 rfl rfl rfl,?_⟩;have au:dz true (aH Q.g.aj i)<Q.g.n:=by have :=hQ.r.ends _ (jf hi);exact this.1
   refine YJ hQ (P1.bi.ev _) P1.aN z.tail Y au aa λav ax ay=> ?_;refine s av l ax ?_;have hsc:Q.iw true v c i=Q.reach {c with ev:=c.ev++ [iQ true i]} true (dz true (aH Q.g.aj i)) i (d+(aH Q.g.aj i).w):=by unfold Qs.iw;rw[aW ha,P1.lab];rfl
   rw[hsc];exact ay
  have HA:=Ha.more o.ext;refine o.load 0 rfl rfl (HA.len ?_);rw[akS,bA];refine⟨λhpos=> ?_,λhz=>V ?_⟩
  .have hal:Q.allow.length=Q.g.aj.length:=hQ.allow.resolve_left λe=>by rw[e]at hpos;simp at hpos
   refine o.load 0 rfl rfl (HA.dU (e:=λx:Bool=>.bool x) (λ_=>rfl) (i:=i) aa ?_);have hai:Q.j5 i=Q.allow[i]:=by unfold Qs.j5;rw[show Q.allow.isEmpty=false by cases hq:Q.allow with|nil=>rw[hq]at hal;simp at hal;omega|cons=>rfl];simp[cI,show i<Q.allow.length by omega]
   rw[<-hai,bP];cases ha:Q.j5 i with
   |true=>rw[cz,aO];exact V ha
   |false=>rw[dL,bF];refine s F' a h7 ?_;rw[show Q.iw true v c i=c by unfold Qs.iw;rw[ha];rfl];exact o
  .have :Q.allow=[]:=y7.1 aa;unfold Qs.j5;rw[this];rfl
 .have :q=ids.length:=aa;subst this;rw[fF]at o;exact hK F' a h7 (o.front 13 [0,1,2,3,4,5,6,7,8,9,10,11] az az)
end
section
variable{h0 h:af}{L:List aS}{K:KT}
def YM{v:Value}{xs:List Int}(o:Own h0 h L)(i:Nat)(hi:L[i]? =some (aC aJ 1 3 v xs))(hl:xs.length<2^40)
  (hK:∀h',Own h0 h' (L.set i (aC aJ 1 3 v xs.reverse))->K (.tuple #[]) h'):ah prog 208 [v] h K:=by
 refine aK (aga ?_);unfold RB;refine(o.vw i hi).len ?_;rw[fc,bK aa aa];have es:L.set i (aC aJ 1 3 v xs)=L:=tI hi;refine bV xs.length (λk x h'=>x.1=I k/\x.2.1=I ((xs.length:Int)-1-k)/\Own h0 h' (L.set i (aC aJ 1 3 v (rv xs k)))) ⟨rfl,aP,by rw[akF,es];exact o⟩ ?_;rintro k ⟨x,y,⟨⟩⟩ h Z hk ⟨hx,hy,o⟩ hZ;dsimp only at hx hy hZ |-;subst hx hy;unfold RA;have hi':(L.set i (aC aJ 1 3 v (rv xs k)))[i]? =some (aC aJ 1 3 v (rv xs k)):=ng hi;simp only[bC,bA];refine⟨λhlt=> ?_,λhge=> ?_⟩
 .have e:((xs.length:Int)-1-k)=((xs.length-1-k:Nat):Int):=aa;rw[e];have hj:xs.length-1-k<(rv xs k).length:=by rw[sj];omega
  have hk':k<(rv xs k).length:=by rw[sj];omega
  refine(o.vw i hi').Im hj ((o.vw i hi').Im hk' ?_);refine o.jD i hi' hk' λh1 o1=> ?_;rw[jO]at o1;refine o1.jD i (ng hi) (by rw[kV];exact hj) λh2 o2=> ?_;rw[jO,akH aa]at o2;rw[bw,wI k aa,fc,bK aa aa];exact hZ (I (k+1:Nat),I _,()) h2 aa ⟨rfl,eG (λz:Int=>I z) aa,o2⟩
 .rw[akG aa]at o;exact hK h o
end
section
variable{h0 h:af}{L M:List aS}{K:KT}{Q:Qs}{rs r:Nat}{va vp ve:Value}{b hp lm am cm:Bool->Nat}{fo fh:Bool->Value}{F:Bool->Nat->Prop}{S:BW}{B:Bool->Int}
def vK(Q:Qs)(x:Bool):List Nat->Value
  | []=>.tuple #[I 0,I 0,.bool false]
  |i::_=>.tuple #[I i,I (dH x (aH Q.g.aj i)),.bool true]
def D9 {x:Bool} {a s2 u:Nat} {rest:List Nat} {d:Int} {bS:Int->Option Int} {ord:List Nat} {cs:List Value} (hQ:Q.Ok) (H:bX h r Q.g) (hE:kI (fh x) (dz x)) (hcs:cs[0]? =some (ptr r))
    (o:Own h0 h [ak a [ptr (b x)] 315,ak s2 [ptr rs] 314,ak rs cs 318,AU (b x) (hp x) (lm x) (am x) (cm x) x (fo x) (fh x),eD (am x) (zj bS)])
    (hb:Bk Q.g.aj (dH x) (dz x) Q.ok bS ord (Q.src x) u rest d) (hK:∀h',Ext h h'->K (vK Q x rest) h'):
    aX prog (.func (.func 311) #[] #[ptr a,ptr s2]) [I u].toArray h K:=by
  refine cg (l:=[I u,ptr a,ptr s2]) rfl (ahT ?_);unfold TK;refine o.load 0 rfl rfl ?_;simp only[bD,aU];refine o.load 3 rfl rfl (o.look 4 rfl ?_);rw[aQ az];cases hb with
  | nil ha=>rw[show(zj bS (Q.src x:Int)).getD (.int .i64 0)=I (-1) by unfold zj;rw[ha];rfl,bC,show decide ((-1:Int)<0)=true from rfl,bF];exact hK h (.refl _ _)
  | @cons i rest d ha hi hok ho hb=>
    rw[show(zj bS (dz x (aH Q.g.aj i):Int)).getD (.int .i64 0)=I i by unfold zj;rw[ha];rfl,bC,show decide ((i:Int)<0)=false from bR aa,aO];refine o.load 1 rfl rfl ?_;simp only[bD,aU];refine o.load 2 rfl hcs (qP H hi λh1 x1=> ?_);have ea:Q.g.aj[i]=aH Q.g.aj i:=by simp[aH,hi]
    rw[ea];have o1:=o.more x1;simp only[cC,cB];have he:=hQ.r.ends _ (jf hi);have m:=hQ.r.most;have j:=Own.start h1;refine j.box λa8 h2 s2'=>s2'.st 0 rfl rfl rfl rfl rfl (gQ _) λh3 s3=> ?_;have c:=o1.more s3.ext;refine s3.load 0 rfl rfl (s3.load 0 rfl rfl ?_);rw[bw,bK aa aa];refine c.load 0 rfl rfl ?_;simp only[bD,aU];refine c.load 3 rfl rfl (s3.bZ (cs':=fI (aH Q.g.aj i)) 0 rfl rfl rfl (hE _ _ _ λh4 k=> ?_));have s4:=s3.more k;refine⟨s4.load 0 rfl rfl rfl,s4.load 0 rfl rfl rfl,?_⟩;have e:((aH Q.g.aj i).f:Int)+(aH Q.g.aj i).t-dz x (aH Q.g.aj i)=dH x (aH Q.g.aj i):=by
      cases x
      · show((aH Q.g.aj i).f:Int)+(aH Q.g.aj i).t-(aH Q.g.aj i).t=(aH Q.g.aj i).f;omega
      · show((aH Q.g.aj i).f:Int)+(aH Q.g.aj i).t-(aH Q.g.aj i).f=(aH Q.g.aj i).t;omega
    rw[fc,e,bK (by cases x<;>simp only[dH]<;>simp <;>omega) (by cases x<;>simp only[dH]<;>simp <;>omega)];exact hK h4 (x1.trans s4.ext λ_ h _=>h)
def an0{u:Nat}{rr:List Nat}{d:Int}{wa:Value}{a:Int}(hQ:Q.Ok)(H:bX h0 r Q.g)(hE:kI (fh false) (dz false))(hm:S.meet=(u:Int))(hrl:rr.length<=Q.g.n)
    (o:Own h0 h (ak rs [ptr r,I Q.s,I Q.t,va,vp,ptr (b false),ptr (b true),I a,wa,ve,I S.meet] 318::(eF Q rs r va vp b hp lm am cm fo fh F S ve M).tail))
    (hb:Bk Q.g.aj (dH false) (dz false) Q.ok (S.sd false).bS (S.sd false).ord (Q.src false) u rr d)
    (hK:∀w h',Own h0 h' (aC aJ 1 3 w (nI rr)::ak rs [ptr r,I Q.s,I Q.t,va,vp,ptr (b false),ptr (b true),I a,wa,ve,I S.meet] 318::(eF Q rs r va vp b hp lm am cm fo fh F S ve M).tail)->K w h'):
    ah prog 207 [ptr rs,ptr (b false)] h K:=by
  have A:=hQ.r.most;refine aK (Rz ?_);unfold G2;refine o.box λs2 h1 o1=>o1.box λf h2 o2=>o2.load 1 rfl rfl ?_;simp only[bD,aU];refine o2.load 2 rfl rfl ?_;rw[hm];refine aK (TJ ?_);unfold Hg;refine D9 (x:=false) hQ (H.more o2.ext) hE rfl (o2.bh [0,1,2,3,6] az) hb λh3 j=> ?_;have l:=(o2.more j).ef (enc:=aJ) (n:=1) (T:=3);have fin:∀w hh,Own h0 hh (aC aJ 1 3 w (nI rr)::ak f [ptr (b false)] 315::ak s2 [ptr rs] 314::ak rs [ptr r,I Q.s,I Q.t,va,vp,ptr (b false),ptr (b true),I a,wa,ve,I S.meet] 318::(eF Q rs r va vp b hp lm am cm fo fh F S ve M).tail)->K w hh:=λw hh m=>hK w hh (m.front 4 [0,3] az az)
  have ext:∀(rest:List Nat),∃p q t,vK Q false rest=.tuple #[p,q,t]/\t=.bool (!rest.isEmpty):=λrest=>by cases rest<;>exact⟨_,_,_,rfl,rfl⟩
  obtain⟨p,q,t,e1,e2⟩:=ext rr;rw[e1];simp only[cC,cB,nS];refine tj (k0:=rr.length) (λk y h'=>∃(acc rest:List Nat)(u':Nat)(d':Int),rest.length=k/\acc++rest=rr/\Bk Q.g.aj (dH false) (dz false) Q.ok (S.sd false).bS (S.sd false).ord (Q.src false) u' rest d'/\
      vK Q false rest=.tuple #[y.2.1,y.2.2.1,y.2.2.2.1]/\y.2.2.2.1=.bool (!rest.isEmpty)/\Own h0 h' (aC aJ 1 3 y.1 (nI acc)::ak f [ptr (b false)] 315::ak s2 [ptr rs] 314::ak rs [ptr r,I Q.s,I Q.t,va,vp,ptr (b false),ptr (b true),I a,wa,ve,I S.meet] 318::(eF Q rs r va vp b hp lm am cm fo fh F S ve M).tail))
    ⟨[],rr,u,d,rfl,rfl,hb,e1,e2,l⟩ ?_
  clear o1 o2 l o j hb e1 e2 p q t;rintro k ⟨l4,C,D,E,⟨⟩⟩ h4 Z ⟨acc,rest,u',d',hk,c,hb,e1,e2,o⟩ hZ;dsimp only at e1 e2 o hZ |-;unfold Hf;subst e2;cases rest with
  | nil=>rw[show(!([]:List Nat).isEmpty)=false from rfl,aO];rw[eO]at c;subst c;exact fin l4 h4 o
  | cons i rest=>
    rw[show(!(i::rest).isEmpty)=true from rfl,bF];simp only[vK,Value.tuple.injEq,Array.mk.injEq,ua,wD]at e1;obtain⟨rfl,rfl,_⟩:=e1;have hal:acc.length<2^30:=by have :=eG List.length c;simp at this;omega
    refine o.fH 0 (i:Int) rfl rfl (bW rfl) pZ jb rfl az (by rw[dr];omega) λw2 h5 e=> ?_;cases hb with
    | cons ha hi hok ho hb'=>refine D9 (x:=false) hQ (H.more e.ext) hE rfl (e.bh [1,2,3,4,7] az) hb' λh6 v=> ?_;have z:=e.more v;obtain⟨p,q,t,e1,e2⟩:=ext rest;rw[e1];simp only[cC,cB,nS];refine hZ (w2,(p,(q,(t,())))) h6 rest.length (by rw[<-hk];simp) ⟨acc++ [i],rest,_,_,rfl,by rw[<-c];simp,hb',e1,e2,?_⟩;rw[show nI (acc++ [i])=nI acc++ [(i:Int)] by simp[nI]];exact z
def an1 {v:Value} {c a:Value} (H:bX h0 r Q.g) (hfo:(fo false).cells= #[fo false]) (d:(fh false).cells= #[fh false]) (i:Mh.plainCell (fo false)=true) (j:Mh.plainCell (fh false)=true)
    (o:Own h0 h (ak rs [ptr r,I Q.s,I Q.t,va,vp,c,a,I aN,aT,aT,I 0] 318::M))
    (hK:∀b hp lm am cm F h',Own h0 h' (AU b hp lm am cm false (fo false) (fh false)::gR F hp [] Q.g.n::eD lm (λ_=>none)::eD am (λ_=>none)::eD cm (λ_=>none)::ak rs [ptr r,I Q.s,I Q.t,va,vp,ptr b,a,I aN,aT,aT,I 0] 318::M)->K (.tuple #[]) h'):
    ah prog 201 [ptr rs,I (sI false),v,I (if false=true then -1 else 1),fo false,fh false] h K:=by
  refine aK (Rr ?_);unfold GY;simp only[bD,aU];refine o.load 0 rfl rfl ?_;have fin:∀hp lm am cm F hh,Own h0 hh (gR F hp [] Q.g.n::eD lm (λ_=>none)::eD am (λ_=>none)::eD cm (λ_=>none)::ak rs [ptr r,I Q.s,I Q.t,va,vp,c,a,I aN,aT,aT,I 0] 318::M)->
      (aV [(.pointer none),(.int .i64 0),(.int .i64 0),.nilFunc,.nilFunc,(.map none),(.map none),(.map none)] [(0,1,ptr hp),(1,1,I (sI false)),(2,1,I (if false=true then -1 else 1)),(3,1,fo false),(4,1,fh false),(5,1,.map (some lm)),(6,1,.map (some am)),(7,1,.map (some cm))] λt27=>aB 429 t27 hh λt28 h_6=>b9 1 2 (.pointer (some ⟨rs,0+5,none⟩)) (I (sI false)) λt31=>aD 1 t31 t28 h_6 λu h_7=>K (.tuple #[]) h_7):=λhp lm am cm F hh o=>by
    refine cE (cs':=[ptr hp,I (sI false),I (if false=true then -1 else 1),fo false,fh false,.map (some lm),.map (some am),.map (some cm)]) (λp hp=>by simp only[cV,uo,or_false]at hp;rcases hp with rfl|rfl|rfl|rfl|rfl|rfl|rfl|rfl<;>first |rfl|exact hfo|exact d) rfl rfl ?_
    refine o.box λbb h6 e=> ?_;rw[ij];refine⟨az,e.bu 5 rfl rfl rfl rfl rfl λh7 f=>hK bb hp lm am cm F h7 ?_⟩;exact f
  repeat' (first
    |with_reducible apply And.intro
    |(with_reducible show bH _ _);refine o.mkMap λm hh o=> ?_
    |(with_reducible show ah _ 36 _ _ _);refine dV (H.more o.ext) ?_
    |(with_reducible show ah _ 84 _ _ _);refine Dp o λk hp hh o=> ?_
    | (with_reducible show aV _ _ _)
      first
          |exact fin _ _ _ _ _ _ (o.front 5 [0,1,2,3,4] az az)
          |exact fin _ _ _ _ _ _ (o.front 5 [0,1,3,2,4] az az)
          |exact fin _ _ _ _ _ _ (o.front 5 [0,2,1,3,4] az az)
          |exact fin _ _ _ _ _ _ (o.front 5 [0,2,3,1,4] az az)
          |exact fin _ _ _ _ _ _ (o.front 5 [0,3,1,2,4] az az)
          |exact fin _ _ _ _ _ _ (o.front 5 [0,3,2,1,4] az az)
          |exact fin _ _ _ _ _ _ (o.front 5 [1,0,2,3,4] az az)
          |exact fin _ _ _ _ _ _ (o.front 5 [1,0,3,2,4] az az)
          |exact fin _ _ _ _ _ _ (o.front 5 [1,2,0,3,4] az az)
          |exact fin _ _ _ _ _ _ (o.front 5 [1,2,3,0,4] az az)
          |exact fin _ _ _ _ _ _ (o.front 5 [1,3,0,2,4] az az)
          |exact fin _ _ _ _ _ _ (o.front 5 [1,3,2,0,4] az az)
          |exact fin _ _ _ _ _ _ (o.front 5 [2,0,1,3,4] az az)
          |exact fin _ _ _ _ _ _ (o.front 5 [2,0,3,1,4] az az)
          |exact fin _ _ _ _ _ _ (o.front 5 [2,1,0,3,4] az az)
          |exact fin _ _ _ _ _ _ (o.front 5 [2,1,3,0,4] az az)
          |exact fin _ _ _ _ _ _ (o.front 5 [2,3,0,1,4] az az)
          |exact fin _ _ _ _ _ _ (o.front 5 [2,3,1,0,4] az az)
          |exact fin _ _ _ _ _ _ (o.front 5 [3,0,1,2,4] az az)
          |exact fin _ _ _ _ _ _ (o.front 5 [3,0,2,1,4] az az)
          |exact fin _ _ _ _ _ _ (o.front 5 [3,1,0,2,4] az az)
          |exact fin _ _ _ _ _ _ (o.front 5 [3,1,2,0,4] az az)
          |exact fin _ _ _ _ _ _ (o.front 5 [3,2,0,1,4] az az)
          |exact fin _ _ _ _ _ _ (o.front 5 [3,2,1,0,4] az az))
def an2{u:Nat}{rr:List Nat}{d:Int}{wa:Value}{a:Int}(hQ:Q.Ok)(H:bX h0 r Q.g)(hE:kI (fh true) (dz true))(hm:S.meet=(u:Int))(hrl:rr.length<=Q.g.n)
    (o:Own h0 h (ak rs [ptr r,I Q.s,I Q.t,va,vp,ptr (b false),ptr (b true),I a,wa,ve,I S.meet] 318::(eF Q rs r va vp b hp lm am cm fo fh F S ve M).tail))
    (hb:Bk Q.g.aj (dH true) (dz true) Q.ok (S.sd true).bS (S.sd true).ord (Q.src true) u rr d)
    (hK:∀w h',Own h0 h' (aC aJ 1 3 w (nI rr)::ak rs [ptr r,I Q.s,I Q.t,va,vp,ptr (b false),ptr (b true),I a,wa,ve,I S.meet] 318::(eF Q rs r va vp b hp lm am cm fo fh F S ve M).tail)->K w h'):
    ah prog 207 [ptr rs,ptr (b true)] h K:=by
  have A:=hQ.r.most;refine aK (Rz ?_);unfold G2;refine o.box λs2 h1 o1=>o1.box λf h2 o2=>o2.load 1 rfl rfl ?_;simp only[bD,aU];refine o2.load 2 rfl rfl ?_;rw[hm];refine aK (TJ ?_);unfold Hg;refine D9 (x:=true) hQ (H.more o2.ext) hE rfl (o2.bh [0,1,2,8,11] az) hb λh3 j=> ?_;have l:=(o2.more j).ef (enc:=aJ) (n:=1) (T:=3);have fin:∀w hh,Own h0 hh (aC aJ 1 3 w (nI rr)::ak f [ptr (b true)] 315::ak s2 [ptr rs] 314::ak rs [ptr r,I Q.s,I Q.t,va,vp,ptr (b false),ptr (b true),I a,wa,ve,I S.meet] 318::(eF Q rs r va vp b hp lm am cm fo fh F S ve M).tail)->K w hh:=λw hh m=>hK w hh (m.front 4 [0,3] az az)
  have ext:∀(rest:List Nat),∃p q t,vK Q true rest=.tuple #[p,q,t]/\t=.bool (!rest.isEmpty):=λrest=>by cases rest<;>exact⟨_,_,_,rfl,rfl⟩
  obtain⟨p,q,t,e1,e2⟩:=ext rr;rw[e1];simp only[cC,cB,nS];refine tj (k0:=rr.length) (λk y h'=>∃(acc rest:List Nat)(u':Nat)(d':Int),rest.length=k/\acc++rest=rr/\Bk Q.g.aj (dH true) (dz true) Q.ok (S.sd true).bS (S.sd true).ord (Q.src true) u' rest d'/\
      vK Q true rest=.tuple #[y.2.1,y.2.2.1,y.2.2.2.1]/\y.2.2.2.1=.bool (!rest.isEmpty)/\Own h0 h' (aC aJ 1 3 y.1 (nI acc)::ak f [ptr (b true)] 315::ak s2 [ptr rs] 314::ak rs [ptr r,I Q.s,I Q.t,va,vp,ptr (b false),ptr (b true),I a,wa,ve,I S.meet] 318::(eF Q rs r va vp b hp lm am cm fo fh F S ve M).tail))
    ⟨[],rr,u,d,rfl,rfl,hb,e1,e2,l⟩ ?_
  clear o1 o2 l o j hb e1 e2 p q t;rintro k ⟨l4,C,D,E,⟨⟩⟩ h4 Z ⟨acc,rest,u',d',hk,c,hb,e1,e2,o⟩ hZ;dsimp only at e1 e2 o hZ |-;unfold Hf;subst e2;cases rest with
  | nil=>rw[show(!([]:List Nat).isEmpty)=false from rfl,aO];rw[eO]at c;subst c;exact fin l4 h4 o
  | cons i rest=>
    rw[show(!(i::rest).isEmpty)=true from rfl,bF];simp only[vK,Value.tuple.injEq,Array.mk.injEq,ua,wD]at e1;obtain⟨rfl,rfl,_⟩:=e1;have hal:acc.length<2^30:=by have :=eG List.length c;simp at this;omega
    refine o.fH 0 (i:Int) rfl rfl (bW rfl) pZ jb rfl az (by rw[dr];omega) λw2 h5 e=> ?_;cases hb with
    | cons ha hi hok ho hb'=>refine D9 (x:=true) hQ (H.more e.ext) hE rfl (e.bh [1,2,3,9,12] az) hb' λh6 v=> ?_;have z:=e.more v;obtain⟨p,q,t,e1,e2⟩:=ext rest;rw[e1];simp only[cC,cB,nS];refine hZ (w2,(p,(q,(t,())))) h6 rest.length (by rw[<-hk];simp) ⟨acc++ [i],rest,_,_,rfl,by rw[<-c];simp,hb',e1,e2,?_⟩;rw[show nI (acc++ [i])=nI acc++ [(i:Int)] by simp[nI]];exact z
def an3 {v:Value} {a c:Value} (H:bX h0 r Q.g) (hfo:(fo true).cells= #[fo true]) (d:(fh true).cells= #[fh true]) (i:Mh.plainCell (fo true)=true) (j:Mh.plainCell (fh true)=true)
    (o:Own h0 h (ak rs [ptr r,I Q.s,I Q.t,va,vp,a,c,I aN,aT,aT,I 0] 318::M))
    (hK:∀b hp lm am cm F h',Own h0 h' (AU b hp lm am cm true (fo true) (fh true)::gR F hp [] Q.g.n::eD lm (λ_=>none)::eD am (λ_=>none)::eD cm (λ_=>none)::ak rs [ptr r,I Q.s,I Q.t,va,vp,a,ptr b,I aN,aT,aT,I 0] 318::M)->K (.tuple #[]) h'):
    ah prog 201 [ptr rs,I (sI true),v,I (if true=true then -1 else 1),fo true,fh true] h K:=by
  refine aK (Rr ?_);unfold GY;simp only[bD,aU];refine o.load 0 rfl rfl ?_;have fin:∀hp lm am cm F hh,Own h0 hh (gR F hp [] Q.g.n::eD lm (λ_=>none)::eD am (λ_=>none)::eD cm (λ_=>none)::ak rs [ptr r,I Q.s,I Q.t,va,vp,a,c,I aN,aT,aT,I 0] 318::M)->
      (aV [(.pointer none),(.int .i64 0),(.int .i64 0),.nilFunc,.nilFunc,(.map none),(.map none),(.map none)] [(0,1,ptr hp),(1,1,I (sI true)),(2,1,I (if true=true then -1 else 1)),(3,1,fo true),(4,1,fh true),(5,1,.map (some lm)),(6,1,.map (some am)),(7,1,.map (some cm))] λt27=>aB 429 t27 hh λt28 h_6=>b9 1 2 (.pointer (some ⟨rs,0+5,none⟩)) (I (sI true)) λt31=>aD 1 t31 t28 h_6 λu h_7=>K (.tuple #[]) h_7):=λhp lm am cm F hh o=>by
    refine cE (cs':=[ptr hp,I (sI true),I (if true=true then -1 else 1),fo true,fh true,.map (some lm),.map (some am),.map (some cm)]) (λp hp=>by simp only[cV,uo,or_false]at hp;rcases hp with rfl|rfl|rfl|rfl|rfl|rfl|rfl|rfl<;>first |rfl|exact hfo|exact d) rfl rfl ?_
    refine o.box λbb h6 e=> ?_;rw[ij];refine⟨az,e.bu 5 rfl rfl rfl rfl rfl λh7 f=>hK bb hp lm am cm F h7 ?_⟩;exact f
  repeat' (first
    |with_reducible apply And.intro
    |(with_reducible show bH _ _);refine o.mkMap λm hh o=> ?_
    |(with_reducible show ah _ 36 _ _ _);refine dV (H.more o.ext) ?_
    |(with_reducible show ah _ 84 _ _ _);refine Dp o λk hp hh o=> ?_
    | (with_reducible show aV _ _ _)
      first
          |exact fin _ _ _ _ _ _ (o.front 5 [0,1,2,3,4] az az)
          |exact fin _ _ _ _ _ _ (o.front 5 [0,1,3,2,4] az az)
          |exact fin _ _ _ _ _ _ (o.front 5 [0,2,1,3,4] az az)
          |exact fin _ _ _ _ _ _ (o.front 5 [0,2,3,1,4] az az)
          |exact fin _ _ _ _ _ _ (o.front 5 [0,3,1,2,4] az az)
          |exact fin _ _ _ _ _ _ (o.front 5 [0,3,2,1,4] az az)
          |exact fin _ _ _ _ _ _ (o.front 5 [1,0,2,3,4] az az)
          |exact fin _ _ _ _ _ _ (o.front 5 [1,0,3,2,4] az az)
          |exact fin _ _ _ _ _ _ (o.front 5 [1,2,0,3,4] az az)
          |exact fin _ _ _ _ _ _ (o.front 5 [1,2,3,0,4] az az)
          |exact fin _ _ _ _ _ _ (o.front 5 [1,3,0,2,4] az az)
          |exact fin _ _ _ _ _ _ (o.front 5 [1,3,2,0,4] az az)
          |exact fin _ _ _ _ _ _ (o.front 5 [2,0,1,3,4] az az)
          |exact fin _ _ _ _ _ _ (o.front 5 [2,0,3,1,4] az az)
          |exact fin _ _ _ _ _ _ (o.front 5 [2,1,0,3,4] az az)
          |exact fin _ _ _ _ _ _ (o.front 5 [2,1,3,0,4] az az)
          |exact fin _ _ _ _ _ _ (o.front 5 [2,3,0,1,4] az az)
          |exact fin _ _ _ _ _ _ (o.front 5 [2,3,1,0,4] az az)
          |exact fin _ _ _ _ _ _ (o.front 5 [3,0,1,2,4] az az)
          |exact fin _ _ _ _ _ _ (o.front 5 [3,0,2,1,4] az az)
          |exact fin _ _ _ _ _ _ (o.front 5 [3,1,0,2,4] az az)
          |exact fin _ _ _ _ _ _ (o.front 5 [3,1,2,0,4] az az)
          |exact fin _ _ _ _ _ _ (o.front 5 [3,2,0,1,4] az az)
          |exact fin _ _ _ _ _ _ (o.front 5 [3,2,1,0,4] az az))
end
end Go.Proofs.YtacopgnplajifaaGreatDoor
