/- Texts of the proofs of seat YthglofkkjoiepaaGreatDoor, joined: SpA, VaA, SpB, SoA, DfA, SpC, SpD, TaA, TaB, DsA, AvA, BnA, BnB, BdA, CeA, DkA, DkB, BiA, BiB, Md00, Lw00, GtA, TiA, CeB. They have no conditions of their own. -/
import Derived.Test.YthglofkkjoiepaaGreatDoorTa
import Derived.Test.YthglofkkjoiepaaGreatDoorMb
import Derived.Test.YthglofkkjoiepaaGreatDoorMc
import Derived.Test.YthglofkkjoiepaaGreatDoorGb
import Derived.Test.YthglofkkjoiepaaGreatDoorGa
import Derived.Shelf.SlSortCmp.Whole1
import Derived.KernelRfl
import Derived.Test.YthglofkkjoiepaaGreatDoorMd
set_option linter.unusedVariables false
set_option linter.unusedSimpArgs false
set_option linter.unusedSectionVars false

namespace Go.Proofs.YthglofkkjoiepaaGreatDoor
open Go Go.Mh
section
variable{h0 h:aa}{L:List aM}{K:KT}{g:G}{r v d:Nat}{vl:Value}
theorem oZ{α:Type}{l:List α}{i:Nat}{a:α}(h:i<l.length):l.getD i a=l[i]:=by
 rw[List.getD_eq_getElem?_getD,List.getElem?_eq_getElem h];rfl
theorem Ug{l:List Int}(H:Vw aG 1 h vl l)(hv:v<l.length)(hK:K (.tuple #[I (l.getD v 0),.bool true]) h):ah Tryz.prog Am [vl,I v] h K:=by
 refine aK (aeb _ _ ?_);unfold Sb;rw[bu,decide_eq_false (by omega),aL];refine H.len ?_;rw[c8,decide_eq_false (by omega),aL];refine H.cV hv ?_;rw[oZ hv]at hK;exact hK
theorem Uh(hR:g.Right)(H:bJ h r g)(hv:v<g.n)(hK:K (.tuple #[I (g.X.getD v 0),I (g.Y.getD v 0),.bool true]) h):ah Tryz.prog Ac [ptr r,I v] h K:=by
 obtain⟨vx,vy,va,vo,b,hr,a,ho,hi⟩:=H;refine aK (adb _ _ ?_);unfold QF;have c1:hcell h ⟨r,1,none⟩=some vx:=aY hr rfl;have c2:hcell h ⟨r,2,none⟩=some vy:=aY hr rfl;simp only[ef,Option.isNone_some,aL,bz,aQ];refine bC rfl c1 (Ug a.1 (by rw[hR.x];exact hv) ?_);simp only[b9,bZ];refine bC rfl c2 (Ug a.2.1 (by rw[hR.y];exact hv) ?_);simp only[b9,bZ];exact hK
def eD:Nat->Value
 |0=>.func (.func Ft) #[] #[]
 |1=>.func (.func Fu) #[] #[]
 |2=>.func (.func Fv) #[] #[]
 |_=>.func (.func Fw) #[] #[]
theorem af9:(eD d).cells= #[eD d]:=by
 unfold eD;split<;>rfl
theorem Ui:Mh.plainCell (eD d)=true:=by
 unfold eD;split<;>rfl
theorem Uj(hK:∀h',Ext h h'->K (.agg #[eD 0,eD 1,eD 2,eD 3]) h'):ah Tryz.prog An [] h K:=by
 refine aK (aec ?_);unfold Sc;refine(Own.start h).box λt0 h1 o1=> ?_;refine cG (cs':=[eD 0,eD 1,eD 2,eD 3]) (λp hp=>by
  simp at hp;rcases hp with rfl|rfl|rfl|rfl<;>rfl) rfl rfl ?_
 refine o1.st (l:=[eD 0,eD 1,eD 2,eD 3]) (cs':=[eD 0,eD 1,eD 2,eD 3]) 0 rfl rfl rfl rfl rfl ?_ λh2 o2=>o2.bN (cs':=[eD 0,eD 1,eD 2,eD 3]) 0 rfl rfl rfl (hK h2 o2.ext);intro u hu;simp at hu;rcases hu with rfl|rfl|rfl|rfl<;>exact Ui
theorem aga{x y:Int}(hd:d<4)(hx: -2147483648<=x/\x<=2147483647)(hy: -2147483648<=y/\y<=2147483647)(hK:K (I (if d=0 then x else if d=1 then y else if d=2 then x+y else x-y)) h):aS Tryz.prog (eD d) [I x,I y].toArray h K:=by
 rcases(show d=0\/d=1\/d=2\/d=3 by omega)with rfl|rfl|rfl|rfl
 ·refine bU (l:=[I x,I y]) rfl (aeB _ _ ?_);exact hK
 ·refine bU (l:=[I x,I y]) rfl (aeD _ _ ?_);exact hK
 ·refine bU (l:=[I x,I y]) rfl (aeE _ _ ?_);unfold SO;rw[bt,bG (by omega) (by omega)];exact hK
 ·refine bU (l:=[I x,I y]) rfl (aeF _ _ ?_);unfold SP;rw[eM,bG (by omega) (by omega)];exact hK
theorem Bz{l:List Int}{n:Nat}(h:∀c∈l,-2147483648<=c/\c<=2147483647): -2147483648<=l.getD n 0/\l.getD n 0<=2147483647:=by
 rw[List.getD_eq_getElem?_getD];cases e:l[n]? with
 |none=>exact⟨by decide,by decide⟩
 |some c=>exact h c (List.mem_of_getElem? e)
theorem agb(hR:g.Right): -4294967296<=eL g d v/\eL g d v<=4294967296:=by
 have hx:=Bz (n:=v) hR.xr;have hy:=Bz (n:=v) hR.yr;unfold eL;split
 ·omega
 ·split
  ·omega
  ·split<;>omega
def xH(p2 tl:Nat):Value:=.func (.func Fc) #[] #[ptr p2,ptr tl]
theorem Uk{p:Nat}(o:Own h0 h L)(hd:d<4)(hK:∀p2 tl h',Own h0 h' (aj tl [eD d] wZ::aj p2 [ptr p] lF::L)->Ext h h'->K (xH p2 tl) h'):ah Tryz.prog Ad [ptr p,I d] h K:=by
 refine aK (adh _ _ ?_);unfold QL;refine(Own.start h).box λp2 h1 o1=> ?_;have o1:Own h h1 [aj p2 [ptr p] lF]:=o1;refine Uj λh2 b=> ?_;have o2:=o1.more b;refine⟨by omega,by omega,?_⟩;have e:(#[eD 0,eD 1,eD 2,eD 3]:Array Value)[(d:Int).toNat]? =some (eD d):=by
  rcases(show d=0\/d=1\/d=2\/d=3 by omega)with rfl|rfl|rfl|rfl<;>rfl
 rw[e];refine o2.box λtl h3 c=>c.bf 0 (cs':=[eD d]) rfl rfl rfl af9 Ui λh4 a=> ?_;exact hK p2 tl h4 (o.frame a) a.ext
theorem G0{p p2 tl:Nat}{pc:List Value}(o:Own h0 h L)(i j k:Nat)(hi:L[i]? =some (aj tl [eD d] wZ))(hj:L[j]? =some (aj p2 [ptr p] lF))(hk:L[k]? =some (aj p (ptr r::pc) ni))(hR:g.Right)(hN:bJ h r g)(hd:d<4)(hv:v<g.n)
  (hK:K (I (eL g d v)) h):aS Tryz.prog (xH p2 tl) [I v].toArray h K:=by
 refine bU (l:=[I v,ptr p2,ptr tl]) rfl (aee _ _ _ ?_);unfold Sf;refine o.load j hj rfl ?_;simp only[bz,aQ];refine o.load k hk rfl ?_;refine Uh hR hN hv ?_;simp only[b9,bZ,k8];refine o.load i hi rfl ?_;exact aga hd (Bz hR.xr) (Bz hR.yr) hK
theorem agc{a b:Int}:(if b>a then b else a)=max a b:=by split<;>omega
theorem agd{a b:Int}:(if b<a then b else a)=min a b:=by split<;>omega
theorem age{fv:Value}{f:Nat->Int}{l:List Nat}(b:Vw aV 1 h vl l)(hl:l.length<2^40)(hr:∀x,-4294967296<=f x/\f x<=4294967296)(hT:∀x∈l,∀K':KT,K' (I (f x)) h->aS Tryz.prog fv [I x].toArray h K')(hK:K (I (lK f l)) h):
  ah Tryz.prog Fb [vl,fv] h K:=by
 refine aK (aed _ _ ?_);unfold Se;refine b.len ?_;rw[cF,iW];refine⟨λe=> ?_,λe=> ?_⟩
 ·have :l=[]:=List.eq_nil_of_length_eq_zero (by omega);subst this;exact hK
 ·have hpos:0<l.length:=by omega
  refine b.dH (e:=λ(x:Nat)=>I x) (λ_=>rfl) (i:=0) hpos ?_;refine hT _ (List.getElem_mem hpos) _ (b.len ?_);refine cg l.length (λi x h'=>x.1=I (lI f (l.take i) (f l[0]))/\x.2.1=I (lJ f (l.take i) (f l[0]))/\x.2.2.1=I i/\h'=h) ⟨rfl,rfl,rfl,rfl⟩ ?_;rintro i ⟨x,y,z,⟨⟩⟩ h' Z hi ⟨hx,hy,hz,rfl⟩ hZ;dsimp only at hx hy hz hZ ⊢;subst hx hy hz;unfold Sd;rw[bu,bg];refine⟨λhlt=> ?_,λhge=> ?_⟩
  ·have hlt:i<l.length:=by omega
   have tk:l.take (i+1)=l.take i++ [l[i]]:=List.take_succ_eq_append_getElem hlt;refine b.dH (e:=λ(x:Nat)=>I x) (λ_=>rfl) hlt ?_;refine hT _ (List.getElem_mem hlt) _ ?_;rw[oI,agd];refine hT _ (List.getElem_mem hlt) _ ?_;rw[l9,agc,bt,wI i (by omega)];exact hZ (_,_,_,()) _ hlt ⟨by rw[tk,afU],by rw[tk,afV],rfl,rfl⟩
  ·have :i=l.length:=by omega
   subst this;rw[List.take_length];have e1:=(@Bv f l (f l[0])).1;have e2:=(@Bw f l (f l[0])).1;have e3:=@TZ f (-4294967296) l (f l[0]) (hr _).1 λx _=>(hr x).1;have c:=@T0 f 4294967296 l (f l[0]) (hr _).2 λx _=>(hr x).2;rw[eM,bG (by omega) (by omega)];have :lK f l=lJ f l (f l[0])-lI f l (f l[0]):=by
    match l,hpos with
    |a::l,_=>rfl
   rw[this]at hK;exact hK
theorem agf{p:Nat}{pc:List Value}{l:List Nat}(o:Own h0 h L)(k:Nat)(hk:L[k]? =some (aj p (ptr r::pc) ni))(hR:g.Right)(hN:∀h',Ext h h'->bJ h' r g)(j:Vw aV 1 h vl l)(hl:l.length<2^40)(m:∀x∈l,x<g.n)
  (hK:∀h',Own h0 h' L->Ext h h'->K (.tuple #[I (mD g l).1,I (mD g l).2]) h'):ah Tryz.prog EJ [ptr p,vl] h K:=by
 refine aK (adg _ _ ?_);unfold QJ;refine Uj λh1 x1=> ?_;refine cg 4 (λi x h'=>x.1=I (iE (λd=>lK (eL g d) l) i).1/\x.2.1=I (iE (λd=>lK (eL g d) l) i).2/\x.2.2.1=I i/\Own h0 h' L/\Ext h h') ⟨rfl,rfl,rfl,o.more x1,x1⟩ ?_;clear o;rintro i ⟨x,y,z,⟨⟩⟩ h2 Z hi ⟨hx,hy,hz,o,e⟩ hZ;dsimp only at hx hy hz hZ ⊢;subst hx hy hz;unfold QI;rw[bu,bg];refine⟨λhlt=> ?_,λhge=> ?_⟩
 ·have hlt:i<4:=by omega
  refine Uk o hlt λp2 tl h3 b q=> ?_;have a:Ext h h3:=e.trans q λ_ h _=>h;refine age (f:=eL g i) (j.more a) hl (λx=>agb hR) (λx hx K' hk'=>G0 b 0 1 (k+2) rfl rfl hk hR (hN _ a) hlt (m x hx) hk') ?_;have st:iE (λd=>lK (eL g d) l) (i+1)=if(iE (λd=>lK (eL g d) l) i).2<lK (eL g i) l then(i,lK (eL g i) l)else iE (λd=>lK (eL g d) l) i:=rfl;unfold Gl;rw[dZ,bg];refine⟨λc=> ?_,λc=> ?_⟩
  ·rw[bt,wI i (by omega)];exact hZ (_,_,_,()) _ hlt ⟨by rw[st,if_pos c],by rw[st,if_pos c],rfl,b.tail.tail,a⟩
  ·rw[bt,wI i (by omega)];exact hZ (_,_,_,()) _ hlt ⟨by rw[st,if_neg c],by rw[st,if_neg c],rfl,b.tail.tail,a⟩
 ·have :i=4:=by omega
  subst this;exact hK h2 o e
end
open Go Go.Mh
section
variable{h0 h:aa}{L:List aM}{K:KT}{vo:Value}{O:List Nat}
def Ul(O:List Nat)(i:Nat)(x:List Value)(i':Nat):Prop:=i<O.length/\i'=i+1/\x=[I (O.getD i 0:Nat)]
theorem G1{b:Nat}{T:TypeId}(hl:O.length<2^40):gP Tryz.prog (.func (.func tR) #[] #[ptr b]) (λh=>h[b]? =some (.cells #[vo] T (0,0))/\Vw aV 1 h vo O) (σ:=Nat) 0 (Ul O) (λi=>i=O.length):=by
 rintro yv h0 h f K J E ⟨l,rfl⟩ o c hQ hY hK;refine iJ (l:=[dm l,ptr b]) rfl (ad9 _ _ ?_);unfold R7;obtain⟨hb,hv⟩:=hQ _ _ _ c o;have hc:hcell h ⟨b,0,none⟩=some vo:=aY hb rfl;refine bC rfl hc (hv.len ?_);refine cg O.length (λi x h'=>x.1=I i/\∃a,J i a/\Own h0 h' a) ⟨rfl,f,c,o⟩ ?_;clear o c hc hb;have g:=hv;rintro i ⟨x,⟨⟩⟩ h Z hi ⟨hx,a,hj,o⟩ hZ;dsimp only at hx hZ ⊢;subst hx;unfold R6;rw[bu,bg];refine⟨λhlt=> ?_,λhge=> ?_⟩
 ·have hlt:i<O.length:=by omega
  obtain⟨_,hv⟩:=hQ _ _ _ hj o;refine hv.dH (e:=λ(x:Nat)=>I x) (λ_=>rfl) hlt ?_;have e:O[i]=O.getD i 0:=by rw[List.getD_eq_getElem?_getD,List.getElem?_eq_getElem hlt];rfl
  rw[e];refine hY i _ (i+1) a [] h _ ⟨hlt,rfl,rfl⟩ hj o.mW (λd h'' hj' o'=> ?_) λd h'' he o'=> ?_
  ·rw[bH,Bool.not_true,aL,bt,wI i (by omega)];exact hZ (_,()) h'' hlt ⟨rfl,d,hj',o'.fm⟩
  ·rw[bH,Bool.not_false,bq];exact hK _ _ (.inr he) o'.fm
 ·have :i=O.length:=by omega
  exact hK _ _ (.inl ⟨i,this,hj⟩) o
theorem G2{vo:Value}{O:List Nat}(o:Own h0 h L)(a:Vw aV 1 h vo O)(hK:∀s h',Own h0 h' (aj s [vo] bR::L)->K (.func (.func tR) #[] #[ptr s]) h'):ah Tryz.prog tN [vo] h K:=by
 refine aK (ac5 _ ?_);unfold Qy;refine o.box λs h1 o1=> ?_;rw[show(Value.cells vo).toList=[vo] by rw[a.one]]at o1;exact hK s h1 o1
end
open Go Go.Mh
theorem Un{v k:Nat}{S:List Nat}(hk:k<=S.length):(fW v S k)[k]? =some v:=by
 unfold fW;rw[List.getElem?_append_right (by rw[List.length_take];omega),List.length_take,show k-min k S.length=0 by omega];rfl
theorem Uo{v k:Nat}{S:List Nat}(hk:k+1<=S.length):(fW v S (k+1))[k]? =some (S.getD k 0):=by
 unfold fW;rw[List.getElem?_append_left (by rw[List.length_take];omega),List.getElem?_take_of_lt (by omega),List.getD_eq_getElem?_getD,List.getElem?_eq_getElem (by omega)];rfl
theorem agk{v k:Nat}{S R:List Nat}(hk:k+1<=S.length):(((fW v S (k+1))++R).set (k+1) (S.getD k 0)).set k v=fW v S k++R:=by
 have e:S.drop k=S.getD k 0::S.drop (k+1):=by
  rw[List.getD_eq_getElem?_getD,List.getElem?_eq_getElem (by omega)];exact List.drop_eq_getElem_cons (by omega)
 have e2:S.take (k+1)=S.take k++ [S.getD k 0]:=by
  rw[List.getD_eq_getElem?_getD,List.getElem?_eq_getElem (by omega)];exact List.take_succ_eq_append_getElem (by omega)
 have hl:(S.take k).length=k:=by rw[List.length_take];omega
 unfold fW;rw[e2,e];generalize S.getD k 0=a;generalize S.take k=T at hl;generalize S.drop (k+1)=D;subst hl;rw[show T++ [a]++v::D++R=T++(a::v::(D++R)) by simp,show T++v::(a::D)++R=T++(v::a::(D++R)) by simp];rw[List.set_append_right _ _ (by omega),show T.length+1-T.length=1 by omega,List.set_append_right _ _ (Nat.le_refl _),Nat.sub_self];rfl
section
variable{h0 h:aa}{L:List aM}{K:KT}{vd cv:Value}{f:Nat->Int}{xs:List Nat}
theorem agl{n q:Nat}(o:Own h0 h L)(hq:L[q]? =some (aA aV 1 au vd xs))(hn:∀x∈xs,x<n)(hl:xs.length<2^40)
  (hC:∀(ys:List Nat)(h':aa)(v w:Nat)(K':KT),v<n->w<n->Own h0 h' (L.set q (aA aV 1 au vd ys))->(∀(z:Int) h'',Own h0 h'' (L.set q (aA aV 1 au vd ys))->(z<0↔eC f w v=true)->K' (I z) h'')->aS Tryz.prog cv [I v,I w].toArray h' K')
  (hK:∀h',Own h0 h' (L.set q (aA aV 1 au vd (gm f xs)))->K (.tuple #[]) h'):ah Tryz.prog tT [vd,I (0:Nat),I xs.length,cv] h K:=by
 refine aK (Tj _ _ _ _ ?_);unfold GH;rw[bt,wI 0 (by decide)];have e0:gm f (xs.take 1)++xs.drop 1=xs:=by
  cases xs with
  |nil=>rfl
  |cons a l=>rfl
 refine cg (xs.length-1) (λi x h'=>x.1=I (i+1:Nat)/\Own h0 h' (L.set q (aA aV 1 au vd (gm f (xs.take (i+1))++xs.drop (i+1))))) ⟨rfl,by rw[e0,qq hq];exact o⟩ ?_;clear o;rintro i ⟨x,⟨⟩⟩ h1 Z hi ⟨hx,o⟩ hZ;dsimp only at hx hZ ⊢;subst hx;unfold GG;rw[bu,bg];refine⟨λhlt=> ?_,λhge=> ?_⟩
 case refine_2=>
  rw[List.take_of_length_le (by omega),List.drop_eq_nil_of_le (by omega),List.append_nil]at o;exact hK h1 o
 have hlt:i+1<xs.length:=by omega
 have d:(gm f (xs.take (i+1))).length=i+1:=by rw[Uc,List.length_take];omega
 have u:xs.drop (i+1)=xs[i+1]::xs.drop (i+2):=List.drop_eq_getElem_cons hlt;have A:xs.take (i+2)=xs.take (i+1)++ [xs[i+1]]:=List.take_succ_eq_append_getElem hlt;have m:xs[i+1]<n:=hn _ (List.getElem_mem hlt);have p:∀x∈gm f (xs.take (i+1)),x<n:=λx hx=>hn x (List.mem_of_mem_take (xF.mem_iff.1 hx));rw[A,afY]at hZ;rw[u]at o;generalize gm f (xs.take (i+1))=S at o d p hZ;generalize xs[i+1]=v at o m hZ;generalize xs.drop (i+2)=R at o hZ;have B:jS f v S S.length=jS f v S (i+1):=by rw[d]
 refine pW (λj x h'=>x.1=I j/\j<=i+1/\jS f v S j=jS f v S S.length/\Own h0 h' (L.set q (aA aV 1 au vd (fW v S j++R)))) (k0:=i+1) ⟨rfl,Nat.le_refl _,B.symm,?_⟩ ?_
 ·have :fW v S (i+1)++R=S++v::R:=by
   unfold fW;rw[List.take_of_length_le (by omega),List.drop_eq_nil_of_le (by omega)];simp
  rw[this];exact o
 clear o;rintro j ⟨x,⟨⟩⟩ h2 F ⟨hx,hj,hp,o⟩ r;dsimp only at hx r ⊢;subst hx;unfold GF;have hil:∀k,(fW v S k).length=i+2:=λk=>by rw[afX,d]
 have b:∀{ys:List Nat},(L.set q (aA aV 1 au vd ys))[q]? =some (aA aV 1 au vd ys):=kF hq;have out:∀h',jS f v S S.length=j->Own h0 h' (L.set q (aA aV 1 au vd (fW v S j++R)))->ak .add (I (i+1:Nat)) (.int .i64 1) λt16=>Z (t16,()) h':=λh' C o'=>by
  rw[bt,wI (i+1) (by omega)];refine hZ (_,()) h' (by omega) ⟨rfl,?_⟩;unfold oW;rw[C];exact o'
 refine gh (λy h'=>y.1=.bool (decide (0<j/\eC f (S.getD (j-1) 0) v=true))/\Own h0 h' (L.set q (aA aV 1 au vd (fW v S j++R)))) (λJ hJ=> ?_) ?_
 ·rw[dZ,bg];refine⟨λhpos=> ?_,λhz=>hJ _ _ ⟨by rw[decide_eq_false λh=>hz (by omega)],o⟩⟩;obtain⟨k,rfl⟩:∃k,j=k+1:=⟨j-1,by omega⟩;have g:k<S.length:=by omega
  have l1:k+1<(fW v S (k+1)++R).length:=by rw[List.length_append,hil];omega
  have l0:k<(fW v S (k+1)++R).length:=by omega
  have g1:(fW v S (k+1)++R)[k+1]=v:=by
   have :=Un (v:=v) (S:=S) (k:=k+1) (by omega);rw[List.getElem_append_left (by rw[hil];omega)];rw[List.getElem?_eq_getElem (by rw[hil];omega)]at this;exact Option.some.inj this
  have g0:(fW v S (k+1)++R)[k]=S.getD k 0:=by
   have :=Uo (v:=v) (S:=S) (k:=k) (by omega);rw[List.getElem_append_left (by rw[hil];omega)];rw[List.getElem?_eq_getElem (by rw[hil];omega)]at this;exact Option.some.inj this
  refine(o.vw q b).dH (e:=λ(x:Nat)=>I x) (λ_=>rfl) l1 ?_;rw[g1,eM,bG (by omega) (by omega),show((k+1:Nat):Int)-1=(k:Int) by omega];refine(o.vw q b).dH (e:=λ(x:Nat)=>I x) (λ_=>rfl) l0 ?_;rw[g0];have D:S.getD k 0<n:=by rw[oZ g];exact p _ (List.getElem_mem g)
  refine hC _ _ _ _ _ m D o λz h3 c hz=> ?_;rw[bu];refine hJ _ _ ⟨?_,c⟩;refine congrArg Value.bool ?_;rw[decide_eq_decide,hz];exact⟨λh=>⟨by omega,h⟩,λh=>h.2⟩
 ·rintro⟨y,⟨⟩⟩ h3 ⟨hy,c⟩;dsimp only at hy ⊢;subst hy;clear o;unfold GD;rw[bg];refine⟨λhc=> ?_,λhc=> ?_⟩
  ·obtain⟨k,rfl⟩:∃k,j=k+1:=⟨j-1,by omega⟩;have hgt:eC f (S.getD k 0) v=true:=hc.2;have g:k<S.length:=by omega
   have l1:k+1<(fW v S (k+1)++R).length:=by rw[List.length_append,hil];omega
   have l0:k<(fW v S (k+1)++R).length:=by omega
   have g1:(fW v S (k+1)++R)[k+1]=v:=by
    have :=Un (v:=v) (S:=S) (k:=k+1) (by omega);rw[List.getElem_append_left (by rw[hil];omega)];rw[List.getElem?_eq_getElem (by rw[hil];omega)]at this;exact Option.some.inj this
   have g0:(fW v S (k+1)++R)[k]=S.getD k 0:=by
    have :=Uo (v:=v) (S:=S) (k:=k) (by omega);rw[List.getElem_append_left (by rw[hil];omega)];rw[List.getElem?_eq_getElem (by rw[hil];omega)]at this;exact Option.some.inj this
   rw[eM,bG (by omega) (by omega),show((k+1:Nat):Int)-1=(k:Int) by omega];rw[eM,bG (by omega) (by omega),show((k+1:Nat):Int)-1=(k:Int) by omega];refine(c.vw q b).dH (e:=λ(x:Nat)=>I x) (λ_=>rfl) l0 ?_;refine(c.vw q b).dH (e:=λ(x:Nat)=>I x) (λ_=>rfl) l1 ?_;rw[g0,g1];refine c.setAt (a:=S.getD k 0) q b (λ_=>rfl) (nP _) l1 rfl λh4 s=> ?_;rw[List.set_set]at s;refine s.setAt (a:=v) q b (λ_=>rfl) (nP _) (by rw[List.length_set];exact l0) rfl λh5 t=> ?_;rw[List.set_set,agk (by omega)]at t;rw[eM,bG (by omega) (by omega),show((k+1:Nat):Int)-1=(k:Int) by omega];refine r (_,()) h5 k (by omega) ⟨rfl,by omega,?_,t⟩;rw[<-hp]
   conv=>rhs;unfold jS
   rw[if_pos hgt]
  ·refine out h3 ?_ c;rw[<-hp];cases j with
   |zero=>rfl
   |succ k=>
    unfold jS;have E:¬eC f (S.getD k 0) v=true:=λh=>hc ⟨by omega,h⟩;rw[if_neg E]
end
end Go.Proofs.YthglofkkjoiepaaGreatDoor

namespace Go.Proofs
open Go.Shelf
def Tryz.ags:Go.Shelf.Ren:={f:=fun |6=>279|15=>310|14=>309|28=>330|29=>331|20=>322|21=>323|22=>324|23=>325|24=>326|25=>327|26=>328|27=>329|46=>334|47=>335|48=>336|49=>337|50=>338|57=>340|n=>n,t:=fun |22=>46|24=>3|25=>348|3=>3|39=>246|0=>0|53=>324|55=>353|4=>4|46=>412|45=>411|50=>217|5=>5|9=>9|66=>419|70=>423|76=>425|77=>218|n=>n,g:=λn=>n}
theorem Tryz.agt:SlLaysF.n6 Tryz.prog Tryz.ags where
 mixed:=by kernel_rfl
 f6:=⟨ "slices.SortFunc[[]int,int]",of_decide_eq_true (by kernel_rfl),Tryz.func279.trans (congrArg some (by kernel_rfl))⟩
 f14:=⟨ "slices.pdqsortCmpFunc[int]",of_decide_eq_true (by kernel_rfl),Tryz.func309.trans (congrArg some (by kernel_rfl))⟩
 f15:=Tryz.func310.trans (congrArg some (by kernel_rfl))
 f20:=⟨ "slices.insertionSortCmpFunc[int]",of_decide_eq_true (by kernel_rfl),Tryz.func322.trans (congrArg some (by kernel_rfl))⟩
 f21:=⟨ "slices.heapSortCmpFunc[int]",of_decide_eq_true (by kernel_rfl),Tryz.func323.trans (congrArg some (by kernel_rfl))⟩
 f22:=⟨ "slices.breakPatternsCmpFunc[int]",of_decide_eq_true (by kernel_rfl),Tryz.func324.trans (congrArg some (by kernel_rfl))⟩
 f23:=⟨ "slices.choosePivotCmpFunc[int]",of_decide_eq_true (by kernel_rfl),Tryz.func325.trans (congrArg some (by kernel_rfl))⟩
 f24:=⟨ "slices.reverseRangeCmpFunc[int]",of_decide_eq_true (by kernel_rfl),Tryz.func326.trans (congrArg some (by kernel_rfl))⟩
 f25:=⟨ "slices.partialInsertionSortCmpFunc[int]",of_decide_eq_true (by kernel_rfl),Tryz.func327.trans (congrArg some (by kernel_rfl))⟩
 f26:=⟨ "slices.partitionEqualCmpFunc[int]",of_decide_eq_true (by kernel_rfl),Tryz.func328.trans (congrArg some (by kernel_rfl))⟩
 f27:=⟨ "slices.partitionCmpFunc[int]",of_decide_eq_true (by kernel_rfl),Tryz.func329.trans (congrArg some (by kernel_rfl))⟩
 f28:=Tryz.func330.trans (congrArg some (by kernel_rfl))
 f29:=Tryz.func331.trans (congrArg some (by kernel_rfl))
 f46:=⟨ "slices.siftDownCmpFunc[int]",of_decide_eq_true (by kernel_rfl),Tryz.func334.trans (congrArg some (by kernel_rfl))⟩
 f47:=Tryz.func335.trans (congrArg some (by kernel_rfl))
 f48:=Tryz.func336.trans (congrArg some (by kernel_rfl))
 f49:=⟨ "slices.medianAdjacentCmpFunc[int]",of_decide_eq_true (by kernel_rfl),Tryz.func337.trans (congrArg some (by kernel_rfl))⟩
 f50:=⟨ "slices.medianCmpFunc[int]",of_decide_eq_true (by kernel_rfl),Tryz.func338.trans (congrArg some (by kernel_rfl))⟩
 f57:=⟨ "slices.order2CmpFunc[int]",of_decide_eq_true (by kernel_rfl),Tryz.func340.trans (congrArg some (by kernel_rfl))⟩
 t0:=Tryz.underlying0
 a0:=Tryz.isAgg0
 z0:=Tryz.sizeOf0
 v0:=Tryz.zeroValue0
 t3:=Tryz.underlying3
 a3:=Tryz.isAgg3
 z3:=Tryz.sizeOf3
 v3:=Tryz.zeroValue3
 t4:=Tryz.underlying4
 a4:=Tryz.isAgg4
 z4:=Tryz.sizeOf4
 v4:=Tryz.zeroValue4
 t5:=Tryz.underlying5
 a5:=Tryz.isAgg5
 z5:=Tryz.sizeOf5
 v5:=Tryz.zeroValue5
 t9:=Tryz.underlying9
 a9:=Tryz.isAgg9
 z9:=Tryz.sizeOf9
 v9:=Tryz.zeroValue9
 t22:=Tryz.underlying46
 a22:=Tryz.isAgg46
 z22:=Tryz.sizeOf46
 v22:=Tryz.zeroValue46
 a24:=Tryz.isAgg3
 z24:=Tryz.sizeOf3
 t25:=Tryz.underlying348
 a25:=Tryz.isAgg348
 z25:=Tryz.sizeOf348
 v25:=Tryz.zeroValue348
 t39:=Tryz.underlying246
 a39:=Tryz.isAgg246
 z39:=Tryz.sizeOf246
 v39:=Tryz.zeroValue246
 t45:=Tryz.underlying411
 a45:=Tryz.isAgg411
 z45:=Tryz.sizeOf411
 v45:=Tryz.zeroValue411
 t46:=Tryz.underlying412
 a46:=Tryz.isAgg412
 z46:=Tryz.sizeOf412
 v46:=Tryz.zeroValue412
 t50:=Tryz.underlying217
 a50:=Tryz.isAgg217
 z50:=Tryz.sizeOf217
 v50:=Tryz.zeroValue217
 t53:=Tryz.underlying324
 a53:=Tryz.isAgg324
 z53:=Tryz.sizeOf324
 v53:=Tryz.zeroValue324
 t55:=Tryz.underlying353
 a55:=Tryz.isAgg353
 z55:=Tryz.sizeOf353
 v55:=Tryz.zeroValue353
 t66:=Tryz.underlying419
 a66:=Tryz.isAgg419
 z66:=Tryz.sizeOf419
 v66:=Tryz.zeroValue419
 t70:=Tryz.underlying423
 a70:=Tryz.isAgg423
 z70:=Tryz.sizeOf423
 v70:=Tryz.zeroValue423
 t76:=Tryz.underlying425
 a76:=Tryz.isAgg425
 z76:=Tryz.sizeOf425
 v76:=Tryz.zeroValue425
 t77:=Tryz.underlying218
 a77:=Tryz.isAgg218
 z77:=Tryz.sizeOf218
 v77:=Tryz.zeroValue218
end Go.Proofs
namespace Go.Proofs.YthglofkkjoiepaaGreatDoor
open Go Go.Mh
theorem Uu{le:Nat->Nat->Prop}(anti:∀a b,le a b->le b a->a=b):∀{l1 l2:List Nat},l1.Perm l2->l1.Pairwise le->l2.Pairwise le->l1=l2
 | [],l2,h,_,_=>(List.Perm.nil_eq h)
 |a::r,[],h,_,_=>absurd h.length_eq (by simp)
 | a::r,b::s,h,p1,p2=>by
  have hab:a=b:=by
   have h1:a∈b::s:=h.mem_iff.1 (List.mem_cons_self ..);have h2:b∈a::r:=h.mem_iff.2 (List.mem_cons_self ..);rcases List.mem_cons.1 h1 with e|h1
   ·exact e
   ·rcases List.mem_cons.1 h2 with e|h2
    ·exact e.symm
    ·exact anti _ _ ((List.pairwise_cons.1 p1).1 _ h2) ((List.pairwise_cons.1 p2).1 _ h1)
  subst hab;rw[Uu anti (List.Perm.cons_inv h) (List.pairwise_cons.1 p1).2 (List.pairwise_cons.1 p2).2]
theorem agu{h:aa}{b:Nat}{c c':Array Value}{T:TypeId}{fr:Nat×Nat}{f:Array Value->Array Value}(hb:h[b]? =some (.cells c T fr))(hf:f c=c'):
  h.modify b (Go.Sort.onCells f)=bn h b (.cells c' T fr):=by
 apply Array.ext_getElem?;intro k;have hlt:=dN hb;rw[Array.getElem?_modify];unfold bn;by_cases hk:b=k
 ·subst hk;rw[if_pos rfl,hb,Array.getElem?_setIfInBounds_self_of_lt hlt];show some (Obj.cells (f c) T fr)=_;rw[hf]
 ·rw[if_neg hk,Array.getElem?_setIfInBounds_ne hk]
section
variable{h0 h:aa}{L:List aM}{K:KT}{vd:Value}{f:Nat->Int}{xs:List Nat}
def n5(n:Nat)(v:{v:Nat//v<n}):Value:=I v.1
theorem G5{l:List Nat}:Mh.row aV l=l.map λ(v:Nat)=>I v:=by
 unfold Mh.row aV
 induction l with
 |nil=>rfl
 |cons a l ih=>rw[List.flatMap_cons,ih];rfl
theorem agv{n:Nat}[Inhabited {v:Nat//v<n}]{dk:Array {v:Nat//v<n}}{xs:List Nat}{rest:List Value}(hs:dk.size=xs.length):
  Go.Sort.putCells (n5 n) 0 dk (Mh.row aV xs++rest).toArray=(Mh.row aV (dk.toList.map Subtype.val)++rest).toArray:=by
 apply Array.ext_getElem?;intro k;rw[G5,G5];simp only[Go.Sort.putCells,Array.getElem?_mapIdx,List.getElem?_toArray,Nat.zero_le,true_and,Nat.zero_add,Nat.sub_zero];have hA:(xs.map λ(v:Nat)=>I v).length=xs.length:=List.length_map ..;have hB:((dk.toList.map Subtype.val).map λ(v:Nat)=>I v).length=xs.length:=by rw[List.length_map,List.length_map];exact hs
 by_cases hk:k<dk.size
 ·rw[List.getElem?_append_left (by omega),List.getElem?_append_left (by omega)];rw[List.getElem?_map,List.getElem?_eq_getElem (show k<xs.length by omega)];simp only[Option.map_some,if_pos hk];rw[List.getElem?_map,List.getElem?_map,Array.getElem?_toList,Array.getElem?_eq_getElem hk];simp only[Option.map_some,n5];rw[getElem!_pos dk k hk]
 ·rw[List.getElem?_append_right (by omega),List.getElem?_append_right (by omega),hA,hB];cases hr:rest[k-xs.length]? with
  |none=>rfl
  |some v=>simp only[Option.map_some,if_neg hk]
theorem Uv{n q:Nat}[Inhabited {v:Nat//v<n}](o:Own h0 h L)(hq:L[q]? =some (aA aV 1 au vd xs)){bl cap:Nat}{rest:List Value}(hv:vd=.slice (some ⟨bl,0,none⟩) xs.length cap)(hb:h[bl]? =some (.cells (Mh.row aV xs++rest).toArray au (0,0)))
  (hr:rest.length=(cap-xs.length)*1) (hc:xs.length<=cap) (w:World) (hw:w.heap=h) (m:Nat) (dk:Array {v:Nat//v<n}) (os:Array Obj) (hs:dk.size=xs.length):
  Own h0 (Go.Proofs.sortWorld (n5 n) w bl 0 m dk os).heap (L.set q (aA aV 1 au vd (dk.toList.map Subtype.val))):=by
 subst hw;have e:(Go.Proofs.sortWorld (n5 n) w bl 0 m dk os).heap=bn w.heap bl (.cells (Mh.row aV (dk.toList.map Subtype.val)++rest).toArray au (0,0))++os:=by
  show w.heap.modify bl (Go.Sort.onCells (Go.Sort.putCells (n5 n) 0 dk))++os=_;rw[agu hb (agv hs)]
 rw[e];have hlt:=dN hb;have hlen:(dk.toList.map Subtype.val).length=xs.length:=by rw[List.length_map];exact hs
 have o2:Own h0 (bn w.heap bl (.cells (Mh.row aV (dk.toList.map Subtype.val)++rest).toArray au (0,0))) (L.set q (aA aV 1 au vd (dk.toList.map Subtype.val))):=by
  subst hv;refine o.set q hq (r':=aA aV 1 au _ (dk.toList.map Subtype.val)) (bB.bn (S:=(aA aV 1 au _ xs).F) _ _ rfl) ⟨bl,.inr ⟨cap,rest,?_,gN hlt,?_,?_⟩⟩ λd hd=>⟨.inl hd,?_⟩
  ·rw[hlen]
  ·rw[hlen];exact hr
  ·rw[hlen];exact hc
  ·rw[gx];exact(show d=bl from hd)▸hlt
 refine o2.more ⟨by simp,λb hb' _=> ?_⟩;rw[Array.getElem?_append_left hb']
theorem grown_of{P:Program}{g:FuncId}{args:Array Value}{W:World}{z:Int}(hc:aE P g args W.heap λv h''=>v=I z/\Ext W.heap h''):
  Calls P g args W λe w'=>e=.returned (.int .i64 z)/\∃q os',w'=Go.Sort.grow (W.drewN q) os':=by
 refine callsIn_wide.1 ((hc.2 _ rfl).mono ?_);rintro e w' ⟨v,rfl,a,rfl,hx⟩;refine⟨rfl,w'.drawn-W.drawn,w'.heap.extract W.heap.size w'.heap.size,?_⟩;have b:=a.drawn;have h1:=a.os;have h2:=a.output;have h3:=a.tape;have hsz:=hx.size;have eh:w'.heap=W.heap++w'.heap.extract W.heap.size w'.heap.size:=by
  apply Array.ext_getElem?;intro k;by_cases hk:k<W.heap.size
  ·rw[Array.getElem?_append_left hk];exact hx.same k hk (λh=>h)
  ·rw[Array.getElem?_append_right (by omega),Array.getElem?_extract];by_cases hk2:k<w'.heap.size
   ·rw[if_pos (by omega)];congr 1;omega
   ·rw[if_neg (by omega)];exact Array.getElem?_eq_none (by omega)
 have e2:w'={W with heap:=w'.heap,drawn:=w'.drawn}:=by
  cases w';cases W;simp only at h1 h2 h3;subst h1 h2 h3;rfl
 rw[e2];show _=({W with drawn:=W.drawn+_,heap:=W.heap++_}:World);rw[<-eh];congr 1;show w'.drawn=W.drawn+(w'.drawn-W.drawn);omega
theorem agw{n q c:Nat}{cb:Array Value}{cf:Nat->Nat->Int}(o:Own h0 h L)(hq:L[q]? =some (aA aV 1 au vd xs))(hn:∀x∈xs,x<n)(hne:xs≠ [])(hl:xs.length<2^40)
  (p:∀v w,v<n->w<n->(cf v w<0↔eC f w v=true))
  (hC:∀(ys:List Nat)(h':aa)(v w:Nat)(K':KT),v<n->w<n->Own h0 h' (L.set q (aA aV 1 au vd ys))->(∀h'',Ext h' h''->K' (I (cf v w)) h'')->aS Tryz.prog (.func (.func c) #[] cb) [I v,I w].toArray h' K')
  (hK:∀h',Own h0 h' (L.set q (aA aV 1 au vd (gm f xs)))->K (.tuple #[]) h'):ah Tryz.prog tS [vd,.func (.func c) #[] cb] h K:=by
 obtain⟨x0,hx0⟩:∃x,x∈xs:=List.exists_mem_of_ne_nil xs hne;have inst:Inhabited {v:Nat//v<n}:=⟨⟨x0,hn x0 hx0⟩⟩;refine aK ⟨by kernel_rfl,λw hw=> ?_⟩;obtain⟨bl,H⟩:=o.get q hq;rcases H with ⟨_,e⟩|⟨cap,rest,hv,hb,hr,hc⟩
 ·exact absurd e hne
 have g:∀v w:{v:Nat//v<n},cf v.1 w.1<0↔eC f w.1 v.1=true:=λv w=>p _ _ v.2 w.2;generalize hd:(xs.pmap (λx h=>(⟨x,h⟩:{v:Nat//v<n})) hn).toArray=d;have hds:d.size=xs.length:=by rw[<-hd];simp
 have k:d.toList.map Subtype.val=xs:=by rw[<-hd];simp[List.map_pmap]
 have l:∀(ys:List Nat)(h':aa)(v w:Nat),v<n->w<n->Own h0 h' (L.set q (aA aV 1 au vd ys))->aE Tryz.prog c (#[I v,I w]++cb) h' λz h''=>z=I (cf v w)/\Ext h' h'':=by
  intro ys h' v w hv hw o';have :=hC ys h' v w (λz h''=>z=I (cf v w)/\Ext h' h'') hv hw o' λh'' x=>⟨rfl,x⟩;have e:(#[]++ [I (v:Int),I (w:Int)].toArray++cb:Array Value)= #[I v,I w]++cb:=by simp
  have this:aE Tryz.prog c (#[]++ [I (v:Int),I (w:Int)].toArray++cb) h' λz h''=>z=I (cf v w)/\Ext h' h'':=this;rwa[e]at this
 have start:Own h0 h (L.set q (aA aV 1 au vd xs)):=by
  have :L.set q (aA aV 1 au vd xs)=L:=by
   apply List.ext_getElem?;intro i;by_cases e:q=i
   ·subst e;rw[List.getElem?_set_self (List.getElem?_eq_some_iff.1 hq).1,hq]
   ·rw[List.getElem?_set_ne e]
  rw[this];exact o
 have r:iS Tryz.prog c=true:=(l xs h x0 x0 (hn x0 hx0) (hn x0 hx0) start).1;have hit:=Any.slices_SortFunc (P:=Tryz.prog) Tryz.agt (n5 n) (λ_=>rfl) (λv w=>cf v.1 w.1) ⟨λx=> ?_,λx y z h1 h2=> ?_,λx y z h1 h2=> ?_⟩ c cb bl 0 cap d w (λargs w=>Us r args w) (λm os dk hs x y=> ?_) (λj hj=> ?_) (by rw[hw];exact dN hb) (by omega)
 ·have e1:[vd,Value.func (.func c) #[] cb].toArray= #[.slice (some ⟨bl,0,none⟩) d.size cap,.func (.func c) #[] cb]:=by rw[hv,hds]
  rw[e1];have s:CallsIn Fence.wide 0 Tryz.prog tS #[.slice (some ⟨bl,0,none⟩) d.size cap,.func (.func c) #[] cb] w λe w'=>e=.returned (.tuple #[])/\∃d' m os,Go.Sort.PermIn 0 d.size d d'/\Go.Sort.SortedIn (ltOf λ(v w:{v:Nat//v<n})=>cf v.1 w.1) 0 d.size d'/\w'=sortWorld (n5 n) w bl 0 m d' os:=callsIn_wide.2 hit;refine s.mono λe w'⟨he,d',m,os,hp,hs,hw'⟩=> ?_
  ·subst hw';refine⟨_,he,⟨rfl,rfl,rfl,Nat.le_add_right _ _⟩,hK _ ?_⟩;have hs':d'.size=xs.length:=hp.1.trans hds;have :=Uv o hq hv hb hr hc w hw m d' os hs';have e2:d'.toList.map Subtype.val=gm f xs:=by
    refine Uu (le:=λa b=>eC f a b=false) (λa b h1 h2=> ?_) (List.Perm.trans (?_:(d'.toList.map Subtype.val).Perm xs) xF.symm) ?_ af2
    ·unfold eC at h1 h2;rw[decide_eq_false_iff_not]at h1 h2;omega
    ·have :=hp.2.2;have x1:(d'.extract 0 d.size).toList=d'.toList:=by rw[<-hp.1];simp
     have t:(d.extract 0 d.size).toList=d.toList:=by simp
     rw[x1,t]at this;have :=this.map Subtype.val;rwa[k]at this
    ·rw[List.pairwise_iff_getElem];intro i j hi hj hij;have hi':i<d'.size:=by simpa using hi
     have hj':j<d'.size:=by simpa using hj
     have h3:=hs i j (Nat.zero_le _) hij (by omega);unfold ltOf at h3;rw[decide_eq_false_iff_not,g,getElem!_pos d' i hi',getElem!_pos d' j hj']at h3;simpa using h3
   rw[e2]at this;exact this
 ·unfold ltOf;rw[decide_eq_false_iff_not,g];unfold eC;simp
 ·unfold ltOf at h1 h2 ⊢;rw[decide_eq_true_eq,g]at h1 h2 ⊢;unfold eC at h1 h2 ⊢;rw[decide_eq_true_eq]at h1 h2 ⊢;omega
 ·unfold ltOf at h1 h2 ⊢;rw[decide_eq_false_iff_not,g]at h1 h2 ⊢;unfold eC at h1 h2 ⊢;rw[decide_eq_true_eq]at h1 h2 ⊢;omega
 ·have o2:=Uv o hq hv hb hr hc w hw m dk os (hs.trans hds);have :=l _ _ x.1 y.1 x.2 y.2 o2;clear o2;show Calls Tryz.prog c (#[I (x.1:Int),I (y.1:Int)]++cb) _ _;generalize sortWorld (n5 n) w bl 0 m dk os=W at this ⊢;exact grown_of this
 ·have hj':j<xs.length:=by omega
  have hrow:(Mh.row aV xs++rest)[j]? =some (I ((xs[j]:Nat):Int)):=by
   rw[G5,List.getElem?_append_left (by simpa using hj'),List.getElem?_map,List.getElem?_eq_getElem hj'];rfl
  have hdj:(d[j]!).1=xs[j]:=by
   rw[getElem!_pos d j hj];have :(d.toList.map Subtype.val)[j]? =some xs[j]:=by rw[k,List.getElem?_eq_getElem hj']
   simpa[hj]using this
  refine⟨?_,?_⟩
  ·show hcell w.heap ⟨bl,0+j,none⟩=some (n5 n d[j]!);unfold hcell;rw[hw];simp only[hb,Nat.zero_add,List.getElem?_toArray,hrow];unfold n5;rw[hdj];rfl
  ·show oh w.heap ⟨bl,0+j,none⟩=false;unfold oh;rw[hw];simp only[hb];simp
end
end Go.Proofs.YthglofkkjoiepaaGreatDoor



set_option maxRecDepth 100000
namespace Go.Proofs.YthglofkkjoiepaaGreatDoor
open Go Go.Mh
section
variable{h0 h:aa}{L:List aM}{K:KT}{g:G}{vd cv:Value}{f:Nat->Int}{xs:List Nat}
theorem agC{s:ByteArray}{i:Nat}{k:IntKind}{K:Value->Prop}(hi:i<s.size)(hK:∀b:Int,K (.int .u8 b)):qI (.string s) (.int k i) K:=by
 refine⟨by omega,?_⟩;rw[Int.toNat_natCast,getElem?_pos s i hi];exact hK _
theorem agD{n:Nat}(hn:n<256)(hK:∀z:Int,K (I z) h):ah Tryz.prog Fx [.int .u64 n] h K:=by
 refine aK (aeI _ ?_);unfold SX;refine aK (aeU _ ?_);unfold Tk GL GK GJ;rw[c8,decide_eq_false (by omega),aL,c8,decide_eq_false (by omega),aL,c8,decide_eq_false (by omega),aL];rw[me,show IntKind.u8.wrap (n:Int)=(n:Int)from C0 (show(0:Int)<=n by omega) (show(n:Int)<=255 by omega)];refine agC ?_ λb=> ?_
 ·refine Nat.lt_of_lt_of_eq hn (Eq.symm ?_)
  kernel_rfl
 ·rw[me,bt];exact hK _
theorem agE{n q:Nat}{lim:Value}(o:Own h0 h L)(hq:L[q]? =some (aA aV 1 au vd xs))(hn:∀x∈xs,x<n)(hl:xs.length<=12)
  (hC:∀(ys:List Nat)(h':aa)(v w:Nat)(K':KT),v<n->w<n->Own h0 h' (L.set q (aA aV 1 au vd ys))->(∀(z:Int) h'',Own h0 h'' (L.set q (aA aV 1 au vd ys))->(z<0↔eC f w v=true)->K' (I z) h'')->aS Tryz.prog cv [I v,I w].toArray h' K')
  (hK:∀h',Own h0 h' (L.set q (aA aV 1 au vd (gm f xs)))->K (.tuple #[]) h'):ah Tryz.prog wT [vd,I (0:Nat),I xs.length,lim,cv] h K:=by
 refine aK (aeH _ _ _ _ _ ?_);unfold SV;refine cg 0 (λ_ x h'=>x.1=I (0:Nat)/\x.2.1=I xs.length/\h'=h) ⟨rfl,rfl,rfl⟩ ?_;rintro i ⟨x,y,z,b1,b2,⟨⟩⟩ h' Z hi ⟨hx,hy,rfl⟩ hZ;dsimp only at hx hy ⊢;subst hx hy;unfold SU;rw[eM,bG (by omega) (by omega),mS,decide_eq_true (by omega),bq];exact agl o hq hn (by omega) hC hK
theorem agF{n q:Nat}(o:Own h0 h L)(hq:L[q]? =some (aA aV 1 au vd xs))(hn:∀x∈xs,x<n)(hl:xs.length<=12)
  (hC:∀(ys:List Nat)(h':aa)(v w:Nat)(K':KT),v<n->w<n->Own h0 h' (L.set q (aA aV 1 au vd ys))->(∀(z:Int) h'',Own h0 h'' (L.set q (aA aV 1 au vd ys))->(z<0↔eC f w v=true)->K' (I z) h'')->aS Tryz.prog cv [I v,I w].toArray h' K')
  (hK:∀h',Own h0 h' (L.set q (aA aV 1 au vd (gm f xs)))->K (.tuple #[]) h'):ah Tryz.prog tS [vd,cv] h K:=by
 refine aK (aef _ _ ?_);unfold Sg;refine(o.vw q hq).len ?_;rw[me,GN (by omega) (by omega)];refine agD (by omega) λz=> ?_;exact agE o hq hn hl hC hK
theorem agG{n q a:Nat}{cb:Array Value}{cf:Nat->Nat->Int}(o:Own h0 h L)(hq:L[q]? =some (aA aV 1 au vd xs))(hn:∀x∈xs,x<n)(hl:xs.length<2^40)
  (b:∀v w,v<n->w<n->(cf v w<0↔eC f w v=true))
  (hC:∀(ys:List Nat)(h':aa)(v w:Nat)(K':KT),v<n->w<n->Own h0 h' (L.set q (aA aV 1 au vd ys))->(∀h'',Ext h' h''->K' (I (cf v w)) h'')->aS Tryz.prog (.func (.func a) #[] cb) [I v,I w].toArray h' K')
  (hK:∀h',Own h0 h' (L.set q (aA aV 1 au vd (gm f xs)))->K (.tuple #[]) h'):ah Tryz.prog tS [vd,.func (.func a) #[] cb] h K:=by
 by_cases h12:xs.length<=12
 ·exact agF o hq hn h12 (λys h' v w K' hv hw o' hk=>hC ys h' v w K' hv hw o' λh'' x=>hk _ h'' (o'.more x) (b v w hv hw)) hK
 ·exact agw o hq hn (λe=>by rw[e]at h12;exact h12 (Nat.zero_le _)) hl b hC hK
theorem agH{s:Nat}{vo:Value}{l:List Nat}(o:Own h0 h L)(i:Nat)(hi:L[i]? =some (aj s [vo] bR))(hv:∀h',Own h0 h' L->Vw aV 1 h' vo l)(hl:l.length<2^40)
  (hK:∀w h',Own h0 h' (aA aV 1 au w l::L)->K w h'):ah Tryz.prog qa [.func (.func tR) #[] #[ptr s]] h K:=by
 refine aK (FO _ ?_);unfold AF;refine aK (FY _ _ ?_);unfold AP;refine o.box λs2 h1 o1=> ?_;have o2:Own h0 h1 (aA aV 1 au (.slice none 0 0) (l.take 0)::aj s2 [.slice none 0 0] bR::L):=Own.en (enc:=aV) (n:=1) (T:=au) o1;refine o2.range (G1 (O:=l) (vo:=vo) (b:=s) (T:=bR) hl) (by rintro i x i' ⟨_,_,rfl⟩;rfl)
  (λj c=>j<=l.length/\∃w,c=aA aV 1 au w (l.take j)::aj s2 [w] bR::L) (λ_=>False) (λ_ _=>False) ⟨Nat.zero_le _,_,rfl⟩ ?_ ?_ ?_ (λ_ _ h=>h.elim) (λ_ _ _ h=>h.elim)
 ·rintro j c h' ⟨_,w,rfl⟩ o';exact⟨o'.get (i+2) hi,hv _ o'.tail.tail⟩
 ·rintro M j x j' c Pr h' R ⟨e,rfl,rfl⟩ ⟨_,w,rfl⟩ o' hN _ _;dsimp only[fk];unfold AO;refine o'.begin 0 rfl λh4 d=> ?_;have d:Own h0 h4 (b6 _ _::bX _::aA aV 1 au w (l.take j)::aj s2 [w] bR::(L++Pr)):=d;refine d.load 3 rfl rfl ?_;refine d.fF 2 (l.getD j 0) rfl rfl (bW rfl) (λ_=>rfl) nP rfl (by decide) (by rw[List.length_take];omega) λw' h5 k=> ?_;have hw':=k.vw 2 rfl;refine k.bf 3 (cs':=[w']) rfl rfl rfl hw'.one hw'.plain λh6 m=> ?_;refine hN _ h6 ⟨e,w',rfl⟩ ?_;rw[List.take_succ_eq_append_getElem e,<-oZ (a:=0) e];exact m
 ·rintro j h' c rfl ⟨_,w,rfl⟩ o';rw[List.take_length]at o';refine o'.load 2 rfl rfl (o'.iZ 0 rfl λh10 p=>hK w h10 ?_);exact p.tail.front 2 [0] (by decide) (by decide)
theorem agI{n s a:Nat}{cb:Array Value}{cf:Nat->Nat->Int}{vo:Value}{l:List Nat}(o:Own h0 h L)(i:Nat)(hi:L[i]? =some (aj s [vo] bR))(hv:∀h',Own h0 h' L->Vw aV 1 h' vo l)(hl:l.length<2^40)(hn:∀x∈l,x<n)
  (b:∀v w,v<n->w<n->(cf v w<0↔eC f w v=true))
  (hC:∀(R:aM)(h':aa)(v w:Nat)(K':KT),v<n->w<n->Own h0 h' (R::L)->(∀h'',Ext h' h''->K' (I (cf v w)) h'')->aS Tryz.prog (.func (.func a) #[] cb) [I v,I w].toArray h' K')
  (hK:∀w h',Own h0 h' (aA aV 1 au w (gm f l)::L)->K w h'):ah Tryz.prog EK [.func (.func tR) #[] #[ptr s],.func (.func a) #[] cb] h K:=by
 refine aK (adi _ _ ?_);unfold QM;refine agH o i hi hv hl λw h1 o1=> ?_;refine agG (f:=f) (n:=n) (q:=0) o1 rfl hn hl b (λys h' v w' K' hv hw o' hk=>hC _ h' v w' K' hv hw o' hk) λh2 o2=> ?_;exact hK w h2 o2
def lM(a b:Int):Int:=if a<b then -1 else if b<a then 1 else 0
theorem Uw{a b:Int}(hK:K (I (lM a b)) h):ah Tryz.prog tO [I a,I b] h K:=by
 refine aK (QT _ _ ?_);unfold QS;refine aK (Gv _ ?_);unfold A9;rw[fE,bne_self_eq_false];refine aK (Gv _ ?_);unfold A9;rw[fE,bne_self_eq_false];dsimp only;rw[aL,aL];unfold lM at hK;rw[bu,bg];refine⟨λc=>by rw[if_pos c]at hK;exact hK,λc=> ?_⟩;rw[if_neg c]at hK;rw[dZ,bg];exact⟨λc=>by rw[if_pos c]at hK;exact hK,λc=>by rw[if_neg c]at hK;exact hK⟩
theorem agJ{a b:Int}(hK:K (I (lM a b)) h):ah Tryz.prog wM [I a,I b] h K:=by
 refine aK (QV _ _ ?_);unfold QU;refine aK (Gw _ ?_);unfold Ba;rw[fE,bne_self_eq_false];refine aK (Gw _ ?_);unfold Ba;rw[fE,bne_self_eq_false];dsimp only;rw[aL,aL];unfold lM at hK;rw[bu,bg];refine⟨λc=>by rw[if_pos c]at hK;exact hK,λc=> ?_⟩;rw[if_neg c]at hK;rw[dZ,bg];exact⟨λc=>by rw[if_pos c]at hK;exact hK,λc=>by rw[if_neg c]at hK;exact hK⟩
theorem agK{a b:Int}{vs:Value}(c:Vw aG 1 h vs [a,b])(hK:K (I (if a≠0 then a else b)) h):ah Tryz.prog wL [vs] h K:=by
 refine aK (QO _ ?_);unfold Gn;refine c.len ?_;refine cg 2 (λi x h'=>x.1=I i/\h'=h/\(1<=i->a=0)/\(2<=i->b=0)) ⟨rfl,rfl,λh=>by omega,λh=>by omega⟩ ?_;rintro i ⟨x,⟨⟩⟩ h' Z hi ⟨hx,rfl,h1,h2⟩ hZ;dsimp only at hx hZ ⊢;subst hx;unfold Gm;rw[bu,bg];have d:([a,b]:List Int).length=2:=rfl;refine⟨λhlt=> ?_,λhge=> ?_⟩
 ·rcases(show i=0\/i=1 by omega)with rfl|rfl
  ·refine c.cV (i:=0) (Nat.zero_lt_succ _) ?_;show ak .neq (I a) _ _;rw[fE];by_cases ha:a=0
   ·rw[show(a != 0)=false by simpa using ha,aL,bt,wI 0 (by decide)];exact hZ (_,()) _ (by decide) ⟨rfl,rfl,λ_=>ha,λh=>by omega⟩
   ·rw[show(a != 0)=true by simpa using ha,bq];rw[if_pos ha]at hK;exact hK
  ·refine c.cV (i:=1) (Nat.lt_succ_self 1) ?_;show ak .neq (I b) _ _;rw[fE];have ha:=h1 (Nat.le_refl _);rw[if_neg (λh=>h ha)]at hK;by_cases hb:b=0
   ·rw[show(b != 0)=false by simpa using hb,aL,bt,wI 1 (by decide)];exact hZ (_,()) _ (by decide) ⟨rfl,rfl,λ_=>ha,λ_=>hb⟩
   ·rw[show(b != 0)=true by simpa using hb,bq];exact hK
 ·have ha:=h1 (by omega);have hb:=h2 (by omega);rw[if_neg (λh=>h ha),hb]at hK;exact hK
theorem agL{x y:Int}{v w:Nat}:(if lM x y≠0 then lM x y else lM (v:Int) (w:Int))<0↔x<y\/(y=x/\v<w):=by
 unfold lM;rcases Int.lt_trichotomy x y with h|h|h
 ·rw[if_pos h,if_pos (by decide)];exact⟨λ_=>.inl h,λ_=>by decide⟩
 ·subst h;rw[if_neg (Int.lt_irrefl _),if_neg (Int.lt_irrefl _),if_neg (λh=>h rfl)];split
  ·exact⟨λ_=>.inr ⟨rfl,by omega⟩,λ_=>by decide⟩
  ·split
   ·exact⟨λh=>absurd h (by decide),λh=>by omega⟩
   ·exact⟨λh=>absurd h (by decide),λh=>by omega⟩
 ·have hn:¬x<y:=by omega
  rw[if_neg hn,if_pos h,if_pos (by decide)];exact⟨λh=>absurd h (by decide),λh=>by omega⟩
def BC(g:G)(d v w:Nat):Int:=if lM (eL g d v) (eL g d w)≠0 then lM (eL g d v) (eL g d w)else lM v w
theorem agM{d v w:Nat}:BC g d v w<0↔eC (eL g d) w v=true:=by
 unfold eC BC;rw[decide_eq_true_eq];exact agL
theorem agN{p p2 tl vb r d v w:Nat}{pc:List Value}(o:Own h0 h L)(a i j k:Nat)(ha:L[a]? =some (aj vb [xH p2 tl] kK))(hi:L[i]? =some (aj tl [eD d] wZ))(hj:L[j]? =some (aj p2 [ptr p] lF))(hk:L[k]? =some (aj p (ptr r::pc) ni))
  (hR:g.Right) (hN:bJ h r g) (hd:d<4) (hv:v<g.n) (hw:w<g.n) (hK:∀h',Ext h h'->K (I (BC g d v w)) h'):aS Tryz.prog (.func (.func EL) #[] #[ptr vb]) [I v,I w].toArray h K:=by
 refine bU (l:=[I v,I w,ptr vb]) rfl (adj _ _ _ ?_);unfold QN;refine o.load a ha rfl (o.load a ha rfl ?_);refine G0 o i j k hi hj hk hR hN hd hv ⟨o.load a ha rfl rfl,?_⟩;refine G0 o i j k hi hj hk hR hN hd hw ?_;refine Uw (agJ ?_);refine(Own.start h).build (enc:=aG) (n:=1) [lM (eL g d v) (eL g d w),lM v w] rfl (bW rfl) rfl λvs h1 o1=> ?_;refine agK (o1.vw 0 rfl) ?_;exact hK h1 o1.ext
end
open Go Go.Mh
theorem Ux{a b:Nat}:((a:Int)).tdiv (b:Int)=((a/b:Nat):Int):=rfl
theorem agO{c:Int}{l:List Nat}{v:Nat}{out:List Int}:jA c (l++ [v]) out=(jA c l out).set v c:=by simp[jA]
section
variable{g:G}{r:Nat}
theorem G7{N:aM}(hR:g.Right)(hN:rP N r g):∀{k c nx p q nq:Nat}{h0 h:aa}{L:List aM}{K:KT}{vl vc vp:Value}{l ys:List Nat}{out:List Int},
  Own h0 h (aj p [ptr r,vc,I nx] ni::aA aG 1 au vc out::L)->L[nq]? =some N->L[q]? =some (aA aV 1 au vp ys)->(∀h',Vw aV 1 h' vp ys->Vw aV 1 h' vl l)->
  (∀x∈l,x<g.n)->l.length<=16777216->out.length=g.n->1<=c->c<=k->c<=256->nx+c<=2^40->
  (∀h',Own h0 h' (aj p [ptr r,vc,I (nx+c:Nat)] ni::aA aG 1 au vc (jg (gT g k c l) nx out)::L)->K (.tuple #[]) h')->ah Tryz.prog wz [ptr p,vl,I c] h K
 |0,c,nx,p,q,nq,h0,h,L,K,vl,vc,vp,l,ys,out,o,y,hq,hsub,z,hl,C,hc1,P,hc,Q,hK=>by omega
 | k+1,c,nx,p,q,nq,h0,h,L,K,vl,vc,vp,l,ys,out,o,y,hq,hsub,z,hl,C,hc1,P,hc,Q,hK=>by
  refine aK (abY _ _ _ ?_);unfold Ox;refine o.box λp3 h1 o1=> ?_;have o1:Own h0 h1 (aj p3 [ptr p] lF::aj p [ptr r,vc,I nx] ni::aA aG 1 au vc out::L):=o1;rw[cF,iW];refine⟨λe=> ?_,λe=> ?_⟩
  ·have e1:c=1:=by omega
   subst e1;have u:jg (gT g (k+1) 1 l) nx out=jA nx l out:=by unfold gT;rw[if_pos rfl];rfl
   rw[u]at hK;refine(hsub _ (o1.vw (q+3) hq)).len ?_;refine cg l.length (λi x h'=>x.1=I i/\Own h0 h' (aj p3 [ptr p] lF::aj p [ptr r,vc,I nx] ni::aA aG 1 au vc (jA nx (l.take i) out)::L)) ⟨rfl,o1⟩ ?_;clear o1 o;rintro i ⟨x,⟨⟩⟩ h2 Z hi ⟨hx,o⟩ hZ;dsimp only at hx hZ ⊢;subst hx;unfold Ow;rw[bu,bg];refine⟨λhlt=> ?_,λhge=> ?_⟩
   ·have hlt:i<l.length:=by omega
    refine(hsub _ (o.vw (q+3) hq)).dH (e:=λ(x:Nat)=>I x) (λ_=>rfl) hlt ?_;refine o.load 0 rfl rfl ?_;simp only[bz,aQ];refine o.load 1 rfl rfl (o.load 0 rfl rfl ?_);simp only[bz,aQ];refine o.load 1 rfl rfl ?_;refine o.iu 2 rfl (by rw[uv,C];exact z _ (List.getElem_mem hlt)) λh3 t=> ?_;rw[bt,wI i (by omega)];refine hZ (_,()) h3 hlt ⟨rfl,?_⟩;rw[List.take_succ_eq_append_getElem hlt,agO];exact t
   ·have :i=l.length:=by omega
    subst this;rw[List.take_length]at o;refine adf (ptr p3) ?_;unfold QH;refine o.load 0 rfl rfl ?_;simp only[bz,aQ];refine o.load 1 rfl rfl ?_;rw[bt,wI nx (by omega)];refine o.bf 1 (cs':=[ptr r,vc,I (nx+1:Nat)]) rfl rfl rfl rfl rfl λh3 t=> ?_;exact hK h3 t.tail
  ·have S:2<=c:=by omega
   obtain⟨hd,_,_⟩:=@af8 g l;have u:gT g (k+1) c l=gT g k (c/2) ((gm (eL g (mD g l).1) l).take (l.length*(c/2)/c))++gT g k (c-c/2) ((gm (eL g (mD g l).1) l).drop (l.length*(c/2)/c)):=by
    conv=>lhs;unfold gT
    rw[if_neg (by omega)]
   refine o1.load 0 rfl rfl ?_;refine agf o1 1 rfl hR (λh' x=>hN _ ((o1.more x).get (nq+3) y)) (hsub _ (o1.vw (q+3) hq)) (by omega) z λh2 o2 _=> ?_;clear o1 o;simp only[b9,bZ];refine o2.load 0 rfl rfl ?_;refine Uk o2 hd λp2 tl h3 t _=> ?_;generalize (mD g l).1=d at hd u t;refine t.box λvb h4 J=>J.bf 0 (cs':=[xH p2 tl]) rfl rfl rfl rfl rfl λh5 A=> ?_;have A:Own h0 h5 (aj vb [xH p2 tl] kK::aj tl [eD d] wZ::aj p2 [ptr p] lF::aj p3 [ptr p] lF::aj p [ptr r,vc,I nx] ni::aA aG 1 au vc out::L):=A;clear J t o2;refine G2 A (hsub _ (A.vw (q+6) hq)) λs h6 M=> ?_;refine agI (f:=eL g d) (n:=g.n) (cf:=BC g d) M 0 rfl (λh' o'=>hsub _ (o'.vw (q+7) hq)) (by omega) z (λv w _ _=>agM) (λR h' v w K' hv hw o' hk=>agN o' 2 3 4 6 rfl rfl rfl rfl hR (hN _ (o'.get (nq+8) y)) hd hv hw hk) λw h7 D=> ?_;have ol:(gm (eL g d) l).length=l.length:=Uc;have E:∀x∈gm (eL g d) l,x<g.n:=λx hx=>z x (xF.mem_iff.1 hx);have hh:=af3 (m:=l.length) S;generalize gm (eL g d) l=O at D ol E u;have B:Own h0 h7 (aj p [ptr r,vc,I nx] ni::aA aG 1 au vc out::aA aV 1 au w O::aj p3 [ptr p] lF::L):=D.front 8 [6,7,0,5] (by decide) (by decide);clear D M A;refine(B.vw 2 rfl).len ?_;rw[ol];have q2:((c:Int)).tdiv 2=((c/2:Nat):Int):=Ux (b:=2);have hmul:l.length*(c/2)<=16777216*128:=Nat.mul_le_mul hl (by omega);rw[mR];refine⟨by decide,?_⟩;rw[q2,bG (by omega) (by omega),jr,show((l.length:Int)*((c/2:Nat):Int))=((l.length*(c/2):Nat):Int) by simp,bG (by omega) (by omega),mR];refine⟨by omega,?_⟩;rw[Ux];generalize l.length*(c/2)/c=H at hh u ⊢;rw[bG (by omega) (by omega)];refine B.load 3 rfl rfl ?_;refine(B.vw 2 rfl).G6 (a:=0) (j:=H) rm rfl rfl (by omega) (by omega) λw1 hw1=> ?_;rw[mR];refine⟨by decide,?_⟩;rw[q2,bG (by omega) (by omega)];rw[u,Ud,By (by omega) (by omega)]at hK;refine G7 hR hN (k:=k) (c:=c/2) (q:=0) (nq:=nq+2) (L:=aA aV 1 au w O::aj p3 [ptr p] lF::L) (l:=O.take H) B y rfl (λh' H'=>by have :=hw1 h' H';rwa[List.drop_zero,Nat.sub_zero]at this) (λx hx=>E x (List.mem_of_mem_take hx)) (by rw[List.length_take];omega) C (by omega) (by omega) (by omega) (by omega) λh8 F=> ?_;clear B;refine F.load 3 rfl rfl ?_;refine(F.vw 2 rfl).G6 (a:=H) (j:=O.length) rm rfl rfl (by omega) (Nat.le_refl _) λw2 T=> ?_;rw[mR];refine⟨by decide,?_⟩;rw[q2,bG (by omega) (by omega),eM,show(c:Int)-((c/2:Nat):Int)=((c-c/2:Nat):Int) by omega,bG (by omega) (by omega)];refine G7 hR hN (k:=k) (c:=c-c/2) (q:=0) (nq:=nq+2) (L:=aA aV 1 au w O::aj p3 [ptr p] lF::L) (l:=O.drop H) F y rfl (λh' H'=>by have :=T h' H';rwa[List.take_of_length_le (by rw[List.length_drop];exact Nat.le_refl _)]at this) (λx hx=>E x (List.mem_of_mem_drop hx)) (by rw[List.length_drop];omega) (by rw[GY];exact C) (by omega) (by omega) (by omega) (by omega) λh9 U=> ?_;refine hK h9 ?_;rw[show nx+c=nx+c/2+(c-c/2) by omega];exact U.front 4 [0,1] (by decide) (by decide)
variable{h0 h:aa}{L:List aM}{K:KT}{N:aM}{vl:Value}
def G8(g:G)(z:Int):List Int:=if 1<=z/\z<=256 then rY g z.toNat else[]
theorem agP{z:Int}{nq:Nat}(o:Own h0 h L)(hq:L[nq]? =some N)(hN:rP N r g)(hR:g.Right)(hK:∀w h',Own h0 h' (aA aG 1 au w (G8 g z)::L)->K w h'):ah Tryz.prog wq [ptr r,I z] h K:=by
 have hn:=hR.most;refine aK (aa0 _ _ ?_);unfold Na AK;simp only[ef,Option.isNone_some,aL];unfold G8 at hK;rw[bu,bg];refine⟨λc=> ?_,λc1=> ?_⟩
 ·rw[if_neg (by omega)]at hK;exact hK _ h o.en
 rw[dZ,bg];refine⟨λc=> ?_,λc2=> ?_⟩
 ·rw[if_neg (by omega)]at hK;exact hK _ h o.en
 rw[if_pos (by omega)]at hK;obtain⟨c,rfl⟩:∃c:Nat,z=c:=Int.eq_ofNat_of_zero_le (by omega);rw[Int.toNat_natCast]at hK;refine dF (hN _ (o.get nq hq)) ?_;refine o.make (enc:=aG) (n:=1) (a:=0) (m:=g.n) rfl (by omega) (by omega) λd h1 o1=> ?_;have hw:=o1.vw 0 rfl;refine cG (cs':=[ptr r,d,I (0:Nat)]) (λp hp=>by
  simp at hp;rcases hp with rfl|rfl
  ·rfl
  ·exact hw.one) rfl rfl ?_
 refine o1.box λp h2 o2=> ?_;rw[show(Value.cells (.agg [ptr r,d,I (0:Nat)].toArray)).toList=[ptr r,d,I (0:Nat)] by simp[Value.cells,hw.one]]at o2;refine dF (hN _ (o2.get (nq+2) hq)) ?_;refine o2.make (enc:=aV) (n:=1) (a:=(0:Nat)) (m:=g.n) rfl (by omega) (by omega) λf h3 b=> ?_;clear o2 o1;refine(b.vw 0 rfl).len ?_;rw[List.length_replicate];have j:∀i,i<=g.n->(List.range i++List.replicate (g.n-i) 0).length=g.n:=λi hi=>by rw[List.length_append,List.length_range,List.length_replicate];omega
 refine cg g.n (λi x h'=>x.1=I i/\Own h0 h' (aA aV 1 au f (List.range i++List.replicate (g.n-i) 0)::aj p [ptr r,d,I (0:Nat)] ni::aA aG 1 au d (List.replicate g.n 0)::L)) ⟨rfl,b⟩ ?_;clear b;rintro i ⟨x,⟨⟩⟩ h4 Z hi ⟨hx,b⟩ hZ;dsimp only at hx hZ ⊢;subst hx;unfold M9;rw[bu,bg];refine⟨λhlt=> ?_,λhge=> ?_⟩
 ·have hlt:i<g.n:=by omega
  refine b.setAt (a:=i) 0 rfl (λ_=>rfl) (nP _) (by rw[j i hi];exact hlt) rfl λh5 e=> ?_;rw[bt,wI i (by omega)];refine hZ (_,()) h5 hlt ⟨rfl,?_⟩;have :(List.range i++List.replicate (g.n-i) 0).set i i=List.range (i+1)++List.replicate (g.n-(i+1)) 0:=by
   rw[List.set_append_right _ _ (by rw[List.length_range];exact Nat.le_refl _),List.length_range,Nat.sub_self,show g.n-i=(g.n-(i+1))+1 by omega,List.replicate_succ,List.set_cons_zero,List.range_succ];simp
  rw[<-this];exact e
 ·have :i=g.n:=by omega
  subst this;rw[Nat.sub_self,List.replicate_zero,List.append_nil]at b;refine G7 hR hN (k:=c) (c:=c) (nx:=0) (q:=0) (nq:=nq+1) (L:=aA aV 1 au f (List.range g.n)::L) (b.front 3 [1,2,0] (by decide) (by decide)) hq rfl (λh' H'=>H') (λx hx=>List.mem_range.1 hx) (by rw[List.length_range];exact hn) (by rw[List.length_replicate]) (by omega) (Nat.le_refl _) (by omega) (by omega) λh5 e=> ?_;simp only[bz,aQ];refine e.load 0 rfl rfl ?_;exact hK d h5 (e.front 3 [1] (by decide) (by decide))
theorem xN{xs:List Int}{s:Value}(o:Own h0 h L)(H:Vw aG 1 h s xs)(hl:xs.length<=2^40)(hK:∀v' h',Own h0 h' (aA aG 1 au v' xs::L)->K v' h'):ah Tryz.prog nS [s] h K:=
 aK (MN _ (Bf o H (λ_=>rfl) ja rfl (by decide) (by omega) hK))
end
open Go Go.Mh
structure Row where
 b:Option Addr
 len:Nat
 cap:Nat
 l:List Int
def Row.v(r:Row):Value:=.slice r.b r.len r.cap
def nr(r:Row):List Value:=[r.v]
theorem agQ(r:Row):∀u∈nr r,Mh.plainCell u=true:=by intro u hu;simp[nr]at hu;subst hu;rfl
section
variable{h0 h:aa}{L:List aM}{K:KT}{g:G}{r n2 s5:Nat}{v:Value}{ms:List Nat}{D:Int->List Int}
theorem Uy{a:Value}{l:List Value}{K:Value->Prop}(hk:K a):lV 0 (.agg (a::l).toArray) K:=by simpa[lV]using hk
def rZ(h:aa)(v:Value)(ds:List (List Int)):Prop:=∃ps:List Row,ps.map (·.l)=ds/\Vw nr 1 h v ps/\∀p∈ps,Vw aG 1 h p.v p.l
theorem rZ.more{h':aa}{ds:List (List Int)}(H:rZ h v ds)(x:Ext h h'):rZ h' v ds:=by
 obtain⟨ps,a,b,c⟩:=H;exact⟨ps,a,b.more x,λp hp=>(c p hp).more x⟩
def G9(fv:Value)(r:Nat)(g:G)(D:Int->List Int):Prop:=∀(h:aa)(K:KT)(z:Int),bJ h r g->(∀sd sa so h',Own h h' [xR sd (D z)]->K (.agg #[sd,sa,so]) h')->aS Tryz.prog fv [ptr r,I z].toArray h K
theorem agR(hR:g.Right):G9 (.func (.func tu) #[] #[]) r g λz=>(g.toI z).aH:=λh K z hN hK=>
 GX hR hN λsd sa so h' o=>hK sd sa so h' (o.bh [0] (by decide))
theorem agS(hR:g.Right):G9 (.func (.func lC) #[] #[]) r g λz=>(g.dg z).aH:=λh K z hN hK=>
 xE hR hN λsd sa so h' o=>hK sd sa so h' (o.bh [0] (by decide))
theorem Uz{m4 r5 n3:Nat}{fv:Value}{T1 T2 T3:TypeId}(hF:G9 fv r g D)(hl:ms.length<2^40):C9 Tryz.prog (.func (.func DZ) #[] #[ptr m4,ptr r5,ptr n3])
  (λh=>h[m4]? =some (.cells #[v] T1 (0,0))/\h[r5]? =some (.cells #[fv] T2 (0,0))/\h[n3]? =some (.cells #[ptr r] T3 (0,0))/\Vw aG 1 h v (nI ms)/\bJ h r g) (σ:=Nat) 0
  (λi x X i'=>∃hi:i<ms.length,∃sd,x=[sd]/\X=xR sd (D (ms.getD i 0:Nat))/\i'=i+1) (λi=>i=ms.length):=by
 rintro yv h0 h d K J E ⟨l,rfl⟩ o b hQ hY hK;refine iJ (l:=[dm l,ptr m4,ptr r5,ptr n3]) rfl (abI _ _ _ _ ?_);unfold Oa;obtain⟨q1,_,_,f,_⟩:=hQ _ _ _ b o;have d1:hcell h ⟨m4,0,none⟩=some v:=aY q1 rfl;refine bC rfl d1 (f.len ?_);rw[dI];refine cg ms.length (λi x h'=>x.1=I i/\∃a,J i a/\Own h0 h' a) ⟨rfl,d,b,o⟩ ?_;rintro i ⟨x,⟨⟩⟩ h Z hi ⟨hx,a,hj,o⟩ hZ;dsimp only at hx hZ ⊢;subst hx;unfold N9;simp only[bu,bg];refine⟨λhlt=> ?_,λhge=> ?_⟩
 ·have hlt:i<ms.length:=by omega
  obtain⟨_,q2,j,k,m⟩:=hQ _ _ _ hj o;have d2:hcell h ⟨r5,0,none⟩=some fv:=aY q2 rfl;have d3:hcell h ⟨n3,0,none⟩=some (ptr r):=aY j rfl;refine k.cV (by rw[dI];exact hlt) (bC rfl d2 (bC rfl d3 ?_));have e:(nI ms)[i]'(by rw[dI];exact hlt)=((ms.getD i 0:Nat):Int):=by simp[nI,List.getD_eq_getElem?_getD,hlt]
  rw[e];refine hF h _ _ m λsd sa so h1 o1=> ?_;refine Uy ?_;have o2:=o.frame o1;refine hY i [sd] _ (i+1) a [] h1 _ ⟨hlt,sd,rfl,rfl,rfl⟩ hj ?_ (λc h'' hj' o'=> ?_) λc h'' he o'=> ?_
  ·rw[List.append_nil];exact o2
  ·rw[bH,Bool.not_true,aL,bt,wI i (by omega)];exact hZ (I (i+1:Nat),()) h'' hlt ⟨rfl,c,hj',o'.fm⟩
  ·rw[bH,Bool.not_false,bq];exact hK _ _ (.inr he) o'.fm
 ·have :i=ms.length:=by omega
  exact hK _ _ (.inl ⟨i,this,hj⟩) o
def uy(v:Value)(ps:List Row):aM:=js [aA nr 1 gj v ps,js (ps.map λ(p:Row)=>xR p.v p.l)]
theorem BD{i:Nat}{ps:List Row}{ds:List (List Int)}(o:Own h0 h L)(hi:L[i]? =some (uy v ps))(hd:ps.map (·.l)=ds):rZ h v ds:=by
 have o1:=o.out i hi;have o2:=o1.out 1 rfl;refine⟨ps,hd,o1.vw 0 rfl,λp hp=> ?_⟩;exact o2.Dc (List.mem_append_left _ (List.mem_map.2 ⟨p,hp,rfl⟩))
theorem UA{fv:Value}{Q:aa->Prop}{N:Nat}{f:Nat->List Int}{hN:N<2^40}(o:Own h0 h L)
  (hI:C9 Tryz.prog fv Q (σ:=Nat) 0 (λi x X i'=>∃hi:i<N,∃sd,x=[sd]/\X=xR sd (f i)/\i'=i+1) (λi=>i=N)) (hQ:∀(a:List aM) h',Own h0 h' (a++L)->Q h')
  (hK:∀w ps h',ps.map (·.l)=(List.range N).map f->Own h0 h' (uy w ps::L)->K w h'):ah Tryz.prog zF [fv] h K:=by
 refine aK (aaR _ ?_);unfold MO;refine aK (abH _ _ ?_);unfold N8;refine o.box λs2 h1 o1=> ?_;have o2:Own h0 h1 (aA nr 1 gj (.slice none 0 0) ([]:List Row)::js (([]:List Row).map λ(p:Row)=>xR p.v p.l)::aj s2 [.slice none 0 0] rK::L):=Own.en (enc:=nr) (n:=1) (T:=gj) (Own.sep (l:=[]) o1);refine o2.Y9 hI (by rintro s x X s' ⟨_,_,rfl,_⟩;rfl)
  (λs a=>s<=N/\∃w ps,ps.map (·.l)=(List.range s).map f/\a=aA nr 1 gj w ps::js (ps.map λ(p:Row)=>xR p.v p.l)::aj s2 [w] rK::L) (λ_=>False) (λ_ _=>False) ⟨Nat.zero_le _,_,[],rfl,rfl⟩ ?_ ?_ ?_ (λ_ _ h=>h.elim) (λ_ _ _ h=>h.elim)
 ·rintro s a h' ⟨_,w,ps,_,rfl⟩ o';exact hQ [_,_,_] h' o'
 ·rintro M s x X s' a Pr h' R ⟨hlt,sd,rfl,rfl,rfl⟩ ⟨_,w,ps,hps,rfl⟩ o' k _ _;dsimp only[fk];unfold N7;refine o'.begin 0 rfl λh4 b=> ?_;have b:Own h0 h4 (b6 _ _::xR sd (f s)::bX _::aA nr 1 gj w ps::js (ps.map λ(p:Row)=>xR p.v p.l)::aj s2 [w] rK::(L++Pr)):=b;obtain⟨sb,sc,rfl⟩:=(b.vw 1 rfl).mV;have hlen:ps.length=s:=by
   have :=congrArg List.length hps;simpa using this
  refine b.load 5 rfl rfl ?_;refine b.fF 3 (⟨sb,(f s).length,sc,f s⟩:Row) rfl rfl (bW rfl) (λ_=>rfl) agQ rfl (by decide) (by omega) λw' h5 e=> ?_;have hw':=e.vw 3 rfl;refine e.bf 5 (cs':=[w']) rfl rfl rfl hw'.one hw'.plain λh6 c=> ?_;have c:Own h0 h6 (b6 _ _::xR (.slice sb (f s).length sc) (f s)::bX _::aA nr 1 gj w' (ps++ [(⟨sb,(f s).length,sc,f s⟩:Row)])::js (ps.map λ(p:Row)=>xR p.v p.l)::aj s2 [w'] rK::(L++Pr)):=c;have d:=Own.Zc (Own.swap c) (j:=3) rfl;refine k (aA nr 1 gj w' (ps++ [(⟨sb,(f s).length,sc,f s⟩:Row)])::js ((ps++ [(⟨sb,(f s).length,sc,f s⟩:Row)]).map λ(p:Row)=>xR p.v p.l)::aj s2 [w'] rK::L) h6 ⟨by omega,w',_,?_,rfl⟩ ?_
  ·rw[List.map_append,hps,List.range_succ,List.map_append];rfl
  ·rw[List.map_append];exact d
 ·rintro s h' a rfl ⟨_,w,ps,hps,rfl⟩ o';refine o'.load 3 rfl rfl (o'.iZ 0 rfl λh6 c=> ?_);have d:Own h0 h6 ([aA nr 1 gj w ps,js (ps.map λ(p:Row)=>xR p.v p.l)]++(aj s2 [w] rK::L)):=c.tail;exact hK w ps h6 hps ((Own.sep d).erase 1)
end
open Go Go.Mh
section
variable{h0 h:aa}{L:List aM}{K:KT}{g:G}{r t:Nat}{v:Value}{ms:List Nat}
def r7(l:List Nat):Int->Option Value:=λz=>if ∃m∈l,(m:Int)=z then some (I 1)else none
theorem agT{l:List Nat}{m:Nat}(h:m∈l):r7 l m=some (I 1):=if_pos ⟨m,h,rfl⟩
theorem agU{l:List Nat}{m:Nat}(h:m∉l):r7 l m=none:=if_neg λ⟨x,hx,e⟩=>h (by rw[<-show x=m by omega];exact hx)
theorem agV{l:List Nat}{m:Nat}(x:Int):r7 (l++ [m]) x=cu (r7 l) m (I 1) x:=by
 show(if ∃y∈l++ [m],(y:Int)=x then some (I 1)else none)=if x=(m:Int)then some (I 1)else if ∃y∈l,(y:Int)=x then some (I 1)else none;by_cases e:x=(m:Int)
 ·rw[if_pos e,if_pos ⟨m,by simp,e.symm⟩]
 ·rw[if_neg e];by_cases hx:∃y∈l,(y:Int)=x
  ·obtain⟨y,hy,a⟩:=hx;rw[if_pos ⟨y,List.mem_append_left _ hy,a⟩,if_pos ⟨y,hy,a⟩]
  ·rw[if_neg hx,if_neg];rintro⟨y,hy,a⟩;rcases List.mem_append.1 hy with hy|hy
   ·exact hx ⟨y,hy,a⟩
   ·simp at hy;exact e (by rw[<-a,hy])
theorem agW{n:Nat}(H:Vw aG 1 h v (nI ms))(hl:ms.length<=16)(hn:ms.Nodup)(hm:∀m∈ms,m<n)(hK:∀h',Ext h h'->K (.bool true) h'):ah Tryz.prog DG [I n,v] h K:=by
 refine aK (aaP _ _ ?_);unfold MM;refine(Own.start h).box λn2 h1 o1=>o1.mkMap λm h2 o2=>o2.box λs5 h3 b=>b.bf 0 (cs':=[.map (some m)]) rfl rfl rfl rfl rfl λh4 a=> ?_;have a:Own h h4 (aj s5 [.map (some m)] rL::dz m (r7 (ms.take 0))::aj n2 [I n] au:: []):=a;refine H.len ?_;rw[dI,mS,decide_eq_true (by omega),bq];refine aK (N6 _ _ ?_);unfold F6;refine aK (Gh _ _ ?_);unfold AX;refine H.len ?_;rw[dI];refine cg ms.length (λi x h'=>x.1=I i/\Own h h' (aj s5 [.map (some m)] rL::dz m (r7 (ms.take i))::aj n2 [I n] au:: [])) ⟨rfl,a⟩ ?_;clear o1 o2 b a;rintro i ⟨x,⟨⟩⟩ h' Z hi ⟨hx,o'⟩ hZ;dsimp only at hx hZ ⊢;subst hx;unfold AW;simp only[bu,bg];refine⟨λhlt=> ?_,λhge=> ?_⟩
 ·have hlt:i<ms.length:=by omega
  refine(H.more o'.ext).cV (by rw[dI];exact hlt) ?_;have e:(nI ms)[i]'(by rw[dI];exact hlt)=(ms[i]:Int):=by simp[nI]
  rw[e];refine bU (l:=[I ms[i],ptr s5,ptr n2]) rfl (abG _ _ _ ?_);unfold N5;have hout:ms[i]∉ms.take i:=λhmem=>by
   have h1:=hn;rw[<-List.take_append_drop i ms,List.nodup_append,List.drop_eq_getElem_cons hlt]at h1;exact h1.2.2 _ hmem _ List.mem_cons_self rfl
  refine o'.load 0 rfl rfl (o'.look 1 rfl ?_);rw[agU hout];simp only[Bool.false_eq_true,if_false,Option.getD_none];rw[bt,bG (by omega) (by omega)];refine o'.kE 1 rfl (f':=r7 (ms.take (i+1))) (λx=> ?_) λh2 o2=> ?_
  ·rw[List.take_succ_eq_append_getElem hlt,agV];rfl
  ·have c:=hm _ (List.getElem_mem hlt);rw[bu,decide_eq_false (by omega),aL];refine o2.load 2 rfl rfl ?_;rw[c8,decide_eq_false (by omega),aL];refine o2.load 0 rfl rfl (o2.look 1 rfl ?_);rw[agT (show ms[i]∈ms.take (i+1) by rw[List.take_succ_eq_append_getElem hlt];exact List.mem_append_right _ List.mem_cons_self)];simp only[Bool.false_eq_true,if_false,Option.getD_some];rw[dZ,decide_eq_false (by omega),aL,bt,wI i (by omega)];exact hZ (I (i+1:Nat),()) h2 hlt ⟨rfl,o2⟩
 ·rw[c8,decide_eq_false (by omega),bH,Bool.not_false];exact hK h' o'.ext
def He(n:Nat)(mv tv fv:Value):List Value:=[I n,mv,tv,fv]
structure gy(h:aa)(t:Nat)(g:G)(ms:List Nat):Prop where
 ex:∃mv tv fv,h[t]? =some (.cells (He g.n mv tv fv).toArray FE (0,0))/\Vw aG 1 h mv (nI ms)/\rZ h tv (ms.map λ(m:Nat)=>(g.toI m).aH)/\rZ h fv (ms.map λ(m:Nat)=>(g.dg m).aH)
theorem gy.more{h':aa}(H:gy h t g ms)(x:Ext h h'):gy h' t g ms:=by
 obtain⟨mv,tv,fv,a,b,c,d⟩:=H.ex;exact⟨mv,tv,fv,x.get a,b.more x,c.more x,d.more x⟩
def UB(t:Nat)(n:Nat)(mv tv fv:Value)(ms:List Nat)(ps qs:List Row):List aM:=[aj t (He n mv tv fv) FE,aA aG 1 au mv (nI ms),uy tv ps,uy fv qs]
theorem UC{α β:Type}(l:List α)(f:α->β)(d:α):(List.range l.length).map (λi=>f (l.getD i d))=l.map f:=by
 apply List.ext_getElem (by simp);intro i h1 h2;have hi:i<l.length:=by simpa using h1
 simp[List.getD_eq_getElem?_getD,hi]
theorem agX(o:Own h0 h L)(hp:Vw aG 1 h v (nI ms))(hR:g.Right)(hN:bJ h r g)(hl:ms.length<=16)(hn:ms.Nodup)(hm:∀m∈ms,m<g.n)
  (hK:∀t mv tv fv ps qs h',ps.map (·.l)=ms.map (λ(m:Nat)=>(g.toI m).aH)->qs.map (·.l)=ms.map (λ(m:Nat)=>(g.dg m).aH)->Own h0 h' (UB t g.n mv tv fv ms ps qs++L)->K (ptr t) h'):ah Tryz.prog zu [ptr r,v] h K:=by
 refine aK (aag _ _ ?_);unfold L3;simp only[ef,Option.isNone_some,aL];refine dF hN (agW hp hl hn hm λh1 x1=> ?_);rw[bH,Bool.not_true,aL];refine dF (hN.more x1) ?_;refine xN ((Own.start h).more x1) (hp.more x1) (by rw[dI];omega) λmv h2 o2=> ?_;refine aK (MP _ _ _ ?_);unfold FU;refine o2.box λn3 h3 e=>e.box λm4 h4 j=>j.box λr5 h5 c=> ?_;have k:v.cells.toList=[v]:=by rw[hp.one]
 rw[k]at c;have hQ:∀(fv:Value)(n3 m4 r5:Nat)(a L':List aM)(h':aa),Own h h' (a++(aj r5 [fv] tW::aj m4 [v] bR::aj n3 [ptr r] cq::L'))->
   h'[m4]? =some (.cells #[v] bR (0,0))/\h'[r5]? =some (.cells #[fv] tW (0,0))/\h'[n3]? =some (.cells #[ptr r] cq (0,0))/\Vw aG 1 h' v (nI ms)/\bJ h' r g:=λfv n3 m4 r5 a L' h' o'=>by
  have q:∀(i:Nat)(R:aM),(aj r5 [fv] tW::aj m4 [v] bR::aj n3 [ptr r] cq::L')[i]? =some R->R.Q h':=λi R hi=>o'.get (a.length+i) (by rw[List.getElem?_append_right (by omega),show a.length+i-a.length=i by omega];exact hi);exact⟨q 1 _ rfl,q 0 _ rfl,q 2 _ rfl,hp.more o'.ext,hN.more o'.ext⟩
 refine UA (hN:=(by omega:ms.length<2^40)) (f:=λi=>(g.toI (ms.getD i 0:Nat)).aH) c (Uz (v:=v) (r:=r) (m4:=m4) (r5:=r5) (n3:=n3) (T1:=bR) (T2:=tW) (T3:=cq) (agR hR) (by omega)) (λa h' o'=>hQ _ _ _ _ a _ h' o') λtv ps h6 hps d=> ?_;have d:=d.bh [0,4] (by decide);clear c j e o2;refine aK (MP _ _ _ ?_);unfold FU;refine d.box λu h7 w=>w.box λx h8 y=>y.box λz h9 s=> ?_;rw[k]at s;refine UA (hN:=(by omega:ms.length<2^40)) (f:=λi=>(g.dg (ms.getD i 0:Nat)).aH) s (Uz (v:=v) (r:=r) (m4:=x) (r5:=z) (n3:=u) (T1:=bR) (T2:=tW) (T3:=cq) (agS hR) (by omega)) (λa h' o'=>hQ _ _ _ _ a _ h' o') λfv qs h10 A B=> ?_;have b:Own h h10 [uy fv qs,uy tv ps,aA aG 1 au mv (nI ms)]:=B.bh [0,4,5] (by decide);have p1:=(BD b (i:=0) rfl rfl);have p2:=(BD b (i:=1) rfl rfl);obtain⟨_,_,p1,_⟩:=p1;obtain⟨_,_,p2,_⟩:=p2;have p3:=b.vw 2 rfl;refine cG (cs':=He g.n mv tv fv) ?_ rfl rfl ?_
 ·intro p hp;simp at hp;rcases hp with rfl|rfl|rfl|rfl
  ·rfl
  ·exact p3.one
  ·exact p2.one
  ·exact p1.one
 refine b.box λt h11 C=> ?_;refine hK t mv tv fv ps qs h11 (hps.trans (UC ms (λm=>(g.toI (m:Nat)).aH) 0)) (A.trans (UC ms (λm=>(g.dg (m:Nat)).aH) 0)) (o.frame (C.bh [0,3,2,1] (by decide)))
theorem agY{mv tv fv:Value}{ps qs:List Row}(o:Own h0 h (UB t g.n mv tv fv ms ps qs++L))(h1:ps.map (·.l)=ms.map (λ(m:Nat)=>(g.toI m).aH))(h2:qs.map (·.l)=ms.map (λ(m:Nat)=>(g.dg m).aH)):gy h t g ms:=
 ⟨mv,tv,fv,o.get 0 rfl,o.vw 1 rfl,BD o (i:=2) rfl h1,BD o (i:=3) rfl h2⟩
theorem uz(o:Own h0 h L)(H:gy h t g ms)(hl:ms.length<=16)(hK:∀w h',Own h0 h' (aA aG 1 au w (nI ms)::L)->K w h'):ah Tryz.prog qf [ptr t] h K:=by
 obtain⟨mv,tv,fv,a,b,c,d⟩:=H.ex;refine aK (abn _ ?_);unfold NG;have c0:hcell h ⟨t,1,none⟩=some mv:=aY a rfl;simp only[ef,Option.isNone_some,aL,bz,aQ,cI,Nat.zero_add,c0];exact xN o b (by rw[dI];omega) hK
end
open Go Go.Mh
section
variable{h0 h:aa}{L:List aM}{K:KT}{a b:Int}
def kept(a:Int):Int:=min (max a 0) aI
theorem qt{a:Int}(h0:0<=a)(h1:a<=aI):kept a=a:=by unfold kept;omega
theorem agZ{l g:Nat}{T1 T2:TypeId}(h1:h[l]? =some (.cells #[I 0] T1 (0,0)))(h2:h[g]? =some (.cells #[I aI] T2 (0,0)))(hK:K (I (kept a)) h):
  aS Tryz.prog (.func (.func Av) #[] #[ptr l,ptr g]) [I a].toArray h K:=by
 refine bU (l:=[I a,ptr l,ptr g]) rfl (Ti _ _ _ ?_);unfold GC;have c0:hcell h ⟨l,0,none⟩=some (I 0):=aY h1 rfl;have c1:hcell h ⟨g,0,none⟩=some (I aI):=aY h2 rfl;simp only[cI,c0,c1,l9,oI];have e:(if aI<(if(0:Int)>a then 0 else a)then aI else(if(0:Int)>a then 0 else a))=kept a:=by
  unfold kept;split<;>split<;>omega
 rw[e];exact hK
theorem UD{P:KT}(hK:∀h',Ext h h'->P (I (kept a)) h'):Gy Tryz.prog (I a) h P:=by
 unfold Gy;refine aK (SN _ _ ?_);unfold GB;refine(Own.start h).box λl h1 o1=>o1.box λg h2 o2=> ?_;exact agZ (o2.get 1 rfl) (o2.get 0 rfl) (hK _ o2.ext)
theorem uA(hK:∀h',Ext h h'->K (I (kept a)) h'):ah Tryz.prog nV [I a] h K:=aK (SH _ (UD hK))
theorem BE(hK:∀h',Ext h h'->K (I (kept a)) h'):aS Tryz.prog (.func (.func nV) #[] #[]) [I a].toArray h K:=bU (l:=[I a]) rfl (SH _ (UD hK))
theorem xO(h0:0<=a)(h1:a<=aI)(hK:∀h',Ext h h'->K (.bool (decide (a<aI))) h'):ah Tryz.prog rJ [I a] h K:=by
 refine aK (aex _ ?_);unfold SG;refine uA λh' x=> ?_;rw[qt h0 h1,bu];exact hK _ x
theorem ag0(h0:0<=a)(h1:a<=aI)(h2:0<=b)(h3:b<=aI)(hK:∀h',Ext h h'->K (I (min (a+b) aI)) h'):ah Tryz.prog Fz [I a,I b] h K:=by
 have hf:aI=72057594037927936:=rfl;refine aK (aeL _ _ ?_);unfold S4;refine(Own.start h).build (enc:=aG) (n:=1) [a,b] rfl (bW rfl) rfl λw h4 e=> ?_;refine aK (SM _ _ ?_);unfold GA;refine(e.vw 0 rfl).len ?_;refine cg 2 (λi x h'=>x.2.1=I i/\x.1=I (if i=0 then 0 else if i=1 then a else min (a+b) aI)/\Own h h' [aA aG 1 bY w [a,b]]) ⟨rfl,rfl,e⟩ ?_;rintro i ⟨sm,x,⟨⟩⟩ h' Z hi ⟨hx,f,o⟩ hZ;dsimp only at hx f hZ ⊢;subst hx f;unfold Gz;simp only[bu,bg];refine⟨λhlt=> ?_,λhge=> ?_⟩
 ·have hlt:i<2:=by simp at hlt;omega
  refine(o.vw 0 rfl).cV (by simpa using hlt) ?_;rcases(show i=0\/i=1 by omega)with rfl|rfl
  ·refine BE λh5 c=> ?_;rw[show([a,b]:List Int)[0]=a from rfl,qt h0 h1,bt,bG (by simp;omega) (by simp;omega)];refine BE λh6 d=> ?_;rw[show(if 0=0 then(0:Int)else if 0=1 then a else min (a+b) aI)+a=a by simp,qt h0 h1,bt,wI 0 (by omega)];exact hZ (I a,(I 1,())) h6 (by omega) ⟨rfl,rfl,(o.more c).more d⟩
  ·refine BE λh5 c=> ?_;rw[show([a,b]:List Int)[1]=b from rfl,qt h2 h3,bt,bG (by simp;omega) (by simp;omega)];refine BE λh6 d=> ?_;rw[show(if 1=0 then(0:Int)else if 1=1 then a else min (a+b) aI)+b=a+b by simp,show kept (a+b)=min (a+b) aI by unfold kept;omega,bt,wI 1 (by omega)];exact hZ (I (min (a+b) aI),(I 2,())) h6 (by omega) ⟨rfl,rfl,(o.more c).more d⟩
 ·have :i=2:=by
   have :([a,b]:List Int).length=2:=rfl;omega
  subst this;exact hK _ o.ext
end
open Go Go.Mh
section
variable{h0 h:aa}{L:List aM}{K:KT}{g:G}{r:Nat}{a b:Int}
theorem BN{a b:Int}:(if b>a then b else a)=max a b:=by split<;>omega
theorem HJ(h0:0<=a)(h1:a<=aI)(h2:0<=b)(h3:b<=aI)(hK:∀h',Ext h h'->K (I (gu a b)) h'):ah Tryz.prog wS [I a,I b] h K:=by
 have hf:aI=72057594037927936:=rfl;refine aK (aes _ _ ?_);unfold Sz;refine uA λl x1=>uA λm e=> ?_;rw[qt h0 h1,qt h2 h3];have f:=x1.trans e λ_ h _=>h;unfold gu at hK;refine xO h2 h3 λn i=> ?_;have c:=f.trans i λ_ h _=>h;rw[bH];by_cases c1:aI<=b
 ·rw[show decide (b<aI)=false from decide_eq_false (by omega),Bool.not_false,bq];rw[if_pos c1]at hK;exact hK _ c
 ·rw[show decide (b<aI)=true from decide_eq_true (by omega),Bool.not_true,aL];rw[if_neg c1]at hK;refine xO h0 h1 λo j=> ?_;have d:=c.trans j λ_ h _=>h;rw[bH];by_cases c2:aI<=a
  ·rw[show decide (a<aI)=false from decide_eq_false (by omega),Bool.not_false,bq];rw[if_pos c2]at hK;exact hK _ d
  ·rw[show decide (a<aI)=true from decide_eq_true (by omega),Bool.not_true,aL];rw[if_neg c2]at hK;rw[eM,bG (by omega) (by omega)];refine uA λp k=> ?_;have :=hK _ (d.trans k λ_ h _=>h);rw[show kept (a-b)=if 0<a-b then a-b else 0 by unfold kept;split<;>omega];exact this
theorem Va(h0:0<=a)(h1:a<=aI)(h2:0<=b)(h3:b<=aI)(hK:∀h',Ext h h'->K (I (gu b a)) h'):ah Tryz.prog Ar [I a,I b] h K:=by
 refine aK (aeu _ _ ?_);unfold SB;exact HJ h2 h3 h0 h1 hK
theorem HK{l g:Nat}{T1 T2:TypeId}(h1:h[l]? =some (.cells #[I 0] T1 (0,0)))(h2:h[g]? =some (.cells #[I 2305843009213693952] T2 (0,0)))(hK:K (I (iR a)) h):
  aS Tryz.prog (.func (.func Av) #[] #[ptr l,ptr g]) [I a].toArray h K:=by
 refine bU (l:=[I a,ptr l,ptr g]) rfl (Ti _ _ _ ?_);unfold GC;have c0:hcell h ⟨l,0,none⟩=some (I 0):=aY h1 rfl;have c1:hcell h ⟨g,0,none⟩=some (I 2305843009213693952):=aY h2 rfl;simp only[cI,c0,c1,l9,oI];have e:(if 2305843009213693952<(if(0:Int)>a then 0 else a)then 2305843009213693952 else(if(0:Int)>a then 0 else a))=iR a:=by
  unfold iR qw;split<;>split<;>omega
 rw[e];exact hK
theorem aho(ha: -4611686018427387904<=a)(ha2:a<=4611686018427387904)(hK:∀h',Ext h h'->K (I (lQ a b)) h'):ah Tryz.prog Fa [I a,I b] h K:=by
 refine aK (ad8 _ _ ?_);unfold R3;refine aK (SN _ _ ?_);unfold GB;refine(Own.start h).box λl h1 o1=>o1.box λg h2 o2=> ?_;refine o2.build (enc:=aG) (n:=1) [a,b] rfl (bW rfl) rfl λw h4 c=> ?_;refine aK (SM _ _ ?_);unfold GA;refine(c.vw 0 rfl).len ?_;have hkr:∀x,0<=iR x/\iR x<=2305843009213693952:=λx=>by unfold iR qw;omega
 refine cg 2 (λi x h'=>x.2.1=I i/\x.1=I (if i=0 then 0 else if i=1 then iR (0+iR a)else lQ a b)/\Own h h' [aA aG 1 bY w [a,b],aj g [I 2305843009213693952] bY,aj l [I 0] bY]) ⟨rfl,rfl,c⟩ ?_;rintro i ⟨sm,x,⟨⟩⟩ h' Z hi ⟨hx,d,o⟩ hZ;dsimp only at hx d hZ ⊢;subst hx d;unfold Gz;simp only[bu,bg];refine⟨λhlt=> ?_,λhge=> ?_⟩
 ·have hlt:i<2:=by simp at hlt;omega
  refine(o.vw 0 rfl).cV (by simpa using hlt) ?_;refine HK (o.get 2 rfl) (o.get 1 rfl) ?_;rcases(show i=0\/i=1 by omega)with rfl|rfl
  ·have :=hkr a;rw[show([a,b]:List Int)[0]=a from rfl,bt,bG (by simp;omega) (by simp;omega)];refine HK (o.get 2 rfl) (o.get 1 rfl) ?_;rw[bt,wI 0 (by omega)];exact hZ (_,(I 1,())) h' (by omega) ⟨rfl,rfl,o⟩
  ·have h1:=hkr b;have h2:=hkr (0+iR a);rw[show([a,b]:List Int)[1]=b from rfl,show(if(1:Nat)=0 then(0:Int)else if(1:Nat)=1 then iR (0+iR a)else lQ a b)=iR (0+iR a)from rfl,bt,bG (by omega) (by omega)];refine HK (o.get 2 rfl) (o.get 1 rfl) ?_;rw[bt,wI 1 (by omega)];exact hZ (_,(I 2,())) h' (by omega) ⟨rfl,rfl,o⟩
 ·have :i=2:=by
   have :([a,b]:List Int).length=2:=rfl;omega
  subst this;exact hK _ o.ext
structure MV where
 node:Nat
 sd:Value
 sa:Value
 so:Value
 fd:Value
 fa:Value
 fo:Value
 pl:∀u∈ [sd,sa,so,fd,fa,fo],Mh.plainCell u=true
def eT(m:MV):List Value:=[I m.node,m.sd,m.sa,m.so,m.fd,m.fa,m.fo]
theorem yb(m:MV):(eT m).length=7:=rfl
theorem yc(m:MV):∀u∈eT m,Mh.plainCell u=true:=λu hu=>by
 rcases List.mem_cons.1 hu with rfl|hu
 ·rfl
 ·exact m.pl u hu
def yd(g:G)(ms:List MV):List aM:=ms.flatMap λm=>[xR m.sd (g.to m.node).aH,xR m.fd (g.from m.node).aH]
def qz(g:G)(h:aa)(m:MV):Prop:=m.node<g.n/\Vw aG 1 h m.sd (g.to m.node).aH/\Vw aG 1 h m.fd (g.from m.node).aH
theorem qz.more{h':aa}{m:MV}(H:qz g h m)(x:Ext h h'):qz g h' m:=⟨H.1,H.2.1.more x,H.2.2.more x⟩
theorem ahp{z:Int}(H:bJ h r g)(hK:K (.bool (decide (0<=z/\z<g.n))) h):ah Tryz.prog EF [ptr r,I z] h K:=by
 refine aK (ac9 _ _ ?_);unfold QC;rw[y9,Option.isSome_some,bq,c8,bg];refine⟨λh1=>dF H ?_,λh1=> ?_⟩
 ·rw[bu,show decide (z<g.n)=decide (0<=z/\z<g.n) by rw[decide_eq_decide];exact⟨λh=>⟨h1,h⟩,λh=>h.2⟩];exact hK
 ·rw[show decide (0<=z/\z<g.n)=false from decide_eq_false λh=>h1 h.1]at hK;exact hK
theorem ahq{ms:List MV}{vl:Value}{r v:Nat}(hR:g.Right)(t:∀m∈ms,qz g h m)(p:Vw eT 7 h vl ms)(hl:ms.length<2^40)(hr:r<g.n)(hv:v<g.n)(hK:∀h',Ext h h'->K (I (dG g (ms.map MV.node) r v)) h'):
  ah Tryz.prog E9 [vl,I r,I v] h K:=by
 refine aK (ad7 _ _ _ ?_);unfold RZ;refine p.len ?_;refine cg ms.length (λi x h'=>x.1=I (dG g ((ms.take i).map MV.node) r v)/\x.2.1=I i/\Ext h h') ⟨rfl,rfl,(Own.start h).ext⟩ ?_;rintro i ⟨x,y,⟨⟩⟩ h1 Z hi ⟨hx,hy,x1⟩ hZ;dsimp only at hx hy hZ ⊢;subst hx hy;unfold RY;rw[bu,bg];refine⟨λhlt=> ?_,λhge=> ?_⟩
 ·have hlt:i<ms.length:=by omega
  refine(p.more x1).mh yb hlt ?_;obtain⟨hm,d,e⟩:=(t _ (List.getElem_mem hlt)).more x1;have tk:(ms.take (i+1)).map MV.node=(ms.take i).map MV.node++ [ms[i].node]:=by rw[List.take_succ_eq_append_getElem hlt,List.map_append];rfl
  rw[tk]at hZ;generalize ms[i]=m at hm d e hZ;have T1:=oO hR hm;have T2:=eX hR hm;have l1:=T1.ls.len;have l2:=T2.ls.len;have q:r<(g.to m.node).aH.length:=by rw[l1];exact hr
  have s:v<(g.to m.node).aH.length:=by rw[l1];exact hv
  have f:r<(g.from m.node).aH.length:=by rw[l2];exact hr
  have j:v<(g.from m.node).aH.length:=by rw[l2];exact hv
  refine(Own.start h1).box λm8 h2 o2=>o2.st (l:=eT m) (cs':=eT m) 0 rfl rfl rfl rfl rfl (yc m) λh3 c=> ?_;have c:Own h1 h3 [aj m8 (eT m) gG]:=c;replace d:=d.more c.ext;replace e:=e.more c.ext;simp only[aQ];refine c.load 0 rfl rfl (d.cV q (c.load 0 rfl rfl (d.cV s ?_)));refine c.load 0 rfl rfl (e.vQ f λb1 f1 c1=>bC rfl c1 (c.load 0 rfl rfl (e.vQ j λb2 f2 c2=>bC rfl c2 ?_)));rw[gZ q,gZ s];rw[gZ f]at c1;rw[gZ j]at c2;rw[gZ f,gZ j];refine HJ (T1.ls.gC hr) (T1.ls.iB hr) (T1.ls.gC hv) (T1.ls.iB hv) λh4 k=> ?_;have o:=c.more k;refine⟨o.load 0 rfl rfl rfl,bC rfl (lg k c1) rfl,o.load 0 rfl rfl rfl,bC rfl (lg k c2) rfl,?_⟩;refine Va (T2.ls.gC hr) (T2.ls.iB hr) (T2.ls.gC hv) (T2.ls.iB hv) λh5 u=> ?_;rw[l9,l9,BN,BN,bt,wI i (by omega)];refine hZ (_,_,()) h5 hlt ⟨?_,rfl,x1.trans (o.more u).ext λ_ h _=>h⟩;rw[U2];rfl
 ·have :i=ms.length:=by omega
  subst this;rw[List.take_length];exact hK _ x1
theorem ahr{l:List Int}{vl:Value}(o:Own h0 h L)(hR:g.Right)(H:bJ h r g)(e:Vw aG 1 h vl l)(hl:l.length<2^32)
  (hK:∀w ms h',ms.map MV.node=nZ g.n l->Own h0 h' (aA eT 7 gG w ms::(yd g ms++L))->K w h'):ah Tryz.prog D5 [ptr r,vl] h K:=by
 refine aK (abT _ _ ?_);unfold Ol;refine e.len ?_;refine cg l.length (λi x h'=>x.2.1=I i/\∃ms,ms.map MV.node=nZ g.n (l.take i)/\Own h h' (aA eT 7 gG x.1 ms::yd g ms)) ⟨rfl,[],rfl,(Own.start h).en⟩ ?_;rintro i ⟨w,y,⟨⟩⟩ h1 Z hi ⟨hy,ms,d,o1⟩ hZ;dsimp only at hy o1 hZ ⊢;subst hy;unfold Oj;rw[bu,bg];refine⟨λhlt=> ?_,λhge=> ?_⟩
 ·have hlt:i<l.length:=by omega
  have x1:=o1.ext;refine(e.more x1).cV hlt ?_;have tk:l.take (i+1)=l.take i++ [l[i]]:=List.take_succ_eq_append_getElem hlt;have hml:ms.length<=i:=by
   rw[<-List.length_map (f:=MV.node),d];unfold nZ;rw[List.length_map];have :=List.length_filter_le (λ(z:Int)=>decide (0<=z/\z<g.n)) (l.take i);rw[List.length_take]at this;omega
  generalize l[i]=z at tk;have j:∀w' ms' h',ms'.map MV.node=nZ g.n (l.take (i+1))->Own h h' (aA eT 7 gG w' ms'::yd g ms')->AR Tryz.prog (I i) (λa0 a1 hz=>Z (a0,(a1,())) hz) w' h':=λw' ms' h' hm o'=>by
   unfold AR;rw[bt,wI i (by omega)];exact hZ (_,_,()) h' hlt ⟨rfl,ms',hm,o'⟩
  refine ahp (H.more x1) ?_;rw[bg];refine⟨λhz=> ?_,λhz=>j w ms h1 ?_ o1⟩
  ·obtain⟨m,rfl⟩:∃m:Nat,z=m:=Int.eq_ofNat_of_zero_le hz.1;have hm:m<g.n:=by omega
   refine GX hR (H.more x1) λsd sa so h2 k=> ?_;have o2:=o1.frame k;clear k;refine xE hR (H.more o2.ext) λfd fa fo h3 p=> ?_;have c:=o2.frame p;clear o2 p;rw[show g.toI m=g.to m by simp[G.toI,hm],show g.dg m=g.from m by simp[G.dg,hm]]at c;have q0:=(c.vw 0 rfl).plain;have q1:=(c.vw 1 rfl).plain;have q2:=(c.vw 2 rfl).plain;have v:=(c.vw 3 rfl).plain;have A:=(c.vw 4 rfl).plain;have B:=(c.vw 5 rfl).plain;have hp:∀u∈ [sd,sa,so,fd,fa,fo],Mh.plainCell u=true:=by
    intro u hu;simp at hu;rcases hu with rfl|rfl|rfl|rfl|rfl|rfl<;>assumption
   refine⟨bW rfl,?_⟩;refine c.fF 6 (⟨m,sd,sa,so,fd,fa,fo,hp⟩:MV) rfl rfl (bW rfl) yb yc rfl (by decide) (by omega) λw' h4 s=> ?_;refine j w' (ms++ [⟨m,sd,sa,so,fd,fa,fo,hp⟩]) h4 ?_ ?_
   ·rw[List.map_append,d,tk,TY,if_pos hz];rfl
   ·have t:Own h h4 ([xR sd (g.to m).aH,xR fd (g.from m).aH]++(aA eT 7 gG w' (ms++ [⟨m,sd,sa,so,fd,fa,fo,hp⟩])::yd g ms)):=s.front 6 [3,0] (by decide) (by decide);have q:=Own.comm t;unfold yd at q ⊢;rw[List.flatMap_append];exact q
  ·rw[d,tk,TY,if_neg hz,List.append_nil]
 ·have :i=l.length:=by omega
  subst this;rw[List.take_length]at d;exact hK w ms h1 d (o.frame o1)
end
open Go Go.Mh
theorem H8{P:Program}{f:Nat}{l:List Value}{h:aa}{K:KT}(H:ah P f l h K):aE P f l.toArray h K:=by
 have H:aE P f (#[]++l.toArray++ #[]) h K:=H;simpa using H
section
variable{h0 h:aa}{L:List aM}{K:KT}{g:G}{t r:Nat}{ms:List Nat}
theorem uJ(H:gy h t g ms)(hK:K (I g.n) h):ah Tryz.prog qe [ptr t] h K:=by
 obtain⟨mv,tv,fv,a,b,c,d⟩:=H.ex;refine aK (abm _ ?_);unfold NF;have c0:hcell h ⟨t,0,none⟩=some (I g.n):=aY a rfl;simp only[ef,Option.isNone_some,aL,bz,aQ,cI,Nat.zero_add,c0];exact hK
theorem Vr{lv dv:Value}{D:Nat->List Int}{i v:Nat}(H:gy h t g ms)(hT:rZ h dv (ms.map D))(hf:∀K:KT,K dv h->aS Tryz.prog lv [].toArray h K)(hi:i<ms.length)(hv:v<g.n)(hl:(D ms[i]).length=g.n)
  (hK:K (I (aF (D ms[i]) v)) h):ah Tryz.prog Au [ptr t,lv,I i,I v] h K:=by
 obtain⟨mv,tv,fv,a,b,c,d⟩:=H.ex;refine aK (aeQ _ _ _ _ ?_);unfold Td;have c0:hcell h ⟨t,0,none⟩=some (I g.n):=aY a rfl;have c1:hcell h ⟨t,1,none⟩=some mv:=aY a rfl;simp only[ef,Option.isNone_some,aL,bz,aQ,cI,Nat.zero_add,c0,c1];rw[bu,decide_eq_false (by omega),aL];refine b.len ?_;rw[dI,c8,decide_eq_false (by omega),aL,bu,decide_eq_false (by omega),aL,c8,decide_eq_false (by omega),aL];obtain⟨ps,e,hp,hr⟩:=hT;have hil:i<ps.length:=by
  have :=congrArg List.length e;simp at this;omega
 refine hf _ (hp.dH (e:=λp:Row=>p.v) (λ_=>rfl) hil ?_);have e2:ps[i].l=D ms[i]:=by
  have h1:(ps.map (·.l))[i]'(by simpa using hil)=(ms.map D)[i]'(by simpa using hi):=by simp only[e]
  simpa using h1
 have h3:=hr _ (List.getElem_mem hil);rw[e2]at h3;have h4:v<(D ms[i]).length:=by omega
 refine h3.cV h4 ?_;rw[gZ];exact hK
theorem Vs{i v:Nat}(H:gy h t g ms)(hR:g.Right)(hm:∀m∈ms,m<g.n)(hi:i<ms.length)(hv:v<g.n)(hK:K (I (aF (g.to ms[i]).aH v)) h):aS Tryz.prog (.func (.func Fl) #[ptr t] #[]) [I i,I v].toArray h K:=by
 refine bU (l:=[ptr t,I i,I v]) rfl (aer _ _ _ ?_);unfold Sy;obtain⟨mv,tv,fv,a,b,c,d⟩:=H.ex;have f:=hm _ (List.getElem_mem hi);have e:(g.toI (ms[i]:Nat)).aH=(g.to ms[i]).aH:=by unfold G.toI;rw[if_pos ⟨by omega,by omega⟩];rfl
 refine Vr (D:=λ(m:Nat)=>(g.toI m).aH) H c (λK hk=> ?_) hi hv ?_ ?_
 ·refine bU (l:=[ptr t]) rfl (aeR _ ?_);unfold Te;have c2:hcell h ⟨t,2,none⟩=some tv:=aY a rfl;simp only[bz,aQ,cI,Nat.zero_add,c2];exact hk
 ·rw[e];exact(oO hR f).ls.len
 ·rw[e];exact hK
theorem Vt{i v:Nat}(H:gy h t g ms)(hR:g.Right)(hm:∀m∈ms,m<g.n)(hi:i<ms.length)(hv:v<g.n)(hK:K (I (aF (g.from ms[i]).aH v)) h):aS Tryz.prog (.func (.func Fm) #[ptr t] #[]) [I i,I v].toArray h K:=by
 refine bU (l:=[ptr t,I i,I v]) rfl (aet _ _ _ ?_);unfold SA;obtain⟨mv,tv,fv,a,b,c,d⟩:=H.ex;have f:=hm _ (List.getElem_mem hi);have e:(g.dg (ms[i]:Nat)).aH=(g.from ms[i]).aH:=by unfold G.dg;rw[if_pos ⟨by omega,by omega⟩];rfl
 refine Vr (D:=λ(m:Nat)=>(g.dg m).aH) H d (λK hk=> ?_) hi hv ?_ ?_
 ·refine bU (l:=[ptr t]) rfl (aeS _ ?_);unfold Tf;have c2:hcell h ⟨t,3,none⟩=some fv:=aY a rfl;simp only[bz,aQ,cI,Nat.zero_add,c2];exact hk
 ·rw[e];exact(eX hR f).ls.len
 ·rw[e];exact hK
theorem yg{v:Nat}(H:gy h t g ms)(hv:v<g.n)(hK:K (.bool true) h):ah Tryz.prog rH [ptr t,I v] h K:=by
 refine aK (adU _ _ ?_);unfold RG;rw[c8,decide_eq_true (by omega),bq];refine uJ H ?_;rw[bu,decide_eq_true (by omega)];exact hK
def uK(ms:List Nat)(i:Int):Option Nat:=if 0<=i then ms[i.toNat]? else none
def bh(ms:List Nat)(act:List Int):List Nat:=act.filterMap (uK ms)
theorem H9{act:List Int}(hm:∀m∈ms,m<g.n):∀m∈bh ms act,m<g.n:=λm h=>by
 obtain⟨i,_,hi⟩:=List.mem_filterMap.1 h;unfold uK at hi;split at hi
 ·exact hm m (List.mem_of_getElem? hi)
 ·cases hi
def Ia(g:G)(ms:List Nat)(i:Int)(v w:Nat):Int:=match uK ms i with
 |some m=>max (gu (aF (g.to m).aH v) (aF (g.to m).aH w)) (gu (aF (g.from m).aH w) (aF (g.from m).aH v))
 |none=>0
theorem Ib{i:Int}{v w:Nat}(H:gy h t g ms)(hR:g.Right)(hm:∀m∈ms,m<g.n)(hl:ms.length<=16)(hv:v<g.n)(hw:w<g.n)(hK:∀h',Ext h h'->K (I (Ia g ms i v w)) h'):ah Tryz.prog wO [ptr t,I i,I v,I w] h K:=by
 refine aK (adT _ _ _ _ ?_);unfold RF xo;refine yg H hv ?_;rw[bH,Bool.not_true,aL];refine yg H hw ?_;rw[bH,Bool.not_true,aL,bu,bg];unfold Ia uK at hK;refine⟨λhi=> ?_,λhi=> ?_⟩
 ·rw[if_neg (by omega)]at hK;exact hK h (.refl _ _)
 ·obtain⟨k,rfl⟩:=Int.eq_ofNat_of_zero_le (by omega:0<=i);rw[if_pos (by omega),Int.toNat_natCast]at hK;refine uz (Own.start h) H hl λw' h1 o1=>(o1.vw 0 rfl).len ?_;rw[dI,c8,bg];refine⟨λhge=> ?_,λhlt=> ?_⟩
  ·rw[List.getElem?_eq_none (by omega)]at hK;exact hK h1 o1.ext
  ·have hk:k<ms.length:=by omega
   rw[List.getElem?_eq_getElem hk]at hK;dsimp only at hK;have hmk:=hm _ (List.getElem_mem hk);have T1:=(oO hR hmk).ls;have T2:=(eX hR hmk).ls;have H1:=H.more o1.ext;refine aK (Sx _ _ _ _ _ ?_);unfold Gx;refine Vs H1 hR hm hk hv (Vs H1 hR hm hk hw ?_);refine bU (l:=[I _,I _]) rfl (H8 (HJ (T1.gC hv) (T1.iB hv) (T1.gC hw) (T1.iB hw) λh2 a=> ?_));have H2:=H1.more a;refine aK (Sx _ _ _ _ _ ?_);unfold Gx;refine Vt H2 hR hm hk hv (Vt H2 hR hm hk hw ?_);refine bU (l:=[I _,I _]) rfl (H8 (Va (T2.gC hv) (T2.iB hv) (T2.gC hw) (T2.iB hw) λh3 b=> ?_));dsimp only;rw[l9,BN];exact hK h3 ((o1.ri a).trans b λ_ h _=>h)
theorem Ic{va:Value}{act:List Int}{v w:Nat}(H:gy h t g ms)(hR:g.Right)(hm:∀m∈ms,m<g.n)(hl:ms.length<=16)(hv:v<g.n)(hw:w<g.n)(hA:Vw aG 1 h va act)(hal:act.length<2^40)(hK:∀h',Ext h h'->K (I (dG g (bh ms act) v w)) h'):ah Tryz.prog wQ [ptr t,va,I v,I w] h K:=by
 refine aK (adW _ _ _ _ ?_);unfold RK;refine hA.len ?_;refine cg act.length (λi x h'=>x.1=I (dG g (bh ms (act.take i)) v w)/\x.2.1=I i/\Ext h h') ⟨rfl,rfl,.refl _ _⟩ ?_;rintro i ⟨x,y,⟨⟩⟩ h1 Z hi ⟨hx,hy,x1⟩ hZ;dsimp only at hx hy hZ ⊢;subst hx hy;unfold RJ;rw[bu,bg];refine⟨λhlt=> ?_,λhge=> ?_⟩
 ·have hlt:i<act.length:=by omega
  refine(hA.more x1).cV hlt (Ib (H.more x1) hR hm hl hv hw λh2 d=> ?_);rw[l9,BN,bt,wI i (by omega)];refine hZ (_,(I (i+1:Nat),())) h2 hlt ⟨?_,rfl,x1.trans d λ_ h _=>h⟩;have hb:=@r8 g v w (bh ms (act.take i));dsimp only;rw[List.take_succ_eq_append_getElem hlt];unfold bh Ia at *;rw[List.filterMap_append];generalize List.filterMap (uK ms) (act.take i)=q at hb ⊢;cases hs:uK ms act[i]with
  |none=>
   rw[List.filterMap_cons_none hs,List.filterMap_nil,List.append_nil];dsimp only;rw[show max (dG g q v w) 0=dG g q v w by omega]
  |some m=>
   rw[List.filterMap_cons_some hs,List.filterMap_nil,U2];dsimp only;unfold gU;rw[show ∀a b c:Int,max a (max b c)=max (max a b) c by intro a b c;omega]
 ·have :act.take i=act:=List.take_of_length_le (by omega);rw[this];exact hK h1 x1
end
open Go Go.Mh
section
variable{h0 h:aa}{L:List aM}{K:KT}{g:G}{t r:Nat}{ms:List Nat}{vd cv:Value}
theorem ahF{q:Nat}{xs:List Int}(o:Own h0 h L)(hq:L[q]? =some (aA aG 1 au vd xs))(hl:xs.length<2^40)
  (hC:∀(ys:List Int)(h':aa)(a b:Int)(K':KT),Own h0 h' (L.set q (aA aG 1 au vd ys))->(∀(z:Int) h'',Ext h' h''->K' (I z) h'')->aS Tryz.prog cv [I a,I b].toArray h' K')
  (hK:∀ys h',ys.length=xs.length->Own h0 h' (L.set q (aA aG 1 au vd ys))->K (.tuple #[]) h'):ah Tryz.prog tT [vd,I (0:Nat),I xs.length,cv] h K:=by
 refine aK (Tj _ _ _ _ ?_);unfold GH;rw[bt,wI 0 (by decide)];refine cg (xs.length-1) (λi x h'=>x.1=I (i+1:Nat)/\∃ys,ys.length=xs.length/\Own h0 h' (L.set q (aA aG 1 au vd ys))) ⟨rfl,xs,rfl,by rw[qq hq];exact o⟩ ?_;clear o;rintro i ⟨x,⟨⟩⟩ h1 Z hi ⟨hx,ys,hy,o⟩ hZ;dsimp only at hx hZ ⊢;subst hx;unfold GG;rw[bu,bg];refine⟨λhlt=> ?_,λhge=>hK ys h1 hy o⟩;have hlt:i+1<xs.length:=by omega
 have c:∀{ys:List Int},(L.set q (aA aG 1 au vd ys))[q]? =some (aA aG 1 au vd ys):=kF hq;refine pW (λj x h'=>x.1=I j/\j<=i+1/\∃ys,ys.length=xs.length/\Own h0 h' (L.set q (aA aG 1 au vd ys))) (k0:=i+1) ⟨rfl,Nat.le_refl _,ys,hy,o⟩ ?_;clear o hy ys;rintro j ⟨x,⟨⟩⟩ h2 m ⟨hx,hj,ys,hy,o⟩ e;dsimp only at hx e ⊢;subst hx;unfold GF;refine gh (λy h'=>∃b,y.1=.bool b/\(b=true->0<j)/\Own h0 h' (L.set q (aA aG 1 au vd ys))) (λJ hJ=> ?_) ?_
 ·rw[dZ,bg];refine⟨λhpos=> ?_,λhz=>hJ _ _ ⟨false,rfl,(λh=>by cases h),o⟩⟩;refine(o.vw q c).cV (by omega) ?_;rw[eM,bG (by omega) (by omega),show(j:Int)-1=((j-1:Nat):Int) by omega];refine(o.vw q c).cV (by omega) (hC _ _ _ _ _ o λz h3 l=> ?_);rw[bu];exact hJ _ _ ⟨_,rfl,λ_=>by omega,o.more l⟩
 ·rintro⟨y,⟨⟩⟩ h3 ⟨b,hb,hp,d⟩;dsimp only at hb ⊢;subst hb;unfold GD;cases b with
  |false=>
   rw[aL,bt,wI (i+1) (by omega)];exact hZ (_,()) h3 (by omega) ⟨rfl,ys,hy,d⟩
  |true=>
   have hp:=hp rfl;rw[bq,eM,bG (by omega) (by omega),show(j:Int)-1=((j-1:Nat):Int) by omega];rw[eM,bG (by omega) (by omega),show(j:Int)-1=((j-1:Nat):Int) by omega];refine(d.vw q c).cV (by omega) ((d.vw q c).cV (by omega) ?_);refine d.iu q c (by omega) λh4 f=> ?_;rw[List.set_set]at f;refine f.iu q c (by rw[List.length_set];omega) λh5 k=> ?_;rw[List.set_set]at k;rw[eM,bG (by omega) (by omega),show(j:Int)-1=((j-1:Nat):Int) by omega];exact e (_,()) h5 (j-1) (by omega) ⟨rfl,by omega,_,by rw[List.length_set,List.length_set];exact hy,k⟩
theorem ahG{q:Nat}{xs:List Int}(o:Own h0 h L)(hq:L[q]? =some (aA aG 1 au vd xs))(hl:xs.length<20)
  (hC:∀(ys:List Int)(h':aa)(a b:Int)(K':KT),Own h0 h' (L.set q (aA aG 1 au vd ys))->(∀(z:Int) h'',Ext h' h''->K' (I z) h'')->aS Tryz.prog cv [I a,I b].toArray h' K')
  (hK:∀ys h',ys.length=xs.length->Own h0 h' (L.set q (aA aG 1 au vd ys))->K (.tuple #[]) h'):ah Tryz.prog Fj [vd,cv] h K:=by
 refine aK (aeq _ _ ?_);unfold Sw;refine(o.vw q hq).len (aK (aeP _ _ _ ?_));unfold Tb;refine cg 0 (λ_ x h'=>x.1=I (0:Nat)/\x.2.1=I 20/\h'=h) ⟨rfl,rfl,rfl⟩ ?_;rintro i ⟨x,y,⟨⟩⟩ h' Z hi ⟨hx,hy,rfl⟩ hZ;dsimp only at hx hy ⊢;subst hx hy;unfold Ta;rw[mS,decide_eq_false (by omega),aL];refine ahF o hq (by omega) hC λys h2 hy o2=> ?_;refine cg 0 (λ_ x h'=>x.1=I 20/\h'=h2) ⟨rfl,rfl⟩ ?_;rintro i ⟨x,⟨⟩⟩ h' Z hi ⟨hx,rfl⟩ hZ;dsimp only at hx ⊢;subst hx;unfold S9;rw[bu,decide_eq_false (by omega),aL];exact hK ys _ hy o2
def ahH(va:Value)(act:List Int)(cl:Value)(zs:List Int):Prop:=(∀h,Vw aG 1 h cl zs->Vw aG 1 h va act)/\act.length<=16
theorem Ie{v w:Nat}{most:Int}(o0:Own h0 h L)(H:gy h t g ms)(hR:g.Right)(hm:∀m∈ms,m<g.n)(hl:ms.length<=16)(hv:v<g.n)(hw:w<g.n)
  (hK:∀va act cl zs h',ahH va act cl zs->Own h0 h' (aA aG 1 au cl zs::L)->K va h'):ah Tryz.prog wH [ptr t,I v,I w,I most] h K:=by
 refine aK (acL _ _ _ _ ?_);unfold PJ;refine(Own.start h).box λt4 h1 o=>o.box λs5 h2 o=>o.box λc h3 o=> ?_;have o:Own h h3 [aj c [I w] au,aj s5 [I v] au,aj t4 [ptr t] eY]:=o;refine o.load 2 rfl rfl (uz o (H.more o.ext) hl λe h4 o=>(o.vw 0 rfl).len ?_);rw[dI];have o:Own h h4 (aA aG 1 au (.slice none 0 0) []:: [aA aG 1 au e (nI ms),aj c [I w] au,aj s5 [I v] au,aj t4 [ptr t] eY]):=Own.en o;refine cg ms.length (λi x h'=>x.2.1=I i/\∃ys:List Int,ys.length=i/\Own h h' (aA aG 1 au x.1 ys:: [aA aG 1 au e (nI ms),aj c [I w] au,aj s5 [I v] au,aj t4 [ptr t] eY])) ⟨rfl,[],rfl,o⟩ ?_;clear o;rintro i ⟨av,y,⟨⟩⟩ h5 Z hi ⟨hy,ys,B,o⟩ hZ;dsimp only at hy hZ o ⊢;subst hy;unfold PI;rw[bu,bg];refine⟨λhlt=> ?_,λhge=> ?_⟩
 ·refine o.fF 0 (i:Int) rfl rfl (bW rfl) (λ_=>rfl) ja rfl (by decide) (by omega) λu h6 p=> ?_;rw[bt,wI i (by omega)];exact hZ (u,(_,())) h6 (by omega) ⟨rfl,ys++ [(i:Int)],by rw[List.length_append];simp;omega,p⟩
 ·rw[l9];refine aK (adR _ _ _ ?_);unfold RD;refine xN o (o.vw 0 rfl) (by omega) λcl h6 p=> ?_;refine ahG p (q:=0) rfl (by omega) (λzs h' a b K' o' hk=> ?_) λzs h7 hzl d=> ?_
  ·refine bU (l:=[I a,I b,ptr t4,ptr s5,ptr c]) rfl (adS _ _ _ _ _ ?_);unfold RE;have o':Own h h' (aA aG 1 au cl zs::aA aG 1 au av ys:: [aA aG 1 au e (nI ms),aj c [I w] au,aj s5 [I v] au,aj t4 [ptr t] eY]):=o';refine o'.load 5 rfl rfl (o'.load 4 rfl rfl (o'.load 3 rfl rfl (o'.load 5 rfl rfl (o'.load 4 rfl rfl (o'.load 3 rfl rfl ?_)))));refine Ib (H.more o'.ext) hR hm hl hv hw λh8 s=> ?_;have f:=o'.more s;refine⟨f.load 5 rfl rfl rfl,f.load 4 rfl rfl rfl,f.load 3 rfl rfl rfl,?_⟩;refine Ib (H.more f.ext) hR hm hl hv hw λh9 z=> ?_;refine Uw ?_;exact hk _ _ (s.trans z λ_ h _=>h)
  ·have d:Own h h7 (aA aG 1 au cl zs::aA aG 1 au av ys:: [aA aG 1 au e (nI ms),aj c [I w] au,aj s5 [I v] au,aj t4 [ptr t] eY]):=d;refine(d.vw 0 rfl).len ?_;obtain⟨k,hk⟩:∃k:Nat,(if(zs.length:Int)<(if(1:Int)>most then 1 else most)then(zs.length:Int)else(if(1:Int)>most then 1 else most))=(k:Int)/\k<=zs.length:=by
    refine⟨((if(zs.length:Int)<(if(1:Int)>most then 1 else most)then(zs.length:Int)else(if(1:Int)>most then 1 else most))).toNat,?_,?_⟩<;>split<;>split<;>omega
   rw[oI,hk.1];refine(d.vw 0 rfl).G6 (a:=0) (j:=k) (λ_=>rfl) rfl rfl (Nat.zero_le _) hk.2 λva A=> ?_;refine hK va _ cl zs h7 ⟨A,?_⟩ (o0.frame (d.bh [0] (by decide)));rw[List.length_take,List.length_drop];omega
def Ig(fv:Value)(Q:aa->Prop)(n:Nat)(f:Nat->Int):Prop:=∀(h:aa)(K:KT)(v:Nat),v<n->Q h->(∀h',Ext h h'->K (I (f v)) h')->aS Tryz.prog fv [I v].toArray h K
theorem Vu{fv:Value}{Q:aa->Prop}{f:Nat->Int}{a2 a3:Nat}{T1 T2:TypeId}(hF:Ig fv Q g.n f)(hg:g.n<2^40):
  gP Tryz.prog (.func (.func Fo) #[] #[ptr a2,ptr a3]) (λh=>h[a2]? =some (.cells #[ptr t] T1 (0,0))/\h[a3]? =some (.cells #[fv] T2 (0,0))/\gy h t g ms/\Q h) (σ:=Nat) 0 (λi x i'=>i<g.n/\x=[I (f i)]/\i'=i+1) (λi=>i=g.n):=by
 rintro yv h0 h d K J E ⟨l,rfl⟩ o b hQ hY hK;refine iJ (l:=[dm l,ptr a2,ptr a3]) rfl (aev _ _ _ ?_);unfold SD;obtain⟨hm,_,hT,_⟩:=hQ _ _ _ b o;refine bC rfl (aY hm rfl) (uJ hT ?_);refine cg g.n (λi x h'=>x.1=I i/\∃a,J i a/\Own h0 h' a) ⟨rfl,d,b,o⟩ ?_;rintro i ⟨x,⟨⟩⟩ h Z hi ⟨hx,a,hj,o⟩ hZ;dsimp only at hx hZ ⊢;subst hx;unfold SC;rw[bu,bg];refine⟨λhlt=> ?_,λhge=> ?_⟩
 ·have hlt:i<g.n:=by omega
  obtain⟨_,hh,_,hq⟩:=hQ _ _ _ hj o;refine bC rfl (aY hh rfl) (hF _ _ i hlt hq λh1 x1=> ?_);refine hY i _ (i+1) a [] h1 _ ⟨hlt,rfl,rfl⟩ hj (o.more x1).mW (λc h'' hj' o'=> ?_) λc h'' he o'=> ?_
  ·rw[bH,Bool.not_true,aL,bt,wI i (by omega)];exact hZ (I (i+1:Nat),()) h'' hlt ⟨rfl,c,hj',o'.fm⟩
  ·rw[bH,Bool.not_false,bq];exact hK _ _ (.inr he) o'.fm
 ·have :i=g.n:=by omega
  subst this;exact hK _ _ (.inl ⟨_,rfl,hj⟩) o
theorem Vv{f:Nat->Int}{n:Nat}:(List.range (n+1)).map f=(List.range n).map f++ [f n]:=by
 rw[List.range_succ,List.map_append];rfl
theorem Ih{va:Value}{act:List Int}{w:Nat}(o:Own h0 h L)(H:gy h t g ms)(hR:g.Right)(hm:∀m∈ms,m<g.n)(hl:ms.length<=16)(hw:w<g.n)(hA:Vw aG 1 h va act)(hal:act.length<=16)
  (hK:∀pv h',Own h0 h' (aA aG 1 bY pv (nA g (bh ms act) w)::L)->K pv h'):ah Tryz.prog wJ [ptr t,va,I w] h K:=by
 have z:=hR.most;refine aK (acM _ _ _ ?_);unfold PM;refine(Own.start h).box λt3 h1 o1=>o1.box λa4 h2 o2=>o2.box λa h3 p=>p.box λf h4 b=> ?_;rw[show va.cells.toList=[va] by rw[hA.one]]at b;have b:Own h h4 [aj f [aN] gj,aj a [I w] au,aj a4 [va] bR,aj t3 [ptr t] eY]:=b;refine b.load 3 rfl rfl (b.load 1 rfl rfl (yg (H.more b.ext) hw ?_));rw[bH,Bool.not_true,aL];refine b.load 3 rfl rfl (aK (RH _ _ ?_));unfold Gt;refine b.box λb2 h5 q=>q.box λb3 h6 i=> ?_;have i:Own h h6 ([aj b3 [.func (.func wP) #[] #[ptr t3,ptr a4,ptr a]] kK,aj b2 [ptr t] eY,aj f [aN] gj]++ [aj a [I w] au,aj a4 [va] bR,aj t3 [ptr t] eY]):=i;have u:=Own.en (enc:=aG) (n:=1) (T:=bY) i;have hF:Ig (.func (.func wP) #[] #[ptr t3,ptr a4,ptr a]) (λh'=>Ext h h'/\h'[t3]? =some (.cells #[ptr t] eY (0,0))/\h'[a4]? =some (.cells #[va] bR (0,0))/\h'[a]? =some (.cells #[I w] au (0,0))) g.n λv=>dG g (bh ms act) v w:=λh' K' v hv⟨x,q1,q2,y⟩ hk=>by
  refine bU (l:=[I v,ptr t3,ptr a4,ptr a]) rfl (adV _ _ _ _ ?_);unfold RI;refine bC rfl (aY q1 rfl) (bC rfl (aY q2 rfl) (bC rfl (aY y rfl) ?_));exact Ic (H.more x) hR hm hl hv hw (hA.more x) (by omega) λh'' x''=>hk h'' x''
 refine u.range (Vu (t:=t) (ms:=ms) (T1:=eY) (T2:=kK) hF (by omega)) (λs x s' hn=>by obtain⟨_,rfl,_⟩:=hn;rfl)
  (λs c=>s<=g.n/\∃pv,c=aA aG 1 bY pv ((List.range s).map λv=>dG g (bh ms act) v w):: [aj b3 [.func (.func wP) #[] #[ptr t3,ptr a4,ptr a]] kK,aj b2 [ptr t] eY,aj f [pv] gj,aj a [I w] au,aj a4 [va] bR,aj t3 [ptr t] eY])
  (λ_=>False) (λ_ _=>False) ⟨Nat.zero_le _,_,rfl⟩ ?_ ?_ ?_ (λ_ _ h=>h.elim) (λ_ _ _ h=>h.elim)
 ·rintro s c h' ⟨_,pv,rfl⟩ o';exact⟨o'.get 2 rfl,o'.get 1 rfl,H.more o'.ext,o'.ext,o'.get 6 rfl,o'.get 5 rfl,o'.get 4 rfl⟩
 ·rintro M s x s' c Pr h' R ⟨hs,rfl,rfl⟩ ⟨_,pv,rfl⟩ o' hN _ _;dsimp only[fk];unfold PK;refine o'.begin 0 rfl λh8 d=> ?_;refine d.load 5 rfl rfl ?_;refine d.fF 2 (dG g (bh ms act) s w) rfl rfl (bW rfl) (λ_=>rfl) ja rfl (by decide) (by rw[List.length_map,List.length_range];omega) λj h9 k=> ?_;have hv:=k.vw 2 rfl;refine k.bf 5 (cs':=[j]) rfl rfl rfl hv.one hv.plain λh10 e=> ?_;refine hN _ h10 ⟨hs,j,rfl⟩ ?_;rw[Vv];exact e
 ·rintro s h' c rfl ⟨_,pv,rfl⟩ o';have hv:=o'.vw 1 rfl;refine o'.load 4 rfl rfl (o'.bf 4 (cs':=[pv]) rfl rfl rfl hv.one hv.plain λh8 d=> ?_);refine d.iZ 0 rfl λh10 e=> ?_;refine e.load 4 rfl rfl ?_;exact hK pv h10 (o.frame (e.bh [1] (by decide)))
theorem ahI{a b:Int}(a0:0<=a)(a1:a<=aI)(b0:0<=b)(b1:b<=aI)(hK:∀h',Ext h h'->K (I (sg a b)) h'):ah Tryz.prog E7 [I a,I b] h K:=by
 have hf:aI=72057594037927936:=rfl;refine aK (ad4 _ _ ?_);unfold RT Gu;unfold sg at hK;refine xO a0 a1 λh1 x1=> ?_;rw[bH];by_cases c1:aI<=a
 ·rw[decide_eq_false (by omega),Bool.not_false,bq];rw[if_pos (.inl c1)]at hK;exact hK _ x1
 ·rw[decide_eq_true (by omega),Bool.not_true,aL];refine xO b0 b1 λh2 d=> ?_;have c:=x1.trans d λ_ h _=>h;rw[bH];by_cases c2:aI<=b
  ·rw[decide_eq_false (by omega),Bool.not_false,bq];rw[if_pos (.inr c2)]at hK;exact hK _ c
  ·rw[decide_eq_true (by omega),Bool.not_true,aL];rw[if_neg (by omega)]at hK;refine uA λh3 e=>uA λh4 f=> ?_;rw[qt a0 a1,qt b0 b1,eM,bG (by omega) (by omega)];exact hK _ ((c.trans e λ_ h _=>h).trans f λ_ h _=>h)
theorem ahJ{fv:Value}{Q:aa->Prop}{f:Nat->Int}{n:Nat}{stop:Nat->Prop}(o:Own h0 h L)(hI:gP Tryz.prog fv Q (σ:=Nat) 0 (λi x i'=>i<n/\x=[I (f i)]/\i'=i+1) (λi=>i=n))(hn:n<2^40)(hQ:∀(a:List aM) h',Own h0 h' (a++L)->Q h')
  (hK:∀w h',Own h0 h' (aA aG 1 bY w ((List.range n).map f)::L)->K w h'):ah Tryz.prog E6 [fv] h K:=by
 refine aK (ad2 _ ?_);unfold RR;refine aK (aew _ _ ?_);unfold SF;refine o.box λs2 h1 o1=> ?_;have o2:Own h0 h1 (aA aG 1 bY (.slice none 0 0) []::aj s2 [.slice none 0 0] gj::L):=Own.en (enc:=aG) (n:=1) (T:=bY) o1;refine o2.range hI (λs x s' hn=>by obtain⟨_,rfl,_⟩:=hn;rfl)
  (λs a=>∃w,a=aA aG 1 bY w ((List.range s).map f)::aj s2 [w] gj::L) (λ_=>False) (λ_ _=>False) ⟨_,rfl⟩ ?_ ?_ ?_ (λ_ _ h=>h.elim) (λ_ _ _ h=>h.elim)
 ·rintro s a h' ⟨w,rfl⟩ o';exact hQ [_,_] h' o'
 ·rintro M s x s' a Pr h' R ⟨hs,rfl,rfl⟩ ⟨w,rfl⟩ o' hN _ _;dsimp only[fk];unfold SE;refine o'.begin 0 rfl λh4 b=> ?_;have b:Own h0 h4 (b6 _ _::bX _::aA aG 1 bY w ((List.range s).map f)::aj s2 [w] gj::(L++Pr)):=b;refine b.load 3 rfl rfl ?_;refine b.fF 2 (f s) rfl rfl (bW rfl) (λ_=>rfl) ja rfl (by decide) (by rw[List.length_map,List.length_range];omega) λw' h5 c=> ?_;have hw':=c.vw 2 rfl;refine c.bf 3 (cs':=[w']) rfl rfl rfl hw'.one hw'.plain λh6 d=> ?_;refine hN _ h6 ⟨w',rfl⟩ ?_;rw[Vv];exact d
 ·rintro s h' a rfl ⟨w,rfl⟩ o';refine o'.load 2 rfl rfl (o'.iZ 0 rfl λh10 e=>hK w h10 ?_);exact e.tail.front 2 [0] (by decide) (by decide)
theorem Vx{act:List Int}{v w:Nat}(hR:g.Right)(hm:∀m∈ms,m<g.n)(hv:v<g.n)(hw:w<g.n):0<=dG g (bh ms act) v w/\dG g (bh ms act) v w<=aI:=
 ⟨r8,by have :=uF hR hv hw (H9 (act:=act) hm);have :=(eX hR hv).ls.iB hw;omega⟩
theorem Vy{va:Value}{act:List Int}{s w:Nat}(o:Own h0 h L)(H:gy h t g ms)(hR:g.Right)(hm:∀m∈ms,m<g.n)(hl:ms.length<=16)(hs:s<g.n)(hw:w<g.n)(hA:Vw aG 1 h va act)(hal:act.length<=16)
  (hK:∀pv h',Own h0 h' (aA aG 1 bY pv (mG g (bh ms act) s w)::L)->K pv h'):ah Tryz.prog zW [ptr t,va,I s,I w] h K:=by
 have B:=hR.most;refine aK (acP _ _ _ _ ?_);unfold PT;refine(Own.start h).box λt4 h1 o1=>o1.box λa5 h2 o2=>o2.box λb h3 k=>k.box λw7 h4 a=> ?_;rw[show va.cells.toList=[va] by rw[hA.one]]at a;have a:Own h h4 [aj w7 [I w] au,aj b [I s] au,aj a5 [va] bR,aj t4 [ptr t] eY]:=a;refine a.load 3 rfl rfl (a.load 1 rfl rfl (yg (H.more a.ext) hs ?_));rw[bH,Bool.not_true,aL];refine a.load 3 rfl rfl (a.load 0 rfl rfl (yg (H.more a.ext) hw ?_));rw[bH,Bool.not_true,aL];refine a.load 3 rfl rfl (aK (RH _ _ ?_));unfold Gt;refine a.box λb2 h5 p=>p.box λb3 h6 d=> ?_;have d:Own h h6 [aj b3 [.func (.func wR) #[] #[ptr t4,ptr a5,ptr w7,ptr b]] kK,aj b2 [ptr t] eY,aj w7 [I w] au,aj b [I s] au,aj a5 [va] bR,aj t4 [ptr t] eY]:=d;have hF:Ig (.func (.func wR) #[] #[ptr t4,ptr a5,ptr w7,ptr b]) (λh'=>Ext h h'/\h'[t4]? =some (.cells #[ptr t] eY (0,0))/\h'[a5]? =some (.cells #[va] bR (0,0))/\h'[w7]? =some (.cells #[I w] au (0,0))/\h'[b]? =some (.cells #[I s] au (0,0))) g.n λv=>sg (dG g (bh ms act) v w) (dG g (bh ms act) s v):=λh' K' v hv⟨x,q1,q2,u,f⟩ hk=>by
  refine bU (l:=[I v,ptr t4,ptr a5,ptr w7,ptr b]) rfl (ad3 _ _ _ _ _ ?_);unfold RS;refine bC rfl (aY q1 rfl) (bC rfl (aY q2 rfl) (bC rfl (aY u rfl) (bC rfl (aY q1 rfl) (bC rfl (aY q2 rfl) (bC rfl (aY f rfl) ?_)))));refine Ic (H.more x) hR hm hl hv hw (hA.more x) (by omega) λh2 c=> ?_;refine⟨bC rfl (aY (c.get q1) rfl) rfl,bC rfl (aY (c.get q2) rfl) rfl,bC rfl (aY (c.get f) rfl) rfl,?_⟩;have j:=x.trans c λ_ h _=>h;refine Ic (H.more j) hR hm hl hs hv (hA.more j) (by omega) λh3 y=> ?_;have n1:=Vx (act:=act) hR hm hv hw;have n2:=Vx (act:=act) hR hm hs hv;exact ahI n1.1 n1.2 n2.1 n2.2 λh4 z=>hk h4 ((c.trans y λ_ h _=>h).trans z λ_ h _=>h)
 refine ahJ (stop:=λ_=>True) d (Vu (t:=t) (ms:=ms) (T1:=eY) (T2:=kK) hF (by omega)) (by omega) (λe h' o'=> ?_) λpv h8 A=> ?_
 ·have q:∀(i:Nat)(R:aM),[aj b3 [.func (.func wR) #[] #[ptr t4,ptr a5,ptr w7,ptr b]] kK,aj b2 [ptr t] eY,aj w7 [I w] au,aj b [I s] au,aj a5 [va] bR,aj t4 [ptr t] eY][i]? =some R->R.Q h':=λi R hi=>o'.get (e.length+i) (by rw[List.getElem?_append_right (by omega),show e.length+i-e.length=i by omega];exact hi);exact⟨q 1 _ rfl,q 0 _ rfl,H.more o'.ext,o'.ext,q 5 _ rfl,q 4 _ rfl,q 2 _ rfl,q 3 _ rfl⟩
 ·exact hK pv h8 (o.frame (A.bh [0] (by decide)))
end
open Go Go.Mh
abbrev iG(p:iF)(dv:Value):List Value:=[I p.marks,I p.rule,dv,I p.kind,I p.cells]
abbrev lT(p:iF)(dv:Value):Value:=.agg (iG p dv).toArray
def eE(f:Nat):Value:=.func (.func f) #[] #[]
def oa(p:Nat×Int):List Value:=[eE p.1,I p.2]
theorem ahW(p:Nat×Int):∀u∈oa p,Mh.plainCell u=true:=by intro u hu;simp[oa]at hu;rcases hu with rfl|rfl<;>rfl
section
variable{h0 h:aa}{L:List aM}{K:KT}{p:iF}{dv:Value}
def qC:Int->Option Value:=cu (cu (λ_=>none) 0 (eE qd)) 1 (eE rB)
def qD:Int->Option Value:=cu (cu (cu (λ_=>none) 0 (eE wk)) 1 (eE tw)) 2 (eE wq)
theorem VL(o:Own h0 h L)(hK:∀m h',Own h0 h' (dz m qC::L)->K (.map (some m)) h'):ah Tryz.prog zv [] h K:=by
 refine aK (aah ?_);unfold L4;exact o.mkMap λm h1 o1=>o1.kE 0 rfl (f':=cu (λ_=>none) 0 (eE qd)) (λx=>rfl) λh2 o2=>o2.kE 0 rfl (f':=qC) (λx=>rfl) λh3 a=>hK m h3 a
theorem VM(o:Own h0 h L)(hK:∀m h',Own h0 h' (dz m qD::L)->K (.map (some m)) h'):ah Tryz.prog zx [] h K:=by
 refine aK (aal ?_);unfold L9;exact o.mkMap λm h1 o1=>o1.kE 0 rfl (f':=cu (λ_=>none) 0 (eE wk)) (λx=>rfl) λh2 o2=>o2.kE 0 rfl (f':=cu (cu (λ_=>none) 0 (eE wk)) 1 (eE tw)) (λx=>rfl) λh3 a=>a.kE 0 rfl (f':=qD) (λx=>rfl) λh4 b=>hK m h4 b
theorem VN{z:Int}:(z=0/\qC z=some (eE qd))\/(z=1/\qC z=some (eE rB))\/(z≠0/\z≠1/\qC z=none):=by
 by_cases h0:z=0
 ·subst h0;exact .inl ⟨rfl,rfl⟩
 ·by_cases h1:z=1
  ·subst h1;exact .inr (.inl ⟨rfl,rfl⟩)
  ·refine .inr (.inr ⟨h0,h1,?_⟩);unfold qC cu;rw[if_neg h1,if_neg h0]
theorem VO{z:Int}:(z=0/\qD z=some (eE wk))\/(z=1/\qD z=some (eE tw))\/(z=2/\qD z=some (eE wq))\/(z≠0/\z≠1/\z≠2/\qD z=none):=by
 by_cases h0:z=0
 ·subst h0;exact .inl ⟨rfl,rfl⟩
 ·by_cases h1:z=1
  ·subst h1;exact .inr (.inl ⟨rfl,rfl⟩)
  ·by_cases h2:z=2
   ·subst h2;exact .inr (.inr (.inl ⟨rfl,rfl⟩))
   ·refine .inr (.inr (.inr ⟨h0,h1,h2,?_⟩));unfold qD cu;rw[if_neg h2,if_neg h1,if_neg h0]
theorem ym{f:Nat}{K:Value->Prop}(hK:K (.bool true)):bL true .func (eE f) .nilFunc K:=hK
theorem VP{K:Value->Prop}(hK:K (.bool false)):bL true .func .nilFunc .nilFunc K:=hK
def ck(p:iF):Nat->Bool
 |0=>decide (0<=p.marks/\p.marks<=16)
 |1=>decide (p.rule=0\/p.rule=1)
 |2=>decide (p.kind=0\/p.kind=1\/p.kind=2)
 |_=>decide (p.kind=0\/(1<=p.cells/\p.cells<=256))
theorem ahX(hK:∀h',Ext h h'->K (.bool (ck p 0)) h'):aS Tryz.prog (eE vZ) [lT p dv].toArray h K:=by
 refine bU (l:=[lT p dv]) rfl (aaL _ ?_);unfold MH;refine(Own.start h).box λb h1 o1=> ?_;have o1:Own h h1 [aj b (iG p dv) fG]:=o1;have hk:=hK h1 o1.ext;simp only[aQ,Nat.zero_add];refine o1.load 0 rfl rfl ?_;rw[c8,bg];refine⟨λh1=>o1.load 0 rfl rfl ?_,λh1=> ?_⟩
 ·rw[mS];rw[show ck p 0=decide (p.marks<=16)from decide_eq_decide.2 ⟨λh=>h.2,λh=>⟨h1,h⟩⟩]at hk;exact hk
 ·rw[show ck p 0=false from decide_eq_false λh=>h1 h.1]at hk;exact hk
theorem ahY(hK:∀h',Ext h h'->K (.bool (ck p 1)) h'):aS Tryz.prog (eE wg) [lT p dv].toArray h K:=by
 refine bU (l:=[lT p dv]) rfl (aaM _ ?_);unfold MI;refine(Own.start h).box λb h1 o1=> ?_;have o1:Own h h1 [aj b (iG p dv) fG]:=o1;simp only[aQ,Nat.zero_add];refine o1.load 0 rfl rfl (VL o1 λm h2 o2=>⟨o2.load 1 rfl rfl rfl,o2.look 0 rfl ?_⟩);simp only[Bool.false_eq_true,if_false];have hk:=hK h2 o2.ext;rcases @VN p.rule with ⟨e,h⟩|⟨e,h⟩|⟨e1,e2,h⟩
 ·rw[h,Option.getD_some];rw[show ck p 1=true from decide_eq_true (.inl e)]at hk;exact ym hk
 ·rw[h,Option.getD_some];rw[show ck p 1=true from decide_eq_true (.inr e)]at hk;exact ym hk
 ·rw[h,Option.getD_none];rw[show ck p 1=false from decide_eq_false λh=>h.elim e1 e2]at hk;exact VP hk
theorem ahZ(hK:∀h',Ext h h'->K (.bool (ck p 2)) h'):aS Tryz.prog (eE wh) [lT p dv].toArray h K:=by
 refine bU (l:=[lT p dv]) rfl (aaN _ ?_);unfold MJ;refine(Own.start h).box λb h1 o1=> ?_;have o1:Own h h1 [aj b (iG p dv) fG]:=o1;simp only[aQ,Nat.zero_add];refine o1.load 0 rfl rfl (VM o1 λm h2 o2=>⟨o2.load 1 rfl rfl rfl,o2.look 0 rfl ?_⟩);simp only[Bool.false_eq_true,if_false];have hk:=hK h2 o2.ext;rcases @VO p.kind with ⟨e,h⟩|⟨e,h⟩|⟨e,h⟩|⟨e1,e2,e3,h⟩
 ·rw[h,Option.getD_some];rw[show ck p 2=true from decide_eq_true (.inl e)]at hk;exact ym hk
 ·rw[h,Option.getD_some];rw[show ck p 2=true from decide_eq_true (.inr (.inl e))]at hk;exact ym hk
 ·rw[h,Option.getD_some];rw[show ck p 2=true from decide_eq_true (.inr (.inr e))]at hk;exact ym hk
 ·rw[h,Option.getD_none];rw[show ck p 2=false from decide_eq_false λh=>h.elim e1 λh=>h.elim e2 e3]at hk;exact VP hk
theorem ah0(hK:∀h',Ext h h'->K (.bool (ck p 3)) h'):aS Tryz.prog (eE wj) [lT p dv].toArray h K:=by
 refine bU (l:=[lT p dv]) rfl (aaO _ ?_);unfold MK;refine(Own.start h).box λb h1 o1=> ?_;have o1:Own h h1 [aj b (iG p dv) fG]:=o1;have hk:=hK h1 o1.ext;simp only[aQ,Nat.zero_add];refine o1.load 0 rfl rfl ?_;rw[cF,iW];refine⟨λe=> ?_,λe=>o1.load 0 rfl rfl ?_⟩
 ·rw[show ck p 3=true from decide_eq_true (.inl e)]at hk;exact hk
 rw[c8,bg];refine⟨λh1=>o1.load 0 rfl rfl ?_,λh1=> ?_⟩
 ·rw[mS];rw[show ck p 3=decide (p.cells<=256)from decide_eq_decide.2 ⟨λh=>(h.resolve_left e).2,λh=>.inr ⟨h1,h⟩⟩]at hk;exact hk
 ·rw[show ck p 3=false from decide_eq_false λh=>h1 (h.resolve_left e).1]at hk;exact hk
def rules:List (Nat×Int):=[(vZ,11),(wg,12),(wh,13),(wj,14)]
theorem ah1{lv:Value}(H:Vw oa 2 h lv rules)(hn:(∀i,i<4->ck p i=true)->∀h',Ext h h'->K .nilIface h')
  (hs:∀i,i<4->ck p i=false->(∀j,j<i->ck p j=true)->∀b h',Own h h' [aj b [I (11+i:Nat),I 0,I 0,I 0] wU]->K (.iface FD (ptr b)) h'):ah Tryz.prog DF [lT p dv,lv] h K:=by
 refine aK (aaK _ _ ?_);unfold MG;refine(Own.start h).box λp2 h1 o1=> ?_;have o1:Own h h1 [aj p2 (iG p dv) fG]:=o1;refine H.len ?_;refine cg 4 (λi x h'=>x.1=I i/\(∀j,j<i->ck p j=true)/\Own h h' [aj p2 (iG p dv) fG]) ⟨rfl,λj h=>absurd h (by omega),o1⟩ ?_;clear o1;rintro i ⟨x,⟨⟩⟩ h' Z hi ⟨hx,hp,o⟩ hZ;dsimp only at hx hZ ⊢;subst hx;unfold MF;rw[bu,show(rules.length:Int)=4 from rfl,bg];refine⟨λhlt=> ?_,λhge=> ?_⟩
 ·have hlt:i<4:=by omega
  refine(H.more o.ext).mh (λ_=>rfl) (show i<rules.length from hlt) ?_;refine o.box λk h2 o2=> ?_;refine o2.st (l:=oa rules[i]) (cs':=oa rules[i]) 0 rfl rfl rfl rfl rfl (ahW _) λh3 a=> ?_;simp only[aQ,Nat.zero_add];refine a.load 0 rfl rfl (a.bN 1 rfl rfl rfl ?_);have d:rules[i].2=((11+i:Nat):Int):=by
   have :i=0\/i=1\/i=2\/i=3:=by omega
   rcases this with rfl|rfl|rfl|rfl<;>rfl
  have hF:∀{K':KT},(∀h4,Ext h3 h4->K' (.bool (ck p i)) h4)->aS Tryz.prog (eE rules[i].1) [lT p dv].toArray h3 K':=λhk=>by
   have :i=0\/i=1\/i=2\/i=3:=by omega
   rcases this with rfl|rfl|rfl|rfl
   ·exact ahX hk
   ·exact ahY hk
   ·exact ahZ hk
   ·exact ah0 hk
  refine hF λh4 f=> ?_;have c:=a.more f;rw[bH];cases hc:ck p i with
  |true=>
   rw[Bool.not_true,aL,bt,wI i (by omega)];refine hZ (I (i+1:Nat),()) h4 hlt ⟨rfl,λj hj=> ?_,c.bh [1] (by decide)⟩;by_cases e:j=i
   ·subst e;exact hc
   ·exact hp j (by omega)
  |false=>
   rw[Bool.not_false,bq];refine c.load 0 rfl rfl ?_;rw[d];refine cG (cs':=[I (11+i:Nat),I 0,I 0,I 0]) (by intro p hp;simp at hp;subst hp;rfl) rfl rfl ?_;exact c.box λb h5 g=>hs i hlt hc hp b h5 (g.bh [0] (by decide))
 ·exact hn (λj hj=>hp j (by omega)) h' o.ext
theorem BX:(p.wrong=0↔∀i,i<4->ck p i=true)/\∀i,i<4->ck p i=false->(∀j,j<i->ck p j=true)->p.wrong=((11+i:Nat):Int):=by
 unfold iF.wrong;constructor
 ·constructor
  ·intro h i hi;have :i=0\/i=1\/i=2\/i=3:=by omega
   split at h
   ·cases h
   split at h
   ·cases h
   split at h
   ·cases h
   split at h
   ·cases h
   rename_i a b c d;rcases this with rfl|rfl|rfl|rfl
   ·exact decide_eq_true (Decidable.not_not.1 a)
   ·exact decide_eq_true (Decidable.not_not.1 b)
   ·exact decide_eq_true (Decidable.not_not.1 c)
   ·exact decide_eq_true (Decidable.not_not.1 d)
  ·intro h;have a:=of_decide_eq_true (h 0 (by decide));have b:=of_decide_eq_true (h 1 (by decide));have c:=of_decide_eq_true (h 2 (by decide));have d:=of_decide_eq_true (h 3 (by decide));rw[if_neg (Decidable.not_not.2 a),if_neg (Decidable.not_not.2 b),if_neg (Decidable.not_not.2 c),if_neg (Decidable.not_not.2 d)]
 ·intro i hi hf hp;have :i=0\/i=1\/i=2\/i=3:=by omega
  rcases this with rfl|rfl|rfl|rfl
  ·rw[if_pos (of_decide_eq_false hf)];rfl
  ·rw[if_neg (Decidable.not_not.2 (of_decide_eq_true (hp 0 (by decide)))),if_pos (of_decide_eq_false hf)];rfl
  ·rw[if_neg (Decidable.not_not.2 (of_decide_eq_true (hp 0 (by decide)))),if_neg (Decidable.not_not.2 (of_decide_eq_true (hp 1 (by decide)))),if_pos (of_decide_eq_false hf)];rfl
  ·rw[if_neg (Decidable.not_not.2 (of_decide_eq_true (hp 0 (by decide)))),if_neg (Decidable.not_not.2 (of_decide_eq_true (hp 1 (by decide)))),if_neg (Decidable.not_not.2 (of_decide_eq_true (hp 2 (by decide)))),if_pos (of_decide_eq_false hf)];rfl
theorem ah2(hn:p.wrong=0->∀h',Ext h h'->K .nilIface h')
  (hs:p.wrong≠0->∀b h',Own h h' [aj b [I p.wrong,I 0,I 0,I 0] wU]->K (.iface FD (ptr b)) h'):ah Tryz.prog Du [lT p dv] h K:=by
 refine aK (aaf _ ?_);unfold LZ;refine(Own.start h).box λp1 h1 o1=> ?_;have o1:Own h h1 [aj p1 (iG p dv) fG]:=o1;refine o1.bN 0 rfl rfl rfl ?_;refine cG (cs':=oa (vZ,11)) (by intro p hp;simp at hp;rcases hp with rfl|rfl<;>rfl) rfl rfl ?_;refine cG (cs':=oa (wg,12)) (by intro p hp;simp at hp;rcases hp with rfl|rfl<;>rfl) rfl rfl ?_;refine cG (cs':=oa (wh,13)) (by intro p hp;simp at hp;rcases hp with rfl|rfl<;>rfl) rfl rfl ?_;refine cG (cs':=oa (wj,14)) (by intro p hp;simp at hp;rcases hp with rfl|rfl<;>rfl) rfl rfl ?_;refine o1.build (enc:=oa) (n:=2) rules rfl (bW rfl) rfl λlv h2 o2=> ?_;obtain⟨w1,w2⟩:=@BX p;refine ah1 (p:=p) (dv:=dv) (o2.vw 0 rfl) (λhall h' x=>hn (w1.2 hall) h' (o2.ri x)) λi hi hf hp b h' c=> ?_;have hw:=w2 i hi hf hp;have a:=o2.frame c;rw[<-hw]at a;exact hs (by rw[hw];omega) b h' (a.bh [0] (by decide))
end
open Go Go.Mh
section
variable{h0 h:aa}{L:List aM}{K:KT}{g:G}{r c:Nat}{v:Value}{xs ys:List Int}
theorem ah3{va vb:Value}(Ha:Vw aG 1 h va xs)(Hb:Vw aG 1 h vb ys)(hl:xs.length<2^40)(hK:K (.bool (decide (xs=ys))) h):ah Tryz.prog DI [va,vb] h K:=by
 refine aK (aaV _ _ ?_);unfold MY;refine Ha.len (Hb.len ?_);by_cases hxy:xs.length=ys.length
 ·rw[fE,show((xs.length:Int) != (ys.length:Int))=false by simp[hxy],aL];refine Ha.len ?_;refine cg xs.length (λi x h'=>x.1=I i/\h'=h/\xs.take i=ys.take i) ⟨rfl,rfl,rfl⟩ ?_;rintro i ⟨x,⟨⟩⟩ h' Z hi ⟨hx,rfl,hp⟩ hZ;dsimp only at hx hZ ⊢;subst hx;unfold MX;simp only[bu,bg];refine⟨λhlt=> ?_,λhge=> ?_⟩
  ·have hlt:i<xs.length:=by omega
   refine Ha.cV hlt (Hb.cV (by omega) ?_);rw[fE];by_cases e:xs[i]=ys[i]'(by omega)
   ·rw[e,bne_self_eq_false,aL,bt,wI i (by omega)];refine hZ (I (i+1:Nat),()) _ hlt ⟨rfl,rfl,?_⟩;rw[List.take_succ_eq_append_getElem hlt,List.take_succ_eq_append_getElem (show i<ys.length by omega),hp,e]
   ·rw[show(xs[i] != ys[i]'(by omega))=true by simpa using e,bq];have :xs≠ys:=λh=>e (by subst h;rfl);rw[decide_eq_false this]at hK;exact hK
  ·have :xs=ys:=by
    rw[List.take_of_length_le (by omega),List.take_of_length_le (by omega)]at hp;exact hp
   rw[decide_eq_true this]at hK;exact hK
 ·rw[fE,show((xs.length:Int) != (ys.length:Int))=true by simp;omega,bq];have :xs≠ys:=λh=>hxy (by rw[h]);rw[decide_eq_false this]at hK;exact hK
theorem ah4(H:Vw aG 1 h v xs)(hne:xs≠ [])(hl:xs.length<2^40)(hK:K (I (jw xs)) h):ah Tryz.prog DJ [v] h K:=by
 refine aK (aaW _ ?_);unfold M0;cases xs with
 |nil=>exact absurd rfl hne
 |cons z rs=>
 refine H.len ?_;rw[bu,decide_eq_false (by rw[List.length_cons];omega),aL];refine H.cV (i:=0) (by simp) ?_;refine cg rs.length (λi x h'=>x.1=I ((rs.take i).foldl max z)/\x.2.1=I (i+1:Nat)/\h'=h) ⟨rfl,rfl,rfl⟩ ?_;rintro i ⟨y,x,⟨⟩⟩ h' Z hi ⟨hy,hx,rfl⟩ hZ;dsimp only at hy hx hZ ⊢;subst hy hx;unfold MZ;refine H.len ?_;rw[List.length_cons]at hl ⊢;simp only[bu,bg];refine⟨λhlt=> ?_,λhge=> ?_⟩
 ·have hlt:i<rs.length:=by omega
  refine H.cV (i:=i+1) (by simp;omega) ?_;rw[List.getElem_cons_succ,l9,bt,wI (i+1) (by omega)];refine hZ (_,(I (i+1+1:Nat),())) _ hlt ⟨?_,rfl,rfl⟩;rw[List.take_succ_eq_append_getElem hlt,List.foldl_append,List.foldl_cons,List.foldl_nil];have hm:∀a b:Int,(if b>a then b else a)=max a b:=λa b=>by
   rw[Int.max_def];split<;>split<;>omega
  rw[hm]
 ·have :rs.take i=rs:=List.take_of_length_le (by omega);rw[this];exact hK
theorem VQ(o:Own h0 h L)(H:Vw aG 1 h v xs)(hl:xs.length<2^40)(hK:∀w h',Own h0 h' (aA aG 1 au w (norm xs)::L)->K w h'):ah Tryz.prog vW [v] h K:=by
 refine aK (aak _ ?_);unfold L8;refine aK (aaY ?_);unfold M4;refine(Own.start h).mkMap λm h1 o1=>o1.box λn h2 o2=>o2.bf 0 (cs':=[.map (some m)]) rfl rfl rfl rfl rfl λh3 a=> ?_;refine aK (aaX _ _ ?_);unfold M3;have b:Own h h3 (aA aG 1 au (.slice none 0 0) ([]:List Int)::aj n [.map (some m)] rL::dz m (nR []):: []):=Own.en (enc:=aG) (n:=1) (T:=au) a;refine H.len ?_;refine cg xs.length (λi x h'=>x.2.1=I i/\Own h h' (aA aG 1 au x.1 (iC [] (xs.take i))::aj n [.map (some m)] rL::dz m (nR (fq [] (xs.take i))):: [])) ⟨rfl,b⟩ ?_;clear o1 o2 a b;rintro i ⟨w,x,⟨⟩⟩ h' Z hi ⟨hx,o'⟩ hZ;dsimp only at hx hZ ⊢ o';subst hx;unfold M1;simp only[bu,bg];refine⟨λhlt=> ?_,λhge=> ?_⟩
 ·have hlt:i<xs.length:=by omega
  refine(H.more o'.ext).cV hlt ?_;refine bU (l:=[I xs[i],ptr n]) rfl (abU _ _ ?_);unfold Om;have hlen:(fq [] (xs.take i)).length<=i:=by
   have :=Ku (l:=xs.take i) (ns:=[]);rw[List.length_take,List.length_nil]at this;omega
  have hnl:(iC [] (xs.take i)).length<=i:=by rw[Dg,List.length_take];omega
  have e1:iC [] (xs.take (i+1))=iC [] (xs.take i)++ [((fq [] (xs.take i)).idxOf xs[i]:Int)]:=by
   rw[List.take_succ_eq_append_getElem hlt,Kt];rfl
  have e2:fq [] (xs.take (i+1))=fU (fq [] (xs.take i)) xs[i]:=by
   rw[List.take_succ_eq_append_getElem hlt,ZH];rfl
  have fin:∀h'',Own h h'' (aA aG 1 au w (iC [] (xs.take i))::aj n [.map (some m)] rL::dz m (nR (fq [] (xs.take (i+1)))):: [])->cz au (bO [(.int .i64 0)] 1) [(0,1,I ((fq [] (xs.take i)).idxOf xs[i]:Nat))] 1 h'' λt17 h_3=>
    cZ au 1 8 [(.int .i64 0)] w t17 h_3 λt18 h_4=>ak .add (I i) (.int .i64 1) λt19=>(λa0 a1 hz=>Z (a0,(a1,())) hz) t18 t19 h_4:=λh'' o2=>by
   refine o2.fF 0 ((fq [] (xs.take i)).idxOf xs[i]:Int) rfl rfl (bW rfl) (λ_=>rfl) ja rfl (by decide) (by omega) λw' h5 d=> ?_;rw[bt,wI i (by omega)];refine hZ (w',(I (i+1:Nat),())) h5 hlt ⟨rfl,?_⟩;rw[e1];exact d
  refine o'.load 1 rfl rfl (o'.look 2 rfl ?_);simp only[if_true,b9,bZ];by_cases hz:xs[i]∈fq [] (xs.take i)
  ·have e3:nR (fq [] (xs.take i)) xs[i]=some (I ((fq [] (xs.take i)).idxOf xs[i]:Nat)):=if_pos hz;rw[e3,Option.isSome_some,bH,Bool.not_true,aL];unfold AS;refine fin h' ?_;rw[e2,show fU (fq [] (xs.take i)) xs[i]=fq [] (xs.take i)from if_pos hz];exact o'
  ·have e3:nR (fq [] (xs.take i)) xs[i]=none:=if_neg hz;rw[e3,Option.isSome_none,bH,Bool.not_false,bq];refine o'.load 1 rfl rfl ?_;obtain⟨es,cl,e,hm2⟩:=o'.get 2 rfl;have hsz:=ZF hm2 (Dh .nil);simp only[pK,e];refine o'.load 1 rfl rfl (o'.kE 2 rfl (f':=nR (fq [] (xs.take (i+1)))) (λx=> ?_) λh2 o2=> ?_)
   ·rw[e2,show fU (fq [] (xs.take i)) xs[i]=fq [] (xs.take i)++ [xs[i]]from if_neg hz,ZG hz,hsz]
   ·unfold AS;have :=fin h2 o2;rw[List.idxOf_eq_length hz,<-hsz]at this;exact this
 ·have :xs.take i=xs:=List.take_of_length_le (by omega);rw[this]at o';exact hK w h' (o.frame (o'.bh [0] (by decide)))
def qE(v:Value)(l:List Int):List Value:=[v,I (jw l+1)]
def ia(h:aa)(c:Nat)(l:List Int):Prop:=∃v,h[c]? =some (.cells (qE v l).toArray qj (0,0))/\Vw aG 1 h v l
theorem ia.more{h':aa}(H:ia h c xs)(x:Ext h h'):ia h' c xs:=by
 obtain⟨s,h1,h2⟩:=H;exact⟨s,x.get h1,h2.more x⟩
theorem ah5(o:Own h0 h L)(p:Nat)(hp:L[p]? =some (aA aG 1 au v xs))(hne:xs≠ [])(hn:norm xs=xs)(hl:xs.length<2^40)(hm:jw xs<256)(hm0:0<=jw xs)
  (hK:∀c v' h',Own h0 h' (aj c (qE v' xs) qj::aA aG 1 au v' xs::L)->K (ptr c) h'):ah Tryz.prog zw [v] h K:=by
 refine aK (aaj _ ?_);unfold L7;refine(o.vw p hp).len ?_;have hpos:0<xs.length:=List.length_pos_iff.2 hne;rw[cF,show((xs.length:Int)==0)=false by simp;omega,aL];refine VQ o (o.vw p hp) hl λw h1 o1=> ?_;refine ah3 (o1.vw 0 rfl) (o1.vw (p+1) (by simpa using hp)) (by rw[hn];exact hl) ?_;rw[decide_eq_true hn,bH,Bool.not_true,aL];refine xN o1 (o1.vw (p+1) (by simpa using hp)) (by omega) λv' h2 o2=> ?_;refine ah4 (o2.vw (p+2) (by simpa using hp)) hne hl ?_;rw[bt,bG (by omega) (by omega)];have hv:=o2.vw 0 rfl;refine cG (cs':=qE v' xs) ?_ rfl rfl ?_
 ·intro p hp;simp at hp;rcases hp with rfl|rfl
  ·exact hv.one
  ·rfl
 refine o2.box λc h3 a=> ?_;have a:Own h0 h3 (aj c (qE v' xs) qj::aA aG 1 au v' xs::aA aG 1 au w (norm xs)::L):=a;simp only[bz,aQ];refine a.load 0 rfl rfl ?_;rw[dZ,decide_eq_false (by omega),aL];exact hK c v' h3 (a.erase 2)
theorem Im{i:Nat}(H:ia h c xs)(hi:i<xs.length)(hK:K (I (aF xs i)) h):ah Tryz.prog rD [ptr c,I i] h K:=by
 obtain⟨s,hb,hv⟩:=H;refine aK (acy _ _ ?_);unfold Ph;have c0:hcell h ⟨c,0,none⟩=some s:=aY hb rfl;simp only[ef,Option.isNone_some,aL];rw[bu,decide_eq_false (by omega),aL];simp only[bz,aQ,cI,Nat.zero_add,c0];refine hv.len ?_;rw[c8,decide_eq_false (by omega),aL];refine hv.vQ hi λb o hc=> ?_;simp only[cI,hc];rw[gZ hi];exact hK
theorem Io(H:ia h c xs)(hK:K (I (jw xs+1)) h):ah Tryz.prog wu [ptr c] h K:=by
 obtain⟨s,hb,hv⟩:=H;refine aK (aa3 _ ?_);unfold Nd;have c0:hcell h ⟨c,1,none⟩=some (I (jw xs+1)):=aY hb rfl;simp only[ef,Option.isNone_some,aL,bz,aQ,cI,Nat.zero_add,c0];exact hK
theorem ah6(o:Own h0 h L)(H:ia h c xs)(hl:xs.length<=2^40)(hK:∀w h',Own h0 h' (aA aG 1 au w xs::L)->K w h'):ah Tryz.prog D8 [ptr c] h K:=by
 obtain⟨s,hb,hv⟩:=H;refine aK (abZ _ ?_);unfold Oy;have c0:hcell h ⟨c,0,none⟩=some s:=aY hb rfl;simp only[ef,Option.isNone_some,aL,bz,aQ,cI,Nat.zero_add,c0];exact xN o hv hl hK
end
open Go Go.Mh
section
variable{h0 h:aa}{L:List aM}{K:KT}{vd:Value}
theorem VV{fv:Value}{Q:aa->Prop}{σ:Type}{s0:σ}{next :σ->List Value->σ->Prop}{stop:σ->Prop}(o:Own h0 h L)(hI:gP Tryz.prog fv Q s0 next stop)(g:σ->List Int)(g0:g s0=[])
  (hf:∀s x s',next s x s'->∃a,x=[I a]/\g s'=g s++ [a]/\(g s').length<2^40) (hQ:∀(b:List aM) h',Own h0 h' (b++L)->Q h')
  (hK:∀w h' s,stop s->Own h0 h' (aA aG 1 au w (g s)::L)->K w h'):ah Tryz.prog qa [fv] h K:=by
 refine aK (FO _ ?_);unfold AF;refine aK (FY _ _ ?_);unfold AP;refine o.box λs2 h1 o1=> ?_;have o2:Own h0 h1 (aA aG 1 au (.slice none 0 0) (g s0)::aj s2 [.slice none 0 0] bR::L):=by
  rw[g0];exact Own.en (enc:=aG) (n:=1) (T:=au) o1
 refine o2.range hI (λs x s' hn=>by obtain⟨a,rfl,_⟩:=hf s x s' hn;rfl)
  (λs b=>∃w,b=aA aG 1 au w (g s)::aj s2 [w] bR::L) (λ_=>False) (λ_ _=>False) ⟨_,rfl⟩ ?_ ?_ ?_ (λ_ _ h=>h.elim) (λ_ _ _ h=>h.elim)
 ·rintro s b h' ⟨w,rfl⟩ o';exact hQ [_,_] h' o'
 ·rintro M s x s' b Pr h' R hn ⟨w,rfl⟩ o' hN _ _;obtain⟨a,rfl,hg,d⟩:=hf s x s' hn;dsimp only[fk];unfold AO;refine o'.begin 0 rfl λh4 c=> ?_;have c:Own h0 h4 (b6 _ _::bX _::aA aG 1 au w (g s)::aj s2 [w] bR::(L++Pr)):=c;refine c.load 3 rfl rfl ?_;rw[hg,List.length_append]at d;refine c.fF 2 a rfl rfl (bW rfl) (λ_=>rfl) ja rfl (by decide) (by simp at d;omega) λw' h5 e=> ?_;have hw':=e.vw 2 rfl;refine e.bf 3 (cs':=[w']) rfl rfl rfl hw'.one hw'.plain λh6 f=> ?_;refine hN _ h6 ⟨w',rfl⟩ ?_;rw[hg];exact f
 ·rintro s h' b hs ⟨w,rfl⟩ o';refine o'.load 2 rfl rfl (o'.iZ 0 rfl λh10 i=>hK w h10 s hs ?_);exact i.tail.front 2 [0] (by decide) (by decide)
end
open Go Go.Mh
section
variable{h0 h:aa}{L:List aM}{K:KT}{b rows wide cW row i:Nat}{s:Value}{bs:List UInt8}
theorem aie{n:Nat}{x i:Value}{K K':Value->Prop}(h:aW n x i K)(hk:∀v,K v->K' v):aW n x i K':=by
 unfold aW at *;split
 ·exact⟨h.1,h.2.1,hk _ h.2.2⟩
 ·rename_i hno;split at h
  ·exact(hno _ _ _ _ _ _ rfl rfl).elim
  ·exact h
def ku(rows wide:Nat)(s:Value):List Value:=[I rows,I wide,I (bP wide:Nat),s]
def mH(h:aa)(b rows wide:Nat)(bs:List UInt8):Prop:=∃s,h[b]? =some (.cells (ku rows wide s).toArray jO (0,0))/\Vw iK 1 h s bs
theorem mH.more{h':aa}(H:mH h b rows wide bs)(x:Ext h h'):mH h' b rows wide bs:=by
 obtain⟨s,h1,h2⟩:=H;exact⟨s,x.get h1,h2.more x⟩
theorem Is(hb:h[b]? =some (.cells (ku rows wide s).toArray jO (0,0)))(hK:K (I rows) h):ah Tryz.prog wC [ptr b] h K:=by
 refine aK (acq _ ?_);unfold O9;have c0:hcell h ⟨b,0,none⟩=some (I rows):=aY hb rfl;simp only[ef,Option.isNone_some,aL,bz,aQ,cI,Nat.zero_add,c0];exact hK
theorem B0(hb:h[b]? =some (.cells (ku rows wide s).toArray jO (0,0)))(hK:K (I wide) h):ah Tryz.prog tJ [ptr b] h K:=by
 refine aK (acr _ ?_);unfold Pa;have c0:hcell h ⟨b,1,none⟩=some (I wide):=aY hb rfl;simp only[ef,Option.isNone_some,aL,bz,aQ,cI,Nat.zero_add,c0];exact hK
theorem aif{k:Nat}{K:Value->Prop}(hk:k<8)(hK:K (.int .u8 (ji k).toNat)):ak .shl (.int .u8 1) (I k) K:=by
 show 0<=(k:Int)/\K (.int .u8 (IntKind.u8.wrap (1*2^(min (k:Int).toNat IntKind.u8.bits))));rw[ah7 ⟨k,hk⟩];exact⟨by omega,hK⟩
theorem VW{a:Value}(hb:h[b]? =some (.cells (ku rows wide s).toArray jO (0,0)))(h1:row<rows)(h2:i<wide)(hm:rows*bP wide<2^40)
  (hK:aW 1 s (I (row*bP wide+i/8:Nat)) λt=>aS Tryz.prog a [t,.int .u8 (ji (i%8)).toNat].toArray h K):ah Tryz.prog zQ [ptr b,I row,I i,a] h K:=by
 refine aK (ab7 _ _ _ _ ?_);unfold OJ;rw[bu,decide_eq_false (by omega),aL];refine Is hb ?_;rw[c8,decide_eq_false (by omega),aL,bu,decide_eq_false (by omega),aL];refine B0 hb ?_;rw[c8,decide_eq_false (by omega),aL];have c2:hcell h ⟨b,2,none⟩=some (I (bP wide:Nat)):=aY hb rfl;have c3:hcell h ⟨b,3,none⟩=some s:=aY hb rfl;simp only[bz,aQ,cI,Nat.zero_add,c2,c3];have hq:=yp h2;have hlt:=BZ h1 hq;have e1:(row:Int)*(bP wide:Nat)=((row*bP wide:Nat):Int):=by rw[Int.natCast_mul]
 rw[jr,e1,bG (by omega) (by omega),mR];refine⟨by decide,?_⟩;have e2:(i:Int).tdiv 8=((i/8:Nat):Int):=by rw[Int.tdiv_eq_ediv_of_nonneg (by omega)];omega
 rw[e2,bG (by omega) (by omega),bt,bG (by omega) (by omega)];have e3:((row*bP wide:Nat):Int)+((i/8:Nat):Int)=((row*bP wide+i/8:Nat):Int):=by omega
 rw[e3];have fin:∀t,aS Tryz.prog a [t,.int .u8 (ji (i%8)).toNat].toArray h K->ak .rem (I i) (.int .i64 8) λt43=>ak .shl (.int .u8 1) t43 λt44=>aS Tryz.prog a [t,t44].toArray h λt45 h_4=>K t45 h_4:=λt ht=>by
  rw[nN];refine⟨by decide,?_⟩;have c:(i:Int).tmod 8=((i%8:Nat):Int):=by rw[Int.tmod_eq_emod_of_nonneg (by omega)];omega
  rw[c];exact aif (by omega) ht
 exact aie hK fin
theorem aih(H:mH h b rows wide bs)(h1:row<rows)(h2:i<wide)(hm:rows*bP wide<2^40)(hl:bs.length=rows*bP wide)(hK:K (.bool (eZ bs (bP wide) row i)) h):ah Tryz.prog FB [ptr b,I row,I i] h K:=by
 obtain⟨s,hb,hv⟩:=H;refine aK (aeN _ _ _ ?_);unfold S7;have hlt:=BZ h1 (yp h2);refine VW hb h1 h2 hm ?_;refine hv.idx (λ_=>rfl) (by omega) λbl o hc=> ?_;have hc:hcell h ⟨bl,o,none⟩=some (.int .u8 (bs[row*bP wide+i/8]'(by omega)).toNat):=by simpa[iK]using hc 0 (by omega)
 refine bU (l:=[.pointer (some ⟨bl,o,none⟩),.int .u8 (ji (i%8)).toNat]) rfl (aeV _ _ ?_);unfold Tl;simp only[bz,cI,hc];refine⟨rfl,?_⟩;dsimp only;rw[fE,and_val _ ⟨i%8,by omega⟩];unfold eZ at hK;rw[List.getD_eq_getElem?_getD,List.getElem?_eq_getElem (by omega),Option.getD_some]at hK;exact hK
theorem aii(o:Own h0 h L)(p q:Nat)(hpq:p≠q)(hp:L[p]? =some (aj b (ku rows wide s) jO))(hq:L[q]? =some (aA iK 1 ki s bs))(h1:row<rows)(h2:i<wide)(hm:rows*bP wide<2^40)(hl:bs.length=rows*bP wide)
  (hK:∀h',Own h0 h' (L.set q (aA iK 1 ki s (nB bs (bP wide) row i)))->K (.bool true) h'):ah Tryz.prog DL [ptr b,I row,I i,.bool true] h K:=by
 refine aK (aa6 _ _ _ _ ?_);unfold Nh;have hlt:=BZ h1 (yp h2);refine o.box λt c o1=> ?_;have hp1:(aj t [Value.bool true] eA::L)[p+1]? =some (aj b (ku rows wide s) jO):=by simpa using hp
 have hq1:(aj t [Value.bool true] eA::L)[q+1]? =some (aA iK 1 ki s bs):=by simpa using hq
 have o1:Own h0 c (aj t [Value.bool true] eA::L):=o1;refine VW (o1.get (p+1) hp1) h1 h2 hm ?_;refine o1.JR (q+1) hq1 (by omega) λbl H a=> ?_;have hc:hcell c ⟨bl,(row*bP wide+i/8)*1,none⟩=some (.int .u8 (bs[row*bP wide+i/8]'(by omega)).toNat):=H.slot (m:=1) (λ_=>rfl) (by omega) (j:=0) (by decide);refine bU (l:=[.pointer (some ⟨bl,(row*bP wide+i/8)*1,none⟩),.int .u8 (ji (i%8)).toNat,ptr t]) rfl (ab8 _ _ _ ?_);unfold OK;simp only[bz,cI,hc];refine⟨rfl,?_⟩;dsimp only;rw[ah8 _ ⟨i%8,by omega⟩];have hgd:bs.getD (row*bP wide+i/8) 0=bs[row*bP wide+i/8]'(by omega):=by rw[List.getD_eq_getElem?_getD,List.getElem?_eq_getElem (by omega),Option.getD_some]
 have e8:∀(bs':List UInt8)(y:UInt8),bs'.length=bs.length->bs'.take (row*bP wide+i/8)++ [y]++bs'.drop (row*bP wide+i/8+ [y].length)=bs'.set (row*bP wide+i/8) y:=λbs' y hy=>by
  rw[List.set_eq_take_append_cons_drop,if_pos (by omega)];simp
 refine⟨rfl,?_⟩;refine o1.vO (ys:=[bs[row*bP wide+i/8]'(by omega)&&& ~~~ji (i%8)]) (q+1) hq1 (λ_=>rfl) JW H a (by simp;omega) λf o2=> ?_;rw[e8 bs _ rfl]at o2;refine o2.load 0 rfl rfl ?_;rw[bq];have d:((aj t [Value.bool true] eA::L).set (q+1) (aA iK 1 ki s (bs.set (row*bP wide+i/8) (bs[row*bP wide+i/8]'(by omega)&&& ~~~ji (i%8)))))[q+1]? =some (aA iK 1 ki s (bs.set (row*bP wide+i/8) (bs[row*bP wide+i/8]'(by omega)&&& ~~~ji (i%8)))):=kF hq1;obtain⟨k,H2⟩:=o2.get (q+1) d;have e2:=H2.blk a;subst e2;have g:hcell f ⟨bl,(row*bP wide+i/8)*1,none⟩=some (.int .u8 (bs[row*bP wide+i/8]'(by omega)&&& ~~~ji (i%8)).toNat):=by
  have :=H2.slot (m:=1) (λ_=>rfl) (i:=row*bP wide+i/8) (by rw[List.length_set];omega) (j:=0) (by decide);rw[List.getElem_set_self]at this;exact this
 simp only[bz,cI,g];refine⟨rfl,?_⟩;dsimp only;rw[or_val _ ⟨i%8,by omega⟩];refine⟨rfl,?_⟩;refine o2.vO (ys:=[Ip (bs[row*bP wide+i/8]'(by omega)) (i%8)]) (q+1) d (λ_=>rfl) JW H2 a (by simp;omega) λh3 e=> ?_;rw[e8 _ _ (by simp),List.set_set,List.set_set]at e;unfold Ga;refine hK h3 ?_;unfold nB;rw[hgd];exact e.tail
end
open Go Go.Mh
section
variable{h0 h:aa}{L:List aM}{K:KT}{b rows wide row:Nat}{s:Value}{bs:List UInt8}
theorem aij(o:Own h0 h L)(hw:wide<=67108864)(hr:rows*bP wide<=268435456)(c:rows<2^40)
  (hK:∀b s h',Own h0 h' (aj b (ku rows wide s) jO::aA iK 1 ki s (List.replicate (rows*bP wide) 0)::L)->K (ptr b) h'):ah Tryz.prog DK [I rows,I wide] h K:=by
 refine aK (aa2 _ _ ?_);unfold Nc;have fin:AL Tryz.prog (I rows) (I (bP wide:Nat)) (I wide) K h:=by
  unfold AL;have e1:(rows:Int)*(bP wide:Nat)=((rows*bP wide:Nat):Int):=by rw[Int.natCast_mul]
  rw[jr,e1,bG (by omega) (by omega)];refine o.make (enc:=iK) (n:=1) (a:=0) rfl (by omega) (by omega) λw h1 o1=> ?_;have hv:=o1.vw 0 rfl;refine cG (cs':=[I rows,I wide,I (bP wide:Nat),w]) ?_ rfl rfl ?_
  ·intro p hp;simp at hp;rcases hp with rfl|rfl|rfl|rfl
   ·rfl
   ·rfl
   ·rfl
   ·exact hv.one
  refine o1.box λb h2 o2=>hK b w h2 o2
 rw[bu,decide_eq_false (by omega),aL,bu,decide_eq_false (by omega),aL,dZ,decide_eq_false (by omega),aL,bt,bG (by omega) (by omega),eM,bG (by omega) (by omega),mR];refine⟨by decide,?_⟩;have e2:((wide:Int)+8-1).tdiv 8=((bP wide:Nat):Int):=by rw[Int.tdiv_eq_ediv_of_nonneg (by omega)];unfold bP;omega
 have hlb:bP wide<=67108864:=by unfold bP;omega
 rw[e2,bG (by omega) (by omega),dZ,bg];refine⟨λhp=> ?_,λ_=>fin⟩;rw[mR];refine⟨by omega,?_⟩;have e3:(268435456:Int).tdiv ((bP wide:Nat):Int)=((268435456/bP wide:Nat):Int):=by rw[Int.tdiv_eq_ediv_of_nonneg (by omega)];exact(Int.natCast_ediv 268435456 (bP wide)).symm
 have h3:rows<=268435456/bP wide:=(Nat.le_div_iff_mul_le (by omega)).2 hr;have h4:268435456/bP wide<=268435456:=Nat.div_le_self _ _;rw[e3,bG (by omega) (by omega),dZ,decide_eq_false (by omega),aL];exact fin
theorem aik{b2 r3:Nat}{T1 T2:TypeId}(hr:row<rows)(hm:rows*bP wide<2^40)(hw:wide<2^40)(hl:bs.length=rows*bP wide):
  gP Tryz.prog (.func (.func FA) #[] #[ptr b2,ptr r3]) (λh=>h[b2]? =some (.cells #[ptr b] T1 (0,0))/\h[r3]? =some (.cells #[I row] T2 (0,0))/\mH h b rows wide bs) (σ:=Nat) 0 (vV wide λi=>eZ bs (bP wide) row i) (ry wide λi=>eZ bs (bP wide) row i):=by
 rintro yv h0 h j K J E ⟨l,rfl⟩ o d hQ hY hK;refine iJ (l:=[dm l,ptr b2,ptr r3]) rfl (aeM _ _ _ ?_);unfold S6;obtain⟨m,_,hb⟩:=hQ _ _ _ d o;have cm:hcell h ⟨b2,0,none⟩=some (ptr b):=aY m rfl;refine bC rfl cm ?_;obtain⟨s,n,_⟩:=hb;refine B0 n ?_;generalize hf:(λi=>eZ bs (bP wide) row i)=f at hY hK;refine cg wide (λi x h'=>x.1=I i/\∃s c,s<=i/\(∀k,s<=k->k<i->f k=false)/\J s c/\Own h0 h' c) ⟨rfl,0,j,Nat.le_refl _,λk _ h=>absurd h (by omega),d,o⟩ ?_;rintro i ⟨x,⟨⟩⟩ h Z hi ⟨hx,s,c,hs,hno,hj,o⟩ hZ;dsimp only at hx hZ ⊢;subst hx;unfold S5;simp only[bu,bg];refine⟨λhlt=> ?_,λhge=> ?_⟩
 ·have hlt:i<wide:=by omega
  obtain⟨p,q,hq⟩:=hQ _ _ _ hj o;have c1:hcell h ⟨b2,0,none⟩=some (ptr b):=aY p rfl;have c2:hcell h ⟨r3,0,none⟩=some (I row):=aY q rfl;refine bC rfl c1 (bC rfl c2 ?_);refine aih hq hr hlt hm hl ?_;rw[show eZ bs (bP wide) row i=f i by rw[<-hf]];by_cases a:f i=true
  ·rw[a,bq];refine hY s _ (i+1) c [] h _ ⟨i,hs,hlt,a,hno,rfl,rfl⟩ hj o.mW (λg h'' hj' o'=> ?_) λg h'' he o'=> ?_
   ·unfold Be;rw[bH,Bool.not_true,aL,bt,wI i (by omega)];exact hZ (I (i+1:Nat),()) h'' hlt ⟨rfl,i+1,g,Nat.le_refl _,λk _ h=>absurd h (by omega),hj',o'.fm⟩
   ·rw[bH,Bool.not_false,bq];exact hK _ _ (.inr he) o'.fm
  ·have a:f i=false:=by simpa using a
   unfold Be;rw[a,aL,bt,wI i (by omega)];refine hZ (I (i+1:Nat),()) h hlt ⟨rfl,s,c,by omega,λk h1 h2=> ?_,hj,o⟩;by_cases e:k=i
   ·subst e;exact a
   ·exact hno k h1 (by omega)
 ·have :i=wide:=by omega
  subst this;exact hK _ _ (.inl ⟨s,λk h1 h2=>hno k h1 h2,hj⟩) o
def j4(n:Nat)(f:Nat->Bool)(s:Nat):List Nat:=(List.range s).filter f
theorem It{n:Nat}{f:Nat->Bool}{s j:Nat}(hs:s<=j)(hf:f j=true)(hno:∀k,s<=k->k<j->f k=false):j4 n f (j+1)=j4 n f s++ [j]:=by
 unfold j4;rw[List.range_succ,List.filter_append];have e:(List.range j).filter f=(List.range s).filter f:=by
  obtain⟨d,rfl⟩:=Nat.le.dest hs;rw[List.range_add,List.filter_append];have :((List.range d).map (s+ ·)).filter f=[]:=by
   rw[List.filter_eq_nil_iff];intro x hx;obtain⟨k,hk,rfl⟩:=List.mem_map.1 hx;have :=List.mem_range.1 hk;rw[hno _ (by omega) (by omega)];decide
  rw[this,List.append_nil]
 rw[e];simp[hf]
theorem Iu{n:Nat}{f:Nat->Bool}{s:Nat}(hs:s<=n)(h:ry n f s):j4 n f s=(List.range n).filter f:=by
 unfold j4;obtain⟨d,rfl⟩:=Nat.le.dest hs;rw[List.range_add,List.filter_append];have :((List.range d).map (s+ ·)).filter f=[]:=by
  rw[List.filter_eq_nil_iff];intro x hx;obtain⟨k,hk,rfl⟩:=List.mem_map.1 hx;have :=List.mem_range.1 hk;rw[h _ (by omega) (by omega)];decide
 rw[this,List.append_nil]
theorem ail(o:Own h0 h L)(hN:∀h',Ext h h'->mH h' b rows wide bs)(hr:row<rows)(hm:rows*bP wide<2^40)(hw:wide<2^39)(hl:bs.length=rows*bP wide)
  (hK:∀w h',Own h0 h' (aA aV 1 au w ((List.range wide).filter λi=>eZ bs (bP wide) row i)::L)->K w h'):ah Tryz.prog EV [ptr b,I row] h K:=by
 refine aK (adA _ _ ?_);unfold Rg;refine(Own.start h).box λl4 h1 o1=> ?_;refine aK (aeo _ _ ?_);unfold St;refine o1.box λb2 h2 o2=>o2.box λr3 h3 g=> ?_;have a:Own h h3 (aA aV 1 au (.slice none 0 0) (j4 wide (λi=>eZ bs (bP wide) row i) 0)::aj r3 [I row] au::aj b2 [ptr b] nh::aj l4 [.slice none 0 0] bR:: []):=Own.en (enc:=aV) (n:=1) (T:=au) g;refine a.range (aik (b:=b) (rows:=rows) (bs:=bs) (T1:=nh) (T2:=au) hr hm (by omega) hl) (by rintro s x s' ⟨j,_,_,_,_,rfl,_⟩;rfl)
  (λs c=>s<=wide/\∃w,c=aA aV 1 au w (j4 wide (λi=>eZ bs (bP wide) row i) s)::aj r3 [I row] au::aj b2 [ptr b] nh::aj l4 [w] bR:: []) (λ_=>False) (λ_ _=>False) ⟨Nat.zero_le _,_,rfl⟩ ?_ ?_ ?_ (λ_ _ h=>h.elim) (λ_ _ _ h=>h.elim)
 ·rintro s c h' ⟨_,w,rfl⟩ o';exact⟨o'.get 2 rfl,o'.get 1 rfl,hN _ o'.ext⟩
 ·rintro M s x s' c Pr h' R ⟨j,hs,hj,hf,hno,rfl,rfl⟩ ⟨_,w,rfl⟩ o' k _ _;dsimp only[fk];unfold Rf;refine o'.begin 0 rfl λh4 a=> ?_;have a:Own h h4 (b6 _ _::bX _::aA aV 1 au w (j4 wide (λi=>eZ bs (bP wide) row i) s)::aj r3 [I row] au::aj b2 [ptr b] nh::aj l4 [w] bR::([]++Pr)):=a;refine a.load 5 rfl rfl ?_;have hlen:(j4 wide (λi=>eZ bs (bP wide) row i) s).length<=s:=by
   unfold j4;have :=List.length_filter_le (λi=>eZ bs (bP wide) row i) (List.range s);rw[List.length_range]at this;exact this
  refine a.fF 2 j rfl rfl (bW rfl) (λ_=>rfl) nP rfl (by decide) (by omega) λw' h5 e=> ?_;have hw':=e.vw 2 rfl;refine e.bf 5 (cs':=[w']) rfl rfl rfl hw'.one hw'.plain λh6 d=> ?_;refine k _ h6 ⟨by omega,w',rfl⟩ ?_;rw[It hs hf hno];exact d
 ·rintro s h' c hst ⟨hs,w,rfl⟩ o';rw[Iu hs hst]at o';have hw':=o'.vw 1 rfl;refine o'.load 4 rfl rfl (o'.bf 4 (cs':=[w]) rfl rfl rfl hw'.one hw'.plain λh6 d=> ?_);refine d.iZ 0 rfl λh7 f=>f.load 4 rfl rfl ?_;exact hK w h7 (o.frame (f.bh [1] (by decide)))
end
open Go Go.Mh
def dP(x:Bool):List Value:=[.bool x]
theorem Iv(x:Bool):(dP x).length=1:=rfl
theorem Iw(x:Bool):∀u∈dP x,Mh.plainCell u=true:=by intro u hu;simp[dP]at hu;subst hu;rfl
section
variable{h0 h:aa}{L:List aM}{K:KT}{g:G}{r:Nat}{d:List Int}{v:Value}{n:Nat}{f:Nat->Bool}
theorem aim{n2 j i:Nat}{sd sa so:Value}{T1 T2:TypeId}(hR:g.Right)(hd:d.length=g.n)(k:∀u,u<g.n->0<=aF d u/\aF d u<=aI)(hi:i<g.ag.length)
  (h1:h[n2]? =some (.cells #[ptr r] T1 (0,0))) (h2:h[j]? =some (.cells #[sd,sa,so] T2 (0,0))) (hN:bJ h r g) (hv:Vw aG 1 h sd d)
  (hK:∀h',Ext h h'->K (.bool (tgt d g.ag[i])) h'):aS Tryz.prog (.func (.func As) #[] #[ptr n2,ptr j]) [I i].toArray h K:=by
 refine bU (l:=[I i,ptr n2,ptr j]) rfl (aeK _ _ _ ?_);unfold S3;have c0:hcell h ⟨n2,0,none⟩=some (ptr r):=aY h1 rfl;have c1:hcell h ⟨j,0,none⟩=some sd:=aY h2 rfl;refine bC rfl c0 (nY hN hi λh3 m=> ?_);simp only[b9,bZ];have he:=hR.ends _ (List.getElem_mem hi);generalize g.ag[i]=a at he hK;have hW:(a.w:Int)<=2147483647:=by omega
 have hf:aI=72057594037927936:=rfl;have q1:=k _ he.1;have q2:=k _ he.2.1;have o:=(Own.start h).more m;refine o.box λb h4 p=>p.st 0 rfl rfl rfl rfl rfl (fS _) λh5 c=> ?_;simp only[aQ];refine bC rfl (lg c.ext c1) (c.load 0 rfl rfl ((hv.more c.ext).cV (by omega) (c.load 0 rfl rfl ?_)));rw[gZ];refine ag0 q2.1 q2.2 (by omega) (by omega) λh6 q=> ?_;have s:=c.more q;refine xO (by omega) (by omega) λh7 x7=> ?_;have e:=s.more x7;unfold tgt at hK;simp only[bg];refine⟨λhlt=> ?_,λhge=> ?_⟩
 ·refine bC rfl (lg e.ext c1) (e.load 0 rfl rfl ((hv.more e.ext).cV (by omega) ?_));rw[gZ,cF];have :=hK h7 e.ext;rw[decide_eq_true hlt,Bool.true_and]at this;exact this
 ·have :=hK h7 e.ext;rw[decide_eq_false hge,Bool.false_and]at this;exact this
def B2(hv:Value)(n:Nat)(f:Nat->Bool)(Q:aa->Prop):Prop:=
 ∀(h:aa)(K:KT)(i:Nat),i<n->Q h->(∀h',Ext h h'->K (.bool (f i)) h')->aS Tryz.prog hv [I i].toArray h K
theorem ain{m2 h3:Nat}{hv:Value}{Q:aa->Prop}{T1 T2:TypeId}(hn:n<2^40)(hF:B2 hv n f Q):
  gP Tryz.prog (.func (.func Fy) #[] #[ptr m2,ptr h3]) (λh=>h[m2]? =some (.cells #[I n] T1 (0,0))/\h[h3]? =some (.cells #[hv] T2 (0,0))/\Q h) (σ:=Nat) 0 (vV n f) (ry n f):=by
 rintro yv h0 h j K J E ⟨l,rfl⟩ o b hQ hY hK;refine iJ (l:=[dm l,ptr m2,ptr h3]) rfl (aeJ _ _ _ ?_);unfold SZ;obtain⟨hm,_,_⟩:=hQ _ _ _ b o;have cm:hcell h ⟨m2,0,none⟩=some (I n):=aY hm rfl;refine bC rfl cm ?_;refine cg n (λi x h'=>x.1=I i/\∃s a,s<=i/\(∀k,s<=k->k<i->f k=false)/\J s a/\Own h0 h' a) ⟨rfl,0,j,Nat.le_refl _,λk _ h=>absurd h (by omega),b,o⟩ ?_;rintro i ⟨x,⟨⟩⟩ h Z hi ⟨hx,s,a,hs,hno,hj,o⟩ hZ;dsimp only at hx hZ ⊢;subst hx;unfold SY;simp only[bu,bg];refine⟨λhlt=> ?_,λhge=> ?_⟩
 ·have hlt:i<n:=by omega
  obtain⟨_,hh,hq⟩:=hQ _ _ _ hj o;have ch:hcell h ⟨h3,0,none⟩=some hv:=aY hh rfl;refine bC rfl ch (hF _ _ i hlt hq λh1 x1=> ?_);have o1:=o.more x1;by_cases hf:f i=true
  ·rw[hf,bq];refine hY s _ (i+1) a [] h1 _ ⟨i,hs,hlt,hf,hno,rfl,rfl⟩ hj o1.mW (λc h'' hj' o'=> ?_) λc h'' he o'=> ?_
   ·unfold Bd;rw[bH,Bool.not_true,aL,bt,wI i (by omega)];exact hZ (I (i+1:Nat),()) h'' hlt ⟨rfl,i+1,c,Nat.le_refl _,λk _ h=>absurd h (by omega),hj',o'.fm⟩
   ·rw[bH,Bool.not_false,bq];exact hK _ _ (.inr he) o'.fm
  ·have hf:f i=false:=by simpa using hf
   unfold Bd;rw[hf,aL,bt,wI i (by omega)];refine hZ (I (i+1:Nat),()) h1 hlt ⟨rfl,s,a,by omega,λk h1 h2=> ?_,hj,o1⟩;by_cases e:k=i
   ·subst e;exact hf
   ·exact hno k h1 (by omega)
 ·have :i=n:=by omega
  subst this;exact hK _ _ (.inl ⟨s,λk h1 h2=>hno k h1 h2,hj⟩) o
theorem aio{fv:Value}{Q:aa->Prop}{l:List Bool}(o:Own h0 h (aA dP 1 eA v l::L))(hl:l.length=n)(hI:gP Tryz.prog fv Q (σ:=Nat) 0 (vV n f) (ry n f))
  (hQ:∀h' l',Own h0 h' (aA dP 1 eA v l'::L)->Q h') (hK:∀h',Own h0 h' (aA dP 1 eA v (iA l f n)::L)->K v h'):ah Tryz.prog Fh [v,fv,.bool true] h K:=by
 refine aK (aei _ _ _ ?_);unfold Sl;have p:=(o.vw 0 rfl).one;refine o.box λl3 h1 o1=>o1.box λc h2 o2=> ?_;have q:Own h0 h2 (aj c [.bool true] eA::aj l3 [v] oT::aA dP 1 eA v (iA l f 0)::L):=by
  rw[Zr];rw[show v.cells.toList=[v] by rw[p]]at o2;exact o2
 refine q.range hI (by rintro s x s' ⟨j,_,_,_,_,rfl,_⟩;rfl) (λs t=>s<=n/\t=aj c [.bool true] eA::aj l3 [v] oT::aA dP 1 eA v (iA l f s)::L) (λ_=>False) (λ_ _=>False) ⟨Nat.zero_le _,rfl⟩ ?_ ?_ ?_ (λ_ _ h=>h.elim) (λ_ _ _ h=>h.elim)
 ·rintro s k h' ⟨_,rfl⟩ o';exact hQ _ _ o'.tail.tail
 ·rintro M s x s' k Pr h' R ⟨j,hij,hj,hf,hno,rfl,rfl⟩ ⟨hs,rfl⟩ o' hN _ _;dsimp only[fk];unfold Sk;refine o'.begin 0 rfl λh4 b=>b.load 3 rfl rfl (b.load 2 rfl rfl ?_);refine b.setAt (a:=true) 4 rfl Iv (Iw _) (by rw[Kd,hl];exact hj) rfl λh5 m=> ?_;rw[Zs hij (by omega) hf hno]at m;exact hN _ _ ⟨by omega,rfl⟩ m
 ·rintro s h' k hst ⟨hs,rfl⟩ o';refine o'.load 2 rfl rfl (o'.iZ 0 rfl λh3 b=> ?_);refine hK h3 ?_;have e:=Zt (l:=l) (f:=f) (i:=s) (by rw[hl];exact hst) (by omega);rw[hl]at e;rw[<-e];exact b.tail.tail.tail
theorem aip{z:Int}(H:bJ h r g)(hK:K (.bool (decide (0<=z)&&decide (z<g.n))) h):ah Tryz.prog Fg [ptr r,I z] h K:=by
 refine aK (aeh _ _ ?_);unfold Sj;have a:∀{K:Value->Prop},K (.bool true)->bL true .ptr (ptr r) (.pointer none) K:=λhk=>by simpa[bL]using hk
 refine a ?_;rw[bq];simp only[c8,bg];refine⟨λh1=>dF H ?_,λh1=> ?_⟩
 ·rw[bu];rw[decide_eq_true h1,Bool.true_and]at hK;exact hK
 ·rw[decide_eq_false h1,Bool.false_and]at hK;exact hK
end
open Go Go.Mh
section
variable{h0 h:aa}{L:List aM}{K:KT}{g:G}{r c n3 c3 k5 b7 n:Nat}{v:Value}{xs:List Int}{f:Nat->Bool}{k:Int}
theorem aiq{fv:Value}{ys:List Nat}(H:Vw aV 1 h v ys)(hl:ys.length<2^40)
  (hF:∀(h':aa)(K:KT)(x:Nat),x∈ys->Ext h h'->(∀h'',Ext h' h''->K (.bool (f x)) h'')->aS Tryz.prog fv [I x].toArray h' K)
  (hK:∀h',Ext h h'->K (.bool (ys.any f)) h'):ah Tryz.prog zN [v,fv] h K:=by
 refine aK (N6 _ _ ?_);unfold F6;refine aK (Gh _ _ ?_);unfold AX;refine H.len ?_;refine cg ys.length (λi x h'=>x.1=I i/\Ext h h'/\(ys.take i).any f=false) ⟨rfl,.refl _ _,rfl⟩ ?_;rintro i ⟨x,⟨⟩⟩ h' Z hi ⟨hx,x1,hp⟩ hZ;dsimp only at hx hZ ⊢;subst hx;unfold AW;simp only[bu,bg];refine⟨λhlt=> ?_,λhge=> ?_⟩
 ·have hlt:i<ys.length:=by omega
  refine(H.more x1).dH (e:=λx:Nat=>I x) (λ_=>rfl) hlt ?_;refine hF h' _ ys[i] (List.getElem_mem hlt) x1 λh2 b=> ?_;have a:=((Own.start h).more x1).ri b;cases hf:f ys[i]with
  |true=>
   rw[bq,c8,decide_eq_true (by omega)];have :=hK h2 a;rw[show ys.any f=true from List.any_eq_true.2 ⟨_,List.getElem_mem hlt,hf⟩]at this;exact this
  |false=>
   rw[aL,bt,wI i (by omega)];refine hZ (I (i+1:Nat),()) h2 hlt ⟨rfl,a,?_⟩;rw[List.take_succ_eq_append_getElem hlt,List.any_append,hp];simp[hf]
 ·have :ys.take i=ys:=List.take_of_length_le (by omega);rw[this]at hp;rw[c8,decide_eq_false (by omega)];have :=hK h' x1;rw[hp]at this;exact this
theorem air{hv:Value}{Q:aa->Prop}{T1 T2:TypeId}(hl:xs.length<2^40)(hF:B2 hv xs.length f Q):
  gP Tryz.prog (.func (.func Ff) #[] #[ptr n3,ptr k5]) (λh=>h[n3]? =some (.cells #[ptr c] T1 (0,0))/\h[k5]? =some (.cells #[hv] T2 (0,0))/\ia h c xs/\Q h) (σ:=Nat) 0 (vV xs.length f) (ry xs.length f):=by
 rintro yv h0 h j K J E ⟨l,rfl⟩ o b hQ hY hK;refine iJ (l:=[dm l,ptr n3,ptr k5]) rfl (aeg _ _ _ ?_);unfold Si;obtain⟨hm,_,⟨s,hb,m⟩,_⟩:=hQ _ _ _ b o;have cm:hcell h ⟨n3,0,none⟩=some (ptr c):=aY hm rfl;have c0:hcell h ⟨c,0,none⟩=some s:=aY hb rfl;simp only[cI,cm,ef,Option.isNone_some,aL,bz,aQ,Nat.zero_add,c0];refine m.len ?_;refine cg xs.length (λi x h'=>x.1=I i/\∃s a,s<=i/\(∀k,s<=k->k<i->f k=false)/\J s a/\Own h0 h' a) ⟨rfl,0,j,Nat.le_refl _,λk _ h=>absurd h (by omega),b,o⟩ ?_;rintro i ⟨x,⟨⟩⟩ h Z hi ⟨hx,s,a,hs,hno,hj,o⟩ hZ;dsimp only at hx hZ ⊢;subst hx;unfold Sh;simp only[bu,bg];refine⟨λhlt=> ?_,λhge=> ?_⟩
 ·have hlt:i<xs.length:=by omega
  obtain⟨_,hh,_,hq⟩:=hQ _ _ _ hj o;have ch:hcell h ⟨k5,0,none⟩=some hv:=aY hh rfl;refine bC rfl ch (hF _ _ i hlt hq λh1 x1=> ?_);have o1:=o.more x1;by_cases hf:f i=true
  ·rw[hf,bq];refine hY s _ (i+1) a [] h1 _ ⟨i,hs,hlt,hf,hno,rfl,rfl⟩ hj o1.mW (λd h'' hj' o'=> ?_) λd h'' he o'=> ?_
   ·unfold Bb;rw[bH,Bool.not_true,aL,bt,wI i (by omega)];exact hZ (I (i+1:Nat),()) h'' hlt ⟨rfl,i+1,d,Nat.le_refl _,λk _ h=>absurd h (by omega),hj',o'.fm⟩
   ·rw[bH,Bool.not_false,bq];exact hK _ _ (.inr he) o'.fm
  ·have hf:f i=false:=by simpa using hf
   unfold Bb;rw[hf,aL,bt,wI i (by omega)];refine hZ (I (i+1:Nat),()) h1 hlt ⟨rfl,s,a,by omega,λk h1 h2=> ?_,hj,o1⟩;by_cases e:k=i
   ·subst e;exact hf
   ·exact hno k h1 (by omega)
 ·have :i=xs.length:=by omega
  subst this;exact hK _ _ (.inl ⟨s,λk h1 h2=>hno k h1 h2,hj⟩) o
theorem ais{i:Nat}{T1 T2 T3:TypeId}(hR:g.Right)(hx:xs.length=g.n)(hi:i<g.ag.length)(h1:h[n3]? =some (.cells #[ptr r] T1 (0,0)))(h2:h[c3]? =some (.cells #[ptr c] T2 (0,0)))(h3:h[k5]? =some (.cells #[I k] T3 (0,0)))
  (hN:bJ h r g) (hC:ia h c xs) (hK:∀h',Ext h h'->K (.bool (!decide (aF xs (aD g.ag i).f=k))) h'):aS Tryz.prog (.func (.func rF) #[] #[ptr n3,ptr c3,ptr k5]) [I i].toArray h K:=by
 refine bU (l:=[I i,ptr n3,ptr c3,ptr k5]) rfl (adk _ _ _ _ ?_);unfold QW;have d1:hcell h ⟨n3,0,none⟩=some (ptr r):=aY h1 rfl;have d2:hcell h ⟨c3,0,none⟩=some (ptr c):=aY h2 rfl;have d3:hcell h ⟨k5,0,none⟩=some (I k):=aY h3 rfl;refine bC rfl d1 (nY hN hi λo e=> ?_);simp only[b9,bZ];have he:=hR.ends _ (List.getElem_mem hi);have ea:aD g.ag i=g.ag[i]:=by simp[aD,hi]
 rw[ea]at hK;generalize g.ag[i]=a at he hK;have j:=(Own.start h).more e;refine j.box λb h4 m=>m.st 0 rfl rfl rfl rfl rfl (fS _) λh5 d=> ?_;obtain⟨s,hb,hv⟩:=hC.more d.ext;have c0:hcell h5 ⟨c,0,none⟩=some s:=aY hb rfl;refine bC rfl (lg d.ext d2) ?_;simp only[bz,aQ,Nat.zero_add];refine bC rfl c0 ?_;refine d.load 0 rfl rfl (hv.cV (by omega) ?_);refine bC rfl (lg d.ext d3) ?_;rw[gZ,fE];have :=hK h5 d.ext;rw[show(aF xs a.f != k)= !decide (aF xs a.f=k) by simp[bne,BEq.beq]];exact this
theorem ait{T1 T2 T3 T4:TypeId}(hR:g.Right)(hx:xs.length=g.n):B2 (.func (.func Ae) #[] #[ptr c3,ptr k5,ptr n3,ptr b7]) xs.length (lB g (aF xs) k)
  (λh=>h[c3]? =some (.cells #[ptr c] T1 (0,0))/\h[k5]? =some (.cells #[I k] T2 (0,0))/\h[n3]? =some (.cells #[ptr r] T3 (0,0))/\h[b7]? =some (.cells #[.func (.func rF) #[] #[ptr n3,ptr c3,ptr k5]] T4 (0,0))/\ia h c xs/\bJ h r g):=by
 rintro h K i hi ⟨h1,h2,h3,h4,hC,hN⟩ hK;refine bU (l:=[I i,ptr c3,ptr k5,ptr n3,ptr b7]) rfl (adm _ _ _ _ _ ?_);unfold QZ;have d1:hcell h ⟨c3,0,none⟩=some (ptr c):=aY h1 rfl;have d2:hcell h ⟨k5,0,none⟩=some (I k):=aY h2 rfl;have d3:hcell h ⟨n3,0,none⟩=some (ptr r):=aY h3 rfl;have d4:hcell h ⟨b7,0,none⟩=some (.func (.func rF) #[] #[ptr n3,ptr c3,ptr k5]):=aY h4 rfl;obtain⟨s,hb,hv⟩:=id hC;have c0:hcell h ⟨c,0,none⟩=some s:=aY hb rfl;refine gh (λy h'=>y.1=.bool (lB g (aF xs) k i)/\Ext h h') (λJ hJ=> ?_) ?_
 ·refine bC rfl d1 ?_;simp only[bz,aQ,Nat.zero_add];refine bC rfl c0 (hv.cV hi (bC rfl d2 ?_));rw[gZ,cF];by_cases e:aF xs i=k
  ·rw[show(aF xs i==k)=true by simpa using e,bq];refine bC rfl d3 (bC rfl d4 ?_);refine TG (Own.start h) hR hN λw h5 a=>⟨bC rfl (lg a.ext d4) rfl,?_⟩;have hin:(if 0<=(i:Int)/\(i:Int)<g.n then g.in (i:Int).toNat else[])=g.in i:=by rw[if_pos (by omega)];rfl
   rw[hin]at a;refine aiq (f:=λi=> !decide (aF xs (aD g.ag i).f=k)) (a.vw 0 rfl) (Nat.lt_of_le_of_lt rR (by have :=hR.many;omega)) (λh' K' x hx' d hk=> ?_) λh' d=> ?_
   ·have b:=a.ri d;exact ais hR hx (TX hx') (b.get h3) (b.get h1) (b.get h2) (hN.more b) (hC.more b) hk
   ·refine hJ _ h' ⟨?_,a.ri d⟩;unfold lB;rw[decide_eq_true e,Bool.true_and]
  ·rw[show(aF xs i==k)=false by simpa using e,aL];refine hJ _ h ⟨?_,.refl _ _⟩;unfold lB;rw[decide_eq_false e,Bool.false_and]
 ·rintro⟨y,⟨⟩⟩ h' ⟨hy,x⟩;dsimp only at hy ⊢;subst hy;unfold QY;exact hK _ x
def e7(g:G)(xs:List Int)(k:Int):List Int:=((List.range g.n).filter (lB g (aF xs) k)).map λ(i:Nat)=>(i:Int)
theorem aiu{h0:aa}{L:List aM}(o:Own h0 h L)(hR:g.Right)(hx:xs.length=g.n)(hN:bJ h r g)(hC:ia h c xs)(hK:∀w h',Own h0 h' (aA aG 1 au w (e7 g xs k)::L)->K w h'):ah Tryz.prog Eb [ptr c,ptr r,I k] h K:=by
 refine aK (ab4 _ _ _ ?_);unfold OG;have u:=hR.most;refine(Own.start h).box λc3 h1 o1=>o1.box λb h2 o2=>o2.box λk5 h3 a=> ?_;have a:Own h h3 [aj k5 [I k] au,aj b [ptr r] cq,aj c3 [ptr c] mw]:=a;refine gh (λy h'=>y.1=.bool false/\h'=h3) (λJ hJ=> ?_) ?_
 ·refine a.load 2 rfl rfl ?_;simp only[ef,Option.isNone_some,aL];refine a.load 1 rfl rfl ?_;simp only[ef,Option.isNone_some,aL];refine a.load 1 rfl rfl (a.load 2 rfl rfl ?_);obtain⟨s,hb,hv⟩:=hC.more a.ext;have c0:hcell h3 ⟨c,0,none⟩=some s:=aY hb rfl;simp only[bz,aQ,Nat.zero_add];refine bC rfl c0 (hv.len ?_);refine dF (hN.more a.ext) ⟨a.load 2 rfl rfl rfl,bC rfl c0 rfl,?_⟩;rw[fE,hx,bne_self_eq_false];exact hJ _ _ ⟨rfl,rfl⟩
 ·rintro⟨y,⟨⟩⟩ h' ⟨hy,rfl⟩;dsimp only at hy ⊢;subst hy;unfold OF;rw[aL];refine a.box λb7 h6 m=>m.bf 0 (cs':=[.func (.func rF) #[] #[ptr b,ptr c3,ptr k5]]) rfl rfl rfl rfl rfl λh7 e=>e.load 3 rfl rfl ?_;refine aK (adl _ _ ?_);unfold QX;refine e.box λc2 h8 p=>p.box λl h9 t=> ?_;have hF:=ait (c:=c) (r:=r) (c3:=c3) (k5:=k5) (n3:=b) (b7:=b7) (k:=k) (T1:=mw) (T2:=au) (T3:=cq) (T4:=fH) hR hx;refine VV t (air (n3:=c2) (k5:=l) (c:=c) (T1:=mw) (T2:=fH) (by omega) hF) (λs=>(j4 xs.length (lB g (aF xs) k) (min s xs.length)).map λ(i:Nat)=>(i:Int)) rfl (λs x s'=> ?_) (λd h' o'=> ?_) λw h' s hst o'=> ?_
  ·rintro⟨j,hs,hj,hf,hno,rfl,rfl⟩;refine⟨(j:Int),rfl,?_,?_⟩
   ·rw[Nat.min_eq_left (show j+1<=xs.length by omega),Nat.min_eq_left (show s<=xs.length by omega),It hs hf hno,List.map_append];rfl
   ·have :=List.length_filter_le (lB g (aF xs) k) (List.range (j+1));rw[List.length_range]at this;rw[Nat.min_eq_left (show j+1<=xs.length by omega),List.length_map];unfold j4;omega
  ·have q:∀(i:Nat)(R:aM),(aj l [.func (.func Ae) #[] #[ptr c3,ptr k5,ptr b,ptr b7]] fH::aj c2 [ptr c] mw::aj b7 [.func (.func rF) #[] #[ptr b,ptr c3,ptr k5]] fH::aj k5 [I k] au::aj b [ptr r] cq::aj c3 [ptr c] mw:: [])[i]? =some R->R.Q h':=λi R hi=>o'.get (d.length+i) (by rw[List.getElem?_append_right (by omega)];rw[show d.length+i-d.length=i by omega];exact hi);exact⟨q 1 _ rfl,q 0 _ rfl,hC.more o'.ext,q 5 _ rfl,q 3 _ rfl,q 4 _ rfl,q 2 _ rfl,hC.more o'.ext,hN.more o'.ext⟩
  ·have hs:j4 xs.length (lB g (aF xs) k) (min s xs.length)=(List.range g.n).filter (lB g (aF xs) k):=by
    rw[<-hx];refine Iu (Nat.min_le_right _ _) λk' h1 h2=>hst k' (by omega) h2
   rw[hs]at o';exact hK w h' (o.frame (o'.bh [0] (by decide)))
end
end Go.Proofs.YthglofkkjoiepaaGreatDoor
