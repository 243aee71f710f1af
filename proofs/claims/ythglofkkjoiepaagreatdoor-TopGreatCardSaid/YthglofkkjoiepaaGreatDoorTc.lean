/- Texts of the proofs of seat YthglofkkjoiepaaGreatDoor, joined: FgA, FgB, GrA, GrB, AvB, WkA, AvC, AvD, AvE, AvF, AvG, FaA, FaB, FaC, FaD, AvH, AvI, BdB, RcA, BoA. They have no conditions of their own. -/
import Derived.Test.YthglofkkjoiepaaGreatDoorTb
import Derived.Test.YthglofkkjoiepaaGreatDoorMb
import Derived.Test.YthglofkkjoiepaaGreatDoorMd
import Derived.Test.YthglofkkjoiepaaGreatDoorTa
import Derived.Test.YthglofkkjoiepaaGreatDoorMc
import Derived.Test.YthglofkkjoiepaaGreatDoorGb
import Derived.Tactics
import Derived.Tactics2
set_option linter.unusedVariables false
set_option linter.unusedSimpArgs false
set_option linter.unusedSectionVars false

namespace Go.Proofs.YthglofkkjoiepaaGreatDoor
open Go Go.Mh
section
variable{h0 h:aa}{L:List aM}{K:KT}{g:G}{r:Nat}{d:List Int}{v:Value}{n:Nat}{f:Nat->Bool}
theorem aiv{t:Value}{bs:List Int}(o:Own h0 h L)(hR:g.Right)(H:bJ h r g)(hb:Vw aG 1 h t bs)(N:bs.length<2^40)
  (hK:∀w h',Own h0 h' (aA dP 1 eA w (g.ag.map (iz g bs))::L)->K w h'):ah Tryz.prog EM [ptr r,t] h K:=by
 refine aK (adn _ _ ?_);unfold Q1;have O:=hR.many;have P:=hR.most;simp only[ef,Option.isNone_some,aL];refine rQ (H) ?_;refine(Own.start h).make (enc:=dP) (n:=1) (a:=false) rfl (by omega) (by omega) λw h1 o1=>hb.len ?_;have e0:List.replicate g.ag.length false=g.ag.map (iz g (bs.take 0)):=by
  apply List.ext_getElem (by simp) λi h1 h2=>by simp[iz]
 rw[e0]at o1;refine cg bs.length (λi x h'=>x.1=w/\x.2.1=I i/\Own h h' [aA dP 1 eA w (g.ag.map (iz g (bs.take i)))]) ⟨rfl,rfl,o1⟩ ?_;clear o1 e0;rintro i ⟨w',x,⟨⟩⟩ h' Z hi ⟨hw,hx,o'⟩ hZ;dsimp only at hw hx hZ ⊢;subst hw hx;unfold Q0;simp only[bu,bg];refine⟨λhlt=> ?_,λhge=> ?_⟩
 ·have hlt:i<bs.length:=by omega
  have hm:∀a,iz g (bs.take (i+1)) a=(iz g (bs.take i) a||gQ g bs[i] a):=λa=>by
   rw[List.take_succ_eq_append_getElem hlt,Zp,Kc]
  refine(hb.more o'.ext).cV hlt ?_;generalize bs[i]=b at hm;refine aip (H.more o'.ext) ?_;by_cases hc:0<=b/\b<g.n
  ·rw[decide_eq_true hc.1,decide_eq_true hc.2,Bool.true_and,bq];obtain⟨b,rfl⟩:=Int.eq_ofNat_of_zero_le hc.1;have y:b<g.n:=by omega
   have T:=oO hR y;refine(o'.vw 0 rfl).len ?_;refine aK (aek _ _ ?_);unfold Sp;refine o'.box λn2 h2 o2=>o2.load 0 rfl rfl (GX hR (H.more o2.ext) λsd sa so h3 e=> ?_);have et:g.toI (b:Int)=g.to b:=by rw[G.toI,if_pos (by omega)];rfl
   rw[et]at e;replace e:=o2.frame e;refine e.box λz h4 C=>C.st (cs':=[sd,sa,so]) 0 rfl rfl rfl rfl rfl ?_ λh5 D=> ?_
   ·intro u hu;simp at hu;rcases hu with rfl|rfl|rfl
    ·exact(e.vw 0 rfl).plain
    ·exact(e.vw 1 rfl).plain
    ·exact(e.vw 2 rfl).plain
   refine aK (aej _ _ ?_);unfold Sn;refine D.box λm2 h6 E=>E.box λA h7 F=> ?_;have hlen:(g.ag.map (iz g (bs.take i))).length=g.ag.length:=by simp
   have hF:B2 (.func (.func As) #[] #[ptr n2,ptr z]) (g.ag.map (iz g (bs.take i))).length (λk=>tgt (g.to b).aH (aD g.ag k)) (λh'=>h'[n2]? =some (.cells #[ptr r] cq (0,0))/\h'[z]? =some (.cells #[sd,sa,so] qi (0,0))/\bJ h' r g/\Vw aG 1 h' sd (g.to b).aH):=by
    rintro h'' Q k hk ⟨q1,q2,A,J⟩ m;have hk:k<g.ag.length:=by omega
    dsimp only at m;rw[show aD g.ag k=g.ag[k] by simp[aD,hk]]at m;exact aim hR T.ls.len (λu hu=>⟨T.ls.gC hu,T.ls.iB hu⟩) hk q1 q2 A J m
   have M:=F.bh [7,0,1,2,3,4,5,6] (by decide);refine aio M rfl (ain (T1:=au) (T2:=fH) (by rw[hlen];omega) hF) (λh'' l' j=>⟨j.get 2 rfl,j.get 1 rfl,j.get 7 rfl,j.get 3 rfl,H.more j.ext,j.vw 4 rfl⟩) λh8 s=> ?_;unfold A5;rw[bt,wI i (by omega)];refine hZ (w',(I (i+1:Nat),())) h8 hlt ⟨rfl,rfl,?_⟩;have e1:=Zu (l:=g.ag) (p:=iz g (bs.take i)) (q:=λa=>gQ g b a) (f:=λk=>tgt (g.to b).aH (aD g.ag k)) λk hk=>by
    simp[aD,hk,gQ,et,y]
   rw[hlen,e1]at s;have e2:(g.ag.map λa=>iz g (bs.take i) a||gQ g b a)=g.ag.map (iz g (bs.take (i+1))):=List.map_congr_left λa _=>(hm a).symm;rw[e2]at s;exact s.bh [0] (by decide)
  ·have B:(decide (0<=b)&&decide (b<(g.n:Int)))=false:=by
    rw[Bool.and_eq_false_imp];intro h1;exact decide_eq_false λh2=>hc ⟨of_decide_eq_true h1,h2⟩
   rw[B,aL];unfold A5;rw[bt,wI i (by omega)];refine hZ (w',(I (i+1:Nat),())) h' hlt ⟨rfl,rfl,?_⟩;have e2:g.ag.map (iz g (bs.take i))=g.ag.map (iz g (bs.take (i+1))):=List.map_congr_left λa _=>by
    rw[hm a];have :gQ g b a=false:=by unfold gQ;rw[<-Bool.and_assoc,B,Bool.false_and]
    rw[this,Bool.or_false]
   rw[<-e2];exact o'
 ·have :i=bs.length:=by omega
  subst this;rw[List.take_length]at o';exact hK w' h' (o.frame o')
theorem aiw{b:Int}(o:Own h0 h L)(hR:g.Right)(H:bJ h r g)
  (hK:∀w h',Own h0 h' (aA dP 1 eA w (g.ag.map (gQ g b))::L)->K w h'):ah Tryz.prog Ec [ptr r,I b] h K:=by
 refine aK (ab5 _ _ ?_);unfold OH;refine(Own.start h).build (enc:=aG) (n:=1) [b] rfl (bW rfl) rfl λw h1 o1=> ?_;refine aiv o1 hR (H.more o1.ext) (o1.vw 0 rfl) (by simp) λw2 h2 i=>hK w2 h2 ?_;have e:g.ag.map (iz g [b])=g.ag.map (gQ g b):=List.map_congr_left λa _=>Kc;rw[e]at i;exact o.frame (i.bh [0] (by decide))
end
section
variable{h0 h:aa}{L:List aM}{K:KT}{g:G}{r c n3 c4 k5 y4:Nat}{xs:List Int}{f:Nat->Bool}{k:Int}
theorem aix{i:Nat}(hR:g.Right)(hx:xs.length=g.n)(hN:bJ h r g)(hC:ia h c xs)(hi:i<g.ag.length)(hK:∀h',Ext h h'->K (.bool (mu g (aF xs) k i)) h'):ah Tryz.prog Ea [ptr r,ptr c,I k,I i] h K:=by
 refine aK (ab3 _ _ _ _ ?_);unfold OE;refine nY hN hi λh3 l=> ?_;simp only[b9,bZ];have he:=hR.ends _ (List.getElem_mem hi);have ea:aD g.ag i=g.ag[i]:=by simp[aD,hi]
 unfold mu at hK;rw[ea]at hK;generalize g.ag[i]=a at he hK;have m:=(Own.start h).more l;refine m.box λb h4 o=>o.st 0 rfl rfl rfl rfl rfl (fS _) λh5 j=> ?_;rw[bq];simp only[aQ,Nat.zero_add];refine j.load 0 rfl rfl (Im (hC.more j.ext) (by omega) ?_);rw[cF];by_cases e:aF xs a.f=k
 ·rw[show(aF xs a.f==k)=true by simpa using e,bq];refine j.load 0 rfl rfl (Im (hC.more j.ext) (by omega) ?_);rw[cF];have :=hK h5 j.ext;rw[decide_eq_true e,Bool.true_and]at this;rw[show(aF xs a.t==k)=decide (aF xs a.t=k) by simp[BEq.beq]];exact this
 ·rw[show(aF xs a.f==k)=false by simpa using e,aL];have :=hK h5 j.ext;rw[decide_eq_false e,Bool.false_and]at this;exact this
theorem aiy{m i:Nat}(hi:i<m)(hf:f i=true):∃post,(List.range m).filter f=(List.range i).filter f++i::post:=by
 obtain⟨d,rfl⟩:=Nat.le.dest (show i+1<=m by omega);refine⟨((List.range d).map (i+1+ ·)).filter f,?_⟩;rw[List.range_add,List.filter_append,List.range_succ,List.filter_append];simp[hf]
theorem VX{yv e:Value}{pre post wl:List Nat}{J:Nat->List aM->Prop}{E:List aM->Prop}{j Pr:List aM}{py:Nat}{T T1:TypeId}{m:KT}
  (hR:g.Right) (hw:wl=pre++(List.range g.ag.length).filter f++post)
  (hY:∀s x s' a Pr h'(R:KT),((∃hi:s<wl.length,x=[I wl[s]])/\s'=s+1)->J s a->Own h0 h' (a++Pr)->(∀b h'',J s' b->Own h0 h'' (b++Pr)->R (.bool true) h'')->
   (∀b h'',E b->Own h0 h'' (b++Pr)->R (.bool false) h'')->aS Tryz.prog yv x.toArray h' R)
  (hQ:∀s a h',J s a->Own h0 h' a->h'[n3]? =some (.cells #[ptr r] T1 (0,0))/\bJ h' r g)
  (hI:∀s a h' i(K:KT),i<g.ag.length->J s a->Own h0 h' (a++Pr)->(∀h'',Ext h' h''->K (.bool (f i)) h'')->aS Tryz.prog e [I i].toArray h' K)
  (hp:Pr[py]? =some (aj y4 [yv] T)) (o:Own h0 h (j++Pr)) (q:J pre.length j)
  (t:∀a h',J (pre.length+((List.range g.ag.length).filter f).length) a->Own h0 h' (a++Pr)->m (.bool true) h')
  (u:∀a h',E a->Own h0 h' (a++Pr)->m (.bool false) h'):aS Tryz.prog (.func (.func zP) #[] #[ptr n3,ptr y4]) [e].toArray h m:=by
 refine bU (l:=[e,ptr n3,ptr y4]) rfl (ab1 _ _ _ ?_);unfold OC;have B:=hR.many;obtain⟨hb,hN⟩:=hQ _ _ _ q o.left;have hc:hcell h ⟨n3,0,none⟩=some (ptr r):=aY hb rfl;refine bC rfl hc (rQ hN ?_);refine cg g.ag.length (λi x h'=>x.1=I i/\∃a,J (pre.length+((List.range i).filter f).length) a/\Own h0 h' (a++Pr)) ⟨rfl,j,q,o⟩ ?_;rintro i ⟨x,⟨⟩⟩ h' Z hi ⟨hx,a,hj,o'⟩ hZ;dsimp only at hx hZ ⊢;subst hx;unfold OB;simp only[bu,bg];refine⟨λhlt=> ?_,λhge=> ?_⟩
 ·have hlt:i<g.ag.length:=by omega
  refine hI _ a h' i _ hlt hj o' λh2 w=> ?_;have o2:=o'.more w;cases hf:f i with
  | true=>
   rw[bq];obtain⟨po,hs⟩:=aiy hlt hf;refine o2.load (a.length+py) (by rw[List.getElem?_append_right (by omega),show a.length+py-a.length=py by omega];exact hp) rfl ?_;have hwi:wl[pre.length+((List.range i).filter f).length]? =some i:=by
    rw[hw,hs,List.append_assoc,List.getElem?_append_right (by omega),show pre.length+((List.range i).filter f).length-pre.length=((List.range i).filter f).length by omega,List.append_assoc,List.getElem?_append_right (by omega),Nat.sub_self];rfl
   obtain⟨y,z⟩:=List.getElem?_eq_some_iff.1 hwi;have A:pre.length+((List.range i).filter f).length+1=pre.length+((List.range (i+1)).filter f).length:=by
    rw[List.range_succ,List.filter_append];simp[hf];omega
   refine hY (pre.length+((List.range i).filter f).length) _ _ a Pr h2 _ ⟨⟨y,by rw[z]⟩,rfl⟩ hj o2 (λb h'' hj' p=> ?_) λb h'' he p=> ?_
   ·unfold AT;rw[bH,Bool.not_true,aL,bt,wI i (by omega)];exact hZ (I (i+1:Nat),()) h'' hlt ⟨rfl,b,by rw[<-A];exact hj',p⟩
   ·rw[bH,Bool.not_false,bq];exact u _ _ he p
  |false=>
   rw[aL];unfold AT;rw[bt,wI i (by omega)];refine hZ (I (i+1:Nat),()) h2 hlt ⟨rfl,a,?_,o2⟩;rw[List.range_succ,List.filter_append];simpa[hf]using hj
 ·have :i=g.ag.length:=by omega
  subst this;exact t _ _ hj o'
def sk(g:G)(b:Int):List Nat:=(List.range g.ag.length).filter λi=>gQ g b (aD g.ag i)
def wl(g:G)(xs:List Int)(k:Int):List Nat:=(List.range g.ag.length).filter (mu g (aF xs) k)++(e7 g xs k).flatMap (sk g)
theorem aiz{T1 T2 T3:TypeId}(hR:g.Right)(hx:xs.length=g.n):Iter Tryz.prog (.func (.func D9) #[] #[ptr n3,ptr c4,ptr k5])
  (λh=>h[n3]? =some (.cells #[ptr r] T1 (0,0))/\h[c4]? =some (.cells #[ptr c] T2 (0,0))/\h[k5]? =some (.cells #[I k] T3 (0,0))/\ia h c xs/\bJ h r g) (wl g xs k).length (λi hi=>[I (wl g xs k)[i]]):=by
 rintro yv h0 h F K J E ⟨l,rfl⟩ o H hQ hY hK;refine iJ (l:=[dm l,ptr n3,ptr c4,ptr k5]) rfl (ab0 _ _ _ _ ?_);unfold OA;refine o.box λy4 h1 o1=> ?_;have o1:Own h0 h1 (F++ [aj y4 [dm l] fH]):=Own.mT o1;have z:∀s a h',J s a->Own h0 h' a->h'[n3]? =some (.cells #[ptr r] T1 (0,0))/\bJ h' r g:=λs a h' hj o'=>⟨(hQ _ _ _ hj o').1,(hQ _ _ _ hj o').2.2.2.2⟩;refine VX (pre:=[]) (f:=mu g (aF xs) k) (post:=(e7 g xs k).flatMap (sk g)) (wl:=wl g xs k) (Pr:=[aj y4 [dm l] fH]) (py:=0) (T1:=T1) hR rfl hY z (λs a h' i K' hi hj o' hk=> ?_) rfl o1 H (λa h' hj o'=> ?_) λa h' he o'=> ?_
 ·obtain⟨q1,q2,q,t,m⟩:=hQ _ _ _ hj o'.left;have d1:hcell h' ⟨n3,0,none⟩=some (ptr r):=aY q1 rfl;have d2:hcell h' ⟨c4,0,none⟩=some (ptr c):=aY q2 rfl;have d3:hcell h' ⟨k5,0,none⟩=some (I k):=aY q rfl;refine bU (l:=[I i,ptr n3,ptr c4,ptr k5]) rfl (ab2 _ _ _ _ ?_);unfold OD;exact bC rfl d1 (bC rfl d2 (bC rfl d3 (aix hR hx m t hi hk)))
 ·rw [bH,Bool.not_true,aL];obtain⟨q1,q2,q,t,m⟩:=hQ _ _ _ hj o'.left;have d1:hcell h' ⟨n3,0,none⟩=some (ptr r):=aY q1 rfl;have d2:hcell h' ⟨c4,0,none⟩=some (ptr c):=aY q2 rfl;have d3:hcell h' ⟨k5,0,none⟩=some (I k):=aY q rfl;refine bC rfl d2 (bC rfl d1 (bC rfl d3 ?_));refine aiu o' hR hx m t λw h2 o2=> ?_;refine(o2.vw 0 rfl).len ?_;have o2:Own h0 h2 (a++ [aj y4 [dm l] fH,aA aG 1 au w (e7 g xs k)]):=by
   have :=Own.mT o2;rwa[List.append_assoc]at this
  have N:(e7 g xs k).length<2^40:=by
   unfold e7;rw[List.length_map];have :=List.length_filter_le (lB g (aF xs) k) (List.range g.n);have :=hR.most;rw[List.length_range]at *;omega
  refine cg (e7 g xs k).length (λi x h'=>x.1=I i/\∃a,J (((List.range g.ag.length).filter (mu g (aF xs) k)).length+(((e7 g xs k).take i).flatMap (sk g)).length) a/\Own h0 h' (a++ [aj y4 [dm l] fH,aA aG 1 au w (e7 g xs k)])) ⟨rfl,a,by simpa using hj,o2⟩ ?_;clear o2 hj o' q1 q2 q t m d1 d2 d3;rintro i ⟨x,⟨⟩⟩ h3 Z hi ⟨hx',p,hj,u⟩ hZ;dsimp only at hx' hZ ⊢;subst hx';unfold Oz;simp only[bu,bg];refine⟨λhlt=> ?_,λhge=> ?_⟩
  ·have hlt:i<(e7 g xs k).length:=by omega
   obtain⟨q1,q2,q,t,m⟩:=hQ _ _ _ hj u.left;have d1:hcell h3 ⟨n3,0,none⟩=some (ptr r):=aY q1 rfl;have hv:Vw aG 1 h3 w (e7 g xs k):=u.vw (p.length+1) (by rw[List.getElem?_append_right (by omega),show p.length+1-p.length=1 by omega];rfl);refine hv.cV hlt (bC rfl d1 ?_);refine aiw u hR m λw2 h4 M=>M.box λt8 h5 A=> ?_;have B:=A.vw 1 rfl;refine A.bf 0 (cs':=[w2]) rfl rfl rfl B.one B.plain λh6 y=> ?_;have y:Own h0 h6 (p++ [aj y4 [dm l] fH,aA aG 1 au w (e7 g xs k),aA dP 1 eA w2 (g.ag.map (gQ g (e7 g xs k)[i])),aj t8 [w2] oT]):=by
    have e:p++ [aj y4 [dm l] fH,aA aG 1 au w (e7 g xs k),aA dP 1 eA w2 (g.ag.map (gQ g (e7 g xs k)[i])),aj t8 [w2] oT]=((p++ [aj y4 [dm l] fH,aA aG 1 au w (e7 g xs k)])++ [aA dP 1 eA w2 (g.ag.map (gQ g (e7 g xs k)[i]))])++ [aj t8 [w2] oT]:=by simp
    rw[e];exact Own.mT (Own.mT (Own.swap y))
   have hsplit:wl g xs k=((List.range g.ag.length).filter (mu g (aF xs) k)++((e7 g xs k).take i).flatMap (sk g))++(List.range g.ag.length).filter (λj=>gQ g (e7 g xs k)[i] (aD g.ag j))++((e7 g xs k).drop (i+1)).flatMap (sk g):=by
    unfold wl;have e:=List.take_append_drop i (e7 g xs k);rw[List.drop_eq_getElem_cons hlt]at e
    conv=>lhs;rw[<-e]
    rw[List.flatMap_append,List.flatMap_cons];simp only[List.append_assoc];rfl
   refine VX (f:=λj=>gQ g (e7 g xs k)[i] (aD g.ag j)) (wl:=wl g xs k) (py:=0) (T1:=T1) hR hsplit hY z (λs b h' j K' hj' _ o' hk=> ?_) rfl y (by rw[List.length_append];exact hj) (λb h' hj' o'=> ?_) λb h' he o'=> ?_
   ·refine bU (l:=[I j,ptr t8]) rfl (ab6 _ _ ?_);unfold OI;have C:Vw dP 1 h' w2 (g.ag.map (gQ g (e7 g xs k)[i])):=o'.vw (b.length+2) (by rw[List.getElem?_append_right (by omega),show b.length+2-b.length=2 by omega];rfl);have D:∀{K:Value->Prop},K w2->af h' (ptr t8) K:=λhk=>o'.load (b.length+3) (by rw[List.getElem?_append_right (by omega),show b.length+3-b.length=3 by omega];rfl) rfl hk;refine D (C.len ?_);rw[bu,decide_eq_true (by rw[List.length_map];omega),bq];refine D (C.dH (e:=λx:Bool=>.bool x) (λ_=>rfl) (by rw[List.length_map];exact hj') ?_);have :=hk h' (.refl _ _);rw[List.getElem_map];rw[show aD g.ag j=g.ag[j] by simp[aD,hj']]at this;exact this
   ·rw[bH,Bool.not_true,aL,bt,wI i (by omega)];refine hZ (I (i+1:Nat),()) h' hlt ⟨rfl,b,?_,?_⟩
    ·have e:(((e7 g xs k).take (i+1)).flatMap (sk g)).length=(((e7 g xs k).take i).flatMap (sk g)).length+((List.range g.ag.length).filter (λj=>gQ g (e7 g xs k)[i] (aD g.ag j))).length:=by
      rw[List.take_succ_eq_append_getElem hlt,List.flatMap_append,List.length_append];congr 1;rw[List.flatMap_cons,List.flatMap_nil,List.append_nil];rfl
     rw[e,<-Nat.add_assoc];rw[List.length_append]at hj';exact hj'
    ·have e:b++ [aj y4 [dm l] fH,aA aG 1 au w (e7 g xs k),aA dP 1 eA w2 (g.ag.map (gQ g (e7 g xs k)[i])),aj t8 [w2] oT]=(b++ [aj y4 [dm l] fH,aA aG 1 au w (e7 g xs k)])++ [aA dP 1 eA w2 (g.ag.map (gQ g (e7 g xs k)[i])),aj t8 [w2] oT]:=by simp
     rw[e]at o';exact o'.left
   ·rw[bH,Bool.not_false,bq];exact hK _ _ (.inr he) o'.left
  ·have :i=(e7 g xs k).length:=by omega
   subst this;rw[List.take_length]at hj;refine hK _ _ (.inl ⟨_,?_,hj⟩) u.left;unfold wl;rw[List.length_append]
 ·rw[bH,Bool.not_false,bq];exact hK _ _ (.inr he) o'.left
end
open Go Go.Mh
section
variable{h0 h:aa}{L:List aM}{K:KT}{g:G}{r c b:Nat}{xs:List Int}{k:Int}{M:Nat}{bs:List UInt8}
def j5(g:G)(xs:List Int)(M k:Nat):List UInt8:=(List.range k).foldl (λbs(r:Nat)=>setRow bs (bP g.ag.length) r (wl g xs r)) (List.replicate (M*bP g.ag.length) 0)
def ob(g:G)(xs:List Int)(M:Nat):List UInt8:=j5 g xs M M
theorem B3:∀{k:Nat},(j5 g xs M k).length=M*bP g.ag.length
 |0=>by simp[j5]
 |k+1=>by
  have :=B3 (k:=k);unfold j5 at *;rw[List.range_succ,List.foldl_append,List.foldl_cons,List.foldl_nil,Iq,this]
theorem VY{k:Nat}:j5 g xs M (k+1)=setRow (j5 g xs M k) (bP g.ag.length) k (wl g xs k):=by
 unfold j5;rw[List.range_succ,List.foldl_append];rfl
theorem VZ{i:Nat}(h:i∈wl g xs k):i<g.ag.length:=by
 rcases List.mem_append.1 h with h|h
 ·exact List.mem_range.1 (List.mem_filter.1 h).1
 ·obtain⟨b,_,h⟩:=List.mem_flatMap.1 h;exact List.mem_range.1 (List.mem_filter.1 h).1
theorem V0{i:Nat}(hi:i<g.ag.length):i∈wl g xs k↔p9 g (aF xs) k i=true:=by
 unfold wl p9;rw[List.mem_append,Bool.or_eq_true,List.any_eq_true];constructor
 ·rintro(h|h)
  ·exact .inl (List.mem_filter.1 h).2
  ·obtain⟨b,hb,h⟩:=List.mem_flatMap.1 h;obtain⟨v,hv,rfl⟩:=List.mem_map.1 hb;have hv:=List.mem_filter.1 hv;refine .inr ⟨v,hv.1,?_⟩;rw[hv.2,Bool.true_and];exact(List.mem_filter.1 h).2
 ·rintro(h|⟨v,hv,h⟩)
  ·exact .inl (List.mem_filter.2 ⟨List.mem_range.2 hi,h⟩)
  ·rw[Bool.and_eq_true]at h;refine .inr (List.mem_flatMap.2 ⟨(v:Int),List.mem_map.2 ⟨v,List.mem_filter.2 ⟨hv,h.1⟩,rfl⟩,List.mem_filter.2 ⟨List.mem_range.2 hi,h.2⟩⟩)
theorem V3{i r':Nat}(hi:i<g.ag.length):∀{k:Nat},k<=M->eZ (j5 g xs M k) (bP g.ag.length) r' i=(decide (r'<k)&&p9 g (aF xs) r' i)
 |0,_=>by
  show eZ (List.replicate (M*bP g.ag.length) 0) _ _ _=_;rw[aid];simp
 | k+1,hk=>by
  rw[VY,VS (rows:=M) B3 (by omega) (λj hj=>yp (VZ hj)) (yp hi),V3 hi (by omega)];by_cases e:k=r'
  ·subst e;rw[decide_eq_false (show ¬k<k by omega),Bool.false_and,Bool.or_false,decide_eq_true (show k<k+1 by omega),Bool.true_and];cases hf:p9 g (aF xs) k i with
   |true=>exact decide_eq_true ⟨rfl,(V0 hi).2 hf⟩
   |false=>exact decide_eq_false λh=>by have :=(V0 hi).1 h.2;rw[hf]at this;cases this
  ·rw[decide_eq_false (show ¬(k=r'/\i∈wl g xs k)from λh=>e h.1),Bool.false_or];congr 1;exact decide_eq_decide.2 (by omega)
theorem V4(hR:g.Right)(hx:xs.length=g.n)(hN:bJ h r g)(hC:ia h c xs)(hK:∀h',Ext h h'->K (.bool true) h'):ah Tryz.prog zG [ptr r,ptr c] h K:=by
 refine aK (aa1 _ _ ?_);unfold Nb;have a:=hR.most;have hpos:=hR.pos;refine dF hN ?_;rw[dZ,decide_eq_true (by omega),bq];refine ah6 (Own.start h) hC (by omega) λw h1 o1=>(o1.vw 0 rfl).len ?_;refine dF (hN.more o1.ext) ?_;rw[cF,hx,beq_self_eq_true];exact hK h1 o1.ext
set_option maxHeartbeats 2000000 in
theorem aiA(o0:Own h0 h L)(hR:g.Right)(hx:xs.length=g.n)(hN:bJ h r g)(hC:ia h c xs)(t:jw xs+1=(M:Int))(hM1:M<=256)(w:M*bP g.ag.length<=268435456)
  (hK:∀b s h',Own h0 h' (aj b (ku M g.ag.length s) jO::aA iK 1 ki s (ob g xs M)::L)->K (ptr b) h'):ah Tryz.prog zy [ptr r,ptr c] h K:=by
 refine aK (aam _ _ ?_);unfold Mc;have D:=hR.many;refine V4 hR hx hN hC λh1 x1=> ?_;rw[bH,Bool.not_true,aL];have o1:=(Own.start h).more x1;refine Io (hC.more x1) (rQ (hN.more x1) ?_);rw[t];refine aij o1 (by omega) w (by omega) λb s h2 o2=>o2.box λf5 h3 u=>u.bf 0 (cs':=[ptr b]) rfl rfl rfl rfl rfl λh4 l=> ?_;refine Io (hC.more l.ext) ?_;rw[t];have a:Own h h4 (iY []::aj f5 [ptr b] nh::aj b (ku M g.ag.length s) jO::aA iK 1 ki s (j5 g xs M 0):: []):=Own.zd l;refine cg M (λi x h'=>x.2.1=I i/\Own h h' (iY x.1::aj f5 [ptr b] nh::aj b (ku M g.ag.length s) jO::aA iK 1 ki s (j5 g xs M i):: [])) ⟨rfl,a⟩ ?_;clear o1 o2 u l a;rintro i ⟨m,x,⟨⟩⟩ h5 Z hi ⟨hx',a⟩ hZ;dsimp only at hx' hZ a ⊢;subst hx';unfold Mb;simp only[bu,bg];refine⟨λhlt=> ?_,λhge=> ?_⟩
 ·have hlt:i<M:=by omega
  refine a.box λo h6 p=>p.bf 0 (cs':=[I i]) rfl rfl rfl rfl rfl λh7 v=>v.load 0 rfl rfl ?_;refine aK (aa5 _ _ _ ?_);unfold Ng;refine v.box λn3 h8 y=>y.box λc4 h9 z=>z.box λk5 h10 q=> ?_;have q:Own h h10 (aj k5 [I i] au::aj c4 [ptr c] mw::aj n3 [ptr r] cq::aj o [I i] au::iY m::aj f5 [ptr b] nh::aj b (ku M g.ag.length s) jO::aA iK 1 ki s (setRow (j5 g xs M i) (bP g.ag.length) i ((wl g xs i).take 0)):: []):=q;refine q.range (aiz (r:=r) (c:=c) (n3:=n3) (c4:=c4) (k5:=k5) (k:=(i:Int)) (T1:=cq) (T2:=mw) (T3:=au) hR hx) (by rintro s x s' ⟨⟨_,rfl⟩,_⟩;rfl)
   (λj f=>j<=(wl g xs i).length/\f=aj k5 [I i] au::aj c4 [ptr c] mw::aj n3 [ptr r] cq::aj o [I i] au::iY m::aj f5 [ptr b] nh::aj b (ku M g.ag.length s) jO::aA iK 1 ki s (setRow (j5 g xs M i) (bP g.ag.length) i ((wl g xs i).take j)):: []) (λ_=>False) (λ_ _=>False) ⟨Nat.zero_le _,rfl⟩ ?_ ?_ ?_ (λ_ _ h=>h.elim) (λ_ _ _ h=>h.elim)
  ·rintro j f h' ⟨_,rfl⟩ o';exact⟨o'.get 2 rfl,o'.get 1 rfl,o'.get 0 rfl,hC.more o'.ext,hN.more o'.ext⟩
  ·rintro M' j x j' f Pr h' R ⟨⟨hj,rfl⟩,rfl⟩ ⟨_,rfl⟩ o' A _ _;dsimp only[fk];unfold Ma;refine o'.begin 0 rfl λh11 d=> ?_;have d:Own h h11 (b6 _ _::bX _::aj k5 [I i] au::aj c4 [ptr c] mw::aj n3 [ptr r] cq::aj o [I i] au::iY m::aj f5 [ptr b] nh::aj b (ku M g.ag.length s) jO::aA iK 1 ki s (setRow (j5 g xs M i) (bP g.ag.length) i ((wl g xs i).take j))::([]++Pr)):=d;refine d.load 7 rfl rfl (d.load 5 rfl rfl ?_);refine aii d 8 9 (by decide) rfl rfl hlt (VZ (List.getElem_mem hj)) (by omega) (by rw[Iq,B3]) λh12 B=> ?_;refine A _ h12 ⟨by omega,rfl⟩ ?_;have e:setRow (j5 g xs M i) (bP g.ag.length) i ((wl g xs i).take (j+1))=nB (setRow (j5 g xs M i) (bP g.ag.length) i ((wl g xs i).take j)) (bP g.ag.length) i (wl g xs i)[j]:=by
    unfold setRow;rw[List.take_succ_eq_append_getElem hj,List.foldl_append];rfl
   rw[e];exact B
  ·rintro j h' f hj ⟨_,rfl⟩ o';subst hj;rw[List.take_length,<-VY]at o';rw[bt,wI i (by omega)];have C:=o'.tg 4 rfl;refine hZ (_,(I (i+1:Nat),())) h' hlt ⟨rfl,C.bh [4,5,6,7] (by decide)⟩
 ·have :i=M:=by omega
  subst this;refine a.load 1 rfl rfl (a.take 0 rfl λh6 p=> ?_);exact hK b s h6 (o0.frame (p.bh [2,3] (by decide)))
theorem aiB{v:Value}{l:List Bool}(H:Vw dP 1 h v l)(hl:l.length<2^40)(ht:∀x∈l,x=true)(hK:K (.bool true) h):ah Tryz.prog Eh [v] h K:=by
 refine aK (acp _ ?_);unfold O8;refine H.len ?_;refine cg l.length (λi x h'=>x.1=I i/\h'=h) ⟨rfl,rfl⟩ ?_;rintro i ⟨x,⟨⟩⟩ h' Z hi ⟨hx,rfl⟩ hZ;dsimp only at hx hZ ⊢;subst hx;unfold O7;simp only[bu,bg];refine⟨λhlt=> ?_,λhge=>hK⟩;have hlt:i<l.length:=by omega
 refine H.dH (e:=λx:Bool=>.bool x) (λ_=>rfl) hlt ?_;rw[ht _ (List.getElem_mem hlt),bH,Bool.not_true,aL,bt,wI i (by omega)];exact hZ (I (i+1:Nat),()) _ hlt ⟨rfl,rfl⟩
theorem V5(hR:g.Right)(hx:xs.length=g.n)(hN:bJ h r g)(hC:ia h c xs)(hB:mH h b M g.ag.length bs)(a:jw xs+1=(M:Int))(hK:∀h',Ext h h'->K (.bool true) h'):ah Tryz.prog zL [ptr r,ptr c,ptr b] h K:=by
 refine aK (abo _ _ _ ?_);unfold NH;refine V4 hR hx hN hC λh1 x1=> ?_;simp only[y9,Option.isSome_some];obtain⟨s,hb,_⟩:=hB.more x1;refine Is hb (Io (hC.more x1) ?_);rw[a,cF,beq_self_eq_true];refine B0 hb (rQ (hN.more x1) ?_);rw[cF,beq_self_eq_true];refine((Own.start h).more x1).build (enc:=dP) (n:=1) [true,true,true,true] rfl (bW rfl) rfl λw h2 o2=> ?_;exact aiB (o2.vw 0 rfl) (by decide) (by decide) (hK h2 o2.ext)
def od(l:List Bool)(is:List Nat):List Bool:=is.foldl (λl i=>l.set i true) l
theorem Ix:∀{is:List Nat}{l:List Bool},(od l is).length=l.length
 | [],_=>rfl
 |i::is,l=>by
  have :=Ix (is:=is) (l:=l.set i true);rw[List.length_set]at this;exact this
theorem V6:∀{is:List Nat}{l:List Bool}{j:Nat},j<l.length->(od l is)[j]? =some (decide (j∈is)||l.getD j false)
 | [],l,j,hj=>by simp[od,hj]
 | i::is,l,j,hj=>by
  have :=V6 (is:=is) (l:=l.set i true) (j:=j) (by simpa using hj);show(od (l.set i true) is)[j]? =_;rw[this];congr 1;by_cases e:i=j
  ·subst e;simp[hj]
  ·rw[List.getD_eq_getElem?_getD,List.getElem?_set_ne e,<-List.getD_eq_getElem?_getD];congr 1;apply decide_eq_decide.2;rw[List.mem_cons];exact⟨.inr,λh=>h.resolve_left λh=>e h.symm⟩
def pH(A:Nat)(f:Nat->Bool):List Bool:=(List.range A).map f
theorem aiC{A:Nat}{f:Nat->Bool}:od (List.replicate A false) ((List.range A).filter f)=pH A f:=by
 apply List.ext_getElem?;intro j;by_cases hj:j<A
 ·rw[V6 (by simpa using hj)];unfold pH;rw[List.getElem?_map,List.getElem?_range hj,Option.map_some];congr 1;have :(List.replicate A false).getD j false=false:=by
   rw[List.getD_eq_getElem?_getD,List.getElem?_replicate];split<;>rfl
  rw[this,Bool.or_false];cases hf:f j with
  |true=>exact decide_eq_true (List.mem_filter.2 ⟨List.mem_range.2 hj,hf⟩)
  |false=>exact decide_eq_false λh=>by have :=(List.mem_filter.1 h).2;rw[hf]at this;cases this
 ·rw[List.getElem?_eq_none (by rw[Ix];simpa using hj),List.getElem?_eq_none (by unfold pH;simpa using hj)]
theorem aiD{A row:Nat}(o:Own h0 h L)(hB:mH h b M A bs)(hr:row<M)(hm:M*bP A<2^40)(hA:A<2^39)(hl:bs.length=M*bP A)
  (hK:∀w h',Own h0 h' (aA dP 1 eA w (pH A λi=>eZ bs (bP A) row i)::L)->K w h'):ah Tryz.prog tK [ptr b,I row] h K:=by
 refine aK (acw _ _ ?_);unfold Pg;rw[bu,decide_eq_false (by omega),aL];obtain⟨s,hb,_⟩:=id hB;refine Is hb ?_;rw[c8,decide_eq_false (by omega),aL];refine B0 hb ?_;refine(Own.start h).make (enc:=dP) (n:=1) (a:=false) rfl (by omega) (by omega) λw h1 o1=> ?_;have f:=hB.more o1.ext;refine ail o1 (λh' x=>f.more x) hr hm hA hl λw2 h2 o2=> ?_;have hfl:((List.range A).filter λi=>eZ bs (bP A) row i).length<=A:=by
  have :=List.length_filter_le (λi=>eZ bs (bP A) row i) (List.range A);rw[List.length_range]at this;exact this
 have hall:∀i∈(List.range A).filter λi=>eZ bs (bP A) row i,i<A:=λi hi=>List.mem_range.1 (List.mem_filter.1 hi).1;rw[<-aiC]at hK;generalize ((List.range A).filter λi=>eZ bs (bP A) row i)=fl at o2 hfl hall hK;refine(o2.vw 0 rfl).len ?_;have o2:Own h h2 (aA aV 1 au w2 fl::aA dP 1 eA w (od (List.replicate A false) (fl.take 0)):: []):=o2;refine cg fl.length (λi x h'=>x.1=I i/\Own h h' (aA aV 1 au w2 fl::aA dP 1 eA w (od (List.replicate A false) (fl.take i)):: [])) ⟨rfl,o2⟩ ?_;rintro i ⟨x,⟨⟩⟩ h3 Z hi ⟨hx,d⟩ hZ;dsimp only at hx hZ ⊢;subst hx;unfold Pf;simp only[bu,bg];refine⟨λhlt=> ?_,λhge=> ?_⟩
 ·have hlt:i<fl.length:=by omega
  refine(d.vw 0 rfl).dH (e:=λx:Nat=>I x) (λ_=>rfl) hlt ?_;refine d.setAt (a:=true) 1 rfl Iv (Iw _) (by rw[Ix,List.length_replicate];exact hall _ (List.getElem_mem hlt)) rfl λh5 j=> ?_;rw[bt,wI i (by omega)];refine hZ (I (i+1:Nat),()) h5 hlt ⟨rfl,?_⟩;have e:od (List.replicate A false) (fl.take (i+1))=(od (List.replicate A false) (fl.take i)).set fl[i] true:=by
   unfold od;rw[List.take_succ_eq_append_getElem hlt,List.foldl_append];rfl
  rw[e];exact j
 ·have :fl.take i=fl:=List.take_of_length_le (by omega);rw[this]at d;exact hK w h3 (o.frame (d.bh [1] (by decide)))
end
open Go Go.Mh
section
variable{h0 h:aa}{L:List aM}{K:KT}{g:G}{r n1:Nat}{xs:List Int}
theorem aiE{cells:Nat}(h1:1<=cells)(h2:cells<=256)(hK:∀rows,yl cells rows->K (.tuple #[I rows,I (cells/rows:Nat)]) h):ah Tryz.prog D6 [I cells] h K:=by
 refine aK (abV _ ?_);unfold Oq;rw[bu,decide_eq_false (by omega),aL,dZ,decide_eq_false (by omega),aL];refine cg 255 (λi x h'=>x.1=I (i+1:Nat)/\h'=h/\(i+1)*(i+1)<=cells) ⟨rfl,rfl,h1⟩ ?_;rintro i ⟨x,⟨⟩⟩ h' Z hi ⟨hx,rfl,hle⟩ hZ;dsimp only at hx hZ ⊢;subst hx;unfold Oo;have hi':i+1<=256:=by
  have :=Nat.mul_le_mul_right (i+1) (show 1<=i+1 by omega);omega
 have a:(i+1+1)*(i+1+1)<=257*257:=Nat.mul_le_mul (by omega) (by omega);rw[bt,wI (i+1) (by omega),bt,wI (i+1) (by omega),jr];have em:((i+1+1:Nat):Int)*((i+1+1:Nat):Int)=(((i+1+1)*(i+1+1):Nat):Int):=by rw[Int.natCast_mul]
 rw[em,bG (by omega) (by omega),mS,bg];refine⟨λhc=> ?_,λhc=> ?_⟩
 ·rw[bt,wI (i+1) (by omega)];have hlt:i<255:=by
   by_cases e:255<=i
   ·have :=Nat.mul_le_mul (show 257<=i+1+1 by omega) (show 257<=i+1+1 by omega);omega
   ·omega
  exact hZ (I (i+1+1:Nat),()) _ hlt ⟨rfl,rfl,by omega⟩
 ·rw[mR];refine⟨by omega,?_⟩;have e3:(cells:Int).tdiv ((i+1:Nat):Int)=((cells/(i+1):Nat):Int):=by rw[Int.tdiv_eq_ediv_of_nonneg (by omega)];exact(Int.natCast_ediv cells (i+1)).symm
  have h4:cells/(i+1)<=cells:=Nat.div_le_self _ _;rw[e3];have h5:=hK (i+1) ⟨by omega,hle,by omega⟩;generalize cells/(i+1)=q at h4 h5;rw[bG (by omega) (by omega)];exact h5
theorem V7{T:TypeId}(hR:g.Right):Iter Tryz.prog (.func (.func EG) #[] #[ptr n1]) (λh=>h[n1]? =some (.cells #[ptr r] T (0,0))/\bJ h r g) g.n (λi _=>[I (g.X.getD i 0),I (g.Y.getD i 0)]):=by
 rintro yv h0 h d K J E ⟨l,rfl⟩ o b hQ hY hK;refine iJ (l:=[dm l,ptr n1]) rfl (ada _ _ ?_);unfold QE;have f:=hR.most;obtain⟨hb,hN⟩:=hQ _ _ _ b o;have hc:hcell h ⟨n1,0,none⟩=some (ptr r):=aY hb rfl;refine bC rfl hc (dF hN ?_);refine cg g.n (λi x h'=>x.1=I i/\∃a,J i a/\Own h0 h' a) ⟨rfl,d,b,o⟩ ?_;rintro i ⟨x,⟨⟩⟩ h Z hi ⟨hx,a,hj,o⟩ hZ;dsimp only at hx hZ ⊢;subst hx;unfold QD;simp only[bu,bg];refine⟨λhlt=> ?_,λhge=> ?_⟩
 ·have hlt:i<g.n:=by omega
  obtain⟨hb',e⟩:=hQ _ _ _ hj o;have hc:hcell h ⟨n1,0,none⟩=some (ptr r):=aY hb' rfl;refine bC rfl hc (Uh hR e hlt ?_);simp only[b9,bZ,k8];refine hY i _ (i+1) a [] h _ ⟨⟨hlt,rfl⟩,rfl⟩ hj o.mW (λc h'' hj' o'=> ?_) λc h'' he o'=> ?_
  ·rw[bH,Bool.not_true,aL,bt,wI i (by omega)];exact hZ (I (i+1:Nat),()) h'' hlt ⟨rfl,c,hj',o'.fm⟩
  ·rw[bH,Bool.not_false,bq];exact hK _ _ (.inr he) o'.fm
 ·have :i=g.n:=by omega
  exact hK _ _ (.inl ⟨i,this,hj⟩) o
def uM(e:kR):Value:=.agg #[I e.lo,I e.hi,.bool e.any]
def fM(e:kR):List Value:=[I e.lo,I e.hi,.bool e.any]
theorem V8{e:kR}{x:Int}(hK:∀h',Ext h h'->K (uM (eS e x)) h'):ah Tryz.prog zO [uM e,I x] h K:=by
 refine aK (abW _ _ ?_);unfold Ou;refine(Own.start h).box λe2 h1 o1=>o1.box λt4 h2 o2=> ?_;have o2:Own h h2 [aj t4 [I 0,I 0,.bool false] gE,aj e2 (fM e) gE]:=o2;simp only[aQ,Nat.zero_add];refine o2.load 1 rfl rfl ?_;rw[bH];have fin:∀e':kR,eS e x=e'->aC 3 (ptr t4) (uM e') h2 λu h_3=>aZ 3 h_3 (ptr t4) λres=>K res h_3:=λe' he=>by
  subst he;refine o2.st (l:=fM (eS e x)) (cs':=fM (eS e x)) 0 rfl rfl rfl rfl rfl ?_ λh3 a=>a.bN (cs':=fM (eS e x)) 0 rfl rfl rfl (hK h3 a.ext);intro u hu;simp[fM]at hu;rcases hu with rfl|rfl|rfl<;>rfl
 cases ha:e.any with
 |false=>
  rw[Bool.not_false,bq];refine cG (cs':=fM ⟨x,x,true⟩) (by intro p hp;simp at hp;rcases hp with rfl|rfl|rfl<;>rfl) rfl rfl (fin ⟨x,x,true⟩ ?_);unfold eS;rw[ha];rfl
 | true=>
  rw[Bool.not_true,aL];have b:Own h h2 [aj t4 [I 0,I 0,.bool false] gE,aj e2 (fM e) gE]:=o2;refine b.load 1 rfl rfl ?_;rw[oI];refine b.load 1 rfl rfl ?_;rw[l9];refine cG (cs':=fM ⟨min e.lo x,max e.hi x,true⟩) (by intro p hp;simp at hp;rcases hp with rfl|rfl|rfl<;>rfl) rfl ?_ (fin ⟨min e.lo x,max e.hi x,true⟩ ?_)
  ·show[I (if x<e.lo then x else e.lo),I (if x>e.hi then x else e.hi),Value.bool true]=[I (min e.lo x),I (max e.hi x),Value.bool true];rw[show(if x<e.lo then x else e.lo)=min e.lo x by rw[Int.min_def];split<;>split<;>omega,show(if x>e.hi then x else e.hi)=max e.hi x by rw[Int.max_def];split<;>split<;>omega]
  ·unfold eS;rw[ha];rfl
def kS(ea ma wa:Nat):Value:=.func (.func EH) #[] #[ptr ea,ptr ma,ptr wa]
def oe(ea ma wa:Nat)(e:kR)(many:Nat):aM:=js [aj wa [I (e.hi-e.lo+1)] bY,aj ma [I many] au,aj ea (fM e) gE]
theorem V9{e:kR}{many:Nat}(o:Own h0 h L)(h1: -2147483648<=e.lo)(h2:e.hi<=2147483647)(h3:e.lo<=e.hi)(hK:∀ea ma wa h',Own h0 h' (oe ea ma wa e many::L)->K (kS ea ma wa) h'):ah Tryz.prog jc [uM e,I many] h K:=by
 refine aK (abX _ _ ?_);unfold Ov;refine o.box λea d o1=>o1.box λma a o2=> ?_;have o2:Own h0 a (aj ma [I many] au::aj ea (fM e) gE::L):=o2;simp only[aQ,Nat.zero_add];refine o2.load 1 rfl rfl (o2.load 1 rfl rfl ?_);rw[eM,bG (by omega) (by omega),bt,bG (by omega) (by omega)];refine o2.box λwa f b=>b.bf 0 (cs':=[I (e.hi-e.lo+1)]) rfl rfl rfl rfl rfl λh4 c=>hK ea ma wa h4 (Own.sep (l:=[_,_,_]) c)
theorem Wa{ea ma wa many:Nat}{e:kR}{x:Int}(o:Own h0 h L)(p:Nat)(hp:L[p]? =some (oe ea ma wa e many))(h1: -2147483648<=e.lo)(h2:e.hi<=2147483647)(h3:e.lo<=x)(h4:x<=e.hi)(hm:many<=256)(a:1<=many)
  (hK:K (I (partOf e many x)) h):aS Tryz.prog (kS ea ma wa) [I x].toArray h K:=by
 refine bU (l:=[I x,ptr ea,ptr ma,ptr wa]) rfl (ade _ _ _ _ ?_);unfold QG;obtain⟨q,_⟩:=o.get p hp;have q1:=q _ (List.mem_cons_self);have q2:=q _ (List.mem_cons_of_mem _ List.mem_cons_self);have b:=q _ (List.mem_cons_of_mem _ (List.mem_cons_of_mem _ List.mem_cons_self));have c1:hcell h ⟨wa,0,none⟩=some (I (e.hi-e.lo+1)):=aY q1 rfl;have c2:hcell h ⟨ma,0,none⟩=some (I many):=aY q2 rfl;have c3:hcell h ⟨ea,0,none⟩=some (I e.lo):=aY b rfl;simp only[aQ,cI,Nat.zero_add,c1,c2,c3];have hb:0<=(x-e.lo)*(many:Int):=Int.mul_nonneg (by omega) (by omega);have c:(x-e.lo)*(many:Int)<=4294967296*256:=Int.mul_le_mul (by omega) (by omega) (by omega) (by omega);have hp:=yj h3 h4 a;rw[eM,bG (by omega) (by omega),jr,bG (by omega) (by omega),mR];refine⟨by omega,?_⟩;rw[Int.tdiv_eq_ediv_of_nonneg hb];unfold partOf at hp hK;rw[bG (by omega) (by omega)];exact hK
end
end Go.Proofs.YthglofkkjoiepaaGreatDoor

set_option maxRecDepth 100000
namespace Go.Proofs.YthglofkkjoiepaaGreatDoor
open Go Go.Mh
section
variable{h0 h:aa}{L:List aM}{K:KT}{g:G}{r:Nat}
theorem Wb{l:List Int}{i:Nat}(hi:i<l.length):fA (l.take (i+1))=eS (fA (l.take i)) l[i]:=by
 unfold fA;rw[List.take_succ_eq_append_getElem hi,List.foldl_append];rfl
theorem Wc(e:kR):∀u∈fM e,Mh.plainCell u=true:=by
 intro u hu;simp[fM]at hu;rcases hu with rfl|rfl|rfl<;>rfl
set_option maxHeartbeats 4000000 in
theorem aiF{cells:Nat}(o0:Own h0 h L)(hR:g.Right)(hN:bJ h r g)(hc1:1<=cells)(ak:cells<=256)
  (hK:∀rows w h',yl cells rows->Own h0 h' (aA aG 1 au w (uL g rows (cells/rows))::L)->K w h'):ah Tryz.prog tw [ptr r,I cells] h K:=by
 refine aK (aaZ _ _ ?_);unfold M8;have aH:=hR.most;have hpos:=hR.pos;have P:=hR.x;have Q:=hR.y;refine(Own.start h).box λl4 h1 o1=> ?_;refine aiE hc1 ak λrows hS=> ?_;simp only[b9,bZ];have B:=hS.dK;have an:cells/rows<=cells:=Nat.div_le_self _ _;have hrl:rows<=256:=by
  have h1:=hS.1;have h2:=hS.2.1;have :=Nat.mul_le_mul_right rows h1;omega
 have S:=hS.1;have q:=λw h'=>hK rows w h' hS;generalize cells/rows=dK at B q an;refine o1.box λp h2 o2=>o2.bf 0 (cs':=[I dK]) rfl rfl rfl rfl rfl λh3 aq=> ?_;rw[cF,show((rows:Int)==0)=false by simp;omega,aL];refine aq.box λac h4 av=>av.box λf h5 t=> ?_;refine aK (Ot _ ?_);unfold F9;refine t.box λn1 h6 k=> ?_;have k:Own h h6 [aj n1 [ptr r] cq,aj f (fM (fA (g.Y.take 0))) gE,aj ac (fM (fA (g.X.take 0))) gE,aj p [I dK] au,aj l4 [.slice none 0 0] bR]:=k;refine k.range (V7 (r:=r) (n1:=n1) (T:=cq) hR) (by rintro s x s' ⟨⟨_,rfl⟩,_⟩;rfl)
  (λi d=>i<=g.n/\d=[aj n1 [ptr r] cq,aj f (fM (fA (g.Y.take i))) gE,aj ac (fM (fA (g.X.take i))) gE,aj p [I dK] au,aj l4 [.slice none 0 0] bR]) (λ_=>False) (λ_ _=>False) ⟨Nat.zero_le _,rfl⟩ ?_ ?_ ?_ (λ_ _ h=>h.elim) (λ_ _ _ h=>h.elim)
 ·rintro i d h' ⟨_,rfl⟩ o';exact⟨o'.get 0 rfl,hN.more o'.ext⟩
 ·rintro M i x i' d Pr h' R ⟨⟨hlt,rfl⟩,rfl⟩ ⟨_,rfl⟩ o' C _ _;dsimp only[fk];unfold M5;refine o'.begin 0 rfl λh10 a=> ?_;have a:Own h h10 (b6 _ _::bX _::aj n1 [ptr r] cq::aj f (fM (fA (g.Y.take i))) gE::aj ac (fM (fA (g.X.take i))) gE::aj p [I dK] au::aj l4 [.slice none 0 0] bR::Pr):=a;refine a.bN 4 rfl rfl rfl (a.bN 3 rfl rfl rfl ?_);refine V8 (e:=fA (g.X.take i)) λh11 U=>⟨(a.more U).bN 3 rfl rfl rfl rfl,?_⟩;refine V8 (e:=fA (g.Y.take i)) λh12 ax=> ?_;have ay:=(a.more U).more ax;refine ay.st (l:=fM (eS (fA (g.X.take i)) (g.X.getD i 0))) (cs':=fM (eS (fA (g.X.take i)) (g.X.getD i 0))) 4 rfl rfl rfl rfl rfl (Wc _) λaI az=> ?_;refine az.st (l:=fM (eS (fA (g.Y.take i)) (g.Y.getD i 0))) (cs':=fM (eS (fA (g.Y.take i)) (g.Y.getD i 0))) 3 rfl rfl rfl rfl rfl (Wc _) λaB V=> ?_;rw[oZ (by omega),oZ (by omega),<-Wb (by omega),<-Wb (by omega)]at V;exact C _ aB ⟨by omega,rfl⟩ V
 rintro i u d hi ⟨_,rfl⟩ m;subst hi;rw[List.take_of_length_le (by omega),List.take_of_length_le (by omega)]at m;have aC:g.X≠ []:=λe=>by rw[e]at P;simp at P;omega
 have aD:g.Y≠ []:=λe=>by rw[e]at Q;simp at Q;omega
 obtain⟨D,E,W,Z⟩:=BU hR.xr aC;obtain⟨F,H,af,ag⟩:=BU hR.yr aD;have hX:∀i,i<g.n->g.X.getD i 0∈g.X:=λi hi=>by rw[oZ (by omega)];exact List.getElem_mem _
 have hY:∀i,i<g.n->g.Y.getD i 0∈g.Y:=λi hi=>by rw[oZ (by omega)];exact List.getElem_mem _
 have hg:∀rows dK,uL g rows dK=(List.range g.n).map λv=>partOf (fA g.Y) rows (g.Y.getD v 0)*dK+partOf (fA g.X) dK (g.X.getD v 0):=λ_ _=>rfl;rw[hg]at q;generalize fA g.X=ex at m D E W Z q;generalize fA g.Y=b at m F H af ag q;have lx:∀{h':aa}{K:Value->Prop},Ext u h'->K (uM ex)->aZ 3 h' (ptr ac) K:=λx hk=>(m.more x).bN 3 rfl rfl rfl hk;have ly:∀{h':aa}{K:Value->Prop},Ext u h'->K (uM b)->aZ 3 h' (ptr f) K:=λx hk=>(m.more x).bN 2 rfl rfl rfl hk;refine gh (λy h'=>∃col row ea ma wa eb c wb,y=(ptr col,(ptr row,()))/\Own u h' [aj row [kS eb c wb] fV,aj col [kS ea ma wa] fV,oe eb c wb b rows,oe ea ma wa ex dK]) (λJ hJ=> ?_) ?_
 ·have o:=Own.start u;refine lx (.refl _ _) ((m.load 4 rfl rfl) (ly (.refl _ _) ?_))
  repeat' (first
   |refine V9 o D E W λea ma wa hh o=> ?_
   |refine V9 o F H af λeb c wb hh o=> ?_
   |refine o.box λcol hh o=> ?_
   |refine o.bf 0 (cs':=[kS _ _ _]) rfl rfl rfl rfl rfl λhh o=> ?_
   |refine o.bf 1 (cs':=[kS _ _ _]) rfl rfl rfl rfl rfl λhh o=> ?_
   |refine o.bf 2 (cs':=[kS _ _ _]) rfl rfl rfl rfl rfl λhh o=> ?_
   |refine o.bf 3 (cs':=[kS _ _ _]) rfl rfl rfl rfl rfl λhh o=> ?_
   |exact ly o.ext rfl
   |exact hJ _ _ ⟨_,_,_,_,_,_,_,_,rfl,o.bh [0,1,2,3] (by decide)⟩
   |exact hJ _ _ ⟨_,_,_,_,_,_,_,_,rfl,o.bh [1,0,2,3] (by decide)⟩
   |exact hJ _ _ ⟨_,_,_,_,_,_,_,_,rfl,o.bh [0,2,1,3] (by decide)⟩
   |exact hJ _ _ ⟨_,_,_,_,_,_,_,_,rfl,o.bh [2,0,1,3] (by decide)⟩
   |exact hJ _ _ ⟨_,_,_,_,_,_,_,_,rfl,o.bh [1,2,0,3] (by decide)⟩
   |exact hJ _ _ ⟨_,_,_,_,_,_,_,_,rfl,o.bh [2,1,0,3] (by decide)⟩
   |exact hJ _ _ ⟨_,_,_,_,_,_,_,_,rfl,o.bh [0,3,1,2] (by decide)⟩
   |exact hJ _ _ ⟨_,_,_,_,_,_,_,_,rfl,o.bh [3,0,1,2] (by decide)⟩
   |exact hJ _ _ ⟨_,_,_,_,_,_,_,_,rfl,o.bh [1,3,0,2] (by decide)⟩
   |exact hJ _ _ ⟨_,_,_,_,_,_,_,_,rfl,o.bh [3,1,0,2] (by decide)⟩
   |exact hJ _ _ ⟨_,_,_,_,_,_,_,_,rfl,o.bh [2,3,0,1] (by decide)⟩
   |exact hJ _ _ ⟨_,_,_,_,_,_,_,_,rfl,o.bh [3,2,0,1] (by decide)⟩
   |with_reducible apply And.intro)
 rintro⟨y,z,⟨⟩⟩ aJ ⟨col,row,ea,ma,wa,eb,c,wb,e,aE⟩;injection e with e1 e2;injection e2 with e2 _;dsimp only;subst e1 e2;unfold M7;have N:=(m.frame aE).zd;have N:=Own.tg (j:=0) (N.bh [5,0,1,2,3,4,6,7,8,9,10] (by decide)) rfl;refine aK (Ot _ ?_);unfold F9;refine N.box λn2 aF O=> ?_;have O:Own h aF (aA aG 1 au (.slice none 0 0) (((List.range g.n).map λv=>partOf b rows (g.Y.getD v 0)*dK+partOf ex dK (g.X.getD v 0)).take 0)::aj n2 [ptr r] cq::iY [h6.size]::aj row [kS eb c wb] fV::aj col [kS ea ma wa] fV::oe eb c wb b rows::oe ea ma wa ex dK::aj n1 [ptr r] cq::aj f (fM b) gE::aj ac (fM ex) gE::aj p [I dK] au::aj l4 [.slice none 0 0] bR:: []):=Own.en (enc:=aG) (n:=1) (T:=au) O;refine O.range (V7 (r:=r) (n1:=n2) (T:=cq) hR) (by rintro s x s' ⟨⟨_,rfl⟩,_⟩;rfl)
  (λi d=>i<=g.n/\∃w,d=aA aG 1 au w (((List.range g.n).map λv=>partOf b rows (g.Y.getD v 0)*dK+partOf ex dK (g.X.getD v 0)).take i)::aj n2 [ptr r] cq::iY [h6.size]::aj row [kS eb c wb] fV::aj col [kS ea ma wa] fV::oe eb c wb b rows::oe ea ma wa ex dK::aj n1 [ptr r] cq::aj f (fM b) gE::aj ac (fM ex) gE::aj p [I dK] au::aj l4 [w] bR:: []) (λ_=>False) (λ_ _=>False) ⟨Nat.zero_le _,_,rfl⟩ ?_ ?_ ?_ (λ_ _ h=>h.elim) (λ_ _ _ h=>h.elim)
 ·rintro i d h' ⟨_,w,rfl⟩ o';exact⟨o'.get 1 rfl,hN.more o'.ext⟩
 ·rintro M i x i' d Pr h' R ⟨⟨hlt,rfl⟩,rfl⟩ ⟨_,w,rfl⟩ o' C _ _;dsimp only[fk];unfold M6;refine o'.begin 0 rfl λh10 a=> ?_;have a:Own h h10 (b6 _ _::bX _::aA aG 1 au w (((List.range g.n).map λv=>partOf b rows (g.Y.getD v 0)*dK+partOf ex dK (g.X.getD v 0)).take i)::aj n2 [ptr r] cq::iY [h6.size]::aj row [kS eb c wb] fV::aj col [kS ea ma wa] fV::oe eb c wb b rows::oe ea ma wa ex dK::aj n1 [ptr r] cq::aj f (fM b) gE::aj ac (fM ex) gE::aj p [I dK] au::aj l4 [w] bR::([]++Pr)):=a;have ix:=Z _ (hX i hlt);have A:=ag _ (hY i hlt);refine a.load 13 rfl rfl (a.load 5 rfl rfl (a.load 12 rfl rfl (a.load 6 rfl rfl ?_)));refine Wa a 7 rfl F H A.1 A.2 hrl S ⟨a.load 13 rfl rfl rfl,a.load 12 rfl rfl rfl,a.load 6 rfl rfl rfl,?_⟩;have p1:=yj A.1 A.2 S;have p2:=yj ix.1 ix.2 B.1;have hm:partOf b rows (g.Y.getD i 0)*(dK:Int)<=256*256:=Int.mul_le_mul (by omega) (by omega) (by omega) (by omega);have hm0:0<=partOf b rows (g.Y.getD i 0)*(dK:Int):=Int.mul_nonneg p1.1 (by omega);rw[jr,bG (by omega) (by omega)];refine Wa a 8 rfl D E ix.1 ix.2 (by omega) B.1 ⟨a.load 13 rfl rfl rfl,a.load 12 rfl rfl rfl,?_⟩;rw[bt,bG (by omega) (by omega)];refine a.fF 2 (partOf b rows (g.Y.getD i 0)*(dK:Int)+partOf ex dK (g.X.getD i 0)) rfl rfl (bW rfl) (λ_=>rfl) ja rfl (by decide) (by rw[List.length_take];omega) λw' h5 t=> ?_;have hw':=t.vw 2 rfl;refine t.bf 13 (cs':=[w']) rfl rfl rfl hw'.one hw'.plain λh6 k=> ?_;refine C _ h6 ⟨by omega,w',rfl⟩ ?_;rw[List.take_succ_eq_append_getElem (by simpa using hlt)];simp only[List.getElem_map,List.getElem_range];exact k
 ·rintro i h' d hi ⟨_,w,rfl⟩ o';subst hi;rw[List.take_of_length_le (by simp)]at o';have hw':=o'.vw 1 rfl;refine o'.load 12 rfl rfl (o'.bf 12 (cs':=[w]) rfl rfl rfl hw'.one hw'.plain λh6 k=> ?_);refine Own.Y5 k 2 rfl λh7 ai=>ai.load 11 rfl rfl ?_;exact q w h7 (o0.frame (ai.bh [0] (by decide)))
end
open Go Go.Mh
section
variable{h0 h:aa}{L:List aM}{K:KT}{g:G}{r:Nat}{vo:Value}{O:List Nat}
def aiG(O:List Nat)(i:Nat)(x:List Value)(i':Nat):Prop:=i<O.length/\i'=i+1/\∃k:Int,x=[I k,I (O.reverse.getD i 0:Nat)]
def aiH(O:List Nat)(i:Nat)(x:List Value)(i':Nat):Prop:=i<O.length/\i'=i+1/\x=[I (O.reverse.getD i 0:Nat)]
theorem Wd{i:Nat}(h:i<O.length):O.reverse.getD i 0=O[O.length-1-i]'(by omega):=by
 rw[List.getD_eq_getElem?_getD,List.getElem?_reverse h,List.getElem?_eq_getElem (by omega)];rfl
theorem aiI{b:Nat}{T:TypeId}(hl:O.length<2^40):gP Tryz.prog (.func (.func FC) #[] #[ptr b]) (λh=>h[b]? =some (.cells #[vo] T (0,0))/\Vw aV 1 h vo O) (σ:=Nat) 0 (aiG O) (λi=>i=O.length):=by
 rintro yv h0 h f K J E ⟨l,rfl⟩ o c hQ hY hK;refine iJ (l:=[dm l,ptr b]) rfl (aeT _ _ ?_);unfold Th;obtain⟨hb,hv⟩:=hQ _ _ _ c o;have hc:hcell h ⟨b,0,none⟩=some vo:=aY hb rfl;refine bC rfl hc (hv.len ?_);rw[eM,bG (by omega) (by omega)];refine cg O.length (λi x h'=>x.1=I ((O.length:Int)-1-i)/\∃a,J i a/\Own h0 h' a) ⟨by show I _=I _;congr 1;omega,f,c,o⟩ ?_;clear hb hv hc o c;rintro i ⟨x,⟨⟩⟩ h Z hi ⟨hx,a,hj,o⟩ hZ;dsimp only at hx hZ ⊢;subst hx;unfold Tg;rw[c8,bg];refine⟨λhlt=> ?_,λhge=> ?_⟩
 ·have hlt:i<O.length:=by omega
  obtain⟨hb,hv⟩:=hQ _ _ _ hj o;have hc:hcell h ⟨b,0,none⟩=some vo:=aY hb rfl;refine bC rfl hc ?_;rw[show((O.length:Int)-1-i)=((O.length-1-i:Nat):Int) by omega];refine hv.dH (e:=λ(x:Nat)=>I x) (λ_=>rfl) (show O.length-1-i<O.length by omega) ?_;rw[<-Wd hlt];refine hY i _ (i+1) a [] h _ ⟨hlt,rfl,_,rfl⟩ hj o.mW (λd h'' hj' o'=> ?_) λd h'' he o'=> ?_
  ·rw[bH,Bool.not_true,aL,eM,bG (by omega) (by omega)];exact hZ (_,()) h'' hlt ⟨by show I _=I _;congr 1;omega,d,hj',o'.fm⟩
  ·rw[bH,Bool.not_false,bq];exact hK _ _ (.inr he) o'.fm
 ·have :i=O.length:=by omega
  exact hK _ _ (.inl ⟨i,this,hj⟩) o
theorem aiJ{b:Nat}{T:TypeId}(hl:O.length<2^40):gP Tryz.prog (.func (.func Fp) #[] #[ptr b]) (λh=>h[b]? =some (.cells #[vo] T (0,0))/\Vw aV 1 h vo O) (σ:=Nat) 0 (aiH O) (λi=>i=O.length):=by
 rintro yv h0 h n K J E ⟨l,rfl⟩ o f hQ hY hK;refine iJ (l:=[dm l,ptr b]) rfl (aey _ _ ?_);unfold SK;obtain⟨hb,hv⟩:=hQ _ _ _ f o;have hone:=hv.one;refine o.box λe h1 o1=> ?_;have o1:Own h0 h1 (aj e [dm l] fH::n):=o1;obtain⟨s,u⟩:=hQ _ _ _ f o1.tail;have hc:hcell h1 ⟨b,0,none⟩=some vo:=aY s rfl;refine bC rfl hc ?_;refine aK (aez _ ?_);unfold SL;refine o1.box λs1 h2 o2=> ?_;rw[show(Value.cells vo).toList=[vo] by rw[hone]]at o2;refine o2.range (aiI (O:=O) (vo:=vo) (T:=bR) hl) (by rintro i x i' ⟨_,_,k,rfl⟩;rfl)
  (λi c=>∃a,c=aj s1 [vo] bR::aj e [dm l] fH::a/\J i a)
  (λc=>∃a,c=aj s1 [vo] bR::aj e [dm l] fH::a/\E a) (λ_ _=>False) ⟨n,rfl,f⟩ ?_ ?_ ?_ ?_ (λ_ _ _ h=>h.elim)
 ·rintro i c h' ⟨a,rfl,hj⟩ o';exact⟨o'.get 0 rfl,(hQ _ _ _ hj o'.tail.tail).2⟩
 ·rintro M i x i' c Pr h' R ⟨h1,rfl,k,rfl⟩ ⟨a,rfl,hj⟩ o' hN hR _;dsimp only[fk];unfold SJ;refine o'.begin 0 rfl λh3 p=> ?_;refine p.load 3 rfl rfl ?_;have t:Own h0 h3 ([b6 (h2.size+1) (lo M .busy none),bX h2.size,aj s1 [vo] bR,aj e [dm l] fH]++(a++Pr)):=p;have q:=Own.comm t;rw[List.append_assoc]at q;refine hY i _ (i+1) a _ h3 _ ⟨h1,rfl,rfl⟩ hj q (λj h'' hj' d=> ?_) λj h'' he d=> ?_
  ·rw[bH,Bool.not_true,aL];rw[<-List.append_assoc]at d;exact hN _ h'' ⟨j,rfl,hj'⟩ (Own.comm d)
  ·rw[bH,Bool.not_false,bq];rw[<-List.append_assoc]at d;exact hR _ h'' ⟨j,rfl,he⟩ (Own.comm d)
 ·rintro i h' c rfl ⟨a,rfl,hj⟩ o';exact o'.iZ 0 rfl λh10 m=>hK _ _ (.inl ⟨_,rfl,hj⟩) m.tail.tail.tail
 ·rintro h' c ⟨a,rfl,he⟩ o';exact o'.iZ 0 rfl λh10 m=>hK _ _ (.inr he) m.tail.tail.tail
def yq:Option Nat->Value
 |none=>I (-1)
 |some w=>I w
theorem We{fv hv:Value}{f:Nat->Int}{Q:aa->Prop}(o:Own h0 h L)(hone:hv.cells= #[hv])(p:Mh.plainCell hv=true)(hI:gP Tryz.prog fv Q (σ:=Nat) 0 (Ul O) (λi=>i=O.length))(hQ:∀h',Own h0 h' L->Q h')
  (hH:∀h'(v:Nat)(K:KT),v∈O->Own h0 h' L->K (I (f v)) h'->aS Tryz.prog hv [I v].toArray h' K) (hK:∀h',Own h0 h' L->K (yq (jh f O)) h'):ah Tryz.prog z8 [fv,hv] h K:=by
 refine aK (ac4 _ _ ?_);unfold Qx;refine o.box λa3 h1 o1=>o1.box λf5 h2 o2=>o2.bf 0 (cs':=[I (-1)]) rfl rfl rfl rfl rfl λh3 c=> ?_;have c:Own h0 h3 (aj f5 [yq (jh f (O.take 0))] au::aj a3 [hv] kK::L):=by
  have :(Value.cells hv).toList=[hv]:=by rw[hone]
  rw[this]at c;exact c
 clear o1 o2;refine c.range hI (by rintro i x i' ⟨_,_,rfl⟩;rfl) (λi d=>i<=O.length/\d=aj f5 [yq (jh f (O.take i))] au::aj a3 [hv] kK::L) (λ_=>False) (λ_ _=>False) ⟨Nat.zero_le _,rfl⟩ ?_ ?_ ?_ (λ_ _ h=>h.elim) (λ_ _ _ h=>h.elim)
 ·rintro i d h' ⟨_,rfl⟩ o';exact hQ _ o'.tail.tail
 ·rintro M i x i' d Pr h' R ⟨h1,rfl,rfl⟩ ⟨_,rfl⟩ o' hN _ _;dsimp only[fk];unfold Qw;have e:O.getD i 0=O[i]:=by rw[List.getD_eq_getElem?_getD,List.getElem?_eq_getElem h1];rfl
  rw[e];have hmem:O[i]∈O:=List.getElem_mem h1;have j:jh f (O.take (i+1))=qx f (jh f (O.take i)) O[i]:=by rw[List.take_succ_eq_append_getElem h1,ahi]
  have hold:∀w,jh f (O.take i)=some w->w∈O:=λw hw=>by
   rcases pF (f:=f) (l:=O.take i)with ⟨e,_⟩|⟨w',e,h1,_⟩
   ·rw[e]at hw;cases hw
   ·rw[e]at hw;cases hw;exact List.mem_of_mem_take h1
  generalize O[i]=v at hmem j;generalize jh f (O.take i)=b at o' j hold;refine o'.begin 0 rfl λh4 a=> ?_;have a:Own h0 h4 (b6 (h3.size+1) (lo M .busy none)::bX h3.size::aj f5 [yq b] au::aj a3 [hv] kK::(L++Pr)):=a;have k:Own h0 h4 L:=a.tail.tail.tail.tail.left;have k2:qx f b v=some v->xm Tryz.prog (ptr f5) (I v) R h4:=λhb=>by
   unfold xm;refine a.bf 2 (cs':=[I v]) rfl rfl rfl rfl rfl λh5 m=> ?_;refine hN _ h5 ⟨h1,rfl⟩ ?_;rw[j,hb];exact m
  have same:qx f b v=b->R .normal h4:=λhb=>by
   refine hN _ h4 ⟨h1,rfl⟩ ?_;rw[j,hb];exact a
  refine a.load 3 rfl rfl (hH _ _ _ hmem k ?_);rw[dZ,bg];refine⟨λhp=>a.load 2 rfl rfl ?_,λhn=>same (if_neg λh=>hn h.1)⟩;cases b with
  |none=>
   show ak .lss (I (-1)) _ _;rw[bu,show decide ((-1:Int)<0)=true from rfl,bq];exact k2 (if_pos ⟨hp,rfl⟩)
  |some w=>
   show ak .lss (I w) _ _;rw[bu,show decide ((w:Int)<0)=false from decide_eq_false (by omega),aL];refine a.load 3 rfl rfl (a.load 2 rfl rfl (hH _ w _ (hold w rfl) k ?_));rw[dZ,bg];refine⟨λhw=>k2 (if_pos ⟨hp,decide_eq_true (.inl hw)⟩),λhw=>a.load 3 rfl rfl (a.load 2 rfl rfl (hH _ w _ (hold w rfl) k ?_))⟩;rw[cF,iW];refine⟨λhe=>a.load 2 rfl rfl ?_,λhe=>same (if_neg λh=>by have :=of_decide_eq_true h.2;omega)⟩;show ak .lss _ (I w) _;rw[bu,bg];exact⟨λhl=>k2 (if_pos ⟨hp,decide_eq_true (.inr ⟨he,by omega⟩)⟩),λhl=>same (if_neg λh=>by have :=of_decide_eq_true h.2;omega)⟩
 ·rintro i h' d rfl ⟨_,rfl⟩ o';rw[List.take_length]at o';refine o'.load 1 rfl rfl (o'.iZ 0 rfl λh10 n=> ?_);exact hK _ n.tail.tail.tail
end
open Go Go.Mh
section
variable{h0 h:aa}{L:List aM}{K:KT}{g:G}{r:Nat}
theorem aiK{z:Int}(H:bJ h r g)(hK:K (.bool (decide (0<=z)&&decide (z<g.n))) h):ah Tryz.prog DQ [ptr r,I z] h K:=by
 refine aK (abk _ _ ?_);unfold NC;simp only[c8,bg];refine⟨λh1=>dF H ?_,λh1=> ?_⟩
 ·rw[bu];rw[decide_eq_true h1,Bool.true_and]at hK;exact hK
 ·rw[decide_eq_false h1,Bool.false_and]at hK;exact hK
theorem Iy{z:Int}(H:bJ h r g)(hK:∀h',Ext h h'->K (.tuple #[vA (dU g.ag z).1,.bool (dU g.ag z).2]) h'):ah Tryz.prog jN [ptr r,I z] h K:=by
 refine TD H (λi hi e h' x=> ?_) λhn h' x=> ?_
 ·subst e;have :=hK h' x;rw[show dU g.ag (i:Int)=(g.ag[i],true) by simp[dU,aD,hi]]at this;exact this
 ·have :=hK h' x;rw[dU,if_neg hn]at this;exact this
theorem aiL(hR:g.Right){z:Int}:((dU g.ag z).1.w:Int)<=2147483647:=by
 unfold dU;split
 ·rename_i h1;have :=(hR.ends _ (gD (l:=g.ag) (i:=z.toNat) (by omega))).2.2;show((aD g.ag z.toNat).w:Int)<=_;omega
 ·decide
theorem aiM{a5 n3 s4:Nat}{s:Int}{va:Value}{ag:List Int}{T1 T2:TypeId}(hl:ag.length<2^40):
  zf Tryz.prog (.func (.func Eg) #[] #[ptr a5,ptr n3,ptr s4]) (λ_ h=>h[a5]? =some (.cells #[va] T1 (0,0))/\h[n3]? =some (.cells #[ptr r] T2 (0,0))/\bJ h r g/\Vw aG 1 h va ag)
   [aj s4 [I s] au] (σ:=Nat×Int) (0,s) (Kh g.ag ag) (λp=>p.1=ag.length):=by
 rintro yv h0 h n K J E ⟨l,rfl⟩ o j hQ hY hK;refine iJ (l:=[dm l,ptr a5,ptr n3,ptr s4]) rfl (aco _ _ _ _ ?_);unfold O6;obtain⟨ha,_,_,hv⟩:=hQ _ _ _ j o.left;refine bC rfl (aY ha rfl) (hv.len ?_);refine cg ag.length (λi x h'=>x.1=I i/\∃s' d,J (i,s') d/\Own h0 h' (d++ [aj s4 [I s'] au])) ⟨rfl,s,n,j,o⟩ ?_;clear ha hv;rintro i ⟨x,⟨⟩⟩ h Z hi ⟨hx,s,d,hj,o⟩ hZ;dsimp only at hx hZ ⊢;subst hx;unfold O5;simp only[bu,bg];refine⟨λhlt=> ?_,λhge=> ?_⟩
 ·have hlt:i<ag.length:=by omega
  obtain⟨ha,hn,hN,hv⟩:=hQ _ _ _ hj o.left;refine hv.cV hlt (bC rfl (aY hn rfl) (Iy hN λh1 x1=> ?_));have nx:Kh g.ag ag (i,s) [vA (dU g.ag ag[i]).1,.bool ((dU g.ag ag[i]).2&&decide (((dU g.ag ag[i]).1.f:Int)=s))] (i+1,((dU g.ag ag[i]).1.t:Int)):=⟨hlt,rfl,rfl⟩;generalize dU g.ag ag[i]=w at nx;simp only[b9,bZ];have o1:=o.more x1;refine o1.box λb h2 o2=>o2.st 0 rfl rfl rfl rfl rfl (fS _) λh3 e=> ?_;simp only[aQ];refine e.bN 0 rfl rfl rfl ?_;have k:Own h0 h3 (d++ [aj s4 [I s] au,aj b (dS w.1) cC]):=by
   have :=e.mT;rw[List.append_assoc]at this;exact this
  have after:∀(a:List aM)(h'':aa),J (i+1,(w.1.t:Int)) a->Own h0 h'' (a++ [aj s4 [I s] au,aj b (dS w.1) cC])->ue Tryz.prog K (ptr b) (ptr s4) (I i) (λa0 hz=>Z (a0,()) hz) (.bool false) h'':=by
   intro a h'' hj' o';unfold ue;simp only[aQ,aL];refine o'.load (a.length+1) (b:=b) (cs:=dS w.1) (T:=cC) (off:=0+1) (by rw[List.getElem?_append_right (by omega)];simp) rfl ?_;refine o'.bf a.length (b:=s4) (T:=au) (cs:=[I s]) (cs':=[I w.1.t]) (by rw[List.getElem?_append_right (by omega)];simp) rfl rfl rfl rfl λh4 m=> ?_;rw[bt,wI i (by omega)];refine hZ (I (i+1:Nat),()) h4 hlt ⟨rfl,(w.1.t:Int),a,hj',?_⟩;rw[List.set_append_right _ _ (by omega),Nat.sub_self]at m;have :Own h0 h4 ((a++ [aj s4 [I w.1.t] au])++ [aj b (dS w.1) cC]):=by rw[List.append_assoc];exact m
   exact this.left
  have y:∀c:Bool,c=(w.2&&decide ((w.1.f:Int)=s))->aS Tryz.prog (dm l) [vA w.1,.bool c].toArray h3 λt30 h_5=>bS .not t30 λt31=>ue Tryz.prog K (ptr b) (ptr s4) (I i) (λa0 hz=>Z (a0,()) hz) t31 h_5:=by
   intro c hc;subst hc;refine hY _ _ _ d _ h3 _ nx hj k (λa h'' hj' o'=> ?_) λa h'' he o'=> ?_
   ·rw[bH,Bool.not_true];exact after a h'' hj' o'
   ·rw[bH,Bool.not_false];unfold ue;rw[bq];exact hK _ _ (.inr he) o'.left
  cases hw:w.2 with
  |true=>
   rw[bq];refine e.load 0 rfl rfl (k.load d.length (b:=s4) (cs:=[I s]) (T:=au) (by rw[List.getElem?_append_right (by omega)];simp) rfl ?_);rw[cF];exact y _ (by rw[hw,Bool.true_and];rfl)
  |false=>
   rw[aL];exact y _ (by rw[hw,Bool.false_and])
 ·have :i=ag.length:=by omega
  exact hK _ _ (.inl ⟨(i,s),this,hj⟩) o.left
theorem aiN{s t:Int}{va:Value}{ag:List Int}(hR:g.Right)(H:bJ h r g)(hv:Vw aG 1 h va ag)(hl:ag.length<2147483648)
  (u:∀w h',0<=s->s<g.n->kG g.ag s 0 ag=some (t,w)->Ext h h'->K (.tuple #[I w,.bool true]) h')
  (d:∀h',¬(0<=s/\s<g.n/\∃w,kG g.ag s 0 ag=some (t,w))->Ext h h'->K (.tuple #[I 0,.bool false]) h'):ah Tryz.prog Dz [ptr r,I s,I t,va] h K:=by
 refine aK (aas _ _ _ _ ?_);unfold Mm;refine(Own.start h).box λj h1 o1=>aiK (H.more o1.ext) ?_;by_cases hs:0<=s/\s<g.n
 ·rw[decide_eq_true hs.1,decide_eq_true hs.2,Bool.true_and,bH,Bool.not_true,aL];refine o1.box λk h2 o2=>o2.bf 0 (cs':=[I s]) rfl rfl rfl rfl rfl λh3 v=> ?_;refine aK (abl _ _ _ ?_);unfold ND;refine v.box λn3 h4 y=>y.box λs4 h5 A=>A.box λa5 h6 o=> ?_;have B:=hv.one;have C:Own h h6 ([aj a5 [va] bR,aj n3 [ptr r] cq,aj k [I s] au,aj j [I 0] bY]++ [aj s4 [I s] au]):=by
   rw[show va.cells.toList=[va] by rw[B]]at o;exact o.bh [0,2,3,4,1] (by decide)
  refine C.JU (aiM (g:=g) (r:=r) (va:=va) (ag:=ag) (T1:=bR) (T2:=cq) (by omega)) (by rintro p x p' ⟨_,rfl,_⟩;rfl)
   (λp l=>∃w:Int,0<=p.2/\0<=w/\w<=p.1*2147483647/\p.1<=ag.length/\kG g.ag s 0 ag=kG g.ag p.2 w (ag.drop p.1)/\l=[aj a5 [va] bR,aj n3 [ptr r] cq,aj k [I p.2] au,aj j [I w] bY])
   (λ_=>False)
   (λid l=>id=0/\kG g.ag s 0 ag=none/\∃w,l=[aj a5 [va] bR,aj n3 [ptr r] cq,aj k [I (-1)] au,aj j [I w] bY])
   ⟨0,hs.1,by omega,by omega,Nat.zero_le _,rfl,rfl⟩ ?_ ?_ ?_ (λ_ _ h=>h.elim) ?_
  ·rintro p m h' ⟨w,_,_,_,_,_,rfl⟩ o';exact⟨o'.get 0 rfl,o'.get 1 rfl,H.more o'.ext,hv.more o'.ext⟩
  ·rintro M ⟨i,e⟩ x p' m Pr h' R ⟨hi,rfl,rfl⟩ ⟨w,he,hw0,hw1,hil,hch,rfl⟩ o' hN _ hX;dsimp only[fk]at hi hch hw1 ⊢;rw[Zv hi]at hch;have D:=aiL hR (z:=ag[i]);generalize dU g.ag ag[i]=q at hch hN D;unfold Ml;refine o'.box λN h8 E=>E.st 0 rfl rfl rfl rfl rfl (fS _) λh9 F=> ?_;refine F.begin 1 rfl λh10 c=> ?_;rw[bH];by_cases hc:(q.2&&decide ((q.1.f:Int)=e))=true
   ·rw[if_pos hc]at hch;rw[hc,Bool.not_true,aL];simp only[aQ];refine c.load 6 rfl rfl (c.load 0 rfl rfl ?_);rw[bt,bG (by omega) (by omega)];refine c.bf 6 (cs':=[I (w+q.1.w)]) rfl rfl rfl rfl rfl λh11 a=> ?_;refine a.load 0 rfl rfl (a.bf 5 (cs':=[I q.1.t]) rfl rfl rfl rfl rfl λh12 b=> ?_);refine hN _ _ ⟨w+q.1.w,by omega,by omega,by(show _<=((i+1:Nat):Int)*_;omega),hi,hch,rfl⟩ ?_;exact b.tail
   ·rw[if_neg hc]at hch;have hc:(q.2&&decide ((q.1.f:Int)=e))=false:=by simpa using hc
    rw[hc,Bool.not_false,bq];refine c.bf 5 (cs':=[I (-1)]) rfl rfl rfl rfl rfl λh11 a=> ?_;exact hX 0 _ _ ⟨rfl,hch,w,rfl⟩ a.tail
  ·rintro⟨i,e⟩ h' m hst ⟨w,he,hw0,hw1,hil,hch,rfl⟩ o';dsimp only at hst hch he;subst hst;rw[List.drop_length]at hch;simp only[kG]at hch;unfold xh;refine o'.load 3 rfl rfl ?_;rw[bu,decide_eq_false (by omega),aL];refine o'.load 3 rfl rfl ?_;rw[fE];by_cases ht:e=t
   ·subst ht;rw[bne_self_eq_false,aL];refine o'.load 4 rfl rfl (o'.bf 4 (cs':=[I w]) rfl rfl rfl rfl rfl λh11 a=> ?_);refine a.iZ 0 rfl λh12 b=>b.load 4 rfl rfl (u w _ hs.1 hs.2 hch b.ext)
   ·rw[show(e != t)=true by simpa using ht,bq];unfold AG;refine o'.bf 4 (cs':=[I 0]) rfl rfl rfl rfl rfl λh11 a=> ?_;refine a.iZ 0 rfl λh12 b=>b.load 4 rfl rfl (d _ ?_ b.ext);rintro⟨_,_,w',hw'⟩;rw[hch]at hw';exact ht (congrArg Prod.fst (Option.some.inj hw'))
  ·rintro id h' m ⟨rfl,hch,w,rfl⟩ o';show xh _ _ _ _ _ _ _;unfold xh;refine o'.load 3 rfl rfl ?_;rw[bu,decide_eq_true (by omega),bq];unfold AG;refine o'.bf 4 (cs':=[I 0]) rfl rfl rfl rfl rfl λh11 a=> ?_;refine a.iZ 0 rfl λh12 b=>b.load 4 rfl rfl (d _ ?_ b.ext);rintro⟨_,_,w',hw'⟩;rw[hch]at hw';cases hw'
 ·have J:(decide (0<=s)&&decide (s<(g.n:Int)))=false:=by
   rw[Bool.and_eq_false_imp];intro h1;exact decide_eq_false λh2=>hs ⟨of_decide_eq_true h1,h2⟩
  rw[J,bH,Bool.not_false,bq];refine o1.bf 0 (cs':=[I 0]) rfl rfl rfl rfl rfl λh2 o2=>o2.load 0 rfl rfl (d _ (λe=>hs ⟨e.1,e.2.1⟩) o2.ext)
end
open Go Go.Mh
abbrev gJ(g:G)(t:Tr)(rn r pt tr m pm b5 b4 b3:Nat)(vs vm sd sa so vl:Value)(f:Int->Option Value)(S:GS)(rest:List aM):List aM:=
  aj pt [ptr tr] gR::aj tr [sd,sa,so,.map (some m),vs] fI::dz m f::aj pm [vm] bR::aA aG 1 au vm S.mc::xR vs S.sz::xR sd t.aH::aA aG 1 au sa t.bF::aA aV 1 au so t.order::
    aj b5 [I r] au::aj b4 [vl] tY::aj b3 [ptr rn] cq::rest
section
variable{h0 h:aa}{L Pr:List aM}{K:KT}{g:G}{t:Tr}{rn r pt tr m pm b5 b4 b3:Nat}{vs vm sd sa so vl:Value}{f:Int->Option Value}{S:GS}{a b:aM}{kv:Nat->Value}{R:Exit->aa->Prop}{v:Nat}
theorem aiO{l:List A}{z:Int}:((dU l z).2=true↔0<=z/\z<l.length)/\((dU l z).2=true->(dU l z).1=aD l z.toNat):=by
  unfold dU;split
  · rename_i h;exact⟨⟨λ_=>h,λ_=>rfl⟩,λ_=>rfl⟩
  · rename_i h;exact⟨⟨λe=>(by cases e),λe=>absurd e h⟩,λe=>(by cases e)⟩
theorem Wf (hN:bJ h0 rn g) (hal:t.bF.length=g.n) (hv:v<g.n) (hn:g.n<=16777216) (j:∀p,eP g.ag t v=some p->p<g.n) (k:∀x,(S.kd x).length<=2^32) (hf:∀u:Nat,(f u).getD aN=kv u)
    (o:Own h0 h (a::b::gJ g t rn r pt tr m pm b5 b4 b3 vs vm sd sa so vl f S (dV aV 1 au kv S.kd g.n++Pr)))
    (hR:∀f' kv' h',(∀u:Nat,(f' u).getD aN=kv' u)->Own h0 h' (a::b::gJ g t rn r pt tr m pm b5 b4 b3 vs vm sd sa so vl f' ⟨S.sz,S.mc,pE S.kd v (eP g.ag t v)⟩ (dV aV 1 au kv' (pE S.kd v (eP g.ag t v)) g.n++Pr))->R .normal h'):
    A3 Tryz.prog (ptr b3) (ptr pt) (I v) R h:=by
  unfold A3;obtain⟨w1,w2⟩:=@aiO g.ag (t.bF.getD v (-1));refine gh (λy h'=>∃c:Nat,y.1=ptr c/\y.2.1=.bool (dU g.ag (t.bF.getD v (-1))).2/\Own h0 h' (aj c [I (dU g.ag (t.bF.getD v (-1))).1.f,I (dU g.ag (t.bF.getD v (-1))).1.t,I (dU g.ag (t.bF.getD v (-1))).1.w] cC::a::b::gJ g t rn r pt tr m pm b5 b4 b3 vs vm sd sa so vl f S (dV aV 1 au kv S.kd g.n++Pr))) (λJ hJ=> ?_) ?_
  · refine o.load 13 rfl rfl (o.load 2 rfl rfl ?_);simp only[bz,aQ];refine o.load 3 rfl rfl ((o.vw 9 rfl).cV (by rw[hal];exact hv) ?_);rw[Zn (by rw[hal];exact hv)];generalize t.bF.getD v (-1)=z at hJ;refine⟨Iy (hN.more o.ext) λh1 x1=> ?_,o.box λc h1 o1=>Iy (hN.more o1.ext) λh2 l=> ?_⟩
    · have o1:=o.more x1;simp only[b9,bZ];refine o1.box λc h2 o2=>o2.st (cs':=[I (dU g.ag z).1.f,I (dU g.ag z).1.t,I (dU g.ag z).1.w]) 0 rfl rfl rfl rfl rfl (by intro u hu;simp at hu;rcases hu with rfl|rfl|rfl<;>rfl) λh3 d=>hJ _ _ ⟨c,rfl,rfl,d⟩
    · have o2:=o1.more l;simp only[b9,bZ];refine o2.st (cs':=[I (dU g.ag z).1.f,I (dU g.ag z).1.t,I (dU g.ag z).1.w]) 0 rfl rfl rfl rfl rfl (by intro u hu;simp at hu;rcases hu with rfl|rfl|rfl<;>rfl) λh3 d=>hJ _ _ ⟨c,rfl,rfl,d⟩
  · rintro⟨y1,B,⟨⟩⟩ h' ⟨c,hy1,hy2,o1⟩;dsimp only at hy1 hy2 ⊢;subst hy1 hy2;unfold Qr;cases hw:(dU g.ag (t.bF.getD v (-1))).2 with
    | false=>
      rw[aL];have hp:eP g.ag t v=none:=by
        unfold eP;rw[if_neg λh=>by rw[w1.2 h]at hw;cases hw]
      rw[hp]at hR;exact hR f kv h' hf o1.tail
    | true=>
      rw[bq];have hz:=w1.1 hw;have ha:=w2 hw;have hp:eP g.ag t v=some (aD g.ag (t.bF.getD v (-1)).toNat).f:=by unfold eP;rw[if_pos hz]
      rw[ha]at o1;have i:=j _ hp;rw[hp]at hR;generalize aD g.ag (t.bF.getD v (-1)).toNat=q at o1 hR i;refine o1.load 3 rfl rfl ?_;simp only[bz,aQ];refine o1.load 4 rfl rfl (o1.load 0 rfl rfl (o1.load 3 rfl rfl ?_));simp only[bz,aQ];refine o1.load 4 rfl rfl (o1.load 0 rfl rfl (o1.look 5 rfl ?_));have s:=hf q.f;show cz au _ _ 1 h' λt137 A=>cZ au 1 8 _ ((f q.f).getD aN) t137 A _;rw[s];have hi:(aj c [I q.f,I q.t,I q.w] cC::a::b::gJ g t rn r pt tr m pm b5 b4 b3 vs vm sd sa so vl f S (dV aV 1 au kv S.kd g.n++Pr))[q.f+15]? =some (aA aV 1 au (kv q.f) (S.kd q.f)):=by
        show(dV aV 1 au kv S.kd g.n++Pr)[q.f]? =_;rw[List.getElem?_append_left (by simp[dV];exact i),th i]
      have :=k q.f;refine o1.fF (q.f+15) v hi rfl (bW rfl) (λ_=>rfl) nP rfl (by decide) (by omega) λw h2 o2=> ?_;have o2:Own h0 h2 (aj c [I q.f,I q.t,I q.w] cC::a::b::gJ g t rn r pt tr m pm b5 b4 b3 vs vm sd sa so vl f S ((dV aV 1 au kv S.kd g.n++Pr).set q.f (aA aV 1 au w (S.kd q.f++ [v])))):=o2;rw[List.set_append_left _ _ (by simp[dV];exact i),Zd]at o2;refine⟨o2.load 3 rfl rfl rfl,o2.load 4 rfl rfl rfl,o2.load 0 rfl rfl rfl,?_⟩;refine o2.kE (f':=cu f q.f w) 5 rfl (λx=>rfl) λh3 d=> ?_;refine hR (cu f q.f w) (pX kv q.f w) h3 (λu=> ?_) ?_
      · unfold cu pX;by_cases e:u=q.f
        · subst e;simp
        · rw[if_neg (by omega),if_neg e];exact hf u
      · have e:pE S.kd v (some q.f)=pX S.kd q.f (S.kd q.f++ [v]):=by
          funext x;unfold pE pX;by_cases e:x=q.f
          · subst e;simp
          · simp[e]
        rw[e];exact d.tail
def jj(S:GS)(v q:Nat):Int:=((S.kd v).take q).foldl (λa k=>a+S.mc.getD k 0) (S.mc.getD v 0)
def kT(S:GS)(v:Nat)(w0:Int)(q:Nat):Int:=((S.kd v).take q).foldl (λa k=>lQ a (S.sz.getD k 0)) w0
theorem Wg (hm:∀u,0<=S.mc.getD u 0/\S.mc.getD u 0<=2^32):∀q,0<=jj S v q/\jj S v q<=(q+1)*2^32
  |0=>by have :=hm v;show 0<=S.mc.getD v 0/\S.mc.getD v 0<=_;omega
  | q + 1=>by
    have ih:=Wg hm q;by_cases hq:q<(S.kd v).length
    · have e:jj S v (q+1)=jj S v q+S.mc.getD ((S.kd v)[q]) 0:=by
        unfold jj;rw[List.take_succ_eq_append_getElem hq,List.foldl_append];rfl
      have :=hm (S.kd v)[q];omega
    · have e:jj S v (q+1)=jj S v q:=by
        unfold jj;rw[List.take_of_length_le (by omega),List.take_of_length_le (by omega)]
      omega
theorem aiP{a b:Int}:0<=lQ a b/\lQ a b<=2305843009213693952:=by unfold lQ iR qw;omega
theorem Wh {w0:Int} (h0:0<=w0/\w0<=aI):∀q,0<=kT S v w0 q/\kT S v w0 q<=2305843009213693952
  | 0 => by have :aI=72057594037927936:=rfl
            show 0<=w0/\w0<=_;omega
  | q + 1=>by
    by_cases hq:q<(S.kd v).length
    · have e:kT S v w0 (q+1)=lQ (kT S v w0 q) (S.sz.getD ((S.kd v)[q]) 0):=by
        unfold kT;rw[List.take_succ_eq_append_getElem hq,List.foldl_append];rfl
      rw[e];exact aiP
    · have e:kT S v w0 (q+1)=kT S v w0 q:=by
        unfold kT;rw[List.take_of_length_le (by omega),List.take_of_length_le (by omega)]
      rw[e];exact Wh h0 q
theorem B4{l:List Int}{i:Nat}(h:i<l.length):l[i]=l.getD i 0:=by rw[List.getD_eq_getElem?_getD,List.getElem?_eq_getElem h];rfl
theorem Wi{wt:Nat->Int}(hN:bJ h0 rn g)(hal:t.bF.length=g.n)(hv:v<g.n)(hn:g.n<=16777216)(i:∀p,eP g.ag t v=some p->p<g.n)(c:∀x,(S.kd x).length<=2^20)(hf:∀u:Nat,(f u).getD aN=kv u)
    (d:S.sz.length=g.n) (hml:S.mc.length=g.n) (hk:∀k∈S.kd v,k<g.n/\k≠v) (hm:∀u,0<=S.mc.getD u 0/\S.mc.getD u 0<=2^32) (hw:0<=wt v/\wt v<=aI)
    (o:Own h0 h (a::b::gJ g t rn r pt tr m pm b5 b4 b3 vs vm sd sa so vl f S (dV aV 1 au kv S.kd g.n++Pr)))
    (hR:∀f' kv' h',(∀u:Nat,(f' u).getD aN=kv' u)->Own h0 h' (a::b::gJ g t rn r pt tr m pm b5 b4 b3 vs vm sd sa so vl f' (S.step (eP g.ag t) wt v) (dV aV 1 au kv' (S.step (eP g.ag t) wt v).kd g.n++Pr))->R .normal h'):
    A4 Tryz.prog (ptr pt) (I v) (ptr pm) (ptr b3) R (I (wt v)) h:=by
  unfold A4;refine o.load 2 rfl rfl ?_;simp only[bz,aQ];refine o.load 3 rfl rfl (o.look 4 rfl ?_);have z:=hf v;show bx ((f v).getD aN) _;rw[z];have j:∀(S':GS),S'.kd=S.kd->(a::b::gJ g t rn r pt tr m pm b5 b4 b3 vs vm sd sa so vl f S' (dV aV 1 au kv S.kd g.n++Pr))[v+14]? =some (aA aV 1 au (kv v) (S.kd v)):=λS' _=>by
    show(dV aV 1 au kv S.kd g.n++Pr)[v]? =_;rw[List.getElem?_append_left (by simp[dV];exact hv),th hv]
  refine(o.vw (v+14) (j S rfl)).len ?_;have e0:S.mc.set v (jj S v 0)=S.mc:=by
    show S.mc.set v (S.mc.getD v 0)=S.mc;rw[<-B4 (by omega)];exact List.set_getElem_self (by omega)
  refine cg (S.kd v).length (λq y h'=>y.1=I (kT S v (wt v) q)/\y.2.1=I q/\Own h0 h' (a::b::gJ g t rn r pt tr m pm b5 b4 b3 vs vm sd sa so vl f ⟨S.sz,S.mc.set v (jj S v q),S.kd⟩ (dV aV 1 au kv S.kd g.n++Pr))) ⟨rfl,rfl,by rw[e0];exact o⟩ ?_;clear o;rintro q ⟨y1,D,⟨⟩⟩ h1 Z hq ⟨hy1,hy2,o⟩ hZ;dsimp only at hy1 hy2 hZ ⊢;subst hy1 hy2;have hkv:=c v;have hmr:=Wg (v:=v) hm q;have E:=Wh (S:=S) (v:=v) hw q;have e8:(S.mc.set v (jj S v q)).length=g.n:=by rw[List.length_set];exact hml
  unfold Qt;rw[bu,bg];refine⟨λhlt=> ?_,λhge=> ?_⟩
  · have hlt:q<(S.kd v).length:=by omega
    have l:kT S v (wt v) (q+1)=lQ (kT S v (wt v) q) (S.sz.getD ((S.kd v)[q]) 0):=by
      unfold kT;rw[List.take_succ_eq_append_getElem hlt,List.foldl_append];rfl
    have s:jj S v (q+1)=jj S v q+S.mc.getD ((S.kd v)[q]) 0:=by
      unfold jj;rw[List.take_succ_eq_append_getElem hlt,List.foldl_append];rfl
    refine(show Vw aV 1 h1 (kv v) (S.kd v)from o.vw (v+14) (j ⟨S.sz,S.mc.set v (jj S v q),S.kd⟩ rfl)).dH (e:=λ(x:Nat)=>I x) (λ_=>rfl) hlt ?_;obtain⟨hkn,w⟩:=hk _ (List.getElem_mem hlt);generalize (S.kd v)[q]=k at l s hkn w;have hmk:=hm k;refine o.load 2 rfl rfl ?_;simp only[bz,aQ];refine o.load 3 rfl rfl ((o.vw 7 rfl).cV (by rw[d];exact hkn) ?_);rw[B4 (by rw[d];exact hkn)];refine aho (by omega) (by omega) λh2 A=> ?_;rw[<-l];have o2:=o.more A;clear o;refine o2.load 5 rfl rfl ((o2.vw 6 rfl).cV (by rw[e8];exact hv) (o2.load 5 rfl rfl ((o2.vw 6 rfl).cV (by rw[e8];exact hkn) ?_)));rw[List.getElem_set_self,List.getElem_set_ne (λe=>w e.symm),B4 (by omega),bt,bG (by omega) (by omega),<-s];refine o2.iu 6 rfl (by rw[e8];exact hv) λh3 B=> ?_;rw[bt,wI q (by omega)];refine hZ (_,_,()) h3 hlt ⟨rfl,rfl,?_⟩;rw[<-List.set_set (a:=jj S v q)];exact B
  · have :q=(S.kd v).length:=by omega
    subst this;have em:jj S v (S.kd v).length=S.kj v:=by unfold jj GS.kj;rw[List.take_length]
    have C:kT S v (wt v) (S.kd v).length=S.own wt v:=by unfold kT GS.own;rw[List.take_length]
    rw[em]at o e8;rw[C];refine o.load 5 rfl rfl ((o.vw 6 rfl).cV (by rw[e8];exact hv) ?_);rw[List.getElem_set_self,cF,iW];refine⟨λh0=>o.load 2 rfl rfl ?_,λh0=> ?_⟩
    · simp only[bz,aQ];refine o.load 3 rfl rfl (o.iu 7 rfl (by rw[d];exact hv) λh2 o2=> ?_);refine Wf (S:=⟨S.sz.set v (S.own wt v),S.mc.set v (S.kj v),S.kd⟩) hN hal hv hn i (λx=>by have :=c x;show(S.kd x).length<=_;omega) hf o2 λf' kv' h' hf' o'=>hR f' kv' h' hf' ?_;unfold GS.step;rw[if_pos h0];exact o'
    · refine Wf (S:=⟨S.sz,S.mc.set v (S.kj v),S.kd⟩) hN hal hv hn i (fun x=>by have :=c x;show(S.kd x).length<=_;omega) hf o fun f' kv' h' hf' o'=>hR f' kv' h' hf' ?_;unfold GS.step;rw[if_neg h0];exact o'
end
open Go Go.Mh
section
variable{h0 h hD:aa}{L Pr:List aM}{K:KT}{g:G}{rn r pt tr m pm b5 b4 b3:Nat}{vs vm sd sa so vl:Value}{f:Int->Option Value}{S:GS}{kv:Nat->Value}{R:Exit->aa->Prop}{v:Nat}{M:Loop}{ms:List MV}
theorem aiQ(hR:g.Right)(hN:bJ h0 rn g)(hn:g.n<=16777216)(hr:r<g.n)(hv:v<g.n)(a:∀m∈ms,qz g h0 m)(l:Vw eT 7 h0 vl ms)(hl:ms.length<2^40)(q:v∈(g.from r).order)
  (b:∀x,(S.kd x).length<=2^20) (hf:∀u:Nat,(f u).getD aN=kv u) (c:S.sz.length=g.n) (hml:S.mc.length=g.n) (hk:∀k∈S.kd v,k<g.n/\k≠v) (hm:∀u,0<=S.mc.getD u 0/\S.mc.getD u 0<=2^32)
  (o:Own h0 h (b6 (hD.size+1) (lo M .ready none)::bX hD.size::gJ g (g.from r) rn r pt tr m pm b5 b4 b3 vs vm sd sa so vl f S (dV aV 1 au kv S.kd g.n++Pr)))
  (hK:∀f' kv' h',(∀u:Nat,(f' u).getD aN=kv' u)->Own h0 h' (b6 (hD.size+1) (lo M .busy none)::bX hD.size::gJ g (g.from r) rn r pt tr m pm b5 b4 b3 vs vm sd sa so vl f' (S.step (nw g r) (gV g (ms.map MV.node) r) v) (dV aV 1 au kv' (S.step (nw g r) (gV g (ms.map MV.node) r) v).kd g.n++Pr))->R .normal h'):
  Gj Tryz.prog hD (ptr b5) (ptr pt) (ptr b4) (ptr pm) (ptr b3) M (I v) h R:=by
 have T:=eX hR hr;have hmn:∀x∈ms.map MV.node,x<g.n:=λx hx=>by
  obtain⟨y,hy,rfl⟩:=List.mem_map.1 hx;exact(a y hy).1
 have hwr:=BK hR hr hmn v q;have d:∀p,eP g.ag (g.from r) v=some p->p<g.n:=λp hp=>T.range p (lP T hp).2.2.1;unfold Gj;refine o.begin 0 rfl λh1 o1=> ?_;have o1:Own h0 h1 (b6 (hD.size+1) (lo M .busy none)::bX hD.size::gJ g (g.from r) rn r pt tr m pm b5 b4 b3 vs vm sd sa so vl f S (dV aV 1 au kv S.kd g.n++Pr)):=o1;clear o;refine o1.load 11 rfl rfl ?_;rw[fE,CY];refine⟨λhne=> ?_,λhe=> ?_⟩
 ·have hne:v≠r:=λe=>hne (by rw[e]);refine o1.load 2 rfl rfl ?_;simp only[bz,aQ];have i:v<(g.from r).aH.length:=by rw[T.ls.len];exact hv
  refine o1.load 3 rfl rfl ((o1.vw 8 rfl).vQ i λb1 f1 c1=>bC rfl c1 ?_);rw[gZ i]at c1 ⊢;refine o1.load 12 rfl rfl (o1.load 11 rfl rfl ?_);refine ahq hR (λm hm=>(a m hm).more o1.ext) (l.more o1.ext) hl hr hv λh2 j=> ?_;have o2:=o1.more j;refine⟨o2.load 2 rfl rfl rfl,o2.load 3 rfl rfl rfl,bC rfl (lg j c1) rfl,?_⟩;have hw:gV g (ms.map MV.node) r v=aF (g.from r).aH v-dG g (ms.map MV.node) r v:=if_pos hne;have s:aI=72057594037927936:=rfl;rw[eM,bG (by omega) (by omega),<-hw];exact Wi hN T.al hv hn d b hf c hml hk hm hwr o2 hK
 ·have he:v=r:=by omega
  have hw:gV g (ms.map MV.node) r v=0:=if_neg (by simpa using he);have :=Wi (wt:=gV g (ms.map MV.node) r) hN T.al hv hn d b hf c hml hk hm hwr o1 hK;rw[hw]at this;exact this
theorem aiR(hR:g.Right)(hN:bJ h0 rn g)(hn:Sm g)(hr:r<g.n)(p:∀m∈ms,qz g h0 m)(q:Vw eT 7 h0 vl ms)(hl:ms.length<=2^20)
  (o:Own h0 h [aj pt [ptr tr] gR,aj tr [sd,sa,so,.map (some m),vs] fI,dz m (λ_=>none),xR vs (List.replicate g.n 0),xR sd (g.from r).aH,aA aG 1 au sa (g.from r).bF,aA aV 1 au so (g.from r).order,aj b5 [I r] au,aj b4 [vl] tY,aj b3 [ptr rn] cq])
  (hK:∀vm pm f kv h' ord,(∀u:Nat,(f u).getD aN=kv u)->Own h0 h' (gJ g (g.from r) rn r pt tr m pm b5 b4 b3 vs vm sd sa so vl f (eR g (ms.map MV.node) r) (dV aV 1 au kv (eR g (ms.map MV.node) r).kd g.n++ [aj ord [so] bR]))->K (ptr tr) h'):
  Gk Tryz.prog (ptr b3) (ptr b4) (ptr b5) K (ptr pt) h:=by
 have H:=hR.most;have J:=hn r hr;have T:=eX hR hr;have hmn:∀x∈ms.map MV.node,x<g.n:=λx hx=>by
  obtain⟨y,hy,rfl⟩:=List.mem_map.1 hx;exact(p y hy).1
 have B:(ms.map MV.node).length<=2^20:=by rw[List.length_map];exact hl
 unfold Gk;refine o.load 9 rfl rfl (dF (hN.more o.ext) ?_);refine o.make (enc:=aG) (n:=1) (a:=0) (m:=g.n) rfl (by omega) (by omega) λvm h1 o1=> ?_;refine o1.box λpm h2 o2=> ?_;have hv:=o2.vw 1 rfl;refine o2.bf 0 (cs':=[vm]) rfl rfl rfl hv.one hv.plain λh3 e=> ?_;clear o o1 o2 hv;have e:Own h0 h3 (aj pm [vm] bR::aA aG 1 au vm (List.replicate g.n 0):: [aj pt [ptr tr] gR,aj tr [sd,sa,so,.map (some m),vs] fI,dz m (λ_=>none),xR vs (List.replicate g.n 0),xR sd (g.from r).aH,aA aG 1 au sa (g.from r).bF,aA aV 1 au so (g.from r).order,aj b5 [I r] au,aj b4 [vl] tY,aj b3 [ptr rn] cq]):=e;have j:Own h0 h3 (gJ g (g.from r) rn r pt tr m pm b5 b4 b3 vs vm sd sa so vl (λ_=>none) ⟨List.replicate g.n 0,List.replicate g.n 0,λ_=>[]⟩ []):=e.bh [2,3,4,0,1,5,6,7,8,9,10,11] (by decide);clear e;refine j.load 10 rfl rfl ((q.more j.ext).len ?_);have e0:(List.range g.n).map (fK ([]:List Nat))=List.replicate g.n 0:=by
  apply List.ext_getElem?;intro i;by_cases hi:i<g.n
  ·simp[hi,fK]
  ·rw[List.getElem?_eq_none (by simp;omega),List.getElem?_eq_none (by simp;omega)]
 refine cg ms.length (λi x h'=>x.1=I i/\Own h0 h' (gJ g (g.from r) rn r pt tr m pm b5 b4 b3 vs vm sd sa so vl (λ_=>none) ⟨List.replicate g.n 0,(List.range g.n).map (fK ((ms.take i).map MV.node)),λ_=>[]⟩ [])) ⟨rfl,by rw[List.take_zero,List.map_nil,e0];exact j⟩ ?_;clear j;rintro i ⟨x,⟨⟩⟩ h4 Z hi ⟨hx,o⟩ hZ;dsimp only at hx hZ ⊢;subst hx;unfold Qu;rw[bu,bg];refine⟨λhlt=> ?_,λhge=> ?_⟩
 ·have hlt:i<ms.length:=by omega
  refine(q.more o.ext).mh yb hlt ?_;have tk:(ms.take (i+1)).map MV.node=(ms.take i).map MV.node++ [ms[i].node]:=by rw[List.take_succ_eq_append_getElem hlt,List.map_append];rfl
  have A:=p _ (List.getElem_mem hlt);rw[tk]at hZ;generalize ms[i]=mv at A hZ;have hmn:=A.1;refine o.box λm8 h5 d=>d.st (l:=eT mv) (cs':=eT mv) 0 rfl rfl rfl rfl rfl (yc mv) λh6 c=> ?_;clear o d;simp only[aQ];refine c.load 4 rfl rfl (c.load 0 rfl rfl ?_);have s:mv.node<((List.range g.n).map (fK ((ms.take i).map MV.node))).length:=by simpa using hmn
  refine(c.vw 5 rfl).cV s ?_;have N:fK ((ms.take i).map MV.node) mv.node<=2^20/\0<=fK ((ms.take i).map MV.node) mv.node:=by
   unfold fK;have :=List.count_le_length (a:=mv.node) (l:=(ms.take i).map MV.node);rw[List.length_map,List.length_take]at this;omega
  rw[show((List.range g.n).map (fK ((ms.take i).map MV.node)))[mv.node]'s=fK ((ms.take i).map MV.node) mv.node by simp,bt,bG (by omega) (by omega)];refine c.iu 5 rfl s λh7 t=> ?_;rw[bt,wI i (by omega)];refine hZ (_,()) h7 hlt ⟨rfl,?_⟩;rw[<-ahS hmn];exact t.tail
 ·have :i=ms.length:=by omega
  subst this;rw[List.take_length]at o;clear hZ;refine o.load 0 rfl rfl ?_;simp only[bz,aQ];refine o.load 1 rfl rfl ?_;refine aK (ad6 _ ?_);unfold RX;have C:=(o.vw 8 rfl).one;refine o.box λord h5 d=> ?_;rw[show(Value.cells so).toList=[so] by rw[C]]at d;have c:=d.Ze (enc:=aV) (n:=1) (T:=au) (m:=g.n);have t:Own h0 h5 (gJ g (g.from r) rn r pt tr m pm b5 b4 b3 vs vm sd sa so vl (λ_=>none) (gI g (ms.map MV.node) r 0) (dV aV 1 au (λ_=>aN) (gI g (ms.map MV.node) r 0).kd g.n++ [aj ord [so] bR])):=by
   have :=Own.comm c;have h2:Own h0 h5 (aj ord [so] bR::(gJ g (g.from r) rn r pt tr m pm b5 b4 b3 vs vm sd sa so vl (λ_=>none) (gI g (ms.map MV.node) r 0) (dV aV 1 au (λ_=>aN) (gI g (ms.map MV.node) r 0).kd g.n))):=this;exact Own.comm (L:=[_]) h2
  clear d c o;have P:(g.from r).order.length<=g.n:=iL T.nodup T.range;refine t.range (aiJ (O:=(g.from r).order) (vo:=so) (b:=ord) (T:=bR) (by omega)) (by rintro i x i' ⟨_,_,rfl⟩;rfl)
   (λi k=>i<=(g.from r).order.length/\∃f kv,(∀u:Nat,(f u).getD aN=kv u)/\k=gJ g (g.from r) rn r pt tr m pm b5 b4 b3 vs vm sd sa so vl f (gI g (ms.map MV.node) r i) (dV aV 1 au kv (gI g (ms.map MV.node) r i).kd g.n++ [aj ord [so] bR]))
   (λ_=>False) (λ_ _=>False) ⟨Nat.zero_le _,λ_=>none,λ_=>aN,λu=>rfl,rfl⟩ ?_ ?_ ?_ (λ_ _ h=>h.elim) (λ_ _ _ h=>h.elim)
  ·rintro i k h' ⟨_,f,kv,_,rfl⟩ o';have :=Own.comm (L:=gJ g (g.from r) rn r pt tr m pm b5 b4 b3 vs vm sd sa so vl f (gI g (ms.map MV.node) r i) (dV aV 1 au kv (gI g (ms.map MV.node) r i).kd g.n)) (L':=[aj ord [so] bR]) o';exact⟨this.get 0 rfl,o'.vw 8 rfl⟩
  ·rintro M i x i' k Pr h' R ⟨h1,rfl,rfl⟩ ⟨_,f,kv,hf,rfl⟩ o' D _ _;dsimp only[fk];obtain⟨f1,f2,f3,f4,f5⟩:=VG hR hn hr hmn B i;have hst:=ahR (g:=g) (ms:=ms.map MV.node) (r:=r) h1;have w:(g.from r).order.reverse.getD i 0∈(g.from r).order:=by rw[Wd h1];exact List.getElem_mem _
   generalize (g.from r).order.reverse.getD i 0=v at hst w;have E:Own h0 h' (b6 (h5.size+1) (lo M .ready none)::bX h5.size::gJ g (g.from r) rn r pt tr m pm b5 b4 b3 vs vm sd sa so vl f (gI g (ms.map MV.node) r i) (dV aV 1 au kv (gI g (ms.map MV.node) r i).kd g.n++([aj ord [so] bR]++Pr))):=by
    rw[<-List.append_assoc];exact o'
   refine aiQ hR hN hR.most hr (T.range v w) p q (by omega) w (λx=>by have :=f1 x;omega) hf f2 f3 (f4 v) f5 E λf' kv' h'' hf' z=> ?_;rw[<-hst]at z;refine D _ h'' ⟨h1,f',kv',hf',rfl⟩ ?_;rw[<-List.append_assoc]at z;exact z
  ·rintro i h' k rfl ⟨_,f,kv,hf,rfl⟩ o';rw[VF]at o';refine o'.load 1 rfl rfl (o'.iZ 0 rfl λh10 F=> ?_);exact hK vm pm f kv h10 ord hf F.tail
end
open Go Go.Mh
set_option maxRecDepth 20000
set_option maxHeartbeats 0
section
variable{h0 h:aa}{L:List aM}{K:KT}{g:G}{rn r:Nat}{vl:Value}{ms:List MV}
theorem uN{sd sa so vs:Value}{m:Nat}{K:Value->Prop}(hvs:vs.cells= #[vs])(hk:K (.agg #[sd,sa,so,.map (some m),vs])):
  aP [(.slice none 0 0),(.slice none 0 0),(.slice none 0 0),(.map none),(.slice none 0 0)] [(0,3,.agg #[sd,sa,so]),(3,1,.map (some m)),(4,1,vs)] K:=by
 refine⟨⟨rfl,by decide,rfl,by decide,by rw[hvs];rfl,by decide,trivial⟩,?_⟩;have e:fC [(.slice none 0 0),(.slice none 0 0),(.slice none 0 0),(.map none),(.slice none 0 0)] [(0,3,.agg #[sd,sa,so]),(3,1,.map (some m)),(4,1,vs)]=[sd,sa,so,.map (some m),vs]:=by
  show[sd,sa,so,.map (some m)]++vs.cells.toList++List.drop (4+vs.cells.size) [sd,sa,so,.map (some m),.slice none 0 0]=_;rw[hvs];rfl
 rw[e];exact hk
theorem aiS(hR:g.Right)(hN:bJ h rn g)(hn:Sm g)(hr:r<g.n)(c:∀m∈ms,qz g h m)(b:Vw eT 7 h vl ms)(hl:ms.length<=2^20)
  (hK:∀pt tr m pm b5 b4 b3 ord vs vm sd sa so f kv h',(∀u:Nat,(f u).getD aN=kv u)->Own h h' (gJ g (g.from r) rn r pt tr m pm b5 b4 b3 vs vm sd sa so vl f (eR g (ms.map MV.node) r) (dV aV 1 au kv (eR g (ms.map MV.node) r).kd g.n++ [aj ord [so] bR]))->K (ptr tr) h'):
  ah Tryz.prog ED [ptr rn,vl,I r] h K:=by
 have d:=hR.most;have e:=hn r hr;refine aK (ac3 _ _ _ ?_);unfold Qv;refine(Own.start h).box λb3 h1 o1=>o1.box λb4 h2 o2=>o2.box λb5 h3 o=> ?_;rw[show(Value.cells vl).toList=[vl] by rw[b.one]]at o;have o:Own h h3 [aj b5 [I r] au,aj b4 [vl] tY,aj b3 [ptr rn] cq]:=o;clear o1 o2;have hfr:g.dg r=g.from r:=by simp[G.dg,hr]
 refine gh (λy h'=>∃pt tr m vs sd sa so,y.1=ptr pt/\Own h h' [aj pt [ptr tr] gR,aj tr [sd,sa,so,.map (some m),vs] fI,dz m (λ_=>none),xR vs (List.replicate g.n 0),xR sd (g.dg r).aH,aA aG 1 au sa (g.dg r).bF,aA aV 1 au so (g.dg r).order,aj b5 [I r] au,aj b4 [vl] tY,aj b3 [ptr rn] cq]) (λJ hJ=> ?_) ?_
 ·refine o.load 2 rfl rfl (o.load 0 rfl rfl (o.load 2 rfl rfl ?_))
  repeat' (first
   |with_reducible apply And.intro
   |((with_reducible show af _ _ _);first |exact o.load 2 rfl rfl rfl|exact o.load 3 rfl rfl rfl|exact o.load 4 rfl rfl rfl|exact o.load 5 rfl rfl rfl|exact o.load 6 rfl rfl rfl|exact o.load 7 rfl rfl rfl)
   |((with_reducible show aP _ _ _);first |refine uN (o.vw 0 rfl).one ?_|refine uN (o.vw 1 rfl).one ?_|refine uN (o.vw 2 rfl).one ?_|refine uN (o.vw 3 rfl).one ?_|refine uN (o.vw 4 rfl).one ?_|refine uN (o.vw 5 rfl).one ?_)
   |((with_reducible show bp _ _);refine o.mkMap λm hh o=> ?_)
   |((with_reducible show c9 _ _ _ _ _ _ _);refine o.make (enc:=aG) (n:=1) (a:=0) (m:=g.n) rfl (by omega) (by omega) λvs hh o=> ?_)
   |((with_reducible show aB _ _ _ _);refine o.box λp hh o=> ?_)
   |((with_reducible show aC _ _ _ _ _);first |refine o.bf 0 rfl rfl rfl rfl rfl λhh o=> ?_|refine o.bf 1 rfl rfl rfl rfl rfl λhh o=> ?_|refine o.bf 2 rfl rfl rfl rfl rfl λhh o=> ?_|refine o.bf 3 rfl rfl rfl rfl rfl λhh o=> ?_|refine o.bf 4 rfl rfl rfl rfl rfl λhh o=> ?_|refine o.bf 5 rfl rfl rfl rfl rfl λhh o=> ?_|refine o.bf 6 rfl rfl rfl rfl rfl λhh o=> ?_)
   |((with_reducible show ah Tryz.prog ct _ _ _);refine dF (hN.more o.ext) ?_)
   |((with_reducible show ah Tryz.prog lC _ _ _);refine xE hR (hN.more o.ext) λsd sa so hh o'=> ?_;replace o:=o.frame o';clear o')
   |exact hJ _ _ ⟨_,_,_,_,_,_,_,rfl,o.bh [6,0,2,1,3,4,5,7,8,9] (by decide)⟩
   |exact hJ _ _ ⟨_,_,_,_,_,_,_,rfl,o.bh [3,0,2,1,4,5,6,7,8,9] (by decide)⟩
   |exact hJ _ _ ⟨_,_,_,_,_,_,_,rfl,o.bh [2,0,3,1,4,5,6,7,8,9] (by decide)⟩
   |exact hJ _ _ ⟨_,_,_,_,_,_,_,rfl,o.bh [1,0,3,2,4,5,6,7,8,9] (by decide)⟩
   |exact hJ _ _ ⟨_,_,_,_,_,_,_,rfl,o.bh [0,1,3,2,4,5,6,7,8,9] (by decide)⟩
   |exact hJ _ _ ⟨_,_,_,_,_,_,_,rfl,o.bh [6,0,1,2,3,4,5,7,8,9] (by decide)⟩
   |exact hJ _ _ ⟨_,_,_,_,_,_,_,rfl,o.bh [3,0,1,2,4,5,6,7,8,9] (by decide)⟩
   |exact hJ _ _ ⟨_,_,_,_,_,_,_,rfl,o.bh [2,0,1,3,4,5,6,7,8,9] (by decide)⟩
   |exact hJ _ _ ⟨_,_,_,_,_,_,_,rfl,o.bh [1,0,2,3,4,5,6,7,8,9] (by decide)⟩
   |exact hJ _ _ ⟨_,_,_,_,_,_,_,rfl,o.bh [0,1,2,3,4,5,6,7,8,9] (by decide)⟩
   |exact hJ _ _ ⟨_,_,_,_,_,_,_,rfl,o.bh [6,0,5,1,2,3,4,7,8,9] (by decide)⟩
   |exact hJ _ _ ⟨_,_,_,_,_,_,_,rfl,o.bh [5,0,6,1,2,3,4,7,8,9] (by decide)⟩
   |exact hJ _ _ ⟨_,_,_,_,_,_,_,rfl,o.bh [2,0,6,1,3,4,5,7,8,9] (by decide)⟩
   |exact hJ _ _ ⟨_,_,_,_,_,_,_,rfl,o.bh [1,0,6,2,3,4,5,7,8,9] (by decide)⟩
   |exact hJ _ _ ⟨_,_,_,_,_,_,_,rfl,o.bh [0,1,6,2,3,4,5,7,8,9] (by decide)⟩
   |exact hJ _ _ ⟨_,_,_,_,_,_,_,rfl,o.bh [6,0,5,4,1,2,3,7,8,9] (by decide)⟩
   |exact hJ _ _ ⟨_,_,_,_,_,_,_,rfl,o.bh [5,0,6,4,1,2,3,7,8,9] (by decide)⟩
   |exact hJ _ _ ⟨_,_,_,_,_,_,_,rfl,o.bh [4,0,6,5,1,2,3,7,8,9] (by decide)⟩
   |exact hJ _ _ ⟨_,_,_,_,_,_,_,rfl,o.bh [1,0,6,5,2,3,4,7,8,9] (by decide)⟩
   |exact hJ _ _ ⟨_,_,_,_,_,_,_,rfl,o.bh [0,1,6,5,2,3,4,7,8,9] (by decide)⟩
   |exact hJ _ _ ⟨_,_,_,_,_,_,_,rfl,o.bh [6,0,1,5,2,3,4,7,8,9] (by decide)⟩
   |exact hJ _ _ ⟨_,_,_,_,_,_,_,rfl,o.bh [5,0,1,6,2,3,4,7,8,9] (by decide)⟩
   |exact hJ _ _ ⟨_,_,_,_,_,_,_,rfl,o.bh [2,0,1,6,3,4,5,7,8,9] (by decide)⟩
   |exact hJ _ _ ⟨_,_,_,_,_,_,_,rfl,o.bh [1,0,2,6,3,4,5,7,8,9] (by decide)⟩
   |exact hJ _ _ ⟨_,_,_,_,_,_,_,rfl,o.bh [0,1,2,6,3,4,5,7,8,9] (by decide)⟩
   |exact hJ _ _ ⟨_,_,_,_,_,_,_,rfl,o.bh [6,0,4,5,1,2,3,7,8,9] (by decide)⟩
   |exact hJ _ _ ⟨_,_,_,_,_,_,_,rfl,o.bh [5,0,4,6,1,2,3,7,8,9] (by decide)⟩
   |exact hJ _ _ ⟨_,_,_,_,_,_,_,rfl,o.bh [4,0,5,6,1,2,3,7,8,9] (by decide)⟩
   |exact hJ _ _ ⟨_,_,_,_,_,_,_,rfl,o.bh [1,0,5,6,2,3,4,7,8,9] (by decide)⟩
   |exact hJ _ _ ⟨_,_,_,_,_,_,_,rfl,o.bh [0,1,5,6,2,3,4,7,8,9] (by decide)⟩)
 ·rintro⟨y,⟨⟩⟩ h' ⟨pt,tr,m,vs,sd,sa,so,hy,o1⟩;dsimp only at hy ⊢;subst hy;rw[hfr]at o1;exact aiR hR hN hn hr c b hl o1 λvm pm f kv h' ord hf o'=>hK pt tr m pm b5 b4 b3 ord vs vm sd sa so f kv h' hf o'
end
open Go Go.Mh
section
variable{h0 h:aa}{L:List aM}{K:KT}
theorem Wj{tr v i j:Nat}{sd sa so a vs:Value}{T:TypeId}{sz:List Int}(o:Own h0 h L)(hi:L[i]? =some (aj tr [sd,sa,so,a,vs] T))(hj:L[j]? =some (xR vs sz))(hv:v<sz.length)(hK:K (I (sz.getD v 0)) h):
  aS Tryz.prog (.func (.func Aa) #[ptr tr] #[]) [I v].toArray h K:=by
 refine bU (l:=[ptr tr,I v]) rfl (ac6 _ _ ?_);unfold Qz;simp only[bz,aQ];refine o.load i hi rfl ((o.vw j hj).cV hv ?_);rw[B4 hv];exact hK
theorem aiT{b:Nat}{m:MV}{x:Nat}(hone:∀u∈eT m,u.cells= #[u])(o:Own h0 h L)(i:Nat)(hi:L[i]? =some (aj b [I x] au))(hK:∀h',Ext h h'->K (.bool (decide (m.node=x))) h'):
  aS Tryz.prog (.func (.func Ab) #[] #[ptr b]) [.agg (eT m).toArray].toArray h K:=by
 refine bU (l:=[.agg (eT m).toArray,ptr b]) rfl (ac8 _ _ ?_);unfold QB;refine(Own.start h).box λm1 h1 o1=> ?_;have o1:Own h h1 [aj m1 (eT m) gG]:=o1;have o2:=o.more o1.ext;simp only[aQ];refine o1.load 0 rfl rfl (o2.load i hi rfl ?_);rw[cF,show((m.node:Int)==(x:Int))=decide (m.node=x) by rw[Bool.eq_iff_iff,beq_iff_eq,decide_eq_true_eq];omega];exact hK _ o1.ext
end
open Go Go.Mh
section
variable{h0 h:aa}{L:List aM}{K:KT}{g:G}{r:Nat}{vc vm:Value}{c:List Int}{ms:List Int}
theorem aiU{a b c:Value}{K:Value->Prop}(hk:K a):lV 0 (.agg #[a,b,c]) K:=hk
theorem Wk{l:List Nat}{i:Nat}(h0:i≠0)(hi:i<l.length):l.take i≠ []:=by
 intro e;rw[List.take_eq_nil_iff]at e;rcases e with e|e
 ·exact h0 e
 ·subst e;cases hi
theorem aiV{a b:Int}:(if b<a then b else a)=min a b:=by split<;>omega
theorem Wl{m:Int}(o:Own h0 h L)(p:Nat)(hp:L[p]? =some (xR vc c))(hc:c.length=g.n)(hR:g.Right)(H:bJ h r g)(hK:∀h',Own h0 h' (L.set p (xR vc (cl c (g.dg m).aH)))->K (.tuple #[]) h'):
  ah Tryz.prog z7 [ptr r,vc,I m] h K:=by
 refine aK (ac0 _ _ _ ?_);unfold Qo;have a:=hR.most;refine xE hR H λsd sa so h1 o1=> ?_;replace o1:=o.frame o1;have hd:(g.dg m).aH.length<=g.n:=by
  have :=Zo hR (s:=m);omega
 refine aiU ?_;refine(o1.vw 0 rfl).len ?_;refine cg (g.dg m).aH.length (λi x h'=>x.1=I i/\Own h0 h' ([xR sd (g.dg m).aH,aA aG 1 au sa (g.dg m).bF,aA aV 1 au so (g.dg m).order]++L.set p (xR vc (jY c (g.dg m).aH i)))) ⟨rfl,by rw[ahK,qq hp];exact o1⟩ ?_;clear o1;rintro i ⟨x,⟨⟩⟩ h' Z hi ⟨hx,o1⟩ hZ;dsimp only at hx hZ ⊢;subst hx;unfold Qn;simp only[bu,bg];refine⟨λhlt=> ?_,λhge=> ?_⟩
 ·have hlt:i<(g.dg m).aH.length:=by omega
  have hic:i<c.length:=by omega
  have hq:([xR sd (g.dg m).aH,aA aG 1 au sa (g.dg m).bF,aA aV 1 au so (g.dg m).order]++L.set p (xR vc (jY c (g.dg m).aH i)))[p+3]? =some (xR vc (jY c (g.dg m).aH i)):=by
   rw[List.getElem?_append_right (by simp)];exact kF hp
  have hi2:i<(jY c (g.dg m).aH i).length:=by rw[yh];exact hic
  refine(o1.vw 0 rfl).cV hlt ?_;rw[gZ hlt];refine(o1.vw (p+3) hq).cV hi2 ?_;rw[ahL hic,oI,aiV];refine o1.iu (p+3) hq hi2 λh2 o2=> ?_;rw[ahM hic]at o2;rw[bt,wI i (by omega)];refine hZ (I (i+1:Nat),()) h2 hlt ⟨rfl,?_⟩;rw[List.set_append_right _ _ (by simp)]at o2;simp only[List.length_cons,List.length_nil,Nat.add_sub_cancel,List.set_set]at o2;exact o2
 ·have :i=(g.dg m).aH.length:=by omega
  subst this;exact hK h' o1.tail.tail.tail
theorem Wm(o:Own h0 h L)(hR:g.Right)(H:bJ h r g)(hm:Vw aG 1 h vm ms)(hml:ms.length<2^40)(hK:∀w h',Own h0 h' (xR w (jZ g ms)::L)->K w h'):ah Tryz.prog zZ [ptr r,vm] h K:=by
 refine aK (acV _ _ ?_);unfold Qg;have b:=hR.most;refine(Own.start h).build (enc:=aG) (n:=1) [aI] rfl (bW rfl) rfl λw1 h1 o1=> ?_;refine dF (H.more o1.ext) (Tv o1 (o1.vw 0 rfl) (by omega) λw h2 o2=> ?_);refine hm.len ?_;refine cg ms.length (λi x h'=>x.1=I i/\Own h h' [xR w (jZ g (ms.take i))]) ⟨rfl,o2.bh [0] (by decide)⟩ ?_;clear o2 o1;rintro i ⟨x,⟨⟩⟩ h' Z hi ⟨hx,o1⟩ hZ;dsimp only at hx hZ ⊢;subst hx;unfold Qf;simp only[bu,bg];refine⟨λhlt=> ?_,λhge=> ?_⟩
 ·have hlt:i<ms.length:=by omega
  have a:ms.take (i+1)=ms.take i++ [ms[i]]:=List.take_succ_eq_append_getElem hlt;refine(hm.more o1.ext).cV hlt ?_;generalize ms[i]=m at a;refine Wl o1 0 rfl Ii hR (H.more o1.ext) λh2 o2=> ?_;rw[bt,wI i (by omega)];refine hZ (I (i+1:Nat),()) h2 hlt ⟨rfl,?_⟩;rw[a,ahN];exact o2
 ·have :i=ms.length:=by omega
  subst this;rw[List.take_length]at o1;exact hK w h' (o.frame o1)
theorem aiW{left:List Nat}{vl:Value}{a:Nat}{T1:TypeId}(k:Vw aG 1 h vl (nI left))(n:h[a]? =some (.cells #[vc] T1 (0,0)))(Hc:Vw aG 1 h vc c)(hr:∀v∈left,v<c.length)(p:left.length<2^40)
  (hK:K (I (gv c left)) h):ah Tryz.prog Ez [vl,.func (.func EA) #[] #[ptr a]] h K:=by
 refine aK (acW _ _ ?_);unfold Qi;refine k.len ?_;rw[dI];refine cg left.length (λi x h'=>x.2.1=I i/\x.1=I (gv c (left.take i))/\h'=h) ⟨rfl,rfl,rfl⟩ ?_;rintro i ⟨x,y,⟨⟩⟩ h' Z hi ⟨hy,hx,rfl⟩ hZ;dsimp only at hx hy hZ ⊢;subst hx hy;unfold Qh;simp only[bu,bg];refine⟨λhlt=> ?_,λhge=> ?_⟩
 ·have hlt:i<left.length:=by omega
  have hq:(nI left)[i]? =some ((left[i]:Nat):Int):=by simp[nI,hlt]
  have d:left.take (i+1)=left.take i++ [left[i]]:=List.take_succ_eq_append_getElem hlt;have f:=hr _ (List.getElem_mem hlt);have o:i≠0->gv c (left.take i)<c.length:=λh0=>hr _ (List.mem_of_mem_take (BR (c:=c) (Wk h0 hlt)));refine k.vP hq ?_;generalize left[i]=v at f d;have j:∀b:Nat,b=gv c (left.take (i+1))->AZ Tryz.prog (I i) (λa0 a1 hz=>Z (a0,(a1,())) hz) (I b) h':=by
   intro b e;unfold AZ;rw[bt,wI i (by omega)];exact hZ (_,I (i+1:Nat),()) h' hlt ⟨rfl,by rw[e],rfl⟩
  unfold Gi;rw[cF];by_cases h0:i=0
  ·subst h0;show az (.bool true) _ _;rw[bq];exact j v (by rw[d];rfl)
  ·rw[show((i:Int)==0)=false by simpa using h0,aL];have hb:=o h0;have ne:left.take i≠ []:=Wk h0 hlt;have bs:=ahO (c:=c) (y:=v) ne;rw[<-d]at bs;generalize gv c (left.take i)=b at hb bs;refine bU (l:=[I v,I b,ptr a]) rfl (acX _ _ _ ?_);unfold Qj;have m:hcell h' ⟨a,0,none⟩=some vc:=aY n rfl;refine bC rfl m (Hc.cV f (bC rfl m (Hc.cV hb ?_)));have g1:c[v]=c.getD v 0:=by simp[List.getD_eq_getElem?_getD,f]
   have g2:c[b]=c.getD b 0:=by simp[List.getD_eq_getElem?_getD,hb]
   rw[g1,g2,dZ];show az (.bool (decide (c.getD b 0<c.getD v 0))) _ _;rw[bg];exact⟨λh=>j v (by rw[bs,if_pos h]),λh=>j b (by rw[bs,if_neg h])⟩
 ·have :i=left.length:=by omega
  subst this;rw[List.take_length];exact hK
end
open Go Go.Mh
section
variable{h0 h:aa}{L:List aM}{K:KT}{g:G}{r:Nat}{vl:Value}{left:List Nat}{m m8:Nat}{T1:TypeId}
theorem Wn{v:Nat}(hm:h[m8]? =some (.cells #[I m] T1 (0,0)))(hK:K (.bool (decide (v=m))) h):aS Tryz.prog (.func (.func wK) #[] #[ptr m8]) [I v].toArray h K:=by
 refine bU (l:=[I v,ptr m8]) rfl (acZ _ _ ?_);unfold Qm;have cm:hcell h ⟨m8,0,none⟩=some (I m):=aY hm rfl;refine bC rfl cm ?_;rw[cF];have :((v:Int)==(m:Int))=decide (v=m):=Bool.eq_iff_iff.2 (by simp;omega);rw[this];exact hK
theorem aiX(a:Vw aG 1 h vl (nI left))(hm:h[m8]? =some (.cells #[I m] T1 (0,0)))(b:left.length<2^40)(hin:m∈left)
  (hK:∀i(hi:i<left.length),left[i]=m->m∉left.take i->K (I i) h):ah Tryz.prog zY [vl,.func (.func wK) #[] #[ptr m8]] h K:=by
 refine aK (Gh _ _ ?_);unfold AX;refine a.len ?_;rw[dI];refine cg left.length (λi x h'=>x.1=I i/\m∉left.take i/\h'=h) ⟨rfl,by simp,rfl⟩ ?_;rintro i ⟨x,⟨⟩⟩ h' Z hi ⟨hx,hn,rfl⟩ hZ;dsimp only at hx hZ ⊢;subst hx;unfold AW;simp only[bu,bg];refine⟨λhlt=> ?_,λhge=> ?_⟩
 ·have hlt:i<left.length:=by omega
  have hq:(nI left)[i]? =some ((left[i]:Nat):Int):=by simp[nI,hlt]
  refine a.vP hq (Wn hm ?_);show az (.bool (decide (left[i]=m))) _ _;rw[bg];refine⟨λe=>hK i hlt e hn,λe=> ?_⟩;rw[bt,wI i (by omega)];refine hZ (I (i+1:Nat),()) _ hlt ⟨rfl,?_,rfl⟩;rw[List.take_succ_eq_append_getElem hlt,List.mem_append,not_or];exact⟨hn,by simpa using λh=>e h.symm⟩
 ·have :i=left.length:=by omega
  subst this;rw[List.take_length]at hn;exact absurd hin hn
theorem aiY{l:List Nat}(h:m∉l):l.filter (· != m)=l:=by
 rw[List.filter_eq_self];intro a ha;simp only[bne_iff_ne];intro e;subst e;exact h ha
theorem aiZ{p q:Nat}(o:Own h0 h L)(hp:L[p]? =some (aA aG 1 au vl (nI left)))(hq:L[q]? =some (aj m8 [I m] T1))(hpq:p≠q)(z:left.length<2^40)(hin:m∈left)
  (hK:∀v' h',Own h0 h' (L.set p (aA aG 1 au v' (nI (left.filter (· != m)))))->K v' h'):ah Tryz.prog EB [vl,.func (.func wK) #[] #[ptr m8]] h K:=by
 refine aK (acY _ _ ?_);unfold Ql;refine aiX (o.vw p hp) (o.get q hq) z hin λi0 A e0 n0=> ?_;rw[cF,show((i0:Int)== -1)=false by simp,aL,bt,wI i0 (by omega)];have e8:∀{ys:List Int},(L.set p (aA aG 1 au vl ys))[p]? =some (aA aG 1 au vl ys):=kF hp;have B:∀{r:aM},(L.set p r)[q]? =some (aj m8 [I m] T1):=λ{r}=>by rw[List.getElem?_set_ne hpq];exact hq
 have f0:(left.take (i0+1)).filter (· != m)=left.take i0:=by
  rw[List.take_succ_eq_append_getElem A,List.filter_append,aiY n0,e0];simp
 refine cg (left.length-(i0+1)) (λk x h'=>∃(ys:List Int)(a:Nat),x.1=I a/\x.2.1=I ((i0+1+k:Nat):Int)/\a<i0+1+k/\ys.length=left.length/\ys.take a=nI ((left.take (i0+1+k)).filter (· != m))/\ys.drop (i0+1+k)=(nI left).drop (i0+1+k)/\Own h0 h' (L.set p (aA aG 1 au vl ys)))
  ⟨nI left,i0,rfl,rfl,by omega,dI,by rw[Nat.add_zero,f0];simp[nI,List.map_take],rfl,by rw[qq hp];exact o⟩ ?_
 clear o;rintro k ⟨x,y,⟨⟩⟩ h' Z hk ⟨ys,a,hx,hy,haj,d,c,f,o⟩ hZ;dsimp only at hx hy hZ ⊢;subst hx hy;generalize hj:i0+1+k=j at haj c f hZ;unfold Qk;refine(o.vw p e8).len ?_;rw[d];simp only[bu,bg];refine⟨λhlt=> ?_,λhge=> ?_⟩
 ·have hlt:j<left.length:=by omega
  have t:ys[j]? =some ((left[j]:Nat):Int):=by
   have :=congrArg (λl:List Int=>l[0]?) f;simp only[List.getElem?_drop,Nat.add_zero]at this;rw[this];simp[nI,hlt]
  have i:left.take (j+1)=left.take j++ [left[j]]:=List.take_succ_eq_append_getElem hlt;refine(o.vw p e8).vP t (Wn (o.get q B) ?_);generalize left[j]=v at t i;have u:∀(zs:List Int)(b:Nat) h2,b<j+1->zs.length=left.length->zs.take b=nI ((left.take (j+1)).filter (· != m))->zs.drop (j+1)=(nI left).drop (j+1)->Own h0 h2 (L.set p (aA aG 1 au vl zs))->A0 Tryz.prog (I j) (λa0 a1 hz=>Z (a0,(a1,())) hz) (I b) h2:=by
   intro zs b h2 hb hzl C D E;unfold A0;rw[bt,wI j (by omega)];have n:i0+1+(k+1)=j+1:=by omega
   exact hZ (I b,I (j+1:Nat),()) h2 (by omega) ⟨zs,b,rfl,by rw[n],by omega,hzl,by rw[n];exact C,by rw[n];exact D,E⟩
  have w:ys.drop (j+1)=(nI left).drop (j+1):=by
   have :=congrArg (List.drop 1) f;simpa[List.drop_drop,Nat.add_comm]using this
  rw[bH];by_cases hv:v=m
  ·rw[decide_eq_true hv,Bool.not_true,aL];refine u ys a h' (by omega) d ?_ w o;rw[i,List.filter_append,hv,c];simp
  ·rw[decide_eq_false hv,Bool.not_false,bq];refine o.iu p e8 (by omega) λh2 o2=> ?_;rw[List.set_set]at o2;rw[bt,wI a (by omega)];refine u (ys.set a v) (a+1) h2 (by omega) (by rw[List.length_set];exact d) ?_ ?_ o2
   ·rw[i,List.filter_append];have :[v].filter (· != m)=[v]:=by simp[hv]
    rw[this];have e1:(ys.set a (v:Int)).take (a+1)=ys.take a++ [(v:Int)]:=by
     rw[List.take_succ_eq_append_getElem (by rw[List.length_set];omega),List.getElem_set_self,List.take_set_of_le (Nat.le_refl _)]
    rw[e1,c];simp[nI]
   ·rw[List.drop_set_of_lt (by omega)];exact w
 ·have hjl:j=left.length:=by omega
  subst hjl;have hal:a<=ys.length:=by omega
  refine o.agz p e8 hal λh2 o2=> ?_;rw[List.set_set]at o2;refine o2.pre mU p (kF hp) (by simp;omega) λv' s=> ?_;rw[List.set_set]at s;rw[List.take_length]at c;have e:(ys.take a++List.replicate (ys.length-a) (0:Int)).take a=nI (left.filter (· != m)):=by
   rw[List.take_append_of_le_length (by simp;omega),List.take_take,Nat.min_self];exact c
  rw[e]at s;exact hK v' h2 s
end
open Go Go.Mh
section
variable{h0 h:aa}{L:List aM}{K:KT}{g:G}{r:Nat}
def upto(n i:Nat):List Int:=nI (List.range i)++List.replicate (n-i) 0
theorem ai0{n i:Nat}(h:i<n):(upto n i).set i (i:Int)=upto n (i+1):=by
 unfold upto;have hl:(nI (List.range i)).length=i:=by rw[dI,List.length_range]
 rw[List.set_append_right _ _ (by omega),hl,Nat.sub_self,show n-i=(n-(i+1))+1 by omega,List.replicate_succ,List.set_cons_zero,List.range_succ];simp[nI]
theorem ai1{n2 f3:Nat}{first :Int}{T1 T2:TypeId}(hR:g.Right):
  gP Tryz.prog (.func (.func Ey) #[] #[ptr n2,ptr f3]) (λh=>h[n2]? =some (.cells #[ptr r] T1 (0,0))/\h[f3]? =some (.cells #[I first] T2 (0,0))/\bJ h r g) (σ:=Nat×List Nat×List Int)
   (0,List.range g.n,jZ g [first]) (VD g) (λp=>p.2.1=[]):=by
 rintro yv h0 h H K J E ⟨l,rfl⟩ o t hQ hY hK;refine iJ (l:=[dm l,ptr n2,ptr f3]) rfl (acU _ _ _ ?_);unfold Qe;have ai:=hR.most;obtain⟨hn,hf,hN⟩:=hQ _ _ _ t o;have u:hcell h ⟨n2,0,none⟩=some (ptr r):=aY hn rfl;have cf:hcell h ⟨f3,0,none⟩=some (I first):=aY hf rfl;refine bC rfl u (dF hN ?_);refine(Own.start h).make (enc:=aG) (n:=1) (a:=0) rfl (by omega) (by omega) λvl h1 o1=> ?_;refine(o1.vw 0 rfl).len ?_;rw[List.length_replicate];refine cg g.n (λi x h'=>x.1=I i/\Own h h' [aA aG 1 au vl (upto g.n i)]) ⟨rfl,by simpa[upto,nI]using o1⟩ ?_;clear o1;rintro i ⟨x,⟨⟩⟩ h1 Z hi ⟨hx,o1⟩ hZ;dsimp only at hx hZ ⊢;subst hx;unfold Qd;have W:(upto g.n i).length=g.n:=by unfold upto;rw[List.length_append,dI,List.length_range,List.length_replicate];omega
 simp only[bu,bg];refine⟨λhlt=> ?_,λhge=> ?_⟩
 ·have hlt:i<g.n:=by omega
  refine o1.iu 0 rfl (by omega) λh2 o2=> ?_;rw[ai0 hlt]at o2;rw[bt,wI i (by omega)];exact hZ (I (i+1:Nat),()) h2 hlt ⟨rfl,o2⟩
 ·have :i=g.n:=by omega
  subst this;have M:upto g.n g.n=nI (List.range g.n):=by unfold upto;rw[Nat.sub_self,List.replicate_zero,List.append_nil]
  rw[M]at o1;refine bC rfl (lg o1.ext u) (bC rfl (lg o1.ext cf) ?_);refine o1.build (enc:=aG) (n:=1) [first] rfl (bW rfl) rfl λwf h2 o2=> ?_;refine Wm o2 hR (hN.more o2.ext) (o2.vw 0 rfl) (by simp) λvc h3 w=> ?_;have z:=w.vw 0 rfl;refine w.box λb h4 N=>N.bf 0 (cs':=[vc]) rfl rfl rfl z.one z.plain λh5 O=> ?_;have P:Own h0 h5 ([aA aG 1 au vl (nI (List.range g.n)),aj b [vc] gj,xR vc (jZ g [first])]++H):=o.frame (O.bh [3,0,1] (by decide));clear O N w o2 o1 hZ M W;refine pW (λk x h'=>∃(left:List Nat)(i:Nat)(c:List Int)(vc:Value)(j:List aM),k=left.length/\x.2.1=I i/\i+left.length<=g.n/\c.length=g.n/\(∀v∈left,v<g.n)/\left.Nodup/\J (i,left,c) j/\
   Own h0 h' ([aA aG 1 au x.1 (nI left),aj b [vc] gj,xR vc c]++j)) (k0:=g.n) ⟨List.range g.n,0,jZ g [first],vc,H,by simp,rfl,by simp,Ii,by simp,List.nodup_range,t,P⟩ ?_
  clear P z hn hf hN u cf o t;rintro k ⟨vl,y,⟨⟩⟩ h6 X ⟨left,i,c,vc,j,rfl,hy,hil,Q,hlr,Y,hj,o⟩ R;dsimp only at hy o R ⊢;subst hy;unfold Qc;refine(o.vw 0 rfl).len ?_;rw[dI];simp only[dZ,bg];refine⟨λhpos=> ?_,λhz=> ?_⟩
  ·have hne:left≠ []:=λe=>by subst e;simp at hpos
   obtain⟨hn,hf,hN⟩:=hQ _ _ _ hj o.tail.tail.tail;have hm:=BR (c:=c) hne;have hmn:=hlr _ hm;refine aiW (o.vw 0 rfl) (o.get 1 rfl) (o.vw 2 rfl) (λv hv=>by rw[Q];exact hlr v hv) (by omega) ?_;have nx:VD g (i,left,c) [I (gv c left)] (i+1,left.filter (· != gv c left),cl (if i=0 then List.replicate g.n aI else c) (g.dg (gv c left)).aH):=⟨hne,rfl,rfl⟩;have hfl:(left.filter (· != gv c left)).length<left.length:=by
    have :=List.length_filter_lt_length_iff_exists (l:=left) (p:=(· != gv c left));exact this.2 ⟨_,hm,by simp⟩
   generalize gv c left=m at hm hmn nx hfl;refine o.box λm8 h7 aa=>aa.bf 0 (cs':=[I m]) rfl rfl rfl rfl rfl λh8 S=>S.load 0 rfl rfl ?_;have af:Own h0 h8 (j++ [aj m8 [I m] au,aA aG 1 au vl (nI left),aj b [vc] gj,xR vc c]):=Own.comm (L:=[aj m8 [I m] au,aA aG 1 au vl (nI left),aj b [vc] gj,xR vc c]) S;refine hY _ _ _ j _ h8 _ nx hj af (λs h9 hj' o'=> ?_) λs h9 he o'=> ?_
   ·rw[bH,Bool.not_true,aL];have ag:Own h0 h9 ([aj m8 [I m] au,aA aG 1 au vl (nI left),aj b [vc] gj,xR vc c]++s):=Own.comm o';refine aiZ ag (p:=1) (q:=0) rfl rfl (by decide) (by omega) hm λA h10 B=> ?_;obtain⟨hn',hf',C⟩:=hQ _ _ _ hj' B.tail.tail.tail.tail;have D:hcell h10 ⟨n2,0,none⟩=some (ptr r):=aY hn' rfl;have T:∀(d:Value)(c':List Int) h11,c'.length=g.n->c'=(if i=0 then List.replicate g.n aI else c)->Own h0 h11 ([aj m8 [I m] au,aA aG 1 au A (nI (left.filter (· != m))),aj b [d] gj,xR d c']++s)->
      AY Tryz.prog (ptr n2) (ptr b) (ptr m8) (I i) (λa0 a1 hz=>X (a0,(a1,())) hz) A h11:=by
     intro d c' h11 U ah f;unfold AY;obtain⟨hn',hf',C⟩:=hQ _ _ _ hj' f.tail.tail.tail.tail;have D:hcell h11 ⟨n2,0,none⟩=some (ptr r):=aY hn' rfl;refine bC rfl D (f.load 2 rfl rfl (f.load 0 rfl rfl ?_));refine Wl f 3 rfl U hR C λh12 F=> ?_;rw[bt,wI i (by omega)];refine R (A,I (i+1:Nat),()) h12 (left.filter (· != m)).length hfl ⟨left.filter (· != m),i+1,cl c' (g.dg m).aH,d,s,rfl,rfl,by omega,by rw[Vz];exact U,λv hv=>hlr v (List.mem_filter.1 hv).1,Y.filter _,by rw[ah];exact hj',F.tail⟩
    rw[cF];by_cases h0:i=0
    ·subst h0;show az (.bool true) _ _;rw[bq];refine bC rfl D (Wm B hR C .nil (by decide) λd h11 f=> ?_);have V:=f.vw 0 rfl;refine f.bf 3 (cs':=[d]) rfl rfl rfl V.one V.plain λh12 F=> ?_;refine T d (jZ g []) h12 Ii rfl ?_;exact F.front 5 [1,2,3,0] (by decide) (by decide)
    ·rw[show((i:Int)==0)=false by simpa using h0,aL];exact T vc c h10 Q (by rw[if_neg h0]) B
   ·rw[bH,Bool.not_false,bq];exact hK _ _ (.inr he) o'.left
  ·have hle:left=[]:=List.eq_nil_of_length_eq_zero (by omega);exact hK _ _ (.inl ⟨_,hle,hj⟩) o.tail.tail.tail
end
open Go Go.Mh
section
variable{h0 h:aa}{L:List aM}{K:KT}{g:G}{r:Nat}
abbrev gw(x:Int):List Value:=Iz .u32 x
theorem B5(x:Int):∀u∈gw x,Mh.plainCell u=true:=by intro u hu;simp[Iz]at hu;subst hu;rfl
def og:List Int->Nat->Int×List Int
 | [],_=>(0,[])
 |x::r,n=>(x.tmod n,r)
theorem ai7{vl:Value}{xs:List Int}(o:Own h0 h L)(b:Vw gw 1 h vl xs)(hb:(xs.length:Int)*4<=2^48)(hK:∀pd w h',Own h0 h' (aj pd [w] lD::iO gw 1 gl w xs::L)->K (ptr pd) h'):ah Tryz.prog Dv [vl] h K:=by
 refine aK (aai _ ?_);unfold L5;refine b.len ?_;refine(Own.start h).make (enc:=gw) (n:=1) (a:=0) (m:=xs.length) rfl (by omega) (by omega) λw h1 o1=> ?_;refine o1.agB (ys:=xs) 0 rfl (λ_=>rfl) B5 (b.more o1.ext) (by simp) λh2 o2=> ?_;have hw:=o2.vw 0 rfl;refine cG (cs':=[w]) (λp hp=>by simp at hp;subst hp;exact hw.one) rfl rfl ?_;refine o2.box λpd h3 c=> ?_;have d:=c.que 1 rfl;exact hK pd w h3 (o.frame d)
theorem ai8{pd:Nat}{vl:Value}{xs:List Int}(o:Own h0 h L)(p q:Nat)(hp:L[p]? =some (aj pd [vl] lD))(hq:L[q]? =some (iO gw 1 gl vl xs))(hK:K (I xs.length) h):ah Tryz.prog EC [ptr pd] h K:=by
 refine aK (ac1 _ ?_);unfold Qp;simp only[ef,Option.isNone_some,aL];simp only[bz,aQ];exact o.load p hp rfl ((o.xM q hq).len hK)
theorem Wq{pd n:Nat}{vl:Value}{xs:List Int}(o:Own h0 h L)(p q:Nat)(hp:L[p]? =some (aj pd [vl] lD))(hq:L[q]? =some (iO gw 1 gl vl xs))(hpq:p≠q)(hn:1<=n)(hn2:n<2^40)(c:xs.length<2^62)(hr:∀x∈xs,0<=x/\x<=4294967295)
  (hK:∀a h',Own h0 h' ((L.set p (aj pd [a] lD)).set q (iO gw 1 gl a (og xs n).2))->K (I (og xs n).1) h'):ah Tryz.prog tG [ptr pd,I n] h K:=by
 refine aK (abR _ _ ?_);unfold Of;rw[bu,decide_eq_false (by omega),aL];refine ai8 o p q hp hq ?_;rw[cF];cases xs with
 |nil=>
  show az (.bool true) _ _;rw[bq];unfold F8;refine hK vl h ?_;rw[qq hp];have :L.set q (iO gw 1 gl vl (og [] n).2)=L:=qq hq;rw[this];exact o
 |cons x r=>
  rw[show(((x::r).length:Int)==0)=false by simp;omega,aL];simp only[bz,aQ];refine o.load p hp rfl ?_;refine aK (ac2 _ ?_);unfold Qq;have hx:=hr x (List.mem_cons_self ..);refine(o.xM q hq).dH (e:=λx:Int=>.int .u32 x) (λ_=>rfl) (i:=0) (by simp) ?_;refine(o.xM q hq).len ((o.xM q hq).len ?_);refine o.agA (λ_=>rfl) q hq (by simp) λv' o1=> ?_;simp only[b9,bZ]
  try simp only[bz,aQ]
  have hp1:(L.set q (iO gw 1 gl v' r))[p]? =some (aj pd [vl] lD):=by rw[List.getElem?_set_ne (Ne.symm hpq)];exact hp
  have b:=o1.xM q (kF hq);refine o1.bf p hp1 (cs':=[v']) rfl rfl b.one b.plain λh2 o2=> ?_;simp only[me];rw[show((x::r)[0]'(by simp))=x from rfl,bG (by omega) (by omega),nN];refine⟨by omega,hK v' h2 ?_⟩;rw[List.set_comm _ _ (Ne.symm hpq)]at o2;exact o2
theorem ai9{k:Nat}{PL:List aM->Prop}{first :Int}{d:Value}(hR:g.Right)(H0:∀{h' L'},PL L'->Own h0 h' L'->bJ h' r g)(hk:1<=k)(C:k<2^40)
  (hd:∀{K':KT}{h1:aa}{A:List aM},Own h h1 A->(∀h2 L',PL L'->Own h0 h2 (A++L')->K' (I first) h2)->ah Tryz.prog tG [d,I g.n] h1 K') (H1:bJ h r g)
  (hK:∀w h' L',PL L'->Own h0 h' (aA aG 1 au w (nI (jC g k 0 (List.range g.n) (jZ g [first])))::L')->K w h'):ah Tryz.prog qd [ptr r,I k,d] h K:=by
 refine aK (aaT _ _ _ ?_);unfold MT;have D:=hR.most;refine(Own.start h).box λb h1 o1=>o1.box λa h2 o2=> ?_;simp only[ef,Option.isNone_some,aL];refine o2.load 1 rfl rfl ?_;rw[bu,decide_eq_false (by omega),aL];refine dF (H1.more o2.ext) (hd o2 λh3 L' q y=> ?_);have H:∀{h'},Own h0 h' L'->bJ h' r g:=λo=>H0 q o;refine aK (abL _ _ ?_);unfold Od;refine y.box λn2 h4 z=>z.box λf3 h5 s=> ?_;have s:Own h0 h5 ([aj f3 [I first] au,aj n2 [ptr r] cq,aj a [.slice none 0 0] bR,aj b [I k] au]++L'):=s;have B:Own h0 h5 ([aj f3 [I first] au,aj n2 [ptr r] cq,aA aG 1 au (.slice none 0 0) (nI []),aj a [.slice none 0 0] bR,aj b [I k] au]++L'):=(s.en (enc:=aG) (n:=1) (T:=au)).front 5 [1,2,0,3,4] (by decide) (by decide);generalize hall:jC g k 0 (List.range g.n) (jZ g [first])=all at hK;refine B.range (ai1 (r:=r) (T1:=cq) (T2:=au) hR) (by rintro p x p' ⟨_,rfl,_⟩;rfl)
  (λp t=>∃acc vl,acc.length=p.1/\p.1<k/\all=acc++jC g (k-p.1) p.1 p.2.1 p.2.2/\t=[aj f3 [I first] au,aj n2 [ptr r] cq,aA aG 1 au vl (nI acc),aj a [vl] bR,aj b [I k] au]++L')
  (λ_=>False)
  (λid t=>id=0/\∃vl,t=[aj f3 [I first] au,aj n2 [ptr r] cq,aA aG 1 au vl (nI all),aj a [vl] bR,aj b [I k] au]++L')
  ⟨[],.slice none 0 0,rfl,by omega,hall.symm,rfl⟩ ?_ ?_ ?_ (λ_ _ h=>h.elim) ?_
 ·rintro p u h' ⟨acc,vl,_,_,_,rfl⟩ o';exact⟨o'.get 1 rfl,o'.get 0 rfl,H o'.tail.tail.tail.tail.tail⟩
 ·rintro M ⟨i,left,c⟩ x p' u Pr h' R ⟨hne,rfl,rfl⟩ ⟨acc,vl,hacc,hik,hch,rfl⟩ o' hN _ hX;dsimp only[fk]at hne hacc hik hch ⊢;rw[show k-i=(k-(i+1))+1 by omega,BT hne]at hch;generalize gv c left=m at hch hN;unfold MS;refine o'.begin 0 rfl λh9 f=> ?_;have f:Own h0 h9 (b6 _ _::bX _::aj f3 [I first] au::aj n2 [ptr r] cq::aA aG 1 au vl (nI acc)::aj a [vl] bR::aj b [I k] au::(L'++Pr)):=f;refine f.load 5 rfl rfl ?_;refine f.fF 4 (m:Int) rfl rfl (bW rfl) mU ja rfl (by decide) (by rw[dI];omega) λj h10 e=> ?_;have e1:nI acc++ [(m:Int)]=nI (acc++ [m]):=by simp[nI]
  rw[e1]at e;have v:=e.vw 4 rfl;refine e.bf 5 (cs':=[j]) rfl rfl rfl v.one v.plain λh11 l=>l.load 5 rfl rfl ?_;refine(l.vw 4 rfl).len (l.load 6 rfl rfl ?_);rw[dI,List.length_append,List.length_singleton,cF];by_cases E:i+1=k
  ·rw[show(((acc.length+1:Nat):Int)==(k:Int))=true by simp;omega,bq];refine hX 0 ([aj f3 [I first] au,aj n2 [ptr r] cq,aA aG 1 au j (nI all),aj a [j] bR,aj b [I k] au]++L') h11 ⟨rfl,j,rfl⟩ ?_;have :all=acc++ [m]:=by rw[hch,show k-(i+1)=0 by omega];rfl
   rw[this];exact l
  ·rw[show(((acc.length+1:Nat):Int)==(k:Int))=false by simp;omega,aL];refine hN ([aj f3 [I first] au,aj n2 [ptr r] cq,aA aG 1 au j (nI (acc++ [m])),aj a [j] bR,aj b [I k] au]++L') h11 ⟨acc++ [m],j,by simp[hacc],by omega,by rw[hch];simp,rfl⟩ ?_;exact l
 ·rintro⟨i,left,c⟩ h' u hst ⟨acc,vl,hacc,hik,hch,rfl⟩ o';dsimp only at hst hch;subst hst;have :all=acc:=by
   rw[hch,show k-i=(k-(i+1))+1 by dsimp only at hik;omega];simp[jC]
  subst this;unfold xk;have o':Own h0 h' (bX _::aj f3 [I first] au::aj n2 [ptr r] cq::aA aG 1 au vl (nI all)::aj a [vl] bR::aj b [I k] au::L'):=o';have hv:=o'.vw 3 rfl;refine o'.load 4 rfl rfl (o'.bf 4 (cs':=[vl]) rfl rfl rfl hv.one hv.plain λh9 f=>f.iZ 0 rfl λh10 e=>e.load 4 rfl rfl (hK vl h10 L' q ?_));exact e.front 6 [3] (by decide) (by decide)
 ·rintro id h' u ⟨rfl,vl,rfl⟩ o';show xk Tryz.prog (ptr a) h5 K h';unfold xk;have o':Own h0 h' (bX _::aj f3 [I first] au::aj n2 [ptr r] cq::aA aG 1 au vl (nI all)::aj a [vl] bR::aj b [I k] au::L'):=o';have hv:=o'.vw 3 rfl;refine o'.load 4 rfl rfl (o'.bf 4 (cs':=[vl]) rfl rfl rfl hv.one hv.plain λh9 f=>f.iZ 0 rfl λh10 e=>e.load 4 rfl rfl (hK vl h10 L' q ?_));exact e.front 6 [3] (by decide) (by decide)
theorem aja{k pd:Nat}{vl:Value}{xs:List Int}{N:aM}(o:Own h0 h (aj pd [vl] lD::iO gw 1 gl vl xs::L))(p:Nat)(hp:L[p]? =some N)(hR:g.Right)(hN:rP N r g)(hk:1<=k)(b:k<2^40)(c:xs.length<2^62)(hr:∀x∈xs,0<=x/\x<=4294967295)
  (hK:∀w a h',Own h0 h' (aA aG 1 au w (nI (jC g k 0 (List.range g.n) (jZ g [(og xs g.n).1])))::aj pd [a] lD::iO gw 1 gl a (og xs g.n).2::L)->K w h'):ah Tryz.prog qd [ptr r,I k,ptr pd] h K:=by
 have hpos:=hR.pos;have f:=hR.most;refine ai9 (PL:=λL2=>∃a,L2=aj pd [a] lD::iO gw 1 gl a (og xs g.n).2::L) (first :=(og xs g.n).1) hR ?_ hk b ?_ (hN _ (o.get (p+2) hp)) λw h' L'⟨a,e⟩ o'=>hK w a h' (by subst e;exact o')
 ·rintro h' L' ⟨a,rfl⟩ o';exact hN _ (o'.get (p+2) hp)
 ·intro K' h1 A d hk';have o1:=o.frame d;refine Wq o1 A.length (A.length+1) (by rw[List.getElem?_append_right (Nat.le_refl _),Nat.sub_self];rfl) (by rw[List.getElem?_append_right (by omega),Nat.add_sub_cancel_left];rfl) (by omega) hpos (by omega) c hr λa h2 o2=>hk' h2 _ ⟨a,rfl⟩ ?_;rw[List.set_append_right _ _ (Nat.le_refl _),Nat.sub_self,List.set_cons_zero,List.set_append_right _ _ (by omega),Nat.add_sub_cancel_left]at o2;exact o2
end
open Go Go.Mh
theorem ajb{u:Value}(h:Mh.plainCell u=true):u.cells= #[u]:=by
 cases u<;>first |rfl|(exfalso;revert h;decide)|simp[Mh.plainCell]at h
section
variable{h0 h:aa}{L:List aM}{K:KT}{g:G}{rn r:Nat}{vl:Value}{ms:List MV}
theorem ajc{b x:Nat}(o:Own h0 h L)(i:Nat)(hi:L[i]? =some (aj b [I x] au))(c:Vw eT 7 h vl ms)(hl:ms.length<2^40)(hK:∀h',Own h0 h' L->K (.bool (decide (x∈ms.map MV.node))) h'):
  ah Tryz.prog EE [vl,.func (.func Ab) #[] #[ptr b]] h K:=by
 refine aK (ac7 _ _ ?_);unfold QA;refine aK (aea _ _ ?_);unfold R9;refine c.len ?_;refine cg ms.length (λj y h'=>y.1=I j/\Ext h h'/\Own h0 h' L/\x∉(ms.take j).map MV.node) ⟨rfl,(Own.start h).ext,o,by simp⟩ ?_;rintro j ⟨y,⟨⟩⟩ h1 Z hj ⟨hy,x1,o1,hno⟩ hZ;dsimp only at hy hZ ⊢;subst hy;unfold R8;rw[bu,bg];refine⟨λhlt=> ?_,λhge=> ?_⟩
 ·have hlt:j<ms.length:=by omega
  refine(c.more x1).mh yb hlt ?_;refine aiT (λu hu=>ajb (yc _ u hu)) o1 i hi λh2 a=> ?_;rw[bg];refine⟨λhe=> ?_,λhe=> ?_⟩
  ·dsimp only;rw[c8,decide_eq_true (by omega)];have :x∈ms.map MV.node:=List.mem_map.2 ⟨_,List.getElem_mem hlt,he⟩;rw[decide_eq_true this]at hK;exact hK h2 (o1.more a)
  ·rw[bt,wI j (by omega)];refine hZ (_,()) h2 hlt ⟨rfl,x1.trans a λ_ h _=>h,o1.more a,?_⟩;rw[List.take_succ_eq_append_getElem hlt,List.map_append,List.mem_append];rintro(h|h)
   ·exact hno h
   ·simp at h;exact he h.symm
 ·have :j=ms.length:=by omega
  subst this;rw[List.take_length]at hno;dsimp only;rw[c8,decide_eq_false (by omega)];rw[decide_eq_false hno]at hK;exact hK h1 o1
theorem ajd{M:List Nat}{k v:Nat}(h:v∈M):lR M (k+1) v=lR M k (v+1):=by
 conv=>lhs;unfold lR
 rw[if_pos h]
theorem aje{M:List Nat}{k v:Nat}(h:v∉M):lR M (k+1) v=v:=by
 unfold lR;rw[if_neg h]
theorem ajf(o:Own h0 h L)(hR:g.Right)(hN:bJ h rn g)(hn:Sm g)(hr:r<g.n)(z:∀m∈ms,qz g h m)(A:Vw eT 7 h vl ms)(hl:ms.length<g.n)(S:ms.length<=2^20)(U:(ms.map MV.node).Nodup)
  (hK:∀h',Own h0 h' L->K (I (lS g (ms.map MV.node) r)) h'):ah Tryz.prog D4 [ptr rn,vl,I r] h K:=by
 have V:=hR.most;have W:=hn r hr;refine aK (abS _ _ _ ?_);unfold Oi;have T:=eX hR hr;have hmn:∀x∈ms.map MV.node,x<g.n:=λx hx=>by
  obtain⟨y,hy,rfl⟩:=List.mem_map.1 hx;exact(z y hy).1
 have Y:(g.from r).order.length<=g.n:=iL T.nodup T.range;refine aiS hR hN hn hr z A (by omega) λpt tr m pm b5 b4 b3 ord vs vm sd sa so f kv h1 hf o1=> ?_;have x1:=o1.ext;simp only[bz,aQ];refine o1.load 1 rfl rfl ?_;refine G2 o1 (o1.vw 8 rfl) λs1 h2 o2=> ?_;have B:(eR g (ms.map MV.node) r).sz.length=g.n:=(BL hR hn hr hmn).sl;refine We (f:=fL g (ms.map MV.node) r) (O:=(g.from r).order) o2 rfl rfl (G1 (b:=s1) (T:=bR) (by omega)) (λh' o'=>⟨o'.get 0 rfl,o'.vw 9 rfl⟩)
  (λh' v K' hv o' hk=>Wj (sz:=(eR g (ms.map MV.node) r).sz) o' (i:=2) (j:=6) rfl rfl (by rw[B];exact T.range v hv) hk) λh3 C=> ?_
 refine C.tail.box λD h4 E=> ?_;clear o1 o2 C;have s:lS g (ms.map MV.node) r=match jh (fL g (ms.map MV.node) r) (g.from r).order with
  |none=>lR (ms.map MV.node) (g.n+1) 0
  |some v=>down (fL g (ms.map MV.node) r) (eR g (ms.map MV.node) r).kd g.n v:=rfl
 have F:∀w,jh (fL g (ms.map MV.node) r) (g.from r).order=some w->w∈(g.from r).order:=λw hw=>by
  rcases pF (f:=fL g (ms.map MV.node) r) (l:=(g.from r).order)with ⟨e,_⟩|⟨w',e,h1,_⟩
  ·rw[e]at hw;cases hw
  ·rw[e]at hw;cases hw;exact h1
 generalize jh (fL g (ms.map MV.node) r) (g.from r).order=bb at s F;refine E.bf 0 (cs':=[yq bb]) rfl rfl rfl (by cases bb<;>rfl) (by cases bb<;>rfl) λh5 d=>d.load 0 rfl rfl ?_;clear E;cases bb with
 | none=>
  show ak .lss (I (-1)) _ _;rw[bu,show decide ((-1:Int)<0)=true from rfl,bq];refine d.bf 0 (cs':=[I (0:Nat)]) rfl rfl rfl rfl rfl λh6 k=> ?_;clear d;have hml:(ms.map MV.node).length=ms.length:=List.length_map _;refine cg ms.length (λi y h'=>(∀u,u<i->u∈ms.map MV.node)/\lR (ms.map MV.node) (g.n+1-i) i=lS g (ms.map MV.node) r/\∃L',Own h h' (aj D [I i] au::L')) ⟨λu hu=>by omega,s.symm,_,k⟩ ?_;rintro i ⟨⟩ h7 Z hi ⟨hall,t,L',a⟩ hZ;unfold Og;refine ajc a 0 rfl (A.more a.ext) (by omega) λh8 p=> ?_;rw[bg];refine⟨λhin=> ?_,λhno=> ?_⟩
  ·have H:∀u,u<i+1->u∈ms.map MV.node:=λu hu=>by
    by_cases e:u=i
    ·rw[e];exact hin
    ·exact hall u (by omega)
   have :=ya H;rw[List.length_range,hml]at this;refine p.load 0 rfl rfl ?_;rw[bt,wI i (by omega)];refine p.bf 0 (cs':=[I (i+1:Nat)]) rfl rfl rfl rfl rfl λh9 q=>hZ () h9 this ⟨H,?_,L',q⟩;rw[<-t,show g.n+1-i=(g.n+1-(i+1))+1 by omega,ajd hin]
  ·refine p.load 0 rfl rfl ?_;have :=ya hall;rw[List.length_range,hml]at this;rw[show g.n+1-i=(g.n-i)+1 by omega,aje hno]at t;rw[<-t]at hK;exact hK h8 (o.more p.ext)
 | some w0=>
  show ak .lss (I w0) _ _;rw[bu,show decide ((w0:Int)<0)=false from decide_eq_false (by omega),aL];refine d.load 0 rfl rfl ?_;have J:∀v,∀w∈(eR g (ms.map MV.node) r).kd v,w∈(g.from r).order/\(g.from r).order.idxOf v<(g.from r).order.idxOf w:=λv w hw=>by
   obtain⟨q1,_,_,P⟩:=lP T ((BM hR hn hr hmn).1 hw);exact⟨q1,P⟩
  have Q:=F w0 rfl;dsimp only at s;refine cg g.n (λi y h'=>(∃v':Value,Own h h' (aj D [v'] au::gJ g (g.from r) rn r pt tr m pm b5 b4 b3 vs vm sd sa so vl f (eR g (ms.map MV.node) r) (dV aV 1 au kv (eR g (ms.map MV.node) r).kd g.n++ [aj ord [so] bR]))/\
    ((∃w:Nat,y.1=I w/\w∈(g.from r).order/\i<=(g.from r).order.idxOf w/\down (fL g (ms.map MV.node) r) (eR g (ms.map MV.node) r).kd (g.n-i) w=lS g (ms.map MV.node) r)\/(y.1=I (-1)/\v'=I (lS g (ms.map MV.node) r))))) ⟨_,d,.inl ⟨w0,rfl,Q,Nat.zero_le _,s.symm⟩⟩ ?_
  clear d;rintro i ⟨y,⟨⟩⟩ h6 Z hi ⟨v',k,hs⟩ hZ;dsimp only at hs hZ ⊢;unfold Oh;rcases hs with ⟨w,rfl,hw1,aa,c⟩|⟨rfl,rfl⟩
  ·have hil:i<g.n:=by have :=List.idxOf_lt_length_of_mem hw1;omega
   have hwn:=T.range w hw1;rw[c8,decide_eq_true (by omega),bq];refine k.bf 0 (cs':=[I w]) rfl rfl rfl rfl rfl λh7 a=> ?_;clear k;simp only[bz,aQ];refine a.load 2 rfl rfl (a.load 0 rfl rfl (a.look 3 rfl ?_));have R:=hf w;show ah Tryz.prog tN [(f w).getD aN] h7 _;rw[R];have M:∀{N:aM}{X:List aM},(N::gJ g (g.from r) rn r pt tr m pm b5 b4 b3 vs vm sd sa so vl f (eR g (ms.map MV.node) r) (dV aV 1 au kv (eR g (ms.map MV.node) r).kd g.n++X))[w+13]? =some (aA aV 1 au (kv w) ((eR g (ms.map MV.node) r).kd w)):=by
    intro N X;show(dV aV 1 au kv (eR g (ms.map MV.node) r).kd g.n++X)[w]? =_;rw[List.getElem?_append_left (by simp[dV];exact hwn),th hwn]
   refine G2 a (a.vw (w+13) M) λs2 h8 p=> ?_;have af:((eR g (ms.map MV.node) r).kd w).length<=32:=by
    have :=(VG hR hn hr hmn (by rw[List.length_map];omega) (g.from r).order.length).1 w;rw[VF]at this;exact this
   refine We (f:=fL g (ms.map MV.node) r) (O:=(eR g (ms.map MV.node) r).kd w) p rfl rfl (G1 (b:=s2) (T:=bR) (by omega)) (λh' o'=>⟨o'.get 0 rfl,o'.tail.vw (w+13) M⟩)
    (λh' v K' hv o' hk=>Wj (sz:=(eR g (ms.map MV.node) r).sz) o' (i:=3) (j:=7) rfl rfl (by rw[B];exact T.range v (J w v hv).1) hk) λh9 q=> ?_
   replace q:=q.tail;refine hZ (_,()) h9 hil ⟨_,q,?_⟩;rw[show g.n-i=(g.n-(i+1))+1 by omega]at c;unfold down at c;rcases pF (f:=fL g (ms.map MV.node) r) (l:=(eR g (ms.map MV.node) r).kd w)with ⟨e,_⟩|⟨w',e,h1,_⟩
   ·rw[e]at c ⊢;dsimp only at c;rw[c];exact .inr ⟨rfl,rfl⟩
   ·rw[e]at c ⊢;dsimp only at c;obtain⟨q1,q2⟩:=J w w' h1;exact .inl ⟨w',rfl,q1,by omega,c⟩
  ·rw[c8,show decide ((0:Int)<= -1)=false from rfl,aL];exact k.load 0 rfl rfl (hK h6 (o.more k.ext))
end
open Go Go.Mh
section
variable{h0 h:aa}{L:List aM}{K:KT}{g:G}{r:Nat}{d:Value}{xs:List Int}{DS:Nat->List aM->Prop}
theorem ajg{A B C:List aM}(o:Own h0 h (A++(B++C))):Own h0 h (A++C):=by
 have o1:Own h0 h ((A++B)++C):=by rw[List.append_assoc];exact o
 have o2:=Own.comm o1;rw[<-List.append_assoc]at o2;exact Own.comm o2.left
theorem ajh{i n:Nat}(hn:0<n)(hx:∀x∈xs,0<=x):(og (xs.drop i) n).1=(ny xs n i:Int)/\(og (xs.drop i) n).2=xs.drop (i+1):=by
 by_cases h:i<xs.length
 ·rw[List.drop_eq_getElem_cons h];refine⟨?_,rfl⟩;show xs[i].tmod n=_;unfold ny;rw[List.getElem?_eq_getElem h];show _=(((xs[i].tmod n).toNat:Nat):Int);have :=Int.tmod_nonneg (n:Int) (hx _ (List.getElem_mem h));omega
 ·rw[List.drop_eq_nil_of_le (by omega),List.drop_eq_nil_of_le (by omega)];refine⟨?_,rfl⟩;unfold ny;rw[List.getElem?_eq_none (by omega)];rfl
theorem aji{k:Int}(o:Own h0 h L)(hR:g.Right)(hn:Sm g)(hx:∀x∈xs,0<=x)(hk2:k<2^20)(H0:∀{i h' L'},DS i L'->Own h0 h' L'->bJ h' r g)(hL:DS 0 L)
  (hd:∀{i:Nat}{K':KT}{h1:aa}{A L':List aM},DS i L'->Own h0 h1 (A++L')->(∀h2 E,DS (i+1) E->Own h0 h2 (A++E)->K' (I (ny xs g.n i)) h2)->ah Tryz.prog tG [d,I g.n] h1 K')
  (hK:∀w h' L',DS (min k g.n).toNat L'->Own h0 h' (aA aV 1 au w (fu g xs (min k g.n).toNat)::L')->K w h'):ah Tryz.prog rB [ptr r,I k,d] h K:=by
 have R:=hR.most;refine aK (aaU _ _ _ ?_);unfold MW;have hpos:=hR.pos;simp only[ef,Option.isNone_some,aL];generalize hkk:(min k g.n).toNat=kk at hK;have hkn:kk<=g.n:=by omega
 refine cg kk (λi x h'=>∃(ms:List MV)(c L':List aM),ms.map MV.node=fu g xs i/\DS i L'/\(∀m∈ms,xR m.sd (g.to m.node).aH∈c/\xR m.fd (g.from m.node).aH∈c)/\
  Own h0 h' (aA aV 1 au x.1 (fu g xs i)::aA eT 7 gG x.2.1 ms::(c++L'))) ⟨[],[],L,rfl,hL,λm hm=>by(cases hm),o.en.en⟩ ?_
 rintro i ⟨e,wl,⟨⟩⟩ h1 Z hi ⟨ms,c,L',p,t,F,o1⟩ hZ;dsimp only at o1 hZ ⊢;unfold MU;refine(o1.vw 0 rfl).len ?_;rw[qy];have j:Own h0 h1 L':=(Own.comm (L:=aA aV 1 au e (fu g xs i)::aA eT 7 gG wl ms::c) o1).left;have hN:=H0 t j;refine dF hN ?_;rw[oI,show(if(g.n:Int)<k then(g.n:Int)else k)=min k g.n by split<;>omega,bu,bg];refine⟨λhlt=> ?_,λhge=> ?_⟩
 ·have hlt:i<kk:=by omega
  obtain⟨H,J⟩:=HI hR hn hx (k:=i) (xs:=xs) (by omega);refine dF hN ?_;refine hd (A:=aA aV 1 au e (fu g xs i)::aA eT 7 gG wl ms::c) t o1 λh2 L2 u o2=> ?_;clear o1 j hN;have o2:Own h0 h2 (aA aV 1 au e (fu g xs i)::aA eT 7 gG wl ms::(c++L2)):=o2;have y:ny xs g.n i<g.n:=U9 (by omega) hx;have hlen:ms.length=i:=by rw[<-List.length_map (f:=MV.node),p,qy]
  have k2:∀(v:Nat)(h3:aa),v<g.n->fu g xs (i+1)=fu g xs i++ [v]->Own h0 h3 (aA aV 1 au e (fu g xs i)::aA eT 7 gG wl ms::(c++L2))->
    AJ Tryz.prog e (ptr r) wl (λa0 a1 hz=>Z (a0,(a1,())) hz) (I v) h3:=by
   intro v h3 hv he z;unfold AJ;refine z.fF 0 v rfl rfl (bW rfl) (λ_=>rfl) nP rfl (by decide) (by rw[qy];omega) λw' h4 q=> ?_;have q:Own h0 h4 (aA aV 1 au w' (fu g xs i++ [v])::aA eT 7 gG wl ms::(c++L2)):=q;rw[<-he]at q;refine q.build (enc:=aG) (n:=1) [(v:Int)] rfl (bW rfl) rfl λM h5 C=> ?_;have j:Own h0 h5 L2:=(Own.comm (L:=aA aG 1 au M [(v:Int)]::aA aV 1 au w' (fu g xs (i+1))::aA eT 7 gG wl ms::c) C).left;refine ahr C hR (H0 u j) (C.vw 0 rfl) (show 1<2^32 by decide) λN ms1 h6 D s=> ?_;have e1:nZ g.n [(v:Int)]=[v]:=by
    have :=afT (n:=g.n) (l:=[v]) (λm hm=>by rw[List.mem_singleton.1 hm];exact hv);exact this
   rw[e1]at D;obtain⟨m,rfl⟩:∃m,ms1=[m]:=by
    match ms1,D with
    | [m],_=>exact⟨m,rfl⟩
   have O:m.node=v:=by simpa using D
   have s:Own h0 h6 (aA eT 7 gG N [m]::xR m.sd (g.to m.node).aH::xR m.fd (g.from m.node).aH::aA aG 1 au M [(v:Int)]::aA aV 1 au w' (fu g xs (i+1))::aA eT 7 gG wl ms::(c++L2)):=s;refine s.app 5 rfl yb yc rfl (s.vw 0 rfl) (by decide) (by simp only[List.length_cons,List.length_nil];omega) λw7 h7 P=> ?_;refine hZ (w',(w7,())) h7 hlt ⟨ms++ [m],xR m.sd (g.to m.node).aH::xR m.fd (g.from m.node).aH::c,L2,?_,u,λm' hm'=> ?_,?_⟩
   ·rw[List.map_append,p,he];simp[O]
   ·rcases List.mem_append.1 hm' with hm'|hm'
    ·obtain⟨a,b⟩:=F m' hm';exact⟨List.mem_cons_of_mem _ (List.mem_cons_of_mem _ a),List.mem_cons_of_mem _ (List.mem_cons_of_mem _ b)⟩
    ·rw[List.mem_singleton.1 hm'];exact⟨List.mem_cons_self,List.mem_cons_of_mem _ List.mem_cons_self⟩
   ·exact P.front 6 [4,5,1,2] (by decide) (by decide)
  refine(o2.vw 0 rfl).len ?_;rw[qy,dZ,bg];refine⟨λhp=> ?_,λhz=> ?_⟩
  ·have j:Own h0 h2 L2:=(Own.comm (L:=aA aV 1 au e (fu g xs i)::aA eT 7 gG wl ms::c) o2).left;refine ajf (ms:=ms) o2 hR (H0 u j) hn y (λm hm=> ?_) (o2.vw 1 rfl) (by omega) (by omega) (by rw[p];exact H) λh3 z=> ?_
   ·obtain⟨a,b⟩:=F m hm;refine⟨J _ (by rw[<-p];exact List.mem_map_of_mem hm),o2.Dc (T:=bY) ?_,o2.Dc (T:=bY) ?_⟩
    ·exact List.mem_cons_of_mem _ (List.mem_cons_of_mem _ (List.mem_append_left _ a))
    ·exact List.mem_cons_of_mem _ (List.mem_cons_of_mem _ (List.mem_append_left _ b))
   ·rw[p];refine k2 _ h3 (U8 hR hn y J H (by rw[qy];omega)).1 ?_ z;show fu g xs i++ [if i=0 then _ else _]=_;rw[if_neg (by omega)]
  ·have Q:i=0:=by omega
   subst Q;exact k2 _ h2 y rfl o2
 ·have :i=kk:=by omega
  subst this;refine hK e h1 L' t ?_;exact ajg (A:=[aA aV 1 au e (fu g xs i)]) (B:=aA eT 7 gG wl ms::c) o1
theorem ajj{k:Int}{pd:Nat}{vl:Value}{N:aM}(o:Own h0 h (aj pd [vl] lD::iO gw 1 gl vl xs::L))(p:Nat)(hp:L[p]? =some N)(hR:g.Right)(hN:rP N r g)(hn:Sm g)(hk:k<2^20)(c:xs.length<2^62)(hr:∀x∈xs,0<=x/\x<=4294967295)
  (hK:∀w a h',Own h0 h' (aA aV 1 au w (fu g xs (min k g.n).toNat)::aj pd [a] lD::iO gw 1 gl a (xs.drop (min k g.n).toNat)::L)->K w h'):ah Tryz.prog rB [ptr r,I k,ptr pd] h K:=by
 have f:=hR.most;have hpos:=hR.pos;have j:=hR.most;refine aji (xs:=xs) (DS:=λi L2=>∃a,L2=aj pd [a] lD::iO gw 1 gl a (xs.drop i)::L) o hR hn (λx hx=>(hr x hx).1) hk ?_ ⟨vl,rfl⟩ ?_ λw h' L'⟨a,e⟩ o'=>hK w a h' (by subst e;exact o')
 ·rintro i h' L' ⟨a,rfl⟩ o';exact hN _ (o'.get (p+2) hp)
 ·rintro i K' h1 A L' ⟨a,rfl⟩ o1 hk';have hlen:(xs.drop i).length<2^62:=by rw[List.length_drop];omega
  obtain⟨e1,e2⟩:=ajh (xs:=xs) (i:=i) (n:=g.n) (by omega) λx hx=>(hr x hx).1;refine Wq o1 A.length (A.length+1) (by rw[List.getElem?_append_right (Nat.le_refl _),Nat.sub_self];rfl) (by rw[List.getElem?_append_right (by omega),Nat.add_sub_cancel_left];rfl) (by omega) hpos (by omega) hlen (λx hx=>hr x (List.mem_of_mem_drop hx)) λb h2 o2=> ?_;rw[e1];refine hk' h2 _ ⟨b,rfl⟩ ?_;rw[e2,List.set_append_right _ _ (Nat.le_refl _),Nat.sub_self,List.set_cons_zero,List.set_append_right _ _ (by omega),Nat.add_sub_cancel_left]at o2;exact o2
end
open Go Go.Mh
section
variable{h0 h:aa}{L:List aM}{K:KT}{g:G}{p:iF}{dv:Value}{x r p3:Nat}{N:aM}
theorem jR.mid{g:G}(H:jR g):Il g:={toRight:=H.toRight,sm:=Sm.ahk H.toRight (by have :=H.xw;omega),short:=H.short}
def Wr(h:aa)(g:G)(p:iF)(tv:Value):Prop:=(p.marks=0/\tv=.pointer none)\/(p.marks≠0/\∃t,tv=ptr t/\gy h t g (marksOf g p))
def IA(h:aa)(g:G)(p:iF)(cv fv:Value):Prop:=(p.kind=0/\cv=.pointer none/\fv=.pointer none)\/
 (p.kind≠0/\∃c b xs M,cv=ptr c/\fv=ptr b/\BV g p xs/\jw xs+1=((M:Nat):Int)/\ia h c xs/\mH h b M g.ag.length (ob g xs M))
theorem sn{i:Nat}{R:aM}{A:List aM}(hi:L[i]? =some R):(A++L)[A.length+i]? =some R:=by
 rw[List.getElem?_append_right (by omega),show A.length+i-A.length=i by omega];exact hi
theorem Ws{tv:Value}{i j k:Nat}(o:Own h0 h L)(hF:Il g)(hN:rP N r g)(hw:p.wrong=0)(hij:i≠j)(hik:i≠k)(hi:L[i]? =some (aj x [ptr r,tv,.pointer none,.pointer none] mA))(hj:L[j]? =some (aj p3 (iG p dv) fG))(hk:L[k]? =some N)
  (hK:∀cv fv L' h',Own h0 h' (L.set i (aj x [ptr r,tv,cv,fv] mA)++L')->IA h' g p cv fv->K (.tuple #[ptr x,.nilIface]) h'):xd Tryz.prog (ptr p3) (ptr r) (ptr x) K h:=by
 have hR:=hF.toRight;have I:=hR.most;have hpos:=hR.pos;have t:=(@BX p).1.1 hw;have z:=of_decide_eq_true (t 2 (by decide));have hcell:=of_decide_eq_true (t 3 (by decide));unfold xd;simp only[aQ,Nat.zero_add];refine o.load j hj rfl ?_;rw[fE];by_cases f:p.kind=0
 ·rw[show(p.kind != 0)=false by simp[f],aL];unfold w9;refine hK (.pointer none) (.pointer none) [] h ?_ (.inl ⟨f,rfl,rfl⟩);rw[List.append_nil,qq hi];exact o
 rw[show(p.kind != 0)=true by simpa using f,bq];have hc:=hcell.resolve_left f;refine o.load j hj rfl (o.load j hj rfl (VM o λm h1 o1=> ?_));have hj1:(dz m qD::L)[j+1]? =some (aj p3 (iG p dv) fG):=by simpa using hj
 refine⟨o1.load (j+1) hj1 rfl rfl,o1.load (j+1) hj1 rfl rfl,o1.look 0 rfl ?_⟩;simp only[Bool.false_eq_true,if_false];have o1:=o1.tail;have rest:∀(ys:List Int)(w:Value)(h2:aa),BV g p (norm ys)->ys.length=g.n->Own h0 h2 (aA aG 1 au w ys::L)->
   ah Tryz.prog vW [w] h2 λt57 h_14=>ah Tryz.prog zw [t57] h_14 λt58 h_15=>aJ (ptr x) λt59=>aq 2 t59 λt60=>aC 1 t60 t58 h_15 λJ h_16=>aJ (ptr x) λt64=>aq 2 t64 λt65=>af h_16 t65 λt66=>
    ah Tryz.prog zy [ptr r,t66] h_16 λt67 h_17=>aJ (ptr x) λt68=>aq 3 t68 λt69=>aC 1 t69 t67 h_17 λO h_18=>w9 Tryz.prog K (ptr x) h_18:=by
  intro ys w h2 hC P o2;obtain⟨f1,f2,f3,f4⟩:=hC.facts hR hc.1;refine VQ o2 (o2.vw 0 rfl) (by omega) λw2 h3 B=> ?_;refine ah5 B 0 rfl (λe=>by rw[e]at f1;simp at f1;omega) f2 (by omega) (by omega) f3 λc v' h4 l=> ?_;simp only[bz,aQ,Nat.zero_add];have l:Own h0 h4 ([aj c (qE v' (norm ys)) qj,aA aG 1 au v' (norm ys),aA aG 1 au w2 (norm ys),aA aG 1 au w ys]++L):=l;refine l.bf (4+i) (cs':=[ptr r,tv,ptr c,.pointer none]) (sn (A:=[_,_,_,_]) hi) rfl rfl rfl rfl λh5 a=> ?_;rw[List.set_append_right _ _ (by simp)]at a;have e:4+i - [aj c (qE v' (norm ys)) qj,aA aG 1 au v' (norm ys),aA aG 1 au w2 (norm ys),aA aG 1 au w ys].length=i:=by simp
  rw[e]at a;have u:(L.set i (aj x [ptr r,tv,ptr c,.pointer none] mA))[i]? =some (aj x [ptr r,tv,ptr c,.pointer none] mA):=kF hi;have C:(L.set i (aj x [ptr r,tv,ptr c,.pointer none] mA))[k]? =some N:=by rw[List.getElem?_set_ne hik];exact hk
  refine a.load (4+i) (sn (A:=[_,_,_,_]) u) rfl ?_;have D:ia h5 c (norm ys):=⟨v',a.get 0 rfl,a.vw 1 rfl⟩;have E:bJ h5 r g:=hN _ (a.get (4+k) (sn (A:=[_,_,_,_]) C));obtain⟨M,v⟩:=Int.eq_ofNat_of_zero_le (show 0<=jw (norm ys)+1 by omega);have hsmall:M*bP g.ag.length<=268435456:=by
   have h1:=hF.short;have :bP g.ag.length<=12:=by unfold bP;omega
   have :=Nat.mul_le_mul (show M<=256 by omega) this;omega
  refine aiA a hR f1 E D v (by omega) hsmall λb s h6 q=> ?_;have q:Own h0 h6 ([aj b (ku M g.ag.length s) jO,aA iK 1 ki s (ob g (norm ys) M),aj c (qE v' (norm ys)) qj,aA aG 1 au v' (norm ys),aA aG 1 au w2 (norm ys),aA aG 1 au w ys]++L.set i (aj x [ptr r,tv,ptr c,.pointer none] mA)):=q;refine q.bf (6+i) (cs':=[ptr r,tv,ptr c,ptr b]) (sn (A:=[_,_,_,_,_,_]) u) rfl rfl rfl rfl λh7 d=> ?_;rw[List.set_append_right _ _ (by simp)]at d;have e:6+i - [aj b (ku M g.ag.length s) jO,aA iK 1 ki s (ob g (norm ys) M),aj c (qE v' (norm ys)) qj,aA aG 1 au v' (norm ys),aA aG 1 au w2 (norm ys),aA aG 1 au w ys].length=i:=by simp
  rw[e,List.set_set]at d;unfold w9;exact hK (ptr c) (ptr b) _ h7 d.comm (.inr ⟨f,c,b,norm ys,M,rfl,rfl,hC,v,⟨v',d.get 2 rfl,d.vw 3 rfl⟩,⟨s,d.get 0 rfl,d.vw 1 rfl⟩⟩)
 obtain⟨F,H⟩:=Int.eq_ofNat_of_zero_le (show 0<=p.cells by omega);rcases @VO p.kind with ⟨e,h⟩|⟨e,h⟩|⟨e,h⟩|⟨e1,e2,e3,h⟩
 ·exact absurd e f
 ·rw[h,Option.getD_some,H];refine aiF o1 hR (hN _ (o1.get k hk)) (by omega) (by omega) λrows w h2 hS o2=> ?_;have y:p.cells.toNat=F:=by omega
  exact rest _ w h2 ⟨_,rfl,.inl ⟨e,rows,by rw[y];exact hS,by rw[y]⟩⟩ VI o2
 ·rw[h,Option.getD_some];refine agP o1 hk hN hR λw h2 o2=> ?_;unfold G8 at o2;rw[if_pos hc]at o2;exact rest _ w h2 ⟨_,rfl,.inr ⟨e,rfl⟩⟩ Bx o2
 ·rcases z with h|h|h
  ·exact absurd h e1
  ·exact absurd h e2
  ·exact absurd h e3
theorem ajk{w:Value}{ms:List Nat}(o:Own h0 h (aA aV 1 au w ms::L)):Own h0 h (aA aG 1 au w (nI ms)::L):=by
 refine o.weak (λ⟨bl,H⟩=>⟨bl,?_⟩) λb hb=>hb;rcases H with ⟨h1,h2⟩|⟨cap,rest,h1,h2,h3,h4⟩
 ·exact .inl ⟨h1,by rw[h2];rfl⟩
 ·have e:Mh.row aG (nI ms)=Mh.row aV ms:=by
   simp only[Mh.row,nI,aG,List.flatMap_map];rfl
  exact .inr ⟨cap,rest,by rw[dI];exact h1,by rw[e];exact h2,by rw[dI];exact h3,by rw[dI];exact h4⟩
theorem Wt{raw:Value}(hF:Il g)(HR:mY h raw g)(hw:p.wrong=0)(Hd:Vw gw 1 h dv p.kq)(H:p.kq.length<=2^20)(hd2:∀x∈p.kq,0<=x/\x<=4294967295)
  (hK:∀x r tv cv fv h',Ext h h'->h'[x]? =some (.cells #[ptr r,tv,cv,fv] mA (0,0))->bJ h' r g->Wr h' g p tv->IA h' g p cv fv->K (.tuple #[ptr x,.nilIface]) h'):ah Tryz.prog zo [raw,lT p dv] h K:=by
 have hR:=hF.toRight;have v:=(@BX p).1.1 hw;have hmk:=of_decide_eq_true (v 0 (by decide));have hrl:=of_decide_eq_true (v 1 (by decide));refine aK (Z5 _ _ ?_);unfold LC;have z:=HR;obtain⟨vx,vy,va,rfl,J⟩:=HR;refine(Own.start h).box λo h1 o1=>o1.box λp3 h2 o2=> ?_;have o2:Own h h2 [aj p3 (iG p dv) fG,aj o [I g.n,vx,vy,va] cN]:=o2;refine o2.bN 0 rfl rfl rfl ?_;refine ah2 (p:=p) (dv:=dv) (λ_ h3 A=> ?_) λhne=>absurd hw hne;have q:=o2.more A;have y:∀{K:Value->Prop},K (.bool false)->bL true .iface .nilIface .nilIface K:=λhk=>hk;refine y ?_;rw[aL];refine q.bN 1 rfl rfl rfl ?_;refine TC q hR (z.more q.ext) λr N h4 hN B=> ?_;simp only[b9,bZ];refine y ?_;rw[aL];refine cG (cs':=[ptr r,.pointer none,.pointer none,.pointer none]) (by intro p hp;simp at hp;subst hp;rfl) rfl rfl ?_;refine B.box λx h5 c=> ?_;have c:Own h h5 [aj x [ptr r,.pointer none,.pointer none,.pointer none] mA,N,aj p3 (iG p dv) fG,aj o [I g.n,vx,vy,va] cN]:=c;simp only[aQ,Nat.zero_add];refine c.load 2 rfl rfl ?_;rw[dZ,bg];refine⟨λhpos=> ?_,λhnp=> ?_⟩
 ·obtain⟨mk,C⟩:=Int.eq_ofNat_of_zero_le hmk.1;refine c.load 2 rfl rfl (c.load 2 rfl rfl (c.load 2 rfl rfl (VL c λm h6 a=>⟨a.load 3 rfl rfl rfl,a.load 3 rfl rfl rfl,a.load 3 rfl rfl rfl,?_⟩)));refine a.look 0 rfl ?_;simp only[Bool.false_eq_true,if_false];refine ai7 a (Hd.more a.ext) (by omega) λpd w h7 f=>⟨f.load 5 rfl rfl rfl,f.load 5 rfl rfl rfl,?_⟩;have hlk:∀{K:Value->Prop},K ((qC p.rule).getD .nilFunc)->de (.int .i64) .nilFunc false h7 (.map (some m)) (I p.rule) K:=λhk=>f.look 2 rfl (by simpa using hk);obtain⟨f1,f2,f3⟩:=VK hR hF.sm hmk.1 (λx hx=>(hd2 x hx).1) (p:=p);have fin:∀(w' d:Value)(qs:List Int)(h8:aa),Own h h8 (aA aG 1 au w' (nI (marksOf g p))::aj pd [d] lD::iO gw 1 gl d qs::dz m qC:: [aj x [ptr r,.pointer none,.pointer none,.pointer none] mA,N,aj p3 (iG p dv) fG,aj o [I g.n,vx,vy,va] cN])->
    ah Tryz.prog zu [ptr r,w'] h8 λt42 h_9=>aJ (ptr x) λt43=>aq 1 t43 λt44=>aC 1 t44 t42 h_9 λu h_10=>xd Tryz.prog (ptr p3) (ptr r) (ptr x) K h_10:=λw' d qs h8 b=>by
   refine agX b (b.vw 0 rfl) hR (hN _ (b.get 5 rfl)) (by omega) f1 f2 λt mv tv fv ps M h9 e1 e2 D=> ?_;simp only[bz,aQ,Nat.zero_add];refine D.bf 8 (cs':=[ptr r,ptr t,.pointer none,.pointer none]) rfl rfl rfl rfl rfl λh10 E=> ?_;refine Ws (i:=8) (j:=10) (k:=9) E hF hN hw (by decide) (by decide) rfl rfl rfl λcv F L' h11 l s=> ?_;refine hK x r (ptr t) cv F h11 l.ext (l.get 8 rfl) (hN _ (l.get 9 rfl)) (.inr ⟨by omega,t,rfl,agY (L:=_) l e1 e2⟩) s
  rcases @VN p.rule with ⟨e,hh⟩|⟨e,hh⟩|⟨e1,e2,hh⟩
  ·rw[hh,Option.getD_some]at hlk ⊢;refine⟨hlk (K:=λt=>t=eE qd) rfl,?_⟩;rw[C];refine aja (k:=mk) f 2 rfl hR hN (by omega) (by omega) (by omega) hd2 λw' d h8 b=> ?_;have em:jC g mk 0 (List.range g.n) (jZ g [(og p.kq g.n).1])=marksOf g p:=by
    unfold marksOf Ik;rw[if_pos e,show p.marks.toNat=mk by omega];cases p.kq<;>rfl
   rw[em]at b;exact fin w' d _ h8 b
  ·rw[hh,Option.getD_some]at hlk ⊢;refine⟨hlk (K:=λt=>t=eE rB) rfl,?_⟩;refine ajj (k:=p.marks) f 2 rfl hR hN hF.sm (by omega) (by omega) hd2 λw' d h8 b=> ?_;have em:fu g p.kq (min p.marks g.n).toNat=marksOf g p:=by
    unfold marksOf;rw[if_neg (by omega)]
   rw[em]at b;exact fin w' d _ h8 (ajk b)
  ·exact absurd hrl λh=>h.elim e1 e2
 ·refine Ws (i:=0) (j:=2) (k:=1) c hF hN hw (by decide) (by decide) rfl rfl rfl λcv fv L' h6 a s=> ?_;exact hK x r (.pointer none) cv fv h6 a.ext (a.get 0 rfl) (hN _ (a.get 1 rfl)) (.inl ⟨by omega,rfl⟩) s
end
end Go.Proofs.YthglofkkjoiepaaGreatDoor

set_option maxRecDepth 100000
namespace Go.Proofs.YthglofkkjoiepaaGreatDoor
open Go Go.Mh
theorem ajl{h:aa}{K:Exit->bM->List Nat->aa->Prop}(hk:∀e,K .normal e [] h):compile Tryz.prog 19 false (cR (Tryz.f34.body.getD .skip)) (bD (cR (Tryz.f34.body.getD .skip)) 0 []).1 [(2,.nilIface)] [] h K:=
 Eq.mpr (α:=compile Tryz.prog 19 false (cR (Tryz.f34.body.getD .skip)) (bD (cR (Tryz.f34.body.getD .skip)) 0 []).1 [(2,.nilIface)] [] h K)
  (β:=K .normal [(7,.bool false),(6,.nilIface),(2,.nilIface)] [] h) (by kernel_rfl) (hk _)
theorem Wu{v v':Value}{h:aa}{K:aa->Prop}(hk:K h):jo Tryz.prog zz #[v,v'] h K:=by
 refine⟨by kernel_rfl,λw hw=> ?_⟩;subst hw;refine callsDIn_of_wpSIn Tryz.func34 rfl trivial λc₀ cs hu=> ?_;apply wpSIn_seq;generalize hQ:bodyPostS Tryz.prog _ c₀ cs _=Q;apply wpSIn_region;simp[wpOpsSIn,go_sem,recoverD,hu,Tryz.ntmps34,Exit.thenS];have hr:∀(tm:Array Value),tm[2]? =some Value.nilIface->tm.size=19->
   Code.wpSIn Fence.wide 0 Tryz.prog (cR (Tryz.f34.body.getD .skip)) Q {tmps:=tm,defers:=[]} (c₀::cs) w:=by
  intro tm h1 hs;subst hQ;refine wpSIn_of_wpIn rfl ?_;refine jH _ _ none _ [] w.heap (λex _ m h'=>ex=.normal/\m=[]/\h'=w.heap) (ajl λe=>⟨rfl,rfl,rfl⟩) (by kernel_rfl) [] _ w _ ?_ hs rfl rfl ?_
  ·intro s v hv;unfold Mh.look at hv;split at hv
   ·rename_i hb;have :=Nat.eq_of_beq_eq_true hb;subst this;rw[h1];exact hv
   ·cases hv
  ·rintro ex e' m' a' w' hrl _ hd a _ _ ⟨rfl,rfl,hh⟩;have b:a'.defers=[]:=hd;refine⟨b,.returning,?_,.tuple #[],?_,_,rfl,rfl,a,hh▸hk⟩
   ·cases c₀;simp only at hu;subst hu;rfl
   ·have hq:fD Tryz.prog e' w'.heap Tryz.f34.results.toList (λl=>l=[]):=by
     rw[Tryz.results34];rfl
    obtain⟨l,hl,rfl⟩:=sZ hrl hq;exact om hl w' rfl
 refine hr _ ?_ ?_
 ·simp
 ·simp
theorem ajm{h:aa}{K:Exit->bM->List Nat->aa->Prop}(hk:∀e,K .normal e [] h):compile Tryz.prog 18 false (cR (Tryz.f182.body.getD .skip)) (bD (cR (Tryz.f182.body.getD .skip)) 0 []).1 [(1,.nilIface)] [] h K:=
 Eq.mpr (α:=compile Tryz.prog 18 false (cR (Tryz.f182.body.getD .skip)) (bD (cR (Tryz.f182.body.getD .skip)) 0 []).1 [(1,.nilIface)] [] h K)
  (β:=K .normal [(6,.bool false),(5,.nilIface),(1,.nilIface)] [] h) (by kernel_rfl) (hk _)
theorem ajn{v:Value}{h:aa}{K:aa->Prop}(hk:K h):jo Tryz.prog tL #[v] h K:=by
 refine⟨by kernel_rfl,λw hw=> ?_⟩;subst hw;refine callsDIn_of_wpSIn Tryz.func182 rfl trivial λc₀ cs hu=> ?_;apply wpSIn_seq;generalize hQ:bodyPostS Tryz.prog _ c₀ cs _=Q;apply wpSIn_region;simp[wpOpsSIn,go_sem,recoverD,hu,Tryz.ntmps182,Exit.thenS];have hr:∀(tm:Array Value),tm[1]? =some Value.nilIface->tm.size=18->
   Code.wpSIn Fence.wide 0 Tryz.prog (cR (Tryz.f182.body.getD .skip)) Q {tmps:=tm,defers:=[]} (c₀::cs) w:=by
  intro tm h1 hs;subst hQ;refine wpSIn_of_wpIn rfl ?_;refine jH _ _ none _ [] w.heap (λex _ m h'=>ex=.normal/\m=[]/\h'=w.heap) (ajm λe=>⟨rfl,rfl,rfl⟩) (by kernel_rfl) [] _ w _ ?_ hs rfl rfl ?_
  ·intro s v hv;unfold Mh.look at hv;split at hv
   ·rename_i hb;have :=Nat.eq_of_beq_eq_true hb;subst this;rw[h1];exact hv
   ·cases hv
  ·rintro ex e' m' a' w' hrl _ hd a _ _ ⟨rfl,rfl,hh⟩;have b:a'.defers=[]:=hd;refine⟨b,.returning,?_,.tuple #[],?_,_,rfl,rfl,a,hh▸hk⟩
   ·cases c₀;simp only at hu;subst hu;rfl
   ·have hq:fD Tryz.prog e' w'.heap Tryz.f182.results.toList (λl=>l=[]):=by
     rw[Tryz.results182];rfl
    obtain⟨l,hl,rfl⟩:=sZ hrl hq;exact om hl w' rfl
 refine hr _ ?_ ?_
 ·simp
 ·simp
open Go Go.Mh
def cE(f:Int->Option Int):Int->Option Value:=λz=>(f z).map λa=>I a
abbrev B6(x:Bool):List Value:=[.bool x]
abbrev yu(b hp lm am cm:Nat)(x:Bool)(fo fh:Value):aM:=aj b [ptr hp,I (sI x),I (if x then -1 else 1),fo,fh,.map (some lm),.map (some am),.map (some cm)] cD
abbrev dD(Q:Qs)(rs r:Nat)(va vp:Value)(b hp lm am cm:Bool->Nat)(fo fh:Bool->Value)(F:Bool->Nat->Prop)(S:BW)(ve:Value)(M:List aM):List aM:=
 aj rs [ptr r,I Q.s,I Q.t,va,vp,ptr (b false),ptr (b true),I S.aH,aN,ve,I S.meet] iD::
 yu (b false) (hp false) (lm false) (am false) (cm false) false (fo false) (fh false)::fP (F false) (hp false) (S.sd false).hp Q.g.n::dz (lm false) (cE (S.sd false).lab)::dz (am false) (cE (S.sd false).bF)::dz (cm false) (jy (S.sd false).ord)::
 yu (b true) (hp true) (lm true) (am true) (cm true) true (fo true) (fh true)::fP (F true) (hp true) (S.sd true).hp Q.g.n::dz (lm true) (cE (S.sd true).lab)::dz (am true) (cE (S.sd true).bF)::dz (cm true) (jy (S.sd true).ord)::
 aA dA 4 eO ve S.ev::M
abbrev ix(x:Bool)(k:Nat):Nat:=if x then 6+k else 1+k
section
variable{h0 h:aa}{L M:List aM}{K:KT}{Q:Qs}{rs r:Nat}{va vp ve:Value}{b hp lm am cm:Bool->Nat}{fo fh:Bool->Value}{F:Bool->Nat->Prop}{S:BW}{B:Bool->Int}
theorem Wv{v:Nat}(hQ:Q.Ok)(o:Own h0 h (dD Q rs r va vp b hp lm am cm fo fh F S ve M))(a:Vw aG 1 h0 vp Q.pi)(hv:v<Q.g.n)(hK:K (.tuple #[I (Q.p v),.bool (Q.cB v)]) h):ah Tryz.prog EX [ptr rs,I v] h K:=by
 refine aK (adI _ _ ?_);unfold Rr;simp only[bz,aQ];have HP:=a.more o.ext;refine o.load 0 rfl rfl (HP.len ?_);rw[cF];rcases hQ.pi with hn|hl
 ·rw[hn,show(((([]:List Int).length:Nat):Int)==0)=true from rfl,bq];rw[show Q.p v=0 by unfold Qs.p;rw[hn];rfl,show Q.cB v=true by unfold Qs.cB;rw[hn];rfl]at hK;exact hK
 ·have hpos:=hQ.r.pos;rw[show((Q.pi.length:Int)==0)=false from beq_eq_false_iff_ne.2 (by omega),aL];refine o.load 0 rfl rfl (HP.cV (i:=v) (by omega) ?_);have e:Q.pi[v]=Q.p v:=by unfold Qs.p;simp[List.getD_eq_getElem?_getD,show v<Q.pi.length by omega]
  rw[e];have ho:Q.cB v=(decide (-aI<Q.p v)&&decide (Q.p v<aI)):=by
   unfold Qs.cB;rw[show Q.pi.isEmpty=false by cases hp:Q.pi with|nil=>rw[hp]at hl;simp at hl;omega|cons=>rfl];rfl
  rw[ho]at hK;rw[dZ,bg];refine⟨λh1=> ?_,λh1=> ?_⟩
  ·rw[bu];rw[show decide (-aI<Q.p v)=true from decide_eq_true h1,Bool.true_and]at hK;exact hK
  ·rw[show decide (-aI<Q.p v)=false from decide_eq_false h1,Bool.false_and]at hK;exact hK
theorem B7{f:Int->Option Int}{v:Nat}{d:Int}(z:Int):cE (λw=>if w=(v:Int)then some d else f w) z=cu (cE f) v (I d) z:=by
 unfold cE cu;by_cases h:z=(v:Int)
 ·simp[h]
 ·simp[h]
theorem Ww{v:Nat}{a d:Int}(hQ:Q.Ok)(H:BI Q S B)(hB:∀x,B x<=aI)(o:Own h0 h (dD Q rs r va vp b hp lm am cm fo fh F S ve M))(f:Vw aG 1 h0 vp Q.pi)(hv:v<Q.g.n)(hd:0<=d/\d<=aI)
  (hK:∀F' h',Own h0 h' (dD Q rs r va vp b hp lm am cm fo fh F' (Q.reach S false v a d) ve M)->K (.tuple #[]) h'):
  ah Tryz.prog rE [ptr rs,ptr (b false),I v,I a,I d] h K:=by
 have l:=hQ.r.most;have q:aI=72057594037927936:=rfl;refine aK (PA _ _ _ _ _ ?_);unfold Gd;refine Wv hQ o f hv ?_;simp only[b9,bZ,bz,aQ];have stay:(S.sd false).takes Q.cB v d=false->K (.tuple #[]) h:=λht=>by
  have :Q.reach S false v a d=S:=by unfold Qs.reach;rw[ht];rfl
  rw[this]at hK;exact hK F h o
 have hlen:=(H.si false).hlen;refine o.load 1 rfl rfl (o.look 3 rfl ?_);rw[if_pos rfl];simp only[b9,bZ,bH];cases hop:Q.cB v with
 |false=>
  rw[Bool.not_false,bq];exact stay (by unfold BS.takes;rw[hop];rfl)
 | true=>
  rw[Bool.not_true,aL];refine o.load 1 rfl rfl (o.look 5 rfl ?_);rw[if_neg (by decide)];by_cases hc:v∈(S.sd false).ord
  ·rw[Bu hc];rw[Option.getD_some,dZ,show decide ((0:Int)<1)=true from rfl,bq];exact stay (by rw[Bool.eq_false_iff];exact λht=>(jV.1 ht).2.1 hc)
  ·rw [ur hc,Option.getD_none,dZ,show decide ((0:Int)<0)=false from rfl,aL];have s:=Qs.xV hop;have key:(S.sd false).takes Q.cB v d=true->ug Tryz.prog (ptr (b false)) (I v) (I d) (I a) (I (Q.p v)) (.bool (cE (S.sd false).lab (v:Int)).isSome) (ptr rs) K h:=λht=>by
    have hr:Q.reach S false v a d=Q.put S false v a d:=by unfold Qs.reach;rw[if_pos ht]
    rw[hr]at hK;unfold ug;simp only[bz,aQ];refine o.load 1 rfl rfl (o.load 1 rfl rfl ?_);refine o.zg (f':=cE ((S.sd false).put (Q.cw false) v a d).lab) 3 rfl B7 λh1 o1=> ?_;refine o1.zg (f':=cE ((S.sd false).put (Q.cw false) v a d).bF) 4 rfl B7 λh2 o2=> ?_;rw[jr,bG (by omega) (by omega)];refine o2.load 1 rfl rfl ?_;have i:∀{K:Value->Prop},K (I (Q.cw false v))->ak .mul (I (if false=true then -1 else 1)) (I (Q.p v)) K:=λhk=>by
     rw[jr];have :(if false=true then(-1:Int)else 1)*Q.p v=Q.cw false v:=by unfold Qs.cw;simp
     rw[this,bG (by unfold Qs.cw;simp;omega) (by unfold Qs.cw;simp;omega)];exact hk
    have t: -aI<Q.cw false v/\Q.cw false v<aI:=by unfold Qs.cw;simp;omega
    refine i ?_;rw[bt,bG (by omega) (by omega)];have k2:∀F' hh,Own h0 hh (dD Q rs r va vp b hp lm am cm fo fh F' {S with sd:=eH S.sd false ((S.sd false).put (Q.cw false) v a d)} ve M)->uf Tryz.prog (ptr (b false)) (ptr rs) (I v) (I d) K hh:=λF' hh o=>by
     unfold uf;simp only[bz,aQ];refine o.load 1 rfl rfl ?_;rw[eM,show IntKind.i64.wrap (1-sI false)=sI true from rfl,jq];refine⟨by decide,o.load 0 rfl rfl ?_⟩;simp only[bz,aQ];refine o.load 6 rfl rfl (o.look 8 rfl ?_);rw[if_pos rfl];simp only[b9,bZ];cases hm:(S.sd true).lab v with
     |none=>
      have hn:S.near false v d=none:=by unfold BW.near;rw[show(!false)=true from rfl,hm]
      have :cE (S.sd true).lab (v:Int)=none:=by unfold cE;rw[hm];rfl
      show az (.bool (cE (S.sd true).lab (v:Int)).isSome) _ _;rw[this,Option.isSome_none,aL];refine hK F' hh ?_;have hS:Q.put S false v a d={S with sd:=eH S.sd false ((S.sd false).put (Q.cw false) v a d)}:=by unfold Qs.put;rw[hn];rfl
      rw[hS];exact o
     | some m=>
      have hm2:cE (S.sd true).lab (v:Int)=some (I m):=by unfold cE;rw[hm];rfl
      obtain⟨_,_,_,_,m0,u,_⟩:=(H.si true).lab _ _ hm;have z:=hB true;show az (.bool (cE (S.sd true).lab (v:Int)).isSome) _ _;rw[hm2,Option.isSome_some,bq];show ak .add (I d) ((cE (S.sd true).lab (v:Int)).getD (I 0)) _;rw[hm2,Option.getD_some,bt,bG (by omega) (by omega)];refine o.load 0 rfl rfl ?_;rw[bu,bg];refine⟨λhlt=> ?_,λhge=> ?_⟩
      ·have hn:S.near false v d=some (d+m):=by unfold BW.near;rw[show(!false)=true from rfl,hm];exact if_pos hlt
       have hS:Q.put S false v a d=⟨eH S.sd false ((S.sd false).put (Q.cw false) v a d),S.ev,d+m,(v:Int)⟩:=by unfold Qs.put;rw[hn];rfl
       show ak .add (I d) ((cE (S.sd true).lab (v:Int)).getD (I 0)) _;rw[hm2,Option.getD_some,bt,bG (by omega) (by omega)];refine o.bf 0 rfl rfl rfl rfl rfl λh9 j=>j.bf 0 rfl rfl rfl rfl rfl λh10 k=>hK F' h10 ?_;rw[hS];exact k
      ·have hn:S.near false v d=none:=by unfold BW.near;rw[show(!false)=true from rfl,hm];exact if_neg hge
       have hS:Q.put S false v a d={S with sd:=eH S.sd false ((S.sd false).put (Q.cw false) v a d)}:=by unfold Qs.put;rw[hn];rfl
       refine hK F' hh ?_;rw[hS];exact o
    cases hl:(S.sd false).lab v with
    |none=>
     have hlv:cE (S.sd false).lab (v:Int)=none:=by unfold cE;rw[hl];rfl
     rw[hlv,Option.isSome_none,aL];refine o2.load 1 rfl rfl (xB o2 2 rfl (by omega) ((H.si false).Hj hl) hv λF' h5 c=> ?_);refine k2 (λy=>if y=false then F' else F y) h5 ?_;have hh:((S.sd false).put (Q.cw false) v a d).hp=((v:Int),2*d+Q.cw false v)::(S.sd false).hp:=by unfold BS.put;rw[hl]
     simp only[dD,kO,hh,show eH S.sd false ((S.sd false).put (Q.cw false) v a d) true=S.sd true from n9 (x:=false)];exact c
    |some was=>
     have hlv:cE (S.sd false).lab (v:Int)=some (I was):=by unfold cE;rw[hl];rfl
     obtain⟨_,e,_,_,_,_,hm⟩:=(H.si false).lab _ _ hl;obtain rfl:=Int.ofNat.inj e;have hm:=hm.resolve_left hc;have A:=(jV.1 ht).2.2 was hl;rw[hlv,Option.isSome_some,bq];refine o2.load 1 rfl rfl (Bt o2 2 rfl hm (by omega) λF' h5 c=> ?_);refine k2 (λy=>if y=false then F' else F y) h5 ?_;have hh:((S.sd false).put (Q.cw false) v a d).hp=((v:Int),2*d+Q.cw false v)::(S.sd false).hp.erase ((v:Int),2*was+Q.cw false v):=by unfold BS.put;rw[hl]
     simp only[dD,kO,hh,show eH S.sd false ((S.sd false).put (Q.cw false) v a d) true=S.sd true from n9 (x:=false)];exact c
   cases hl:(S.sd false).lab v with
   |none=>
    have hlv:cE (S.sd false).lab (v:Int)=none:=by unfold cE;rw[hl];rfl
    have :=key (jV.2 ⟨hop,hc,λw hw=>by rw[hl]at hw;cases hw⟩);rw[hlv]at this;show az (.bool (cE (S.sd false).lab (v:Int)).isSome) _ _;rw[hlv];exact this
   | some was=>
    have hlv:cE (S.sd false).lab (v:Int)=some (I was):=by unfold cE;rw[hl];rfl
    show az (.bool (cE (S.sd false).lab (v:Int)).isSome) _ _;rw[hlv,Option.isSome_some,bq];rw[Option.getD_some,mS,bg];refine⟨λhle=>stay ?_,λhgt=> ?_⟩
    ·rw[Bool.eq_false_iff];intro ht;have :=(jV.1 ht).2.2 was hl;omega
    ·have :=key (jV.2 ⟨hop,hc,λw hw=>by rw[hl]at hw;rw[<-Option.some.inj hw];omega⟩);rw[hlv]at this;exact this
theorem Wx{v:Nat}{a d:Int}(hQ:Q.Ok)(H:BI Q S B)(hB:∀x,B x<=aI)(o:Own h0 h (dD Q rs r va vp b hp lm am cm fo fh F S ve M))(f:Vw aG 1 h0 vp Q.pi)(hv:v<Q.g.n)(hd:0<=d/\d<=aI)
  (hK:∀F' h',Own h0 h' (dD Q rs r va vp b hp lm am cm fo fh F' (Q.reach S true v a d) ve M)->K (.tuple #[]) h'):
  ah Tryz.prog rE [ptr rs,ptr (b true),I v,I a,I d] h K:=by
 have l:=hQ.r.most;have q:aI=72057594037927936:=rfl;refine aK (PA _ _ _ _ _ ?_);unfold Gd;refine Wv hQ o f hv ?_;simp only[b9,bZ,bz,aQ];have stay:(S.sd true).takes Q.cB v d=false->K (.tuple #[]) h:=λht=>by
  have :Q.reach S true v a d=S:=by unfold Qs.reach;rw[ht];rfl
  rw[this]at hK;exact hK F h o
 have hlen:=(H.si true).hlen;refine o.load 6 rfl rfl (o.look 8 rfl ?_);rw[if_pos rfl];simp only[b9,bZ,bH];cases hop:Q.cB v with
 |false=>
  rw[Bool.not_false,bq];exact stay (by unfold BS.takes;rw[hop];rfl)
 | true=>
  rw[Bool.not_true,aL];refine o.load 6 rfl rfl (o.look 10 rfl ?_);rw[if_neg (by decide)];by_cases hc:v∈(S.sd true).ord
  ·rw[Bu hc];rw[Option.getD_some,dZ,show decide ((0:Int)<1)=true from rfl,bq];exact stay (by rw[Bool.eq_false_iff];exact λht=>(jV.1 ht).2.1 hc)
  ·rw [ur hc,Option.getD_none,dZ,show decide ((0:Int)<0)=false from rfl,aL];have s:=Qs.xV hop;have key:(S.sd true).takes Q.cB v d=true->ug Tryz.prog (ptr (b true)) (I v) (I d) (I a) (I (Q.p v)) (.bool (cE (S.sd true).lab (v:Int)).isSome) (ptr rs) K h:=λht=>by
    have hr:Q.reach S true v a d=Q.put S true v a d:=by unfold Qs.reach;rw[if_pos ht]
    rw[hr]at hK;unfold ug;simp only[bz,aQ];refine o.load 6 rfl rfl (o.load 6 rfl rfl ?_);refine o.zg (f':=cE ((S.sd true).put (Q.cw true) v a d).lab) 8 rfl B7 λh1 o1=> ?_;refine o1.zg (f':=cE ((S.sd true).put (Q.cw true) v a d).bF) 9 rfl B7 λh2 o2=> ?_;rw[jr,bG (by omega) (by omega)];refine o2.load 6 rfl rfl ?_;have i:∀{K:Value->Prop},K (I (Q.cw true v))->ak .mul (I (if true=true then -1 else 1)) (I (Q.p v)) K:=λhk=>by
     rw[jr];have :(if true=true then(-1:Int)else 1)*Q.p v=Q.cw true v:=by unfold Qs.cw;simp
     rw[this,bG (by unfold Qs.cw;simp;omega) (by unfold Qs.cw;simp;omega)];exact hk
    have t: -aI<Q.cw true v/\Q.cw true v<aI:=by unfold Qs.cw;simp;omega
    refine i ?_;rw[bt,bG (by omega) (by omega)];have k2:∀F' hh,Own h0 hh (dD Q rs r va vp b hp lm am cm fo fh F' {S with sd:=eH S.sd true ((S.sd true).put (Q.cw true) v a d)} ve M)->uf Tryz.prog (ptr (b true)) (ptr rs) (I v) (I d) K hh:=λF' hh o=>by
     unfold uf;simp only[bz,aQ];refine o.load 6 rfl rfl ?_;rw[eM,show IntKind.i64.wrap (1-sI true)=sI false from rfl,jq];refine⟨by decide,o.load 0 rfl rfl ?_⟩;simp only[bz,aQ];refine o.load 1 rfl rfl (o.look 3 rfl ?_);rw[if_pos rfl];simp only[b9,bZ];cases hm:(S.sd false).lab v with
     |none=>
      have hn:S.near true v d=none:=by unfold BW.near;rw[show(!true)=false from rfl,hm]
      have :cE (S.sd false).lab (v:Int)=none:=by unfold cE;rw[hm];rfl
      show az (.bool (cE (S.sd false).lab (v:Int)).isSome) _ _;rw[this,Option.isSome_none,aL];refine hK F' hh ?_;have hS:Q.put S true v a d={S with sd:=eH S.sd true ((S.sd true).put (Q.cw true) v a d)}:=by unfold Qs.put;rw[hn];rfl
      rw[hS];exact o
     | some m=>
      have hm2:cE (S.sd false).lab (v:Int)=some (I m):=by unfold cE;rw[hm];rfl
      obtain⟨_,_,_,_,m0,u,_⟩:=(H.si false).lab _ _ hm;have z:=hB false;show az (.bool (cE (S.sd false).lab (v:Int)).isSome) _ _;rw[hm2,Option.isSome_some,bq];show ak .add (I d) ((cE (S.sd false).lab (v:Int)).getD (I 0)) _;rw[hm2,Option.getD_some,bt,bG (by omega) (by omega)];refine o.load 0 rfl rfl ?_;rw[bu,bg];refine⟨λhlt=> ?_,λhge=> ?_⟩
      ·have hn:S.near true v d=some (d+m):=by unfold BW.near;rw[show(!true)=false from rfl,hm];exact if_pos hlt
       have hS:Q.put S true v a d=⟨eH S.sd true ((S.sd true).put (Q.cw true) v a d),S.ev,d+m,(v:Int)⟩:=by unfold Qs.put;rw[hn];rfl
       show ak .add (I d) ((cE (S.sd false).lab (v:Int)).getD (I 0)) _;rw[hm2,Option.getD_some,bt,bG (by omega) (by omega)];refine o.bf 0 rfl rfl rfl rfl rfl λh9 j=>j.bf 0 rfl rfl rfl rfl rfl λh10 k=>hK F' h10 ?_;rw[hS];exact k
      ·have hn:S.near true v d=none:=by unfold BW.near;rw[show(!true)=false from rfl,hm];exact if_neg hge
       have hS:Q.put S true v a d={S with sd:=eH S.sd true ((S.sd true).put (Q.cw true) v a d)}:=by unfold Qs.put;rw[hn];rfl
       refine hK F' hh ?_;rw[hS];exact o
    cases hl:(S.sd true).lab v with
    |none=>
     have hlv:cE (S.sd true).lab (v:Int)=none:=by unfold cE;rw[hl];rfl
     rw[hlv,Option.isSome_none,aL];refine o2.load 6 rfl rfl (xB o2 7 rfl (by omega) ((H.si true).Hj hl) hv λF' h5 c=> ?_);refine k2 (λy=>if y=true then F' else F y) h5 ?_;have hh:((S.sd true).put (Q.cw true) v a d).hp=((v:Int),2*d+Q.cw true v)::(S.sd true).hp:=by unfold BS.put;rw[hl]
     simp only[dD,kO,hh,show eH S.sd true ((S.sd true).put (Q.cw true) v a d) false=S.sd false from n9 (x:=true)];exact c
    |some was=>
     have hlv:cE (S.sd true).lab (v:Int)=some (I was):=by unfold cE;rw[hl];rfl
     obtain⟨_,e,_,_,_,_,hm⟩:=(H.si true).lab _ _ hl;obtain rfl:=Int.ofNat.inj e;have hm:=hm.resolve_left hc;have A:=(jV.1 ht).2.2 was hl;rw[hlv,Option.isSome_some,bq];refine o2.load 6 rfl rfl (Bt o2 7 rfl hm (by omega) λF' h5 c=> ?_);refine k2 (λy=>if y=true then F' else F y) h5 ?_;have hh:((S.sd true).put (Q.cw true) v a d).hp=((v:Int),2*d+Q.cw true v)::(S.sd true).hp.erase ((v:Int),2*was+Q.cw true v):=by unfold BS.put;rw[hl]
     simp only[dD,kO,hh,show eH S.sd true ((S.sd true).put (Q.cw true) v a d) false=S.sd false from n9 (x:=true)];exact c
   cases hl:(S.sd true).lab v with
   |none=>
    have hlv:cE (S.sd true).lab (v:Int)=none:=by unfold cE;rw[hl];rfl
    have :=key (jV.2 ⟨hop,hc,λw hw=>by rw[hl]at hw;cases hw⟩);rw[hlv]at this;show az (.bool (cE (S.sd true).lab (v:Int)).isSome) _ _;rw[hlv];exact this
   | some was=>
    have hlv:cE (S.sd true).lab (v:Int)=some (I was):=by unfold cE;rw[hl];rfl
    show az (.bool (cE (S.sd true).lab (v:Int)).isSome) _ _;rw[hlv,Option.isSome_some,bq];rw[Option.getD_some,mS,bg];refine⟨λhle=>stay ?_,λhgt=> ?_⟩
    ·rw[Bool.eq_false_iff];intro ht;have :=(jV.1 ht).2.2 was hl;omega
    ·have :=key (jV.2 ⟨hop,hc,λw hw=>by rw[hl]at hw;rw[<-Option.some.inj hw];omega⟩);rw[hlv]at this;exact this
theorem Wy{x:Bool}{v:Nat}{a d:Int}(hQ:Q.Ok)(H:BI Q S B)(hB:∀x,B x<=aI)(o:Own h0 h (dD Q rs r va vp b hp lm am cm fo fh F S ve M))(c:Vw aG 1 h0 vp Q.pi)(hv:v<Q.g.n)(hd:0<=d/\d<=aI)
  (hK:∀F' h',Own h0 h' (dD Q rs r va vp b hp lm am cm fo fh F' (Q.reach S x v a d) ve M)->K (.tuple #[]) h'):
  ah Tryz.prog rE [ptr rs,ptr (b x),I v,I a,I d] h K:=by
 cases x
 ·exact Ww hQ H hB o c hv hd hK
 ·exact Wx hQ H hB o c hv hd hK
end
end Go.Proofs.YthglofkkjoiepaaGreatDoor
