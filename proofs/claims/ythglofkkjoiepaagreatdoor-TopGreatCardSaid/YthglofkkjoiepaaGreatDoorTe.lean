/- Texts of the proofs of seat YthglofkkjoiepaaGreatDoor, joined: TrA, TrB, AnH, D31, F34A, F34B. They have no conditions of their own. -/
import Derived.Test.YthglofkkjoiepaaGreatDoorTa
import Derived.Test.YthglofkkjoiepaaGreatDoorMc
import Derived.Test.YthglofkkjoiepaaGreatDoorMb
import Derived.Test.YthglofkkjoiepaaGreatDoorTd
import Derived.Test.YthglofkkjoiepaaGreatDoorTc
import Derived.Test.YthglofkkjoiepaaGreatDoorTb
import Derived.Test.YthglofkkjoiepaaGreatDoorMd
set_option linter.unusedVariables false
set_option linter.unusedSimpArgs false
set_option linter.unusedSectionVars false

namespace Go.Proofs.YthglofkkjoiepaaGreatDoor
open Go Go.Mh
section
variable{h0 h hb:aa}{L:List aM}{K:KT}{g:G}{r:Nat}{e:Ev}{l:List Ev}{vl:Value}
theorem WZ {n1:Nat} (H:bJ h r g) (c:hcell h ⟨n1,0,none⟩=some (ptr r)) (hK:∀h',Ext h h'->K (.bool (jB g.n g.ag.length e)) h'):
    aS Tryz.prog (.func (.func qh) #[] #[ptr n1]) [.agg (dA e).toArray].toArray h K:=by
  refine bU (l:=[.agg (dA e).toArray,ptr n1]) rfl (acm _ _ ?_);unfold O2;refine(Own.start h).box λe2 h1 o=> ?_;rw[Hf]at o;refine gh (λy h'=>y.1=I (kM g.n g.ag.length e.kind)/\Own h h' [aj e2 (dA e) eO]) (λJ hJ=> ?_) ?_
  · simp only[aQ];refine bC rfl (lg o.ext c) (bC rfl (lg o.ext c) (o.load 0 rfl rfl ?_));have f1:∀x,x=I (kM g.n g.ag.length e.kind)->∀h',Own h h' [aj e2 (dA e) eO]->J (x,()) h':=λx hx h' o=>hJ _ _ ⟨hx,o⟩;have v1:((cu (cu (λ_=>none) 0 (I g.n)) 1 (I g.ag.length)) e.kind).getD (I 0)=I (kM g.n g.ag.length e.kind):=by
      unfold cu kM;by_cases h1:e.kind=1
      · simp[h1]
      · by_cases h0:e.kind=0
        · simp[h0]
        · simp[h1,h0]
    have v2:((cu (cu (λ_=>none) 1 (I g.ag.length)) 0 (I g.n)) e.kind).getD (I 0)=I (kM g.n g.ag.length e.kind):=by
      unfold cu kM;by_cases h1:e.kind=1
      · simp[h1]
      · by_cases h0:e.kind=0
        · simp[h0]
        · simp[h1,h0]
    repeat' (first
      |with_reducible apply And.intro
      |(with_reducible show bp _ _);refine o.mkMap λm hh o=> ?_
      |(with_reducible show dQ _ _ _ _ _ _);refine o.kE (f':=cu _ _ _) 0 rfl (λx=>rfl) λhh o=> ?_
      |(with_reducible show ah _ ct _ _ _);refine dF (H.more o.ext) ?_
      |(with_reducible show ah _ kH _ _ _);refine rQ (H.more o.ext) ?_
      |exact bC rfl (lg o.ext c) rfl
      |exact o.load 0 rfl rfl rfl
      |exact o.load 1 rfl rfl rfl
      |exact o.look 0 rfl (f1 _ v1 _ o.tail)
      |exact o.look 0 rfl (f1 _ v2 _ o.tail))
  · rintro⟨y,⟨⟩⟩ h2 ⟨hy,o⟩;dsimp only at hy ⊢;subst hy;unfold OZ;simp only[aQ];have fin:∀b:Bool,(b=true↔xP g.n g.ag.length e)->K (.bool b) h2:=λb hb=>by
      have :b=jB g.n g.ag.length e:=by
        unfold jB;rw[Bool.eq_iff_iff,decide_eq_true_eq];exact hb
      rw[this];exact hK _ o.ext
    have d:¬xP g.n g.ag.length e->K (.bool false) h2:=λhn=>fin false ⟨λh=>(by cases h),λh=>absurd h hn⟩;refine o.load 0 rfl rfl ?_;simp only[c8,bg];refine⟨λh1=>o.load 0 rfl rfl ?_,λh1=>d λh=>h1 h.1⟩;simp only[bu,bg];refine⟨λh3=>o.load 0 rfl rfl ?_,λh3=>d λh=>h3 h.2.1⟩;have tl:e.side=0\/e.side=1->(af h2 (.pointer (some ⟨e2,0,none⟩)) λt35=>ak .eql t35 (I 0) λt36=>az t36 (K (.bool true) h2) (af h2 (.pointer (some ⟨e2,0+3,none⟩)) λt39=>ak .eql t39 (I 0) λt40=>K t40 h2)):=λhs=>by
      refine o.load 0 rfl rfl ?_;rw[cF];by_cases hk:e.kind=0
      · rw[show(e.kind==0)=true by simpa using hk,bq];exact fin true ⟨λ_=>⟨h1,h3,hs,.inl hk⟩,λ_=>rfl⟩
      · rw[show(e.kind==0)=false by simpa using hk,aL];refine o.load 0 rfl rfl ?_;rw[cF];refine fin _ ?_;rw[beq_iff_eq];exact⟨λh=>⟨h1,h3,hs,Or.inr h⟩,λh=>h.2.2.2.resolve_left hk⟩
    rw[cF];by_cases h0:e.side=0
    · rw[show(e.side==0)=true by simpa using h0,bq];exact tl (.inl h0)
    · rw [show (e.side == 0) =false by simpa using h0,aL];refine o.load 0 rfl rfl ?_;rw[cF];by_cases a:e.side=1
      · rw[show(e.side==1)=true by simpa using a,bq];exact tl (.inr a)
      · rw [show (e.side == 1)=false by simpa using a,aL]
        exact d fun h => by  rcases h.2.2.1 with h|h
                             · exact h0 h
                             · exact a h
theorem aj3 {f:Value} (a:Vw dA 4 hb vl l) (d:l.length<2^40) (J:Nat->aa->Prop) (p:Nat->Bool) (b:J 0 h) (hJ:∀i h',J i h'->Ext hb h')
    (hf:∀i(hi:i<l.length) h'(K':KT),J i h'->(∀h'',Ext hb h''->(p i=false->J (i+1) h'')->K' (.bool (p i)) h'')->aS Tryz.prog f [.agg (dA l[i]).toArray].toArray h' K')
    (hK:∀r' h',Ext hb h'->Hi p l.length r'->K (I r') h'):ah Tryz.prog Ef [vl,f] h K:=by
  refine aK (acn _ _ ?_);unfold O4;refine(a.more (hJ _ _ b)).len ?_;refine cg l.length (λi x h'=>x.1=I i/\J i h'/\∀k,k<i->p k=false) ⟨rfl,b,λk hk=>by omega⟩ ?_;rintro i ⟨x,⟨⟩⟩ h' Z hi ⟨hx,hj,hp⟩ hZ;dsimp only at hx hZ ⊢;subst hx;unfold O3;simp only[bu,bg];refine⟨λhlt=> ?_,λhge=> ?_⟩
  · have hlt:i<l.length:=by omega
    refine(a.more (hJ _ _ hj)).mh n7 hlt ?_;refine hf i hlt h' _ hj λh2 c hj2=> ?_;cases hpi:p i with
    |true=>rw[bq];exact hK _ _ c (.inr ⟨i,rfl,hlt,hpi,hp⟩)
    | false=>
      rw[aL,bt,wI i (by omega)];exact hZ (I (i+1:Nat),()) h2 hlt ⟨rfl,hj2 hpi,λk hk=>by
        rcases Nat.lt_succ_iff_lt_or_eq.1 hk with h|rfl
        · exact hp k h
        · exact hpi⟩
  · have :i=l.length:=by omega
    subst this;exact hK _ _ (hJ _ _ hj) (.inl ⟨rfl,hp⟩)
theorem W0{f:Value}(a:Vw dA 4 hb vl l)(c:l.length<2^40)(J:Nat->aa->Prop)(p:Nat->Bool)(d:J 0 h)(hJ:∀i h',J i h'->Ext hb h')
    (hf:∀i(hi:i<l.length) h'(K':KT),J i h'->(∀h'',Ext hb h''->(p i=false->J (i+1) h'')->K' (.bool (p i)) h'')->aS Tryz.prog f [.agg (dA l[i]).toArray].toArray h' K')
    (hK:∀b h',Ext hb h'->(b=true↔∃k,k<l.length/\p k=true)->K (.bool b) h'):ah Tryz.prog zK [vl,f] h K:=by
  refine aK (abg _ _ ?_);unfold Ny;refine aj3 a c J p d hJ hf λr' h' x hr=> ?_;rw[c8];exact hK _ _ x hr.any
end
open Go Go.Mh
section
variable{h0 h hb:aa}{L:List aM}{K:KT}{g:G}{r:Nat}{e:Ev}{l:List Ev}{vl:Value}
def yF(f:rj->Option Value)(l:List Ev):Prop:=∀k,(k∉l.map Ev.key->f k=none)/\(k∈l.map Ev.key->∃c:Nat,f k=some (I c)/\1<=c/\c<=l.length)
theorem yF.next{f:rj->Option Value}{l:List Ev}{e:Ev}(H:yF f l):
  ∃c:Nat,(f e.key).getD (I 0)=I c/\c<=l.length/\(1<=c↔e.key∈l.map Ev.key)/\yF (KM.cu f e.key (I (c+1:Nat))) (l++ [e]):=by
 have key:∀c:Nat,c<=l.length->yF (KM.cu f e.key (I (c+1:Nat))) (l++ [e]):=λc hc k=>by
  obtain⟨h1,h2⟩:=H k;unfold KM.cu;by_cases hk:k=e.key
  ·subst hk;rw[if_pos rfl];exact⟨λh=>absurd (by simp) h,λ_=>⟨c+1,rfl,by omega,by simp;omega⟩⟩
  ·rw[if_neg hk];have :k∈(l++ [e]).map Ev.key↔k∈l.map Ev.key:=by simp[hk]
   rw[this];refine⟨h1,λh=> ?_⟩;obtain⟨c',h3,h4,h5⟩:=h2 h;exact⟨c',h3,h4,by simp;omega⟩
 obtain⟨h1,h2⟩:=H e.key;by_cases hm:e.key∈l.map Ev.key
 ·obtain⟨c,h3,h4,h5⟩:=h2 hm;exact⟨c,by rw[h3];rfl,h5,⟨λ_=>hm,λ_=>h4⟩,key c h5⟩
 ·exact⟨0,by rw[h1 hm];rfl,by omega,⟨λh=>by omega,λh=>absurd h hm⟩,key 0 (by omega)⟩
def sx(n m:Nat)(l:List Ev)(i:Nat):Bool:=match l[i]? with
 |some e=> !jB n m e||decide (e.key∈(l.take i).map Ev.key)
 |none=>false
theorem aj4{n m:Nat}{l:List Ev}:(¬∃k,k<l.length/\sx n m l k=true)↔mE n m l:=by
 constructor
 ·intro h i e he;have hi:i<l.length:=(List.getElem?_eq_some_iff.1 he).1;have :sx n m l i≠true:=λhb=>h ⟨i,hi,hb⟩;unfold sx at this;rw[he]at this;simp at this;exact⟨this.1,by simpa using this.2⟩
 ·rintro h ⟨k,hk,hb⟩;have he:l[k]? =some l[k]:=List.getElem?_eq_getElem hk;obtain⟨h1,h2⟩:=h k _ he;unfold sx at hb;rw[he]at hb;simp only[h1,Bool.not_true,Bool.false_or,decide_eq_true_eq]at hb;exact h2 hb
theorem aj5(H:bJ h r g)(y:Vw dA 4 h vl l)(z:l.length<2^40)(hK:∀b h',Ext h h'->(b=true↔mE g.n g.ag.length l)->K (.bool b) h'):ah Tryz.prog Dx [ptr r,vl] h K:=by
 refine aK (aaq _ _ ?_);unfold Mj;simp only[ef,Option.isNone_some,aL];refine aK (Nx _ ?_);unfold F4;refine(Own.start h).box λn1 h1 o1=>o1.box λv h2 o2=>o2.bf 0 (cs':=[.func (.func qh) #[] #[ptr n1]]) rfl rfl rfl rfl rfl λh3 j=> ?_;refine j.Za (Q3 3 au) λm h4 t=>t.box λw h5 a=>a.bf 0 (cs':=[.map (some m)]) rfl rfl rfl rfl rfl λh6 d=> ?_;clear a t j o2 o1;refine W0 (hb:=h) y z (λi h'=>∃f,yF f (l.take i)/\Own h h' [aj w [.map (some m)] Lp,mX (Q3 3 au) m f,aj v [.func (.func qh) #[] #[ptr n1]] wW,aj n1 [ptr r] cq])
  (sx g.n g.ag.length l) ⟨_,λk=>⟨λ_=>rfl,λh=>by simp at h⟩,d⟩ (λi h'⟨_,_,o⟩=>o.ext) ?_ ?_
 ·rintro i hi h' K' ⟨f,hc,o⟩ q;have he:l[i]? =some l[i]:=List.getElem?_eq_getElem hi;have A:l.take (i+1)=l.take i++ [l[i]]:=List.take_succ_eq_append_getElem hi;have hb:sx g.n g.ag.length l i=(!jB g.n g.ag.length l[i]||decide (l[i].key∈(l.take i).map Ev.key)):=by unfold sx;rw[he]
  rw[A]at q;rw[hb]at q;have E:(l.take i).length<2^40:=by rw[List.length_take];omega
  generalize l[i]=e at q;refine bU (l:=[.agg (dA e).toArray,ptr w,ptr v]) rfl (abh _ _ _ ?_);unfold Nz;refine o.box λe3 h1 o1=> ?_;rw[Hf]at o1;simp only[aQ];refine o1.load 0 rfl rfl (o1.load 0 rfl rfl (o1.load 0 rfl rfl ?_));refine cG (cs':=[I e.kind,I e.side,I e.id]) (λp hp=>by simp at hp;rcases hp with rfl|rfl|rfl<;>rfl) rfl rfl ?_;refine o1.box λF h2 o2=>o2.st (cs':=[I e.kind,I e.side,I e.id]) 0 rfl rfl rfl rfl rfl (by intro u hu;simp at hu;rcases hu with rfl|rfl|rfl<;>rfl) λh3 j=> ?_;refine j.load 2 rfl rfl (j.bN (cs':=[I e.kind,I e.side,I e.id]) 0 rfl rfl rfl ?_);obtain⟨c,c1,c2,c3,c4⟩:=hc.next (e:=e);refine j.Db (Q:=Q3 3 au) (k:=e.key) 3 rfl ?_;rw[if_neg (by decide),c1,bt,wI c (by omega)];refine j.Zb (Q:=Q3 3 au) (k:=e.key) 3 rfl λh4 s t hst=>⟨?_,?_⟩
  ·refine t.Db (Q:=Q3 3 au) (k:=e.key) 3 rfl ?_;rw[if_neg (by decide),<-c1];simp[KM.cu]
  ·rw[bZ];refine hst _ _ λh5 a=> ?_;refine a.load 4 rfl rfl (a.bN (cs':=dA e) 1 rfl rfl rfl ?_);have B:hcell h5 ⟨n1,0,none⟩=some (ptr r):=aY (a.get 5 rfl) rfl;refine WZ (H.more a.ext) B λh6 C=> ?_;have d:=a.more C;rw[bH];cases hmay:jB g.n g.ag.length e with
   |false=>
    rw[Bool.not_false,bq];rw[hmay]at q;exact q h6 d.ext λh=>by simp at h
   | true=>
    rw[Bool.not_true,aL];refine d.load 2 rfl rfl (d.bN (cs':=[I e.kind,I e.side,I e.id]) 0 rfl rfl rfl ?_);refine d.Db (Q:=Q3 3 au) (k:=e.key) 3 rfl ?_;rw[if_neg (by decide)];have :((KM.cu f e.key (I (c+1:Nat))) e.key).getD (I 0)=I (c+1:Nat):=by simp[KM.cu]
    rw[this,dZ];have e2:decide ((1:Int)<((c+1:Nat):Int))=(!jB g.n g.ag.length e||decide (e.key∈(l.take i).map Ev.key)):=by
     rw[hmay,Bool.not_true,Bool.false_or];exact decide_eq_decide.2 ⟨λh=>c3.1 (by omega),λh=>by have :=c3.2 h;omega⟩
    rw[e2];exact q h6 d.ext λ_=>⟨_,c4,d.bh [2,3,4,5] (by decide)⟩
 ·intro b h' x D;rw[bH];refine hK _ _ x ?_;rw[Bool.not_eq_true',<-aj4,<-D];simp
theorem aj6(H:bJ h r g)(hm:jB g.n g.ag.length e=true)(hk:e.kind≠0)(hK:∀h',Ext h h'->K (I (qu g e)) h'):ah Tryz.prog DP [ptr r,I e.id,I e.side] h K:=by
 refine aK (abj _ _ _ ?_);unfold NB;obtain⟨m1,m2,m3,m4⟩:=of_decide_eq_true hm;have c:e.kind=1:=by
  unfold kM at m2;rw[if_neg hk]at m2;by_cases h1:e.kind=1
  ·exact h1
  ·rw[if_neg h1]at m2;omega
 have hid:e.id<g.ag.length:=by
  unfold kM at m2;rw[if_neg hk,if_pos c]at m2;exact m2
 obtain⟨i,hi⟩:=Int.eq_ofNat_of_zero_le m1;have hil:i<g.ag.length:=by omega
 have ht:qu g e=if e.side=1 then(g.ag[i].t:Int)else(g.ag[i].f:Int):=by
  unfold qu;rw[hi,Int.toNat_natCast,List.getElem?_eq_getElem hil]
 rw[hi];refine nY H hil λh1 x1=> ?_;simp only[b9,bZ];have o1:=(Own.start h).more x1;refine o1.box λb h2 o2=>o2.st 0 rfl rfl rfl rfl rfl (fS _) λh3 a=> ?_;simp only[aQ];rw[cF];by_cases hs:e.side=1
 ·rw[show(e.side==1)=true by simpa using hs,bq];refine a.load 0 rfl rfl ?_;rw[if_pos hs]at ht;rw[ht]at hK;exact hK _ a.ext
 ·rw[show(e.side==1)=false by simpa using hs,aL];refine a.load 0 rfl rfl ?_;rw[if_neg hs]at ht;rw[ht]at hK;exact hK _ a.ext
def sy(g:G)(l:List Ev)(i:Nat):Bool:=match l[i]? with
 |some e=> !jB g.n g.ag.length e||decide (e.kind≠0/\iP (l.take i) e.side≠qu g e)
 |none=>false
theorem aj7{l:List Ev}:(¬∃k,k<l.length/\sy g l k=true)↔lN g l:=by
 constructor
 ·intro h i e he;have hi:i<l.length:=(List.getElem?_eq_some_iff.1 he).1;have :sy g l i≠true:=λhb=>h ⟨i,hi,hb⟩;unfold sy at this;rw[he]at this;have this:=Bool.eq_false_iff.2 this;simp only[Bool.or_eq_false_iff,Bool.not_eq_false',decide_eq_false_iff_not]at this;exact⟨this.1,λhk=>Decidable.not_not.1 λhn=>this.2 ⟨hk,hn⟩⟩
 ·rintro h ⟨k,hk,hb⟩;have he:l[k]? =some l[k]:=List.getElem?_eq_getElem hk;obtain⟨h1,h2⟩:=h k _ he;unfold sy at hb;rw[he]at hb;simp only[h1,Bool.not_true,Bool.false_or,decide_eq_true_eq]at hb;exact hb.2 (h2 hb.1)
theorem aj8(H:bJ h r g)(q:Vw dA 4 h vl l)(s:l.length<2^40)(hK:∀b h',Ext h h'->(b=true↔lN g l)->K (.bool b) h'):ah Tryz.prog Dy [ptr r,vl] h K:=by
 refine aK (aar _ _ ?_);unfold Mk;refine(Own.start h).box λn2 h1 o1=>o1.load 0 rfl rfl ?_;simp only[ef,Option.isNone_some,aL];refine o1.load 0 rfl rfl ?_;refine aK (Nx _ ?_);unfold F4;refine o1.box λn1 h2 o2=>o2.box λf h3 c=>c.bf 0 (cs':=[.func (.func qh) #[] #[ptr n1]]) rfl rfl rfl rfl rfl λh4 j=> ?_;refine cG (cs':=[I (-1),I (-1)]) (λp hp=>by simp at hp;rcases hp with rfl|rfl<;>rfl) rfl rfl ?_;refine j.box λd h5 k=>k.st (cs':=[I (-1),I (-1)]) 0 rfl rfl rfl rfl rfl (by intro u hu;simp at hu;rcases hu with rfl|rfl<;>rfl) λh6 t=> ?_;clear k j c o2 o1;refine W0 (hb:=h) q s (λi h'=>Own h h' [aj d [I (iP (l.take i) 0),I (iP (l.take i) 1)] FH,aj f [.func (.func qh) #[] #[ptr n1]] wW,aj n1 [ptr r] cq,aj n2 [ptr r] cq])
  (sy g l) t (λi h' o=>o.ext) ?_ ?_
 ·intro i hi h' K' o a;have he:l[i]? =some l[i]:=List.getElem?_eq_getElem hi;have v:l.take (i+1)=l.take i++ [l[i]]:=List.take_succ_eq_append_getElem hi;have hb:sy g l i=(!jB g.n g.ag.length l[i]||decide (l[i].kind≠0/\iP (l.take i) l[i].side≠qu g l[i])):=by unfold sy;rw[he]
  rw[v,hb,Hg,Hg]at a;generalize l[i]=e at a;generalize l.take i=lt at a o;refine bU (l:=[.agg (dA e).toArray,ptr f,ptr d,ptr n2]) rfl (abi _ _ _ _ ?_);unfold NA;refine o.box λw h1 o1=> ?_;rw[Hf]at o1;refine o1.load 2 rfl rfl (o1.bN (cs':=dA e) 0 rfl rfl rfl ?_);have y:hcell h1 ⟨n1,0,none⟩=some (ptr r):=aY (o1.get 3 rfl) rfl;refine WZ (H.more o1.ext) y λh2 z=> ?_;have o2:=o1.more z;rw[bH];cases hmay:jB g.n g.ag.length e with
  |false=>
   rw[Bool.not_false,bq];rw[hmay]at a;exact a h2 o2.ext λh=>by simp at h
  | true=>
   rw[Bool.not_true,aL];rw[hmay,Bool.not_true,Bool.false_or]at a;obtain⟨m1,m2,m3,m4⟩:=of_decide_eq_true hmay;simp only[aQ];refine o2.load 0 rfl rfl ?_;rw[cF];by_cases hk:e.kind=0
   ·rw[show(e.kind==0)=true by simpa using hk,bq];refine o2.load 0 rfl rfl (o2.load 0 rfl rfl ?_);rw[decide_eq_false (λh=>h.1 hk)]at a;rw[jq];refine⟨by omega,?_⟩;rcases m3 with hs|hs
    ·rw[hs]at a ⊢;rw[if_pos ⟨hk,rfl⟩,if_neg (by rintro⟨_,h⟩;cases h)]at a;refine o2.bf 1 (cs':=[I e.id,I (iP lt 1)]) rfl rfl rfl rfl rfl λh3 c=> ?_;exact a h3 c.ext λ_=>c.bh [1,2,3,4] (by decide)
    ·rw[hs]at a ⊢;rw[if_neg (by rintro⟨_,h⟩;cases h),if_pos ⟨hk,rfl⟩]at a;refine o2.bf 1 (cs':=[I (iP lt 0),I e.id]) rfl rfl rfl rfl rfl λh3 c=> ?_;exact a h3 c.ext λ_=>c.bh [1,2,3,4] (by decide)
   ·rw[show(e.kind==0)=false by simpa using hk,aL];refine o2.load 0 rfl rfl ?_;rw[jq];refine⟨by omega,?_⟩;have ld:∀{hh:aa}{m:Value->Prop},Own h hh [aj w (dA e) eO,aj d [I (iP lt 0),I (iP lt 1)] FH,aj f [.func (.func qh) #[] #[ptr n1]] wW,aj n1 [ptr r] cq,aj n2 [ptr r] cq]->
      m (I (iP lt e.side))->af hh (.pointer (some ⟨d,0+e.side.toNat*1,none⟩)) m:=λo hk2=>by
     rcases m3 with hs|hs
     ·rw[hs]at hk2 ⊢;exact o.load 1 rfl rfl hk2
     ·rw[hs]at hk2 ⊢;exact o.load 1 rfl rfl hk2
    refine ld o2 (o2.load 4 rfl rfl (o2.load 0 rfl rfl (o2.load 0 rfl rfl ?_)));refine aj6 (H.more o2.ext) hmay hk λh3 A=> ?_;have c:=o2.more A;refine⟨c.load 0 rfl rfl rfl,ld c rfl,?_⟩;rw[fE];have e1:(iP lt e.side != qu g e)=decide (e.kind≠0/\iP lt e.side≠qu g e):=by
     rw[Bool.eq_iff_iff,bne_iff_ne,decide_eq_true_eq];exact⟨λh=>⟨hk,h⟩,λh=>h.2⟩
    rw[e1];rw[if_neg (λh=>hk h.1),if_neg (λh=>hk h.1)]at a;exact a h3 c.ext λ_=>c.tail
 ·intro b h' x B;rw[bH];refine hK _ _ x ?_;rw[Bool.not_eq_true',<-aj7,<-B];simp
end
open Go Go.Mh
section
variable{h0 h:aa}{L T:List aM}{K:KT}{g:G}{x r s t way:Nat}{act:Int}{tv cv fv:Value}
theorem aj9(hF:jR g)(H:kz h x r g tv cv fv)(hw:way<6)(hh:gK tv cv way=true)(hs:s<g.n)(ht:t<g.n)(hK:∀h',Ext h h'->K (.bool true) h'):ah Tryz.prog Dp [ptr x,kU way s t act,I (dst g s t)] h K:=by
 have hR:=hF.toRight;have hf:aI=72057594037927936:=rfl;refine aK (Z9 _ _ _ ?_);unfold LL;refine(Own.start h).box λa h1 o=> ?_;have o:Own h h1 [aj a (fQ way s t act) eG]:=o;refine o.bN 0 rfl rfl rfl (WY hF (H.more o.ext) hw hh hs ht λcode aH wa wc f cs bI h2 o2 c1 c2 hA=> ?_);simp only[b9,bZ];have o:=o.frame o2;refine o.box λa7 h3 o=>o.st (l:=[I code,I aH,wa,wc]) (cs':=[I code,I aH,wa,wc]) 0 rfl rfl rfl rfl rfl (pJ (o.vw 1 rfl).plain c2) λh4 o=> ?_;have o:Own h h4 [aj a7 [I code,I aH,wa,wc] eB,aA aG 1 au wa (nI cs),aA dA 4 eO f bI,aj a (fQ way s t act) eG]:=o;have hd:=yA hR hs ht;simp only[bz,aQ,Nat.zero_add];have H4:=H.more o.ext;refine H4.ld rfl (aj5 H4.n (o.vw 2 rfl) hA.l λb h5 k hb=> ?_);have :b=true:=hb.2 hA.o;subst this;have o:=o.more k;rw[bH,Bool.not_true,aL];have H5:=H.more o.ext;refine H5.ld rfl (aj8 H5.n (o.vw 2 rfl) hA.l λb h6 m hb=> ?_);have :b=true:=hb.2 hA.h;subst this;have o:=o.more m;rw[bH,Bool.not_true,aL];rw[c8,bg];refine⟨λhge=> ?_,λhlt=> ?_⟩
 ·obtain⟨e1,e2⟩:=hA.bad (by omega);have e3:=hA.no (by omega);subst e1 e2 e3;refine o.load 0 rfl rfl ?_;rw[cF,beq_self_eq_true,bq];refine o.load 0 rfl rfl ?_;rw[cF,beq_self_eq_true,bq];refine o.load 0 rfl rfl ((o.vw 1 rfl).len ?_);rw[cF];exact hK _ o.ext
 ·obtain⟨e1,e2⟩:=hA.ok (by omega);obtain⟨y1,p,d⟩:=hA.yes (by omega);subst e1 e2;have e:=H.more o.ext;refine e.ld rfl (o.load 3 rfl rfl (o.load 3 rfl rfl (o.load 0 rfl rfl ?_)));have tr:=Kf (w:=0) y1;rw[Int.zero_add,p]at tr;refine aiN hR e.n (o.vw 1 rfl) (by rw[dI];exact hA.c) (λw h7 _ _ hwk x7=> ?_) λh7 hno=>absurd ⟨by omega,by omega,_,tr⟩ hno;have hwk:kG g.ag (s:Int) 0 (List.map (λ(i:Nat)=>(i:Int)) cs)=some ((t:Int),w):=hwk;rw[tr]at hwk;injection hwk with hwk;injection hwk with _ hwk;subst hwk;have o:=o.more x7;simp only[b9,bZ];refine o.load 0 rfl rfl ?_;rw[fE,bne_self_eq_false,aL];refine o.load 0 rfl rfl ?_;rw[fE,bne_self_eq_false,aL,bH,Bool.not_true,aL,fE,bne_self_eq_false,aL];refine cg bI.length (λi y h'=>y.1=I i/\h'=h7) ⟨rfl,rfl⟩ ?_;rintro i ⟨y,⟨⟩⟩ h' Z hi ⟨hy,rfl⟩ hZ;dsimp only at hy hZ ⊢;subst hy;unfold LK;refine(o.vw 2 rfl).len ?_;rw[bu,bg];refine⟨λhil=> ?_,λ_=>hK _ o.ext⟩;have hil:i<bI.length:=by omega
  have q:=hA.l;have nx:ud Tryz.prog (I i) (λa0 hz=>Z (a0,()) hz) h':=by
   unfold ud;rw[bt,wI i (by omega)];exact hZ (_,()) h' hil ⟨rfl,rfl⟩
  have he:=d;refine(o.vw 2 rfl).C5 (j:=0) (u:=I bI[i].kind) n7 hil (by decide) rfl ?_;rw[cF,iW];refine⟨λhk=> ?_,λ_=>nx⟩;simp only[aQ,Nat.zero_add];refine o.load 3 rfl rfl ?_;rw[fE,CY];refine⟨λw1=> ?_,λ_=>nx⟩;refine o.load 3 rfl rfl ?_;rw[fE,CY];refine⟨λw3=> ?_,λ_=>nx⟩;obtain⟨p1,p2⟩:=d (by unfold IG;rw[bne_iff_ne.2 (show way≠1 by omega),bne_iff_ne.2 (show way≠3 by omega)];rfl) _ (List.getElem_mem hil) hk;refine(o.vw 2 rfl).C5 (j:=3) (u:=I bI[i].label) n7 hil (by decide) rfl ?_;rw[dZ,decide_eq_false (by omega),aL];refine(o.vw 2 rfl).C5 (j:=1) (u:=I bI[i].side) n7 hil (by decide) rfl ?_;rw[p1,fE,bne_self_eq_false,aL];exact nx
end
open Go Go.Mh
section
variable{h0 h:aa}{L:List aM}{K:KT}{g:G}{r:Nat}{av pv:Value}{al:List Bool}
def uU(vx vy va:Value)(g:G):aM:=js [xR vx g.X,xR vy g.Y,aR va g.ag]
theorem W1{vx vy va:Value}{i:Nat}(o:Own h0 h L)(hi:L[i]? =some (uU vx vy va g)):nO h vx vy va g:=by
 have o1:=o.out i hi;exact⟨o1.vw 0 rfl,o1.vw 1 rfl,o1.vw 2 rfl⟩
def IJ(vb vd:Value)(mk kd cl:Int)(rl:Bool):Value:=.agg #[vb,.int .u8 mk,.bool rl,vd,.int .u8 kd,.int .u8 cl]
abbrev mL(vb vd:Value)(mk kd cl:Int)(rl:Bool):List Value:=[vb,.int .u8 mk,.bool rl,vd,.int .u8 kd,.int .u8 cl]
theorem aka{vb vd:Value}{bs:List Int}{mk kd cl:Int}{rl:Bool}(o:Own h0 h L)(H:Vw oM 1 h vb bs)
  (hK:∀(g:G) vx vy va h',jR g->(∀u∈ [I g.n,vx,vy,va],Mh.plainCell u=true)->Own h0 h' (uU vx vy va g::L)->K (.agg #[I g.n,vx,vy,va]) h'):ah Tryz.prog Dm [IJ vb vd mk kd cl rl] h K:=by
 refine aK (Z3 _ ?_);unfold LA;refine(Own.start h).box λd1 h1 o1=> ?_;have o1:Own h h1 [aj d1 (mL vb vd mk kd cl rl) kJ]:=o1;refine o1.box λt2 h2 o2=> ?_;simp only[aQ,Nat.zero_add];refine o2.load 1 rfl rfl (o2.load 1 rfl rfl ((H.more o2.ext).len ?_));have e:(if(60:Int)<bs.length then 60 else(bs.length:Int))=((min bs.length 60:Nat):Int):=by split<;>omega
 rw[oI,e];refine H.sub (a:=0) (j:=min bs.length 60) Zg rfl rfl (by omega) (by omega) λk hb=>⟨bW (by obtain⟨b,c,e⟩:=hb.mV;subst e;rfl),?_⟩;refine o2.box λd h3 m=> ?_;have p:Own h h3 (dR d k 0:: [aj t2 [I 0,aN,aN,aN] cN,aj d1 (mL vb vd mk kd cl rl) kJ]):=by obtain⟨b,c,e⟩:=hb.mV;subst e;exact m
 refine afb p hb λg vx vy va a' h4 hg f=> ?_;have hp:∀u∈ [I g.n,vx,vy,va],Mh.plainCell u=true:=by
  intro u hu;simp at hu;rcases hu with rfl|rfl|rfl|rfl
  ·rfl
  ·exact(f.vw 0 rfl).plain
  ·exact(f.vw 1 rfl).plain
  ·exact(f.vw 2 rfl).plain
 refine f.st (l:=[I g.n,vx,vy,va]) (cs':=[I g.n,vx,vy,va]) 4 rfl rfl rfl rfl rfl hp λh5 i=>i.bN 4 rfl rfl rfl ?_;have q:=i.front 6 [0,1,2] (by decide) (by decide);exact hK g vx vy va h5 hg hp (o.frame (Own.sep (l:=[_,_,_]) (L:=[]) q))
structure akb(p:iF):Prop where
 w:p.wrong=0
 d1:p.kq.length<=12
 d2:∀x∈p.kq,0<=x/\x<=4294967295
theorem akc{vb vd:Value}{ds:List Int}{mk kd cl:Int}{rl:Bool}(o:Own h0 h L)(H:Vw gw 1 h vd ds)(hr:∀x∈ds,0<=x/\x<=4294967295)(r1:0<=mk/\mk<=255)(r2:0<=kd/\kd<=255)(r3:0<=cl/\cl<=255)
  (hK:∀p dv h',akb p->(∀u∈iG p dv,Mh.plainCell u=true)->Own h0 h' (aA gw 1 gl dv p.kq::L)->K (lT p dv) h'):ah Tryz.prog Dn [IJ vb vd mk kd cl rl] h K:=by
 refine aK (Z6 _ ?_);unfold LF;refine(Own.start h).box λd1 h1 o1=> ?_;have o1:Own h h1 [aj d1 (mL vb vd mk kd cl rl) kJ]:=o1;refine o1.box λt2 h2 o2=> ?_;have o2:Own h h2 [aj t2 [I 0,I 0,aN,I 0,I 0] fG,aj d1 (mL vb vd mk kd cl rl) kJ]:=o2;have e1:mk.tmod 6=mk%6:=Int.tmod_eq_emod_of_nonneg r1.1;have e2:kd.tmod 3=kd%3:=Int.tmod_eq_emod_of_nonneg r2.1;have e3:cl.tmod 8=cl%8:=Int.tmod_eq_emod_of_nonneg r3.1;have b1:0<=mk.tmod 6/\mk.tmod 6<=5:=by omega
 have b2:0<=kd.tmod 3/\kd.tmod 3<=2:=by omega
 have b3:0<=cl.tmod 8/\cl.tmod 8<=7:=by omega
 clear e1 e2 e3;have hds:∀x∈ds.take (min ds.length 12),0<=x/\x<=4294967295:=λx hx=>hr x (List.mem_of_mem_take hx);have m:(ds.take (min ds.length 12)).length<=12:=by rw[List.length_take];omega
 have H2:=H.more o2.ext;refine gh (λy h'=>∃p3 dv,y=(ptr p3,())/\Own h h' [aj p3 [I (mk.tmod 6),I 0,dv,I (kd.tmod 3),I (1+cl.tmod 8)] fG,aA gw 1 gl dv (ds.take (min ds.length 12)),aj t2 [I 0,I 0,aN,I 0,I 0] fG,aj d1 (mL vb vd mk kd cl rl) kJ]) (λJ hJ=> ?_) ?_
 ·simp only[aQ,Nat.zero_add];refine o2.load 1 rfl rfl ?_;rw[nN];refine⟨by decide,?_⟩;rw[me,bG (by omega) (by omega)];refine o2.load 1 rfl rfl (o2.load 1 rfl rfl (H2.len ?_));have e:(if(12:Int)<ds.length then 12 else(ds.length:Int))=((min ds.length 12:Nat):Int):=by split<;>omega
  rw[oI,e];refine H2.sub (a:=0) (j:=min ds.length 12) (λ_=>rfl) rfl rfl (by omega) (by omega) λt hd=> ?_;rw[List.drop_zero,Nat.sub_zero]at hd;refine o2.load 1 rfl rfl ?_;rw[nN];refine⟨by decide,?_⟩;rw[me,bG (by omega) (by omega)];refine o2.load 1 rfl rfl ?_;rw[nN];refine⟨by decide,?_⟩;rw[me,bG (by omega) (by omega),bt,bG (by omega) (by omega)];generalize ds.take (min ds.length 12)=es at hd hds m hJ;have i:∀{dv:Value}{K':Value->Prop},dv.cells= #[dv]->K' (.agg #[I (mk.tmod 6),I 0,dv,I (kd.tmod 3),I (1+cl.tmod 8)])->aP [(.int .i64 0),(.int .i64 0),(.slice none 0 0),(.int .i64 0),(.int .i64 0)] [(0,1,I (mk.tmod 6)),(2,1,dv),(3,1,I (kd.tmod 3)),(4,1,I (1+cl.tmod 8))] K':=λ{dv K'} h1 hk=>by
   refine cG (cs':=[I (mk.tmod 6),I 0,dv,I (kd.tmod 3),I (1+cl.tmod 8)]) ?_ rfl rfl hk;intro p hp;simp at hp;rcases hp with rfl|rfl|rfl|rfl
   ·rfl
   ·exact h1
   ·rfl
   ·rfl
  have pl:∀{dv:Value},Mh.plainCell dv=true->∀u∈ [I (mk.tmod 6),I 0,dv,I (kd.tmod 3),I (1+cl.tmod 8)],Mh.plainCell u=true:=λ{dv} h1 u hu=>by
   simp at hu;rcases hu with rfl|rfl|rfl|rfl|rfl
   ·rfl
   ·rfl
   ·exact h1
   ·rfl
   ·rfl
  have ld:∀{h':aa}{k:Nat}{v:Value}{K':Value->Prop},Ext h2 h'->(mL vb vd mk kd cl rl)[k]? =some v->K' v->af h' (.pointer (some ⟨d1,k,none⟩)) K':=λx hk s=>(o2.more x).load 1 rfl hk s;refine⟨?_,?_⟩
  ·refine(Own.start h2).build (enc:=gw) (n:=1) (T:=gl) [] rfl (bW rfl) rfl λw h3 d=>⟨?_,?_⟩
   ·refine d.app (ys:=es) 0 rfl (λ_=>rfl) B5 rfl (hd.more d.ext) (by decide) (by simp;omega) λdv h4 b=>⟨ld b.ext rfl rfl,ld b.ext rfl rfl,ld b.ext rfl rfl,?_⟩;have hv:=b.vw 0 rfl;refine i hv.one (b.box λp3 h5 c=>c.st (l:=[I (mk.tmod 6),I 0,dv,I (kd.tmod 3),I (1+cl.tmod 8)]) (cs':=[I (mk.tmod 6),I 0,dv,I (kd.tmod 3),I (1+cl.tmod 8)]) 0 rfl rfl rfl rfl rfl (pl hv.plain) λh6 f=>hJ _ _ ⟨p3,dv,rfl,o2.frame f⟩)
   ·refine d.box λp3 h4 b=> ?_;refine b.app (ys:=es) 1 rfl (λ_=>rfl) B5 rfl (hd.more b.ext) (by decide) (by simp;omega) λdv h5 c=>⟨ld c.ext rfl rfl,ld c.ext rfl rfl,ld c.ext rfl rfl,?_⟩;have hv:=c.vw 1 rfl;refine i hv.one (c.st (l:=[I (mk.tmod 6),I 0,dv,I (kd.tmod 3),I (1+cl.tmod 8)]) (cs':=[I (mk.tmod 6),I 0,dv,I (kd.tmod 3),I (1+cl.tmod 8)]) 0 rfl rfl rfl rfl rfl (pl hv.plain) λh6 f=>hJ _ _ ⟨p3,dv,rfl,o2.frame f⟩)
  ·refine(Own.start h2).box λp3 h3 d=> ?_;refine d.build (enc:=gw) (n:=1) (T:=gl) [] rfl (bW rfl) rfl λw h4 b=> ?_;refine b.app (ys:=es) 0 rfl (λ_=>rfl) B5 rfl (hd.more b.ext) (by decide) (by simp;omega) λdv h5 c=>⟨ld c.ext rfl rfl,ld c.ext rfl rfl,ld c.ext rfl rfl,?_⟩;have hv:=c.vw 0 rfl;refine i hv.one (c.st (l:=[I (mk.tmod 6),I 0,dv,I (kd.tmod 3),I (1+cl.tmod 8)]) (cs':=[I (mk.tmod 6),I 0,dv,I (kd.tmod 3),I (1+cl.tmod 8)]) 1 rfl rfl rfl rfl rfl (pl hv.plain) λh6 f=>hJ _ _ ⟨p3,dv,rfl,o2.frame (f.bh [1,0] (by decide))⟩)
 ·rintro⟨y,⟨⟩⟩ h' ⟨p3,dv,e,d⟩;injection e with e _;dsimp only;subst e;unfold LD FJ;simp only[aQ,Nat.zero_add];have hv:=d.vw 1 rfl;have fin:∀(p:iF)(h2:aa),p.marks=mk.tmod 6->(p.rule=0\/p.rule=1)->p.kq=ds.take (min ds.length 12)->p.kind=kd.tmod 3->p.cells=1+cl.tmod 8->
    Own h h2 [aj p3 (iG p dv) fG,aA gw 1 gl dv (ds.take (min ds.length 12)),aj t2 [I 0,I 0,aN,I 0,I 0] fG,aj d1 (mL vb vd mk kd cl rl) kJ]->
    aZ 5 h2 (ptr p3) λt30=>aC 5 (ptr t2) t30 h2 λz h_17=>aZ 5 h_17 (ptr t2) λres=>K res h_17:=by
   intro p h2 e1 e2 e3 A B b;have q:∀u∈iG p dv,Mh.plainCell u=true:=λu hu=>by
    simp at hu;rcases hu with rfl|rfl|rfl|rfl|rfl
    ·rfl
    ·rfl
    ·exact hv.plain
    ·rfl
    ·rfl
   refine b.bN 0 rfl rfl rfl (b.st (l:=iG p dv) (cs':=iG p dv) 2 rfl rfl rfl rfl rfl q λh5 c=>c.bN 2 rfl rfl rfl ?_);have f:Own h h5 [aA gw 1 gl dv p.kq]:=by rw[e3];exact c.bh [1] (by decide)
   refine hK p dv h5 ⟨?_,by rw[e3];exact m,by rw[e3];exact hds⟩ q (o.frame f);unfold iF.wrong;rw[if_neg (by omega),if_neg (by omega),if_neg (by omega),if_neg (by omega)]
  refine d.load 3 rfl rfl ?_;cases rl with
  |true=>
   rw[bq];refine d.bf 0 (cs':=iG ⟨mk.tmod 6,1,ds.take (min ds.length 12),kd.tmod 3,1+cl.tmod 8⟩ dv) rfl rfl rfl rfl rfl λh4 b=> ?_;exact fin ⟨mk.tmod 6,1,ds.take (min ds.length 12),kd.tmod 3,1+cl.tmod 8⟩ h4 rfl (.inr rfl) rfl rfl rfl b
  |false=>
   rw[aL];exact fin ⟨mk.tmod 6,0,ds.take (min ds.length 12),kd.tmod 3,1+cl.tmod 8⟩ h' rfl (.inl rfl) rfl rfl rfl d
end
open Go Go.Mh
section
variable{h0 h:aa}{L T:List aM}{K:KT}{g:G}{p:iF}{x r s t way:Nat}{act:Int}{tv cv fv:Value}
theorem W2(hF:jR g)(hw:p.wrong=0)(hd2:∀x∈p.kq,0<=x/\x<=4294967295)(hx:h[x]? =some (.cells #[ptr r,tv,cv,fv] mA (0,0)))(hN:bJ h r g)(hT:Wr h g p tv)(hC:IA h g p cv fv):kz h x r g tv cv fv:=by
 have hR:=hF.toRight;have hpos:=hR.pos;have d:=(@BX p).1.1 hw;have hmk:=of_decide_eq_true (d 0 (by decide));refine⟨hx,hN,?_,?_⟩
 ·rcases hT with ⟨_,h⟩|⟨h1,t,h2,h3⟩
  ·exact .inl h
  ·obtain⟨_,a,b⟩:=VK (p:=p) hR hF.mid.sm hmk.1 λx hx=>(hd2 x hx).1;exact .inr ⟨t,_,h2,h3,λe=>by rw[e]at b;simp at b;omega,by omega,a⟩
 ·rcases hC with ⟨_,h1,h2⟩|⟨h1,c,b,xs,M,h2,h3,h4,h5,h6,h7⟩
  ·exact .inl ⟨h1,h2⟩
  ·have hcell:=(of_decide_eq_true (d 3 (by decide))).resolve_left h1;obtain⟨f1,f2,f3,f4⟩:=h4.facts hR hcell.1;exact .inr ⟨c,b,xs,M,h2,h3,f1,h5,by omega,λz hz=>by rw[<-f2]at hz;exact(Di (ns:=[]) hz).1,h6,h7⟩
theorem akh:2<=(mJ tv cv).length:=by
 unfold mJ gK;generalize isNil tv=a;generalize isNil cv=b;revert a b;decide
theorem aki(ht:isNil tv=false)(hc:isNil cv=false):mJ tv cv=[0,1,2,3,4,5]:=by
 unfold mJ gK;rw[ht,hc];decide
def Ci:G:=⟨3,[0,1,2],[0,0,0],[⟨0,1,2⟩,⟨1,2,3⟩,⟨0,2,6⟩]⟩
theorem Cj:jR Ci:={toRight:=⟨by decide,by decide,rfl,rfl,by decide,by decide,by decide,by decide⟩,xw:=by decide,short:=by decide}
def W3:iF:=⟨1,0,[],1,2⟩
theorem W4:dst Ci 0 2=5:=by decide+kernel
theorem IL{K:Value->Prop}(hk:K (.bool false)):bL true .iface .nilIface .nilIface K:=hk
theorem akj(hK:∀h',Ext h h'->K (.bool true) h'):ah Tryz.prog Dl [] h K:=by
 refine aK (Z0 ?_);unfold Lz;refine(Own.start h).build (enc:=aG) (n:=1) [0,1,2] rfl (bW rfl) rfl λvx h1 o=> ?_;refine o.build (enc:=aG) (n:=1) [0,0,0] rfl (bW rfl) rfl λvy h2 o=> ?_;refine cG (cs':=[I 0,I 1,I 2]) (by intro p hp;simp at hp;rcases hp with rfl|rfl|rfl<;>rfl) rfl rfl ?_;refine cG (cs':=[I 1,I 2,I 3]) (by intro p hp;simp at hp;rcases hp with rfl|rfl|rfl<;>rfl) rfl rfl ?_;refine cG (cs':=[I 0,I 2,I 6]) (by intro p hp;simp at hp;rcases hp with rfl|rfl|rfl<;>rfl) rfl rfl ?_;refine o.build (enc:=dS) (n:=3) [⟨0,1,2⟩,⟨1,2,3⟩,⟨0,2,6⟩] rfl (bW rfl) rfl λva h3 o=> ?_;have v1:=o.vw 2 rfl;have v2:=o.vw 1 rfl;have v3:=o.vw 0 rfl;refine cG (cs':=[I 3,vx,vy,va]) (by intro p hp;simp at hp;rcases hp with rfl|rfl|rfl|rfl;rfl;exact v1.one;exact v2.one;exact v3.one) rfl rfl ?_;refine o.box λg1 h4 o=>o.st (l:=[I 3,vx,vy,va]) (cs':=[I 3,vx,vy,va]) 0 rfl rfl rfl rfl rfl (by intro u hu;simp at hu;rcases hu with rfl|rfl|rfl|rfl;rfl;exact v1.plain;exact v2.plain;exact v3.plain) λh5 o=> ?_;refine o.bN 0 rfl rfl rfl ?_;refine cG (cs':=iG W3 aN) (by intro p hp;simp at hp;rcases hp with rfl|rfl|rfl<;>rfl) rfl rfl ?_;have HR:mY h5 (.agg #[I Ci.n,vx,vy,va]) Ci:=⟨vx,vy,va,rfl,o.vw 3 rfl,o.vw 2 rfl,o.vw 1 rfl⟩;refine Wt (p:=W3) Cj.mid HR (by decide) Vw.nil (by decide) (λx hx=>by cases hx) λx r tv cv fv h6 j hx hN hT hC=> ?_;have H:=W2 Cj (by decide) (λx hx=>by cases hx) hx hN hT hC;have b:isNil tv=false:=by
  rcases hT with ⟨h,_⟩|⟨_,t,rfl,_⟩
  ·exact absurd h (by decide)
  ·rfl
 have d:isNil cv=false:=by
  rcases hC with ⟨h,_⟩|⟨_,c,_,_,_,rfl,_⟩
  ·exact absurd h (by decide)
  ·rfl
 simp only[b9,bZ];refine IL ?_;rw[aL];have k:Ext h h6:=(o.more j).ext;clear o;refine WK (Own.start h6) Cj.toRight H λw h7 e=>(e.vw 0 rfl).len ?_;rw[aki b d,fE];show az (.bool false) _ _;rw[aL];refine cg 6 (λi y h'=>y.1=I i/\Ext h6 h') ⟨rfl,e.ext⟩ ?_;rintro i ⟨y,⟨⟩⟩ h8 Z hi ⟨hy,a⟩ hZ;dsimp only at hy hZ ⊢;subst hy;unfold Ly;rw[bu,bg];refine⟨λhlt=> ?_,λhge=>hK _ (k.trans a λ_ h _=>h)⟩;have hlt:i<6:=by omega
 refine cG (cs':=fQ i 0 2 0) (by intro p hp;simp at hp;rcases hp with rfl|rfl<;>rfl) rfl rfl ?_;have hh:gK tv cv i=true:=by unfold gK;rw[b,d];simp
 refine WY Cj (H.more a) hlt hh (by decide) (by decide) λcode aH wa wc m cs bI h9 f c1 c2 hA=> ?_;simp only[b9,bZ];obtain⟨e1,e2⟩:=hA.ok (by rw[W4];decide);rw[W4]at e2;subst e1 e2;refine f.box λa5 h10 o=>o.st (l:=[I 0,I 5,wa,wc]) (cs':=[I 0,I 5,wa,wc]) 0 rfl rfl rfl rfl rfl (pJ (f.vw 0 rfl).plain c2) λh11 o=> ?_;simp only[aQ,Nat.zero_add];refine o.load 0 rfl rfl ?_;rw[fE,bne_self_eq_false,aL];refine o.load 0 rfl rfl ?_;rw[fE,bne_self_eq_false,aL,bt,wI i (by omega)];exact hZ (_,()) h11 hlt ⟨rfl,a.trans o.ext λ_ h _=>h⟩
end
end Go.Proofs.YthglofkkjoiepaaGreatDoor

set_option maxRecDepth 100000
namespace Go.Proofs.YthglofkkjoiepaaGreatDoor
open Go Go.Mh
def kV(c i:Nat)(l:List A):List A:=(l.take i).map (A.wt c)++l.drop i
theorem yG{c i:Nat}{l:List A}:(kV c i l).length=l.length:=by
 unfold kV;rw[List.length_append,List.length_map,<-List.length_append,List.take_append_drop]
theorem W5{c i:Nat}{l:List A}(hi:i<l.length):(kV c i l)[i]'(by rw[yG];exact hi)=l[i]:=by
 have h:(kV c i l)[i]? =some l[i]:=by
  unfold kV;rw[List.getElem?_append_right (by rw[List.length_map,List.length_take];omega),List.length_map,List.length_take,show i-min i l.length=0 by omega,List.getElem?_drop,Nat.add_zero,List.getElem?_eq_getElem hi]
 rw[List.getElem?_eq_getElem (by rw[yG];exact hi)]at h;exact Option.some.inj h
theorem W6{c i:Nat}{l:List A}(hi:i<l.length):(kV c i l).set i (A.wt c l[i])=kV c (i+1) l:=by
 unfold kV;rw[List.set_append_right _ _ (by rw[List.length_map,List.length_take];omega),List.length_map,List.length_take,show i-min i l.length=0 by omega,List.drop_eq_getElem_cons hi,List.set_cons_zero,List.take_succ_eq_append_getElem hi,List.map_append,List.append_assoc];rfl
theorem W7{c:Nat}{l:List A}:kV c l.length l=l.map (A.wt c):=by
 unfold kV;rw[List.take_length,List.drop_length,List.append_nil]
section
variable{h0 h:aa}{L T:List aM}{K:KT}{g:G}{p:iF}{x r s t way:Nat}{act:Int}{tv cv fv:Value}
theorem W8{c:Nat}(hF:jR g)(hc:c<=2147483647):jR (g.wt c):={toRight:=IK hF.toRight hc,xw:=hF.xw,short:=by show(g.ag.map _).length<=_;rw[List.length_map];exact hF.short}
theorem akk{vb vd:Value}{bs ds:List Int}{mk kd cl e0 e1:Int}{rl:Bool}(Hb:Vw oM 1 h vb bs)(Hd:Vw gw 1 h vd ds)(hr:∀x∈ds,0<=x/\x<=4294967295)(r1:0<=mk/\mk<=255)(r2:0<=kd/\kd<=255)(r3:0<=cl/\cl<=255)(M:0<=e0/\e0<=255)(O:0<=e1/\e1<=255)
  (hK:∀h',Ext h h'->K (.bool true) h'):aE Tryz.prog Kx #[IJ vb vd mk kd cl rl,.agg #[.int .u8 e0,.int .u8 e1]] h K:=by
 have hf:aI=72057594037927936:=rfl;refine ZY _ _ ?_;unfold Lv;refine(Own.start h).box λd2 h1 o=>o.box λends h2 o=> ?_;have o:Own h h2 [aj ends [.int .u8 e0,.int .u8 e1] tU,aj d2 (mL vb vd mk kd cl rl) kJ]:=o;refine akj λh3 P=> ?_;have o:=o.more P;rw[bH,Bool.not_true,aL];refine o.bN 1 rfl rfl rfl (aka o (Hb.more o.ext) λg vx vy va h4 hF d o=> ?_);have hR:=hF.toRight;have hpos:=hR.pos;have an:=hR.most;have hshort:=hF.short;have aq:=(d vx (by simp));have au:=(d vy (by simp));refine o.box λg5 h5 o=>o.st (l:=[I g.n,vx,vy,va]) (cs':=[I g.n,vx,vy,va]) 0 rfl rfl rfl rfl rfl d λh6 o=> ?_;refine o.bN 0 rfl rfl rfl (o.box λj h7 o=>o.st (l:=[I g.n,vx,vy,va]) (cs':=[I g.n,vx,vy,va]) 0 rfl rfl rfl rfl rfl d λh8 o=> ?_);refine o.build (enc:=dS) (n:=3) [] rfl (bW rfl) rfl λw1 h9 o=> ?_;simp only[aQ,Nat.zero_add];refine o.load 2 rfl rfl ?_;have E:=(W1 (i:=3) o rfl).2.2;refine o.app 0 rfl mj fS rfl E (by decide) (by simp;omega) λw2 h10 o=> ?_;rw[List.nil_append]at o;have v2:=o.vw 0 rfl;refine o.bf 2 (cs':=[I g.n,vx,vy,w2]) rfl rfl rfl v2.one v2.plain λh11 o=> ?_;refine o.build (enc:=dS) (n:=3) [] rfl (bW rfl) rfl λw3 h12 o=> ?_;refine o.load 3 rfl rfl ?_;refine o.app 0 rfl mj fS rfl (o.vw 1 rfl) (by decide) (by simp;omega) λw4 av o=> ?_;rw[List.nil_append]at o;have v4:=o.vw 0 rfl;refine o.bf 2 (cs':=[I g.n,vx,vy,w4]) rfl rfl rfl v4.one v4.plain λQ o=> ?_;have o:Own h Q [aA dS 3 cC w4 (kV 1 0 g.ag),aA dS 3 cC w2 (kV 2147483647 0 g.ag),aj j [I g.n,vx,vy,w4] cN,aj g5 [I g.n,vx,vy,w2] cN,uU vx vy va g,aj ends [.int .u8 e0,.int .u8 e1] tU,aj d2 (mL vb vd mk kd cl rl) kJ]:=o;refine cg g.ag.length (λi y h'=>y.1=I i/\Own h h' [aA dS 3 cC w4 (kV 1 i g.ag),aA dS 3 cC w2 (kV 2147483647 i g.ag),aj j [I g.n,vx,vy,w4] cN,aj g5 [I g.n,vx,vy,w2] cN,uU vx vy va g,aj ends [.int .u8 e0,.int .u8 e1] tU,aj d2 (mL vb vd mk kd cl rl) kJ]) ⟨rfl,o⟩ ?_;clear o v2 v4 E;rintro i ⟨y,⟨⟩⟩ R Z hi ⟨hy,o⟩ hZ;dsimp only at hy hZ ⊢;subst hy;unfold Lu;simp only[aQ,Nat.zero_add];refine o.load 3 rfl rfl ((o.vw 1 rfl).len ?_);rw[yG,bu,bg];refine⟨λhlt=> ?_,λhge=> ?_⟩
 ·have hlt:i<g.ag.length:=by omega
  refine o.load 3 rfl rfl ?_;refine o.JS (f:=2) (u:=I 2147483647) (a:=A.wt 2147483647 g.ag[i]) 1 rfl mj (by rw[yG];exact hlt) (by decide) rfl rfl (by rw[W5 hlt];rfl) λS o=> ?_;rw[W6 hlt]at o;refine o.load 2 rfl rfl ?_;refine o.JS (f:=2) (u:=I 1) (a:=A.wt 1 g.ag[i]) 0 rfl mj (by rw[yG];exact hlt) (by decide) rfl rfl (by rw[W5 hlt];rfl) λF o=> ?_;rw[W6 hlt]at o;rw[bt,wI i (by omega)];exact hZ (_,()) F hlt ⟨rfl,o⟩
 ·have e:i=g.ag.length:=by omega
  subst e;rw[W7,W7]at o;have o:Own h R [aA dS 3 cC w4 (g.wt 1).ag,aA dS 3 cC w2 (g.wt 2147483647).ag,aj j [I g.n,vx,vy,w4] cN,aj g5 [I g.n,vx,vy,w2] cN,uU vx vy va g,aj ends [.int .u8 e0,.int .u8 e1] tU,aj d2 (mL vb vd mk kd cl rl) kJ]:=o;have z:jR (g.wt 1):=W8 hF (by decide);have b:jR (g.wt 2147483647):=W8 hF (by decide);have RW:∀{h':aa}{L':List aM},Own h h' (L'++ [aA dS 3 cC w4 (g.wt 1).ag,aA dS 3 cC w2 (g.wt 2147483647).ag,aj j [I g.n,vx,vy,w4] cN,aj g5 [I g.n,vx,vy,w2] cN,uU vx vy va g,aj ends [.int .u8 e0,.int .u8 e1] tU,aj d2 (mL vb vd mk kd cl rl) kJ])->
    mY h' (.agg #[I (g.wt 1).n,vx,vy,w4]) (g.wt 1)/\mY h' (.agg #[I (g.wt 2147483647).n,vx,vy,w2]) (g.wt 2147483647):=λ{h' L'} o=>by
   have hx:=W1 (i:=L'.length+4) o (sn (i:=4) rfl);exact⟨⟨vx,vy,w4,rfl,hx.1,hx.2.1,o.vw (L'.length+0) (sn (i:=0) rfl)⟩,⟨vx,vy,w2,rfl,hx.1,hx.2.1,o.vw (L'.length+1) (sn (i:=1) rfl)⟩⟩
  refine o.bN 2 rfl rfl rfl (TC o z.toRight (RW (L':=[]) o).1 λU N S hN o=> ?_);simp only[b9,bZ];refine o.bN 4 rfl rfl rfl (o.bN 7 rfl rfl rfl (akc o (Hd.more o.ext) hr r1 r2 r3 λp dv F hP ax o=> ?_));refine⟨o.bN 5 rfl rfl rfl rfl,?_⟩;have V:=o.vw 0 rfl;refine Wt (p:=p) b.mid (RW (L':=[_,_]) o).2 hP.w V (by have :=hP.d1;omega) hP.d2 λx ay tv cv fv W X hx Y hT hC=> ?_;have H:=W2 b hP.w hP.d2 hx Y hT hC;have o:=o.more X;simp only[b9,bZ];refine IL ?_;rw[aL];refine IL ?_;rw[aL,jq];refine⟨by decide,o.load 7 rfl rfl ?_⟩;rw[me,bG (by omega) (by omega)];refine o.load 5 rfl rfl ?_;rw[nN];refine⟨by omega,?_⟩;obtain⟨a0,rfl⟩:=Int.eq_ofNat_of_zero_le M.1;rw[show((a0:Int)).tmod (g.n:Int)=((a0%g.n:Nat):Int)from rfl];have hs:a0%g.n<g.n:=Nat.mod_lt _ (by omega);generalize a0%g.n=s at hs;rw[jq];refine⟨by decide,o.load 7 rfl rfl ?_⟩;rw[me,bG (by omega) (by omega)];refine o.load 5 rfl rfl ?_;rw[nN];refine⟨by omega,?_⟩;obtain⟨a1,rfl⟩:=Int.eq_ofNat_of_zero_le O.1;rw[show((a1:Int)).tmod (g.n:Int)=((a1%g.n:Nat):Int)from rfl];have ht:a1%g.n<g.n:=Nat.mod_lt _ (by omega);generalize a1%g.n=t at ht;have af:bJ W U (g.wt 1):=hN _ (o.get 1 rfl);refine xE z.toRight af λsd sa so J k=>Uy ?_;have e1:((g.wt 1).dg (s:Int))=(g.wt 1).from s:=by unfold G.dg;rw[if_pos ⟨by omega,by show(s:Int)<g.n;omega⟩];rfl
  rw[e1]at k;have T1:=(eX z.toRight (s:=s) hs).ls;have hv:=k.vw 0 rfl;have H:=H.more k.ext;have o:=o.more k.ext;refine hv.len (o.load 5 rfl rfl ?_);rw[T1.len,fE,show(((g.wt 1).n:Int) != (g.n:Int))=false from bne_self_eq_false _,aL];refine hv.cV (by rw[T1.len];exact ht) ?_;rw[gZ,bu,bg];have m:=akg (c:=2147483647) hR (by decide) (by decide) hs ht;have hfr:=(eX b.toRight (s:=s) hs).ls.iB (v:=t) ht;have az:=T1.gC (v:=t) ht;have fin:AA Tryz.prog (ptr x) (I s) (I t) K (I (dst (g.wt 2147483647) s t)) J:=by
   unfold AA;refine WK (Own.start J) b.toRight H λw ah B=> ?_;have o:=o.more B.ext;refine cg (mJ tv cv).length (λi y h'=>y.1=I i/\Ext ah h') ⟨rfl,.refl _ _⟩ ?_;rintro i ⟨y,⟨⟩⟩ aB Z hi ⟨hy,q⟩ hZ;dsimp only at hy hZ ⊢;subst hy;unfold Lt;have C:=(B.vw 0 rfl).more q;refine C.len ?_;rw[dI,bu,bg];refine⟨λhlt=> ?_,λ_=>C.len ?_⟩
   ·have hlt:i<(mJ tv cv).length:=by omega
    have hm:=List.mem_filter.1 (List.getElem_mem hlt);have h6:=List.mem_range.1 hm.1;refine C.cV (by rw[dI];exact hlt) ?_;rw[show(nI (mJ tv cv))[i]'(by rw[dI];exact hlt)=(((mJ tv cv)[i]:Nat):Int) by simp[nI]];refine cG (cs':=fQ (mJ tv cv)[i] s t 2) (by intro p hp;simp at hp;rcases hp with rfl|rfl|rfl|rfl<;>rfl) rfl rfl ?_;refine aj9 b ((H.more B.ext).more q) h6 hm.2 hs ht λai ak=> ?_;have :=List.length_filter_le (gK tv cv) (List.range 6);rw[List.length_range]at this;have aC:(mJ tv cv).length<=6:=this;rw[bH,Bool.not_true,aL,bt,wI i (by omega)];exact hZ (_,()) ai hlt ⟨rfl,q.trans ak λ_ h _=>h⟩
   ·have :=@akh tv cv;rw[dI,c8,decide_eq_true (by omega)];exact hK _ ((o.more q).ext)
  refine⟨λhlt=> ?_,λhge=> ?_⟩
  ·rw[if_pos (by omega)]at m;have D:dst (g.wt 2147483647) s t=aF ((g.wt 1).from s).aH t*2147483647:=m;rw[jr,bG (by omega) (by omega),<-D];exact fin
  ·rw[if_neg (by omega)]at m;have D:dst (g.wt 2147483647) s t=aF ((g.wt 1).from s).aH t:=m;rw[<-D];exact fin
end
end Go.Proofs.YthglofkkjoiepaaGreatDoor
