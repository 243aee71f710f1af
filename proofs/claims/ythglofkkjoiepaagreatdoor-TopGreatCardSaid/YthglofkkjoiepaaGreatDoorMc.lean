/- Texts of the proofs of seat YthglofkkjoiepaaGreatDoor, joined: Flood, Dijk, Dijk2, Turn, Bell, Tight, Moves, Trail, TightW, Cells, CellM, Wrap, All, Defer2, NumV, Split, Split2, Rev, Panic, Panic2, Que, Ev, Both, Steps, Both2, Both3, Both4, Follow, Meet, Avoid, Avoid2, Avoid3. They have no conditions of their own. -/
import Derived.Test.YthglofkkjoiepaaGreatDoorMb
import Derived.WalkKit
import Derived.ProofKit
import Derived.ReadAgain
import Derived.Handed
import Derived.RecoverIn
set_option linter.unusedVariables false
set_option linter.unusedSimpArgs false
set_option linter.unusedSectionVars false

namespace Go.Mh
open Go
abbrev HP:=Int×Int
def hl(p q:HP):Bool:=decide (p.2<q.2)||(decide (p.2=q.2)&&decide (p.1<q.1))
theorem mq{p q:HP}:hl p q=true↔p.2<q.2\/p.2=q.2/\p.1<q.1:=by simp[hl]
def least:List HP->Option HP
 | []=>none
 |p::l=>match least l with
  |none=>some p
  |some q=>if hl q p then some q else some p
theorem rq{l:List HP}:least l=none↔l=[]:=by
 cases l with
 |nil=>simp[least]
 |cons p l=>
  simp only[least];split
  ·simp
  ·split<;>simp
theorem iw:∀{l:List HP}{p:HP},least l=some p->p∈l/\∀q∈l,¬hl q p=true
 | a ::l,p,h=>by
  simp only[least]at h;split at h
  ·rename_i hn;rw[rq]at hn;subst hn;simp at h;subst h;refine⟨List.mem_cons_self,λq hq=> ?_⟩;simp at hq;subst hq;rw[mq];omega
  ·rename_i q hq;obtain⟨h1,h2⟩:=iw hq;split at h
   ·rename_i hlt;simp at h;subst h;refine⟨List.mem_cons_of_mem _ h1,λx hx=> ?_⟩;rcases List.mem_cons.1 hx with rfl|hx
    ·rw[mq]at *;omega
    ·exact h2 x hx
   ·rename_i hlt;simp at h;subst h;refine⟨List.mem_cons_self,λx hx=> ?_⟩;rcases List.mem_cons.1 hx with rfl|hx
    ·rw[mq];omega
    ·have :=h2 x hx;rw[mq]at *;omega
def lq(l:List HP)(v:Nat):Option Int:=(l.find? λp=>p.1==(v:Int)).map (·.2)
theorem pY{l:List HP}{v:Nat}:lq l v=none↔∀p∈l,p.1≠v:=by simp[lq]
theorem pZ{l:List HP}{v:Nat}{k:Int}(h:lq l v=some k):((v:Int),k)∈l:=by
 simp only[lq,Option.map_eq_some_iff]at h;obtain⟨p,hp,rfl⟩:=h;have h1:=List.find?_some hp;have h2:=List.mem_of_find?_eq_some hp;have :p.1=v:=by simpa using h1
 rw[<-this];exact h2
structure FS where
 hp:List HP
 aH:List Int
 bF:List Int
 order:List Nat
def FS.reach(s:FS)(v a:Nat)(aI:Int):FS:=
 if v∈s.order then s else match lq s.hp v with
 |some was=>if was<=aI then s else{s with hp:=((v:Int),aI)::s.hp.erase ((v:Int),was),bF:=s.bF.set v a}
 |none=>{s with hp:=((v:Int),aI)::s.hp,bF:=s.bF.set v a}
def aD(l:List A)(i:Nat):A:=l.getD i ⟨0,0,0⟩
def FS.scan(l:List A)(head:A->Nat)(key:Int)(s:FS)(ids:List Nat):FS:=
 ids.foldl (λs i=>s.reach (head (aD l i)) i (key+(aD l i).w)) s
def FS.pop(s:FS)(v:Nat)(key:Int):FS:={hp:=s.hp.erase ((v:Int),key),aH:=s.aH.set v key,bF:=s.bF,order:=s.order++ [v]}
def FS.run(l:List A)(outs:Nat->List Nat)(head:A->Nat):Nat->FS->FS
 |0,s=>s
 |k+1,s=>match least s.hp with
  |none=>s
  |some p=>FS.run l outs head k ((s.pop p.1.toNat p.2).scan l head p.2 (outs p.1.toNat))
def aI:Int:=72057594037927936
def FS.start(n s:Nat):FS:=⟨[((s:Int),0)],List.replicate n aI,List.replicate n (-1),[]⟩
structure Tr where
 aH:List Int
 bF:List Int
 order:List Nat
def FS.tree(s:FS):Tr:=⟨s.aH,s.bF,s.order⟩
def Tr.none:Tr:=⟨[],[],[]⟩
def zk(l:List A)(n:Nat)(outs:Nat->List Nat)(head:A->Nat)(s:Nat):Tr:=(FS.run l outs head (n+1) (FS.start n s)).tree
def G.from(g:G)(s:Nat):Tr:=zk g.ag g.n g.out A.t s
def G.to(g:G)(s:Nat):Tr:=zk g.ag g.n g.in A.f s
def G.dg(g:G)(s:Int):Tr:=if 0<=s/\s<g.n then g.from s.toNat else .none
def G.toI(g:G)(s:Int):Tr:=if 0<=s/\s<g.n then g.to s.toNat else .none
theorem iL:∀{n:Nat}{l:List Nat},l.Nodup->(∀x∈l,x<n)->l.length<=n
 |0,l,_,h=>by
  cases l with
  |nil=>simp
  |cons a l=>exact absurd (h a List.mem_cons_self) (by omega)
 | n+1,l,hn,h=>by
  by_cases hm:n∈l
  ·have h1:(l.erase n).Nodup:=List.Nodup.erase n hn;have h2:∀x∈l.erase n,x<n:=λx hx=>by
    have h3:=h x (List.mem_of_mem_erase hx);have h4:x≠n:=λe=>by subst e;exact(List.Nodup.mem_erase_iff hn).1 hx |>.1 rfl
    omega
   have :=iL h1 h2;rw[List.length_erase_of_mem hm]at this;omega
  ·have :=iL (n:=n) hn λx hx=>by
    have h3:=h x hx;have :x≠n:=λe=>hm (e▸hx);omega
   omega
abbrev W:Int:=2147483647
structure dW(n:Nat)(B:Int)(s:FS):Prop where
 ids:(s.hp.map (·.1)).Nodup
 cr:∀p∈s.hp,∃u:Nat,p.1=u/\u<n/\u∉s.order/\0<=p.2/\p.2<=B
 ord:s.order.Nodup
 jM:∀v∈s.order,v<n
 dl:s.aH.length=n
 al:s.bF.length=n
theorem dW.start{n s:Nat}(h:s<n):dW n 0 (FS.start n s):=by
 refine⟨by simp[FS.start],λp hp=> ?_,by simp[FS.start],by simp[FS.start],by simp[FS.start],by simp[FS.start]⟩;simp[FS.start]at hp;subst hp;exact⟨s,rfl,h,by simp[FS.start],by simp,by simp⟩
theorem dW.room{n:Nat}{B:Int}{s:FS}(H:dW n B s)(h:s.hp≠ []):s.order.length<n:=by
 obtain⟨p,hp⟩:=List.exists_mem_of_ne_nil _ h;obtain⟨u,_,hu,hno,_⟩:=H.cr p hp;have :=iL (n:=n) (l:=u::s.order) (List.nodup_cons.2 ⟨hno,H.ord⟩) (by
  intro x hx;rcases List.mem_cons.1 hx with rfl|hx
  ·exact hu
  ·exact H.jM x hx)
 simp at this;omega
theorem dW.len{n:Nat}{B:Int}{s:FS}(H:dW n B s):s.order.length<=n:=iL H.ord H.jM
theorem tn{l:List HP}{p:HP}:((l.erase p).map (·.1)).Sublist (l.map (·.1)):=List.Sublist.map _ List.erase_sublist
theorem not_mem_erase{l:List HP}(h:(l.map (·.1)).Nodup){p q:HP}(hp:p∈l)(hq:q∈l.erase p):q.1≠p.1:=by
 induction l with
 |nil=>simp at hp
 | cons a l ih=>
  simp only[List.map_cons,List.nodup_cons]at h;by_cases e:a=p
  ·subst e;rw[List.erase_cons_head]at hq;intro e;exact h.1 (e▸List.mem_map.2 ⟨q,hq,rfl⟩)
  ·have hp':p∈l:=by
    rcases List.mem_cons.1 hp with rfl|hp
    ·exact absurd rfl e
    ·exact hp
   rw[List.erase_cons_tail (by simpa using e)]at hq;rcases List.mem_cons.1 hq with rfl|hq
   ·intro e';exact h.1 (e'▸List.mem_map.2 ⟨p,hp',rfl⟩)
   ·exact ih h.2 hp' hq
theorem dW.lu{n:Nat}{B:Int}{s:FS}(H:dW n B s){v:Nat}{key:Int}(h:((v:Int),key)∈s.hp):dW n B (s.pop v key):=by
 obtain⟨u,hu,hun,hno,_,_⟩:=H.cr _ h;have hu:v=u:=by simp at hu;omega
 subst hu;refine⟨tn.nodup H.ids,λp hp=> ?_,?_,λx hx=> ?_,by simp[FS.pop,H.dl],H.al⟩
 ·obtain⟨w,h1,h2,h3,h4⟩:=H.cr p (List.mem_of_mem_erase hp);refine⟨w,h1,h2,?_,h4⟩;simp only[FS.pop,List.mem_append,List.mem_singleton];rintro(hx|rfl)
  ·exact h3 hx
  ·exact not_mem_erase H.ids h hp h1
 ·simp only[FS.pop];rw[List.nodup_append];refine⟨H.ord,by simp,λa ha b hb=> ?_⟩;simp at hb;subst hb;exact λe=>hno (e▸ha)
 ·simp only[FS.pop,List.mem_append,List.mem_singleton]at hx;rcases hx with hx|rfl
  ·exact H.jM x hx
  ·exact hun
theorem dW.mono{n:Nat}{B B':Int}{s:FS}(H:dW n B s)(h:B<=B'):dW n B' s:=
 ⟨H.ids,λp hp=>by obtain⟨u,a,b,c,d,e⟩:=H.cr p hp;exact⟨u,a,b,c,d,by omega⟩,H.ord,H.jM,H.dl,H.al⟩
theorem dW.reach{n:Nat}{B:Int}{s:FS}(H:dW n B s){v a:Nat}{d:Int}(hv:v<n)(h0:0<=d)(hB:d<=B):dW n B (s.reach v a d):=by
 unfold FS.reach;split
 ·exact H
 ·rename_i hno;split
  ·rename_i was hw;split
   ·exact H
   ·have hm:=pZ hw;refine⟨?_,λp hp=> ?_,H.ord,H.jM,H.dl,by simp[H.al]⟩
    ·simp only[List.map_cons,List.nodup_cons];refine⟨λhx=> ?_,tn.nodup H.ids⟩;obtain⟨q,hq,he⟩:=List.mem_map.1 hx;exact not_mem_erase H.ids hm hq he
    ·rcases List.mem_cons.1 hp with rfl|hp
     ·exact⟨v,rfl,hv,hno,h0,hB⟩
     ·exact H.cr p (List.mem_of_mem_erase hp)
  ·rename_i hw;rw[pY]at hw;refine⟨?_,λp hp=> ?_,H.ord,H.jM,H.dl,by simp[H.al]⟩
   ·simp only[List.map_cons,List.nodup_cons];refine⟨λhx=> ?_,H.ids⟩;obtain⟨q,hq,he⟩:=List.mem_map.1 hx;exact hw q hq he
   ·rcases List.mem_cons.1 hp with rfl|hp
    ·exact⟨v,rfl,hv,hno,h0,hB⟩
    ·exact H.cr p hp
theorem zl{s:FS}{v a:Nat}{d:Int}:(s.reach v a d).order=s.order/\(s.reach v a d).aH=s.aH:=by
 unfold FS.reach;split
 ·exact⟨rfl,rfl⟩
 ·split
  ·split<;>exact⟨rfl,rfl⟩
  ·exact⟨rfl,rfl⟩
theorem dW.scan{n:Nat}{B:Int}{l:List A}{head:A->Nat}{key:Int}(hh:∀a∈l,head a<n/\(a.w:Int)<=W)(h0:0<=key)(hB:key+W<=B):∀{ids:List Nat}{s:FS},(∀i∈ids,i<l.length)->dW n B s->dW n B (s.scan l head key ids)
 | [],s,_,H=>H
 |i::ids,s,hi,H=>by
  have hlt:=hi i List.mem_cons_self;have ha:aD l i∈l:=by simp[aD,hlt]
  obtain⟨h1,h2⟩:=hh _ ha;exact dW.scan (ids:=ids) hh h0 hB (λj hj=>hi j (List.mem_cons_of_mem _ hj)) (H.reach h1 (by omega) (by omega))
theorem De{l:List A}{head:A->Nat}{key:Int}:∀{ids:List Nat}{s:FS},(s.scan l head key ids).order=s.order/\(s.scan l head key ids).aH=s.aH
 | [],s=>⟨rfl,rfl⟩
 |i::ids,s=>by
  have :=@De l head key ids (s.reach (head (aD l i)) i (key+(aD l i).w));exact⟨this.1.trans zl.1,this.2.trans zl.2⟩
open Go
inductive Way(l:List A)(tl hd:A->Nat)(s:Nat):Nat->Int->Prop
 |nil:Way l tl hd s s 0
 |step {v:Nat} {d:Int} (a:A):Way l tl hd s v d->a∈l->tl a=v->Way l tl hd s (hd a) (d+a.w)
theorem Way.gC{l:List A}{tl hd:A->Nat}{s v:Nat}{d:Int}(h:Way l tl hd s v d):0<=d:=by
 induction h with
 |nil=>exact Int.le_refl 0
 |step a _ _ _ ih=>omega
abbrev aF(aH:List Int)(v:Nat):Int:=aH.getD v aI
structure LS(l:List A)(tl hd:A->Nat)(n s:Nat)(d:List Int):Prop where
 len:d.length=n
 zero:aF d s=0
 ag:∀a∈l,aF d (tl a)<aI->aF d (hd a)<=aF d (tl a)+a.w
 way:∀v,v<n->aF d v=aI\/(aF d v<aI/\Way l tl hd s v (aF d v))
theorem Zl{d:List Int}{v:Nat}(h:¬v<d.length):aF d v=aI:=by
 simp[aF,List.getD_eq_getElem?_getD,h]
theorem LS.mZ{l:List A}{tl hd:A->Nat}{n s:Nat}{d:List Int}(H:LS l tl hd n s d){v:Nat}{w:Int}(h:Way l tl hd s v w):w<aI->aF d v<=w:=by
 induction h with
 |nil=>intro _;rw[H.zero];exact Int.le_refl 0
 |step a hw hm ht ih=>
  intro hlt;have h1:=ih (by omega);have :=H.ag a hm (by rw[ht];omega);rw[ht]at this;omega
structure jt(l:List A)(tl hd:A->Nat)(n s:Nat)(done:List Nat)(st:FS):Prop where
 d1:∀v∈st.order,aF st.aH v<aI/\Way l tl hd s v (aF st.aH v)
 d2:∀p∈st.hp,Way l tl hd s p.1.toNat p.2
 d3:∀v∈st.order,∀p∈st.hp,aF st.aH v<=p.2
 d4:∀i∈done,tl (aD l i)∈st.order/\((hd (aD l i)∈st.order/\aF st.aH (hd (aD l i))<=aF st.aH (tl (aD l i))+(aD l i).w)\/
  ∃k,((hd (aD l i):Int),k)∈st.hp/\k<=aF st.aH (tl (aD l i))+(aD l i).w)
 d5:∀v,v∉st.order->aF st.aH v=aI
 d6:∀v,v<n->v≠s->v∉st.order->(∀p∈st.hp,p.1≠v)->st.bF.getD v (-1)= -1
 d7:∀v,v≠s->(v∈st.order\/∃k,((v:Int),k)∈st.hp)->∃i,i<l.length/\st.bF.getD v (-1)=(i:Int)/\hd (aD l i)=v/\tl (aD l i)∈st.order/\tl (aD l i)≠v/\
  (v∈st.order->aF st.aH v=aF st.aH (tl (aD l i))+(aD l i).w/\st.order.idxOf (tl (aD l i))<st.order.idxOf v)/\(∀k,((v:Int),k)∈st.hp->k=aF st.aH (tl (aD l i))+(aD l i).w)
 d8:s∈st.order\/(st.order=[]/\st.hp=[((s:Int),0)])
 d9:st.bF.getD s (-1)= -1
 d10:st.order.Pairwise λu v=>aF st.aH u<=aF st.aH v
 d11:∀v,st.order.head? =some v->v=s/\aF st.aH s=0
theorem J9{d:List Int}{v u:Nat}{k:Int}(hv:v<d.length):aF (d.set v k) u=if u=v then k else aF d u:=by
 by_cases h:u=v
 ·subst h;simp[aF,List.getD_eq_getElem?_getD,hv]
 ·simp[aF,List.getD_eq_getElem?_getD,h,List.getElem?_set_ne (λe:v=u=>h e.symm)]
theorem p8{d:List Int}{v u:Nat}{k:Int}(hv:v<d.length):(d.set v k).getD u (-1)=if u=v then k else d.getD u (-1):=by
 by_cases h:u=v
 ·subst h;simp[List.getD_eq_getElem?_getD,hv]
 ·simp[List.getD_eq_getElem?_getD,h,List.getElem?_set_ne (λe:v=u=>h e.symm)]
theorem jt.start{l:List A}{tl hd:A->Nat}{n s:Nat}(hs:s<n):jt l tl hd n s [] (FS.start n s):=by
 have hd:∀v,aF (List.replicate n aI) v=aI:=λv=>by
  by_cases h:v<n<;>simp[aF,List.getD_eq_getElem?_getD,h]
 have ha:∀v,(List.replicate n (-1:Int)).getD v (-1)= -1:=λv=>by
  by_cases h:v<n<;>simp[List.getD_eq_getElem?_getD,h]
 refine⟨by simp[FS.start],?_,by simp[FS.start],by simp,λv _=>hd v,λv _ _ _ _=>ha v,?_,.inr ⟨rfl,rfl⟩,ha s,by simp[FS.start],by simp[FS.start]⟩
 ·intro p hp;simp[FS.start]at hp;subst hp;simpa using Way.nil
 ·rintro v hv (h|⟨k,h⟩)
  ·simp[FS.start]at h
  ·simp[FS.start]at h;omega
section
variable{l:List A}{tl hd:A->Nat}{n s:Nat}{done:List Nat}{st:FS}{B:Int}
theorem jt.lu(D:jt l tl hd n s done st)(H:dW n B st){v:Nat}{key:Int}(hm:((v:Int),key)∈st.hp)(hmin:∀q∈st.hp,¬hl q ((v:Int),key)=true)(hB:B<aI):jt l tl hd n s done (st.pop v key):=by
 obtain⟨u,hu,f,hno,w,c⟩:=H.cr _ hm;have hu:u=v:=by simp at hu;omega
 subst hu;have c:key<=B:=c;have g:u<st.aH.length:=by rw[H.dl];exact f
 have e8:∀x,aF (st.aH.set u key) x=if x=u then key else aF st.aH x:=λx=>J9 g;have hold:∀x∈st.order,aF (st.aH.set u key) x=aF st.aH x:=λx hx=>by
  have hne:¬x=u:=λe=>hno (by rw[<-e];exact hx);rw[e8,if_neg hne]
 have hnew:aF (st.aH.set u key) u=key:=by rw[e8,if_pos rfl]
 have j:∀k,((u:Int),k)∈st.hp->k=key:=λk hk=>by
  by_cases e:((u:Int),k)=((u:Int),key)
  ·simpa using e
  ·have h2:((u:Int),k)∈st.hp.erase ((u:Int),key):=(List.mem_erase_of_ne e).2 hk;exact absurd rfl (not_mem_erase (p:=((u:Int),key)) (q:=((u:Int),k)) H.ids hm h2)
 have hge:∀p∈st.hp,key<=p.2:=λp hp=>by
  have :=hmin p hp;rw[mq]at this;simp only at this;omega
 simp only[FS.pop];refine⟨?_,λp hp=>D.d2 p (List.mem_of_mem_erase hp),?_,?_,?_,?_,?_,?_,D.d9,?_,?_⟩
 ·intro x hx;rcases List.mem_append.1 hx with hx|hx
  ·rw[hold x hx];exact D.d1 x hx
  ·simp at hx;subst hx;rw[hnew];have :=D.d2 _ hm;exact⟨by omega,by simpa using this⟩
 ·intro x hx p hp;have hp':=List.mem_of_mem_erase hp;rcases List.mem_append.1 hx with hx|hx
  ·rw[hold x hx];exact D.d3 x hx p hp'
  ·simp at hx;subst hx;rw[hnew];exact hge p hp'
 ·intro i hi;obtain⟨h1,h2⟩:=D.d4 i hi;refine⟨List.mem_append_left _ h1,?_⟩;rw[hold _ h1];rcases h2 with ⟨h2,h3⟩|⟨k,h2,h3⟩
  ·exact .inl ⟨List.mem_append_left _ h2,by rw[hold _ h2];exact h3⟩
  ·by_cases e:hd (aD l i)=u
   ·left;rw[e]at h2 ⊢;exact⟨by simp,by rw[hnew,<-j k h2];exact h3⟩
   ·right;refine⟨k,(List.mem_erase_of_ne (by simp;intro e';omega)).2 h2,h3⟩
 ·intro x hx;simp only[List.mem_append,List.mem_singleton,not_or]at hx;rw[e8,if_neg hx.2];exact D.d5 x hx.1
 ·intro x m hxs d o;simp only[List.mem_append,List.mem_singleton,not_or]at d;refine D.d6 x m hxs d.1 λp hp e=> ?_;refine o p ((List.mem_erase_of_ne λe'=> ?_).2 hp) e;subst e';simp at e;omega
 ·intro x hxs hx;have t:x∈st.order\/∃k,((x:Int),k)∈st.hp:=by
   rcases hx with hx|⟨k,hk⟩
   ·rcases List.mem_append.1 hx with hx|hx
    ·exact .inl hx
    ·simp at hx;subst hx;exact .inr ⟨key,hm⟩
   ·exact .inr ⟨k,List.mem_of_mem_erase hk⟩
  obtain⟨i,h1,h2,h3,h4,h5,h6,h7⟩:=D.d7 x hxs t;refine⟨i,h1,h2,h3,List.mem_append_left _ h4,h5,λhx'=> ?_,λk hk=> ?_⟩
  ·rw[hold _ h4,List.idxOf_append,List.idxOf_append,if_pos h4];rcases List.mem_append.1 hx' with hx'|hx'
   ·rw[hold _ hx',if_pos hx'];exact h6 hx'
   ·simp at hx';subst hx';rw[hnew,if_neg hno];refine⟨h7 key hm,?_⟩;have :=List.idxOf_lt_length_of_mem h4;omega
  ·rw[hold _ h4];exact h7 k (List.mem_of_mem_erase hk)
 ·rcases D.d8 with h|⟨h1,h2⟩
  ·exact .inl (List.mem_append_left _ h)
  ·left;rw[h2]at hm;simp at hm;have :u=s:=by omega
   subst this;exact List.mem_append_right _ List.mem_cons_self
 ·rw[List.pairwise_append];refine⟨?_,by simp,?_⟩
  ·refine D.d10.imp_of_mem λ{a b} ha hb hab=> ?_;rw[hold a ha,hold b hb];exact hab
  ·intro a ha b hb;simp at hb;subst hb;rw[hold a ha,hnew];exact D.d3 a ha _ hm
 ·intro x hx;cases ho:st.order with
  | nil=>
   rw[ho]at hx;simp at hx;rcases D.d8 with h|⟨h1,h2⟩
   ·rw[ho]at h;cases h
   ·rw[h2]at hm;simp at hm;have :x=s:=by omega
    subst this;refine⟨rfl,?_⟩;have e:x=u:=by omega
    rw[e,hnew];exact hm.2
  |cons a r=>
   have :=D.d11 a (by rw[ho];rfl);rw[ho]at hx;simp at hx;subst hx;refine⟨this.1,?_⟩;have hs:s∈st.order:=by rw[ho,<-this.1];simp
   rw[hold _ hs];exact this.2
theorem jt.oN (D:jt l tl hd n s done st) (H:dW n B st) {i:Nat} (hi:i<l.length) (ht:tl (aD l i)∈st.order) (hh:hd (aD l i)<n)
  (c:∀x∈st.order,aF st.aH x<=aF st.aH (tl (aD l i))):
  jt l tl hd n s (done++ [i]) (st.reach (hd (aD l i)) i (aF st.aH (tl (aD l i))+(aD l i).w)):=by
 have ha:aD l i∈l:=by simp[aD,hi]
 generalize hv:hd (aD l i)=v at hh;generalize hd':aF st.aH (tl (aD l i))+((aD l i).w:Int)=d;have o:Way l tl hd s v d:=by
  rw[<-hv,<-hd'];exact .step _ (D.d1 _ ht).2 ha rfl
 have hs:s∈st.order:=by
  rcases D.d8 with h|⟨h1,h2⟩
  ·exact h
  ·rw[h1]at ht;cases ht
 unfold FS.reach;split
 ·rename_i a;refine⟨D.d1,D.d2,D.d3,?_,D.d5,D.d6,D.d7,D.d8,D.d9,D.d10,D.d11⟩;intro j hj;rcases List.mem_append.1 hj with hj|hj
  ·exact D.d4 j hj
  ·simp at hj;subst hj;refine⟨ht,.inl ⟨by rw[hv];exact a,?_⟩⟩;have :=c v a;rw[hv];omega
 ·rename_i a;have hvs:v≠s:=λe=>a (e▸hs);have r:tl (aD l i)≠v:=λe=>a (e▸ht);have al:v<st.bF.length:=by rw[H.al];exact hh
  split
  ·rename_i was hw;have hm:=pZ hw;have t:∀k,((v:Int),k)∈st.hp->k=was:=λk hk=>by
    by_cases e:((v:Int),k)=((v:Int),was)
    ·simpa using e
    ·have h2:((v:Int),k)∈st.hp.erase ((v:Int),was):=(List.mem_erase_of_ne e).2 hk;exact absurd rfl (not_mem_erase (p:=((v:Int),was)) (q:=((v:Int),k)) H.ids hm h2)
   split
   ·rename_i hle;refine⟨D.d1,D.d2,D.d3,?_,D.d5,D.d6,D.d7,D.d8,D.d9,D.d10,D.d11⟩;intro j hj;rcases List.mem_append.1 hj with hj|hj
    ·exact D.d4 j hj
    ·simp at hj;subst hj;exact⟨ht,.inr ⟨was,by rw[hv];exact hm,by omega⟩⟩
   ·rename_i hgt;have hmem:∀p,p∈((v:Int),d)::st.hp.erase ((v:Int),was)->p=((v:Int),d)\/(p∈st.hp/\p.1≠v):=λp hp=>by
     rcases List.mem_cons.1 hp with rfl|hp
     ·exact .inl rfl
     ·exact .inr ⟨List.mem_of_mem_erase hp,not_mem_erase H.ids hm hp⟩
    have hkeep:∀p∈st.hp,p.1≠v->p∈((v:Int),d)::st.hp.erase ((v:Int),was):=λp hp hne=>
     List.mem_cons_of_mem _ ((List.mem_erase_of_ne λe=>hne (by rw[e])).2 hp)
    refine⟨D.d1,?_,?_,?_,D.d5,?_,?_,.inl hs,?_,D.d10,D.d11⟩
    ·intro p hp;rcases hmem p hp with rfl|⟨hp,_⟩
     ·simpa using o
     ·exact D.d2 p hp
    ·intro x hx p hp;rcases hmem p hp with rfl|⟨hp,_⟩
     ·have :=c x hx;show aF st.aH x<=d;omega
     ·exact D.d3 x hx p hp
    ·intro j hj;rcases List.mem_append.1 hj with hj|hj
     ·obtain⟨h1,h2⟩:=D.d4 j hj;refine⟨h1,?_⟩;rcases h2 with h2|⟨k,h2,h3⟩
      ·exact .inl h2
      ·by_cases e:hd (aD l j)=v
       ·rw[e]at h2 ⊢;have :=t k h2;refine .inr ⟨d,List.mem_cons_self,?_⟩;show d<=aF st.aH (tl (aD l j))+_;omega
       ·exact .inr ⟨k,hkeep _ h2 (by simpa using λe'=>e (by omega)),h3⟩
     ·simp at hj;subst hj;exact⟨ht,.inr ⟨d,by rw[hv];exact List.mem_cons_self,Int.le_of_eq hd'.symm⟩⟩
    ·intro x f hxs g b;have hne:x≠v:=λe=>b _ List.mem_cons_self (by simp[e]);rw[p8 al,if_neg hne];refine D.d6 x f hxs g λp hp e=> ?_;exact b p (hkeep p hp (by rw[e];omega)) e
    ·intro x hxs hx;by_cases e:x=v
     ·subst e;refine⟨i,hi,by rw[p8 al,if_pos rfl],hv,ht,r,λhx'=>absurd hx' a,λk hk=> ?_⟩;rcases hmem _ hk with h|⟨_,h⟩
      ·simp at h;exact h.trans hd'.symm
      ·exact absurd rfl h
     ·have m:x∈st.order\/∃k,((x:Int),k)∈st.hp:=by
       rcases hx with hx|⟨k,hk⟩
       ·exact .inl hx
       ·rcases hmem _ hk with h|⟨h,_⟩
        ·simp at h;omega
        ·exact .inr ⟨k,h⟩
      obtain⟨j,h1,h2,h3,h4,h5,h6,h7⟩:=D.d7 x hxs m;refine⟨j,h1,by rw[p8 al,if_neg e];exact h2,h3,h4,h5,h6,λk hk=> ?_⟩;rcases hmem _ hk with h|⟨h,_⟩
      ·simp at h;omega
      ·exact h7 k h
    ·rw[p8 al,if_neg (λe=>hvs e.symm)];exact D.d9
  ·rename_i hw;rw[pY]at hw;have hmem:∀p,p∈((v:Int),d)::st.hp->p=((v:Int),d)\/(p∈st.hp/\p.1≠v):=λp hp=>by
    rcases List.mem_cons.1 hp with rfl|hp
    ·exact .inl rfl
    ·exact .inr ⟨hp,hw p hp⟩
   refine⟨D.d1,?_,?_,?_,D.d5,?_,?_,.inl hs,?_,D.d10,D.d11⟩
   ·intro p hp;rcases hmem p hp with rfl|⟨hp,_⟩
    ·simpa using o
    ·exact D.d2 p hp
   ·intro x hx p hp;rcases hmem p hp with rfl|⟨hp,_⟩
    ·have :=c x hx;show aF st.aH x<=d;omega
    ·exact D.d3 x hx p hp
   ·intro j hj;rcases List.mem_append.1 hj with hj|hj
    ·obtain⟨h1,h2⟩:=D.d4 j hj;refine⟨h1,?_⟩;rcases h2 with h2|⟨k,h2,h3⟩
     ·exact .inl h2
     ·exact .inr ⟨k,List.mem_cons_of_mem _ h2,h3⟩
    ·simp at hj;subst hj;exact⟨ht,.inr ⟨d,by rw[hv];exact List.mem_cons_self,Int.le_of_eq hd'.symm⟩⟩
   ·intro x f hxs g b;have hne:x≠v:=λe=>b _ List.mem_cons_self (by simp[e]);rw[p8 al,if_neg hne];exact D.d6 x f hxs g λp hp e=>b p (List.mem_cons_of_mem _ hp) e
   ·intro x hxs hx;by_cases e:x=v
    ·subst e;refine⟨i,hi,by rw[p8 al,if_pos rfl],hv,ht,r,λhx'=>absurd hx' a,λk hk=> ?_⟩;rcases hmem _ hk with h|⟨_,h⟩
     ·simp at h;exact h.trans hd'.symm
     ·exact absurd rfl h
    ·have m:x∈st.order\/∃k,((x:Int),k)∈st.hp:=by
      rcases hx with hx|⟨k,hk⟩
      ·exact .inl hx
      ·rcases hmem _ hk with h|⟨h,_⟩
       ·simp at h;omega
       ·exact .inr ⟨k,h⟩
     obtain⟨j,h1,h2,h3,h4,h5,h6,h7⟩:=D.d7 x hxs m;refine⟨j,h1,by rw[p8 al,if_neg e];exact h2,h3,h4,h5,h6,λk hk=> ?_⟩;rcases hmem _ hk with h|⟨h,_⟩
     ·simp at h;omega
     ·exact h7 k h
   ·rw[p8 al,if_neg (λe=>hvs e.symm)];exact D.d9
end
open Go
section
variable{l:List A}{tl hd:A->Nat}{n s:Nat}{B:Int}{outs:Nat->List Nat}
theorem jt.Ka{v:Nat}{key:Int}(hB:key+W<=B)(h0:0<=key)(hh:∀a∈l,hd a<n/\(a.w:Int)<=W):
  ∀(ids:List Nat){done:List Nat}{st:FS},jt l tl hd n s done st->dW n B st->v∈st.order->aF st.aH v=key->(∀x∈st.order,aF st.aH x<=key)->(∀i∈ids,i<l.length/\tl (aD l i)=v)->
   jt l tl hd n s (done++ids) (st.scan l hd key ids)
 | [],done,st,D,_,_,_,_,_=>by rw[List.append_nil];exact D
 |i::ids,done,st,D,H,hv,hk,b,hi=>by
  obtain⟨h1,h2⟩:=hi i List.mem_cons_self;have ha:aD l i∈l:=by simp[aD,h1]
  have h3:=hh _ ha;have c:=D.oN H h1 (by rw[h2];exact hv) h3.1 (by rw[h2,hk];exact b);rw[h2,hk]at c;have H1:dW n B (st.reach (hd (aD l i)) i (key+(aD l i).w)):=H.reach h3.1 (by omega) (by omega);have ho:=@zl st (hd (aD l i)) i (key+(aD l i).w);have :=jt.Ka hB h0 hh ids c H1 (by rw[ho.1];exact hv) (by rw[ho.2];exact hk) (by rw[ho.1,ho.2];exact b) λj hj=>hi j (List.mem_cons_of_mem _ hj);rw[List.append_assoc]at this;exact this
theorem jt.Zm(hn:n<=16777216)(hh:∀a∈l,hd a<n/\(a.w:Int)<=W)(hout:∀v,v<n->∀i∈outs v,i<l.length/\tl (aD l i)=v):
  ∀(k:Nat){done:List Nat}{st:FS},jt l tl hd n s done st->dW n (st.order.length*W) st->n+1<=k+st.order.length->(∀u∈st.order,∀i∈outs u,i∈done)->
   ∃done',jt l tl hd n s done' (FS.run l outs hd k st)/\dW n (n*W) (FS.run l outs hd k st)/\(FS.run l outs hd k st).hp=[]/\(∀u∈(FS.run l outs hd k st).order,∀i∈outs u,i∈done'):=by
 intro k
 induction k with
 |zero=>intro done st D H hk hd';have :=H.len;omega
 | succ k ih=>
  intro done st D H hk hd';have hW:(0:Int)<=W:=by decide
  have hmul:(st.order.length:Int)*W<=n*W:=Int.mul_le_mul_of_nonneg_right (by have :=H.len;omega) hW;simp only[FS.run];cases hl:least st.hp with
  |none=>
   exact⟨done,D,H.mono hmul,rq.1 hl,hd'⟩
  | some p=>
   have hm:=(iw hl).1;obtain⟨u,hu,hun,hno,b,g⟩:=H.cr p hm;obtain⟨pv,key⟩:=p;dsimp only at hu b g ⊢;subst hu;have hroom:=H.room (by intro e;rw[e]at hm;cases hm);have r:(16777216:Int)*W<aI:=by decide
   have h:(st.order.length:Int)<=16777216:=by omega
   have t:(st.order.length:Int)*W<=16777216*W:=Int.mul_le_mul_of_nonneg_right h hW;have d:=D.lu H hm (iw hl).2 (by omega);have H1:dW n (st.order.length*W+W) (st.pop u key):=(H.lu hm).mono (by omega);have c:aF (st.pop u key).aH u=key:=by
    simp only[FS.pop];rw[J9 (by rw[H.dl];exact hun),if_pos rfl]
   have hmem:u∈(st.pop u key).order:=by simp[FS.pop]
   have j:∀x∈(st.pop u key).order,aF (st.pop u key).aH x<=key:=by
    intro x hx;have :=d.d10;simp only[FS.pop]at this hx;rcases List.mem_append.1 hx with hx|hx
    ·have :=(List.pairwise_append.1 this).2.2 x hx u (by simp);exact Int.le_trans this (Int.le_of_eq c)
    ·simp at hx;subst hx;rw[c];exact Int.le_refl _
   simp only[Int.toNat_natCast];have m:=d.Ka (B:=st.order.length*W+W) (v:=u) (key:=key) (by omega) b hh (outs u) H1 hmem c j (hout u hun);have H2:dW n (st.order.length*W+W) ((st.pop u key).scan l hd key (outs u)):=dW.scan hh b (by omega) (λi hi=>(hout u hun i hi).1) H1;have f:=@De l hd key (outs u) (st.pop u key);have o:((st.pop u key).scan l hd key (outs u)).order.length=st.order.length+1:=by rw[f.1];simp[FS.pop]
   have q:((((st.pop u key).scan l hd key (outs u)).order.length:Nat):Int)*W=st.order.length*W+W:=by
    rw[o,Int.natCast_add,Int.add_mul];rfl
   refine ih m (by rw[q];exact H2) (by omega) ?_;intro x hx i hi;rw[f.1]at hx;simp only[FS.pop]at hx;rcases List.mem_append.1 hx with hx|hx
   ·exact List.mem_append_left _ (hd' x hx i hi)
   ·simp at hx;subst hx;exact List.mem_append_right _ hi
structure lz(l:List A)(tl hd:A->Nat)(n s:Nat)(t:Tr):Prop where
 ls:LS l tl hd n s t.aH
 al:t.bF.length=n
 nodup:t.order.Nodup
 range:∀v∈t.order,v<n
 oN:∀v,v<n->(v∈t.order↔aF t.aH v<aI)
 first :t.order.head? =some s
 root:t.bF.getD s (-1)= -1
 none:∀v,v<n->v∉t.order->aF t.aH v=aI/\t.bF.getD v (-1)= -1
 bF:∀v∈t.order,v≠s->∃i,i<l.length/\t.bF.getD v (-1)=(i:Int)/\hd (aD l i)=v/\tl (aD l i)∈t.order/\aF t.aH v=aF t.aH (tl (aD l i))+(aD l i).w/\t.order.idxOf (tl (aD l i))<t.order.idxOf v
 rising:t.order.Pairwise λu v=>aF t.aH u<=aF t.aH v
 bound:∀v∈t.order,0<=aF t.aH v
theorem Kb(hs:s<n)(hn:n<=16777216)(hh:∀a∈l,hd a<n/\(a.w:Int)<=W)(hout:∀v,v<n->∀i∈outs v,i<l.length/\tl (aD l i)=v)(g:∀i,i<l.length->i∈outs (tl (aD l i))):
  lz l tl hd n s (zk l n outs hd s):=by
 obtain⟨done,D,H,b,j⟩:=jt.Zm (s:=s) (tl:=tl) (outs:=outs) hn hh hout (n+1) (jt.start hs) ((dW.start hs).mono (by simp[FS.start])) (by omega) (by simp[FS.start]);have d:∀v,v∈(FS.run l outs hd (n+1) (FS.start n s)).order↔aF (FS.run l outs hd (n+1) (FS.start n s)).aH v<aI:=λv=>
  ⟨λh=>(D.d1 v h).1,λh=>by
   by_cases hx:v∈(FS.run l outs hd (n+1) (FS.start n s)).order
   ·exact hx
   ·have :=D.d5 v hx;omega⟩
 have c:s∈(FS.run l outs hd (n+1) (FS.start n s)).order:=by
  rcases D.d8 with h|⟨_,h⟩
  ·exact h
  ·rw[b]at h;cases h
 have f:(FS.run l outs hd (n+1) (FS.start n s)).order.head?=some s:=by
  cases ho:(FS.run l outs hd (n+1) (FS.start n s)).order with
  |nil=>rw[ho]at c;cases c
  |cons a r=>rw[List.head?_cons,(D.d11 a (by rw[ho];rfl)).1]
 refine⟨⟨H.dl,(D.d11 s f).2,?_,?_⟩,H.al,H.ord,H.jM,λv _=>d v,f,D.d9,?_,?_,D.d10,λv hv=>(D.d1 v hv).2.gC⟩
 ·intro a ha hlt;obtain⟨i,hi,rfl⟩:=List.mem_iff_getElem.1 ha;have e:aD l i=l[i]:=by simp[aD,hi]
  have h1:=(d (tl l[i])).2 hlt;have h2:=j _ h1 i (by rw[<-e];exact g i hi);have h3:=(D.d4 i h2).2;rw[e]at h3;rcases h3 with ⟨_,h⟩|⟨k,h,_⟩
  ·exact h
  ·rw[b]at h;cases h
 ·intro v hv;by_cases hx:v∈(FS.run l outs hd (n+1) (FS.start n s)).order
  ·exact .inr (D.d1 v hx)
  ·exact .inl (D.d5 v hx)
 ·intro v hv hx;refine⟨D.d5 v hx,D.d6 v hv (λe=>hx (e▸c)) hx λp hp=> ?_⟩;rw[b]at hp;cases hp
 ·intro v hv hvs;obtain⟨i,h1,h2,h3,h4,_,h6,_⟩:=D.d7 v hvs (.inl hv);exact⟨i,h1,h2,h3,h4,(h6 hv).1,(h6 hv).2⟩
end
theorem ru{g:G}(hR:g.Right):(∀v,v<g.n->∀i∈g.out v,i<g.ag.length/\(aD g.ag i).f=v)/\∀i,i<g.ag.length->i∈g.out (aD g.ag i).f:=by
 constructor
 ·intro v _ i hi;obtain⟨_,h1,h2⟩:=mo.1 hi;simp only[Nat.sub_zero]at h1 h2;refine⟨h1,?_⟩;simp[aD,h1];simpa using h2
 ·intro i hi;refine mo.2 ⟨Nat.zero_le _,by simpa using hi,?_⟩;simp[aD,hi]
theorem Df{g:G}(hR:g.Right):(∀v,v<g.n->∀i∈g.in v,i<g.ag.length/\(aD g.ag i).t=v)/\∀i,i<g.ag.length->i∈g.in (aD g.ag i).t:=by
 constructor
 ·intro v _ i hi;obtain⟨_,h1,h2⟩:=mo.1 hi;simp only[Nat.sub_zero]at h1 h2;refine⟨h1,?_⟩;simp[aD,h1];simpa using h2
 ·intro i hi;refine mo.2 ⟨Nat.zero_le _,by simpa using hi,?_⟩;simp[aD,hi]
theorem eX{g:G}(hR:g.Right){s:Nat}(hs:s<g.n):lz g.ag A.f A.t g.n s (g.from s):=
 Kb hs hR.most (λa ha=>⟨(hR.ends a ha).2.1,by have :=(hR.ends a ha).2.2;show(a.w:Int)<=2147483647;omega⟩) (ru hR).1 (ru hR).2
theorem oO{g:G}(hR:g.Right){s:Nat}(hs:s<g.n):lz g.ag A.t A.f g.n s (g.to s):=
 Kb hs hR.most (λa ha=>⟨(hR.ends a ha).1,by have :=(hR.ends a ha).2.2;show(a.w:Int)<=2147483647;omega⟩) (Df hR).1 (Df hR).2
theorem lz.top{l:List A}{tl hd:A->Nat}{n s:Nat}{t:Tr}(T:lz l tl hd n s t)(hw:∀a∈l,(a.w:Int)<=W):∀v∈t.order,aF t.aH v<=t.order.idxOf v*W:=by
 intro v hv;generalize hk:t.order.idxOf v=k
 induction k using Nat.strongRecOn generalizing v with
 | _ k ih=>
  by_cases e:v=s
  ·subst e;rw[T.ls.zero];have :(0:Int)<=W:=by decide
   exact Int.mul_nonneg (by omega) this
  ·obtain⟨i,hi,_,_,hu,hd',hlt⟩:=T.bF v hv e;have h1:=ih _ (by omega) _ hu rfl;have h2:=hw (aD l i) (by simp[aD,hi]);have h3:((t.order.idxOf (tl (aD l i)):Int)+1)*W<=k*W:=Int.mul_le_mul_of_nonneg_right (by omega) (by decide);rw[Int.add_mul,Int.one_mul]at h3;omega
theorem gZ{d:List Int}{v:Nat}(hv:v<d.length):d[v]=aF d v:=by simp[aF,List.getD_eq_getElem?_getD,hv]
theorem Zn{d:List Int}{v:Nat}(hv:v<d.length):d[v]=d.getD v (-1):=by simp[List.getD_eq_getElem?_getD,hv]
open Go
theorem Zo{g:G}(hR:g.Right){s:Int}:(g.dg s).bF.length=(g.dg s).aH.length/\(g.dg s).aH.length<=g.n/\(g.dg s).order.length<=g.n:=by
 unfold G.dg;split
 ·rename_i h;have T:=eX hR (s:=s.toNat) (by omega);exact⟨T.al.trans T.ls.len.symm,Nat.le_of_eq T.ls.len,iL T.nodup T.range⟩
 ·simp[Tr.none]
open Go
def tgt(d:List Int)(a:A):Bool:=decide (min (aF d a.t+a.w) aI<aI)&&(min (aF d a.t+a.w) aI==aF d a.f)
def gQ(g:G)(b:Int)(a:A):Bool:=decide (0<=b)&&(decide (b<g.n)&&tgt (g.toI b).aH a)
def iz(g:G)(bs:List Int)(a:A):Bool:=bs.any λb=>gQ g b a
theorem Zp{g:G}{bs cs:List Int}{a:A}:iz g (bs++cs) a=(iz g bs a||iz g cs a):=by simp[iz]
theorem Kc{g:G}{b:Int}{a:A}:iz g [b] a=gQ g b a:=by simp[iz]
theorem Zq{g:G}(hR:g.Right){b:Nat}(hb:b<g.n){s:Nat}(hs:s<g.n)(h:0<=(g.to b).bF.getD s (-1)):∃i:Nat,(g.to b).bF.getD s (-1)=i/\i<g.ag.length/\tgt (g.to b).aH (aD g.ag i)=true:=by
 have T:=oO hR hb;have a:s∈(g.to b).order:=by
  by_cases h':s∈(g.to b).order
  ·exact h'
  ·have :=(T.none s hs h').2;omega
 have c:s≠b:=λe=>by rw[e,T.root]at h;omega
 obtain⟨i,h1,h2,h3,h4,h5,_⟩:=T.bF s a c;refine⟨i,h2,h1,?_⟩;have hlt:=(T.oN s hs).1 a;unfold tgt;rw[h3,<-h5,Int.min_eq_left (Int.le_of_lt hlt)];rw[decide_eq_true hlt,beq_self_eq_true];rfl
def vV(n:Nat)(f:Nat->Bool)(i:Nat)(x:List Value)(i':Nat):Prop:=∃j,i<=j/\j<n/\f j=true/\(∀k,i<=k->k<j->f k=false)/\x=[I j]/\i'=j+1
def ry(n:Nat)(f:Nat->Bool)(i:Nat):Prop:=∀k,i<=k->k<n->f k=false
def iA(l:List Bool)(f:Nat->Bool)(i:Nat):List Bool:=l.mapIdx λk b=>b||(decide (k<i)&&f k)
theorem Kd{l:List Bool}{f:Nat->Bool}{i:Nat}:(iA l f i).length=l.length:=by simp[iA]
theorem Zr{l:List Bool}{f:Nat->Bool}:iA l f 0=l:=by
 apply List.ext_getElem (by simp[iA]);intro k h1 h2;simp[iA]
theorem Zs{l:List Bool}{f:Nat->Bool}{i j:Nat}(hij:i<=j)(hj:j<l.length)(hf:f j=true)(hno:∀k,i<=k->k<j->f k=false):(iA l f i).set j true=iA l f (j+1):=by
 apply List.ext_getElem (by simp[iA]);intro k h1 h2;rw[List.getElem_set];split
 ·rename_i e;subst e;simp[iA,hf]
 ·rename_i e;simp only[iA,List.getElem_mapIdx];by_cases h3:k<i
  ·rw[decide_eq_true h3,decide_eq_true (show k<j+1 by omega)]
  ·by_cases h4:k<j
   ·rw[hno k (by omega) h4,Bool.and_false,Bool.and_false]
   ·rw[decide_eq_false h3,decide_eq_false (show ¬k<j+1 by omega)]
theorem Zt{l:List Bool}{f:Nat->Bool}{i:Nat}(h:ry l.length f i)(hi:i<=l.length):iA l f i=iA l f l.length:=by
 apply List.ext_getElem (by simp[iA]);intro k h1 h2;have hk:k<l.length:=by rw[Kd]at h1;exact h1
 simp only[iA,List.getElem_mapIdx];by_cases h3:k<i
 ·rw[decide_eq_true h3,decide_eq_true hk]
 ·rw[h k (by omega) hk,Bool.and_false,Bool.and_false]
theorem Zu{l:List A}{p q:A->Bool}{f:Nat->Bool}(hf:∀i(h:i<l.length),f i=q l[i]):iA (l.map p) f l.length=l.map λa=>p a||q a:=by
 apply List.ext_getElem (by simp[iA]);intro k h1 h2;have hk:k<l.length:=by simpa using h2
 simp[iA,hk,hf k hk]
open Go
theorem Way.mono{l l':List A}{tl hd:A->Nat}{s v:Nat}{d:Int}(h:Way l tl hd s v d)(hs:∀a∈l,a∈l'):Way l' tl hd s v d:=by
 induction h with
 |nil=>exact .nil
 |step a _ hm ht ih=>exact .step a ih (hs a hm) ht
theorem LS.iB{l:List A}{tl hd:A->Nat}{n s:Nat}{d:List Int}(H:LS l tl hd n s d){v:Nat}(hv:v<n):aF d v<=aI:=by
 rcases H.way v hv with h|⟨h,_⟩<;>omega
theorem LS.gC{l:List A}{tl hd:A->Nat}{n s:Nat}{d:List Int}(H:LS l tl hd n s d){v:Nat}(hv:v<n):0<=aF d v:=by
 rcases H.way v hv with h|⟨_,h⟩
 ·rw[h];decide
 ·exact h.gC
def x7(d:Int):Int:=if d=aI then aI else 7*d
def mv(a:Int)(n v:Nat):Nat:=(((v:Int)+a)%n).toNat
open Go
def Trail(l:List A):Nat->List Nat->Nat->Prop
 |s,[],t=>s=t
 |s,i::r,t=>i<l.length/\(aD l i).f=s/\Trail l (aD l i).t r t
def cJ(l:List A)(r:List Nat):Int:=(r.map λi=>((aD l i).w:Int)).sum
theorem jv{l:List A}{i:Nat}{r:List Nat}:cJ l (i::r)=(aD l i).w+cJ l r:=by simp[cJ]
theorem nQ{l:List A}:cJ l []=0:=rfl
theorem tq{l:List A}{r q:List Nat}:cJ l (r++q)=cJ l r+cJ l q:=by simp[cJ]
theorem Ke{l:List A}{r:List Nat}:0<=cJ l r:=by
 induction r with
 |nil=>exact Int.le_refl _
 |cons i r ih=>rw[jv];omega
theorem Trail.append{l:List A}:∀{r q:List Nat}{s t u:Nat},Trail l s r t->Trail l t q u->Trail l s (r++q) u
 | [],_,_,_,_,h,h'=>by cases h;exact h'
 |_::_,_,_,_,_,⟨a,b,h⟩,h'=>⟨a,b,h.append h'⟩
theorem Trail.split{l:List A}:∀{r q:List Nat}{s u:Nat},Trail l s (r++q) u->∃t,Trail l s r t/\Trail l t q u
 | [],_,s,_,h=>⟨s,rfl,h⟩
 |_::_,_,_,_,⟨a,b,h⟩=>by obtain⟨t,h1,h2⟩:=Trail.split h;exact⟨t,⟨a,b,h1⟩,h2⟩
theorem Trail.lt{l:List A}:∀{r:List Nat}{s t:Nat},Trail l s r t->∀i∈r,i<l.length
 | [],_,_,_,_,h=>by cases h
 |_::_,_,_,⟨a,_,h⟩,i,hi=>by
  rcases List.mem_cons.1 hi with rfl|hi
  ·exact a
  ·exact h.lt i hi
theorem gD{l:List A}{i:Nat}(h:i<l.length):aD l i∈l:=by
 rw[show aD l i=l[i] by simp[aD,h]];exact List.getElem_mem h
theorem Trail.way{l:List A}:∀{r:List Nat}{s u t:Nat}{d:Int},Way l A.f A.t s u d->Trail l u r t->Way l A.f A.t s t (d+cJ l r)
 | [],_,_,_,_,hw,h=>by cases h;rw[nQ,Int.add_zero];exact hw
 |i::r,_,u,_,d,hw,⟨a,b,h⟩=>by
  have :=Trail.way (Way.step _ hw (gD a) b) h;rw[jv,<-Int.add_assoc];exact this
def kG(l:List A):Int->Int->List Int->Option (Int×Int)
 |s,w,[]=>some (s,w)
 |s,w,i::r=>if 0<=i/\i<l.length/\((aD l i.toNat).f:Int)=s then kG l (aD l i.toNat).t (w+(aD l i.toNat).w) r else none
theorem Kf{l:List A}:∀{r:List Nat}{s t:Nat}{w:Int},Trail l s r t->kG l s w (r.map λ(i:Nat)=>(i:Int))=some ((t:Int),w+cJ l r)
 | [],_,_,w,h=>by cases h;simp[kG,nQ]
 |i::r,_,_,w,⟨a,b,h⟩=>by
  simp only[List.map_cons,kG];rw[if_pos ⟨by omega,by omega,by rw[Int.toNat_natCast,b]⟩,Int.toNat_natCast,Kf h,jv,Int.add_assoc]
def nI(l:List Nat):List Int:=l.map λ(i:Nat)=>(i:Int)
theorem Kg{l:List Nat}:(nI l).reverse=nI l.reverse:=by simp[nI]
theorem dI{l:List Nat}:(nI l).length=l.length:=by simp[nI]
def dU(l:List A)(z:Int):A×Bool:=if 0<=z/\z<l.length then(aD l z.toNat,true)else(⟨0,0,0⟩,false)
def Kh(l:List A)(ag:List Int)(p:Nat×Int)(x:List Value)(p':Nat×Int):Prop:=
 ∃hi:p.1<ag.length,x=[vA (dU l ag[p.1]).1,.bool ((dU l ag[p.1]).2&&decide (((dU l ag[p.1]).1.f:Int)=p.2))]/\p'=(p.1+1,((dU l ag[p.1]).1.t:Int))
theorem Zv{l:List A}{ag:List Int}{i:Nat}{s w:Int}(hi:i<ag.length):
  kG l s w (ag.drop i)=if((dU l ag[i]).2&&decide (((dU l ag[i]).1.f:Int)=s))=true then kG l (dU l ag[i]).1.t (w+(dU l ag[i]).1.w) (ag.drop (i+1))else none:=by
 rw[List.drop_eq_getElem_cons hi];simp only[kG];by_cases h:0<=ag[i]/\ag[i]<l.length
 ·simp only[dU,if_pos h];by_cases h2:((aD l ag[i].toNat).f:Int)=s
  ·rw[if_pos ⟨h.1,h.2,h2⟩,decide_eq_true h2,Bool.true_and,if_pos rfl]
  ·rw[if_neg λe=>h2 e.2.2,decide_eq_false h2,Bool.and_false,if_neg (by decide)]
 ·simp only[dU,if_neg h];rw[if_neg λe=>h ⟨e.1,e.2.1⟩,Bool.false_and,if_neg (by decide)]
open Go
section
variable{g:G}{b s:Nat}
theorem Ki{l:List A}{d:List Int}{b:Nat}(hb:aF d b=0):∀{r:List Nat}{s:Nat},Trail l s r b->(∀i∈r,tgt d (aD l i)=true)->aF d s=cJ l r
 | [],_,h,_=>by cases h;rw[hb];rfl
 |i::r,s,⟨_,b',h⟩,ht=>by
  have ih:=Ki hb h λj hj=>ht j (List.mem_cons_of_mem _ hj);have h1:=ht i (List.mem_cons_self ..);unfold tgt at h1;rw[Bool.and_eq_true,decide_eq_true_eq,beq_iff_eq]at h1;rw[jv,<-b',<-ih,<-h1.2];omega
theorem Zw(hR:g.Right)(hb:b<g.n):∀{k:Nat}{s:Nat},s<g.n->(g.to b).order.idxOf s<=k->aF (g.to b).aH s<aI->∃r,Trail g.ag s r b/\∀i∈r,tgt (g.to b).aH (aD g.ag i)=true:=by
 have T:=oO hR hb;intro k
 induction k with
 | zero=>
  intro s hs hk hd;by_cases e:s=b
  ·subst e;exact⟨[],rfl,λ_ h=>by cases h⟩
  ·obtain⟨i,_,_,_,_,_,h6⟩:=T.bF s ((T.oN s hs).2 hd) e;omega
 | succ k ih=>
  intro s hs hk hd;by_cases e:s=b
  ·subst e;exact⟨[],rfl,λ_ h=>by cases h⟩
  ·have a:=(T.oN s hs).2 hd;obtain⟨i,h1,h2,h3,h4,h5,h6⟩:=T.bF s a e;obtain⟨j,e1,_,ht⟩:=Zq hR hb hs (by rw[h2];omega);have :j=i:=by omega
   subst this;have hn:=T.range _ h4;obtain⟨r,hr,c⟩:=ih hn (by omega) ((T.oN _ hn).1 h4);refine⟨j::r,⟨h1,h3,hr⟩,λi hi=> ?_⟩;rcases List.mem_cons.1 hi with rfl|hi
   ·exact ht
   ·exact c i hi
end
open Go
def fU(ns:List Int)(z:Int):List Int:=if z∈ns then ns else ns++ [z]
def iC:List Int->List Int->List Int
 |_,[]=>[]
 |ns,z::r=>(ns.idxOf z:Int)::iC (fU ns z) r
def norm(l:List Int):List Int:=iC [] l
def fq(ns l:List Int):List Int:=l.foldl fU ns
theorem Dg:∀{l ns:List Int},(iC ns l).length=l.length
 | [],_=>rfl
 |_::l,_=>by rw[iC,List.length_cons,Dg,List.length_cons]
theorem Zx{ns:List Int}{z:Int}(h:ns.Nodup):(fU ns z).Nodup:=by
 unfold fU;split
 ·exact h
 ·rename_i hz;rw[List.nodup_append];exact⟨h,by simp,λa ha b hb e=>hz (by simp at hb;rw[<-hb,<-e];exact ha)⟩
theorem Zy{ns:List Int}{z:Int}:ns.length<=(fU ns z).length:=by
 unfold fU;split
 ·exact Nat.le_refl _
 ·simp
theorem Kj:∀{l ns:List Int},ns.length<=(fq ns l).length
 | [],_=>Nat.le_refl _
 |z::l,ns=>Nat.le_trans Zy (Kj (l:=l))
theorem Dh:∀{l ns:List Int},ns.Nodup->(fq ns l).Nodup
 | [],_,h=>h
 |z::l,ns,h=>Dh (l:=l) (Zx h)
theorem Kk:∀{l ns:List Int}{x:Int},x∈fq ns l->x∈ns\/x∈l
 | [],_,_,h=>.inl h
 | z::l,ns,x,h=>by
  rcases Kk (l:=l) h with h|h
  ·unfold fU at h;split at h
   ·exact .inl h
   ·rcases List.mem_append.1 h with h|h
    ·exact .inl h
    ·exact .inr (by simp at h;rw[h];exact List.mem_cons_self)
  ·exact .inr (List.mem_cons_of_mem _ h)
theorem Kl{ns:List Int}{z:Int}:ns.idxOf z<(fU ns z).length:=by
 unfold fU;split
 ·rename_i h;exact List.idxOf_lt_length_of_mem h
 ·rename_i h;rw[List.idxOf_eq_length h];simp
theorem Di:∀{l ns:List Int}{z:Int},z∈iC ns l->0<=z/\z<(fq ns l).length
 | [],_,_,h=>by cases h
 | y::l,ns,z,h=>by
  rcases List.mem_cons.1 h with rfl|h
  ·have h1:=Kl (ns:=ns) (z:=y);have h2:=Kj (l:=l) (ns:=fU ns y);refine⟨by omega,?_⟩;show((ns.idxOf y:Nat):Int)<((fq (fU ns y) l).length:Nat);omega
  ·exact Di (l:=l) h
theorem Zz:∀{m:Nat}{l:List Int},l.Nodup->(∀z∈l,0<=z/\z<m)->l.length<=m:=by
 intro m l hn h;have :(l.map Int.toNat).length<=m:=by
  refine iL ?_ λx hx=> ?_
  ·rw[List.Nodup,List.pairwise_map];exact hn.imp_of_mem λ{a b} ha hb hne e=>hne (by have :=h a ha;have :=h b hb;omega)
  ·obtain⟨z,hz,rfl⟩:=List.mem_map.1 hx;have :=h z hz;omega
 simpa using this
theorem ZA{l:List Int}{m:Nat}(h:∀z∈l,0<=z/\z<m){z:Int}(hz:z∈norm l):0<=z/\z<m:=by
 have h1:=Di hz;have h2:=Zz (Dh (l:=l) (ns:=[]) .nil) λx hx=>h x ((Kk hx).resolve_left (by simp));omega
theorem ZB{k:Nat}{z:Nat}(h:z<k):(List.map (λ(i:Nat)=>(i:Int)) (List.range k)).idxOf (z:Int)=z:=by
 have hn:(List.map (λ(i:Nat)=>(i:Int)) (List.range k)).Nodup:=by
  rw[List.Nodup,List.pairwise_map];exact List.nodup_range.imp λh e=>h (by omega)
 have hg:(List.map (λ(i:Nat)=>(i:Int)) (List.range k))[z]'(by simpa using h)=(z:Int):=by simp
 rw[<-hg,List.Nodup.idxOf_getElem hn]
theorem Dj:∀{l ns:List Int}{k:Nat},ns.length=k->iC (List.map (λ(i:Nat)=>(i:Int)) (List.range k)) (iC ns l)=iC ns l
 | [],_,_,_=>rfl
 | z::l,ns,k,hk=>by
  have h1:=Kl (ns:=ns) (z:=z);rw[iC,iC];by_cases hz:z∈ns
  ·have hi:ns.idxOf z<k:=by rw[<-hk];exact List.idxOf_lt_length_of_mem hz
   have hm:((ns.idxOf z:Nat):Int)∈List.map (λ(i:Nat)=>(i:Int)) (List.range k):=List.mem_map.2 ⟨_,List.mem_range.2 hi,rfl⟩;have e1:fU (List.map (λ(i:Nat)=>(i:Int)) (List.range k)) ((ns.idxOf z:Nat):Int)=List.map (λ(i:Nat)=>(i:Int)) (List.range k):=by unfold fU;rw[if_pos hm]
   have e2:fU ns z=ns:=by unfold fU;rw[if_pos hz]
   rw[e1,e2,Dj hk,ZB hi]
  ·have hi:ns.idxOf z=k:=by rw[<-hk];exact List.idxOf_eq_length hz
   rw[hi];have hm:¬((k:Nat):Int)∈List.map (λ(i:Nat)=>(i:Int)) (List.range k):=by
    intro h;obtain⟨i,h2,h3⟩:=List.mem_map.1 h;have :=List.mem_range.1 h2;omega
   have e1:fU (List.map (λ(i:Nat)=>(i:Int)) (List.range k)) ((k:Nat):Int)=List.map (λ(i:Nat)=>(i:Int)) (List.range (k+1)):=by
    unfold fU;rw[if_neg hm,List.range_succ,List.map_append];rfl
   have e2:(fU ns z).length=k+1:=by unfold fU;rw[if_neg hz];simp[hk]
   rw[e1,Dj e2,List.idxOf_eq_length hm];simp
theorem ZC{l:List Int}:norm (norm l)=norm l:=Dj (k:=0) rfl
def jw:List Int->Int
 | []=>0
 |z::r=>r.foldl max z
theorem foldl_max:∀{r:List Int}{z:Int},z<=r.foldl max z/\(∀x∈r,x<=r.foldl max z)/\(r.foldl max z=z\/r.foldl max z∈r)
 | [],z=>⟨Int.le_refl _,(λ_ h=>by cases h),.inl rfl⟩
 | y::r,z=>by
  obtain⟨h1,h2,h3⟩:=foldl_max (r:=r) (z:=max z y);rw[List.foldl_cons];refine⟨by omega,λx hx=> ?_,?_⟩
  ·rcases List.mem_cons.1 hx with rfl|hx
   ·omega
   ·exact h2 x hx
  ·rcases h3 with h3|h3
   ·rcases(show max z y=z\/max z y=y by omega)with e|e
    ·exact .inl (h3.trans e)
    ·exact .inr (by rw[h3,e];exact List.mem_cons_self)
   ·exact .inr (List.mem_cons_of_mem _ h3)
theorem ZD{l:List Int}{x:Int}(h:x∈l):x<=jw l:=by
 cases l with
 |nil=>cases h
 |cons z r=>
  rcases List.mem_cons.1 h with rfl|h
  ·exact foldl_max.1
  ·exact foldl_max.2.1 x h
theorem ZE{l:List Int}(h:l≠ []):jw l∈l:=by
 cases l with
 |nil=>exact absurd rfl h
 |cons z r=>
  rcases(foldl_max (r:=r) (z:=z)).2.2 with e|e
  ·show r.foldl max z∈_;rw[e];exact List.mem_cons_self
  ·exact List.mem_cons_of_mem _ e
section
variable{g:G}{c:Nat->Int}{k:Int}{s t:Nat}
def lB(g:G)(c:Nat->Int)(k:Int)(v:Nat):Bool:=decide (c v=k)&&(g.in v).any λi=> !decide (c (aD g.ag i).f=k)
def mu(g:G)(c:Nat->Int)(k:Int)(i:Nat):Bool:=decide (c (aD g.ag i).f=k)&&decide (c (aD g.ag i).t=k)
def p9(g:G)(c:Nat->Int)(k:Int)(i:Nat):Bool:=mu g c k i||(List.range g.n).any λb=>lB g c k b&&gQ g b (aD g.ag i)
theorem Way.bwd{l:List A}:∀{r:List Nat}{s u t:Nat}{d:Int},Way l A.t A.f t u d->Trail l s r u->Way l A.t A.f t s (d+cJ l r)
 | [],_,_,_,d,hw,h=>by cases h;rw[nQ,Int.add_zero];exact hw
 |i::r,s,u,t,d,hw,⟨h1,h2,h3⟩=>by
  have :=Way.bwd hw h3;have w:=Way.step (aD l i) this (gD h1) rfl;rw[h2]at w;rw[jv,show d+((aD l i).w+cJ l r)=d+cJ l r+(aD l i).w by omega];exact w
theorem Km(hR:g.Right):∀(r:List Nat){s:Nat},Trail g.ag s r t->c t=k->(∀i∈r,mu g c k i=true)\/∃p i q,r=p++i::q/\c (aD g.ag i).f≠k/\c (aD g.ag i).t=k/\∀j∈q,mu g c k j=true
 | [],_,_,_=>.inl λ_ h=>by cases h
 | i ::r,s,⟨h1,h2,h3⟩,hc=>by
  rcases Km hR r h3 hc with h|⟨p,j,q,e,a,b,d⟩
  ·have hit:c (aD g.ag i).t=k:=by
    cases r with
    |nil=>cases h3;exact hc
    |cons j r=>
     have :=h j List.mem_cons_self;unfold mu at this;rw[Bool.and_eq_true,decide_eq_true_eq,decide_eq_true_eq,h3.2.1]at this;exact this.1
   by_cases hf:c (aD g.ag i).f=k
   ·left;intro j hj;rcases List.mem_cons.1 hj with rfl|hj
    ·unfold mu;rw[hf,hit];simp
    ·exact h j hj
   ·exact .inr ⟨[],i,r,rfl,hf,hit,h⟩
  ·exact .inr ⟨i::p,j,q,by rw[e];rfl,a,b,d⟩
theorem zm(hR:g.Right)(hs:s<g.n)(ht:t<g.n)(hc:c t=k)(hd:aF (g.from s).aH t<aI):∃r,Trail g.ag s r t/\cJ g.ag r=aF (g.from s).aH t/\∀i∈r,p9 g c k i=true:=by
 have T:=eX hR hs;have hw:=(T.ls.way t ht).resolve_left (by omega);have tr:∀{v:Nat}{d:Int},Way g.ag A.f A.t s v d->∃r,Trail g.ag s r v/\cJ g.ag r=d:=by
  intro v d h
  induction h with
  |nil=>exact⟨[],rfl,rfl⟩
  |step a _ ha hv ih=>
   obtain⟨r,h1,h2⟩:=ih;obtain⟨i,hi,e⟩:=List.mem_iff_getElem.1 ha;have ea:aD g.ag i=a:=by simp[aD,hi,e]
   refine⟨r++ [i],h1.append ⟨hi,by rw[ea];exact hv,by rw[ea];rfl⟩,?_⟩;rw[tq,h2,jv,nQ,ea];omega
 obtain⟨r,h1,h2⟩:=tr hw.2;have ins:∀{i:Nat},mu g c k i=true->p9 g c k i=true:=λh=>by unfold p9;rw[h];rfl
 rcases Km hR r h1 hc with h|⟨p,i,q,e,a,b,hq⟩
 ·exact⟨r,h1,h2,λj hj=>ins (h j hj)⟩
 ·have e':r=(p++ [i])++q:=by rw[e];simp
  rw[e']at h1;obtain⟨v,h3,h4⟩:=Trail.split h1;obtain⟨u,h5,h6⟩:=Trail.split h3;have hi:i<g.ag.length:=h6.1;have z:(aD g.ag i).f=u:=h6.2.1;have o:(aD g.ag i).t=v:=h6.2.2;have m:v<g.n:=by rw[<-o];exact(hR.ends _ (gD hi)).2.1
  have hb:lB g c k v=true:=by
   unfold lB;rw[<-o,b,decide_eq_true rfl,Bool.true_and,List.any_eq_true];exact⟨i,(Df hR).2 i hi,by simp[a]⟩
  have w:=oO hR m;have x:Way g.ag A.t A.f v s (0+cJ g.ag (p++ [i])):=Way.bwd .nil h3;rw[Int.zero_add]at x;have B:cJ g.ag r=cJ g.ag (p++ [i])+cJ g.ag q:=(congrArg (cJ g.ag) e').trans tq;have C:=Ke (l:=g.ag) (r:=q);have hpf:cJ g.ag (p++ [i])<aI:=by omega
  have hle:=w.ls.mZ x hpf;obtain⟨r',h7,h8⟩:=Zw hR m hs (Nat.le_refl _) (by omega);have hsum:=Ki w.ls.zero h7 h8;refine⟨r'++q,h7.append h4,?_,λj hj=> ?_⟩
  ·have h9:cJ g.ag (r'++q)<=aF (g.from s).aH t:=by
    rw[tq,<-hsum];omega
   have y:=Trail.way (l:=g.ag) (d:=0) (.nil:Way g.ag A.f A.t s s 0) (h7.append h4);rw[Int.zero_add]at y;have :=T.ls.mZ y (by omega);omega
  ·rcases List.mem_append.1 hj with hj|hj
   ·unfold p9;rw[Bool.or_eq_true];right;rw[List.any_eq_true];refine⟨v,List.mem_range.2 m,?_⟩;rw[hb,Bool.true_and];unfold gQ G.toI;rw[decide_eq_true (by omega:(0:Int)<=(v:Int)),decide_eq_true (by omega:((v:Int)<g.n)),if_pos ⟨by omega,by omega⟩];simpa using h8 j hj
   ·exact ins (hq j hj)
end
section
variable{g:G}{mk:Nat->Bool}{s t:Nat}
theorem Ko(hR:g.Right):∀a∈g.ag,a.t<g.n/\(a.w:Int)<=W:=λa ha=>⟨(hR.ends a ha).2.1,by have :=(hR.ends a ha).2.2;unfold W;omega⟩
end
open Go
def nR(ns:List Int):Int->Option Value:=λz=>if z∈ns then some (.int .i64 (ns.idxOf z:Nat))else none
theorem Kq{k:Int}:∀{t:List dr},(lk k t).isSome↔k∈t.map (·.1)
 | []=>by simp[lk]
 | x::t=>by
  unfold lk;split
  ·rename_i h;simp[h]
  ·rename_i h;rw[Kq (t:=t),List.map_cons,List.mem_cons];exact⟨.inr,λh'=>h'.resolve_left λe=>h e.symm⟩
theorem Dk{α:Type}[DecidableEq α]:∀{l m:List α},l.Nodup->(∀x∈l,x∈m)->l.length<=m.length
 | [],_,_,_=>Nat.zero_le _
 |x::l,m,hn,h=>by
  have hx:=h x List.mem_cons_self;have h1:=List.nodup_cons.1 hn;have :=Dk (l:=l) (m:=m.erase x) h1.2 λy hy=>(List.mem_erase_of_ne (λe=>h1.1 (by rw[<-e];exact hy))).2 (h y (List.mem_cons_of_mem _ hy));rw[List.length_erase_of_mem hx]at this;have :0<m.length:=List.length_pos_of_mem hx;rw[List.length_cons];omega
theorem ZF{es:Array MapEntry}{c:Nat}{ns:List Int}(H:IMap es c (nR ns))(hn:ns.Nodup):es.size=ns.length:=by
 obtain⟨t,ht,hf⟩:=H;have hk:∀z,z∈t.map (·.1)↔z∈ns:=λz=>by
  rw[<-Kq,<-hf z];unfold nR;split<;>simp[*]
 have h1:=Dk ht.keys λz hz=>(hk z).1 hz;have h2:=Dk hn λz hz=>(hk z).2 hz;have :es.toList.length=t.length:=by rw[ht.gB,List.length_map]
 rw[List.length_map]at h1 h2;rw[Array.length_toList]at this;omega
theorem ZG{ns:List Int}{z:Int}(hz:z∉ns)(x:Int):nR (ns++ [z]) x=cu (nR ns) z (.int .i64 (ns.length:Nat)) x:=by
 show(if x∈ns++ [z]then some (Value.int .i64 ((ns++ [z]).idxOf x:Nat))else none)=if x=z then some (Value.int .i64 (ns.length:Nat))else if x∈ns then some (Value.int .i64 (ns.idxOf x:Nat))else none;by_cases e:x=z
 ·subst e;rw[if_pos (by simp),if_pos rfl,List.idxOf_append,if_neg hz];simp
 ·rw[if_neg e];by_cases hx:x∈ns
  ·rw[if_pos (by simp[hx]),if_pos hx,List.idxOf_append,if_pos hx]
  ·rw[if_neg (by simp[hx,e]),if_neg hx]
open Go
theorem Kt:∀{l ns r:List Int},iC ns (l++r)=iC ns l++iC (fq ns l) r
 | [],_,_=>rfl
 |z::l,ns,r=>by
  rw[List.cons_append,iC,iC,Kt,List.cons_append];rfl
theorem ZH{ns l r:List Int}:fq ns (l++r)=fq (fq ns l) r:=by unfold fq;rw[List.foldl_append]
theorem Ku:∀{l ns:List Int},(fq ns l).length<=ns.length+l.length
 | [],_=>Nat.le_refl _
 | z::l,ns=>by
  have :=Ku (l:=l) (ns:=fU ns z);have h2:(fU ns z).length<=ns.length+1:=by
   unfold fU;split<;>simp
  show(fq (fU ns z) l).length<=_;rw[List.length_cons];omega
open Go Go.ChangeShapes Go.WideShapes Go.ChangeAt Go.RowKit
section
variable{H:Type}{enc:TypeId×Value->H}{P:Program}{W W':World}
theorem ZI(hx:Ext W.heap W'.heap){p:MemPlace}(hp:p.block<W.heap.size):W.sameAt W' p:=by
 cases p with
 |cell b off=>
  have :=hx.same b hp id;show W'.cell? _=W.cell? _;simp only[World.cell?,this]
 |map b=>exact hx.same b hp id
theorem Kv{base:Nat}{spare:Nat->Bool}{held:Bool}:∀{ts:List TypeId}{vs:List Value}{ds:List (DataW H)}{ps:List MemPlace},DataW.TrodAll enc P W base spare held ts vs ds ps->
  (∀p∈ps,W.sameAt W' p)->DataW.TrodAll enc P W' base spare held ts vs ds ps
 | [],[],[],_,h,_=>h
 |_::_,_::_,_::_,_,⟨p,q,⟨n,hn⟩,hs,e⟩,ha=>by
  subst e;exact⟨p,q,⟨n,DataW.trod_carry n _ _ _ hn λx hx=>ha x (List.mem_append_left _ hx)⟩,Kv hs λx hx=>ha x (List.mem_append_right _ hx),rfl⟩
theorem ZJ(hs:cU W W')(hx:Ext W.heap W'.heap)(may:MemPlace->Prop):W.keptBut W' may:=by
 refine⟨hs.os,hs.output,λi hi=> ?_⟩;rw[hx.same i hi id];have :W.heap[i]? =some W.heap[i]:=by simp[hi]
 rw[this];cases W.heap[i]<;>simp
theorem Kw{base:Nat}{spare:Nat->Bool}{held:Bool}:∀{ts:List TypeId}{vs:List Value}{ds:List (DataW H)}{ps:List MemPlace},DataW.TrodAll enc P W base spare held ts vs ds ps->ds.length=ts.length
 | [],[],[],_,_=>rfl
 |_::_,_::_,_::_,_,⟨_,_,_,hs,_⟩=>by simp[Kw hs]
theorem ZK{C:Checked}{os:Os}{f:FuncId}{fn:Func}{s:ChangeSpec}{conds:List PathCond}{tb:TypeId}{X:World->Array Value->Prop}
  (hX:∀(w w':World)(args:Array Value),w.heap=w'.heap->X w args->X w' args)
  (own:ownKnob C.prog.godebug=none) (started:os.Started) (noInit:C.prog.inits.idxOf? f=none) (hfn:C.prog.funcs[f]? =some fn)
  (witness:∃(w:World)(tape:Tape)(i:Input),w.os=os/\(w.forCall tape i).Shaped C.prog/\i.vars=[]/\Input.okWide C.prog (w.forCall tape i) .any w.heap.size f i/\
   ((s.pre enc C.prog fn conds false (w.forCall tape i).memory i.args/\X (w.forCall tape i).memory i.args)/\sizedMet enc C.prog fn (OpenSpec.ofChange s) false (w.forCall tape i).memory i.args)/\({}:Assume).holds C.prog (lone (Frame.enter C.prog f i.args .normal) [] (w.forCall tape i)))
  (hvars:s.vars=[]) (hres:fn.resultTypes= #[tb]) (htb:C.prog.underlying tb=some .bool)
  (hspec:∀ds:List (DataW H),ds.length=fn.params.toList.length->s.fn H ds={results:=[.lit (.bool true)],args:=ds})
  (kids:Kids C.prog (· <C.prog.types.size)) (full:∀t e,t<C.prog.types.size->C.prog.underlying t=some (.slice e)->0<C.prog.cellsOf e) (hpar:∀t∈fn.params.toList,t<C.prog.types.size)
  (b:∀(W:World)(base:Nat)(args:Array Value)(ds:List (DataW H))(ps:List MemPlace),(∀(j:Nat) t v,fn.params[j]? =some t->args[j]? =some v->Value.okWide C.prog W .any base t v)->
   DataW.TrodAll enc C.prog W 0 (λ_=>true) true fn.params.toList args.toList ds ps->
   aE C.prog f args W.heap λv h'=>v=.bool true/\Ext W.heap h'):
  ReturnsInHanded {} C os f .any (λw args=>(s.pre enc C.prog fn conds false w args/\X w args)/\sizedMet enc C.prog fn (OpenSpec.ofChange s) false w args) (s.post enc C.prog fn false true false false):=by
 refine returnsInHanded_of_change_and hX own started noInit hfn witness ?_;intro W base args ds gs before hval hW c _ _ _;have a:=hW;obtain⟨p,q,hA,hV,rfl,hfz,d⟩:=hW;rw[hvars]at hV;obtain⟨rfl,rfl⟩:=trodVars_none hV;refine YT (b W base args ds p hval hA) λv w' hs hv=>⟨v,rfl,?_⟩;obtain⟨rfl,hx⟩:=hv;have hlt:∀x∈p,x.block<W.heap.size:=λx hx=>a.lt x (by simpa using hx);have hsp:=hspec ds (Kw hA);unfold ChangeSpec.post;refine⟨ds,[],p++ [],[],p,[],a,?_,?_,?_,ZJ hs hx _,λh=>by cases h⟩
 ·rw[List.append_nil,hsp,hres];exact trodAll_mk1 ⟨1,by simp[DataW.trod,htb,Value.cells]⟩
 ·rw[List.append_nil,hsp];exact Kv (DataW.TrodAll.respare kids full hpar hA λx hx=>by simpa using hlt x hx) λx hx'=>ZI hx (hlt x hx')
 ·rw[List.append_nil,hsp,hvars];rfl
end
open Go
def abM(P:Program)(rs:List ResultVar)(f:FuncId)(args:Array Value)(K:KT):Exit->bM->List Nat->aa->Prop
 | .ret,e,m,h=>cH m h λh'=>jo P f args h' λh''=>fD P e h'' rs λl=>K (jI l) h''
 |_,_,_,_=>False
def Oe(P:Program)(n:Nat)(c:Operand)(B:Code)(iq:Ann)(C:Code)(xl:Ann)(rs:List ResultVar)(s:Tmp)(f:FuncId)(caps:List Operand)(K:KT):Exit->bM->List Nat->aa->Prop
 | .normal,e,[],h=>(match oD e c with
  |true=>az (ev e c) (match mO e caps,Nat.blt s n with
   |true,true=>compile P n false B iq ((s,.func (.func f) #[] (caps.map (ev e)).toArray)::e) [] h (abM P rs f (caps.map (ev e)).toArray K)
   |_,_=>False) (compile P n false C xl e [] h (vC P rs K))
  |false=>False)
 |_,_,_,_=>False
def abN(P:Program)(n:Nat)(A:Code)(bA:Ann)(K:Exit->bM->List Nat->aa->Prop):Exit->bM->List Nat->aa->Prop
 | .normal,e,[],h=>compile P n false A bA e [] h K
 |_,_,_,_=>False
def cT:Code->Code
 | .cond _ a _=>a
 |c=>c
section
variable{P:Program}
theorem abO{f g:FuncId}{fn:Func}{A A' B C:Code}{l8 F7 iq xl:Ann}{id:Nat}{o1 o2:Oper}{s:Tmp}{co:Operand}{caps:Array Operand}{c:Call}{args:List Value}{h:aa}{K:KT}
  (hf:P.funcs[f]? =some fn) (hb:fn.body=some (.seq A (.seq (.seq A' (.cond co (.seq (.region id #[o1,o2] false) B) .skip)) C))) (t:iS P f=true) (hm:P.follows .mixedOrders=true) (hlen:args.length<=fn.ntmps)
  (h1:o1.op=.makeFunc (.func g) #[] caps) (u:o1.dst=some s) (hg1:o1.guard=none) (h2:o2.op=.defer c) (hc:c.callee=.value (.tmp s)) (hca:c.args= #[]) (hd2:o2.dst=none) (hg2:o2.guard=none)
  (hq:compile P fn.ntmps false A l8 (jJ args 0) [] h (abN P fn.ntmps A' F7 (Oe P fn.ntmps co B iq C xl fn.results.toList s g caps.toList K))):aE P f args.toArray h K:=by
 refine⟨t,λw hw=> ?_⟩;refine callsIn_of_wp_marks hf hb trivial ?_;have y:Rel (jJ args 0) (args.toArray++Array.replicate (fn.ntmps-args.toArray.size) undef):=by
  intro s v hs;obtain⟨_,h2⟩:=sY hs;rw[Nat.sub_zero]at h2;have hlt:s<args.length:=(List.getElem?_eq_some_iff.1 h2).1;rw[Array.getElem?_append_left (by simpa using hlt)];simpa using h2
 have hsz:(args.toArray++Array.replicate (fn.ntmps-args.toArray.size) undef).size=fn.ntmps:=by simp;omega
 refine wpIn_seq ?_;refine jH A l8 none _ [] h _ hq hm [] _ w _ y hsz rfl hw ?_;intro ex e' m' a' w' hr' hn' hd' hs' _ _ hk;cases ex<;>try exact hk.elim
 cases m' with
 |cons D m=>exact hk.elim
 |nil=>
 show(Code.seq _ C).wpIn Fence.wide 0 P _ a' w';refine wpIn_seq (wpIn_seq ?_);refine jH A' F7 none _ [] w'.heap _ hk hm [] _ w' _ hr' hn' hd' rfl ?_;intro z e1 m1 a1 w1 b d r hs1 _ _ a;cases z<;>try exact a.elim
 cases m1 with
 |cons D m=>exact a.elim
 |nil=>
 simp only[Oe]at a;split at a
 ·rename_i hkc;have he:a1.eval co=ev e1 co:=by rw[nH,b.ev hkc]
  unfold az at a;split at a
  ·rename_i hv;refine wpIn_cond_true (he.trans hv) ?_;split at a
   ·rename_i hkn i;have i:s<fn.ntmps:=Nat.le_of_ble_eq_true i;refine wpIn_seq ?_;refine CV (ro:=none) rfl h1 u hg1 h2 hc hca hd2 hg2 (by rw[d];exact i) ?_;have E:caps.map (iT a1.tmps)=(caps.toList.map (ev e1)).toArray:=by
     apply Array.ext';rw[Array.toList_map];apply List.map_congr_left;intro x hx;exact(b.ev (vf hkn x hx)).symm
    have F:a1.defers=[]:=r;rw[E,F];have G:Rel ((s,.func (.func g) #[] (caps.toList.map (ev e1)).toArray)::e1) (e9 a1.tmps (some s) (.func (.func g) #[] (caps.toList.map (ev e1)).toArray)):=
     b.put (dst:=some s) (by rw[d];simpa[nK]using i)
    refine jH B iq none _ [] w1.heap _ a hm [{target:=.fn (.func g) (caps.toList.map (ev e1)).toArray,args:= #[]}] _ w1 _ G (by rw[pO];exact d) rfl rfl ?_;intro j e2 m2 a2 w2 k H n o _ _ hk2;have fin:cH m2 w2.heap (λh'=>jo P g (caps.toList.map (ev e1)).toArray h' λh''=>fD P e2 h'' fn.results.toList λl=>K (jI l) h'')->
      LeavesInM Fence.wide 0 P fn a2.tmps (λe w'=>∃v,e=.returned v/\cU w w'/\K v w'.heap) a2.defers .returning w2:=by
     intro hk;rw[n];refine y6 (dargs:= #[]) (w0:=w2) k (λv w'' p q=>⟨v,rfl,((hs'.trans hs1).trans o).trans p,q⟩) m2 w2 (.refl _) ?_;simpa using hk
    cases j<;>try exact hk2.elim
    exact fin hk2
   ·exact a.elim
  ·rename_i hv;refine wpIn_cond_false (he.trans hv) (wpIn_skip ?_);show C.wpIn Fence.wide 0 P _ a1 w1;refine jH C xl none _ [] w1.heap _ a hm [] _ w1 _ b d r rfl ?_;intro j e2 m2 a2 w2 k H n o _ _ hk2;have fin:cH m2 w2.heap (λh'=>fD P e2 h' fn.results.toList λl=>K (jI l) h')->
     LeavesInM Fence.wide 0 P fn a2.tmps (λe w'=>∃v,e=.returned v/\cU w w'/\K v w'.heap) a2.defers .returning w2:=by
    intro hk;rw[n,List.append_nil];exact s7 k (λv w'' p q=>⟨v,rfl,((hs'.trans hs1).trans o).trans p,q⟩) m2 w2 (.refl _) hk
   cases j<;>try exact hk2.elim
   ·exact fin hk2
   ·exact fin hk2
  ·exact a.elim
 ·exact a.elim
def abP(P:Program)(rs:List ResultVar)(K:KT):Exit->bM->List Nat->aa->Prop
 | .normal,e,[],h| .ret,e,[],h=>fD P e h rs λl=>K (jI l) h
 |_,_,_,_=>False
theorem abQ{f:FuncId}{fn:Func}{c:Code}{bA:Ann}{args:List Value}{h:aa}{K:aa->Prop}(hf:P.funcs[f]? =some fn)(hb:fn.body=some c)
  (a:iS P f=true) (hm:P.follows .mixedOrders=true) (hlen:args.length<=fn.ntmps)
  (hc:compile P fn.ntmps false c bA (jJ args 0) [] h (abP P fn.results.toList λ_ h'=>K h')):jo P f args.toArray h K:=by
 refine⟨a,λw hw=> ?_⟩;have b:Rel (jJ args 0) (args.toArray++Array.replicate (fn.ntmps-args.toArray.size) undef):=by
  intro s v hs;obtain⟨_,h2⟩:=sY hs;rw[Nat.sub_zero]at h2;have hlt:s<args.length:=(List.getElem?_eq_some_iff.1 h2).1;rw[Array.getElem?_append_left (by simpa using hlt)];simpa using h2
 have hsz:(args.toArray++Array.replicate (fn.ntmps-args.toArray.size) undef).size=fn.ntmps:=by simp;omega
 refine(callsDIn_of_wp (R:=λe w'=>∃v,e=.returned v/\cU w w'/\K w'.heap) hf hb trivial ?_).mono λe u w'⟨hu,v,he,hs,hk⟩=>⟨v,he,hu,hs,hk⟩;refine jH c bA none _ [] h _ hc hm [] _ w _ b hsz rfl hw ?_;intro ex e' m' a' w' hr' hn' hd' hs' _ _ hk;have fin:m'=[]->fD P e' w'.heap fn.results.toList (λl=>K w'.heap)->a'.defers=[]/\∃v,(results fn a'.tmps).run P w'=.ok v w'/\∃v',Ending.returned v=.returned v'/\cU w w'/\K w'.heap:=by
  intro hm' d;subst hm';obtain⟨l,hl,g⟩:=sZ hr' d;exact⟨hd',_,om hl w' rfl,_,rfl,hs',g⟩
 cases ex<;>try exact hk.elim
 ·cases m' with
  |nil=>exact fin rfl hk
  |cons _ _=>exact hk.elim
 ·cases m' with
  |nil=>exact fin rfl hk
  |cons _ _=>exact hk.elim
end
open Go
def nZ(n:Nat)(l:List Int):List Nat:=(l.filter λ(z:Int)=>decide (0<=z/\z<n)).map Int.toNat
theorem TY{n:Nat}{l:List Int}{z:Int}:nZ n (l++ [z])=nZ n l++(if 0<=z/\z<n then[z.toNat]else[]):=by
 unfold nZ;rw[List.filter_append,List.map_append];congr 1;by_cases h:0<=z/\z<n
 ·simp only[if_pos h,List.filter_cons,List.filter_nil,decide_eq_true_eq,List.map_cons,List.map_nil]
 ·simp only[if_neg h,List.filter_cons,List.filter_nil,decide_eq_true_eq,List.map_nil]
theorem afT{n:Nat}{l:List Nat}(h:∀m∈l,m<n):nZ n (nI l)=l:=by
 unfold nZ nI;rw[List.filter_eq_self.2 (λz hz=>by obtain⟨m,hm,rfl⟩:=List.mem_map.1 hz;have :=h m hm;exact decide_eq_true ⟨by omega,by omega⟩),List.map_map];simp[Function.comp_def]
open Go
def eL(g:G)(d v:Nat):Int:=if d=0 then g.X.getD v 0 else if d=1 then g.Y.getD v 0 else if d=2 then g.X.getD v 0+g.Y.getD v 0 else g.X.getD v 0-g.Y.getD v 0
def lI(f:Nat->Int)(l:List Nat)(z:Int):Int:=l.foldl (λa x=>min a (f x)) z
def lJ(f:Nat->Int)(l:List Nat)(z:Int):Int:=l.foldl (λa x=>max a (f x)) z
def lK(f:Nat->Int):List Nat->Int
 | []=>0
 |x::l=>lJ f (x::l) (f x)-lI f (x::l) (f x)
def iE(f:Nat->Int):Nat->Nat×Int
 |0=>(0,0)
 |i+1=>if(iE f i).2<f i then(i,f i)else iE f i
def mD(g:G)(l:List Nat):Nat×Int:=iE (λd=>lK (eL g d) l) 4
theorem afU{f:Nat->Int}{l:List Nat}{x:Nat}{z:Int}:lI f (l++ [x]) z=min (lI f l z) (f x):=by simp[lI]
theorem afV{f:Nat->Int}{l:List Nat}{x:Nat}{z:Int}:lJ f (l++ [x]) z=max (lJ f l z) (f x):=by simp[lJ]
theorem Bv{f:Nat->Int}:∀{l:List Nat}{z:Int},lI f l z<=z/\∀x∈l,lI f l z<=f x
 | [],z=>⟨Int.le_refl _,λx h=>by cases h⟩
 |a::l,z=>by
  obtain⟨h1,h2⟩:=@Bv f l (min z (f a));have e:lI f (a::l) z=lI f l (min z (f a)):=rfl;rw[e];refine⟨by omega,λx hx=> ?_⟩;rcases List.mem_cons.1 hx with rfl|hx
  ·omega
  ·exact h2 x hx
theorem Bw{f:Nat->Int}:∀{l:List Nat}{z:Int},z<=lJ f l z/\∀x∈l,f x<=lJ f l z
 | [],z=>⟨Int.le_refl _,λx h=>by cases h⟩
 |a::l,z=>by
  obtain⟨h1,h2⟩:=@Bw f l (max z (f a));have e:lJ f (a::l) z=lJ f l (max z (f a)):=rfl;rw[e];refine⟨by omega,λx hx=> ?_⟩;rcases List.mem_cons.1 hx with rfl|hx
  ·omega
  ·exact h2 x hx
theorem TZ{f:Nat->Int}{B:Int}:∀{l:List Nat}{z:Int},B<=z->(∀x∈l,B<=f x)->B<=lI f l z
 | [],z,h,_=>h
 |a::l,z,h,hl=>TZ (l:=l) (z:=min z (f a)) (by have :=hl a List.mem_cons_self;omega) λx hx=>hl x (List.mem_cons_of_mem _ hx)
theorem T0{f:Nat->Int}{B:Int}:∀{l:List Nat}{z:Int},z<=B->(∀x∈l,f x<=B)->lJ f l z<=B
 | [],z,h,_=>h
 |a::l,z,h,hl=>T0 (l:=l) (z:=max z (f a)) (by have :=hl a List.mem_cons_self;omega) λx hx=>hl x (List.mem_cons_of_mem _ hx)
theorem T5{f:Nat->Int}{l:List Nat}:0<=lK f l:=by
 cases l with
 |nil=>exact Int.le_refl _
 |cons x l=>
  have h1:=(@Bv f (x::l) (f x)).1;have h2:=(@Bw f (x::l) (f x)).1;show 0<=lJ f (x::l) (f x)-lI f (x::l) (f x);omega
theorem afW{f:Nat->Int}{l:List Nat}{v w:Nat}(hv:v∈l)(hw:w∈l):f v-f w<=lK f l:=by
 cases l with
 |nil=>cases hv
 |cons x l=>
  have h1:=(@Bv f (x::l) (f x)).2 w hw;have h2:=(@Bw f (x::l) (f x)).2 v hv;show f v-f w<=lJ f (x::l) (f x)-lI f (x::l) (f x);omega
theorem T6{f:Nat->Int}(hf:∀d,0<=f d):∀{i:Nat},1<=i->(iE f i).1<i/\(iE f i).2=f (iE f i).1/\(∀k,k<i->f k<=(iE f i).2)/\∀k,k<(iE f i).1->f k<(iE f i).2
 | 1,_=>by
  have h0:=hf 0;have e:iE f 1=(0,f 0):=by
   show(if(0:Int)<f 0 then((0:Nat),f 0)else(0,0))=_;split
   ·rfl
   ·rw[show f 0=0 by omega]
  rw[e];exact⟨Nat.zero_lt_one,rfl,λk hk=>by rw[show k=0 by omega];exact Int.le_refl _,λk hk=>by omega⟩
 | i+2,_=>by
  obtain⟨h1,h2,h3,h4⟩:=T6 hf (i:=i+1) (by omega);rw[show iE f (i+2)=if(iE f (i+1)).2<f (i+1)then(i+1,f (i+1))else iE f (i+1)from rfl];by_cases hc:(iE f (i+1)).2<f (i+1)
  ·rw[if_pos hc];refine⟨by dsimp only;omega,rfl,λk hk=> ?_,λk hk=> ?_⟩
   ·by_cases e:k=i+1
    ·rw[e];exact Int.le_refl _
    ·have :=h3 k (by omega);dsimp only;omega
   ·have :=h3 k hk;dsimp only;omega
  ·rw[if_neg hc];refine⟨by omega,h2,λk hk=> ?_,h4⟩;by_cases e:k=i+1
   ·rw[e];omega
   ·exact h3 k (by omega)
def eC(f:Nat->Int)(a b:Nat):Bool:=decide (f b<f a\/(f a=f b/\b<a))
def fW(v:Nat)(l:List Nat)(k:Nat):List Nat:=l.take k++v::l.drop k
def jS(f:Nat->Int)(v:Nat)(l:List Nat):Nat->Nat
 |0=>0
 |k+1=>if eC f (l.getD k 0) v then jS f v l k else k+1
def oW(f:Nat->Int)(l:List Nat)(v:Nat):List Nat:=fW v l (jS f v l l.length)
def gm(f:Nat->Int)(l:List Nat):List Nat:=l.foldl (oW f) []
theorem T7{f:Nat->Int}{v:Nat}{l:List Nat}:∀{k:Nat},jS f v l k<=k
 |0=>Nat.le_refl _
 |k+1=>by
  unfold jS;split
  ·exact Nat.le_succ_of_le T7
  ·exact Nat.le_refl _
theorem T8{f:Nat->Int}{v:Nat}{l:List Nat}:∀{k i:Nat},jS f v l k<=i->i<k->eC f (l.getD i 0) v=true
 |0,i,_,h=>by omega
 | k+1,i,h,hi=>by
  unfold jS at h;by_cases c:eC f (l.getD k 0) v=true
  ·rw[if_pos c]at h;by_cases e:i=k
   ·rw[e];exact c
   ·exact T8 h (by omega)
  ·rw[if_neg c]at h;omega
theorem T9{f:Nat->Int}{v:Nat}{l:List Nat}:∀{k i:Nat},jS f v l k=i+1->eC f (l.getD i 0) v=false
 |0,i,h=>by cases h
 | k+1,i,h=>by
  unfold jS at h;by_cases c:eC f (l.getD k 0) v=true
  ·rw[if_pos c]at h;exact T9 h
  ·rw[if_neg c]at h;have :k=i:=by omega
   subst this;simpa using c
theorem Ua{v k:Nat}{l:List Nat}:(fW v l k).Perm (v::l):=by
 unfold fW;have :=List.perm_middle (a:=v) (l₁:=l.take k) (l₂:=l.drop k);rwa[List.take_append_drop]at this
theorem afX{v k:Nat}{l:List Nat}:(fW v l k).length=l.length+1:=Ua.length_eq
theorem afY{f:Nat->Int}{l:List Nat}{v:Nat}:gm f (l++ [v])=oW f (gm f l) v:=by simp[gm]
theorem Ub{f:Nat->Int}:∀{l m:List Nat},(l.foldl (oW f) m).Perm (m++l)
 | [],m=>by rw[List.append_nil];exact List.Perm.refl _
 |v::l,m=>by
  have h:=@Ub f l (oW f m v);refine h.trans ?_;have h2:(oW f m v++l).Perm ((v::m)++l):=List.Perm.append_right l (Ua (v:=v) (l:=m));exact h2.trans (List.perm_middle (a:=v) (l₁:=m) (l₂:=l)).symm
theorem xF{f:Nat->Int}{l:List Nat}:(gm f l).Perm l:=Ub (m:=[])
theorem Uc{f:Nat->Int}{l:List Nat}:(gm f l).length=l.length:=xF.length_eq
theorem afZ{f:Nat->Int}{a b:Nat}(h:eC f a b=true):eC f b a=false:=by
 unfold eC at h ⊢;rw[decide_eq_true_eq]at h;rw[decide_eq_false_iff_not];omega
theorem af0{f:Nat->Int}{a b c:Nat}(h:eC f a b=false)(h2:eC f b c=false):eC f a c=false:=by
 unfold eC at h h2 ⊢;rw[decide_eq_false_iff_not]at h h2 ⊢;omega
theorem af1{f:Nat->Int}{l:List Nat}{v:Nat}(h:l.Pairwise λa b=>eC f a b=false):(oW f l v).Pairwise λa b=>eC f a b=false:=by
 unfold oW fW;have hle:=@T7 f v l l.length;have hgt:=λi=>@T8 f v l l.length i;have hno:=λi=>@T9 f v l l.length i;generalize jS f v l l.length=p at hle hgt hno;rw[List.pairwise_append];refine⟨h.sublist (List.take_sublist _ _),List.pairwise_cons.2 ⟨λb hb=> ?_,h.sublist (List.drop_sublist _ _)⟩,λa ha b hb=> ?_⟩
 ·obtain⟨i,hi,rfl⟩:=List.getElem_of_mem hb;rw[List.getElem_drop];rw[List.length_drop]at hi;have :=hgt (p+i) (by omega) (by omega);rw[List.getD_eq_getElem?_getD,List.getElem?_eq_getElem (by omega)]at this;exact afZ this
 ·have c:eC f a v=false:=by
   obtain⟨i,hi,rfl⟩:=List.getElem_of_mem ha;rw[List.length_take]at hi;rw[List.getElem_take];obtain⟨q,rfl⟩:∃q,p=q+1:=⟨p-1,by omega⟩;have h1:=hno q rfl;rw[List.getD_eq_getElem?_getD,List.getElem?_eq_getElem (show q<l.length by omega)]at h1;by_cases e:i=q
   ·subst e;exact h1
   ·exact af0 (List.pairwise_iff_getElem.1 h i q (by omega) (by omega) (by omega)) h1
  rcases List.mem_cons.1 hb with rfl|hb
  ·exact c
  ·have h3:=List.pairwise_append.1 (by rw[List.take_append_drop];exact h:(l.take p++l.drop p).Pairwise λa b=>eC f a b=false);exact h3.2.2 a ha b hb
theorem af2{f:Nat->Int}{l:List Nat}:(gm f l).Pairwise λa b=>eC f a b=false:=by
 have :∀{l m:List Nat},m.Pairwise (λa b=>eC f a b=false)->(l.foldl (oW f) m).Pairwise λa b=>eC f a b=false:=by
  intro l
  induction l with
  |nil=>exact λh=>h
  |cons v l ih=>exact λh=>ih (af1 h)
 exact this (l:=l) (m:=[]) .nil
def gT(g:G):Nat->Nat->List Nat->List (List Nat)
 |0,_,l=>[l]
 |k+1,c,l=>if c=1 then[l]else
  gT g k (c/2) ((gm (eL g (mD g l).1) l).take (l.length*(c/2)/c))++gT g k (c-c/2) ((gm (eL g (mD g l).1) l).drop (l.length*(c/2)/c))
def jA(c:Int)(l:List Nat)(out:List Int):List Int:=l.foldl (λo v=>o.set v c) out
def jg:List (List Nat)->Nat->List Int->List Int
 | [],_,out=>out
 |p::r,i,out=>jg r (i+1) (jA i p out)
def rY(g:G)(c:Nat):List Int:=jg (gT g c c (List.range g.n)) 0 (List.replicate g.n 0)
theorem Ud:∀{a b:List (List Nat)}{i:Nat}{out:List Int},jg (a++b) i out=jg b (i+a.length) (jg a i out)
 | [],b,i,out=>by simp[jg]
 |p::a,b,i,out=>by
  show jg (a++b) (i+1) (jA i p out)=_;rw[Ud];show _=jg b (i+(a.length+1)) (jg a (i+1) (jA i p out));rw[show i+1+a.length=i+(a.length+1) by omega]
theorem uv{c:Int}:∀{l:List Nat}{out:List Int},(jA c l out).length=out.length
 | [],out=>rfl
 |v::l,out=>by
  show(jA c l (out.set v c)).length=_;rw[uv,List.length_set]
theorem GY:∀{a:List (List Nat)}{i:Nat}{out:List Int},(jg a i out).length=out.length
 | [],i,out=>rfl
 |p::a,i,out=>by
  show(jg a (i+1) (jA i p out)).length=_;rw[GY,uv]
theorem Bx{g:G}{c:Nat}:(rY g c).length=g.n:=by unfold rY;rw[GY,List.length_replicate]
theorem GZ{c:Int}{w:Nat}:∀{l:List Nat}{out:List Int},w<out.length->(jA c l out)[w]? =if w∈l then some c else out[w]?
 | [],out,_=>by simp[jA]
 | v::l,out,h=>by
  show(jA c l (out.set v c))[w]? =_;rw[GZ (by rw[List.length_set];exact h)];by_cases e:w=v
  ·subst e;rw[List.getElem?_set_self h];simp
  ·rw[List.getElem?_set_ne (λh=>e h.symm)];simp[e]
theorem Ue{w:Nat}:∀{a:List (List Nat)}{i:Nat}{out:List Int},w<out.length->(∀p∈a,w∉p)->(jg a i out)[w]? =out[w]?
 | [],i,out,_,_=>rfl
 |p::a,i,out,h,hw=>by
  show(jg a (i+1) (jA i p out))[w]? =_;rw[Ue (by rw[uv];exact h) λp hp=>hw p (List.mem_cons_of_mem _ hp),GZ h,if_neg (hw p List.mem_cons_self)]
theorem Uf{w:Nat}:∀{a:List (List Nat)}{i j:Nat}{out:List Int},w<out.length->a.flatten.Nodup->(hj:j<a.length)->w∈a[j]->(jg a i out)[w]? =some ((i+j:Nat):Int)
 | [],i,j,out,_,_,hj,_=>by simp at hj
 |p::a,i,0,out,h,hn,_,hw=>by
  replace hw:w∈p:=hw;show(jg a (i+1) (jA i p out))[w]? =_;rw[List.flatten_cons,List.nodup_append]at hn;rw[Ue (by rw[uv];exact h) λq hq b=>hn.2.2 w hw w (List.mem_flatten.2 ⟨q,hq,b⟩) rfl,GZ h,if_pos hw];rfl
 |p::a,i,j+1,out,h,hn,hj,hw=>by
  show(jg a (i+1) (jA i p out))[w]? =_;rw[List.flatten_cons,List.nodup_append]at hn;rw[Uf (by rw[uv];exact h) hn.2.1 (by simpa using hj) (by simpa using hw)];congr 2;omega
theorem By{g:G}:∀{k c:Nat}{l:List Nat},1<=c->c<=k->(gT g k c l).length=c
 |0,c,l,h1,h2=>by omega
 | k+1,c,l,h1,h2=>by
  unfold gT;by_cases e:c=1
  ·rw[if_pos e,e];rfl
  ·rw[if_neg e,List.length_append,By (by omega) (by omega),By (by omega) (by omega)];omega
theorem xG{g:G}:∀{k c:Nat}{l:List Nat},(gT g k c l).flatten.Perm l
 |0,c,l=>by unfold gT;simp
 | k+1,c,l=>by
  unfold gT;by_cases e:c=1
  ·rw[if_pos e];simp
  ·rw[if_neg e,List.flatten_append];refine(List.Perm.append xG xG).trans ?_;rw[List.take_append_drop];exact xF
theorem af3{m c:Nat}(hc:2<=c):m*(c/2)/c<=m:=by
 apply Nat.div_le_of_le_mul;rw[Nat.mul_comm c m];exact Nat.mul_le_mul_left m (by omega)
open Go
section
variable{g:G}{c:Nat}
theorem af4:(gT g c c (List.range g.n)).flatten.Nodup:=(xG (g:=g)).nodup_iff.2 List.nodup_range
theorem af5{v j:Nat}(hj:j<(gT g c c (List.range g.n)).length)(hv:v∈(gT g c c (List.range g.n))[j]):(rY g c)[v]? =some (j:Int):=by
 have a:v<g.n:=by
  have :v∈(gT g c c (List.range g.n)).flatten:=List.mem_flatten.2 ⟨_,List.getElem_mem hj,hv⟩;exact List.mem_range.1 ((xG (g:=g)).mem_iff.1 this)
 unfold rY;rw[Uf (by rw[List.length_replicate];exact a) af4 hj hv];simp
theorem af6{v:Nat}(hv:v<g.n):∃j,∃hj:j<(gT g c c (List.range g.n)).length,v∈(gT g c c (List.range g.n))[j]:=by
 have :v∈(gT g c c (List.range g.n)).flatten:=(xG (g:=g)).mem_iff.2 (List.mem_range.2 hv);obtain⟨p,hp,a⟩:=List.mem_flatten.1 this;obtain⟨j,hj,e⟩:=List.getElem_of_mem hp;exact⟨j,hj,by rw[e];exact a⟩
theorem af7(hc:1<=c){v:Nat}(hv:v<g.n):∃j:Nat,(rY g c)[v]? =some (j:Int)/\j<c:=by
 obtain⟨j,hj,hm⟩:=af6 (c:=c) hv;exact⟨j,af5 hj hm,by rw[By hc (Nat.le_refl _)]at hj;exact hj⟩
theorem af8{l:List Nat}:(mD g l).1<4/\0<=(mD g l).2/\∀k,k<4->∀v∈l,∀w∈l,eL g k v-eL g k w<=(mD g l).2/\(k<(mD g l).1->eL g k v-eL g k w<(mD g l).2):=by
 obtain⟨h1,h2,h3,h4⟩:=T6 (f:=λd=>lK (eL g d) l) (λd=>T5) (i:=4) (by decide);refine⟨h1,?_,λk hk v hv w hw=> ?_⟩
 ·show 0<=(iE _ 4).2;rw[h2];exact T5
 ·have h5:=afW (f:=eL g k) hv hw;have h6:=h3 k hk;refine⟨Int.le_trans h5 h6,λa=> ?_⟩;have h7:=h4 k a;exact Int.lt_of_le_of_lt h5 h7
end
open Go
theorem qq{α:Type}{L:List α}{i:Nat}{r:α}(hi:L[i]? =some r):L.set i r=L:=by
 apply List.ext_getElem?;intro j;rw[List.getElem?_set];split
 ·rename_i e;subst e;rw[hi];simp[(List.getElem?_eq_some_iff.1 hi).1]
 ·rfl
def rv(xs:List Int)(k:Nat):List Int:=(List.range xs.length).map λm=>if m<k\/xs.length-k<=m then xs.getD (xs.length-1-m) 0 else xs.getD m 0
theorem pg{xs:List Int}{k:Nat}:(rv xs k).length=xs.length:=by simp[rv]
theorem uw{xs:List Int}{k m:Nat}(h:m<(rv xs k).length):(rv xs k)[m]=if m<k\/xs.length-k<=m then xs.getD (xs.length-1-m) 0 else xs.getD m 0:=by simp[rv]
theorem agh{xs:List Int}:rv xs 0=xs:=by
 apply List.ext_getElem pg;intro m h1 h2;rw[uw,if_neg (by omega),List.getD_eq_getElem?_getD,List.getElem?_eq_getElem h2];rfl
theorem agi{xs:List Int}{k:Nat}(h:xs.length<=2*k+1):rv xs k=xs.reverse:=by
 apply List.ext_getElem (by rw[pg,List.length_reverse]);intro m h1 h2;have h3:m<xs.length:=by rw[pg]at h1;exact h1
 rw[uw,List.getElem_reverse];split
 ·rw[List.getD_eq_getElem?_getD,List.getElem?_eq_getElem (by omega)];rfl
 ·have e:xs.length-1-m=m:=by omega
  rw[List.getD_eq_getElem?_getD,List.getElem?_eq_getElem h3];simp only[e,Option.getD_some]
theorem agj{xs:List Int}{k:Nat}(h:2*k+1<xs.length):
  ((rv xs k).set k ((rv xs k)[xs.length-1-k]'(by rw[pg];omega))).set (xs.length-1-k) ((rv xs k)[k]'(by rw[pg];omega))=rv xs (k+1):=by
 apply List.ext_getElem (by simp[pg]);intro m h1 h2;have h3:m<xs.length:=by rw[pg]at h2;exact h2
 rw[List.getElem_set,uw h2];split
 ·rename_i e;subst e;rw[uw,if_neg (by omega),if_pos (by omega),show xs.length-1-(xs.length-1-k)=k by omega]
 ·rw[List.getElem_set];split
  ·rename_i e;subst e;rw[uw,if_neg (by omega),if_pos (by omega)]
  ·rw[uw];by_cases c:m<k\/xs.length-k<=m
   ·rw[if_pos c,if_pos (by omega)]
   ·rw[if_neg c,if_neg (by omega)]
open Go
abbrev jT:=List PanicEntry->aa->Prop
def xI(w:World)(K:KT)(a:jT)(e:Ending)(w':World):Prop:=
 (∃v,e=.returned v/\cU w w'/\K v w'.heap)\/(∃c,e=.panicked c/\cU w w'/\a c w'.heap)
def xJ(P:Program)(f:FuncId)(args:Array Value)(h:aa)(K:KT)(a:jT):Prop:=
 iS P f=true/\∀w:World,w.heap=h->CallsIn Fence.wide 0 P f args w (xI w K a)
def Up(P:Program)(l:Nat)(f:FuncId)(tmps:Array Value)(assign body:Code)(h:aa)(K:KT)(a:jT):Prop:=
 ∀w:World,w.heap=h->RoundIn Fence.wide 0 P l f tmps assign body w (xI w K a)
def xK(P:Program)(v:Value)(args:Array Value)(h:aa)(K:KT)(b:jT):Prop:=
 match v with
 | .func (.func f) first captured=>xJ P f (first ++args++captured) h K b
 | .func (.yield l) first _=>(match h[l]? with
  |some (.loop L)=>(first ++args).size=L.params.size/\Up P l L.fn ((L.params.zip (first ++args)).foldl (λtmps(t,a)=>tmps.setIfInBounds t a) L.tmps) L.assign L.body h K b
  |_=>False)
 |_=>False
def BA(P:Program)(K:KT)(a:jT):Next->aa->Prop
 | .enter f args,h=>∀w:World,w.heap=h->CallsIn Fence.wide 0 P f args w (xI w K a)
 | .round l f tmps assign body,h=>Up P l f tmps assign body h K a
 |_,_=>False
section
variable{P:Program}
theorem agm{v:Value}{args:Array Value}{h:aa}{K:KT}{b:jT}(hq:xK P v args h K b):
  wpS P (do let d<-Deferred.ofValue v args;invoke d.target d.args) h (BA P K b):=by
 unfold xK at hq;split at hq
 ·refine bQ (gX _) ?_;obtain⟨hc,hk⟩:=hq;unfold iS at hc;split at hc
  ·rename_i fn hfn;simp only[Bool.and_eq_true,Bool.not_eq_true',beq_eq_false_iff_ne,ne_eq]at hc;have hb:fn.body.isNone=false:=by cases hx:fn.body<;>simp_all
   show wpS P (callFunc _ _) h _;unfold callFunc;refine bQ (a:=P) (by rfl) ?_;simp only[hfn,hb];rw[if_neg (by simpa using hc.2)];exact hk
  ·cases hc
 ·rename_i l first _
  refine bQ (gX _) ?_;split at hq
  ·rename_i L hL;show wpS P (Instr.yield l (first ++args)) h _;unfold Instr.yield Instr.getLoop;refine bQ (a:=L) (by rw[aU (a:=.loop L) (by simp[getObj,aT,hL])];rfl) ?_;rw[if_neg (by simpa using hq.1)];exact hq.2
  ·exact hq.elim
 ·exact hq.elim
def isX(o:Oper):Bool:=
 match o.op with
 | .panic _=>true
 | .call {callee:=.value _, ..}=>true
 | .typeAssert _ _ _ true=>true
 |_=>false
def agn:TypeDesc->Bool
 | .interface _=>true
 |_=>false
def G3 (P:Program) (n:Nat) (o:Oper) (e:bM) (h:aa) (K:bM->aa->Prop) (a:jT):Prop:=
 match o.guard with
 |some _=>False
 | none=>(match o.op with
  | .panic x=>(match oD e x,ev e x with
   |true,.iface t v=>a [{v:=.iface t v,recovered:=false}] h
   |_,_=>False)
  | .call c=>(match c.callee,sQ n o e with
   | .value f,true=>xK P (ev e f) (c.args.toList.map (ev e)).toArray h (λv h'=>K (kB e o.dst v) h') a
   |_,_=>False)
  | .typeAssert x _ t true=>(match sQ n o e,P.underlying t,ev e x with
   |true,some d,.iface t' v=>(match agn d,Nat.beq t' t with
    |false,true=>K (kB e o.dst (.tuple #[v,.bool true])) h
    |_,_=>False)
   |_,_,_=>False)
  |_=>False)
def pq(P:Program)(n:Nat)(ops:Array Oper)(a:jT):List Oper->bM->aa->(bM->aa->Prop)->Prop
 | [],e,h,K=>K e h
 |o::r,e,h,K=>(match isX o with
  |true=>G3 P n o e h (λe' h'=>pq P n ops a r e' h' K) a
  |false=>nL P n ops o e h λe' h'=>pq P n ops a r e' h' K)
variable{ops:Array Oper}{n:Nat}
theorem ago{ro:Option Nat}{o:Oper}{a:Act}{w:World}{Q:Exit->Act->World->Prop}{K:KT}{b:jT}{K':Act->World->Prop}
  (hp:mN o.op=true) (hs:wpS P (execOp a.eval o) w.heap (BA P K b))
  (hk:∀v w',cU w w'->K v w'.heap->K' (a.put o.dst v) w') (hkp:∀c w',cU w w'->b c w'.heap->Q (.panic c) a w'):o.wpIn (WF ro) 0 P a w K' Q:=by
 refine⟨λf _=>sO ro f,?_⟩;rw[yS hp];obtain⟨x,w',hr,hsame,hx⟩:=sA hs w rfl;rw[hr];cases x<;>simp only[BA]at hx<;>try exact hx.elim
 ·refine⟨λh=>by simp[u7]at h,?_⟩;refine(CC (hx w' rfl)).mono ?_;rintro e w'' (⟨v,rfl,hs',hv⟩|⟨c,rfl,hs',hv⟩)
  ·exact hk _ _ (hsame.trans hs') hv
  ·exact hkp _ _ (hsame.trans hs') hv
 ·refine⟨λh=>by simp[u7]at h,?_⟩;refine(Je (hx w' rfl)).mono ?_;rintro e w'' (⟨v,rfl,hs',hv⟩|⟨c,rfl,hs',hv⟩)
  ·exact hk _ _ (hsame.trans hs') hv
  ·exact hkp _ _ (hsame.trans hs') hv
theorem agp{ro:Option Nat}{i:Nat}{o:Oper}{e:bM}{a:Act}{w:World}{h:aa}{K:bM->aa->Prop}{b:jT}{K':Act->World->Prop}{Q:Exit->Act->World->Prop}
  (ho:ops[i]? =some o) (hr:Rel e a.tmps) (hn:a.tmps.size=n) (hw:w.heap=h) (hc:G3 P n o e h K b)
  (hk:∀e' a' w',Rel e' a'.tmps->a'.tmps.size=n->a'.defers=a.defers->cU w w'->Fr ops a.tmps a'.tmps->K e' w'.heap->K' a' w')
  (hkp:∀c w',cU w w'->b c w'.heap->Q (.panic c) a w'):wpOpIn (WF ro) 0 P ops Q i K' a w:=by
 subst hw;unfold G3 at hc;unfold wpOpIn;rw[ho];dsimp only;split at hc
 ·exact hc.elim
 ·rename_i hg;have l:Region.wanted o (yielded ops a.tmps)=true:=by simp[Region.wanted,hg]
  rw[if_pos l];split at hc
  ·rename_i x hop;split at hc
   ·rename_i hkn g;rename_i t v;refine⟨λf _=>sO ro f,?_⟩;rw[yS (by rw[hop];rfl)];have :(execOp a.eval o).run P w=.halt (.panic (.iface t v)) w:=by
     have he:a.eval x=.iface t v:=by rw[nH,<-hr.ev hkn];exact g
     unfold execOp;simp only[hop,he];rfl
    rw[this];exact hkp _ _ (.refl _) hc
   ·exact hc.elim
  ·rename_i c hop;split at hc
   ·rename_i f m hok;obtain⟨hp,j,hd⟩:=yV hok;rw[<-hn]at hd;have hs:wpS P (execOp (ev e) o) w.heap (BA P (λv h'=>K (kB e o.dst v) h') b):=by
     have core:execOp (ev e) o=(do let d<-Deferred.ofValue (ev e f) (c.args.map (ev e));invoke d.target d.args):=by
      unfold execOp;simp only[hop];unfold resolve;simp only[m]
     rw[core];have :=agm hc;simpa only[Cw]using this
    rw[yW hr hp j,<-nH]at hs;refine ago hp hs (λv w' hs' hv=> ?_) hkp;refine hk (kB e o.dst v) _ _ ?_ ?_ (put_defers _ _ _) hs' ?_ hv
    ·rw[oB];exact hr.put hd
    ·rw[oB,pO];exact hn
    ·rw[oB];exact Fr.put ho
   ·exact hc.elim
  ·rename_i x xt t hop;split at hc
   ·rename_i d t' v hok hd g;split at hc
    ·rename_i hni p;have q:=Nat.eq_of_beq_eq_true p;subst q;obtain⟨hp,j,k⟩:=yV hok;rw[<-hn]at k;have hs:aT P (execOp (ev e) o) w.heap=some (.value (.tuple #[v,.bool true])):=by
      unfold execOp;simp only[hop,g];refine(aU (a:=.tuple #[v,.bool true]) ?_).trans rfl;unfold Instr.typeAssert;rw[aU (cM hd)];cases d<;>first |(cases hni;done)|simp[gX]
     rw[yW hr hp j,<-nH]at hs;refine⟨λf _=>sO ro f,?_⟩;rw[yS hp,om hs w rfl];refine hk (kB e o.dst _) _ _ ?_ ?_ (put_defers _ _ _) (.refl _) ?_ hc
     ·rw[oB];exact hr.put k
     ·rw[oB,pO];exact hn
     ·rw[oB];exact Fr.put ho
    ·exact hc.elim
   ·exact hc.elim
  ·exact hc.elim
theorem G4{ro:Option Nat}{b:jT}{K:bM->aa->Prop}{Q:Exit->Act->World->Prop}(hp:pP ops):∀(l:List Oper)(k:Nat){e:bM}{a:Act}{w:World}{h:aa},ops.toList.drop k=l->Rel e a.tmps->a.tmps.size=n->w.heap=h->
  pq P n ops b l e h K->
  (∀e' a' w',Rel e' a'.tmps->a'.tmps.size=n->a'.defers=a.defers->cU w w'->Fr ops a.tmps a'.tmps->K e' w'.heap->Q .normal a' w')->
  (∀c a' w',a'.tmps.size=n->a'.defers=a.defers->cU w w'->Fr ops a.tmps a'.tmps->b c w'.heap->Q (.panic c) a' w')->
  wpOpsIn (WF ro) 0 P ops Q ((List.range ops.size).drop k) a w
 | [],k,e,a,w,h,hl,hr,hn,hw,hc,hq,_=>by
  subst hw;have :ops.size<=k:=by
   have :=congrArg List.length hl;simp at this;omega
  rw[List.drop_eq_nil_of_le (by simpa using this)];exact hq e a w hr hn rfl (.refl _) (.refl _) hc
 | o::r,k,e,a,w,h,hl,hr,hn,hw,hc,hq,g=>by
  subst hw;have hk:k<ops.size:=by
   have :=congrArg List.length hl;simp at this;omega
  have ho:ops[k]? =some o:=by
   have :(ops.toList.drop k)[0]? =some o:=by rw[hl];rfl
   simpa using this
  have hl':ops.toList.drop (k+1)=r:=by
   rw[<-List.drop_drop,hl];rfl
  have hd:(List.range ops.size).drop k=k::(List.range ops.size).drop (k+1):=by
   rw[List.drop_eq_getElem_cons (by simpa using hk)];simp
  rw[hd,wpOpsIn_cons];have next :∀e' a' w',Rel e' a'.tmps->a'.tmps.size=n->a'.defers=a.defers->cU w w'->Fr ops a.tmps a'.tmps->pq P n ops b r e' w'.heap K->
    wpOpsIn (WF ro) 0 P ops Q ((List.range ops.size).drop (k+1)) a' w':=λe' a' w' hr' hn' hd' hs' hf' d=>
   G4 hp r (k+1) hl' hr' hn' rfl d (λe2 a2 w2 i hn2 hd2 hs2 f hk2=>hq e2 a2 w2 i hn2 (hd2.trans hd') (hs'.trans hs2) (hf'.trans f) hk2)
    λc a2 w2 hn2 hd2 hs2 f hk2=>g c a2 w2 hn2 (hd2.trans hd') (hs'.trans hs2) (hf'.trans f) hk2
  simp only[pq]at hc;split at hc
  ·exact agp ho hr hn rfl hc next λc w' hs' hk'=>g c a w' hn rfl hs' (.refl _) hk'
  ·refine CE (hp k) (yX ho hr hn hc) ?_;rintro a' w' hd' hs' ⟨hf,e',hr',d⟩;exact next e' a' w' hr' (hf.1.trans hn) hd' hs' hf d
end
open Go
section
variable{P:Program}
theorem Uq{fn:Func}{t:Array Value}{R:Ending->World->Prop}{c:List PanicEntry}{a:aa->Prop}{w0:World}
  (hR:∀w,cU w0 w->a w.heap->R (.panicked c) w):∀(m:List Nat)(w:World),cU w0 w->cH m w.heap a->
  LeavesInM Fence.wide 0 P fn t R (marks m) (.panicking c) w
 | [],w,hs,hq=>hR _ hs hq
 |D::m,w,hs,hq=>by
  obtain⟨hD,hq⟩:=hq;refine⟨by simp,.inl ⟨D,{w with heap:=w.heap.setIfInBounds D (.deferred none)},rfl,?_,Uq hR m _ ⟨hs.os,hs.output,hs.tape,hs.drawn⟩ hq⟩⟩;simp[Instr.takeDeferred,getObj,setObj,bind,Sem.bind,Sem.run,hD,pure]
def agq(P:Program)(rs:List ResultVar)(K:KT)(a:jT):Exit->bM->List Nat->aa->Prop
 | .panic c,_,m,h=>cH m h (a c)
 |ex,e,m,h=>vC P rs K ex e m h
theorem Ur{fn:Func}{args:List Value}(hlen:args.length<=fn.ntmps):Rel (jJ args 0) (args.toArray++Array.replicate (fn.ntmps-args.toArray.size) undef)/\
  (args.toArray++Array.replicate (fn.ntmps-args.toArray.size) undef).size=fn.ntmps:=by
 refine⟨λs v hs=> ?_,by simp;omega⟩;obtain⟨_,h2⟩:=sY hs;rw[Nat.sub_zero]at h2;have hlt:s<args.length:=(List.getElem?_eq_some_iff.1 h2).1;rw[Array.getElem?_append_left (by simpa using hlt)];simpa using h2
def BB(P:Program)(f:FuncId)(args:Array Value)(c:List PanicEntry)(h:aa)(K:aa->Prop):Prop:=
 iS P f=true/\∀w:World,w.heap=h->CallsDIn Fence.wide 0 P f args (.panicking c) w λe u w'=>∃v,e=.returned v/\settle u=.returning/\cU w w'/\K w'.heap
theorem Us{f:FuncId}(b:iS P f=true)(args:Array Value)(w:World):(callFunc f args).run P w=.ok (.enter f args) w:=by
 unfold iS at b;split at b
 ·rename_i fn' hfn;simp only[Bool.and_eq_true,Bool.not_eq_true',beq_eq_false_iff_ne,ne_eq]at b;have hb:fn'.body.isNone=false:=by cases hx:fn'.body<;>simp_all
  have hrd:aT P (callFunc f args) w.heap=some (.enter f args):=by
   unfold callFunc;refine(aU (a:=P) (by rfl)).trans ?_;simp only[hfn,hb];rw[if_neg (by simpa using b.2)];rfl
  exact om hrd w rfl
 ·cases b
theorem Ut{fn:Func}{t:Array Value}{e:bM}{R:Ending->World->Prop}{K:KT}{w0:World}{f:FuncId}{cap:Array Value}{c:List PanicEntry}(hr:Rel e t)
  (hR:∀v w,cU w0 w->K v w.heap->R (.returned v) w):∀(m:List Nat)(w:World),cU w0 w->
  cH m w.heap (λh'=>BB P f cap c h' λh''=>fD P e h'' fn.results.toList λl=>K (jI l) h'')->
  LeavesInM Fence.wide 0 P fn t R (marks m++ [{target:=.fn (.func f) cap,args:= #[]}]) (.panicking c) w
 | [],w,hs,hq=>by
  obtain⟨a,hq⟩:=hq;refine⟨by simp,.inr ⟨(λh=>by cases h),.func f,cap,f,cap,rfl,?_,λ_ _=>trivial,(hq w rfl).mono ?_⟩⟩
  ·show(callFunc f (#[]++cap)).run P w=_;rw[Array.empty_append];exact Us a _ w
  ·rintro e' u w' ⟨v,rfl,hu,hs',hk⟩;show LeavesInM Fence.wide 0 P fn t R [] (settle u) w';rw[hu];exact s7 (K:=K) hr hR [] w' (hs.trans hs') hk
 |D::m,w,hs,hq=>by
  obtain⟨hD,hq⟩:=hq;refine⟨by simp,.inl ⟨D,{w with heap:=w.heap.setIfInBounds D (.deferred none)},rfl,?_,Ut hr hR m _ ⟨hs.os,hs.output,hs.tape,hs.drawn⟩ hq⟩⟩;simp[Instr.takeDeferred,getObj,setObj,bind,Sem.bind,Sem.run,hD,pure]
theorem agr{n:Nat}{ro:Option Nat}{id:Nat}{ops:Array Oper}{e:bM}{a:Act}{w:World}{h:aa}{K:bM->aa->Prop}{Q:Exit->Act->World->Prop}(b:qR ops.toList=true)(hr:Rel e a.tmps)(hn:a.tmps.size=n)(hw:w.heap=h)
  (hc:pq P n ops (λ_ _=>False) ops.toList e h K)
  (hq:∀e' a' w',Rel e' a'.tmps->a'.tmps.size=n->a'.defers=a.defers->cU w w'->K e' w'.heap->Q .normal a' w'):(Code.region id ops false).wpIn (WF ro) 0 P Q a w:=by
 refine wpIn_region ?_;have :=G4 (ro:=ro) (Q:=Q) (n:=n) (CO b) ops.toList 0 (a:=a) (w:=w) (by simp) hr hn hw hc
  (λe' a' w' hr' hn' hd' hs' _ hk'=>hq e' a' w' hr' hn' hd' hs' hk') (λc a' w' _ _ _ _ hk'=>hk'.elim)
 rwa[List.drop_zero]at this
def xL:Code->Array Oper
 | .region _ ops _=>ops
 |_=> #[]
end
open Go
section
variable{α:Type}{enc:α->List Value}{n:Nat}{T:TypeId}{h0 h h':aa}{v w:Value}{ys xs:List α}{K:Value->Prop}{KH:KT}{k:IntKind}{i:Nat}{L:List aM}
theorem agx{x:Value}{lo hi mx:Option Value}{a b:Value->Prop}(h1:dY n x lo hi mx a)(h2:∀v,a v->b v):dY n x lo hi mx b:=by
 unfold dY at *;split at h1
 ·split at h1
  ·rename_i e1 e2 e3;exact⟨h1.1,h1.2.1,h1.2.2.1,h1.2.2.2.1,h1.2.2.2.2.1,h2 _ h1.2.2.2.2.2⟩
  ·exact h1.elim
 ·exact h1.elim
theorem agy{β:Type}{x:Value}{lo hi mx:Option Value}{Q:β->Prop}{K:β->Value->Prop}(b0:β)(hb:Q b0)(h:∀b,Q b->dY n x lo hi mx (K b)):dY n x lo hi mx λv=>∀b,Q b->K b v:=by
 have h1:=h b0 hb;unfold dY at h h1 ⊢;split at h1
 ·split at h1
  ·rename_i e1 e2 e3;simp only[e1,e2,e3]at h ⊢;exact⟨h1.1,h1.2.1,h1.2.2.1,h1.2.2.2.1,h1.2.2.2.2.1,λb hb=>(h b hb).2.2.2.2.2⟩
  ·exact h1.elim
 ·exact h1.elim
theorem Vw.G6{lo hi:Option Value}{a j:Nat}(he:∀a,(enc a).length=n)(H:Vw enc n h v ys)(hlo:jk 0 lo=some (a:Int))(hhi:jk ys.length hi=some (j:Int))(hij:a<=j)(hj:j<=ys.length)
  (hK:∀v',(∀h',Vw enc n h' v ys->Vw enc n h' v' ((ys.drop a).take (j-a)))->K v'):dY n v lo hi none K:=
 agx (agy (Q:=λh'=>Vw enc n h' v ys) (K:=λh' v'=>Vw enc n h' v' ((ys.drop a).take (j-a))) h H λh' H'=>H'.sub he hlo hhi hij hj λv' h=>h) λv' h=>hK v' h
def QuR(enc:α->List Value)(n:Nat)(T:TypeId)(h:aa)(v:Value)(ys:List α):Prop:=
 (v=.slice none 0 0/\ys=[])\/∃bl cap pre rest,v=.slice (some ⟨bl,pre.length,none⟩) ys.length cap/\h[bl]? =some (.cells (pre++row enc ys++rest).toArray T (0,0))/\
  (cap-ys.length)*n<=rest.length/\ys.length<=cap
def iO(enc:α->List Value)(n:Nat)(T:TypeId)(v:Value)(ys:List α):aM:=⟨oK v,λh=>QuR enc n T h v ys,λ{h h'} hs hq=>by
 rcases hq with H|⟨bl,cap,pre,rest,rfl,hb,a,c⟩
 ·exact .inl H
 ·exact .inr ⟨bl,cap,pre,rest,rfl,(hs bl rfl).trans hb,a,c⟩⟩
theorem Own.que(o:Own h0 h L)(i:Nat)(hi:L[i]? =some (aA enc n T v xs)):Own h0 h (L.set i (iO enc n T v xs)):=by
 refine o.conv i hi ?_ λb hb=>hb;obtain⟨bl,H⟩:=o.get i hi;rcases H with H|⟨cap,rest,rfl,hb,a,c⟩
 ·exact .inl H
 ·exact .inr ⟨bl,cap,[],rest,rfl,hb,by omega,c⟩
theorem Own.xM(o:Own h0 h L)(i:Nat)(hi:L[i]? =some (iO enc n T v ys)):Vw enc n h v ys:=by
 rcases o.get i hi with ⟨rfl,rfl⟩|⟨bl,cap,pre,rest,rfl,hb,a,c⟩
 ·exact .nil
 ·exact⟨bl,_,cap,rfl,c,.inr ⟨_,pre,rest,T,_,rfl,hb,rfl⟩⟩
theorem Own.ak7{y:α}{hi':Option Value}(o:Own h0 h L)(he:∀a,(enc a).length=n)(i:Nat)(hi:L[i]? =some (iO enc n T v (y::ys)))(hh:hi'=none)
  (hK:∀v',Own h0 h (L.set i (iO enc n T v' ys))->K v'):dY n v (some (.int k 1)) hi' none K:=by
 subst hh;rcases o.get i hi with ⟨rfl,h⟩|⟨bl,cap,pre,rest,rfl,hb,a,c⟩
 ·cases h
 ·simp only[List.length_cons]at c a;refine⟨by simp,by simp,by simp;omega,by simp;omega,by simp,?_⟩;refine hK _ (o.conv i hi ?_ ?_)
  ·refine .inr ?_;simp only[List.length_cons,Int.toNat_natCast];unfold fN;by_cases hc:cap=1
   ·subst hc;have :ys=[]:=List.eq_nil_of_length_eq_zero (by omega);subst this;refine⟨bl,0,pre,enc y++rest,by simp,by rw[hb];simp[row],by simp,by simp⟩
   ·refine⟨bl,cap-1,pre++enc y,rest,?_,by rw[hb];simp[row],?_,by omega⟩
    ·rw[if_neg (by simp;omega)];simp[he]
    ·rw[show cap-1-ys.length=cap-(ys.length+1) by omega];exact a
  ·intro b hb';unfold fN at hb';split at hb'
   ·exact hb'
   ·exact hb'
theorem Own.agz{xs:List Int}{j:Nat}{a:Int}(o:Own h0 h L)(i:Nat)(hi:L[i]? =some (aA aG 1 T v xs))(hj:j<=xs.length)
  (hK:∀h',Own h0 h' (L.set i (aA aG 1 T v (xs.take j++List.replicate (xs.length-j) a)))->KH (.tuple #[]) h'):dY 1 v (some (.int k j)) none none λt=>sG [I a] t h KH:=by
 have hrow:∀l:List Int,row aG l=l.map I:=λl=>by
  induction l with
  |nil=>rfl
  |cons a l ih=>simp only[row,List.flatMap_cons,List.map_cons]at ih ⊢;rw[ih];rfl
 have same:j=xs.length->L.set i (aA aG 1 T v (xs.take j++List.replicate (xs.length-j) a))=L:=λe=>by
  subst e;rw[List.take_length,Nat.sub_self,List.replicate_zero,List.append_nil];apply List.ext_getElem?;intro q;rw[List.getElem?_set];split
  ·rename_i e;subst e;rw[hi];simp[(List.getElem?_eq_some_iff.1 hi).1]
  ·rfl
 obtain⟨bl,H⟩:=o.get i hi;rcases H with ⟨rfl,rfl⟩|⟨cap,rest,rfl,hb,hr,hle⟩
 ·have e0:j=0:=by simpa using hj
  subst e0;refine⟨by simp,by simp,by simp,by simp,by simp,?_⟩;have e:fN 1 (Int.toNat ((0:Nat):Int)) (Int.toNat ((0:Nat):Int)) none=none:=by simp[fN]
  rw[e];show KH (.tuple #[]) h;exact hK h (by rw[same rfl];exact o)
 ·have c:=dN hb;refine⟨by simp,by simp,by simp;omega,by simp;omega,by simp,?_⟩;simp only[Int.toNat_natCast];by_cases e:xs.length=j
  ·have hlen:xs.length-j=0:=by omega
   have ho:=hK h (by rw[same e.symm];exact o);rw[hlen];unfold fN;split
   ·exact ho
   ·exact ho
  ·have d:fN 1 j cap (some ⟨bl,0,none⟩)=some ⟨bl,j,none⟩:=by
    unfold fN;rw[if_neg (by omega)];simp
   rw[d];obtain⟨q,hq⟩:∃q,xs.length-j=q+1:=⟨xs.length-j-1,by omega⟩;rw[hq];show kX h bl j (bO [I a] (q+1)) (KH (.tuple #[]));rw[<-hq];have hz:bO [I a] (xs.length-j)=List.replicate (xs.length-j) (I a):=by simp[bO]
   rw[hz];refine s8 _ _ _ _ hb (by rw[List.length_append,hrow];simp;omega) (λu hu=>by rw[List.eq_of_mem_replicate hu];rfl) ?_;have f:over (row aG xs++rest) j (List.replicate (xs.length-j) (I a))=row aG (xs.take j++List.replicate (xs.length-j) a)++rest:=by
    rw[hrow,hrow];unfold over;have hl:(List.map (λx=>I x) xs).length=xs.length:=by simp
    rw[List.length_replicate,List.take_append_of_le_length (by rw[hl];omega),show j+(xs.length-j)=(List.map (λx=>I x) xs).length by rw[hl];omega,List.drop_left']
    ·simp[List.map_take]
    ·rfl
   rw[f];refine hK _ (o.set i hi (bB.bn _ _ rfl) ⟨bl,.inr ⟨cap,rest,by simp;omega,gN c,by simp;rw[hr];congr 1;simp;omega,by simp;omega⟩⟩ λb hb'=>⟨.inl hb',by rw[gx];exact(show b=bl from hb')▸c⟩)
theorem Own.pre{j:Nat}(o:Own h0 h L)(he:∀a,(enc a).length=n)(i:Nat)(hi:L[i]? =some (aA enc n T v xs))(hj:j<=xs.length)
  (hK:∀v',Own h0 h (L.set i (aA enc n T v' (xs.take j)))->K v'):dY n v none (some (.int k j)) none K:=by
 obtain⟨bl,H⟩:=o.get i hi;have H0:=H;rcases H with ⟨rfl,rfl⟩|⟨cap,rest,rfl,hb,hr,hle⟩
 ·have :j=0:=by simpa using hj
  subst this;refine⟨by simp,by simp,by simp,by simp,by simp,hK _ (o.conv i hi ⟨bl,?_⟩ ?_)⟩
  ·exact .inl ⟨by simp[fN],by simp⟩
  ·intro b hb;simp[fN,aA,oK]at hb
 ·exact H0.pre he hj λv' H'=>hK v' (o.conv i hi ⟨bl,H'⟩ λb hb=>H'.blk hb)
theorem Own.agA{y:α}{m:Int}{k' k'':IntKind}(o:Own h0 h L)(he:∀a,(enc a).length=n)(i:Nat)(hi:L[i]? =some (iO enc n T v (y::ys)))(hm:m=ys.length+1)
  (hK:∀v',Own h0 h (L.set i (iO enc n T v' ys))->K v'):dY n v (some (.int k 1)) (some (.int k' m)) (some (.int k'' m)) K:=by
 subst hm;rcases o.get i hi with ⟨rfl,h⟩|⟨bl,cap,pre,rest,rfl,hb,a,c⟩
 ·cases h
 ·simp only[List.length_cons]at c a;refine⟨λ_=>rfl,by decide,by omega,Int.le_refl _,by omega,?_⟩;have e1:(Int.toNat (1:Int))=1:=rfl;have e2:((ys.length:Int)+1).toNat=ys.length+1:=by omega
  rw[e1,e2,Nat.add_sub_cancel];refine hK _ (o.conv i hi ?_ ?_)
  ·refine .inr ?_;unfold fN;by_cases hc:ys.length=0
   ·have :ys=[]:=List.eq_nil_of_length_eq_zero hc;subst this;refine⟨bl,0,pre,enc y++rest,by simp,by rw[hb];simp[row],by simp,by simp⟩
   ·refine⟨bl,ys.length,pre++enc y,rest,?_,by rw[hb];simp[row],by simp,Nat.le_refl _⟩;rw[if_neg (by omega)];simp[he]
  ·intro b hb';unfold fN at hb';split at hb'
   ·exact hb'
   ·exact hb'
theorem Own.agB{x:Value}{xs ys:List α}(o:Own h0 h L)(i:Nat)(hi:L[i]? =some (aA enc n T v xs))(he:∀a,(enc a).length=n)(hp:∀a,∀u∈enc a,plainCell u=true)(hx:Vw enc n h x ys)(hl:xs.length=ys.length)
  (hK:∀h',Own h0 h' (L.set i (aA enc n T v ys))->KH (.int .i64 ys.length) h'):jl n v x h KH:=by
 obtain⟨c,xc,rfl,b⟩:=hx.cells he;obtain⟨bl,H⟩:=o.get i hi;have H0:=H;rcases H with ⟨rfl,rfl⟩|⟨cap,rest,rfl,hb,hr,hle⟩
 ·have :ys=[]:=List.eq_nil_of_length_eq_zero hl.symm;subst this;unfold jl;have :gM h n (Nat.min ([]:List α).length 0) c=some []:=by
   have e:(Nat.min ([]:List α).length 0)=([]:List α).length:=rfl;rw[e,b];rfl
  simp only[this];refine hK h ?_;have :L.set i (aA enc n T (.slice none 0 0) [])=L:=by
   apply List.ext_getElem?;intro q;rw[List.getElem?_set];split
   ·rename_i e;subst e;rw[hi];simp[(List.getElem?_eq_some_iff.1 hi).1]
   ·rfl
  rw[this];exact o
 ·unfold jl;have hmin:Nat.min ys.length xs.length=ys.length:=by rw[hl];exact Nat.min_self _
  simp only[hmin,b];have hz:(0:Nat)=0*n:=by simp
  rw[hz];refine o.vO i hi he hp H0 rfl (by omega) λh' o'=>hK h' ?_;have e:xs.take 0++ys++xs.drop (0+ys.length)=ys:=by
   rw[List.take_zero,List.nil_append,Nat.zero_add,List.drop_of_length_le (by omega),List.append_nil]
  rw[e]at o';exact o'
end
open Go
structure Ev where
 kind:Int
 side:Int
 id:Int
 label:Int
 deriving DecidableEq
abbrev dA(e:Ev):List Value:=[I e.kind,I e.side,I e.id,I e.label]
theorem n7(e:Ev):(dA e).length=4:=rfl
theorem uB(e:Ev):∀u∈dA e,plainCell u=true:=by
 intro u hu;simp at hu;rcases hu with rfl|rfl|rfl|rfl<;>rfl
theorem Hf(e:Ev):(Value.cells (.agg (dA e).toArray)).toList=dA e:=rfl
def Ev.key(e:Ev):rj:=(e.kind,e.side,e.id)
def kM(n m:Nat)(k:Int):Int:=if k=0 then n else if k=1 then m else 0
def xP(n m:Nat)(e:Ev):Prop:=0<=e.id/\e.id<kM n m e.kind/\(e.side=0\/e.side=1)/\(e.kind=0\/e.label=0)
instance {n m:Nat} {e:Ev}:Decidable (xP n m e):=by unfold xP;infer_instance
def jB(n m:Nat)(e:Ev):Bool:=decide (xP n m e)
def mE(n m:Nat)(l:List Ev):Prop:=∀i e,l[i]? =some e->jB n m e=true/\e.key∉(l.take i).map Ev.key
def iP(l:List Ev)(side:Int):Int:=l.foldl (λa e=>if e.kind=0/\e.side=side then e.id else a) (-1)
theorem Hg{l:List Ev}{e:Ev}{side:Int}:iP (l++ [e]) side=if e.kind=0/\e.side=side then e.id else iP l side:=by
 unfold iP;rw[List.foldl_append];rfl
def qu(g:G)(e:Ev):Int:=match g.ag[e.id.toNat]? with
 |some a=>if e.side=1 then(a.t:Int)else(a.f:Int)
 |none=>0
def lN(g:G)(l:List Ev):Prop:=∀i e,l[i]? =some e->jB g.n g.ag.length e=true/\(e.kind≠0->iP (l.take i) e.side=qu g e)
def Hi(p:Nat->Bool)(n:Nat)(r:Int):Prop:=(r= -1/\∀k,k<n->p k=false)\/∃i,r=(i:Nat)/\i<n/\p i=true/\∀k,k<i->p k=false
theorem Hi.any{p:Nat->Bool}{n:Nat}{r:Int}(a:Hi p n r):(decide (0<=r)=true↔∃k,k<n/\p k=true):=by
 rw[decide_eq_true_eq];rcases a with ⟨rfl,h1⟩|⟨i,rfl,h1,h2,h3⟩
 ·exact⟨λh=>by omega,λ⟨k,h,hk⟩=>by rw[h1 k h]at hk;cases hk⟩
 ·exact⟨λ_=>⟨i,h1,h2⟩,λ_=>by omega⟩
open Go
structure BS where
 hp:List HP
 lab:Int->Option Int
 bF:Int->Option Int
 ord:List Nat
def BS.zero:BS:=⟨[],λ_=>none,λ_=>none,[]⟩
def BS.put(π:Nat->Int)(b:BS)(v:Nat)(a d:Int):BS where
 hp:=((v:Int),2*d+π v)::(match b.lab v with
  |some was=>b.hp.erase ((v:Int),2*was+π v)
  |none=>b.hp)
 lab:=λz=>if z=(v:Int)then some d else b.lab z
 bF:=λz=>if z=(v:Int)then some a else b.bF z
 ord:=b.ord
def BS.takes(cB:Nat->Bool)(b:BS)(v:Nat)(d:Int):Bool:=cB v&&(!b.ord.contains v&&(match b.lab v with
 |some was=> !decide (was<=d)
 |none=>true))
def BS.pop(b:BS)(v:Nat)(k:Int):BS:={b with hp:=b.hp.erase ((v:Int),k),ord:=b.ord++ [v]}
inductive Bk(l:List A)(tl hd:A->Nat)(ok:Nat->Bool)(bF:Int->Option Int)(ord:List Nat)(src:Nat):Nat->List Nat->Int->Prop
 |nil:bF src=some (-1)->Bk l tl hd ok bF ord src src [] 0
 | cons {i:Nat} {r:List Nat} {d:Int}:bF (hd (aD l i))=some (i:Int)->i<l.length->ok i=true->tl (aD l i)∈ord->Bk l tl hd ok bF ord src (tl (aD l i)) r d->
   Bk l tl hd ok bF ord src (hd (aD l i)) (i::r) (d+(aD l i).w)
section
variable{l:List A}{tl hd:A->Nat}{ok:Nat->Bool}{n src:Nat}{cB:Nat->Bool}{π:Nat->Int}{Fe:Prop}
theorem Bk.keep{bF a:Int->Option Int}{ord ord':List Nat}{u:Nat}{r:List Nat}{d:Int}(h:Bk l tl hd ok bF ord src u r d)(ha:∀w∈ord,a (w:Int)=bF w)(hs:∀w∈ord,w∈ord'):
  a (u:Int)=bF u->Bk l tl hd ok a ord' src u r d:=by
 induction h with
 |nil h=>intro hu;exact .nil (hu.trans h)
 |cons h1 h2 h3 h4 _ ih=>intro hu;exact .cons (hu.trans h1) h2 h3 (hs _ h4) (ih (ha _ h4))
structure SI(l:List A)(tl hd:A->Nat)(ok:Nat->Bool)(n src:Nat)(cB:Nat->Bool)(π:Nat->Int)(Fe:Prop)(b:BS)(B:Int):Prop where
 ids:(b.hp.map (·.1)).Nodup
 cr:∀p∈b.hp,∃u:Nat,p.1=u/\u∉b.ord/\∃d,b.lab u=some d/\p.2=2*d+π u
 lab:∀z d,b.lab z=some d->∃u:Nat,z=u/\u<n/\cB u=true/\0<=d/\d<=B/\(u∈b.ord\/((u:Int),2*d+π u)∈b.hp)
 ord:b.ord.Nodup
 xQ:∀v∈b.ord,∃d,b.lab (v:Int)=some d
 bk:∀(u:Nat) d,b.lab u=some d->∃r,Bk l tl hd ok b.bF b.ord src u r d/\r.length<=(if u∈b.ord then b.ord.idxOf u else b.ord.length)
 mono:Fe->∀c∈b.ord,∀dc,b.lab (c:Int)=some dc->∀p∈b.hp,2*dc+π c<=p.2
 zero:∀d,b.lab (src:Int)=some d->d=0
 fst:b.ord=[]->∀p∈b.hp,p.1=(src:Int)
 hd:∀v,b.ord.head? =some v->v=src
variable{b:BS}{B B':Int}
theorem SI.start:SI l tl hd ok n src cB π Fe BS.zero 0:=by
 refine⟨by simp[BS.zero],λp h=>by simp[BS.zero]at h,λz d h=>by simp[BS.zero]at h,by simp[BS.zero],λv h=>by simp[BS.zero]at h,λu d h=>by simp[BS.zero]at h,
  λ_ c h=>by simp[BS.zero]at h,λd h=>by simp[BS.zero]at h,λ_ p h=>by simp[BS.zero]at h,λv h=>by simp[BS.zero]at h⟩
theorem SI.more(H:SI l tl hd ok n src cB π Fe b B)(h:B<=B'):SI l tl hd ok n src cB π Fe b B':=
 ⟨H.ids,H.cr,λz d hz=>by obtain⟨u,a,c,e,f,g,k⟩:=H.lab z d hz;exact⟨u,a,c,e,f,by omega,k⟩,H.ord,H.xQ,H.bk,H.mono,H.zero,H.fst,H.hd⟩
theorem SI.UE(H:SI l tl hd ok n src cB π Fe b B):∀v∈b.ord,v<n/\cB v=true:=λv hv=>by
 obtain⟨d,hd⟩:=H.xQ v hv;obtain⟨u,e,h1,h2,_⟩:=H.lab _ _ hd;obtain rfl:=Int.ofNat.inj e;exact⟨h1,h2⟩
theorem SI.qv(H:SI l tl hd ok n src cB π Fe b B):b.ord.length<=n:=iL H.ord λv hv=>(H.UE v hv).1
theorem SI.Hj(H:SI l tl hd ok n src cB π Fe b B){v:Nat}(h:b.lab v=none):∀p∈b.hp,p.1≠(v:Int):=λp hp e=>by
 obtain⟨u,h1,h2,d,h3,_⟩:=H.cr p hp;rw[<-h1,e,h]at h3;cases h3
theorem SI.hlen(H:SI l tl hd ok n src cB π Fe b B):b.hp.length<=n:=by
 have h1:(b.hp.map (·.1.toNat)).length<=n:=iL (by
  have e:b.hp.map (·.1.toNat)=(b.hp.map (·.1)).map Int.toNat:=by simp
  rw[e,List.nodup_iff_pairwise_ne,List.pairwise_map];refine(List.nodup_iff_pairwise_ne.1 H.ids).imp_of_mem λ{x y} hx hy hne e=>hne ?_;obtain⟨p,hp,rfl⟩:=List.mem_map.1 hx;obtain⟨q,hq,rfl⟩:=List.mem_map.1 hy;obtain⟨u,e1,_⟩:=H.cr p hp;obtain⟨w,e2,_⟩:=H.cr q hq;rw[e1,e2]at e ⊢;have e':u=w:=by simpa using e
  rw[e']) (λx hx=>by
  obtain⟨p,hp,rfl⟩:=List.mem_map.1 hx;obtain⟨u,e1,_,d,e2,_⟩:=H.cr p hp;obtain⟨u',e3,a,_⟩:=H.lab _ _ e2;obtain rfl:=Int.ofNat.inj e3;rw[e1];simpa using a)
 simpa using h1
theorem xS{v:Nat}{a d:Int}{p:HP}:p∈(b.put π v a d).hp↔p=((v:Int),2*d+π v)\/p∈(match b.lab v with|some was=>b.hp.erase ((v:Int),2*was+π v)|none=>b.hp):=by
 simp[BS.put]
theorem SI.put(H:SI l tl hd ok n src cB π Fe b B){v:Nat}{a d:Int}(hv:v<n)(ho:cB v=true)(hno:v∉b.ord)(h0:0<=d)(hB:d<=B)
  (hbk:∃r,Bk l tl hd ok (b.put π v a d).bF b.ord src v r d/\r.length<=b.ord.length) (hm:Fe->∀c∈b.ord,∀dc,b.lab (c:Int)=some dc->2*dc+π c<=2*d+π v)
  (hz:v=src->d=0) (hf:b.ord=[]->v=src):SI l tl hd ok n src cB π Fe (b.put π v a d) B:=by
 have rest:∀p,p∈(match b.lab v with|some was=>b.hp.erase ((v:Int),2*was+π v)|none=>b.hp)->p∈b.hp/\p.1≠(v:Int):=by
  intro p hp;cases hl:b.lab v with
  |none=>rw[hl]at hp;exact⟨hp,H.Hj hl p hp⟩
  |some was=>
   rw[hl]at hp;obtain⟨u,e,_,_,_,_,h1⟩:=H.lab _ _ hl;obtain rfl:=Int.ofNat.inj e;exact⟨List.mem_of_mem_erase hp,not_mem_erase H.ids (h1.resolve_left hno) hp⟩
 have back:∀p∈b.hp,p.1≠(v:Int)->p∈(b.put π v a d).hp:=by
  intro p hp hne;refine xS.2 (.inr ?_);cases hl:b.lab v with
  |none=>exact hp
  |some was=>exact(List.mem_erase_of_ne λe=>hne (by rw[e])).2 hp
 have f:∀z,(b.put π v a d).lab z=if z=(v:Int)then some d else b.lab z:=λz=>rfl;have keep:∀w∈b.ord,(b.put π v a d).bF (w:Int)=b.bF w:=λw hw=>by
  have :¬(w:Int)=v:=λe=>hno (by rw[<-Int.ofNat.inj e];exact hw);show(if(w:Int)=(v:Int)then some a else b.bF w)=_;rw[if_neg this]
 refine⟨?_,?_,?_,H.ord,?_,?_,?_,?_,?_,H.hd⟩
 ·simp only[BS.put,List.map_cons,List.nodup_cons];refine⟨λhx=> ?_,?_⟩
  ·obtain⟨p,hp,e⟩:=List.mem_map.1 hx;exact(rest p hp).2 e
  ·cases hl:b.lab v with
   |none=>exact H.ids
   |some was=>exact tn.nodup H.ids
 ·intro p hp;rcases xS.1 hp with rfl|hp
  ·exact⟨v,rfl,hno,d,by rw[f,if_pos rfl],rfl⟩
  ·obtain⟨h1,h2⟩:=rest p hp;obtain⟨u,e1,e2,d',e3,i⟩:=H.cr p h1;refine⟨u,e1,e2,d',?_,i⟩;rw[f,if_neg (by rw[<-e1];exact h2)];exact e3
 ·intro z d' g;rw[f]at g;split at g
  ·rename_i e;obtain rfl:=Option.some.inj g;exact⟨v,e,hv,ho,h0,hB,.inr (xS.2 (.inl rfl))⟩
  ·rename_i hne;obtain⟨u,e,c1,c2,c3,c4,j⟩:=H.lab z d' g;refine⟨u,e,c1,c2,c3,c4,j.imp id λh=>back _ h ?_⟩;rw[<-e];exact hne
 ·intro w hw;obtain⟨d',hd'⟩:=H.xQ w hw;refine⟨d',?_⟩;rw[f,if_neg λe=>hno (by rw[<-Int.ofNat.inj e];exact hw)];exact hd'
 ·intro u d' hu;rw[f]at hu;split at hu
  ·rename_i e;obtain rfl:=Int.ofNat.inj e;obtain rfl:=Option.some.inj hu;obtain⟨r,h1,h2⟩:=hbk;refine⟨r,h1,?_⟩;show r.length<=if u∈b.ord then _ else _;rw[if_neg hno];exact h2
  ·rename_i hne;obtain⟨r,h1,h2⟩:=H.bk u d' hu;refine⟨r,h1.keep keep (λw h=>h) ?_,h2⟩;show(if(u:Int)=(v:Int)then some a else b.bF u)=_;rw[if_neg hne]
 ·intro hF c hc dc hdc p hp;rw[f,if_neg λe=>hno (by rw[<-Int.ofNat.inj e];exact hc)]at hdc;rcases xS.1 hp with rfl|hp
  ·exact hm hF c hc dc hdc
  ·exact H.mono hF c hc dc hdc p (rest p hp).1
 ·intro d' hd';rw[f]at hd';split at hd'
  ·rename_i e;obtain rfl:=Option.some.inj hd';exact hz (Int.ofNat.inj e).symm
  ·exact H.zero d' hd'
 ·intro he p hp;rcases xS.1 hp with rfl|hp
  ·show(v:Int)=src;rw[hf he]
  ·exact H.fst he p (rest p hp).1
theorem SI.pop(H:SI l tl hd ok n src cB π Fe b B){v:Nat}{k:Int}(hm:((v:Int),k)∈b.hp)(hmin:∀q∈b.hp,¬hl q ((v:Int),k)=true):
  SI l tl hd ok n src cB π Fe (b.pop v k) B/\v∉b.ord/\v<n/\cB v=true/\(∃d,b.lab v=some d/\k=2*d+π v/\0<=d/\d<=B)/\
   (Fe->∀c∈(b.pop v k).ord,∀dc,b.lab (c:Int)=some dc->2*dc+π c<=k):=by
 obtain⟨u,e,hno,d,hd,hk⟩:=H.cr _ hm;obtain rfl:=Int.ofNat.inj e;obtain⟨u',e',hn,ho,h0,hB,_⟩:=H.lab _ _ hd;obtain rfl:=Int.ofNat.inj e';have hk:k=2*d+π v:=hk;have i:Fe->∀c∈b.ord++ [v],∀dc,b.lab (c:Int)=some dc->2*dc+π c<=k:=by
  intro hF c hc dc hdc;rcases List.mem_append.1 hc with hc|hc
  ·exact H.mono hF c hc dc hdc _ hm
  ·obtain rfl:=List.mem_singleton.1 hc;rw[hd]at hdc;obtain rfl:=Option.some.inj hdc;omega
 refine⟨⟨tn.nodup H.ids,λp hp=> ?_,λz d' hz=> ?_,?_,λw hw=> ?_,λw d' hw=> ?_,λhF c hc dc hdc p hp=> ?_,H.zero,λh=> ?_,λw hw=> ?_⟩,hno,hn,ho,⟨d,hd,hk,h0,hB⟩,i⟩
 ·have h1:=List.mem_of_mem_erase hp;obtain⟨w,e1,e2,e3⟩:=H.cr p h1;refine⟨w,e1,λh=> ?_,e3⟩;rcases List.mem_append.1 h with h|h
  ·exact e2 h
  ·obtain rfl:=List.mem_singleton.1 h;exact not_mem_erase H.ids hm hp e1
 ·obtain⟨w,e1,c1,c2,c3,c4,j⟩:=H.lab z d' hz;refine⟨w,e1,c1,c2,c3,c4,?_⟩;by_cases f:w=v
  ·exact .inl (by rw[f];exact List.mem_append_right _ List.mem_cons_self)
  ·refine j.imp (List.mem_append_left _) λh=>(List.mem_erase_of_ne λe=>f ?_).2 h;exact Int.ofNat.inj (congrArg Prod.fst e)
 ·show(b.ord++ [v]).Nodup;rw[List.nodup_append];refine⟨H.ord,by simp,λa ha c hc e'=> ?_⟩;have hc:=List.mem_singleton.1 hc;rw[hc]at e';exact hno (e'▸ha)
 ·rcases List.mem_append.1 hw with hw|hw
  ·exact H.xQ w hw
  ·obtain rfl:=List.mem_singleton.1 hw;exact⟨d,hd⟩
 ·obtain⟨r,h1,h2⟩:=H.bk w d' hw;refine⟨r,h1.keep (λ_ _=>rfl) (λ_ h=>List.mem_append_left _ h) rfl,?_⟩;show r.length<=if w∈b.ord++ [v]then(b.ord++ [v]).idxOf w else(b.ord++ [v]).length;by_cases g:w∈b.ord
  ·rw[if_pos g]at h2;rw[if_pos (List.mem_append_left _ g),List.idxOf_append,if_pos g];exact h2
  ·rw[if_neg g]at h2;by_cases f:w=v
   ·subst f;rw[if_pos (List.mem_append_right _ List.mem_cons_self),List.idxOf_append,if_neg hno];omega
   ·rw[if_neg (by simp[g,f]),List.length_append];omega
 ·have h1:=i hF c hc dc hdc;have h2:=hmin p (List.mem_of_mem_erase hp);rw[mq]at h2;omega
 ·simp[BS.pop]at h
 ·cases ho:b.ord with
  |nil=>
   have hw:(b.ord++ [v]).head?=some w:=hw;rw[ho]at hw;obtain rfl:=Option.some.inj hw;exact Int.ofNat.inj (H.fst ho _ hm)
  |cons a r=>
   have hw:(b.ord++ [v]).head?=some w:=hw;rw[ho]at hw;exact H.hd w (by rw[ho];exact hw)
end
open Go
def sI(x:Bool):Int:=if x then 1 else 0
theorem UF{x y:Bool}:sI x=sI y↔x=y:=by cases x<;>cases y<;>decide
theorem UG(x:Bool):sI x=0\/sI x=1:=by cases x<;>decide
def c7(x:Bool)(a:A):Nat:=if x then a.t else a.f
def cS(x:Bool)(a:A):Nat:=if x then a.f else a.t
structure dh where
 x:Bool
 v:Nat
 d:Int
def hG(x:Bool)(i:Nat):Ev:=⟨1,sI x,i,0⟩
def jU(s:dh):Ev:=⟨0,sI s.x,s.v,s.d⟩
def nu(outs:Bool->Nat->List Nat)(s:dh):List Ev:=jU s::(outs s.x s.v).map (hG s.x)
def cK(outs:Bool->Nat->List Nat)(st:List dh):List Ev:=st.flatMap (nu outs)
theorem ag1{outs:Bool->Nat->List Nat}:cK outs []=[]:=rfl
theorem Hq{outs:Bool->Nat->List Nat}{a b:List dh}:cK outs (a++b)=cK outs a++cK outs b:=List.flatMap_append
theorem UH{outs:Bool->Nat->List Nat}{s:dh}{b:List dh}:cK outs (s::b)=nu outs s++cK outs b:=rfl
theorem Hr{outs:Bool->Nat->List Nat}{s:dh}:cK outs [s]=nu outs s:=by simp[cK]
structure nv(g:G)(outs:Bool->Nat->List Nat):Prop where
 mem:∀x v i,i∈outs x v->i<g.ag.length/\c7 x (aD g.ag i)=v
 nd:∀x v,(outs x v).Nodup
theorem Ht{q:A->Bool}:∀{l:List A}{i:Nat},(fT q l i).Pairwise (· < ·)
 | [],_=>.nil
 | a::l,i=>by
  simp only[fT];split
  ·refine List.pairwise_cons.2 ⟨λj hj=> ?_,Ht⟩;have :=(mo.1 hj).1;omega
  ·exact Ht
theorem UI{q:A->Bool}{l:List A}{i:Nat}:(fT q l i).Nodup:=List.Pairwise.imp (λh=>Nat.ne_of_lt h) Ht
def gz(g:G)(x:Bool)(v:Nat):List Nat:=if x then g.in v else g.out v
theorem uC{g:G}:nv g (gz g):=by
 refine⟨λx v i hi=> ?_,λx v=> ?_⟩
 ·cases x with
  |false=>
   obtain⟨_,h1,h2⟩:=mo.1 (show i∈g.out v from hi);simp only[Nat.sub_zero]at h1 h2;refine⟨h1,?_⟩;show(aD g.ag i).f=v;simpa[aD,h1]using h2
  |true=>
   obtain⟨_,h1,h2⟩:=mo.1 (show i∈g.in v from hi);simp only[Nat.sub_zero]at h1 h2;refine⟨h1,?_⟩;show(aD g.ag i).t=v;simpa[aD,h1]using h2
 ·cases x
  ·exact UI
  ·exact UI
theorem nv.filter{g:G}{outs:Bool->Nat->List Nat}(H:nv g outs)(p:Nat->Bool):nv g (λx v=>(outs x v).filter p):=
 ⟨λx v i hi=>H.mem x v i (List.mem_filter.1 hi).1,λx v=>(H.nd x v).filter p⟩
section
variable{g:G}{outs:Bool->Nat->List Nat}{st:List dh}{l:List Ev}
theorem Hu{e:Ev}:e∈cK outs st↔∃s∈st,e=jU s\/∃i∈outs s.x s.v,e=hG s.x i:=by
 simp only[cK,List.mem_flatMap,nu,List.mem_cons,List.mem_map];exact⟨λ⟨s,hs,h⟩=>⟨s,hs,h.imp id λ⟨i,a,b⟩=>⟨i,a,b.symm⟩⟩,λ⟨s,hs,h⟩=>⟨s,hs,h.imp id λ⟨i,a,b⟩=>⟨i,a,b.symm⟩⟩⟩
theorem UJ{s:dh}(h:s.v<g.n):jB g.n g.ag.length (jU s)=true:=
 decide_eq_true ⟨by simp[jU],by show(s.v:Int)<kM _ _ 0;unfold kM;rw[if_pos rfl];omega,UG _,.inl rfl⟩
theorem UK{x:Bool}{i:Nat}(h:i<g.ag.length):jB g.n g.ag.length (hG x i)=true:=
 decide_eq_true ⟨by simp[hG],by show(i:Int)<kM _ _ 1;unfold kM;rw[if_neg (by decide),if_pos rfl];omega,UG _,.inr rfl⟩
theorem ag2(H:nv g outs)(hv:∀s∈st,s.v<g.n):∀e∈cK outs st,jB g.n g.ag.length e=true:=by
 intro e he;obtain⟨s,hs,rfl|⟨i,hi,rfl⟩⟩:=Hu.1 he
 ·exact UJ (hv s hs)
 ·exact UK (H.mem _ _ _ hi).1
theorem UL{n m:Nat}:mE n m l↔(∀e∈l,jB n m e=true)/\(l.map Ev.key).Nodup:=by
 constructor
 ·intro h;refine⟨λe he=> ?_,?_⟩
  ·obtain⟨i,hi⟩:=List.getElem?_of_mem he;exact(h i e hi).1
  ·rw[List.nodup_iff_pairwise_ne,List.pairwise_map,List.pairwise_iff_getElem];intro i j hi hj hij e;refine(h j _ (List.getElem?_eq_getElem hj)).2 ?_;rw[<-e];exact List.mem_map_of_mem (List.mem_take_iff_getElem.2 ⟨i,by omega,rfl⟩)
 ·rintro⟨h1,h2⟩ i e hi;refine⟨h1 e (List.mem_of_getElem? hi),λhm=> ?_⟩;obtain⟨e',he',hk⟩:=List.mem_map.1 hm;obtain⟨j,hj,rfl⟩:=List.mem_take_iff_getElem.1 he';obtain⟨hi',rfl⟩:=List.getElem?_eq_some_iff.1 hi;rw[List.nodup_iff_pairwise_ne,List.pairwise_map,List.pairwise_iff_getElem]at h2;exact h2 j i (by omega) hi' (by omega) hk
theorem BF(s:dh):(jU s).key=(0,sI s.x,(s.v:Int)):=rfl
theorem xT(x:Bool)(i:Nat):(hG x i).key=(1,sI x,(i:Int)):=rfl
theorem ag3(H:nv g outs){s:dh}:((nu outs s).map Ev.key).Nodup:=by
 simp only[nu,List.map_cons,List.map_map,List.nodup_cons];refine⟨λh=> ?_,?_⟩
 ·obtain⟨i,_,e⟩:=List.mem_map.1 h;simp[xT,BF]at e
 ·rw[List.nodup_iff_pairwise_ne,List.pairwise_map];refine(List.nodup_iff_pairwise_ne.1 (H.nd s.x s.v)).imp λ{a b} hne e=>hne ?_;exact Int.ofNat.inj (by simpa[xT]using e)
theorem UM(H:nv g outs)(hv:∀s∈st,s.v<g.n)(hn:(st.map λs=>(s.x,s.v)).Nodup):mE g.n g.ag.length (cK outs st):=by
 rw[UL];refine⟨ag2 H hv,?_⟩;clear hv
 induction st with
 |nil=>simp[cK]
 | cons s st ih=>
  simp only[List.map_cons,List.nodup_cons]at hn;rw[UH,List.map_append,List.nodup_append];refine⟨ag3 H,ih hn.2,λa ha b hb e=>hn.1 ?_⟩;subst e;obtain⟨e1,h1,rfl⟩:=List.mem_map.1 ha;obtain⟨e2,h2,hk⟩:=List.mem_map.1 hb;obtain⟨s',hs',h2⟩:=Hu.1 h2;simp only[nu,List.mem_cons,List.mem_map]at h1;refine List.mem_map.2 ⟨s',hs',?_⟩;rcases h1 with rfl|⟨i,hi,rfl⟩<;>rcases h2 with rfl|⟨j,hj,rfl⟩
  ·simp only[BF,Prod.mk.injEq,UF,true_and]at hk;rw[hk.1,Int.ofNat.inj hk.2]
  ·simp[BF,xT]at hk
  ·simp[BF,xT]at hk
  ·simp only[xT,Prod.mk.injEq,UF,true_and]at hk;obtain⟨hx,hk⟩:=hk;have hk:=Int.ofNat.inj hk;have e1:=(H.mem _ _ _ hi).2;have e2:=(H.mem _ _ _ hj).2;rw[hk,hx,e1]at e2;rw[hx,e2]
theorem ag4{q:List Ev}{side:Int}(h:∀e∈q,e.kind≠0):iP (l++q) side=iP l side:=by
 unfold iP;rw[List.foldl_append]
 induction q generalizing l with
 |nil=>rfl
 |cons e q ih=>
  rw[List.foldl_cons,if_neg λhh=>h e List.mem_cons_self hh.1];exact ih λe he=>h e (List.mem_cons_of_mem _ he)
theorem ag5(H:nv g outs){s:dh}(hv:s.v<g.n)(h:lN g l){k:Nat}:lN g (l++(nu outs s).take k):=by
 intro i e he;by_cases hi:i<l.length
 ·rw[List.getElem?_append_left hi]at he;have :=h i e he;rw[List.take_append_of_le_length (by omega)];exact this
 ·rw [List.getElem?_append_right (by omega)]at he;obtain⟨j,rfl⟩:∃j,i=l.length+j:=⟨i-l.length,by omega⟩;rw[Nat.add_sub_cancel_left]at he;rw[List.take_length_add_append];have hj:j<k:=by
   have :=(List.getElem?_eq_some_iff.1 he).1;rw[List.length_take]at this;omega
  rw[List.getElem?_take_of_lt hj]at he;rw[List.take_take,Nat.min_eq_left (by omega)];cases j with
  |zero=>
   have :e=jU s:=by simpa[nu]using he.symm
   subst this;exact⟨UJ hv,λhk=>absurd rfl hk⟩
  | succ j=>
   have he:((outs s.x s.v).map (hG s.x))[j]? =some e:=he;rw[List.getElem?_map]at he;cases ho:(outs s.x s.v)[j]? with
   |none=>rw[ho]at he;cases he
   | some a=>
    rw[ho]at he;obtain rfl:=Option.some.inj he;obtain⟨h1,h2⟩:=H.mem _ _ _ (List.mem_of_getElem? ho);refine⟨UK h1,λ_=> ?_⟩;show iP (l++jU s::((outs s.x s.v).map (hG s.x)).take j) (sI s.x)=_;rw[show l++jU s::((outs s.x s.v).map (hG s.x)).take j=(l++ [jU s])++((outs s.x s.v).map (hG s.x)).take j by simp];rw[ag4 (by
     intro e he;obtain⟨i,_,rfl⟩:=List.mem_map.1 (List.mem_of_mem_take he);show(1:Int)≠0;decide),Hg,if_pos ⟨rfl,rfl⟩]
    have h3:g.ag[a]? =some (aD g.ag a):=by simp[aD,h1]
    show(s.v:Int)=match g.ag[((a:Int)).toNat]? with
     |some b=>if sI s.x=1 then(b.t:Int)else(b.f:Int)
     |none=>0
    rw[Int.toNat_natCast,h3];dsimp only;rw[<-h2];cases s.x<;>rfl
theorem UN(H:nv g outs):∀{st:List dh}{l:List Ev},(∀s∈st,s.v<g.n)->lN g l->lN g (l++cK outs st)
 | [],l,_,h=>by rw[ag1,List.append_nil];exact h
 |s::st,l,hv,h=>by
  rw[UH,<-List.append_assoc];refine UN H (λs hs=>hv s (List.mem_cons_of_mem _ hs)) ?_;have :=ag5 H (hv s List.mem_cons_self) h (k:=(nu outs s).length);rwa[List.take_length]at this
theorem UO(H:nv g outs)(hv:∀s∈st,s.v<g.n):lN g (cK outs st):=by
 have :=UN (l:=[]) H hv λi e h=>by simp at h
 rwa[List.nil_append]at this
theorem lN.take(h:lN g l)(k:Nat):lN g (l.take k):=by
 intro i e he;have hi:i<k:=by
  have :=(List.getElem?_eq_some_iff.1 he).1;rw[List.length_take]at this;omega
 rw[List.getElem?_take_of_lt hi]at he;rw[List.take_take,Nat.min_eq_left (by omega)];exact h i e he
theorem mE.take{n m:Nat}(h:mE n m l)(k:Nat):mE n m (l.take k):=by
 intro i e he;have hi:i<k:=by
  have :=(List.getElem?_eq_some_iff.1 he).1;rw[List.length_take]at this;omega
 rw[List.getElem?_take_of_lt hi]at he;rw[List.take_take,Nat.min_eq_left (by omega)];exact h i e he
def kN(x:Bool)(st:List dh):List dh:=st.filter λs=>decide (s.x=x)
theorem UP{x:Bool}{s:dh}{st:List dh}:kN x (s::st)=if decide (s.x=x)=true then s::kN x st else kN x st:=by
 unfold kN;rw[List.filter_cons]
theorem UQ{x:Bool}{a b:List dh}:kN x (a++b)=kN x a++kN x b:=List.filter_append ..
theorem xU{x:Bool}{s:dh}{st:List dh}:s∈kN x st↔s∈st/\s.x=x:=by simp[kN]
end
open Go
theorem ag6{st:List dh}(h:∀x,((kN x st).map dh.v).Nodup):(st.map λs=>(s.x,s.v)).Nodup:=by
 induction st with
 |nil=>simp
 | cons s st ih=>
  rw[List.map_cons,List.nodup_cons];refine⟨λhm=> ?_,ih λx=> ?_⟩
  ·obtain⟨s',hs',e⟩:=List.mem_map.1 hm;simp only[Prod.mk.injEq]at e;have :=h s.x;rw[UP,if_pos (by simp),List.map_cons,List.nodup_cons]at this;exact this.1 (List.mem_map.2 ⟨s',xU.2 ⟨hs',e.1⟩,e.2⟩)
  ·have :=h x;rw[UP]at this;split at this
   ·rw[List.map_cons,List.nodup_cons]at this;exact this.2
   ·exact this
theorem UR{g:G}{x:Bool}{v:Nat}:(gz g x v).length<=g.ag.length:=by
 cases x
 ·exact Nat.le_trans (Nat.le_of_eq (vU _ _ _)) List.countP_le_length
 ·exact Nat.le_trans (Nat.le_of_eq (vU _ _ _)) List.countP_le_length
theorem US{x:Bool}{a:List dh}(h:∀s∈a,s.x=x):kN x a=a:=List.filter_eq_self.2 λs hs=>by simpa using h s hs
theorem UT{x:Bool}{a:List dh}(h:∀s∈a,s.x≠x):kN x a=[]:=List.filter_eq_nil_iff.2 λs hs=>by simpa using h s hs
open Go
structure Qs where
 g:G
 s:Nat
 t:Nat
 allow:List Bool
 pi:List Int
namespace Qs
variable(Q:Qs)
def cB(v:Nat):Bool:=Q.pi.isEmpty||(decide (-aI<Q.pi.getD v 0)&&decide (Q.pi.getD v 0<aI))
def iQ(i:Nat):Bool:=Q.allow.isEmpty||Q.allow.getD i false
def ok(i:Nat):Bool:=Q.iQ i&&(Q.cB (aD Q.g.ag i).f&&Q.cB (aD Q.g.ag i).t)
def p(v:Nat):Int:=Q.pi.getD v 0
def cw(x:Bool)(v:Nat):Int:=if x then - Q.p v else Q.p v
def src(x:Bool):Nat:=if x then Q.t else Q.s
def gp:Prop:=∀i,i<Q.g.ag.length->Q.ok i=true->Q.p (aD Q.g.ag i).f<=Q.p (aD Q.g.ag i).t+2*(aD Q.g.ag i).w
def outs(x:Bool)(v:Nat):List Nat:=(gz Q.g x v).filter Q.iQ
structure Ok:Prop where
 r:Q.g.Right
 s:Q.s<Q.g.n
 t:Q.t<Q.g.n
 allow:Q.allow=[]\/Q.allow.length=Q.g.ag.length
 pi:Q.pi=[]\/Q.pi.length=Q.g.n
end Qs
theorem Qs.uD{Q:Qs}{i:Nat}{x:Bool}:Q.ok i=true↔Q.iQ i=true/\Q.cB (c7 x (aD Q.g.ag i))=true/\Q.cB (cS x (aD Q.g.ag i))=true:=by
 unfold Qs.ok;cases x
 ·simp[c7,cS]
 ·simp only[c7,cS,if_true,Bool.and_eq_true];exact⟨λh=>⟨h.1,h.2.2,h.2.1⟩,λh=>⟨h.1,h.2.2,h.2.1⟩⟩
theorem Qs.Hv{Q:Qs}(h:Q.gp){i:Nat}(hi:i<Q.g.ag.length)(ho:Q.ok i=true)(x:Bool):Q.cw x (c7 x (aD Q.g.ag i))<=Q.cw x (cS x (aD Q.g.ag i))+2*(aD Q.g.ag i).w:=by
 have :=h i hi ho;cases x
 ·exact this
 ·show - Q.p (aD Q.g.ag i).t<= - Q.p (aD Q.g.ag i).f+_;omega
theorem Qs.xV{Q:Qs}{v:Nat}(h:Q.cB v=true): -aI<Q.p v/\Q.p v<aI:=by
 unfold Qs.cB at h;unfold Qs.p;cases hp:Q.pi with
 |nil=>simp[aI]
 |cons a l=>rw[hp]at h;simpa using h
structure BW where
 sd:Bool->BS
 ev:List Ev
 aH:Int
 meet:Int
def eH(f:Bool->BS)(x:Bool)(b:BS):Bool->BS:=λy=>if y=x then b else f y
theorem kO{f:Bool->BS}{x:Bool}{b:BS}:eH f x b x=b:=if_pos rfl
theorem n9{f:Bool->BS}{x:Bool}{b:BS}:eH f x b (!x)=f (!x):=if_neg (by cases x<;>decide)
theorem xW{f:Bool->BS}{x y:Bool}{b:BS}(h:y≠x):eH f x b y=f y:=if_neg h
def BW.near(S:BW)(x:Bool)(v:Nat)(d:Int):Option Int:=match(S.sd !x).lab v with
 |some m=>if d+m<S.aH then some (d+m)else none
 |none=>none
def Qs.put(Q:Qs)(S:BW)(x:Bool)(v:Nat)(a d:Int):BW:=
 ⟨eH S.sd x ((S.sd x).put (Q.cw x) v a d),S.ev,(S.near x v d).getD S.aH,if(S.near x v d).isSome then(v:Int)else S.meet⟩
def Qs.reach(Q:Qs)(S:BW)(x:Bool)(v:Nat)(a d:Int):BW:=if(S.sd x).takes Q.cB v d then Q.put S x v a d else S
theorem UU{S:BW}{x:Bool}{v:Nat}{d:Int}:(S.near x v d).getD S.aH<=S.aH:=by
 unfold BW.near;split
 ·split
  ·rw[Option.getD_some];omega
  ·exact Int.le_refl _
 ·exact Int.le_refl _
abbrev Qs.BG(Q:Qs)(x:Bool)(b:BS)(B:Int):Prop:=SI Q.g.ag (c7 x) (cS x) Q.ok Q.g.n (Q.src x) Q.cB (Q.cw x) Q.gp b B
structure BI(Q:Qs)(S:BW)(B:Bool->Int):Prop where
 si:∀x,Q.BG x (S.sd x) (B x)
 c1:∀x(u:Nat) d d',(S.sd x).lab u=some d->(S.sd !x).lab u=some d'->S.aH<=d+d'
 c2:S.aH=aI\/∃(u:Nat)(d0 d1:Int),S.meet=u/\(S.sd false).lab u=some d0/\(S.sd true).lab u=some d1/\S.aH=d0+d1
 c3:S.aH<=aI
section
variable{Q:Qs}{S:BW}{B:Bool->Int}
theorem BI.put(H:BI Q S B){x:Bool}{v:Nat}{a d:Int}(hsi:Q.BG x ((S.sd x).put (Q.cw x) v a d) (B x))(f:∀was,(S.sd x).lab v=some was->d<was):BI Q (Q.put S x v a d) B:=by
 have b:∀z,((Q.put S x v a d).sd x).lab z=if z=(v:Int)then some d else(S.sd x).lab z:=λz=>by
  show(eH S.sd x _ x).lab z=_;rw[kO];rfl
 have c:∀z,((Q.put S x v a d).sd (!x)).lab z=(S.sd (!x)).lab z:=λz=>by
  show(eH S.sd x _ (!x)).lab z=_;rw[n9]
 have i:∀m,(S.sd (!x)).lab v=some m->(Q.put S x v a d).aH<=d+m:=λm hm=>by
  show(S.near x v d).getD S.aH<=_;unfold BW.near;rw[hm];dsimp only;split
  ·rw[Option.getD_some];exact Int.le_refl _
  ·rw[Option.getD_none];omega
 have key:∀(u:Nat) e e',((Q.put S x v a d).sd x).lab u=some e->((Q.put S x v a d).sd (!x)).lab u=some e'->(Q.put S x v a d).aH<=e+e':=by
  intro u e e' h1 h2;rw[b]at h1;rw[c]at h2;split at h1
  ·rename_i he;obtain rfl:=Int.ofNat.inj he;obtain rfl:=Option.some.inj h1;exact i _ h2
  ·exact Int.le_trans UU (H.c1 x u e e' h1 h2)
 refine⟨λy=> ?_,λy u e e' h1 h2=> ?_,?_,Int.le_trans UU H.c3⟩
 ·by_cases h:y=x
  ·subst h;show Q.BG y (eH S.sd y _ y) (B y);rw[kO];exact hsi
  ·show Q.BG y (eH S.sd x _ y) (B y);rw[xW h];exact H.si y
 ·by_cases h:y=x
  ·subst h;exact key u e e' h1 h2
  ·have hy:y= !x:=by cases x<;>cases y<;>simp_all
   subst hy;rw[Bool.not_not]at h2;have :=key u e' e h2 h1;omega
 ·cases hn:S.near x v d with
  | some z=>
   right;have hn0:=hn;unfold BW.near at hn;cases hm:(S.sd (!x)).lab v with
   |none=>rw[hm]at hn;cases hn
   | some m=>
    rw[hm]at hn;dsimp only at hn;split at hn
    ·rename_i hlt;obtain rfl:=Option.some.inj hn;have hd:(Q.put S x v a d).aH=d+m:=by
      show(S.near x v d).getD S.aH=_;rw[hn0];rfl
     have hme:(Q.put S x v a d).meet=(v:Int):=by
      show(if(S.near x v d).isSome=true then(v:Int)else S.meet)=_;rw[hn0];rfl
     have l1:((Q.put S x v a d).sd x).lab v=some d:=by rw[b,if_pos rfl]
     have l2:((Q.put S x v a d).sd (!x)).lab v=some m:=by rw[c];exact hm
     cases x
     ·exact⟨v,d,m,hme,l1,l2,hd⟩
     ·exact⟨v,m,d,hme,l2,l1,by omega⟩
    ·cases hn
  | none=>
   have hd:(Q.put S x v a d).aH=S.aH:=by
    show(S.near x v d).getD S.aH=_;rw[hn];rfl
   have hme:(Q.put S x v a d).meet=S.meet:=by
    show(if(S.near x v d).isSome=true then(v:Int)else S.meet)=_;rw[hn];rfl
   rw[hd,hme];refine H.c2.imp id λ⟨u,d0,d1,h1,h2,h3,h4⟩=>⟨u,d0,d1,h1,?_⟩;have hne:u≠v:=λe=>by
    subst e;unfold BW.near at hn;cases x
    ·rw[show(!false)=true from rfl,h3]at hn;dsimp only at hn;have :=f d0 h2;rw[if_pos (by omega)]at hn;cases hn
    ·rw[show(!true)=false from rfl,h2]at hn;dsimp only at hn;have :=f d1 h3;rw[if_pos (by omega)]at hn;cases hn
   have g:¬(u:Int)=(v:Int):=λe=>hne (Int.ofNat.inj e);cases x
   ·refine⟨?_,?_,h4⟩
    ·rw[b,if_neg g];exact h2
    ·rw[show true= !false from rfl,c];exact h3
   ·refine⟨?_,?_,h4⟩
    ·rw[show false= !true from rfl,c];exact h2
    ·rw[b,if_neg g];exact h3
theorem jV{cB:Nat->Bool}{b:BS}{v:Nat}{d:Int}:b.takes cB v d=true↔cB v=true/\v∉b.ord/\∀was,b.lab v=some was->d<was:=by
 unfold BS.takes;cases b.lab v with
 |none=>simp
 |some w=>simp
def BW.zero:BW:=⟨λ_=>BS.zero,[],aI,0⟩
def Qs.start(Q:Qs):BW:=Q.reach (Q.reach BW.zero false Q.s (-1) 0) true Q.t (-1) 0
theorem BI.zero:BI Q BW.zero λ_=>0:=
 ⟨λx=>SI.start,λx u d d' h=>by simp[BW.zero,BS.zero]at h,.inl rfl,Int.le_refl _⟩
theorem BI.first(H:BI Q S λ_=>0)(hQ:Q.Ok){x:Bool}(he:S.sd x=BS.zero):BI Q (Q.reach S x (Q.src x) (-1) 0) (λ_=>0)/\
  (Q.cB (Q.src x)=true->((Q.reach S x (Q.src x) (-1) 0).sd x).lab (Q.src x)=some 0)/\(Q.reach S x (Q.src x) (-1) 0).sd (!x)=S.sd (!x)/\((Q.reach S x (Q.src x) (-1) 0).sd x).ord=[]/\(Q.reach S x (Q.src x) (-1) 0).ev=S.ev:=by
 unfold Qs.reach;by_cases ht:(S.sd x).takes Q.cB (Q.src x) 0=true
 ·rw[if_pos ht];have hs:Q.src x<Q.g.n:=match x with|false=>hQ.s|true=>hQ.t
  have ho:=(jV.1 ht).1;refine⟨H.put ?_ (jV.1 ht).2.2,λ_=> ?_,?_,?_,rfl⟩
  ·rw[he];refine SI.start.put hs ho (by simp[BS.zero]) (Int.le_refl _) (Int.le_refl _) ⟨[],.nil ?_,by simp⟩ (λ_ c hc=>by simp[BS.zero]at hc) (λ_=>rfl) λ_=>rfl;show(if _ then _ else _)=_;rw[if_pos rfl]
  ·show(eH S.sd x _ x).lab _=_;rw[kO];show(if _ then _ else _)=_;rw[if_pos rfl]
  ·show eH S.sd x _ (!x)=_;rw[n9]
  ·show(eH S.sd x _ x).ord=_;rw[kO,he];rfl
 ·rw[if_neg ht];refine⟨H,λho=>absurd (jV.2 ⟨ho,?_,?_⟩) ht,rfl,by rw[he];rfl,rfl⟩
  ·rw[he];simp[BS.zero]
  ·rw[he];intro was h;simp[BS.zero]at h
structure BW.Le(x:Bool)(S S':BW):Prop where
 uE:S'.sd (!x)=S.sd (!x)
 ord:(S'.sd x).ord=(S.sd x).ord
 low:∀z d,(S.sd x).lab z=some d->∃d',d'<=d/\(S'.sd x).lab z=some d'
 same:∀c∈(S.sd x).ord,(S'.sd x).lab (c:Int)=(S.sd x).lab c
theorem BW.Le.refl{x:Bool}:BW.Le x S S:=⟨rfl,rfl,λz d h=>⟨d,Int.le_refl _,h⟩,λ_ _=>rfl⟩
theorem BW.Le.trans{x:Bool}{S' e:BW}(a:BW.Le x S S')(b:BW.Le x S' e):BW.Le x S e:=
 ⟨b.uE.trans a.uE,b.ord.trans a.ord,λz d h=>by
  obtain⟨d',h1,h2⟩:=a.low z d h;obtain⟨d'',h3,h4⟩:=b.low z d' h2;exact⟨d'',by omega,h4⟩,λc hc=>(b.same c (by rw[a.ord];exact hc)).trans (a.same c hc)⟩
def Rx(Q:Qs)(S:BW)(x:Bool)(i:Nat):Prop:=
 ∃d',(S.sd x).lab (cS x (aD Q.g.ag i))=some d'/\(Q.gp->∀dv,(S.sd x).lab (c7 x (aD Q.g.ag i))=some dv->d'<=dv+(aD Q.g.ag i).w)
theorem Rx.le{x:Bool}{i:Nat}{S':BW}(h:Rx Q S x i)(a:BW.Le x S S')(ho:c7 x (aD Q.g.ag i)∈(S.sd x).ord):Rx Q S' x i:=by
 obtain⟨d',h1,h2⟩:=h;obtain⟨d'',h3,h4⟩:=a.low _ _ h1;refine⟨d'',h4,λhF dv hv=> ?_⟩;rw[a.same _ ho]at hv;have :=h2 hF dv hv;omega
def Qs.gq(Q:Qs)(x:Bool)(v:Nat)(S:BW)(i:Nat):BW:=
 if Q.iQ i then Q.reach {S with ev:=S.ev++ [hG x i]} x (cS x (aD Q.g.ag i)) i ((((S.sd x).lab v).getD 0)+(aD Q.g.ag i).w)else S
theorem BI.ev(H:BI Q S B)(ev:List Ev):BI Q {S with ev:=ev} B:=⟨H.si,H.c1,H.c2,H.c3⟩
theorem UW{x:Bool}{v:Nat}{a d:Int}:(Q.reach S x v a d).ev=S.ev:=by
 unfold Qs.reach;split<;>rfl
theorem BI.gq(H:BI Q S B)(hQ:Q.Ok){x:Bool}{v i:Nat}{dv:Int}(hv:v∈(S.sd x).ord)(b:(S.sd x).lab v=some dv)(m:Q.gp->∀c∈(S.sd x).ord,∀dc,(S.sd x).lab (c:Int)=some dc->2*dc+Q.cw x c<=2*dv+Q.cw x v)
  (hi:i<Q.g.ag.length) (ht:c7 x (aD Q.g.ag i)=v) (hB:dv+(aD Q.g.ag i).w<=B x) (hz:Q.cB (Q.src x)=true->(S.sd x).lab (Q.src x)=some 0):
  BI Q (Q.gq x v S i) B/\BW.Le x S (Q.gq x v S i)/\(Q.ok i=true->Rx Q (Q.gq x v S i) x i)/\(Q.gq x v S i).ev=S.ev++(if Q.iQ i=true then[hG x i]else[]):=by
 unfold Qs.gq;by_cases ha:Q.iQ i=true
 ·rw [if_pos ha,if_pos ha,UW,b,Option.getD_some];have o:cS x (aD Q.g.ag i)<Q.g.n:=by
   have :=hQ.r.ends _ (gD hi);cases x
   ·exact this.2.1
   ·exact this.1
  have h0:0<=dv:=by
   obtain⟨_,_,_,_,h,_⟩:=(H.si x).lab _ _ b;exact h
  have p:Q.cB v=true:=((H.si x).UE v hv).2;unfold Qs.reach;by_cases hk:BS.takes Q.cB (S.sd x) (cS x (aD Q.g.ag i)) (dv+(aD Q.g.ag i).w)=true
  ·rw [if_pos hk];obtain⟨ho,hno,j⟩:=jV.1 hk;have hok:Q.ok i=true:=(Qs.uD (x:=x)).2 ⟨ha,by rw[ht];exact p,ho⟩;have k:∀z,((Q.put {S with ev:=S.ev++ [hG x i]} x (cS x (aD Q.g.ag i)) i (dv+(aD Q.g.ag i).w)).sd x).lab z=if z=((cS x (aD Q.g.ag i):Nat):Int)then some (dv+(aD Q.g.ag i).w:Int)else(S.sd x).lab z:=λz=>by
    show(eH S.sd x _ x).lab z=_;rw[kO];rfl
   have hsame:∀c∈(S.sd x).ord,((Q.put {S with ev:=S.ev++ [hG x i]} x (cS x (aD Q.g.ag i)) i (dv+(aD Q.g.ag i).w)).sd x).lab (c:Int)=(S.sd x).lab c:=λc hc=>by
    rw[k,if_neg λe=>hno (by rw[<-Int.ofNat.inj e];exact hc)]
   refine⟨BI.put (H.ev _) ?_ j,⟨?_,?_,λz d l=> ?_,hsame⟩,λ_=>⟨_,by rw[k,if_pos rfl],λhF f a=> ?_⟩,rfl⟩
   ·refine(H.si x).put o ho hno (by omega) hB ?_ ?_ ?_ ?_
    ·obtain⟨r,h1,h2⟩:=(H.si x).bk v dv b;rw[if_pos hv]at h2;refine⟨i::r,.cons ?_ hi hok (by rw[ht];exact hv) ?_,?_⟩
     ·show(if _ then _ else _)=_;rw[if_pos rfl]
     ·have kp:∀w∈(S.sd x).ord,(BS.put (Q.cw x) (S.sd x) (cS x (aD Q.g.ag i)) (i:Int) (dv+(aD Q.g.ag i).w)).bF (w:Int)=(S.sd x).bF w:=λw hw=>by
       show(if(w:Int)=_ then _ else(S.sd x).bF w)=_;rw[if_neg λe=>hno (by rw[<-Int.ofNat.inj e];exact hw)]
      rw[ht];exact h1.keep kp (λ_ h=>h) (kp v hv)
     ·have :=List.idxOf_lt_length_of_mem hv;rw[List.length_cons];omega
    ·intro hF c hc dc hdc;have h1:=m hF c hc dc hdc;have h2:=Qs.Hv hF hi hok x;rw[ht]at h2;omega
    ·intro e;have hs:=hz (by rw[<-e];exact ho);rw[<-e]at hs;have :=j 0 hs;omega
    ·intro e;rw[e]at hv;cases hv
   ·show eH S.sd x _ (!x)=_;rw[n9]
   ·show(eH S.sd x _ x).ord=_;rw[kO];rfl
   ·rw[k];split
    ·rename_i e;rw[e]at l;have :=j d l;exact⟨_,by omega,rfl⟩
    ·exact⟨d,Int.le_refl _,l⟩
   ·rw[ht,hsame v hv,b]at a;obtain rfl:=Option.some.inj a;exact Int.le_refl _
  ·rw[if_neg hk];refine⟨H.ev _,⟨rfl,rfl,λz d h=>⟨d,Int.le_refl _,h⟩,λ_ _=>rfl⟩,λhok=> ?_,rfl⟩;have ho:=((Qs.uD (x:=x)).1 hok).2.2;by_cases hm:cS x (aD Q.g.ag i)∈(S.sd x).ord
   ·obtain⟨d',hd'⟩:=(H.si x).xQ _ hm;refine⟨d',hd',λhF f a=> ?_⟩;have a:(S.sd x).lab (c7 x (aD Q.g.ag i))=some f:=a;rw[ht,b]at a;obtain rfl:=Option.some.inj a;have h1:=m hF _ hm _ hd';have h2:=Qs.Hv hF hi hok x;rw[ht]at h2;omega
   ·cases hl:(S.sd x).lab (cS x (aD Q.g.ag i))with
    |none=>exact absurd (jV.2 ⟨ho,hm,λwas h=>by rw[hl]at h;cases h⟩) hk
    |some was=>
     refine⟨was,hl,λhF f a=> ?_⟩;have a:(S.sd x).lab (c7 x (aD Q.g.ag i))=some f:=a;rw[ht,b]at a;obtain rfl:=Option.some.inj a;rcases Int.lt_or_le (dv+(aD Q.g.ag i).w) was with h|h
     ·exact absurd (jV.2 ⟨ho,hm,λq h'=>by rw[hl]at h';rw[<-Option.some.inj h'];exact h⟩) hk
     ·exact h
 ·rw[if_neg ha,if_neg ha,List.append_nil];exact⟨H,.refl,λhok=>absurd ((Qs.uD (x:=x)).1 hok).1 ha,rfl⟩
def Qs.scan(Q:Qs)(x:Bool)(v:Nat)(S:BW)(ids:List Nat):BW:=ids.foldl (Q.gq x v) S
theorem BI.scan(hQ:Q.Ok){x:Bool}{v:Nat}{dv:Int}(hB:dv+W<=B x):∀{ids:List Nat}{S:BW},BI Q S B->v∈(S.sd x).ord->(S.sd x).lab v=some dv->
  (Q.gp->∀c∈(S.sd x).ord,∀dc,(S.sd x).lab (c:Int)=some dc->2*dc+Q.cw x c<=2*dv+Q.cw x v)->(∀i∈ids,i<Q.g.ag.length/\c7 x (aD Q.g.ag i)=v)->(Q.cB (Q.src x)=true->(S.sd x).lab (Q.src x)=some 0)->
  BI Q (Q.scan x v S ids) B/\BW.Le x S (Q.scan x v S ids)/\(∀i∈ids,Q.ok i=true->Rx Q (Q.scan x v S ids) x i)/\(Q.scan x v S ids).ev=S.ev++(ids.filter Q.iQ).map (hG x)/\(Q.cB (Q.src x)=true->((Q.scan x v S ids).sd x).lab (Q.src x)=some 0)
 | [],S,H,_,_,_,_,hz=>⟨H,.refl,λi h=>absurd h List.not_mem_nil,(List.append_nil _).symm,hz⟩
 | i::ids,S,H,hv,a,b,d,hz=>by
  obtain⟨hi,ht⟩:=d i List.mem_cons_self;have hw:((aD Q.g.ag i).w:Int)<=W:=by
   have :=(hQ.r.ends _ (gD hi)).2.2;show((aD Q.g.ag i).w:Int)<=2147483647;omega
  obtain⟨h1,h2,h3,h4⟩:=H.gq hQ hv a b hi ht (by omega) hz;have f:Q.cB (Q.src x)=true->((Q.gq x v S i).sd x).lab (Q.src x)=some 0:=λho=>by
   obtain⟨d',e1,e2⟩:=h2.low _ _ (hz ho);rw[e2,(h1.si x).zero d' e2]
  have e:v∈((Q.gq x v S i).sd x).ord:=by rw[h2.ord];exact hv
  have k:((Q.gq x v S i).sd x).lab v=some dv:=(h2.same v hv).trans a;obtain⟨g1,g2,g3,g4,g5⟩:=BI.scan hQ hB (ids:=ids) h1 e k (λhF c hc dc hdc=>by
   rw[h2.ord]at hc;rw[h2.same c hc]at hdc;exact b hF c hc dc hdc) (λj hj=>d j (List.mem_cons_of_mem _ hj)) f
  refine⟨g1,h2.trans g2,λj hj hok=> ?_,?_,g5⟩
  ·rcases List.mem_cons.1 hj with rfl|hj
   ·exact(h3 hok).le g2 (by rw[ht];exact e)
   ·exact g3 j hj hok
  ·show(Q.scan x v (Q.gq x v S i) ids).ev=_;rw[g4,h4,List.filter_cons];split
   ·simp
   ·simp
end
open Go
theorem Way.cat{l:List A}{tl hd:A->Nat}{s u v:Nat}{d e:Int}(h:Way l tl hd s u d)(h':Way l tl hd u v e):Way l tl hd s v (d+e):=by
  induction h' with
  |nil=>rw[Int.add_zero];exact h
  |step a _ hm ht ih=>rw[<-Int.add_assoc];exact .step a ih hm ht
theorem Way.rev{l:List A}{tl hd:A->Nat}{s v:Nat}{d:Int}(h:Way l tl hd s v d):Way l hd tl v s d:=by
  induction h with
  |nil=>exact .nil
  | step a _ hm ht ih=>
    rename_i v d _;have h1:Way l hd tl (hd a) (tl a) (0+a.w):=.step a .nil hm rfl;rw[ht]at h1;have :=h1.cat ih;rw[show 0+(a.w:Int)+d=d+a.w by omega]at this;exact this
def Qs.H(Q:Qs):List A:=((List.range Q.g.ag.length).filter Q.ok).map (aD Q.g.ag)
section
variable{Q:Qs}{S:BW}
theorem pz{a:A}:a∈Q.H↔∃i,i<Q.g.ag.length/\Q.ok i=true/\aD Q.g.ag i=a:=by
  simp only[Qs.H,List.mem_map,List.mem_filter,List.mem_range];exact⟨λ⟨i,⟨a,b⟩,c⟩=>⟨i,a,b,c⟩,λ⟨i,a,b,c⟩=>⟨i,⟨a,b⟩,c⟩⟩
theorem Hy{x:Bool}{s v:Nat}{d:Int}(h:Way Q.H (c7 x) (cS x) s v d):v=s\/(Q.cB s=true/\Q.cB v=true):=by
  induction h with
  |nil=>exact .inl rfl
  | step a _ hm ht ih=>
    obtain⟨i,hi,ho,rfl⟩:=pz.1 hm;obtain⟨_,h1,h2⟩:=(Qs.uD (x:=x)).1 ho;right;rcases ih with e|e
    · exact⟨by rw[<-e,<-ht];exact h1,h2⟩
    · exact⟨e.1,h2⟩
theorem ag7(hF:Q.gp){x:Bool}{s v:Nat}{d:Int}(h:Way Q.H (c7 x) (cS x) s v d):Q.cw x s<=Q.cw x v+2*d:=by
  induction h with
  |nil=>omega
  | step a _ hm ht ih=>
    obtain⟨i,hi,ho,rfl⟩:=pz.1 hm;have :=Qs.Hv hF hi ho x;rw[ht]at this;omega
theorem ag8{x:Bool}{s v:Nat}{d:Int}(h:Way Q.H (c7 x) (cS x) s v d):Way Q.H (c7 (!x)) (cS (!x)) v s d:=by
  cases x
  · exact h.rev
  · exact h.rev
theorem Bk.way{x:Bool}{bF:Int->Option Int}{ord:List Nat}{u:Nat}{r:List Nat}{d:Int}(h:Bk Q.g.ag (c7 x) (cS x) Q.ok bF ord (Q.src x) u r d):Way Q.H (c7 x) (cS x) (Q.src x) u d:=by
  induction h with
  |nil=>exact .nil
  |cons _ hi ho _ _ ih=>exact .step _ ih (pz.2 ⟨_,hi,ho,rfl⟩) rfl
theorem Bk.all{x:Bool}{bF:Int->Option Int}{ord:List Nat}{u:Nat}{r:List Nat}{d:Int}(h:Bk Q.g.ag (c7 x) (cS x) Q.ok bF ord (Q.src x) u r d):cJ Q.g.ag r=d/\∀i∈r,i<Q.g.ag.length/\Q.ok i=true:=by
  induction h with
  |nil=>exact⟨rfl,λi h=>absurd h List.not_mem_nil⟩
  | cons _ hi ho _ _ ih=>
    refine⟨by rw[jv,ih.1];omega,λj hj=> ?_⟩;rcases List.mem_cons.1 hj with rfl|hj
    · exact⟨hi,ho⟩
    · exact ih.2 j hj
theorem Bk.ag9{bF:Int->Option Int}{ord:List Nat}{u:Nat}{r:List Nat}{d:Int}(h:Bk Q.g.ag (c7 true) (cS true) Q.ok bF ord (Q.src true) u r d):Trail Q.g.ag u r Q.t:=by
  induction h with
  |nil=>exact rfl
  |cons _ hi _ _ _ ih=>exact⟨hi,rfl,ih⟩
theorem Bk.aha{bF:Int->Option Int}{ord:List Nat}{u:Nat}{r:List Nat}{d:Int}(h:Bk Q.g.ag (c7 false) (cS false) Q.ok bF ord (Q.src false) u r d):Trail Q.g.ag Q.s r.reverse u:=by
  induction h with
  |nil=>exact rfl
  | cons _ hi _ _ _ ih=>
    rw[List.reverse_cons];exact ih.append ⟨hi,rfl,rfl⟩
def BW.next(S:BW):Option Bool:=match least (S.sd false).hp,least (S.sd true).hp with
  |some p,some q=>if 2*S.aH<=p.2+q.2 then none else if p.2<=q.2 then some false else some true
  |_,_=>none
def Qs.pop(Q:Qs)(x:Bool)(p:HP)(S:BW):BW:={S with sd:=eH S.sd x ((S.sd x).pop p.1.toNat p.2),ev:=S.ev++ [jU ⟨x,p.1.toNat,((S.sd x).lab p.1).getD 0⟩]}
def Qs.step(Q:Qs)(x:Bool)(S:BW):BW:=match least (S.sd x).hp with
  |some p=>Q.scan x p.1.toNat (Q.pop x p S) (gz Q.g x p.1.toNat)
  |none=>S
def Qs.run (Q:Qs):Nat->BW->BW
  |0,S=>S
  | k+1,S=>match S.next with
    |none=>S
    |some x=>Q.run k (Q.step x S)
structure dO(Q:Qs)(S:BW)(st:List dh):Prop where
  bi:BI Q S (λx=>(S.sd x).ord.length*W)
  z:∀x,Q.cB (Q.src x)=true->(S.sd x).lab (Q.src x)=some 0
  r:∀x i,i<Q.g.ag.length->Q.ok i=true->c7 x (aD Q.g.ag i)∈(S.sd x).ord->Rx Q S x i
  ev:S.ev=cK Q.outs st
  s1:∀x,(kN x st).map dh.v=(S.sd x).ord
  s2:∀e∈st,(S.sd e.x).lab e.v=some e.d
  s3:Q.gp->∀x,(kN x st).Pairwise λa b=>2*a.d+Q.cw x a.v<=2*b.d+Q.cw x b.v
  s4:Q.s≠Q.t->Q.gp->∀e∈st,∀D,Way Q.H A.f A.t Q.s Q.t D->2*e.d+Q.cw e.x e.v<=D
theorem dO.UX{st:List dh}(R:dO Q S st)(hF:Q.gp){x:Bool}(ho:Q.cB (Q.src x)=true){u:Nat}{D:Int}(h:Way Q.H (c7 x) (cS x) (Q.src x) u D):
    (u∈(S.sd x).ord/\∃d,(S.sd x).lab u=some d/\d<=D)\/
    ∃(w:Nat)(b c:Int),w∉(S.sd x).ord/\(S.sd x).lab w=some b/\((w:Int),2*b+Q.cw x w)∈(S.sd x).hp/\Way Q.H (c7 x) (cS x) w u c/\b+c<=D:=by
  have lb:∀(w:Nat)(b D:Int),(S.sd x).lab w=some b->b<=D->(w∈(S.sd x).ord/\∃d,(S.sd x).lab w=some d/\d<=D)\/
      ∃(w':Nat)(b c:Int),w'∉(S.sd x).ord/\(S.sd x).lab w'=some b/\((w':Int),2*b+Q.cw x w')∈(S.sd x).hp/\Way Q.H (c7 x) (cS x) w' w c/\b+c<=D:=λw b D hl hle=>by
    obtain⟨w',e,_,_,_,_,hh⟩:=(R.bi.si x).lab _ _ hl;obtain rfl:=Int.ofNat.inj e;by_cases hw:w∈(S.sd x).ord
    · exact .inl ⟨hw,b,hl,hle⟩
    · exact .inr ⟨w,b,0,hw,hl,hh.resolve_left hw,.nil,by omega⟩
  induction h with
  |nil=>exact lb _ _ _ (R.z x ho) (Int.le_refl _)
  | step a _ hm ht ih=>
    rcases ih with ⟨h1,d,h2,h3⟩|⟨w,b,c,h1,h2,h3,h4,h5⟩
    · obtain⟨i,hi,hok,rfl⟩:=pz.1 hm;obtain⟨d',e1,e2⟩:=R.r x i hi hok (by rw[ht];exact h1);refine lb _ _ _ e1 ?_;have :=e2 hF d (by rw[ht];exact h2);omega
    · exact .inr ⟨w,b,c+a.w,h1,h2,h3,.step a h4 hm ht,by omega⟩
theorem dO.meet{st:List dh}(R:dO Q S st)(hne:Q.s≠Q.t)(hF:Q.gp){D:Int}(h:Way Q.H A.f A.t Q.s Q.t D):
    S.aH<=D\/∃p∈(S.sd false).hp,∃q∈(S.sd true).hp,p.2+q.2<=2*D:=by
  have h:Way Q.H (c7 false) (cS false) Q.s Q.t D:=h;obtain⟨o1,o2⟩:=(Hy h).resolve_left λe=>hne e.symm;rcases R.UX hF (x:=false) o1 h with ⟨_,d,h2,h3⟩|⟨w,a,c,h1,h2,h3,h4,h5⟩
  · left;have :=R.bi.c1 false Q.t d 0 h2 (R.z true o2);omega
  · rcases R.UX hF (x:=true) o2 (ag8 h4)with ⟨_,d,g2,g3⟩|⟨w',b,g,g1,g2,g3,g4,g5⟩
    · left;have :=R.bi.c1 false w a d h2 g2;omega
    · right;refine⟨_,h3,_,g3,?_⟩;have hf:=ag7 hF g4;have e1:Q.cw true w'= - Q.p w':=rfl;have e2:Q.cw true w= - Q.p w:=rfl;have e3:Q.cw false w=Q.p w:=rfl;rw[e1,e2]at hf;rw[e1,e3];show 2*a+Q.p w+(2*b+ -Q.p w')<=2*D;omega
theorem UY {x:Bool} (h:S.next=some x):∃p q,least (S.sd x).hp=some p/\least (S.sd !x).hp=some q/\p.2+q.2<2*S.aH/\p.2<=q.2:=by
  unfold BW.next at h;split at h
  · rename_i p q hp hq;split at h
    · cases h
    · split at h
      · obtain rfl:=Option.some.inj h;exact⟨p,q,hp,hq,by omega,by omega⟩
      · obtain rfl:=Option.some.inj h;exact⟨q,p,hq,hp,by omega,by omega⟩
  · cases h
theorem ahb{g:G}{x:Bool}{i:Nat}(hi:i<g.ag.length):i∈gz g x (c7 x (aD g.ag i)):=by
  have e:g.ag[i]=aD g.ag i:=by simp[aD,hi]
  cases x
  · exact mo.2 ⟨Nat.zero_le _,by simpa using hi,by simp[e,c7]⟩
  · exact mo.2 ⟨Nat.zero_le _,by simpa using hi,by simp[e,c7]⟩
theorem dO.step {st:List dh} (R:dO Q S st) (hQ:Q.Ok) {x:Bool} (hn:S.next=some x):
    ∃(v:Nat)(k d:Int),least (S.sd x).hp=some ((v:Int),k)/\v<Q.g.n/\v∉(S.sd x).ord/\(S.sd x).lab v=some d/\dO Q (Q.step x S) (st++ [⟨x,v,d⟩])/\((Q.step x S).sd x).ord=(S.sd x).ord++ [v]/\(Q.step x S).sd (!x)=S.sd (!x):=by
  obtain⟨⟨z,k⟩,q,hp,hq,hlt,hle⟩:=UY hn;have hm:=iw hp;obtain⟨v,e,_⟩:=(R.bi.si x).cr _ hm.1;have e:z=(v:Int):=e;subst e;obtain⟨P1,P2,G,L,⟨d,m,p,M,N⟩,t⟩:=(R.bi.si x).pop hm.1 hm.2;refine⟨v,k,d,hp,G,P2,m,?_⟩;have hstep:Q.step x S=Q.scan x v (Q.pop x ((v:Int),k) S) (gz Q.g x v):=by
    unfold Qs.step;rw[hp];dsimp only;rw[Int.toNat_natCast]
  rw[hstep];have l:(Q.pop x ((v:Int),k) S).sd=eH S.sd x ((S.sd x).pop v k):=by
    show eH S.sd x ((S.sd x).pop ((v:Int)).toNat k)=_;rw[Int.toNat_natCast]
  have w:(Q.pop x ((v:Int),k) S).ev=S.ev++ [jU ⟨x,v,d⟩]:=by
    show S.ev++ [jU ⟨x,((v:Int)).toNat,((S.sd x).lab (v:Int)).getD 0⟩]=_;rw[Int.toNat_natCast,m];rfl
  have hdist:(Q.pop x ((v:Int),k) S).aH=S.aH:=rfl;have A:(Q.pop x ((v:Int),k) S).meet=S.meet:=rfl;generalize Q.pop x ((v:Int),k) S=S1 at l w hdist A;have hx:S1.sd x=(S.sd x).pop v k:=by rw[l,kO]
  have H:S1.sd (!x)=S.sd (!x):=by rw[l,n9]
  have f:∀y z,(S1.sd y).lab z=(S.sd y).lab z:=λy z=>by
    by_cases h:y=x
    · subst h;rw[hx];rfl
    · rw[l,xW h]
  have I:BI Q S1 (λy=>if y=x then(S.sd x).ord.length*W+W else(S.sd y).ord.length*W):=by
    refine⟨λy=> ?_,λy u e e' h1 h2=> ?_,?_,by rw[hdist];exact R.bi.c3⟩
    · by_cases h:y=x
      · subst h;rw[hx,if_pos rfl]
        exact P1.more (by have :(0:Int)<=W:=by decide
                          omega)
      · rw[l,xW h,if_neg h];exact R.bi.si y
    · rw[f]at h1 h2;rw[hdist];exact R.bi.c1 y u e e' h1 h2
    · rw[hdist,A];refine R.bi.c2.imp id λ⟨u,d0,d1,h1,h2,h3,h4⟩=>⟨u,d0,d1,h1,?_,?_,h4⟩
      · rw[f];exact h2
      · rw[f];exact h3
  have C:v∈(S1.sd x).ord:=by rw[hx];exact List.mem_append_right _ List.mem_cons_self
  have hout:∀i∈gz Q.g x v,i<Q.g.ag.length/\c7 x (aD Q.g.ag i)=v:=λi hi=>uC.mem x v i hi;have J:Q.gp->∀c∈(S1.sd x).ord,∀dc,(S1.sd x).lab (c:Int)=some dc->2*dc+Q.cw x c<=2*d+Q.cw x v:=λhF c hc dc hdc=>by
    rw[hx]at hc;rw[f]at hdc;rw[<-p];exact t hF c hc dc hdc
  obtain⟨g1,g2,g3,g4,g5⟩:=BI.scan hQ (x:=x) (v:=v) (dv:=d) (B:=λy=>if y=x then(S.sd x).ord.length*W+W else(S.sd y).ord.length*W) (by rw[if_pos rfl];omega) (ids:=gz Q.g x v) I C ((f x v).trans m) J hout (λh=>(f x _).trans (R.z x h));have o:((Q.scan x v S1 (gz Q.g x v)).sd x).ord=(S.sd x).ord++ [v]:=by rw[g2.ord,hx];rfl
  have uE:(Q.scan x v S1 (gz Q.g x v)).sd (!x)=S.sd (!x):=g2.uE.trans H;have j:∀y,y≠x->(Q.scan x v S1 (gz Q.g x v)).sd y=S.sd y:=λy hy=>by
    have :y= !x:=by cases x<;>cases y<;>simp_all
    rw[this];exact uE
  refine⟨⟨?_,λy hy=> ?_,λy i hi hok ho=> ?_,?_,λy=> ?_,λe he=> ?_,λhF y=> ?_,λhne hF e he D hD=> ?_⟩,o,uE⟩
  · refine⟨fun y=> ?_,g1.c1,g1.c2,g1.c3⟩;have :=g1.si y;by_cases h:y=x
    · subst h;refine this.more ?_;rw[if_pos rfl,o,List.length_append,List.length_singleton];have e1:(((S.sd y).ord.length+1:Nat):Int)*W=(S.sd y).ord.length*W+W:=by
        rw[Int.natCast_add,Int.add_mul];rfl
      omega
    · rw[if_neg h]at this;rw[j y h]at this ⊢;exact this
  · by_cases h:y=x
    · subst h;exact g5 hy
    · rw[j y h];exact R.z y hy
  · by_cases h:y=x
    · subst h;by_cases ht:c7 y (aD Q.g.ag i)=v
      · exact g3 i (by rw[<-ht];exact ahb hi) hok
      · rw[o]at ho;have ho':c7 y (aD Q.g.ag i)∈(S.sd y).ord:=(List.mem_append.1 ho).resolve_right λh=>ht (List.mem_singleton.1 h);have h1:=R.r y i hi hok ho';have h2:Rx Q S1 y i:=by
          obtain⟨d',e1,e2⟩:=h1;exact⟨d',(f y _).trans e1,λhF dv K=>e2 hF dv ((f y _).symm.trans K)⟩
        exact h2.le g2 (by rw[hx];exact List.mem_append_left _ ho')
    · rw[j y h]at ho;obtain⟨d',e1,e2⟩:=R.r y i hi hok ho;refine⟨d',?_,?_⟩
      · rw[j y h];exact e1
      · rw[j y h];exact e2
  · rw[g4,w,R.ev,Hq,Hr];simp[nu,Qs.outs]
  · rw[UQ,List.map_append,R.s1];by_cases h:y=x
    · subst h;rw[o,US (a:=[⟨y,v,d⟩]) (by simp)];rfl
    · rw[j y h,UT (a:=[⟨x,v,d⟩]) (by simpa using λe=>h e.symm)];simp
  · rcases List.mem_append.1 he with he|he
    · have h1:=R.s2 e he;by_cases h:e.x=x
      · have hm:e.v∈(S.sd e.x).ord:=by rw[<-R.s1];exact List.mem_map_of_mem (xU.2 ⟨he,rfl⟩)
        rw[h]at h1 hm ⊢;rw[g2.same e.v (by rw[hx];exact List.mem_append_left _ hm),f];exact h1
      · rw[j _ h];exact h1
    · obtain rfl:=List.mem_singleton.1 he;show((Q.scan x v S1 (gz Q.g x v)).sd x).lab (v:Int)=some d;rw[g2.same v C,f];exact m
  · rw[UQ,List.pairwise_append];refine⟨R.s3 hF y,?_,λa ha b hb=> ?_⟩
    · by_cases h:x=y
      · rw[US (by simpa using h)];exact List.pairwise_singleton _ _
      · rw[UT (by simpa using h)];exact .nil
    · obtain⟨hb,s⟩:=xU.1 hb;obtain rfl:=List.mem_singleton.1 hb;have s:x=y:=s;subst s;obtain⟨ha1,ha2⟩:=xU.1 ha;have h1:=R.s2 a ha1;have hm:a.v∈(S.sd a.x).ord:=by rw[<-R.s1];exact List.mem_map_of_mem (xU.2 ⟨ha1,rfl⟩)
      rw[ha2]at h1 hm;show 2*a.d+Q.cw x a.v<=2*d+Q.cw x v;rw[<-p];exact t hF a.v (List.mem_append_left _ hm) a.d h1
  · rcases List.mem_append.1 he with he|he
    · exact R.s4 hne hF e he D hD
    · obtain rfl:=List.mem_singleton.1 he;show 2*d+Q.cw x v<=D;rw[<-p];have E:=(iw hq).2;rcases R.meet hne hF hD with h|⟨p',hp',q',F,h⟩
      · have :k+q.2<2*S.aH:=hlt;have :k<=q.2:=hle;omega
      · have :k<=q.2:=hle;have l0:=hm.2;cases x
        · have a1:=l0 p' hp';have a2:=E q' F;rw[mq]at a1 a2;omega
        · have a1:=l0 q' F;have a2:=E p' hp';rw[mq]at a1 a2;omega
theorem dO.start(hQ:Q.Ok):dO Q Q.start []:=by
  obtain⟨a1,a2,a3,a4,a5⟩:=BI.first (Q:=Q) (S:=BW.zero) BI.zero hQ (x:=false) rfl;have a3:((Q.reach BW.zero false Q.s (-1) 0).sd true)=BS.zero:=a3;obtain⟨b1,b2,b3,b4,b5⟩:=BI.first a1 hQ (x:=true) a3;have b1:BI Q Q.start λ_=>0:=b1;have b3:Q.start.sd false=(Q.reach BW.zero false Q.s (-1) 0).sd false:=b3;have b4:(Q.start.sd true).ord=[]:=b4;have ho:∀x,(Q.start.sd x).ord=[]:=λx=>by
    cases x
    · rw[b3];exact a4
    · exact b4
  refine⟨?_,λx hx=> ?_,λx i _ _ h=> ?_,?_,λx=> ?_,λe h=>absurd h List.not_mem_nil,λ_ x=>.nil,λ_ _ e h=>absurd h List.not_mem_nil⟩
  · refine⟨fun x=> ?_,b1.c1,b1.c2,b1.c3⟩;have :=b1.si x;rw[ho];simpa using this
  · cases x
    · rw[b3];exact a2 hx
    · exact b2 hx
  · rw[ho]at h;cases h
  · exact b5.trans a5
  · rw[ho];rfl
theorem dO.run (hQ:Q.Ok):∀{k:Nat}{S:BW}{st:List dh},dO Q S st->2*Q.g.n<k+(S.sd false).ord.length+(S.sd true).ord.length->∃st',dO Q (Q.run k S) st'/\(Q.run k S).next=none
  | 0,S,st,R,h=>by
    have h0:=(R.bi.si false).qv;have h1:=(R.bi.si true).qv;omega
  | k + 1,S,st,R,h=>by
    unfold Qs.run;cases hn:S.next with
    |none=>exact⟨st,R,hn⟩
    | some x=>
      dsimp only;obtain⟨v,kk,d,_,_,_,_,R',e1,e2⟩:=R.step hQ hn;refine dO.run hQ R' ?_;cases x
      · rw[e1,show(true:Bool)= !false from rfl,e2,List.length_append,List.length_singleton];show _<_+_+(S.sd true).ord.length;omega
      · rw[e1,show(false:Bool)= !true from rfl,e2,List.length_append,List.length_singleton];show _<k+(S.sd false).ord.length+_;omega
def Qs.fin(Q:Qs):BW:=Q.run (2*Q.g.n+1) Q.start
theorem Qs.UZ(hQ:Q.Ok):∃st,dO Q Q.fin st/\Q.fin.next=none:=dO.run hQ (dO.start hQ) (by omega)
theorem dO.least {st:List dh} (R:dO Q S st) (hn:S.next=none) (hne:Q.s≠Q.t) (hF:Q.gp) {D:Int} (h:Way Q.H A.f A.t Q.s Q.t D):S.aH<=D:=by
  rcases R.meet hne hF h with h|⟨p,hp,q,hq,hle⟩
  · exact h
  · unfold BW.next at hn;split at hn
    · rename_i p' q' hp' a;have a1:=(iw hp').2 p hp;have a2:=(iw a).2 q hq;rw[mq]at a1 a2;split at hn
      · omega
      · split at hn<;>cases hn
    · rename_i hno;cases h1:Mh.least (S.sd false).hp with
      |none=>rw[rq.1 h1]at hp;cases hp
      | some p'=>
        cases h2:Mh.least (S.sd true).hp with
        |none=>rw[rq.1 h2]at hq;cases hq
        |some q'=>exact absurd h2 (hno p' q' h1)
theorem dO.found{st:List dh}(R:dO Q S st)(hlt:S.aH≠aI):∃(u:Nat)(b r1:List Nat)(d0 d1:Int),S.meet=u/\(S.sd false).lab u=some d0/\(S.sd true).lab u=some d1/\
    Bk Q.g.ag (c7 false) (cS false) Q.ok (S.sd false).bF (S.sd false).ord Q.s u b d0/\Bk Q.g.ag (c7 true) (cS true) Q.ok (S.sd true).bF (S.sd true).ord Q.t u r1 d1/\b.length<=Q.g.n/\r1.length<=Q.g.n/\
    Trail Q.g.ag Q.s (b.reverse++r1) Q.t/\cJ Q.g.ag (b.reverse++r1)=S.aH/\∀i∈b.reverse++r1,i<Q.g.ag.length/\Q.ok i=true:=by
  obtain⟨u,d0,d1,h1,h2,h3,h4⟩:=R.bi.c2.resolve_left hlt;have sh:∀x d,(S.sd x).lab u=some d->∃r,Bk Q.g.ag (c7 x) (cS x) Q.ok (S.sd x).bF (S.sd x).ord (Q.src x) u r d/\r.length<=Q.g.n:=λx d hd=>by
    obtain⟨r,k1,k2⟩:=(R.bi.si x).bk u d hd;have :=(R.bi.si x).qv;refine⟨r,k1,?_⟩;split at k2
    · have :=List.idxOf_le_length (a:=u) (l:=(S.sd x).ord);omega
    · omega
  obtain⟨b,a1,a2⟩:=sh false d0 h2;obtain⟨r1,b1,b2⟩:=sh true d1 h3;refine⟨u,b,r1,d0,d1,h1,h2,h3,a1,b1,a2,b2,a1.aha.append b1.ag9,?_,λi hi=> ?_⟩
  · rw[tq,b1.all.1,h4];congr 1;rw[<-a1.all.1];unfold cJ;rw[List.map_reverse,List.sum_reverse]
  · rcases List.mem_append.1 hi with h|h
    · exact a1.all.2 i (List.mem_reverse.1 h)
    · exact b1.all.2 i h
theorem dO.way{st:List dh}(R:dO Q S st)(hlt:S.aH≠aI):Way Q.H A.f A.t Q.s Q.t S.aH:=by
  obtain⟨u,c,r1,d0,d1,h1,h2,h3,a1,b1,_⟩:=R.found hlt;obtain⟨u',e0,e1,k1,k2,a,b⟩:=R.bi.c2.resolve_left hlt;have :u=u':=Int.ofNat.inj (h1.symm.trans k1);subst this;rw[h2]at k2;rw[h3]at a;obtain rfl:=Option.some.inj k2;obtain rfl:=Option.some.inj a;rw[b];have w0:Way Q.H A.f A.t Q.s u d0:=Bk.way (x:=false) a1;have w1:Way Q.H A.f A.t u Q.t d1:=(Bk.way (x:=true) b1).rev;exact w0.cat w1
theorem dO.gC{st:List dh}(R:dO Q S st):0<=S.aH/\S.aH<=aI:=by
  refine⟨?_,R.bi.c3⟩;by_cases h:S.aH=aI
  · rw[h];decide
  · exact(R.way h).gC
end
open Go
section
variable{Q:Qs}{S:BW}
structure Hz(Q:Qs)(x:Bool)(d:List Int):Prop where
 len:d.length=Q.g.n
 zero:Q.cB (Q.src x)=true->aF d (Q.src x)=0
 shut:Q.cB (Q.src x)=false->∀v,v<Q.g.n->aF d v=aI
 way:∀v,v<Q.g.n->aF d v=aI\/(aF d v<aI/\Way Q.H (c7 x) (cS x) (Q.src x) v (aF d v))
theorem Hz.uq{x:Bool}{d:List Int}(H:Hz Q x d){v:Nat}(hv:v<Q.g.n):0<=aF d v/\aF d v<=aI:=by
 rcases H.way v hv with h|⟨h,hw⟩
 ·rw[h];exact⟨by decide,Int.le_refl _⟩
 ·exact⟨hw.gC,Int.le_of_lt h⟩
structure RL(Q:Qs)(x:Bool)(d:List Int):Prop extends Hz Q x d where
 ag:∀i,i<Q.g.ag.length->Q.ok i=true->aF d (c7 x (aD Q.g.ag i))<aI->aF d (cS x (aD Q.g.ag i))<=aF d (c7 x (aD Q.g.ag i))+(aD Q.g.ag i).w
theorem RL.mZ{x:Bool}{d:List Int}(H:RL Q x d)(ho:Q.cB (Q.src x)=true){v:Nat}{w:Int}(h:Way Q.H (c7 x) (cS x) (Q.src x) v w):w<aI->aF d v<=w:=by
 induction h with
 |nil=>intro _;rw[H.zero ho];exact Int.le_refl 0
 |step a hw hm ht ih=>
  intro hlt;have h1:=ih (by omega);obtain⟨i,hi,hok,rfl⟩:=pz.1 hm;have :=H.ag i hi hok (by rw[ht];omega);rw[ht]at this;omega
theorem ahc(hQ:Q.Ok)(hne:Q.s≠Q.t)(hF:Q.gp){d:List Int}(H:RL Q false d):Q.fin.aH=if Q.cB Q.t=true then aF d Q.t else aI:=by
 obtain⟨st,R,hn⟩:=Q.UZ hQ;have hr:=H.uq hQ.t;by_cases hf:Q.fin.aH=aI
 ·by_cases ho:Q.cB Q.t=true
  ·rw[if_pos ho,hf];rcases H.way Q.t hQ.t with h|⟨_,h⟩
   ·exact h.symm
   ·have :=R.least hn hne hF h;omega
  ·rw[if_neg ho,hf]
 ·have hw:=R.way hf;have hw':Way Q.H (c7 false) (cS false) Q.s Q.t Q.fin.aH:=hw;obtain⟨o1,o2⟩:=(Hy hw').resolve_left λe=>hne e.symm;rw[if_pos o2];have h1:=H.mZ o1 hw' (by have :=R.gC;omega);rcases H.way Q.t hQ.t with h|⟨_,h⟩
  ·have :=R.gC;omega
  ·have :=R.least hn hne hF h;omega
def gu(v t:Int):Int:=if aI<=t then 0 else if aI<=v then aI else if 0<v-t then v-t else 0
end
open Go
open Go
def U0(d:List Int)(v:Int):Bool:=decide (0<=v)&&(decide (v<d.length)&&(decide (0<=d.getD v.toNat aI)&&decide (d.getD v.toNat aI<aI)))
def U1(a b:List Int):Nat->Int×Int
 |0=>(-1,aI)
 |i+1=>let p:=U1 a b i
  if U0 a i=true/\U0 b i=true/\(p.1<0\/a.getD i aI+b.getD i aI<p.2)then((i:Int),a.getD i aI+b.getD i aI)else p
def meet(a b:List Int):Int×Int:=U1 a b (min a.length b.length)
open Go
def gU(g:G)(r v:Nat)(b:Int)(m:Nat):Int:=max (max b (gu (aF (g.to m).aH r) (aF (g.to m).aH v))) (gu (aF (g.from m).aH v) (aF (g.from m).aH r))
def dG(g:G)(ms:List Nat)(r v:Nat):Int:=ms.foldl (gU g r v) 0
section
variable{g:G}{r v m:Nat}{ms:List Nat}
theorem U2:dG g (ms++ [m]) r v=gU g r v (dG g ms r v) m:=by simp[dG]
theorem ahd{b:Int}:b<=gU g r v b m:=by unfold gU;omega
theorem BH:∀{ms:List Nat}{b:Int},b<=ms.foldl (gU g r v) b
 | [],_=>Int.le_refl _
 |_::_,_=>Int.le_trans ahd BH
theorem r8:0<=dG g ms r v:=BH
theorem xX{l:List A}{tl hd:A->Nat}{n s:Nat}{t:Tr}(T:lz l tl hd n s t)(hw:∀a∈l,(a.w:Int)<=W){v:Nat}(hv:v<n)(hf:aF t.aH v<aI):aF t.aH v+W<=n*W/\Way l tl hd s v (aF t.aH v):=by
 have hm:=(T.oN v hv).2 hf;have h1:=T.top hw v hm;have h2:t.order.idxOf v<n:=Nat.lt_of_lt_of_le (List.idxOf_lt_length_of_mem hm) (iL T.nodup T.range);refine⟨?_,((T.ls.way v hv).resolve_left (by omega)).2⟩;have h3:((t.order.idxOf v:Int)+1)*W<=n*W:=Int.mul_le_mul_of_nonneg_right (by omega) (by decide);rw[Int.add_mul,Int.one_mul]at h3;omega
theorem ahe(hR:g.Right)(hr:r<g.n)(hv:v<g.n)(hm:m<g.n):gu (aF (g.to m).aH r) (aF (g.to m).aH v)<=aF (g.from r).aH v/\gu (aF (g.from m).aH v) (aF (g.from m).aH r)<=aF (g.from r).aH v:=by
 have hw:∀a∈g.ag,(a.w:Int)<=W:=λa ha=>by have :=(hR.ends a ha).2.2;show(a.w:Int)<=2147483647;omega
 have Tr:=eX hR hr;have b:=eX hR hm;have d:=oO hR hm;have f:aI=72057594037927936:=rfl;have hW:W=2147483647:=rfl;have h:=hR.most;have n0:=Tr.ls.gC hv;have n1:=Tr.ls.iB hv;have a0:=d.ls.gC hv;have c0:=b.ls.gC hr;have a1:=d.ls.iB hr;have c1:=b.ls.iB hv;by_cases hd:aF (g.from r).aH v<aI
 ·obtain⟨b1,w1⟩:=xX Tr hw hv hd;constructor
  ·by_cases ha:aF (g.to m).aH v<aI
   ·obtain⟨b2,w2⟩:=xX d hw hv ha;have :=d.ls.mZ (w2.cat w1.rev) (by rw[hW]at b1 b2;omega);unfold gu;split
    ·omega
    ·split
     ·rw[hW]at b1 b2;omega
     ·split<;>omega
   ·unfold gu;rw[if_pos (by omega)];exact n0
  ·by_cases hc:aF (g.from m).aH r<aI
   ·obtain⟨b2,w2⟩:=xX b hw hr hc;have :=b.ls.mZ (w2.cat w1) (by rw[hW]at b1 b2;omega);unfold gu;split
    ·omega
    ·split
     ·rw[hW]at b1 b2;omega
     ·split<;>omega
   ·unfold gu;rw[if_pos (by omega)];exact n0
 ·have e:aF (g.from r).aH v=aI:=by omega
  rw[e];have :∀a c:Int,0<=c->a<=aI->gu a c<=aI:=λa c hc ha=>by
   unfold gu;split
   ·decide
   ·split
    ·exact Int.le_refl _
    ·split
     ·omega
     ·decide
  exact⟨this _ _ a0 a1,this _ _ c0 c1⟩
theorem uF(hR:g.Right)(hr:r<g.n)(hv:v<g.n)(hm:∀m∈ms,m<g.n):dG g ms r v<=aF (g.from r).aH v:=by
 unfold dG;have h0:=(eX hR hr).ls.gC hv;generalize (0:Int)=b at h0
 induction ms generalizing b with
 |nil=>exact h0
 |cons m ms ih=>
  refine ih (λx hx=>hm x (List.mem_cons_of_mem _ hx)) _ ?_;have :=ahe hR hr hv (hm m List.mem_cons_self);unfold gU;omega
end
open Go
def eP(l:List A)(t:Tr)(v:Nat):Option Nat:=if 0<=t.bF.getD v (-1)/\t.bF.getD v (-1)<l.length then some (aD l (t.bF.getD v (-1)).toNat).f else none
section
variable{l:List A}{n s:Nat}{t:Tr}
theorem lP(T:lz l A.f A.t n s t){v p:Nat}(h:eP l t v=some p):v∈t.order/\v≠s/\p∈t.order/\t.order.idxOf p<t.order.idxOf v:=by
 unfold eP at h;split at h
 ·rename_i hz;obtain rfl:=Option.some.inj h;by_cases hv:v∈t.order
  ·by_cases hs:v=s
   ·subst hs;rw[T.root]at hz;omega
   ·obtain⟨i,hi,e,_,e2,_,e3⟩:=T.bF v hv hs;rw[e]at hz ⊢;rw[Int.toNat_natCast];exact⟨hv,hs,e2,e3⟩
  ·by_cases hn:v<n
   ·rw[(T.none v hn hv).2]at hz;omega
   ·have :t.bF.getD v (-1)= -1:=by rw[List.getD_eq_getElem?_getD,List.getElem?_eq_none (by rw[T.al];omega)];rfl
    rw[this]at hz;omega
 ·cases h
inductive jW(par:Nat->Option Nat)(v:Nat):Nat->Prop
 |refl:jW par v v
 |step {u p:Nat}:par u=some p->jW par v p->jW par v u
theorem jW.up{par:Nat->Option Nat}{v k u:Nat}(hk:par k=some v)(h:jW par k u):jW par v u:=by
 induction h with
 |refl=>exact .step hk .refl
 |step hp _ ih=>exact .step hp ih
theorem U3{par:Nat->Option Nat}{v u:Nat}:jW par v u↔u=v\/∃k,par k=some v/\jW par k u:=by
 constructor
 ·intro h
  induction h with
  |refl=>exact .inl rfl
  |step hp _ ih=>
   rcases ih with rfl|⟨k,h1,h2⟩
   ·exact .inr ⟨_,hp,.refl⟩
   ·exact .inr ⟨k,h1,.step hp h2⟩
 ·rintro(rfl|⟨k,h1,h2⟩)
  ·exact .refl
  ·exact h2.up h1
theorem HB(T:lz l A.f A.t n s t){v u:Nat}(h:jW (eP l t) v u):t.order.idxOf v<=t.order.idxOf u:=by
 induction h with
 |refl=>exact Nat.le_refl _
 |step hp _ ih=>have :=(lP T hp).2.2.2;omega
theorem HC(T:lz l A.f A.t n s t){v u:Nat}(h:jW (eP l t) v u)(hv:v∈t.order):u∈t.order:=by
 cases h with
 |refl=>exact hv
 |step hp _=>exact(lP T hp).1
theorem ahf(T:lz l A.f A.t n s t){v k1 k2 u:Nat}(p1:eP l t k1=some v)(p2:eP l t k2=some v)(h1:jW (eP l t) k1 u)(h2:jW (eP l t) k2 u):k1=k2:=by
 have i1:=(lP T p1).2.2.2;have i2:=(lP T p2).2.2.2
 induction h1 with
 | refl=>
  cases h2 with
  |refl=>rfl
  |step hp h=>
   obtain rfl:=Option.some.inj (hp.symm.trans p1);have :=HB T h;omega
 | step hp h ih=>
  cases h2 with
  |refl=>
   obtain rfl:=Option.some.inj (hp.symm.trans p2);have :=HB T h;omega
  |step hp' h'=>
   obtain rfl:=Option.some.inj (hp.symm.trans hp');exact ih h'
end
def qw:Int:=2305843009213693952
def iR(x:Int):Int:=min (max x 0) qw
def lQ(a b:Int):Int:=iR (iR (0+iR a)+iR b)
theorem ahg{a b:Int}(ha:0<=a)(hb:0<=b)(h:a+b<=qw):lQ a b=a+b:=by unfold lQ iR;omega
structure GS where
 sz:List Int
 mc:List Int
 kd:Nat->List Nat
def GS.own(wt:Nat->Int)(S:GS)(v:Nat):Int:=(S.kd v).foldl (λa k=>lQ a (S.sz.getD k 0)) (wt v)
def GS.kj(S:GS)(v:Nat):Int:=(S.kd v).foldl (λa k=>a+S.mc.getD k 0) (S.mc.getD v 0)
def pE(kd:Nat->List Nat)(v:Nat):Option Nat->Nat->List Nat
 |some p=>λx=>if x=p then kd x++ [v]else kd x
 |none=>kd
def GS.step(par:Nat->Option Nat)(wt:Nat->Int)(S:GS)(v:Nat):GS:=⟨if S.kj v=0 then S.sz.set v (S.own wt v)else S.sz,S.mc.set v (S.kj v),pE S.kd v (par v)⟩
theorem U4{f:Nat->Int}:∀{l:List Nat}{a:Int},0<=a->(∀k∈l,0<=f k)->a+(l.map f).sum<=qw->l.foldl (λa k=>lQ a (f k)) a=a+(l.map f).sum
 | [],a,_,_,_=>by simp
 | k::l,a,ha,hf,hm=>by
  have hk:=hf k List.mem_cons_self;have b:0<=(l.map f).sum:=by
   have :∀l:List Nat,(∀k∈l,0<=f k)->0<=(l.map f).sum:=λl=>by
    induction l with
    |nil=>intro _;exact Int.le_refl _
    |cons k l ih=>intro h;rw[List.map_cons,List.sum_cons];have :=ih λx hx=>h x (List.mem_cons_of_mem _ hx);have :=h k List.mem_cons_self;omega
   exact this l λx hx=>hf x (List.mem_cons_of_mem _ hx)
  rw[List.map_cons,List.sum_cons]at hm ⊢;rw[List.foldl_cons,ahg ha hk (by omega),U4 (by omega) (λx hx=>hf x (List.mem_cons_of_mem _ hx)) (by omega)];omega
theorem foldl_add{f:Nat->Int}:∀{l:List Nat}{a:Int},l.foldl (λa k=>a+f k) a=a+(l.map f).sum
 | [],a=>by simp
 |k::l,a=>by rw[List.foldl_cons,foldl_add,List.map_cons,List.sum_cons];omega
theorem xY{f:Nat->Int}:∀{l:List Nat},(∀k∈l,0<=f k)->0<=(l.map f).sum
 | [],_=>Int.le_refl _
 |k::l,h=>by
  rw[List.map_cons,List.sum_cons];have :=xY λx hx=>h x (List.mem_cons_of_mem _ hx);have :=h k List.mem_cons_self;omega
theorem HD{f:Nat->Int}{B:Int}:∀{l:List Nat},(∀k∈l,f k<=B)->(l.map f).sum<=l.length*B
 | [],_=>by simp
 |k::l,h=>by
  rw[List.map_cons,List.sum_cons,List.length_cons];have :=HD λx hx=>h x (List.mem_cons_of_mem _ hx);have :=h k List.mem_cons_self;have e:((l.length+1:Nat):Int)*B=l.length*B+B:=by rw[Int.natCast_add,Int.add_mul];simp
  omega
theorem BJ{f:Nat->Int}:∀{l:List Nat},(∀k∈l,0<=f k)->(l.map f).sum=0->∀k∈l,f k=0
 | [],_,_=>λ_ h=>by cases h
 |k::l,h,he=>by
  rw[List.map_cons,List.sum_cons]at he;have h1:=xY λx hx=>h x (List.mem_cons_of_mem _ hx);have h2:=h k List.mem_cons_self;intro x hx;rcases List.mem_cons.1 hx with rfl|hx
  ·omega
  ·exact BJ (λx hx=>h x (List.mem_cons_of_mem _ hx)) (by omega) x hx
theorem HF{f:Nat->Int}{p:Nat->List Nat}:∀{l:List Nat},((l.flatMap p).map f).sum=(l.map λk=>((p k).map f).sum).sum
 | []=>rfl
 |k::l=>by rw[List.flatMap_cons,List.map_append,List.sum_append,HF,List.map_cons,List.sum_cons]
section
variable{l:List A}{n s:Nat}{t:Tr}{wt cnt:Nat->Int}
structure GI(par:Nat->Option Nat)(n:Nat)(wt cnt:Nat->Int)(D:List Nat)(S:GS):Prop where
 kd:∀x,S.kd x=D.filter λv=>decide (par v=some x)
 sl:S.sz.length=n
 ml:S.mc.length=n
 out:∀v,v<n->v∉D->S.sz.getD v 0=0/\S.mc.getD v 0=cnt v
 done:∃pt:Nat->List Nat,∀v∈D,(pt v).Nodup/\(∀u,u∈pt v↔jW par v u)/\S.mc.getD v 0=((pt v).map cnt).sum/\S.sz.getD v 0=if S.mc.getD v 0=0 then((pt v).map wt).sum else 0
theorem HG:∀{l q:List Nat},l.Nodup->(∀x∈l,x∈q)->l.length<=q.length
 | [],_,_,_=>Nat.zero_le _
 |a::l,q,hn,h=>by
  have ha:=h a List.mem_cons_self;have hn':=List.nodup_cons.1 hn;have :=HG (l:=l) (q:=q.erase a) hn'.2 λx hx=>(List.mem_erase_of_ne (λe:x=a=>hn'.1 (by rw[<-e];exact hx))).2 (h x (List.mem_cons_of_mem _ hx));rw[List.length_erase_of_mem ha]at this;have hp:=List.length_pos_of_mem ha;rw[List.length_cons];omega
theorem GI.step(T:lz l A.f A.t n s t)(hn:t.order.length<=32)(hw:∀v∈t.order,0<=wt v/\wt v<=aI)(hc:∀v,0<=cnt v){pre post:List Nat}{v:Nat}{S:GS}(he:t.order=pre++v::post)
  (H:GI (eP l t) n wt cnt post.reverse S):GI (eP l t) n wt cnt (post.reverse++ [v]) (S.step (eP l t) wt v):=by
 have g:v∈t.order:=by rw[he];simp
 have z:=T.range v g;have d:=T.nodup;have C:v∉post:=by
  rw[he]at d;exact(List.nodup_cons.1 (List.nodup_append.1 d).2.1).1
 have D:v∉pre:=by
  rw[he]at d;exact λh=>(List.nodup_append.1 d).2.2 v h v List.mem_cons_self rfl
 have hiv:t.order.idxOf v=pre.length:=by
  rw[he,List.idxOf_append,if_neg D];simp
 obtain⟨o1,o2⟩:=H.out v z (by simpa using C);obtain⟨pt,hpt⟩:=H.done;have hkm:∀k,k∈S.kd v↔eP l t k=some v:=λk=>by
  rw[H.kd,List.mem_filter,List.mem_reverse,decide_eq_true_eq];refine⟨λh=>h.2,λh=>⟨?_,h⟩⟩;obtain⟨q1,_,_,I⟩:=lP T h;rw[he]at q1;rcases List.mem_append.1 q1 with q|q
  ·have :t.order.idxOf k<pre.length:=by
    rw[he,List.idxOf_append,if_pos q];exact List.idxOf_lt_length_of_mem q
   omega
  ·rcases List.mem_cons.1 q with rfl|q
   ·omega
   ·exact q
 have E:∀k∈S.kd v,k∈post.reverse:=λk hk=>by rw[H.kd]at hk;exact(List.mem_filter.1 hk).1
 have hkn:(S.kd v).Nodup:=by
  rw[H.kd];rw[he]at d;have F:=List.nodup_iff_pairwise_ne.1 (List.nodup_cons.1 (List.nodup_append.1 d).2.1).2;exact List.nodup_iff_pairwise_ne.2 (List.Pairwise.filter _ (List.pairwise_reverse.2 (F.imp λh e=>h e.symm)))
 have c:∀k∈S.kd v,(pt k).Nodup/\(∀u,u∈pt k↔jW (eP l t) k u)/\S.mc.getD k 0=((pt k).map cnt).sum/\S.sz.getD k 0=if S.mc.getD k 0=0 then((pt k).map wt).sum else 0:=λk hk=>hpt k (E k hk);generalize hK:S.kd v=K at *;have pm:∀u,u∈v::K.flatMap pt↔jW (eP l t) v u:=λu=>by
  rw[U3,List.mem_cons,List.mem_flatMap];refine or_congr Iff.rfl ⟨λ⟨k,h1,h2⟩=>⟨k,(hkm k).1 h1,((c k h1).2.1 u).1 h2⟩,λ⟨k,h1,h2⟩=>⟨k,(hkm k).2 h1,((c k ((hkm k).2 h1)).2.1 u).2 h2⟩⟩
 have j:(v::K.flatMap pt).Nodup:=by
  refine List.nodup_cons.2 ⟨λh=> ?_,?_⟩
  ·obtain⟨k,h1,h2⟩:=List.mem_flatMap.1 h;have :=HB T (((c k h1).2.1 v).1 h2);have :=(lP T ((hkm k).1 h1)).2.2.2;omega
  ·rw[List.nodup_iff_pairwise_ne,List.pairwise_flatMap];refine⟨λk hk=>List.nodup_iff_pairwise_ne.1 (c k hk).1,(List.nodup_iff_pairwise_ne.1 hkn).imp_of_mem λ{a b} ha hb hne x hx y hy e=>hne ?_⟩;subst e;exact ahf T ((hkm a).1 ha) ((hkm b).1 hb) (((c a ha).2.1 x).1 hx) (((c b hb).2.1 x).1 hy)
 have i:∀u∈v::K.flatMap pt,u∈t.order:=λu hu=>HC T ((pm u).1 hu) g;have afD:(v::K.flatMap pt).length<=t.order.length:=HG j i;have m:S.kj v=((v::K.flatMap pt).map cnt).sum:=by
  unfold GS.kj;rw[hK,foldl_add,o2,List.map_cons,List.sum_cons,HF];congr 2;exact List.map_congr_left λk hk=>(c k hk).2.2.1
 have hown:S.kj v=0->S.own wt v=((v::K.flatMap pt).map wt).sum:=λh0=>by
  have hz:=BJ (λk _=>hc k) (m.symm.trans h0);have hsz:∀k∈K,S.sz.getD k 0=((pt k).map wt).sum:=λk hk=>by
   obtain⟨_,_,e1,e2⟩:=c k hk;have :S.mc.getD k 0=0:=by
    rw[e1];have :∀u∈pt k,cnt u=0:=λu hu=>hz u (List.mem_cons_of_mem _ (List.mem_flatMap.2 ⟨k,hk,hu⟩));rw[List.map_congr_left this];generalize pt k=q
    induction q with
    |nil=>rfl
    |cons a q ih=>rw[List.map_cons,List.sum_cons];omega
   rw[e2,if_pos this]
  have htot:((v::K.flatMap pt).map wt).sum=wt v+(K.map λk=>S.sz.getD k 0).sum:=by
   rw[List.map_cons,List.sum_cons,HF];congr 2;exact List.map_congr_left λk hk=>(hsz k hk).symm
  have hle:((v::K.flatMap pt).map wt).sum<=qw:=by
   have h1:=HD (f:=wt) (B:=aI) λk hk=>(hw k (i k hk)).2;have h2:((v::K.flatMap pt).length:Int)*aI<=32*aI:=Int.mul_le_mul_of_nonneg_right (by omega) (by decide);have h3:32*aI<=qw:=by decide
   omega
  unfold GS.own;rw[hK,htot];rw[htot]at hle;refine U4 (f:=λk=>S.sz.getD k 0) (hw v g).1 (λk hk=> ?_) hle;rw[hsz k hk];exact xY λu hu=>(hw u (i u (List.mem_cons_of_mem _ (List.mem_flatMap.2 ⟨k,hk,hu⟩)))).1
 have o:∀{L:List Int}{x:Int}{u:Nat},L.length=n->(L.set v x).getD u 0=if u=v then x else L.getD u 0:=λ{L x u} hL=>by
  by_cases h:u=v
  ·subst h;rw[if_pos rfl,List.getD_eq_getElem?_getD,List.getElem?_set_self (by omega)];rfl
  ·rw[if_neg h,List.getD_eq_getElem?_getD,List.getElem?_set_ne (λe=>h e.symm),<-List.getD_eq_getElem?_getD]
 have r:∀u,(S.step (eP l t) wt v).mc.getD u 0=if u=v then S.kj v else S.mc.getD u 0:=λu=>o H.ml;have w:∀u,(S.step (eP l t) wt v).sz.getD u 0=if u=v then(if S.kj v=0 then S.own wt v else 0)else S.sz.getD u 0:=λu=>by
  show(if S.kj v=0 then S.sz.set v (S.own wt v)else S.sz).getD u 0=_;by_cases h0:S.kj v=0
  ·rw[if_pos h0,if_pos h0];exact o H.sl
  ·rw[if_neg h0,if_neg h0];by_cases h:u=v
   ·rw[if_pos h,h];exact o1
   ·rw[if_neg h]
 refine⟨λx=> ?_,?_,?_,λu hu hd=> ?_,⟨λu=>if u=v then v::K.flatMap pt else pt u,λu hu=> ?_⟩⟩
 ·rw[List.filter_append,<-H.kd];show pE S.kd v (eP l t v) x=_;cases hp:eP l t v with
  |none=>simp[pE,hp]
  | some p=>
   by_cases hx:x=p
   ·subst hx;simp[pE,hp]
   ·have :¬p=x:=λe=>hx e.symm;simp[pE,hp,hx,this]
 ·show(if S.kj v=0 then S.sz.set v (S.own wt v)else S.sz).length=n;split
  ·rw[List.length_set];exact H.sl
  ·exact H.sl
 ·show(S.mc.set v _).length=n;rw[List.length_set];exact H.ml
 ·have hne:u≠v:=λe=>hd (by rw[e];simp);have :=H.out u hu λh=>hd (List.mem_append_left _ h);rw[w,r,if_neg hne,if_neg hne];exact this
 ·rw[w,r];by_cases h:u=v
  ·subst h;simp only[if_pos];refine⟨j,pm,m,?_⟩;by_cases h0:S.kj u=0
   ·rw[if_pos h0,if_pos h0];exact hown h0
   ·rw[if_neg h0,if_neg h0]
  ·have G:u∈post.reverse:=by
    rcases List.mem_append.1 hu with h'|h'
    ·exact h'
    ·exact absurd (List.mem_singleton.1 h') h
   simp only[if_neg h];exact hpt u G
theorem GI.all(T:lz l A.f A.t n s t)(hn:t.order.length<=32)(hw:∀v∈t.order,0<=wt v/\wt v<=aI)(hc:∀v,0<=cnt v){S:GS}(H:GI (eP l t) n wt cnt [] S):∀{post pre:List Nat},t.order=pre++post->GI (eP l t) n wt cnt post.reverse (post.reverse.foldl (GS.step (eP l t) wt) S)
 | [],pre,_=>H
 |v::post,pre,he=>by
  have ih:=GI.all T hn hw hc H (post:=post) (pre:=pre++ [v]) (by rw[he];simp);rw[List.reverse_cons,List.foldl_append];exact ih.step T hn hw hc he
end
open Go
def ovr(f:Nat->Int)(v:Nat):Option Nat->Bool
 |none=>true
 |some w=>decide (f w<f v\/(f v=f w/\v<w))
def qx(f:Nat->Int)(b:Option Nat)(v:Nat):Option Nat:=if 0<f v/\ovr f v b=true then some v else b
def jh(f:Nat->Int)(l:List Nat):Option Nat:=l.foldl (qx f) none
def xZ(f:Nat->Int)(l:List Nat)(b:Option Nat):Prop:=
 (b=none/\∀v∈l,f v<=0)\/∃w,b=some w/\w∈l/\0<f w/\∀v∈l,f v<f w\/(f v=f w/\w<=v)
theorem ahh{f:Nat->Int}{l:List Nat}{b:Option Nat}{v:Nat}(h:xZ f l b):xZ f (l++ [v]) (qx f b v):=by
 unfold qx;rcases h with ⟨rfl,h⟩|⟨w,rfl,h1,h2,h3⟩
 ·by_cases hv:0<f v
  ·rw[if_pos ⟨hv,rfl⟩];refine .inr ⟨v,rfl,by simp,hv,λu hu=> ?_⟩;rcases List.mem_append.1 hu with hu|hu
   ·exact .inl (by have :=h u hu;omega)
   ·rw[List.mem_singleton.1 hu];exact .inr ⟨rfl,Nat.le_refl _⟩
  ·rw[if_neg λh=>hv h.1];refine .inl ⟨rfl,λu hu=> ?_⟩;rcases List.mem_append.1 hu with hu|hu
   ·exact h u hu
   ·rw[List.mem_singleton.1 hu];omega
 ·by_cases hc:0<f v/\(f w<f v\/(f v=f w/\v<w))
  ·rw[if_pos ⟨hc.1,decide_eq_true hc.2⟩];refine .inr ⟨v,rfl,by simp,hc.1,λu hu=> ?_⟩;rcases List.mem_append.1 hu with hu|hu
   ·have :=h3 u hu;omega
   ·rw[List.mem_singleton.1 hu];exact .inr ⟨rfl,Nat.le_refl _⟩
  ·rw[if_neg λh=>hc ⟨h.1,of_decide_eq_true h.2⟩];refine .inr ⟨w,rfl,List.mem_append_left _ h1,h2,λu hu=> ?_⟩;rcases List.mem_append.1 hu with hu|hu
   ·exact h3 u hu
   ·rw[List.mem_singleton.1 hu];omega
theorem pF{f:Nat->Int}:∀{l:List Nat},xZ f l (jh f l):=by
 have :∀{l l0:List Nat}{b:Option Nat},xZ f l0 b->xZ f (l0++l) (l.foldl (qx f) b):=by
  intro l
  induction l with
  |nil=>intro l0 b h;rw[List.append_nil];exact h
  |cons v l ih=>
   intro l0 b h;have :=ih (ahh (v:=v) h);rw[List.append_assoc]at this;exact this
 intro l;have :=this (l:=l) (l0:=[]) (b:=none) (.inl ⟨rfl,λv h=>by cases h⟩);exact this
theorem ahi{f:Nat->Int}{l:List Nat}{v:Nat}:jh f (l++ [v])=qx f (jh f l) v:=by simp[jh]
def down(f:Nat->Int)(kd:Nat->List Nat):Nat->Nat->Nat
 |0,v=>v
 |k+1,v=>match jh f (kd v)with
  |none=>v
  |some w=>down f kd k w
def lR(ms:List Nat):Nat->Nat->Nat
 |0,v=>v
 |k+1,v=>if v∈ms then lR ms k (v+1)else v
theorem U5{f:Nat->Int}{kd:Nat->List Nat}:∀{k v:Nat},0<f v->0<f (down f kd k v)
 |0,_,h=>h
 |k+1,v,h=>by
  unfold down;rcases pF (f:=f) (l:=kd v)with ⟨e,_⟩|⟨w,e,_,h2,_⟩
  ·rw[e];exact h
  ·rw[e];exact U5 h2
theorem U6{f:Nat->Int}{kd:Nat->List Nat}{ix:Nat->Nat}{n:Nat}(hk:∀v,∀w∈kd v,ix v<ix w/\ix w<n):∀{k v:Nat},n<=k+ix v->jh f (kd (down f kd k v))=none
 |0,v,h=>by
  rcases pF (f:=f) (l:=kd v)with ⟨e,_⟩|⟨w,_,h1,_,_⟩
  ·exact e
  ·have :=hk v w h1;omega
 | k+1,v,h=>by
  unfold down;cases e:jh f (kd v)with
  |none=>exact e
  | some w=>
   refine U6 hk ?_;rcases pF (f:=f) (l:=kd v)with ⟨e',_⟩|⟨w',e',h1,_,_⟩
   ·rw[e]at e';cases e'
   ·rw[e]at e';cases e';have :=hk v w h1;omega
theorem ya:∀{v:Nat}{ms:List Nat},(∀u,u<v->u∈ms)->(List.range v).length<=ms.length
 |0,_,_=>Nat.zero_le _
 |v+1,ms,h=>by
  have h1:=ya (v:=v) (ms:=ms.erase v) λu hu=>(List.mem_erase_of_ne (by omega)).2 (h u (by omega));have h2:=List.length_erase_of_mem (h v (by omega));have h3:0<ms.length:=List.length_pos_of_mem (h v (by omega));rw[List.length_range]at h1 ⊢;omega
theorem U7{ms:List Nat}:∀{k v:Nat},(∀u,u<v->u∈ms)->ms.length<k+v->(ms.Nodup)->lR ms k v∉ms/\(∀u,u<lR ms k v->u∈ms)/\lR ms k v<=ms.length
 | 0,v,h,hl,hn=>by
  have :(List.range v).length<=ms.length:=by
   exact ya h
  rw[List.length_range]at this;omega
 | k+1,v,h,hl,hn=>by
  unfold lR;by_cases hv:v∈ms
  ·rw[if_pos hv];exact U7 (λu hu=>by
    by_cases e:u=v
    ·rw[e];exact hv
    ·exact h u (by omega)) (by omega) hn
  ·rw[if_neg hv];refine⟨hv,h,?_⟩;have :(List.range v).length<=ms.length:=by
    exact ya h
   rwa[List.length_range]at this
end Go.Mh
