/- Lemmas on the way to the law of this seat, joined. They have no conditions of their own. -/
import Derived.Test.YtacopgnplajifaaGreatDoorMa
import Derived.RangeFuncLeaves
import Derived.RecoverIn
import Derived.Laws.Append
import Derived.WalkKit
import Derived.ProofKit
import Derived.Deep.Slices
set_option linter.unusedVariables false
set_option linter.unusedSimpArgs false
set_option linter.unusedSectionVars false
set_option linter.defProp false

namespace Go.Mh
open Go
def s8(o:Oper):Nat:=o.after.toList.foldl (λs e=>bif Region.binds .any e then s|||2^e.on else s) 0
def s9(o:Oper)(i listed:Nat):Bool:=
 match Nat.testBit listed i with
 |true=>false
 |false=>Nat.beq (s8 o&&& listed) (s8 o)
def wU(listed:Nat):List Oper->Nat->Option (Nat×Oper)
 | [],_=>none
 | o::r,i=>match rN o.op with
  |true=>(match s9 o i listed with
   |true=>some (i,o)
   |false=>wU listed r (i+1))
  |false=>wU listed r (i+1)
def nO(listed:Nat):List Oper->Nat->List (Nat×Oper)
 | [],_=>[]
 |o::r,i=>match s9 o i listed with
  |true=>(i,o)::nO listed r (i+1)
  |false=>nO listed r (i+1)
abbrev rR:=List (Nat×Oper×bU×Value)
def mW(a:Nat):rR->rR
 | []=>[]
 |x::r=>match Nat.testBit a x.1 with
  |true=>mW a r
  |false=>x::mW a r
def recheck(P:Program)(h:af):rR->Prop->Prop
 | [],R=>R
 |x::r,R=>jA P (ev x.2.2.1) x.2.1.op h (λv=>v=x.2.2.2)/\recheck P h r R
def FN{α:Type}(F:α->Prop):List α->Prop
 | []=>True
 | [x]=>F x
 |x::y::r=>F x/\FN F (y::r)
def pV (P:Program) (n:Nat) (ops:Array Oper) (bQ:List Nat):Nat->Nat->rR->bU->af->(bU->af->Prop)->Prop
 |0,listed,_,e,h,K=>(match nO listed ops.toList 0 with
  | []=>K e h
  |_=>False)
 | f +1,listed,H,e,h,K=>
  match wU listed ops.toList 0 with
  | some (c,o)=>zm ops o e fun w e'=>(match w with
   | true=>(match wT n o e' with
    |true=>jA P (ev e') o.op h λv=>pV P n ops bQ f (listed|||2^c) (match wQ P o.op with
     |true=>H
     |false=>H++ [(c,o,e',v)]) (mV e' o.dst v) h K
    |false=>False)
   |false=>(match qF n o.dst with
    |true=>pV P n ops bQ f (listed|||2^c) H (mV e' o.dst undef) h K
    |false=>False))
  | none=>(match nO listed ops.toList 0 with
   | []=>K e h
   |l=>FN (λ(x:Nat×Oper)=>qG P n ops x.2 e h λe' h'=>(match zf x.2.op with
    |true=>pV P n ops bQ f (listed|||2^x.1) (mW (bQ.getD x.1 0) H) e' h' K
    |false=>recheck P h' (mW (bQ.getD x.1 0) H) (pV P n ops bQ f (listed|||2^x.1) (mW (bQ.getD x.1 0) H) e' h' K))) l)
section
variable{P:Program}{ops:Array Oper}{n:Nat}{bQ:List Nat}
def LR(ops:Array Oper)(listed:Nat)(lA:Array Bool):Prop:=lA.size=ops.size/\∀j,lA.getD j false=listed.testBit j
def LR.set{listed:Nat}{lA:Array Bool}{i:Nat}(h:LR ops listed lA)(hi:i<ops.size):LR ops (listed|||2^i) (lA.setIfInBounds i true):=by refine⟨by simp[h.1],λj=> ?_⟩;rw[BX (by rw[h.1];exact hi),Bj,EP,<-h.2 j];by_cases e:i=j<;>simp[e]
def K6(o:Oper)(c:Nat):(s8 o).testBit c=true↔∃e∈o.after,Region.binds .any e=true/\e.on=c:=by
 have key:∀(l:List Edge)(s:Nat),(l.foldl (λs e=>bif Region.binds .any e then s|||2^e.on else s) s).testBit c=true↔
   s.testBit c=true\/∃e∈l,Region.binds .any e=true/\e.on=c:=by
  intro l
  induction l with
  |nil=>intro s;simp
  | cons e l ih=>
   intro s;rw[kS,ih];cases hb:Region.binds .any e with
   |false=>simp[hb]
   | true=>
    simp only[cond_true,Bj,EP,uc,gT,cV,exists_eq_or_imp,hb,rB];constructor
    .rintro((h|h)|h)
     .exact .inl h
     .exact .inr (.inl h)
     .exact .inr (.inr h)
    .rintro(h|h|h)
     .exact .inl (.inl h)
     .exact .inl (.inr h)
     .exact .inr h
 unfold s8;rw[key,Nat.zero_testBit];simp only[gm,false_or,<-Array.mem_def]
def zo{listed:Nat}{lA:Array Bool}{i:Nat}{o:Oper}(h:LR ops listed lA)(ho:ops[i]? =some o):s9 o i listed=true↔i∈Region.ready .any ops lA:=by
 have hi:i<ops.size:=(Bh.1 ho).1;rw[mem_ready];have hd:lA.getD i true=listed.testBit i:=by
  rw[<-h.2 i];have :i<lA.size:=by rw[h.1];exact hi
  simp[yI,this]
 unfold s9;constructor
 .intro hr;split at hr
  .cases hr
  .rename_i hb;refine⟨hi,by rw[hd,hb],o,ho,λe he a=> ?_⟩;have heq:=gl hr;have :(s8 o).testBit e.on=true:=(K6 o e.on).2 ⟨e,he,a,rfl⟩;rw[<-heq,Nat.testBit_and,gb]at this;rw[h.2];exact this.2
 .rintro⟨_,h2,o',ho',h3⟩;rw[ho]at ho';cases ho';rw[hd]at h2;rw[h2];dsimp only;have :s8 o&&& listed=s8 o:=by
   apply Nat.eq_of_testBit_eq;intro j;rw[Nat.testBit_and];cases hb:(s8 o).testBit j with
   |false=>rfl
   |true=>obtain⟨e,he,a,rfl⟩:=(K6 o j).1 hb;rw[<-h.2,h3 e he a];rfl
  rw[this];exact Nat.beq_refl _
def K7{listed:Nat}:∀(l:List Oper)(k:Nat){c:Nat}{o:Oper},wU listed l k=some (c,o)->
  k<=c/\l[c-k]? =some o/\rN o.op=true/\s9 o c listed=true
 | [],k,c,o,h=>by cases h
 | x::l,k,c,o,h=>by
  have step:wU listed l (k+1)=some (c,o)->k<=c/\(x::l)[c-k]? =some o/\rN o.op=true/\s9 o c listed=true:=by intro h;obtain⟨h1,h2,h3,h4⟩:=K7 l (k+1) h;refine⟨aa,?_,h3,h4⟩;rw[show c-k=(c-(k+1))+1 by omega];simpa using h2
  simp only[wU]at h;split at h
  .rename_i hq;split at h
   .rename_i hr;simp only[eM,mO]at h;obtain⟨rfl,rfl⟩:=h;exact⟨cq _,aP,hq,hr⟩
   .exact step h
  .exact step h
def zp{listed:Nat}:∀(l:List Oper)(k:Nat)(c:Nat)(o:Oper),(c,o)∈nO listed l k↔
  k<=c/\l[c-k]? =some o/\s9 o c listed=true
 | [],k,c,o=>by simp[nO]
 | x ::l,k,c,o=>by
  have ih:=zp (listed:=listed) l (k+1) c o;have tail:(c,o)∈nO listed l (k+1)↔k<c/\(x::l)[c-k]? =some o/\s9 o c listed=true:=by
   rw[ih];constructor
   .rintro⟨h1,h2,h3⟩;refine⟨aa,?_,h3⟩;rw[show c-k=(c-(k+1))+1 by omega];simpa using h2
   .rintro⟨h1,h2,h3⟩;refine⟨aa,?_,h3⟩;rw[show c-k=(c-(k+1))+1 by omega]at h2;simpa using h2
  simp only[nO];split
  .rename_i hr;rw[cV,tail];constructor
   .rintro(h|⟨h1,h2,h3⟩)
    .simp only[mO]at h;obtain⟨rfl,rfl⟩:=h;exact⟨cq _,aP,hr⟩
    .exact⟨aa,h2,h3⟩
   .rintro⟨h1,h2,h3⟩;rcases Nat.lt_or_ge k c with hlt|hge
    .exact .inr ⟨hlt,h2,h3⟩
    .have :c=k:=aa;subst this;simp at h2;subst h2;exact .inl rfl
  .rename_i hr;rw[tail];constructor
   .rintro⟨h1,h2,h3⟩;exact⟨aa,h2,h3⟩
   .rintro⟨h1,h2,h3⟩;rcases Nat.lt_or_ge k c with hlt|hge
    .exact⟨hlt,h2,h3⟩
    .have :c=k:=aa;subst this;simp at h2;subst h2;rw[h3]at hr;cases hr
def K8{α:Type}{F:α->Prop}:∀{l:List α},FN F l->∀x∈l,F x
 | [x],h,y,hy=>by rw[eP.1 hy];exact h
 |x::y::r,h,z,hz=>by
  rcases cV.1 hz with rfl|hz
  .exact h.1
  .exact K8 h.2 z hz
def K9{h:af}{R:Prop}:∀{H:rR},recheck P h H R->R/\∀x∈H,jA P (ev x.2.2.1) x.2.1.op h (λv=>v=x.2.2.2)
 | [],hr=>⟨hr,aP⟩
 | x::H,hr=>by
  obtain⟨h1,h2⟩:=K9 hr.2;exact⟨h1,λy hy=>by
   rcases cV.1 hy with rfl|hy
   .exact hr.1
   .exact h2 y hy⟩
def B3{a:Nat}:∀{H:rR}{x:Nat×Oper×bU×Value},x∈mW a H↔x∈H/\a.testBit x.1=false
 | [],x=>by simp[mW]
 | y::H,x=>by
  simp only[mW];split
  .rename_i hb;rw[B3,cV];constructor
   .rintro⟨h1,h2⟩;exact⟨.inr h1,h2⟩
   .rintro⟨rfl|h1,h2⟩
    .rw[hb]at h2;cases h2
    .exact⟨h1,h2⟩
  .rename_i hb;rw[cV,B3,cV];constructor
   .rintro(rfl|⟨h1,h2⟩)
    .exact⟨.inl rfl,hb⟩
    .exact⟨.inr h1,h2⟩
   .rintro⟨rfl|h1,h2⟩
    .exact .inl rfl
    .exact .inr ⟨h1,h2⟩
def HR(P:Program)(H:rR)(HA:qE):Prop:=∀x∈HA,(∀h,x.2 h)\/∃y∈H,y.1=x.1/\∀h,jA P (ev y.2.2.1) y.2.1.op h (λv=>v=y.2.2.2)->x.2 h
def HR.drop{H:rR}{HA:qE}{i:Nat}(hh:HR P H HA):HR P (mW (bQ.getD i 0) H) (mJ bQ i HA):=by
 intro x hx;obtain⟨hx1,hx2⟩:=gL.1 hx;rcases hh x hx1 with h|⟨y,hy,he,h⟩
 .exact .inl h
 .refine .inr ⟨y,B3.2 ⟨hy,?_⟩,he,h⟩;rw[he];simpa[k8]using hx2
def QK(ops:Array Oper)(K:bU->af->Prop)(t₀:Array Value):Array Value->af->Prop:=λt h=>Fr ops t₀ t/\∃e,Rel e t/\K e h
def La{c:Nat}{o:Oper}(ho:ops[c]? =some o)(hq:rN o.op=true):quietAt ops c=true:=by simp[quietAt,ho,hq]
def B4 {K:bU->af->Prop} {t₀:Array Value}:∀(f:Nat){listed:Nat}{lA:Array Bool}{H:rR}{HA:qE}{e:bU}{t:Array Value}{h:af},
  LR ops listed lA->HR P H HA->(∀x∈H,jA P (ev x.2.2.1) x.2.1.op h (λv=>v=x.2.2.2))->Rel e t->t.size=n->Fr ops t₀ t->
  pV P n ops bQ f listed H e h K->RW P ops bQ (QK ops K t₀) f HA lA t h
 | 0,listed,lA,H,HA,e,t,h,hl,hh,a,hr,hn,hfr,hc=>by
  unfold pV at hc;split at hc
  .rename_i hnone;refine⟨?_,hfr,e,hr,hc⟩;apply J6.2;intro i hi;obtain⟨_,_,o,ho,_⟩:=mem_ready.1 hi;have :(i,o)∈nO listed ops.toList 0:=(zp _ _ _ _).2 ⟨fE _,by simpa using ho,(zo hl ho).2 hi⟩;rw[hnone]at this;cases this
  .exact hc.elim
 | f + 1,listed,lA,H,HA,e,t,h,hl,hh,a,hr,hn,hfr,hc=>by
  unfold pV at hc;split at hc
  .rename_i c o q;obtain⟨_,ho,hq,hrd⟩:=K7 _ _ q;have ho:ops[c]? =some o:=by simpa using ho
   have b:=(zo hl ho).1 hrd;obtain⟨e',hr',hc⟩:=K3 hr hc;have hcs:c<ops.size:=s7 b;have m:jS ops c=o.dst:=by simp[jS,ho]
   cases hw:Region.wanted o (yielded ops t)with
   | true=>
    rw[hw]at hc;dsimp only at hc;split at hc
    .rename_i hok;obtain⟨hp,hk,hd⟩:=BZ hok;rw[<-hn]at hd;obtain⟨v,hK,hall⟩:=abz _ _ _ hc;have hg:∀h',jA P (ev e') o.op h' (λu=>u=v)->kB P ops c v t h':=by
      intro h' s;obtain⟨u,hu,rfl⟩:=KC s;refine⟨o,ho,?_⟩;rw[aW hw,<-B0 hr' hp hk];exact hu
     have d:jA P (ev e') o.op h (λu=>u=v):=hall _ rfl;have g:HR P (match wQ P o.op with
      |true=>H
      |false=>H++ [(c,o,e',v)]) (HA++ [(c,kB P ops c v t)]):=by
      intro x hx;rcases cS.1 hx with hx|hx
      .rcases hh x hx with hx|⟨y,hy,he,hx⟩
       .exact .inl hx
       .refine .inr ⟨y,?_,he,hx⟩;split
        .exact hy
        .exact cS.2 (.inl hy)
      .rw[eP.1 hx];split
       .rename_i hpure;exact .inl λh'=>hg h' (aa1 hpure d)
       .exact .inr ⟨(c,o,e',v),cS.2 (.inr (eP.2 rfl)),rfl,λh'=>hg h'⟩
     have hF:∀x∈(match wQ P o.op with
      |true=>H
      |false=>H++ [(c,o,e',v)]),jA P (ev x.2.2.1) x.2.1.op h (λu=>u=x.2.2.2):=by
      intro x hx;split at hx
      .exact a x hx
      .rcases cS.1 hx with hx|hx
       .exact a x hx
       .rw[eP.1 hx];exact d
     have hrw:=B4 f (hl.set hcs) g hF (hr'.put hd) (by rw[sY];exact hn) (hfr.trans (Fr.put ho)) hK;exact .inr (.inl ⟨c,v,b,La ho hq,hg h d,by rw[m];exact hrw⟩)
    .exact hc.elim
   | false=>
    rw[hw]at hc;dsimp only at hc;split at hc
    .rename_i hd;rw[<-hn]at hd;have hg:∀h',kB P ops c undef t h':=λh'=>⟨o,ho,by rw[hw];simp⟩;have g:HR P H (HA++ [(c,kB P ops c undef t)]):=by
      intro x hx;rcases cS.1 hx with hx|hx
      .exact hh x hx
      .rw[eP.1 hx];exact .inl hg
     have hrw:=B4 f (hl.set hcs) g a (hr'.put hd) (by rw[sY];exact hn) (hfr.trans (Fr.put ho)) hc;exact .inr (.inl ⟨c,undef,b,La ho hq,hg h,by rw[m];exact hrw⟩)
    .exact hc.elim
  .split at hc
   .rename_i hnone;refine .inl ⟨?_,hfr,e,hr,hc⟩;apply J6.2;intro i hi;obtain⟨_,_,o,ho,_⟩:=mem_ready.1 hi;have :(i,o)∈nO listed ops.toList 0:=(zp _ _ _ _).2 ⟨fE _,by simpa using ho,(zo hl ho).2 hi⟩;rw[hnone]at this;cases this
   .rename_i l hne;have key:∀i∈Region.ready .any ops lA,jB P ops i t h λt' h'=>(∀x∈mJ bQ i HA,x.2 h')/\RW P ops bQ (QK ops K t₀) f (mJ bQ i HA) (lA.setIfInBounds i true) t' h':=by
     intro i hi;obtain⟨_,_,o,ho,_⟩:=mem_ready.1 hi;have hmem:(i,o)∈nO listed ops.toList 0:=(zp _ _ _ _).2 ⟨fE _,by simpa using ho,(zo hl ho).2 hi⟩;have hx:=K8 hc (i,o) hmem;have w:i<ops.size:=s7 hi;have fin:∀(e':bU)(t':Array Value)(h':af),Fr ops t t'->Rel e' t'->(∀x∈mW (bQ.getD i 0) H,jA P (ev x.2.2.1) x.2.1.op h' (λv=>v=x.2.2.2))->
       pV P n ops bQ f (listed|||2^i) (mW (bQ.getD i 0) H) e' h' K->
       (∀x∈mJ bQ i HA,x.2 h')/\RW P ops bQ (QK ops K t₀) f (mJ bQ i HA) (lA.setIfInBounds i true) t' h':=by
      intro e' t' h' hf hr' hF hcd;have hrw:=B4 f (hl.set w) (HR.drop hh) hF hr' (hf.1.trans hn) (hfr.trans hf) hcd;refine⟨λx hx=> ?_,hrw⟩;rcases HR.drop (bQ:=bQ) (i:=i) hh x hx with h1|⟨y,hy,_,h1⟩
      .exact h1 h'
      .exact h1 h' (hF y hy)
     cases j:zf o.op with
     | true=>
      have hx:qG P n ops o e h λe' h'=>pV P n ops bQ f (listed|||2^i) (mW (bQ.getD i 0) H) e' h' K:=by dsimp only at hx;rw[j]at hx;exact hx
      refine uH ?_ (B2 ho hr hn (abJ j hx));rintro t' h' ⟨hf,e',hr',hcd,z⟩;refine fin e' t' h' hf hr' ?_ hcd;intro x hx;have :=a x (B3.1 hx).1;rcases z with rfl|⟨y,rfl⟩
      .exact this
      .exact aa0 this
     | false=>
      have hx:qG P n ops o e h λe' h'=>recheck P h' (mW (bQ.getD i 0) H) (pV P n ops bQ f (listed|||2^i) (mW (bQ.getD i 0) H) e' h' K):=by dsimp only at hx;rw[j]at hx;exact hx
      refine uH ?_ (B2 ho hr hn hx);rintro t' h' ⟨hf,e',hr',hcd⟩;obtain⟨h1,h2⟩:=K9 hcd;exact fin e' t' h' hf hr' h2 h1
    by_cases k:Region.ready .any ops lA=[]
    .refine .inl ⟨k,?_⟩;exfalso;cases p:nO listed ops.toList 0 with
     |nil=>exact hne p
     |cons x r=>
      obtain⟨i,o⟩:=x;have hm:(i,o)∈nO listed ops.toList 0:=by rw[p];exact cN
      obtain⟨_,ho,hrd⟩:=(zp _ _ _ _).1 hm;have :=(zo hl (by simpa using ho)).1 hrd;rw[k]at this;cases this
    .exact .inr (.inr ⟨k,key⟩)
end
def zq(ops:Array Oper)(bQ:List Nat)(x:Oper)(i a:Nat):List Oper->Nat->Bool
 | [],_=>true
 |y::r,j=>(Nat.beq i j||(Nat.testBit a j||(Nat.testBit (bQ.getD j 0) i||x.apart ops y)))&&zq ops bQ x i a r (j+1)
def zu(ops:Array Oper)(bQ:List Nat):List Oper->Nat->Bool
 | [],_=>true
 |x::r,i=>(match rN x.op with
  |true=>zq ops bQ x i (bQ.getD i 0) ops.toList 0
  |false=>true)&&zu ops bQ r (i+1)
def uJ:List Oper->Bool
 | []=>true
 |o::r=>pT o.op&&uJ r
def Lb(ops:Array Oper)(bQ:List Nat):Bool:=rP bQ ops.toList 0&&zu ops bQ ops.toList 0
section
variable{P:Program}{ops:Array Oper}{bQ:List Nat}
def Lc{x:Oper}{i a:Nat}:∀(l:List Oper)(k:Nat),zq ops bQ x i a l k=true->∀(j:Nat)(y:Oper),l[j]? =some y->
  i=k+j\/a.testBit (k+j)=true\/(bQ.getD (k+j) 0).testBit i=true\/x.apart ops y=true
 | [],_,_,j,y,hy=>by simp at hy
 | z::l,k,h,j,y,hy=>by
  simp only[zq,gb,uc]at h;cases j with
  |zero=>
   simp only[nG,eM]at hy;subst hy;rcases h.1 with h|h|h|h
   .exact .inl (gl h)
   .exact .inr (.inl h)
   .exact .inr (.inr (.inl h))
   .exact .inr (.inr (.inr h))
  |succ j=>have :=Lc l (k+1) h.2 j y (by simpa using hy);rw[show k+(j+1)=k+1+j by omega];exact this
def Ld:∀(l:List Oper)(k:Nat),zu ops bQ l k=true->∀(i:Nat)(x:Oper),l[i]? =some x->rN x.op=true->
  zq ops bQ x (k+i) (bQ.getD (k+i) 0) ops.toList 0=true
 | [],_,_,i,x,hx=>by simp at hx
 | z::l,k,h,i,x,hx=>by
  intro hq;simp only[zu,gb]at h;cases i with
  |zero=>simp only[nG,eM]at hx;subst hx;have :=h.1;rw[hq]at this;exact this
  |succ i=>have :=Ld l (k+1) h.2 i x (by simpa using hx) hq;rw[show k+(i+1)=k+1+i by omega];exact this
def abK(h:zu ops bQ ops.toList 0=true):FG ops bQ:=by
 intro c i hc hi hne hq h1 h2;unfold quietAt at hq;split at hq
 .rename_i x hx;obtain⟨y,hy⟩:∃y,ops[i]? =some y:=⟨_,sL hi⟩;have :=Lc _ _ (Ld _ _ h c x (by simpa using hx) hq) i y (by simpa using hy);simp only[bE]at this;unfold uI;rw[hx,hy];dsimp only;rcases this with h|h|h|h
  .exact(hne h).elim
  .unfold k8 at h2;rw[h2]at h;cases h
  .unfold k8 at h1;rw[h1]at h;cases h
  .exact h
 .cases hq
def Lf:∀{l:List Oper},uJ l=true->∀(i:Nat)(o:Oper),l[i]? =some o->pT o.op=true
 | [],_,i,o,ho=>by simp at ho
 |x::l,h,i,o,ho=>by
  simp only[uJ,gb]at h;cases i with
  |zero=>simp only[nG,eM]at ho;subst ho;exact h.1
  |succ i=>exact Lf h.2 i o (by simpa using ho)
def FO(h:uJ ops.toList=true):sZ ops:=λi o ho=>Lf h i o (by simpa using ho)
end
def bI{σ:Type}(B:σ->af->(σ->af->Prop)->Prop)(x:σ)(h:af):Prop:=∀Z:σ->af->Prop,(∀x h,B x h Z->Z x h)->Z x h
def bt:List Nat->Type
 | []=>Unit
 |_::r=>Value×bt r
def rS:(l:List Nat)->bt l->bU->bU
 | [],_,e=>e
 |s::r,x,e=>(s,x.1)::rS r x.2 e
def rT(e:bU):(l:List Nat)->(bt l->Prop)->Prop
 | [],K=>K ()
 |s::r,K=>(match look e s with
  |some v=>rT e r λx=>K (v,x)
  |none=>False)
def nP(s:Nat):List Nat->Bool
 | []=>false
 |x::r=>match Nat.beq x s with
  |true=>true
  |false=>nP s r
def oH(drop:List Nat):bU->bU
 | []=>[]
 |x::r=>match nP x.1 drop with
  |true=>oH drop r
  |false=>x::oH drop r
def wV:List Oper->List Nat
 | []=>[]
 |o::r=>match o.dst with
  |some d=>d::wV r
  |none=>wV r
def writes:Code->List Nat
 | .region _ ops _=>wV ops.toList
 | .seq a b=>writes a++writes b
 | .cond _ a b=>writes a++writes b
 | .block _ a=>writes a
 | .loop a=>writes a
 | .scope a=>writes a
 |_=>[]
def kC:Code->Bool
 | .seq a b=>kC a&&kC b
 | .cond _ a b=>kC a&&kC b
 | .block _ a=>kC a
 | .loop a=>kC a
 | .scope a=>kC a
 | .rangeFunc .. =>false
 |_=>true
inductive Ann where
 |leaf
 |one (a:Ann)
 |two (a b:Ann)
 |cut (slots:List Nat) (a b:Ann)
 |loop (slots:List Nat) (a:Ann)
def lo(L:Loop)(st:LoopState)(p:Option Code):Obj:=.loop {L with state:=st,pending:=p}
def dS(l:Nat):Value:=.func (.yield l) #[] #[]
def ta:List (Nat×(af->Prop))->Nat->af->Prop
 | [],_,_=>False
 |(i,K)::r,id,h=>match Nat.beq i id with
  |true=>K h
  |false=>ta r id h
def abL(a b:af->Prop)(c:List (Nat×(af->Prop)))(h:af):Option Code->Prop
 |none=>a h
 |some .ret=>b h
 |some (.exit id)=>ta c id h
 |some _=>False
def nQ:(l:List Nat)->bt l->List Value
 | [],_=>[]
 |_::r,x=>x.1::nQ r x.2
def zv(l:Nat)(L:Loop)(K:KT)(ex:Exit)(h:af):Prop:=
 ∃p,h[l]? =some (lo L .busy p)/\match ex with
  | .normal=>K (.bool true) (h.setIfInBounds l (lo L .ready none))
  | .ret=>K (.bool false) (h.setIfInBounds l (lo L .done (some .ret)))
  | .exit id=>K (.bool false) (h.setIfInBounds l (lo L .done (some (.exit id))))
  |_=>False
def uK(P:Program)(v:Value)(args:Array Value)(h:af)(K:KT):Prop:=
 match v with
 | .func (.func f) first captured=>aF P f (first ++args++captured) h K
 |_=>False
def iZ(l:Nat)(L:Loop)(h:af)(K:af->Prop):Prop:=∃p,h[l]? =some (lo L .ready p)/\K (h.setIfInBounds l (lo L .busy p))
def gO(P:Program)(fv:Value)(ps:List Nat)(l:Nat)(h0:af)(B:Loop->bt ps->af->(Exit->af->Prop)->Prop)(a b:af->Prop)(c:List (Nat×(af->Prop))):Prop:=
 ∀ L:Loop,(∀(x:bt ps)(h:af)(R:KT)(st:LoopState)(p:Option Code),h[l]? =some (lo L st p)->
   B L x h (zv l L R)->aX P (dS l) (nQ ps x).toArray h R)->
  uK P fv #[dS l] (h0.push (lo L .ready none)) λ_ h'=>∃st p,st≠ .busy/\h'[l]? =some (lo L st p)/\abL a b c (h'.setIfInBounds l (lo L .exhausted p)) p
def FP(id:Nat):List Nat->List Nat
 | []=>[]
 |x::r=>match Nat.beq x id with
  |true=>FP id r
  |false=>x::FP id r
def uL:Code->List Nat
 | .exit id=>[id]
 | .seq a b=>uL a++uL b
 | .cond _ a b=>uL a++uL b
 | .block id a=>FP id (uL a)
 | .loop a=>uL a
 |_=>[]
def B5(n:Nat):List Nat->Bool
 | []=>true
 |x::r=>Nat.blt x n&&B5 n r
def zw:(l:List Nat)->bt l->bU->bU
 | [],_,e=>e
 |s::r,x,e=>zw r x.2 ((s,x.1)::e)
def akV{σ:Type}(A:(σ->af->Prop)->Prop)(B:σ->af->Prop):Prop:=A B
def compile (P:Program) (n:Nat) (ro:Bool):Code->Ann->bU->List Nat->af->(Exit->bU->List Nat->af->Prop)->Prop
 | .skip,_,e,m,h,K=>K .normal e m h
 | .label _,_,e,m,h,K=>K .normal e m h
 | .ret,_,e,m,h,K=>K .ret e m h
 | .exit id,_,e,m,h,K=>K (.exit id) e m h
 | .seq a b,.two x y,e,m,h,K=>compile P n ro a x e m h λex e' m' h'=>(match ex with
  | .normal=>compile P n ro b y e' m' h' K
  |ex=>K ex e' m' h')
 | .seq a b,.cut slots x y,e,m,h,K=>(match kC a with
  |true=>akV (λJ=>compile P n ro a x e m h λex e' m' h'=>(match ex with
   | .normal=>rT e' slots λv=>J v h'
   |ex=>K ex e' m' h')) (λv h'=>compile P n ro b y (rS slots v (oH (slots++writes a) e)) m h' K)
  |false=>False)
 | .cond c a b,.two x y,e,m,h,K=>(match rQ e c with
  |true=>aA (ev e c) (compile P n ro a x e m h K) (compile P n ro b y e m h K)
  |false=>False)
 | .block id a,.one x,e,m,h,K=>compile P n ro a x e m h fun ex e' m' h'=>(match ex with
  | .exit id'=>(match Nat.beq id' id with
   |true=>K .normal e' m' h'
   |false=>K (.exit id') e' m' h')
  |ex=>K ex e' m' h')
 | .scope a,.one x,e,m,h,K=>compile P n ro a x e m h λex e' m' h'=>(match ex with
  | .goto _=>False
  |ex=>K ex e' m' h')
 | .loop a,.loop slots x,e,m,h,K=>(match kC a with
  |true=>rT e slots λx0=>bI (λv h Z=>compile P n ro a x (rS slots v (oH (slots++writes a) e)) m h λex e' m' h'=>(match ex with
   | .normal=>rT e' slots λv'=>Z v' h'
   |ex=>K ex e' m' h')) x0 h
  |false=>rT e slots λx0=>bI (λ(v:List Nat×bt slots) h Z=>compile P n ro a x (rS slots v.2 (oH (slots++writes a) e)) v.1 h λex e' m' h'=>(match ex with
   | .normal=>rT e' slots λv'=>Z (m',v') h'
   |ex=>K ex e' m' h')) (m,x0) h)
 | .region _ ops draw,_,e,m,h,K=>(match uJ ops.toList with
  | true=>(match draw with
   |false=>FM P n ops ops.toList e h λe' h'=>K .normal e' m h'
   |true=>(match Lb ops (zi ops.toList [])with
    |true=>pV P n ops (zi ops.toList []) ops.size 0 [] e h λe' h'=>K .normal e' m h'
    |false=>False))
  |false=>False)
 | .rangeFunc f params assign body,.two x y,e,m,h,K=>(match rQ e f with
  | true=>(match ro with
   | false=>(match B5 n params.toList with
    | true=>gO P (ev e f) params.toList (h.size+1) (h.push (.deferred (some [])))
     (λL v h' R=>compile P n true assign x (zw params.toList v e) [] h' λex e1 m1 h1=>(match ex with
      | .normal=>iZ (h.size+1) L h1 λh2=>compile P n true body y e1 m1 h2 λex' _ _ h3=>R ex' h3
      |_=>False)) (λh'=>K .normal e (h.size::m) h') (λh'=>K .ret e (h.size::m) h') ((uL body).map λid=>(id,λh'=>K (.exit id) e (h.size::m) h'))
    |false=>False)
   |true=>False)
  |false=>False)
 |_,_,_,_,_,_=>False
def marks(m:List Nat):List Deferred:=m.map λD=>{target:=.collected D,args:= #[]}
section
variable{P:Program}
def pW{s:Nat}:∀{a b:List Nat},nP s (a++b)=(nP s a||nP s b)
 | [],b=>by simp[nP]
 |x::a,b=>by
  simp only[qq,nP];split
  .rfl
  .exact pW
def FQ{s:Nat}:∀(l:List Oper),nP s (wV l)=false->∀o∈l,o.dst≠some s
 | [],_,o,ho=>by cases ho
 | x ::l,h,o,ho=>by
  have hx:x.dst≠some s/\nP s (wV l)=false:=by
   simp only[wV]at h;split at h
   .rename_i d hd;simp only[nP]at h;split at h
    .cases h
    .rename_i hb;refine⟨λe=> ?_,h⟩;rw[hd]at e;cases e;rw[Nat.beq_refl]at hb;cases hb
   .rename_i hd;exact⟨(λe=>by rw[hd]at e;cases e),h⟩
  rcases cV.1 ho with rfl|ho
  .exact hx.1
  .exact FQ l hx.2 o ho
section
variable{b:Frame}{a:Act}{k:List Item}{cs:List Frame}{w:World}{Q:Exit->Act->World->Prop}{F:World->Prop}{n:Nat}
def wW{c:Code}:step P (lone (b.atR a (.code (.scope c)::k)) cs w)=.next (lone (b.atR a (.code c:: .inScope c::k)) cs w):=step_lone_go (by simp[stepG,stepG.exec,Frame.atR])
def abM{c:Code}:step P (lone (b.atR a (.inScope c::k)) cs w)=.next (lone (b.atR a k) cs w):=step_lone_go (by simp[stepG,stepG.exec,Frame.atR])
end
def abN(Q:Exit->Act->World->Prop):Exit->Act->World->Prop
 | .goto _,_,_=>False
 |ex,a,w=>Q ex a w
def wX(c:Code)(t t':Array Value):Prop:=∀s,nP s (writes c)=false->t'[s]? =t[s]?
def FR{drop:List Nat}:∀{e:bU}{s:Nat}{v:Value},look (oH drop e) s=some v->nP s drop=false/\look e s=some v
 | [],s,v,h=>by cases h
 | (d,u)::e,s,v,h=>by
  simp only[oH]at h;split at h
  .rename_i hd;obtain⟨h1,h2⟩:=FR h;refine⟨h1,?_⟩;simp only[look];split
   .rename_i hb;have :=gl hb;subst this;rw[hd]at h1;cases h1
   .exact h2
  .rename_i hd;simp only[look]at h |-;split at h
   .rename_i hb;have :=gl hb;subst this;exact⟨hd,h⟩
   .exact FR h
def wY{t:Array Value}{e':bU}(hr:Rel e' t):∀{slots:List Nat}{F:bt slots->Prop},rT e' slots F->
  ∃v,F v/\∀e,Rel e t->Rel (rS slots v e) t:=by
 intro slots
 induction slots with
 |nil=>intro F h;exact⟨(),h,λe he=>he⟩
 | cons s r ih=>
  intro F h;simp only[rT]at h;split at h
  .rename_i v hv;obtain⟨x,hx,hb⟩:=ih h;refine⟨(v,x),hx,λe he=> ?_⟩;intro s' u hu;simp only[rS,look]at hu;split at hu
   .rename_i c;have :=gl c;subst this;simp only[eM]at hu;subst hu;exact hr s v hv
   .exact hb e he s' u hu
  .exact h.elim
def uM{drop:List Nat}{e:bU}{t t':Array Value}(hr:Rel e t)(hf:∀s,nP s drop=false->t'[s]? =t[s]?):Rel (oH drop e) t':=λs v h=>by obtain⟨h1,h2⟩:=FR h;rw[hf s h1];exact hr s v h2
def zx(ro:Option Nat)(P:Program)(c:Code)(Q:Exit->Act->World->Prop)(a:Act)(w:World):Prop:=
 ∀(b:Frame)(k:List Item)(cs:List Frame),b.roundOf=(WF ro).round->(WF ro).fn b.fn->(WF ro).room (cs.length+1+0)->
  ∃e a' w',Q e a' w'/\ArrivesIn (Machine.fenced P (WF ro)) P (lone (b.atR a (.code c:: .inLoop c::k)) cs w) b k cs e a' w'
def abO{ro:Option Nat}{c:Code}{Q:Exit->Act->World->Prop}{a:Act}{w:World}(h:zx ro P c Q a w):(Code.loop c).wpIn (WF ro) 0 P Q a w:=by intro b k cs hro hb hr;obtain⟨e,a',w',hq,d⟩:=h b k cs hro hb hr;exact⟨e,a',w',hq,.of_steps (.one (fenced_calm hb hr rfl) stepR_loop) d⟩
def Lg{ro:Option Nat}{c:Code}{Q:Exit->Act->World->Prop}{a:Act}{w:World}
  (h:c.wpIn (WF ro) 0 P (Exit.then (zx ro P c Q) Q) a w):zx ro P c Q a w:=by
 intro b k cs hro hb hr;obtain⟨e,a₁,w₁,hq,d⟩:=h b (.inLoop c::k) cs hro hb hr;cases e with
 |normal=>obtain⟨e₂,a₂,w₂,f,g⟩:=hq b k cs hro hb hr;exact⟨e₂,a₂,w₂,f,.of_steps (StepsIn.trans d (.one (fenced_calm hb hr rfl) stepR_inLoop)) g⟩
 |exit id=>exact⟨_,a₁,w₁,hq,.pass (x:=.inLoop c) rfl (λ_ _=>.inl aP) d⟩
 |goto l=>exact⟨_,a₁,w₁,hq,.pass (x:=.inLoop c) rfl (λ_ _=>.inl aP) d⟩
 |ret=>exact⟨_,a₁,w₁,hq,.pass (x:=.inLoop c) rfl (λ_ _=>.inl aP) d⟩
 |panic ch=>exact⟨_,a₁,w₁,hq,.pass (x:=.inLoop c) rfl (λ_ _=>.inl aP) d⟩
 |outgrown=>exact⟨_,a₁,w₁,hq,.pass (x:=.inLoop c) rfl (λ_ _=>.inl aP) d⟩
def Lh{n:Nat}:∀(ps:List Nat)(x:bt ps){e:bU}{t:Array Value},Rel e t->t.size=n->B5 n ps=true->
  Rel (zw ps x e) ((ps.zip (nQ ps x)).foldl (λt(x:Nat×Value)=>t.setIfInBounds x.1 x.2) t)/\((ps.zip (nQ ps x)).foldl (λt(x:Nat×Value)=>t.setIfInBounds x.1 x.2) t).size=n
 | [],x,e,t,hr,hn,_=>⟨hr,hn⟩
 |s::ps,x,e,t,hr,hn,hl=>by simp only[B5,gb]at hl;have :=hr.put (dst:=some s) (v:=x.1) (by rw[hn];exact hl.1);simp only[zw,nQ,List.zip_cons_cons,kS];exact Lh ps x.2 this (by simpa using hn) hl.2
def Li:∀(l:List Nat)(x:bt l),(nQ l x).length=l.length
 | [],_=>rfl
 |_::r,x=>by simp[nQ,Li r x.2]
def Lj{F:Nat->af->Prop}:∀{l:List Nat}{id:Nat}{h:af},ta (l.map λi=>(i,F i)) id h->F id h
 |i::l,id,h,hk=>by
  simp only[dI,ta]at hk;split at hk
  .rename_i hb;have :=gl hb;subst this;exact hk
  .exact Lj hk
def FT{h:af}{l:Nat}{L:Loop}(hl:h[l]? =some (.loop L)):aZ P (Instr.getLoop l) h=some L:=by unfold Instr.getLoop;rw[bf (a:=.loop L) (by simp[getObj,aZ,hl])];rfl
def FU{h:af}{l:Nat}{L:Loop}{o:Obj}{K:Unit->af->Prop}(hl:h[l]? =some (.loop L))(hk:K () (h.setIfInBounds l o)):wpS P (setObj l o) h K:=by simp[setObj,wpS,hl];exact hk
def abP{h:af}{l:Nat}{L:Loop}{p:Option Code}{K:Unit->af->Prop}(hl:h[l]? =some (lo L .ready p))(hk:K () (h.setIfInBounds l (lo L .busy p))):
  wpS P (Instr.beginRound l) h K:=by
 unfold Instr.beginRound;refine cr (FT hl) ?_;refine ig (FU hl ?_);exact hk
def abQ{h:af}{l:Nat}{L:Loop}{p:Option Code}{jump:Option Code}{K:KT}(hl:h[l]? =some (lo L .busy p))
  (hk:K (.bool jump.isNone) (h.setIfInBounds l (lo L (if jump.isNone then .ready else .done) jump))):wpS P (Instr.endRound l jump) h K:=by
 unfold Instr.endRound;refine cr (FT hl) ?_;refine ig (FU hl ?_);exact hk
def abR{h:af}{l:Nat}{L:Loop}{st:LoopState}{p:Option Code}{K:Option Code->af->Prop}(hl:h[l]? =some (lo L st p))(hs:st≠ .busy)
  (hk:K p (h.setIfInBounds l (lo L .exhausted p))):wpS P (Instr.endLoop l) h K:=by
 unfold Instr.endLoop;refine cr (FT hl) ?_;have :((({L with state:=st,pending:=p}:Loop).state== .busy)=true)=False:=by simp[hs]
 rw[aQ (by rw[this];exact id)];refine ig (FU hl ?_);exact hk
def abS{F:Fence}{n:Nat}{c:Code}{a:Act}{w:World}{Q:Exit->Act->World->Prop}(h:c.wpIn F n P (abN Q) a w):(Code.scope c).wpIn F n P Q a w:=by
 intro b k cs hro hb hr;have h0:(lone (b.atR a (.code (.scope c)::k)) cs w).fenced P F:=fenced_calm hb hr rfl;obtain⟨e,a₁,w₁,hq,d⟩:=h b (.inScope c::k) cs hro hb hr;cases e with
 |normal=>exact⟨.normal,a₁,w₁,hq,.head h0 wW (StepsIn.trans d (.one (fenced_calm hb hr rfl) abM))⟩
 | exit id'=>
  have hx:exitTo id' (.inScope c::k)=exitTo id' k:=by simp[exitTo]
  exact⟨.exit id',a₁,w₁,hq,λk' hk=>.head h0 wW (d.1 k' (by rw[hx];exact hk)),
   λhr' hk=>let⟨k₁,h1,h2⟩:=d.2 hr' (by rw[hx];exact hk);⟨k₁,h1,.head h0 wW h2⟩⟩
 |goto l=>exact hq.elim
 |ret=>exact⟨_,a₁,w₁,hq,.of_steps (.one h0 wW) d⟩
 |panic ch=>exact⟨_,a₁,w₁,hq,.of_steps (.one h0 wW) d⟩
 |outgrown=>exact⟨_,a₁,w₁,hq,.of_steps (.one h0 wW) d⟩
def jT {n:Nat}:∀(c:Code)(eH:Ann)(ro:Option Nat)(e:bU)(m:List Nat)(h:af)(K:Exit->bU->List Nat->af->Prop),
  compile P n ro.isSome c eH e m h K->(P.follows .mixedOrders=true)->∀(ds:List Deferred)(a:Act)(w:World)(Q:Exit->Act->World->Prop),Rel e a.tmps->a.tmps.size=n->a.defers=marks m++ds->w.heap=h->
  (∀ex e' m' a' w',Rel e' a'.tmps->a'.tmps.size=n->a'.defers=marks m'++ds->dF w w'->(kC c=true->m'=m)->wX c a.tmps a'.tmps->K ex e' m' w'.heap->Q ex a' w')->
  c.wpIn (WF ro) 0 P Q a w:=by
 intro c
 induction c with
 |skip=>intro eH ro e m h K hc hf ds a w Q hr hn hd hw hq;subst hw;exact wpIn_skip (hq _ _ _ _ _ hr hn hd (.refl _) (λ_=>rfl) (λ_ _=>rfl) hc)
 |label l=>intro eH ro e m h K hc hf ds a w Q hr hn hd hw hq;subst hw;exact wpIn_label (hq _ _ _ _ _ hr hn hd (.refl _) (λ_=>rfl) (λ_ _=>rfl) hc)
 |ret=>intro eH ro e m h K hc hf ds a w Q hr hn hd hw hq;subst hw;exact wpIn_ret (hq _ _ _ _ _ hr hn hd (.refl _) (λ_=>rfl) (λ_ _=>rfl) hc)
 |exit id=>intro eH ro e m h K hc hf ds a w Q hr hn hd hw hq;subst hw;exact wpIn_exit (hq _ _ _ _ _ hr hn hd (.refl _) (λ_=>rfl) (λ_ _=>rfl) hc)
 |goto l=>intro eH ro e m h K hc;exact hc.elim
 | scope x ih=>
  intro eH ro e m h K hc hf ds a w Q hr hn hd hw hq;cases eH<;>try exact hc.elim
  rename_i d;refine abS (ih d ro e m h _ hc hf ds a w _ hr hn hd hw ?_);intro ex e' m' a' w' hr' hn' hd' hs' q hfr hk;have post:∀ex',K ex' e' m' w'.heap->Q ex' a' w':=λex' hk'=>hq ex' e' m' a' w' hr' hn' hd' hs' (λh=>q h) (λs hs=>hfr s hs) hk'
  cases ex with
  |exit id'=>exact post _ hk
  |normal=>exact post _ hk
  |goto l=>exact hk.elim
  |ret=>exact post _ hk
  |panic ch=>exact post _ hk
  |outgrown=>exact post _ hk
 |refuse why=>intro eH ro e m h K hc;exact hc.elim
 | seq x y E G=>
  intro eH ro e m h K hc hf ds a w Q hr hn hd hw hq;cases eH<;>try exact hc.elim
  .rename_i d A;refine wpIn_seq (E d ro e m h _ hc hf ds a w _ hr hn hd hw ?_);intro ex e' m' a' w' hr' hn' hd' hs' q hfr hk;have post:∀ex',K ex' e' m' w'.heap->(∀(h:ex'=.normal),False)->Q ex' a' w':=by
    intro ex' hk' _;refine hq ex' e' m' a' w' hr' hn' hd' hs' ?_ ?_ hk'
    .intro h;simp only[kC,gb]at h;exact q h.1
    .intro s hs;simp only[writes,pW,pI]at hs;exact hfr s hs.1
   cases ex with
   |normal=>
    refine G A ro e' m' w'.heap K hk hf ds a' w' Q hr' hn' hd' rfl ?_;intro I e2 m2 a2 w2 r hn2 hd2 hs2 B u hk2;refine hq I e2 m2 a2 w2 r hn2 hd2 (hs'.trans hs2) ?_ ?_ hk2
    .intro h;simp only[kC,gb]at h;rw[B h.2,q h.1]
    .intro s hs;simp only[writes,pW,pI]at hs;rw[u s hs.2,hfr s hs.1]
   |exit id=>exact post _ hk aP
   |goto l=>exact post _ hk aP
   |ret=>exact post _ hk aP
   |panic ch=>exact post _ hk aP
   |outgrown=>exact post _ hk aP
  .rename_i slots d A;simp only[compile]at hc;split at hc
   .rename_i hno;refine wpIn_seq (E d ro e m h _ hc hf ds a w _ hr hn hd hw ?_);intro ex e' m' a' w' hr' hn' hd' hs' q hfr hk;have hm2:m'=m:=q hno;subst hm2;have post:∀ex',K ex' e' m' w'.heap->Q ex' a' w':=by
     intro ex' hk';refine hq ex' e' m' a' w' hr' hn' hd' hs' (λ_=>rfl) ?_ hk';intro s hs;simp only[writes,pW,pI]at hs;exact hfr s hs.1
    cases ex with
    | normal=>
     obtain⟨v,hB,C⟩:=wY hr' hk;refine G A ro _ m' w'.heap K hB hf ds a' w' Q (C _ (uM hr λs hs=> ?_)) hn' hd' rfl ?_
     .rw[pW,pI]at hs;exact hfr s hs.2
     .intro I e2 m2 a2 w2 r hn2 hd2 hs2 B u hk2;refine hq I e2 m2 a2 w2 r hn2 hd2 (hs'.trans hs2) ?_ ?_ hk2
      .intro h;simp only[kC,gb]at h;exact B h.2
      .intro s hs;simp only[writes,pW,pI]at hs;rw[u s hs.2,hfr s hs.1]
    |exit id=>exact post _ hk
    |goto l=>exact post _ hk
    |ret=>exact post _ hk
    |panic ch=>exact post _ hk
    |outgrown=>exact post _ hk
   .exact hc.elim
 | cond c x y E G=>
  intro eH ro e m h K hc hf ds a w Q hr hn hd hw hq;cases eH<;>try exact hc.elim
  rename_i d A;simp only[compile]at hc;split at hc
  .rename_i hk;have he:a.eval c=ev e c:=by rw[qD,hr.ev hk]
   unfold aA at hc;split at hc
   .rename_i hv;refine wpIn_cond_true (he.trans hv) (E d ro e m h K hc hf ds a w Q hr hn hd hw ?_);intro ex e' m' a' w' hr' hn' hd' hs' q hfr hk';refine hq ex e' m' a' w' hr' hn' hd' hs' ?_ ?_ hk'
    .intro h;simp only[kC,gb]at h;exact q h.1
    .intro s hs;simp only[writes,pW,pI]at hs;exact hfr s hs.1
   .rename_i hv;refine wpIn_cond_false (he.trans hv) (G A ro e m h K hc hf ds a w Q hr hn hd hw ?_);intro ex e' m' a' w' hr' hn' hd' hs' q hfr hk';refine hq ex e' m' a' w' hr' hn' hd' hs' ?_ ?_ hk'
    .intro h;simp only[kC,gb]at h;exact q h.2
    .intro s hs;simp only[writes,pW,pI]at hs;exact hfr s hs.2
   .exact hc.elim
  .exact hc.elim
 | block id x ih=>
  intro eH ro e m h K hc hf ds a w Q hr hn hd hw hq;cases eH<;>try exact hc.elim
  rename_i d;refine wpIn_block (ih d ro e m h _ hc hf ds a w _ hr hn hd hw ?_);intro ex e' m' a' w' hr' hn' hd' hs' q hfr hk;have post:∀ex',K ex' e' m' w'.heap->Q ex' a' w':=λex' hk'=>hq ex' e' m' a' w' hr' hn' hd' hs' (λh=>q h) (λs hs=>hfr s hs) hk'
  cases ex with
  |exit id'=>
   dsimp only at hk;show if id'=id then Q .normal a' w' else Q (.exit id') a' w';split at hk
   .rename_i hb;rw[aW (gl hb)];exact post _ hk
   .rename_i hb;rw[aQ (λh=>by subst h;simp at hb)];exact post _ hk
  |normal=>exact post _ hk
  |goto l=>exact post _ hk
  |ret=>exact post _ hk
  |panic ch=>exact post _ hk
  |outgrown=>exact post _ hk
 | region id ops draw=>
  intro eH ro e m h K hc hf ds a w Q hr hn hd hw hq;subst hw;simp only[compile]at hc;split at hc
  .rename_i S;have hp:=FO S;have fin:∀{a':Act}{w':World},a'.defers=a.defers->dF w w'->(Fr ops a.tmps a'.tmps/\∃e',Rel e' a'.tmps/\K .normal e' m w'.heap)->Q .normal a' w':=by
    rintro a' w' hd' hs' ⟨hfr,e',hr',hk⟩;refine hq _ e' m a' w' hr' (hfr.1.trans hn) (hd'.trans hd) hs' (λ_=>rfl) ?_ hk;intro s hs;refine hfr.2 s λi hi=> ?_;unfold jS at hi;cases ho:ops[i]? with
    |none=>rw[ho]at hi;cases hi
    |some o=>rw[ho]at hi;exact FQ _ hs o (mE (by simpa using ho)) hi
   split at hc
   .refine wpIn_region ?_;have :=K5 (P:=P) (ops:=ops) ops.toList 0 aP hr hn hc;rw[ox]at this;exact K4 hp _ a w this λa' w' hd' hs' hk=>fin hd' hs' hk
   .split at hc
    .rename_i hok;simp only[Lb,gb]at hok;have hl:LR ops 0 (Array.replicate ops.size false):=⟨aP,λj=>by
      simp only[yI,J7,Nat.zero_testBit];split<;>rfl⟩
     have hrw:=B4 (P:=P) (n:=n) (bQ:=zi ops.toList []) (HA:=[]) ops.size hl (by intro x hx;cases hx) (by intro x hx;cases hx) hr hn (Fr.refl (ops:=ops) a.tmps) hc;have T:wS ops (zi ops.toList []) (Array.replicate ops.size false):=⟨aP,λi c hi=>by simp only[yI,J7]at hi;split at hi<;>simp at hi⟩
     have U:=abH hok.1 (abK hok.2) hp _ T hrw;refine wpIn_region_any hf ?_;refine abB hp _ _ a {w with drawn:=w.drawn+1} U ?_;rintro a' w' hd' hs' hk;exact fin hd' ⟨hs'.os,hs'.output,hs'.tape,kR (Nat.le_succ _) hs'.drawn⟩ hk
    .exact hc.elim
  .exact hc.elim
 | loop x ih=>
  intro eH ro e m h K hc hf ds a w Q hr hn hd hw hq;cases eH<;>try exact hc.elim
  rename_i slots d;simp only[compile]at hc;refine abO ?_;split at hc
  .rename_i hno;obtain⟨x0,hL,C⟩:=wY hr hc;have key:=hL (λv h=>∀(a':Act)(w':World),Rel (rS slots v (oH (slots++writes x) e)) a'.tmps->a'.tmps.size=n->a'.defers=marks m++ds->w'.heap=h->dF w w'->
     wX x a.tmps a'.tmps->zx ro P x Q a' w') ?_
   .exact key a w (C _ (uM hr λ_ _=>rfl)) hn hd hw (.refl _) (λ_ _=>rfl)
   .intro v h' hB a' w' hr' hn' hd' hw' hs' J;refine Lg (ih d ro _ m h' _ hB hf ds a' w' _ hr' hn' hd' hw' ?_);intro ex e2 m2 a2 w2 r hn2 hd2 hs2 B u hk2;have hm2:m2=m:=B hno;subst hm2;have hfr:wX x a.tmps a2.tmps:=λs hs=>by rw[u s hs,J s hs]
    have post:∀ex',K ex' e2 m2 w2.heap->Q ex' a2 w2:=λex' hk'=>hq ex' e2 m2 a2 w2 r hn2 hd2 (hs'.trans hs2) (λ_=>rfl) hfr hk';cases ex with
    |normal=>obtain⟨v',hZ,M⟩:=wY r hk2;refine hZ a2 w2 (M _ (uM hr λs hs=> ?_)) hn2 hd2 rfl (hs'.trans hs2) hfr;rw[pW,pI]at hs;exact hfr s hs.2
    |exit id=>exact post _ hk2
    |goto l=>exact post _ hk2
    |ret=>exact post _ hk2
    |panic ch=>exact post _ hk2
    |outgrown=>exact post _ hk2
  .rename_i hno;obtain⟨x0,hL,C⟩:=wY hr hc;have key:=hL (λv h=>∀(a':Act)(w':World),Rel (rS slots v.2 (oH (slots++writes x) e)) a'.tmps->a'.tmps.size=n->a'.defers=marks v.1++ds->w'.heap=h->dF w w'->
     wX x a.tmps a'.tmps->zx ro P x Q a' w') ?_
   .exact key a w (C _ (uM hr λ_ _=>rfl)) hn hd hw (.refl _) (λ_ _=>rfl)
   .intro v h' hB a' w' hr' hn' hd' hw' hs' J;refine Lg (ih d ro _ v.1 h' _ hB hf ds a' w' _ hr' hn' hd' hw' ?_);intro ex e2 m2 a2 w2 r hn2 hd2 hs2 B u hk2;have hfr:wX x a.tmps a2.tmps:=λs hs=>by rw[u s hs,J s hs]
    have post:∀ex',K ex' e2 m2 w2.heap->Q ex' a2 w2:=λex' hk'=>hq ex' e2 m2 a2 w2 r hn2 hd2 (hs'.trans hs2) (λh=>by simp only[kC]at h;rw[h]at hno;cases hno) hfr hk';cases ex with
    |normal=>obtain⟨v',hZ,M⟩:=wY r hk2;refine hZ a2 w2 (M _ (uM hr λs hs=> ?_)) hn2 hd2 rfl (hs'.trans hs2) hfr;rw[pW,pI]at hs;exact hfr s hs.2
    |exit id=>exact post _ hk2
    |goto l=>exact post _ hk2
    |ret=>exact post _ hk2
    |panic ch=>exact post _ hk2
    |outgrown=>exact post _ hk2
 | rangeFunc f params assign body V W=>
  intro eH ro e m h K hc hf ds a w Q hr hn hd hw hq;subst hw;cases eH<;>try exact hc.elim
  rename_i d A;simp only[compile]at hc;split at hc
  .rename_i hk;split at hc
   .rename_i hro;split at hc
    .rename_i hlt;have X:ro=none:=by cases ro<;>simp_all
     subst X;have he:a.eval f=ev e f:=by rw[qD,hr.ev hk]
     refine wpIn_rangeFunc λY _=> ?_
     let D:=w.heap.size
     let l:=w.heap.size+1
     let L:Loop:={state:=.ready,pending:=none,fn:=Y,tmps:=a.tmps,params,assign,body,defers:=D}
     let w1:World:={w with heap:=(w.heap.push (.deferred (some []))).push (.loop L)}
     have hL:=hc L ?_
     .unfold uK at hL;split at hL
      .rename_i g first captured Z
       refine⟨l,[{target:=.collected D,args:= #[]}],w1,{target:=.fn (.func g) captured,args:=first ++ #[dS l]},w1,g,first ++ #[dS l]++captured,w1,?_,?_,?_,?_,?_,?_⟩
       .simp only[Instr.enterLoop,newObj,bind,Sem.bind,pure,Sem.run,WF];show Result.ok _ _=Result.ok _ _;simp[l,D,w1,L]
       .unfold resolve;simp only[he,Z];simp[Deferred.ofValue,Act.eval,dS,pure]
       .intro f' _;exact wR none f'
       .have :=wE (KJ (K:=λ_ _=>True) (hL.mono λ_ _ _=>trivial)) w1 (by simp[w1,lo,L,D]);obtain⟨hcb,az⟩:=hL;unfold jQ at hcb;split at hcb
        .rename_i fn hfn;simp only[gb,mA,rA,ne_eq]at hcb;have hb:fn.body.isNone=false:=by cases hx:fn.body<;>simp_all
         show Sem.run P (callFunc g (first ++ #[dS l]++captured)) w1=_;unfold callFunc;simp only[program,bind,Sem.bind,Sem.run,hfn,hb];rw[aQ (by simpa using hcb.2)];rfl
        .cases hcb
       .intro h;simp[zh]at h
       .refine FB ((hL.2 w1 (by simp[w1,lo,L,D])).mono ?_);rintro e' w3 ⟨v,rfl,z,st,p,hst,aa,hj⟩;have z:dF w w3:=⟨z.os,z.output,z.tape,z.drawn⟩;obtain⟨jump,w4,hrun,hs4,hjp,ag⟩:=wE (abR (P:=P) (K:=λj h'=>j=p/\h'=w3.heap.setIfInBounds l (lo L .exhausted p)) aa hst ⟨rfl,rfl⟩) w3 rfl;subst hjp;refine⟨jump,w4,hrun,?_⟩;have post:∀ex,K ex e (D::m) w4.heap->Q ex {a with defers:=[{target:=.collected D,args:= #[]}]++a.defers} w4:=λex hk'=>
         hq ex e (D::m) {a with defers:=[{target:=.collected D,args:= #[]}]++a.defers} w4 hr hn (by simp[hd,marks]) (z.trans hs4) (λh=>by simp[kC]at h) (λ_ _=>rfl) hk'
        rw[<-ag]at hj;cases jump with
        |none=>exact post _ hj
        |some ah=>
         cases ah<;>try exact hj.elim
         .exact wpIn_exit (post _ (Lj (F:=λid h'=>K (.exit id) e (D::m) h') hj))
         .exact wpIn_ret (post _ hj)
      .exact hL.elim
     .intro args h' R st p hl' hB;have hlen:=Li params.toList args;show rI P l (#[]++(nQ params.toList args).toArray) h' R;unfold rI;rw[hl'];dsimp only[lo];refine⟨by simp[hlen,L],?_⟩;intro w2 ai;have N:=Lh (n:=n) params.toList args hr hn hlt;have aj:(L.params.zip (#[]++(nQ params.toList args).toArray)).foldl (λtmps(x:Nat×Value)=>tmps.setIfInBounds x.1 x.2) L.tmps=
        (params.toList.zip (nQ params.toList args)).foldl (λt(x:Nat×Value)=>t.setIfInBounds x.1 x.2) a.tmps:=by
       simp only[L];rw[<-Array.foldl_toList,Array.toList_zip];simp
      have goal:assign.wpIn (WF (some l)) 0 P (Exit.then (λa₁ w₁=>∃w₂,(Instr.beginRound l).run P w₁=.ok () w₂/\
        body.wpIn (WF (some l)) 0 P (roundPost P l λe' w'=>∃v,e'=.returned v/\dF w2 w'/\R v w'.heap) a₁ w₂) (λ_ _ _=>False))
        {tmps:=(L.params.zip (#[]++(nQ params.toList args).toArray)).foldl (λtmps(x:Nat×Value)=>tmps.setIfInBounds x.1 x.2) L.tmps,defers:=[]} w2:=by
       rw[aj];refine V d (some l) (zw params.toList args e) [] h' _ hB hf [] _ w2 _ N.1 N.2 rfl ai ?_;intro ex e1 m1 a1 O ak an aq hs1 aB aC H;cases ex<;>try exact H.elim
       obtain⟨p',hp',H⟩:=H;obtain⟨_,w3,hrun,z,au⟩:=wE (abP (P:=P) (K:=λ_ h'=>h'=O.heap.setIfInBounds l (lo L .busy p')) hp' rfl) O rfl;refine⟨w3,hrun,?_⟩;refine W A (some l) e1 m1 _ _ H hf [] a1 w3 _ ak an aq au ?_;intro ex' e2 m2 a2 w4 r hn2 hd2 hs4 B u hk2;obtain⟨p2,hp2,hk2⟩:=hk2;have hsame:dF w2 w4:=(hs1.trans z).trans hs4;have step:∀(jump:Option Code),R (.bool jump.isNone) (w4.heap.setIfInBounds l (lo L (if jump.isNone then .ready else .done) jump))->
         ∃v w',(Instr.endRound l jump).run P w4=.ok v w'/\∃v',Ending.returned v=.returned v'/\dF w2 w'/\R v' w'.heap:=by
        intro jump hR;obtain⟨v,av,ax,hs5,ay⟩:=wE (abQ (P:=P) (jump:=jump) (K:=R) hp2 hR) w4 rfl;exact⟨v,av,ax,v,rfl,hsame.trans hs5,ay⟩
       cases ex'<;>try exact hk2.elim
       .exact step none hk2
       .exact step (some (.exit _)) hk2
       .exact step (some .ret) hk2
      have :=roundIn_of_wpIn (F:=Fence.wide) (n:=0) (P:=P) (l:=l) (f:=L.fn) (w:=w2) (R:=λe' w'=>∃v,e'=.returned v/\dF w2 w'/\R v w'.heap) trivial goal;exact this
    .exact hc.elim
   .exact hc.elim
  .exact hc.elim
end
def de:List Nat->af->(af->Prop)->Prop
 | [],h,K=>K h
 |D::r,h,K=>h[D]? =some (.deferred (some []))/\de r (h.setIfInBounds D (.deferred none)) K
def gu (P:Program) (e:bU) (h:af):List ResultVar->(List Value->Prop)->Prop
 | [],K=>K []
 | .tmp t::r,K=>(match look e t with
  |some v=>gu P e h r λl=>K (v::l)
  |none=>False)
 | .cell a t::r,K=>(match look e a with
  | some p=>(match P.underlying t,P.info? t with
   |some d,some i=>(match k7 d with
    |true=>bq i.size h p λv=>gu P e h r λl=>K (v::l)
    |false=>ag h p λv=>gu P e h r λl=>K (v::l))
   |_,_=>False)
  |none=>False)
def lQ:List Value->Value
 | [v]=>v
 |l=>.tuple l.toArray
def zy(P:Program)(rs:List ResultVar)(K:KT):Exit->bU->List Nat->af->Prop
 | .normal,e,m,h| .ret,e,m,h=>de m h λh'=>gu P e h' rs λl=>K (lQ l) h'
 |_,_,_,_=>False
def aqP:List Value->Nat->bU
 | [],_=>[]
 |v::r,i=>(i,v)::aqP r (i+1)
section
variable{P:Program}
def wZ:∀{args:List Value}{i s:Nat}{v:Value},look (aqP args i) s=some v->i<=s/\args[s-i]? =some v
 | u::args,i,s,v,h=>by
  simp only[aqP,look]at h;split at h
  .rename_i hb;have :=gl hb;subst this;exact⟨cq _,by simpa using h⟩
  .obtain⟨h1,h2⟩:=wZ h;refine⟨aa,?_⟩;rw[show s-i=(s-(i+1))+1 by omega];simpa using h2
def abT{t:TypeId}{d:TypeDesc}{i:TypeInfo}{p:Value}{h:af}{K:Value->Prop}(hd:P.underlying t=some d)(hi:P.info? t=some i)
  (hq:match k7 d with
   |true=>bq i.size h p K
   |false=>ag h p K):∃v,aZ P (do loadVar t (<-asAddr p)) h=some v/\K v:=by
 obtain⟨v,hv,hk⟩:=Km hd hi hq;refine⟨v,?_,hk⟩;have hp:∃a,p=.pointer (some a):=by
  cases hag:k7 d<;>rw[hag]at hq<;>dsimp only at hq
  .unfold ag at hq;split at hq
   .exact⟨_,rfl⟩
   .exact hq.elim
  .unfold bq at hq;split at hq
   .exact⟨_,rfl⟩
   .exact hq.elim
 obtain⟨a,rfl⟩:=hp;exact hv
def FV{e:bU}{t:Array Value}{h:af}(hr:Rel e t):∀{rs:List ResultVar}{K:List Value->Prop},gu P e h rs K->
  ∃l,aZ P (rs.mapM λ(r:ResultVar)=>(match r with
   | .tmp s=>pure (t.getD s undef)
   | .cell a ty=>do loadVar ty (<-asAddr (t.getD a undef)):Sem Value)) h=some l/\l.length=rs.length/\K l
 | [],K,hq=>⟨[],rfl,rfl,hq⟩
 | .tmp s::r,K,hq=>by
  simp only[gu]at hq;split at hq
  .rename_i v hv;obtain⟨l,hl,hlen,hk⟩:=FV hr hq;refine⟨v::l,?_,by simp[hlen],hk⟩;rw[Be];rw[bf (a:=v) (by simp[hr s v hv,aZ,pure]),bf hl];rfl
  .exact hq.elim
 | .cell a ty::r,K,hq=>by
  simp only[gu]at hq;split at hq
  .rename_i p hp;split at hq
   .rename_i d i hd hi;have b:match k7 d with
     |true=>bq i.size h p (λv=>gu P e h r λl=>K (v::l))
     |false=>ag h p (λv=>gu P e h r λl=>K (v::l)):=hq
    obtain⟨v,hv,hk⟩:=abT hd hi b;obtain⟨l,hl,hlen,hk⟩:=FV hr hk;refine⟨v::l,?_,by simp[hlen],hk⟩;rw[Be];have :t.getD a undef=p:=by simp[hr a p hp]
    dsimp only;rw[this,bf hv,bf hl];rfl
   .exact hq.elim
  .exact hq.elim
def tc{fn:Func}{e:bU}{t:Array Value}{h:af}{K:List Value->Prop}(hr:Rel e t)(hq:gu P e h fn.results.toList K):
  ∃l,aZ P (results fn t) h=some (lQ l)/\K l:=by
 obtain⟨l,hl,hlen,hk⟩:=FV hr hq;refine⟨l,?_,hk⟩;unfold results;have hm:aZ P (fn.results.mapM fun
   | .tmp s=>pure (t.getD s undef)
   | .cell a ty=>do loadVar ty (<-asAddr (t.getD a undef)):Sem (Array Value)) h=some l.toArray:=by
  rw[J3];have e:∀{α β:Type}(f:α->β)(s:Sem α),(Functor.map f s:Sem β)=(s>>=λa=>pure (f a)):=λf s=>rfl;rw[e];refine(bf ?_).trans rfl;exact hl
 refine(bf hm).trans ?_;show some _=some _;congr 1;split
 .rename_i h1;have b:l.length=1:=by simpa using h1
  obtain⟨v,rfl⟩:=List.length_eq_one_iff.1 b;rfl
 .rename_i h1;have b:l.length≠1:=by simpa using h1
  unfold lQ;split
  .simp at b
  .rfl
def xd{fn:Func}{t:Array Value}{e:bU}{R:Ending->World->Prop}{K:KT}{w0:World}(hr:Rel e t)
  (hR:∀v w,dF w0 w->K v w.heap->R (.returned v) w):∀(m:List Nat)(w:World),dF w0 w->de m w.heap (λh'=>gu P e h' fn.results.toList λl=>K (lQ l) h')->
  LeavesInM Fence.wide 0 P fn t R (marks m) .returning w
 | [],w,hs,hq=>by obtain⟨l,hl,hk⟩:=tc hr hq;exact⟨_,pO hl w rfl,hR _ _ hs hk⟩
 |D::m,w,hs,hq=>by obtain⟨hD,hq⟩:=hq;refine⟨aP,.inl ⟨D,{w with heap:=w.heap.setIfInBounds D (.deferred none)},rfl,?_,xd hr hR m _ ⟨hs.os,hs.output,hs.tape,hs.drawn⟩ hq⟩⟩;simp[Instr.takeDeferred,getObj,setObj,bind,Sem.bind,Sem.run,hD,pure]
def abU{f:FuncId}{fn:Func}{c:Code}{eH:Ann}{args:List Value}{h:af}{K:KT}(hf:P.funcs[f]? =some fn)(hb:fn.body=some c)
  (hm:P.follows .mixedOrders=true) (hlen:args.length<=fn.ntmps)
  (hc:compile P fn.ntmps false c eH (aqP args 0) [] h (zy P fn.results.toList K)):Fh P f args.toArray h K:=by
 intro w hw;refine callsIn_of_wp_marks hf hb trivial ?_;have a:Rel (aqP args 0) (args.toArray++Array.replicate (fn.ntmps-args.toArray.size) undef):=by intro s v hs;obtain⟨_,h2⟩:=wZ hs;rw[jl]at h2;have hlt:s<args.length:=(fu.1 h2).1;rw[ue (by simpa using hlt)];simpa using h2
 have hsz:(args.toArray++Array.replicate (fn.ntmps-args.toArray.size) undef).size=fn.ntmps:=by simp;omega
 refine jT c eH none _ [] h _ hc hm [] _ w _ a hsz rfl hw ?_;intro ex e' m' a' w' hr' hn' hd' hs' _ _ hk;have fin:de m' w'.heap (λh'=>gu P e' h' fn.results.toList λl=>K (lQ l) h')->
   LeavesInM Fence.wide 0 P fn a'.tmps (λe w'=>∃v,e=.returned v/\dF w w'/\K v w'.heap) a'.defers .returning w':=by
  intro hk;rw[hd',eO];exact xd hr' (λv w'' b d=>⟨v,rfl,b,d⟩) m' w' hs' hk
 cases ex<;>try exact hk.elim
 .exact fin hk
 .exact fin hk
def abV{f:FuncId}{fn:Func}{c:Code}{eH:Ann}{args:List Value}{h:af}{K:KT}(hf:P.funcs[f]? =some fn)(hb:fn.body=some c)
  (a:jQ P f=true) (hm:P.follows .mixedOrders=true) (hlen:args.length<=fn.ntmps)
  (hc:compile P fn.ntmps false c eH (aqP args 0) [] h (zy P fn.results.toList K)):aF P f args.toArray h K:=
 ⟨a,abU hf hb hm hlen hc⟩
def abW{f:FuncId}{args:Array Value}{w:World}{R:Ending->World->Prop}{K:KT}(hc:aF P f args w.heap K)
  (hk:∀v w',dF w w'->K v w'.heap->R (.returned v) w'):Calls P f args w R:=
 callsIn_wide.1 ((hc.2 w rfl).mono λ_ _⟨_,he,hs,hv⟩=>he▸hk _ _ hs hv)
end
def js(P:Program)(f:FuncId)(args:Array Value)(h:af)(K:af->Prop):Prop:=jQ P f=true/\∀w:World,w.heap=h->CallsDIn Fence.wide 0 P f args .returning w λe u w'=>∃v,e=.returned v/\u=.returning/\dF w w'/\K w'.heap
section
variable{P:Program}
def B6{fn:Func}{t:Array Value}{e:bU}{R:Ending->World->Prop}{K:KT}{w0:World}{f:FuncId}{cap dargs:Array Value}(hr:Rel e t)
  (hR:∀v w,dF w0 w->K v w.heap->R (.returned v) w):∀(m:List Nat)(w:World),dF w0 w->
  de m w.heap (λh'=>js P f (dargs++cap) h' λh''=>gu P e h'' fn.results.toList λl=>K (lQ l) h'')->
  LeavesInM Fence.wide 0 P fn t R (marks m++ [{target:=.fn (.func f) cap,args:=dargs}]) .returning w
 | [],w,hs,hq=>by
  obtain⟨b,hq⟩:=hq;refine⟨aP,.inr ⟨(λh=>by cases h),.func f,cap,f,dargs++cap,rfl,?_,λ_ _=>trivial,(hq w rfl).mono ?_⟩⟩
  .show(callFunc f (dargs++cap)).run P w=_;unfold jQ at b;split at b
   .rename_i fn' hfn;simp only[gb,mA,rA,ne_eq]at b;have hb:fn'.body.isNone=false:=by cases hx:fn'.body<;>simp_all
    have hrd:aZ P (callFunc f (dargs++cap)) w.heap=some (.enter f (dargs++cap)):=by unfold callFunc;refine(bf (a:=P) (by rfl)).trans ?_;simp only[hfn,hb];rw[aQ (by simpa using b.2)];rfl
    exact pO hrd w rfl
   .cases b
  .rintro e' u w' ⟨v,rfl,rfl,hs',hk⟩;exact xd (K:=K) hr hR [] w' (hs.trans hs') hk
 |D::m,w,hs,hq=>by obtain⟨hD,hq⟩:=hq;refine⟨aP,.inl ⟨D,{w with heap:=w.heap.setIfInBounds D (.deferred none)},rfl,?_,B6 hr hR m _ ⟨hs.os,hs.output,hs.tape,hs.drawn⟩ hq⟩⟩;simp[Instr.takeDeferred,getObj,setObj,bind,Sem.bind,Sem.run,hD,pure]
def FW{ro:Option Nat}{id:Nat}{o1 o2:Oper}{s:Tmp}{f:FuncId}{caps:Array Operand}{c:Call}{a:Act}{w:World}{Q:Exit->Act->World->Prop}
  (hro:ro=none) (h1:o1.op=.makeFunc (.func f) #[] caps) (b:o1.dst=some s) (hg1:o1.guard=none) (h2:o2.op=.defer c) (hc:c.callee=.value (.tmp s)) (hca:c.args= #[]) (hd2:o2.dst=none) (hg2:o2.guard=none)
  (hs:s<a.tmps.size)
  (hq:Q .normal {tmps:=gr a.tmps (some s) (.func (.func f) #[] (caps.map (kA a.tmps))),defers:={target:=.fn (.func f) (caps.map (kA a.tmps)),args:= #[]}::a.defers} w):
  (Code.region id #[o1,o2] false).wpIn (WF ro) 0 P Q a w:=by
 subst hro;refine wpIn_region ?_;show wpOpsIn (WF none) 0 P #[o1,o2] Q [0,1] a w;have w1:∀t,Region.wanted o1 (yielded #[o1,o2] t)=true:=λt=>by simp[Region.wanted,hg1]
 have w2:∀t,Region.wanted o2 (yielded #[o1,o2] t)=true:=λt=>by simp[Region.wanted,hg2]
 have g0:(#[o1,o2]:Array Oper)[0]? =some o1:=rfl;have g1:(#[o1,o2]:Array Oper)[1]? =some o2:=rfl;simp only[wpOpsIn,g0,g1,w1,w2,e7];refine⟨λ_ _=>trivial,?_⟩;have e1:(o1.semAt (WF none).round a.eval).run P w=.ok (.value (.func (.func f) #[] (caps.map a.eval))) w:=by show(execOp a.eval o1).run P w=_;unfold execOp;simp only[h1,show ∀g:Operand->Value,Array.map g #[]= #[]from λg=>aP];rfl
 rw[e1];refine⟨λ_ _=>trivial,?_⟩;have ev:(a.put o1.dst (.func (.func f) #[] (caps.map a.eval))).eval (.tmp s)=.func (.func f) #[] (caps.map a.eval):=by rw[b];simp[Act.put,Act.eval,hs]
 have e2:(o2.semAt (WF none).round (a.put o1.dst (.func (.func f) #[] (caps.map a.eval))).eval).run P w=.ok (.defer {target:=.fn (.func f) (caps.map a.eval),args:= #[]}) w:=by show(execOp _ o2).run P w=_;unfold execOp;simp only[h2,resolve,hc,hca,ev,show ∀g:Operand->Value,Array.map g #[]= #[]from λg=>aP];rfl
 rw[e2];simp only[Oper.uponIn,hd2];have d:(caps.map a.eval)=caps.map (kA a.tmps):=by congr 1
 rw[b,d];exact hq
def FX(P:Program)(rs:List ResultVar)(f:FuncId)(args:Array Value)(K:KT):Exit->bU->List Nat->af->Prop
 | .normal,e,m,h| .ret,e,m,h=>de m h λh'=>js P f args h' λh''=>gu P e h'' rs λl=>K (lQ l) h''
 |_,_,_,_=>False
def FY(P:Program)(n:Nat)(B:Code)(iF:Ann)(rs:List ResultVar)(s:Tmp)(f:FuncId)(caps:List Operand)(K:KT):Exit->bU->List Nat->af->Prop
 | .normal,e,[],h=>(match pU e caps,Nat.blt s n with
  |true,true=>compile P n false B iF ((s,.func (.func f) #[] (caps.map (ev e)).toArray)::e) [] h (FX P rs f (caps.map (ev e)).toArray K)
  |_,_=>False)
 |_,_,_,_=>False
def FZ:List (Code×Ann)->Code->Code
 | [],X=>X
 |(A,_)::r,X=>.seq A (FZ r X)
def abX(K:bU->af->Prop):Exit->bU->List Nat->af->Prop
 | .normal,e,[],h=>K e h
 |_,_,_,_=>False
def F4(P:Program)(n:Nat):List (Code×Ann)->bU->af->(bU->af->Prop)->Prop
 | [],e,h,K=>K e h
 |(A,eH)::r,e,h,K=>compile P n false A eH e [] h (abX λe h=>F4 P n r e h K)
def Ll{n:Nat}{X:Code}{Q:Exit->Act->World->Prop}{K:bU->af->Prop}(hm:P.follows .mixedOrders=true):∀(l:List (Code×Ann)){e:bU}{a:Act}{w:World},Rel e a.tmps->a.tmps.size=n->a.defers=[]->F4 P n l e w.heap K->
  (∀e' a' w',Rel e' a'.tmps->a'.tmps.size=n->a'.defers=[]->dF w w'->K e' w'.heap->X.wpIn Fence.wide 0 P Q a' w')->(FZ l X).wpIn Fence.wide 0 P Q a w
 | [],e,a,w,hr,hn,hd,hk,hX=>hX e a w hr hn hd (.refl _) hk
 |(A,eH)::l,e,a,w,hr,hn,hd,hk,hX=>by
  refine wpIn_seq ?_;refine jT A eH none _ [] w.heap _ hk hm [] _ w _ hr hn hd rfl ?_;intro ex e' m' a' w' hr' hn' hd' hs' _ _ hk';cases ex<;>try exact hk'.elim
  cases m' with
  |cons D m=>exact hk'.elim
  |nil=>exact Ll hm l hr' hn' hd' hk' λe2 a2 w2 r2 n2 d2 s2 k2=>hX e2 a2 w2 r2 n2 d2 (hs'.trans s2) k2
def Lm(pre:List (Code×Ann)){f g:FuncId}{fn:Func}{A B:Code}{lR iF:Ann}{id:Nat}{o1 o2:Oper}{s:Tmp}{caps:Array Operand}{c:Call}{args:List Value}{h:af}{K:KT}
  (hf:P.funcs[f]? =some fn) (hb:fn.body=some (FZ pre (.seq A (.seq (.region id #[o1,o2] false) B)))) (d:jQ P f=true) (hm:P.follows .mixedOrders=true) (hlen:args.length<=fn.ntmps)
  (h1:o1.op=.makeFunc (.func g) #[] caps) (i:o1.dst=some s) (hg1:o1.guard=none) (h2:o2.op=.defer c) (hc:c.callee=.value (.tmp s)) (hca:c.args= #[]) (hd2:o2.dst=none) (hg2:o2.guard=none)
  (hq:F4 P fn.ntmps pre (aqP args 0) h λe h=>compile P fn.ntmps false A lR e [] h (FY P fn.ntmps B iF fn.results.toList s g caps.toList K)):aF P f args.toArray h K:=by
 refine⟨d,λw hw=> ?_⟩;refine callsIn_of_wp_marks hf hb trivial ?_;have j:Rel (aqP args 0) (args.toArray++Array.replicate (fn.ntmps-args.toArray.size) undef):=by intro s v hs;obtain⟨_,h2⟩:=wZ hs;rw[jl]at h2;have hlt:s<args.length:=(fu.1 h2).1;rw[ue (by simpa using hlt)];simpa using h2
 have hsz:(args.toArray++Array.replicate (fn.ntmps-args.toArray.size) undef).size=fn.ntmps:=by simp;omega
 subst hw;refine Ll hm pre j hsz rfl hq ?_;intro e0 a0 w0 k hn0 n hs0 o;refine wpIn_seq ?_;refine jT A lR none _ [] w0.heap _ o hm [] _ w0 _ k hn0 n rfl ?_;intro ex e' m' a' w' hr' hn' hd' a _ _ hk;have hs':=hs0.trans a;cases ex<;>try exact hk.elim
 cases m' with
 |cons D m=>exact hk.elim
 | nil=>
  obtain⟨hkn,b,hk⟩:pU e' caps.toList=true/\s<fn.ntmps/\compile P fn.ntmps false B iF ((s,.func (.func g) #[] (caps.toList.map (ev e')).toArray)::e') [] w'.heap (FX P fn.results.toList g (caps.toList.map (ev e')).toArray K):=by
   simp only[FY]at hk;split at hk
   .rename_i h1 h2;exact⟨h1,rE h2,hk⟩
   .exact hk.elim
  have p:a'.defers=[]:=hd';show(Code.seq (.region id #[o1,o2] false) B).wpIn Fence.wide 0 P _ a' w';refine wpIn_seq ?_;refine FW (ro:=none) rfl h1 i hg1 h2 hc hca hd2 hg2 (by rw[hn'];exact b) ?_;have q:caps.map (kA a'.tmps)=(caps.toList.map (ev e')).toArray:=by apply ko;rw[Bf];apply jx;intro x hx;exact(hr'.ev (zk hkn x hx)).symm
  rw[q,p];have r:Rel ((s,.func (.func g) #[] (caps.toList.map (ev e')).toArray)::e') (gr a'.tmps (some s) (.func (.func g) #[] (caps.toList.map (ev e')).toArray)):=hr'.put (dst:=some s) (by rw[hn'];simpa[qF]using b)
  refine jT B iF none _ [] w'.heap _ hk hm [{target:=.fn (.func g) (caps.toList.map (ev e')).toArray,args:= #[]}] _ w' _ r (by rw[sY];exact hn') rfl rfl ?_;intro t e2 m2 a2 w2 u E y z _ _ hk2;have fin:de m2 w2.heap (λh'=>js P g (caps.toList.map (ev e')).toArray h' λh''=>gu P e2 h'' fn.results.toList λl=>K (lQ l) h'')->
    LeavesInM Fence.wide 0 P fn a2.tmps (λe w'=>∃v,e=.returned v/\dF w w'/\K v w'.heap) a2.defers .returning w2:=by
   intro hk;rw[y];refine B6 (dargs:= #[]) (w0:=w2) u (λv w'' a C=>⟨v,rfl,(hs'.trans z).trans a,C⟩) m2 w2 (.refl _) ?_;simpa using hk
  cases t<;>try exact hk2.elim
  .exact fin hk2
  .exact fin hk2
def F5{f g:FuncId}{fn:Func}{A B:Code}{lR iF:Ann}{id:Nat}{o1 o2:Oper}{s:Tmp}{caps:Array Operand}{c:Call}{args:List Value}{h:af}{K:KT}
  (hf:P.funcs[f]? =some fn) (hb:fn.body=some (.seq A (.seq (.region id #[o1,o2] false) B))) (a:jQ P f=true) (hm:P.follows .mixedOrders=true) (hlen:args.length<=fn.ntmps)
  (h1:o1.op=.makeFunc (.func g) #[] caps) (b:o1.dst=some s) (hg1:o1.guard=none) (h2:o2.op=.defer c) (hc:c.callee=.value (.tmp s)) (hca:c.args= #[]) (hd2:o2.dst=none) (hg2:o2.guard=none)
  (hq:compile P fn.ntmps false A lR (aqP args 0) [] h (FY P fn.ntmps B iF fn.results.toList s g caps.toList K)):aF P f args.toArray h K:=
 Lm [] hf hb a hm hlen h1 b hg1 h2 hc hca hd2 hg2 hq
def cL:Code->Code
 | .seq a _=>a
 |c=>c
def cR:Code->Code
 | .seq _ b=>b
 |c=>c
def cO(i:Nat):Code->Oper
 | .region _ ops _=>(match ops[i]? with
  |some o=>o
  |none=>⟨none,.move (.const undef),0,"",#[],none⟩)
 |_=>⟨none,.move (.const undef),0,"",#[],none⟩
def uN:Code->Nat
 | .region id _ _=>id
 |_=>0
end
def eX:Code->Nat->List (Nat×List Nat)->Ann×Nat×List (Nat×List Nat)
 | .seq a b,i,[]=>(match eX a (i+1) []with
  |(x,j,s1)=>(match eX b j s1 with
   |(y,k,s2)=>(.two x y,k,s2)))
 | .seq a b,i,(p,sl)::s=>(match Nat.beq i p with
  | true=>(match eX a (i+1) s with
   |(x,j,s1)=>(match eX b j s1 with
    |(y,k,s2)=>(.cut sl x y,k,s2)))
  | false=>(match eX a (i+1) ((p,sl)::s)with
   |(x,j,s1)=>(match eX b j s1 with
    |(y,k,s2)=>(.two x y,k,s2))))
 | .cond _ a b,i,s=>(match eX a i s with
  |(x,j,s1)=>(match eX b j s1 with
   |(y,k,s2)=>(.two x y,k,s2)))
 | .block _ a,i,s=>(match eX a i s with
  |(x,j,s1)=>(.one x,j,s1))
 | .scope a,i,s=>(match eX a i s with
  |(x,j,s1)=>(.one x,j,s1))
 | .loop a,i,(_,sl)::s=>(match eX a (i+1) s with
  |(x,j,s1)=>(.loop sl x,j,s1))
 | .rangeFunc _ _ a b,i,s=>(match eX a i s with
  |(x,j,s1)=>(match eX b j s1 with
   |(y,k,s2)=>(.two x y,k,s2)))
 |_,i,s=>(.leaf,i,s)
def gW{σ:Type}{A:(σ->af->Prop)->Prop}{B:σ->af->Prop}(Q:σ->af->Prop)(hA:∀J:σ->af->Prop,(∀v h,Q v h->J v h)->A J)(hB:∀v h,Q v h->B v h):akV A B:=hA B hB
def bG(h:af)(b:Nat)(o:Obj):af:=h.setIfInBounds b o
def qH(h:af)(b:Nat)(o:Obj):h.setIfInBounds b o=bG h b o:=rfl
section
variable{h h' h1 h2:af}{b c:Nat}{o x:Obj}
def eY(hb:h[b]? =some o):b<h.size:=(Bh.1 hb).1
def aqK(hb:b<h.size):(bG h b o)[b]? =some o:=by simp[bG,hb]
def aqL(hb:h[b]? =some x):(bG h b o)[b]? =some o:=aqK (eY hb)
def mX(hne:b≠c):(bG h b o)[c]? =h[c]? :=by simp[bG,yH hne]
def iM:(bG h b o).size=h.size:=by simp[bG]
def gP:(h.push o)[h.size]? =some o:=aP
def td:(h.push o).size=h.size+1:=aP
structure bN(S:Nat->Prop)(h h':af):Prop where
 size:h.size<=h'.size
 same:∀b,b<h.size->¬S b->h'[b]? =h[b]?
def bN.refl(S:Nat->Prop)(h:af):bN S h h:=⟨cq _,λ_ _ _=>rfl⟩
def bN.trans{S S':Nat->Prop}(a:bN S h h1)(a':bN S' h1 h2)(hs:∀b,S' b->b<h.size->S b):bN S h h2:=⟨kR a.size a'.size,λb hb hn=>(a'.same b (pJ hb a.size) (λhs'=>hn (hs b hs' hb))).trans (a.same b hb hn)⟩
def bN.mono{S S':Nat->Prop}(a:bN S h h1)(hs:∀b,S b->b<h.size->S' b):bN S' h h1:=⟨a.size,λb hb hn=>a.same b hb λhb'=>hn (hs b hb' hb)⟩
def bN.push(S:Nat->Prop)(h:af)(o:Obj):bN S h (h.push o):=⟨aP,λb hb _=>by rw[Array.getElem?_push];simp[yG hb]⟩
def bN.bG{S:Nat->Prop}(h:af){b:Nat}(o:Obj)(hb:S b):bN S h (bG h b o):=⟨by simp[Mh.bG],λc _ hn=>mX (λe=>hn (e▸hb))⟩
def bN.get{S:Nat->Prop}(a:bN S h h1)(hb:h[b]? =some o)(hn:¬S b):h1[b]? =some o:=(a.same b (eY hb) hn).trans hb
abbrev Ext(h h':af):Prop:=bN (λ_=>False) h h'
def Ext.get(a:Ext h h1)(hb:h[b]? =some o):h1[b]? =some o:=bN.get a hb id
def Ext.bG{S:Nat->Prop}(a:Ext h h1):bN S h h1:=a.mono λ_ hf _=>hf.elim
def bz{cs:Array Value}{T:TypeId}{fz:Nat×Nat}{i:Nat}{v:Value}(hb:h[b]? =some (.cells cs T fz))(hv:cs[i]? =some v):hcell h ⟨b,i,none⟩=some v:=by simp[hcell,hb,hv]
def abY{cs:Array Value}{T:TypeId}{i:Nat}(hb:h[b]? =some (.cells cs T (0,0))):rH h ⟨b,i,none⟩=false:=by simp[rH,hb]
def abZ{cs:Array Value}{T:TypeId}{fz:Nat×Nat}{i:Nat}{v:Value}(hb:h[b]? =some (.cells cs T fz)):
  gp h ⟨b,i,none⟩ v=bG h b (.cells (cs.setIfInBounds i v) T fz):=by
 have hlt:=eY hb;have a:h[b]=.cells cs T fz:=by simpa[sL hlt]using hb
 unfold gp bG;apply vW
 .simp
 .intro j h1 h2;simp only[Array.size_modify]at h1;rw[yJ,J8 h1];split
  .rename_i e;subst e;simp[a]
  .rfl
def zz{o1 o2:Obj}:bG (bG h b o1) b o2=bG h b o2:=by simp[bG]
def bJ{a:Value}{v:Value}{i:Nat}{K:Value->Prop}(ha:a=.pointer (some ⟨b,i,none⟩))(hv:hcell h ⟨b,i,none⟩=some v)(hk:K v):ag h a K:=by subst ha;simp[ag,hv,hk]
def tf{cs:List Value}{T:TypeId}{fz:Nat×Nat}{i:Nat}(hb:h[b]? =some (.cells cs.toArray T fz)):∀(n i:Nat),i+n<=cs.length->iL h b i n=some ((cs.drop i).take n)
 |0,i,_=>by simp[iL]
 |n+1,i,hle=>by have hlt:i<cs.length:=aa;have hv:hcell h ⟨b,i,none⟩=some cs[i]:=bz hb (by simp[hlt]);simp only[iL,hv];rw[tf (i:=i) hb n (i+1) aa];simp only[eM];rw[iD hlt,ER]
def over(cs:List Value)(i:Nat)(l:List Value):List Value:=cs.take i++l++cs.drop (i+l.length)
def xg{T:TypeId}{K:af->Prop}:∀(l:List Value)(i:Nat)(h:af)(cs:List Value),h[b]? =some (.cells cs.toArray T (0,0))->i+l.length<=cs.length->
  (∀v∈l,plainCell v=true)->K (bG h b (.cells (over cs i l).toArray T (0,0)))->mU h b i l K
 | [],i,h,cs,hb,hle,_,hk=>by
  have :over cs i []=cs:=by simp[over]
  rw[this]at hk;have :bG h b (.cells cs.toArray T (0,0))=h:=by
   have hlt:=eY hb;apply vW
   .simp[bG]
   .intro j h1 h2;have :h[b]=.cells cs.toArray T (0,0):=by simpa[sL hlt]using hb
    simp only[bG,J8 h2];split
    .rename_i e;subst e;exact this.symm
    .rfl
  rw[this]at hk;exact hk
 | v::l,i,h,cs,hb,hle,hp,hk=>by
  simp only[fO]at hle;have hlt:i<cs.length:=aa;refine⟨hp v cN,?_,abY hb,?_⟩
  .rw[bz hb (v:=cs[i]) (by simp[hlt])];rfl
  .rw[abZ hb];have e:(cs.toArray.setIfInBounds i v)=(cs.set i v).toArray:=aP;rw[e];refine xg l (i+1) _ (cs.set i v) (aqL hb) (by simp;omega) (λu hu=>hp u (cZ _ hu)) ?_;rw[zz];have :over (cs.set i v) (i+1) l=over cs i (v::l):=by
    simp only[over,fO];rw[cW (by simpa using hlt)];simp only[yK,c7,List.singleton_append,qq];rw[EH (cq i),EI aa];simp[yL,Nat.add_left_comm]
   rw[this];exact hk
section rows
variable{α:Type}{enc:α->List Value}{n:Nat}
def row(enc:α->List Value)(xs:List α):List Value:=xs.flatMap enc
def iN(hn:∀a,(enc a).length=n):∀xs:List α,(row enc xs).length=xs.length*n
 | []=>by simp[row]
 |x::xs=>by have :=iN hn xs;simp only[row,jm,cG,fO]at *;rw[this,hn,qn,yL]
def B7(hn:∀a,(enc a).length=n):∀(xs:List α)(i:Nat),(row enc xs).take (i*n)=row enc (xs.take i)
 | [],i=>by simp[row]
 |x::xs,0=>by simp[row]
 |x::xs,i+1=>by have :=B7 hn xs i;simp only[row,jm,ER]at *;rw[qn,yL,<-hn x,List.take_append,fM aa,hn x];simp[this]
def B8(hn:∀a,(enc a).length=n):∀(xs:List α)(i:Nat),(row enc xs).drop (i*n)=row enc (xs.drop i)
 | [],i=>by simp[row]
 |x::xs,0=>by simp[row]
 |x::xs,i+1=>by have :=B8 hn xs i;simp only[row,jm,ES]at *;rw[qn,yL,<-hn x,List.drop_append,yM aa,hn x];simp[this]
def qI(xs ys:List α):row enc (xs++ys)=row enc xs++row enc ys:=by simp[row]
def F6(hn:∀a,(enc a).length=n){xs:List α}{i:Nat}(hi:i<xs.length)(rest:List Value):
  ((row enc xs++rest).drop (i*n)).take n=enc xs[i]:=by
 have hl:=iN hn xs;have hle:i*n+n<=xs.length*n:=by have :=lJ n (Nat.succ_le_of_lt hi);rw[qn]at this;exact this
 rw[ET aa,B8 hn,qt (by rw[iN hn];simp;rw[Nat.sub_mul];omega)];rw[iD hi];simp only[row,jm];rw[qt (by rw[hn];exact cq _),fM (by rw[hn];exact cq _)]
def uO(hn:∀a,(enc a).length=n){xs:List α}{i j:Nat}(hi:i<xs.length)(hj:j<n)(rest:List Value):
  (row enc xs++rest)[i*n+j]? =(enc xs[i])[j]? :=by
 rw[<-F6 hn hi rest,uf hj,yN]
def B9(hn:∀a,(enc a).length=n){xs:List α}{i:Nat}(hi:i<xs.length)(a:α)(rest:List Value):
  over (row enc xs++rest) (i*n) (enc a)=row enc (xs.set i a)++rest:=by
 have hl:=iN hn xs;have hle:i*n+n<=xs.length*n:=by have :=lJ n (Nat.succ_le_of_lt hi);rw[qn]at this;exact this
 unfold over;rw[hn,qt aa,B7 hn,show i*n+n=(i+1)*n by rw[qn],ET (by rw[qn];omega),B8 hn];rw[Bl,aW hi];simp[row]
end rows
end
def zA{σ:Type}{B:σ->af->(σ->af->Prop)->Prop}{x:σ}{h:af}(I:σ->af->Prop)(μ:σ->af->Nat)(h0:I x h)
  (step:∀(x:σ)(h:af)(Z:σ->af->Prop),I x h->(∀x' h',I x' h'->μ x' h'<μ x h->Z x' h')->B x h Z):bI B x h:=by
 intro Z hZ;have key:∀n x h,μ x h=n->I x h->Z x h:=by
  intro n
  induction n using Nat.strongRecOn with
  |_ n ih=>intro x h hn hI;exact hZ x h (step x h Z hI λx' h' c hlt=>ih _ (hn▸hlt) x' h' rfl c)
 exact key _ x h rfl h0
section
variable{K:Value->Prop}{KH:KT}{T E:Prop}{h:af}{k:IntKind}{a b:Int}{v x y:Value}{n m o:Nat}
@[simp] def bF:aA (.bool true) T E=T:=rfl
@[simp] def aO:aA (.bool false) T E=E:=rfl
@[simp] def bA {p:Prop} [Decidable p]:aA (.bool (decide p)) T E↔(p->T)/\(¬p->E):=by by_cases hp:p<;>simp[aA,hp]
def zB(c:Bool):aA (.bool c) T E↔(c=true->T)/\(c=false->E):=by cases c<;>simp[aA]
@[simp] def kD:aA (.bool (a==b)) T E↔(a=b->T)/\(¬a=b->E):=by rw[zB];simp
@[simp] def F7:aA (.bool (a != b)) T E↔(¬a=b->T)/\(a=b->E):=by rw[zB];simp
@[simp] def ap6 {c:Bool}:aA (.bool !c) T E↔aA (.bool c) E T:=by cases c<;>simp
@[simp] def bD {q:Addr}:aI (.pointer (some q)) K=K (.pointer (some q)):=rfl
@[simp] def ap7 {f:Nat} {c d:Array Value}:aI (.func (.func f) c d) K=K (.func (.func f) c d):=rfl
@[simp] def ap8 {f:Nat} {c d:Array Value}:aI (.func (.yield f) c d) K=K (.func (.yield f) c d):=rfl
@[simp] def aU {off:Nat}:au off (.pointer (some ⟨n,o,none⟩)) K=K (.pointer (some ⟨n,o+off,none⟩)):=rfl
@[simp] def dh:ag h (.pointer (some ⟨n,o,none⟩)) K=(match hcell h ⟨n,o,none⟩with
  |some v=>K v
  |none=>False):=rfl
@[simp] def Ca:bq m h (.pointer (some ⟨n,o,none⟩)) K=(match iL h n o m with
  |some l=>K (.agg l.toArray)
  |none=>False):=rfl
@[simp] def Ln {size len cap:Nat}:aY size (.slice (some ⟨n,o,none⟩) len cap) (.int k a) K↔(0<=a/\a<len)/\K (.pointer (some ⟨n,o+a.toNat*size,none⟩)):=by simp[aY,and_assoc]
@[simp] def ij {size len:Nat}:b9 size len (.pointer (some ⟨n,o,none⟩)) (.int k a) K↔(0<=a/\a<len)/\K (.pointer (some ⟨n,o+a.toNat*size,none⟩)):=by simp[b9,and_assoc]
@[simp] def Lo {q:Option Addr} {cap:Nat}:bB (.slice q n cap) K=K (.int .i64 n):=rfl
@[simp] def ap9 {s:ByteArray}:fQ (.string s) K=K (.int .i64 s.size):=rfl
@[simp] def aqa {q:Option Addr} {cap:Nat}:wJ (.slice q n cap) K=K (.int .i64 cap):=rfl
@[simp] def uP {vs:Array Value}:bp (.tuple vs) n K=(match vs[n]? with
  |some v=>K v
  |none=>False):=rfl
@[simp] def aqb {vs:Array Value}:oD n (.agg vs) K=(match vs[n]? with
  |some v=>K v
  |none=>False):=rfl
@[simp] def aqc {vs:Array Value}:wH n m (.agg vs) K=K (.agg (vs.extract n (n+m))):=rfl
@[simp] def aqd:wG (.bool true) x y K=K x:=rfl
@[simp] def aqe:wG (.bool false) x y K=K y:=rfl
@[simp] def rU:lN (.int k a) (.int k b) K=K (.int k (if b<a then b else a)):=rfl
@[simp] def oI:jR (.int k a) (.int k b) K=K (.int k (if b>a then b else a)):=rfl
@[simp] def fG {k':IntKind}:cJ k (.int k' a) K=K (.int k (k.wrap a)):=rfl
@[simp] def bP {c:Bool}:bY .not (.bool c) K=K (.bool !c):=rfl
@[simp] def aqf:bY .neg (.int k a) K=K (.int k (k.wrap (0-a))):=rfl
@[simp] def bw:aq .add (.int k a) (.int k b) K↔K (.int k (k.wrap (a+b))):=by simp[aq]
@[simp] def fc:aq .sub (.int k a) (.int k b) K↔K (.int k (k.wrap (a-b))):=by simp[aq]
@[simp] def iO:aq .mul (.int k a) (.int k b) K↔K (.int k (k.wrap (a*b))):=by simp[aq]
@[simp] def pX:aq .quo (.int k a) (.int k b) K↔b≠0/\K (.int k (k.wrap (a.tdiv b))):=by simp[aq]
@[simp] def nR:aq .rem (.int k a) (.int k b) K↔b≠0/\K (.int k (a.tmod b)):=by simp[aq]
@[simp] def cF:aq .eql (.int k a) (.int k b) K↔K (.bool (a==b)):=by simp[aq]
@[simp] def fe:aq .neq (.int k a) (.int k b) K↔K (.bool (a != b)):=by simp[aq]
@[simp] def bC:aq .lss (.int k a) (.int k b) K↔K (.bool (decide (a<b))):=by simp[aq]
@[simp] def lS:aq .leq (.int k a) (.int k b) K↔K (.bool (decide (a<=b))):=by simp[aq]
@[simp] def akS:aq .gtr (.int k a) (.int k b) K↔K (.bool (decide (b<a))):=by simp[aq]
@[simp] def dA:aq .geq (.int k a) (.int k b) K↔K (.bool (decide (b<=a))):=by simp[aq]
@[simp] def dM {q:Option Addr}:bL false .ptr (.pointer q) (.pointer none) K↔K (.bool q.isNone):=by cases q<;>simp[bL]
@[simp] def Cb {q:Option Addr}:bL true .ptr (.pointer q) (.pointer none) K↔K (.bool q.isSome):=by cases q<;>simp[bL]
@[simp] def ab0 {q:Option Addr} {c:Nat}:bL false .slice (.slice q n c) (.slice none 0 0) K↔K (.bool q.isNone):=by cases q<;>simp[bL]
@[simp] def aqg {q:Option Addr} {c:Nat}:bL true .slice (.slice q n c) (.slice none 0 0) K↔K (.bool q.isSome):=by cases q<;>simp[bL]
@[simp] def aqh:bL false .iface .nilIface .nilIface K↔K (.bool true):=by simp[bL]
@[simp] def ab1:bL true .iface .nilIface .nilIface K↔K (.bool false):=by simp[bL]
@[simp] def aqi {c d:Bool}:bL false .bool (.bool c) (.bool d) K↔K (.bool (c==d)):=by simp[bL]
@[simp] def aqj {c d:Bool}:bL true .bool (.bool c) (.bool d) K↔K (.bool (c != d)):=by cases c<;>cases d<;>simp[bL]
@[simp] def aqk {c d:Bool}:aA (.bool (c==d)) T E↔(c=d->T)/\(¬c=d->E):=by cases c<;>cases d<;>simp
@[simp] def aql {c d:Bool}:aA (.bool (c != d)) T E↔(¬c=d->T)/\(c=d->E):=by cases c<;>cases d<;>simp
@[simp] def aqm:plainCell (.int k a)=true:=rfl
@[simp] def aqn {c:Bool}:plainCell (.bool c)=true:=rfl
@[simp] def aqo {c:ByteArray}:plainCell (.string c)=true:=rfl
@[simp] def aqp {q:Option Addr}:plainCell (.pointer q)=true:=rfl
@[simp] def aqq {q:Option Addr}:plainCell (.slice q n m)=true:=rfl
@[simp] def aqr {q:Option Nat}:plainCell (.map q)=true:=rfl
@[simp] def aqs {f:Fn} {c d:Array Value}:plainCell (.func f c d)=true:=rfl
@[simp] def aqt:plainCell .nilFunc=true:=rfl
@[simp] def aqu:plainCell .nilIface=true:=rfl
@[simp] def aqv {t:TypeId}:plainCell (.iface t v)=true:=rfl
@[simp] def ab2:(Value.int k a).cells= #[.int k a]:=rfl
@[simp] def aqw {c:Bool}:(Value.bool c).cells= #[.bool c]:=rfl
@[simp] def aqx {c:ByteArray}:(Value.string c).cells= #[.string c]:=rfl
@[simp] def ab3 {q:Option Addr}:(Value.pointer q).cells= #[.pointer q]:=rfl
@[simp] def aqy {q:Option Addr}:(Value.slice q n m).cells= #[.slice q n m]:=rfl
@[simp] def aqz {q:Option Nat}:(Value.map q).cells= #[.map q]:=rfl
@[simp] def aqA {f:Fn} {c d:Array Value}:(Value.func f c d).cells= #[.func f c d]:=rfl
@[simp] def aqB:(Value.nilFunc).cells= #[.nilFunc]:=rfl
@[simp] def aqC:(Value.nilIface).cells= #[.nilIface]:=rfl
@[simp] def aqD {t:TypeId}:(Value.iface t v).cells= #[.iface t v]:=rfl
@[simp] def Lp {c:Array Value}:(Value.agg c).cells=c:=rfl
def ab4{P:Program}{f:Nat}{first captured:Array Value}{args:List Value}(hc:aF P f (first ++args.toArray++captured) h KH):
  aX P (.func (.func f) first captured) args.toArray h KH:=hc
def F8{n:Int}(h0:k.min<=n)(h1:n<=k.max):k.wrap n=n:=by unfold IntKind.wrap;cases k<;>simp only[IntKind.bits,IntKind.signed,IntKind.min,IntKind.max,kT,oy,e7,gm,dN]at * <;>(try split)<;>simp at * <;>omega
def bK{n:Int}(h0: -9223372036854775808<=n)(h1:n<=9223372036854775807):IntKind.i64.wrap n=n:=F8 h0 h1
def xh{t:TypeId}(hk:KH (.pointer (some ⟨h.size,0,none⟩)) (h.push (.cells v.cells t (0,0)))):aB t v h KH:=hk
def pY{a:Value}{c i:Nat}{cs:List Value}{T:TypeId}{sz:Nat}(ha:a=.pointer (some ⟨c,i,none⟩))(hb:h[c]? =some (.cells cs.toArray T (0,0)))
  (hs:v.cells.size=sz) (hle:i+v.cells.size<=cs.length) (hp:∀u∈v.cells.toList,plainCell u=true)
  (hk:KH undef (bG h c (.cells (over cs i v.cells.toList).toArray T (0,0)))):aD sz a v h KH:=by
 subst ha;exact⟨hs,xg _ _ _ cs hb (by simpa using hle) hp hk⟩
end
section
variable{h:af}{b:Nat}
def jC{v:Value}{l:List Value}{T:TypeId}{fz:Nat×Nat}(hb:h[b]? =some (.cells (v::l).toArray T fz)):hcell h ⟨b,0,none⟩=some v:=bz hb aP
def zC{u v:Value}{l:List Value}{T:TypeId}{fz:Nat×Nat}(hb:h[b]? =some (.cells (u::v::l).toArray T fz)):hcell h ⟨b,1,none⟩=some v:=bz hb aP
def Lq{u t v:Value}{l:List Value}{T:TypeId}{fz:Nat×Nat}(hb:h[b]? =some (.cells (u::t::v::l).toArray T fz)):hcell h ⟨b,2,none⟩=some v:=bz hb aP
def Cc{K:af->Prop}:∀(m:List Nat)(h:af),(∀D∈m,h[D]? =some (.deferred (some [])))->m.Nodup->(∀h',bN (λb=>b∈m) h h'->K h')->de m h K
 | [],h,_,_,hk=>hk h (.refl _ _)
 |D::m,h,hD,hn,hk=>by
  refine⟨hD D cN,?_⟩;rw[gC]at hn;refine Cc m _ (λD' f=> ?_) hn.2 λh' hu=>hk h' ?_
  .rw[qH,mX (λe:D=D'=>hn.1 (by rw[e];exact f))];exact hD D' (cZ _ f)
  .exact(bN.bG (S:=λb=>b∈D::m) h _ cN).trans hu λb hb _=>cZ _ hb
def Lr{l:Nat}{L:Loop}{R:KT}{p:Option Code}(hb:h[l]? =some (lo L .busy p))(hk:R (.bool true) (bG h l (lo L .ready none))):zv l L R .normal h:=⟨p,hb,hk⟩
def Ls{l:Nat}{L:Loop}{K:af->Prop}{p:Option Code}(hb:h[l]? =some (lo L .ready p))(hk:K (bG h l (lo L .busy p))):iZ l L h K:=⟨p,hb,hk⟩
end
section
variable{K:Value->Prop}{a b c d:Value}{l:List Value}
def cC:bp (.tuple (a::l).toArray) 0 K=K a:=by simp[bp]
def cB:bp (.tuple (a::b::l).toArray) 1 K=K b:=by simp[bp]
def nS:bp (.tuple (a::b::c::l).toArray) 2 K=K c:=by simp[bp]
end
section
variable{α:Type}{enc:α->List Value}{n:Nat}{T:TypeId}{h h':af}{v:Value}{bl:Nat}{xs ys:List α}
def eC(enc:α->List Value)(n:Nat)(T:TypeId)(h:af)(v:Value)(bl:Nat)(xs:List α):Prop:=
 (v=.slice none 0 0/\xs=[])\/∃cap rest,v=.slice (some ⟨bl,0,none⟩) xs.length cap/\h[bl]? =some (.cells (row enc xs++rest).toArray T (0,0))/\
  rest.length=(cap-xs.length)*n/\xs.length<=cap
def eC.len(H:eC enc n T h v bl xs):∃base cap,v=.slice base xs.length cap:=by
 rcases H with ⟨rfl,rfl⟩|⟨_,_,rfl,_⟩
 .exact⟨_,_,rfl⟩
 .exact⟨_,_,rfl⟩
def eC.full(H:eC enc n T h v bl xs)(hl:0<xs.length):∃cap rest,v=.slice (some ⟨bl,0,none⟩) xs.length cap/\h[bl]? =some (.cells (row enc xs++rest).toArray T (0,0))/\
  rest.length=(cap-xs.length)*n/\xs.length<=cap:=by
 rcases H with ⟨rfl,rfl⟩|H
 .simp at hl
 .exact H
def eC.bG{S:Nat->Prop}(H:eC enc n T h v bl xs)(hu:bN S h h')(hn':¬S bl):eC enc n T h' v bl xs:=by
 rcases H with H|⟨cap,rest,a,b,c,d⟩
 .exact .inl H
 .exact .inr ⟨cap,rest,a,hu.get b hn',c,d⟩
def eC.slot{m:Nat}(H:eC enc m T h v bl xs){i j:Nat}(he:∀a,(enc a).length=m)(hi:i<xs.length)(hj:j<m):hcell h ⟨bl,i*m+j,none⟩=(enc xs[i])[j]? :=by
 obtain⟨cap,rest,_,hb,_,_⟩:=H.full aa;rw[bz hb (v:=(enc xs[i])[j]'(by rw[he];exact hj)) (by have :=uO he hi hj rest;rw[mP,this];simp)]
 simp
def eC.idx(H:eC enc n T h v bl xs){i:Nat}{k:IntKind}{K:Value->Prop}(hi:i<xs.length)(hk:K (.pointer (some ⟨bl,i*n,none⟩))):aY n v (.int k i) K:=by obtain⟨cap,rest,rfl,hb,_,_⟩:=H.full aa;rw[Ln];refine⟨⟨aa,aa⟩,?_⟩;simpa using hk
def eC.aqS(H:eC enc n T h v bl xs){K:Value->Prop}(hk:K (.int .i64 xs.length)):bB v K:=by obtain⟨b,c,rfl⟩:=H.len;exact hk
def ab5(he:∀a,(enc a).length=n)(H:eC enc n T h v bl xs):∃base cap,v=.slice base xs.length cap/\gN h n xs.length base=some (row enc xs):=by
 rcases H with ⟨rfl,rfl⟩|⟨cap,rest,rfl,hb,_,_⟩
 .exact⟨_,_,rfl,rfl⟩
 .refine⟨some ⟨bl,0,none⟩,cap,rfl,?_⟩;have hl:=iN he xs;simp only[gN];rw[tf (i:=0) hb _ 0 (by simp[hl])];rw[ox,<-hl,Bm];rfl
def F9{bytes:Nat}{zero:List Value}{K:KT}(he:∀a,(enc a).length=n)(hp:∀a,∀u∈enc a,plainCell u=true)(hz:zero.length=n)
  (H:eC enc n T h v bl xs) (hby:0<bytes) (hb:(xs.length+ys.length)*bytes<=2^47)
  (hK:∀v' e h',eC enc n T h' v' e (xs++ys)->(e=bl\/e=h.size)->bN (λb=>b=bl/\∃cs,h[b]? =some (.cells cs T (0,0))) h h'->(bl<h.size->e<h'.size)->K v' h'):
  qz T n bytes zero v ys.length (row enc ys) h K:=by
 have f:=iN he xs;have g:=iN he ys;have j:∀u∈row enc ys,plainCell u=true:=by intro u hu;simp only[row,qu]at hu;obtain⟨a,_,ha⟩:=hu;exact hp a u ha
 have i:∀cap,cap<xs.length+ys.length->Builtin.nextslicecap (xs.length+ys.length) cap*bytes<=2^48/\xs.length+ys.length<2^63:=by intro cap hc;refine⟨growslice_fits hc aa,?_⟩;have :=Nat.le_mul_of_pos_right (xs.length+ys.length) hby;omega
 have hzl:∀m,(bO zero m).length=m*n:=by intro m;simp[bO,hz]
 have fresh:∀(c:Nat),xs.length+ys.length<=c->K (.slice (some ⟨h.size,0,none⟩) (xs.length+ys.length) c) (h.push (.cells (row enc xs++row enc ys++bO zero (c-(xs.length+ys.length))).toArray T (0,0))):=by intro c hc;exact hK _ h.size _ (.inr ⟨c,bO zero (c-(xs.length+ys.length)),aP,by rw[gP,qI],by simp[hzl],by simpa using hc⟩) (.inr rfl) (bN.push _ _ _) (λ_=>aP)
 rcases H with ⟨rfl,rfl⟩|⟨cap,rest,rfl,hbk,hr,hle⟩
 .simp only[qz];by_cases h0:ys.length=0
  .have :ys=[]:=nH h0;subst this;simp only[vX,sM,cq,e7];exact hK _ bl _ (.inl ⟨rfl,rfl⟩) (.inl rfl) (.refl _ _) id
  .rw[aQ aa];simp only[gN,sN];have hc:=i 0 (by simp;omega);simp only[vX]at hc;refine⟨hc.1,hc.2,λc h1 h2=> ?_⟩;have :=fresh c (by simpa using h1);simpa[row]using this
 .simp only[qz];by_cases hcap:xs.length+ys.length<=cap
  .rw[aW hcap];have hrl:rest.length=cap*n-xs.length*n:=by rw[hr,Nat.sub_mul]
   have hmul:(xs.length+ys.length)*n<=cap*n:=lJ n hcap;rw[nJ]at hmul;refine xg _ _ _ _ hbk (by rw[cG,f,g];omega) j ?_;have k:over (row enc xs++rest) (0+xs.length*n) (row enc ys)=row enc (xs++ys)++rest.drop (ys.length*n):=by
    unfold over;rw[bE,<-f,Bm,g,List.drop_append,qI]
    .rw[yM aa,show(row enc xs).length+ys.length*n-(row enc xs).length=ys.length*n by omega];simp
    .rfl
   rw[k];refine hK _ bl _ (.inr ⟨cap,rest.drop (ys.length*n),aP,aqL hbk,?_,by simpa using hcap⟩) (.inl rfl) (bN.bG _ _ ⟨rfl,_,hbk⟩) (by simp[iM]);rw[sK,hrl,cG,Nat.sub_mul,nJ];omega
  .rw[aQ hcap];have hl:=ab5 he (.inr ⟨cap,rest,rfl,hbk,hr,hle⟩:eC enc n T h (.slice (some ⟨bl,0,none⟩) xs.length cap) bl xs);obtain⟨b0,c0,e0,hl⟩:=hl;injection e0 with e0 _ _;subst e0;rw[hl];have hc:=i cap aa;exact⟨hc.1,hc.2,λc h1 h2=>fresh c h1⟩
def ab6{bytes:Nat}{zero:List Value}{f:Option Addr}{m xc:Nat}{K:KT}(he:∀a,(enc a).length=n)(hp:∀a,∀u∈enc a,plainCell u=true)(hz:zero.length=n)
  (H:eC enc n T h v bl xs) (hm:m=ys.length) (hx:gN h n m f=some (row enc ys)) (hby:0<bytes) (hb:(xs.length+ys.length)*bytes<=2^47)
  (hK:∀v' e h',eC enc n T h' v' e (xs++ys)->(e=bl\/e=h.size)->bN (λb=>b=bl/\∃cs,h[b]? =some (.cells cs T (0,0))) h h'->(bl<h.size->e<h'.size)->K v' h'):
  uY T n bytes zero v (.slice f m xc) h K:=by
 subst hm;have key:=F9 he hp hz H hby hb hK;rcases H with ⟨rfl,rfl⟩|⟨cap,rest,rfl,_⟩<;>(simp only[uY,hx];exact key)
def eC.set{sz:Nat}{w:Value}{i:Nat}{a:α}{KH:KT}{q:Value}(he:∀a,(enc a).length=n)(hp:∀u∈enc a,plainCell u=true)
  (H:eC enc n T h v bl xs) (hi:i<xs.length) (hq:q=.pointer (some ⟨bl,i*n,none⟩)) (hw:w.cells.toList=enc a) (hsz:sz=n)
  (hK:∀h',eC enc n T h' v bl (xs.set i a)->bN (λb=>b=bl) h h'->h'.size=h.size->KH undef h'):aD sz q w h KH:=by
 rw[hsz];obtain⟨cap,rest,rfl,hb,hr,hle⟩:=H.full aa;have e:w.cells.size=n:=by rw[<-he a,<-hw];simp
 have f:=iN he xs;have hmul:(i+1)*n<=xs.length*n:=lJ n hi;rw[qn]at hmul;refine pY hq hb e (by rw[e,cG,f];omega) (by rw[hw];exact hp) ?_;rw[hw,B9 he hi];exact hK _ (.inr ⟨cap,rest,aP,aqL hb,by simpa using hr,by simpa using hle⟩) (bN.bG _ _ rfl) iM
def kE(enc:α->List Value)(n:Nat)(h:af)(v:Value)(bl:Nat)(ys:List α):Prop:=
 ∃base cap,v=.slice base ys.length cap/\ys.length<=cap/\((ys=[]/\(base=none\/∃b o,base=some ⟨b,o,none⟩))\/
  ∃o pre post T fz,base=some ⟨bl,o,none⟩/\h[bl]? =some (.cells (pre++row enc ys++post).toArray T fz)/\pre.length=o)
def kE.bG{S:Nat->Prop}(H:kE enc n h v bl ys)(hu:bN S h h')(hn:¬S bl):kE enc n h' v bl ys:=by
 obtain⟨base,cap,rfl,hc,H⟩:=H;refine⟨base,cap,rfl,hc,?_⟩;rcases H with H|⟨o,pre,post,T,fz,a,b,c⟩
 .exact .inl H
 .exact .inr ⟨o,pre,post,T,fz,a,hu.get b hn,c⟩
def eC.view(H:eC enc n T h v bl xs):kE enc n h v bl xs:=by
 rcases H with ⟨rfl,rfl⟩|⟨cap,rest,rfl,hb,_,hle⟩
 .exact⟨none,0,rfl,cq _,.inl ⟨rfl,.inl rfl⟩⟩
 .exact⟨_,_,rfl,hle,.inr ⟨0,[],rest,T,_,rfl,hb,rfl⟩⟩
def kE.cells(he:∀a,(enc a).length=n)(H:kE enc n h v bl ys):∃base cap,v=.slice base ys.length cap/\gN h n ys.length base=some (row enc ys):=by
 obtain⟨base,cap,rfl,hc,H⟩:=H;refine⟨base,cap,rfl,?_⟩;rcases H with ⟨rfl,rfl|⟨b,o,rfl⟩⟩|⟨o,pre,post,T,fz,rfl,hb,ho⟩
 .rfl
 .simp[gN,iL,row]
 .have hl:=iN he ys;simp only[gN];rw[tf (i:=0) hb _ o (by simp[hl];omega)];rw[c7,<-ho,EU,<-hl,Bm]
  .rfl
  .rfl
def kE.sub{lo hi:Option Value}{K:Value->Prop}{i j:Nat}(he:∀a,(enc a).length=n)(H:kE enc n h v bl ys)(hlo:aqO 0 lo=some (i:Int))(hhi:aqO ys.length hi=some (j:Int))(hij:i<=j)(hj:j<=ys.length)
  (hK:∀v',kE enc n h v' bl ((ys.drop i).take (j-i))->K v'):eW n v lo hi none K:=by
 obtain⟨base,cap,rfl,hc,H⟩:=H;simp only[eW,hlo,hhi];rw[show aqO cap none=some (cap:Int)from rfl];dsimp only;refine⟨aP,aa,aa,aa,dQ _,?_⟩;refine hK _ ⟨_,_,by rw[show((j:Int).toNat-(i:Int).toNat)=((ys.drop i).take (j-i)).length by simp;omega],by simp;omega,?_⟩;simp only[fL];unfold gE;by_cases e:cap=i
 .rw[aW e];have :(ys.drop i).take (j-i)=[]:=by
   apply nH;simp;omega
  rcases H with ⟨_,hb⟩|⟨o,pre,post,T,fz,rfl,hb,ho⟩
  .exact .inl ⟨this,hb⟩
  .exact .inl ⟨this,.inr ⟨_,_,rfl⟩⟩
 .rw [if_neg e];rcases H with ⟨rfl,rfl|⟨b,o,rfl⟩⟩|⟨o,pre,post,T,fz,rfl,hb,ho⟩
  .exact .inl ⟨aP,.inl rfl⟩
  .exact .inl ⟨aP,.inr ⟨_,_,rfl⟩⟩
  .refine .inr ⟨o+i*n,pre++row enc (ys.take i),row enc ((ys.drop i).drop (j-i))++post,T,fz,rfl,?_,?_⟩
   .rw[hb];have :row enc ys=row enc (ys.take i)++(row enc ((ys.drop i).take (j-i))++row enc ((ys.drop i).drop (j-i))):=by
     rw[<-qI,iI,<-qI,iI]
    rw[this];simp[c7]
   .rw[cG,iN he,ho];simp;rw[iY aa]
def kE.aqS(H:kE enc n h v bl ys){K:Value->Prop}(hk:K (.int .i64 ys.length)):bB v K:=by obtain⟨b,c,rfl,_⟩:=H;exact hk
def eC.pre{k:IntKind}{K:Value->Prop}{j:Nat}(H:eC enc n T h v bl xs)(he:∀a,(enc a).length=n)(hj:j<=xs.length)
  (hK:∀v',eC enc n T h v' bl (xs.take j)->K v'):eW n v none (some (.int k j)) none K:=by
 rcases H with ⟨rfl,rfl⟩|⟨cap,rest,rfl,hb,hr,hle⟩
 .have :j=0:=by simpa using hj
  subst this;refine⟨aP,aP,aP,aP,aP,hK _ (.inl ⟨by simp[gE],aP⟩)⟩
 .refine⟨aP,aP,aa,aa,dQ _,hK _ (.inr ⟨cap,row enc (xs.drop j)++rest,?_,?_,?_,?_⟩)⟩
  .have :gE n 0 cap (some ⟨bl,0,none⟩)=some ⟨bl,0,none⟩:=by simp[gE]
   simp[this,hj]
  .rw[hb,<-c7,<-qI,iI]
  .rw[cG,iN he,hr];simp only[sK,dO,iY hj];rw[<-nJ];congr 1;omega
  .simp;omega
def ab7{bytes:Nat}{k k':IntKind}{m:Nat}{a:α}{K:KT}(hb:(bytes:Int)*m<=2^48)(hm:m<2^63)
  (hK:∀w h',eC enc n T h' w h.size (List.replicate m a)->Ext h h'->h'.size=h.size+1->K w h'):dG T bytes (enc a) (.int k m) (.int k' m) h K:=by
 refine⟨aa,dQ _,hb,aa,?_⟩;refine hK _ _ (.inr ⟨m,[],aP,?_,aP,aP⟩) (bN.push _ _ _) td;rw[gP];have :row enc (List.replicate m a)=(List.replicate m (enc a)).flatten:=by simp[row,List.flatMap]
 simp[this]
def kE.idx{k:IntKind}{K:Value->Prop}{i:Nat}(he:∀a,(enc a).length=n)(H:kE enc n h v bl ys)(hi:i<ys.length)
  (hK:∀o,(∀j,j<n->hcell h ⟨bl,o+j,none⟩=(enc ys[i])[j]?)->K (.pointer (some ⟨bl,o,none⟩))):aY n v (.int k i) K:=by
 obtain⟨base,cap,rfl,hc,H⟩:=H;rcases H with ⟨rfl,_⟩|⟨o,pre,post,T,fz,rfl,hb,ho⟩
 .simp at hi
 .rw[Ln];refine⟨⟨aa,aa⟩,?_⟩;simp only[fL];refine hK _ λj hj=> ?_;rw[bz hb (v:=(enc ys[i])[j]'(by rw[he];exact hj)) (by
   have :=uO he hi hj post;rw[mP,c7,eR aa,show o+i*n+j-pre.length=i*n+j by omega,this];simp)]
  simp
end
open Go Go.ChangeShapes Go.WideShapes Go.ChangeAt Go.RowKit
section
variable{H:Type}{jU:TypeId×Value->H}{P:Program}{w:World}{α:Type}{enc:α->List Value}{ok:α->Prop}{n:Nat}{e t:TypeId}{v:Value}{r:Reach}{base:Nat}{d:DataW H}{p:List MemPlace}
def add_plain{a:Addr}(hs:a.spot=none)(k:Nat):a.add k=⟨a.block,a.off+k,none⟩:=by
 obtain⟨b,o,s⟩:=a;simp only at hs;subst hs;unfold Addr.add;split
 .rename_i h;subst h;rfl
 .rfl
def Lt{β γ:Type}{f:β->Option γ}:∀{l:List β}{r:List γ},l.mapM f=some r->∀(i:Nat)(x:β),l[i]? =some x->f x=r[i]?
 | [],r,h,i,x,hx=>by simp at hx
 |y::l,r,h,i,x,hx=>by
  rw[Be]at h;simp only[Option.pure_def,Option.bind_eq_bind,Option.bind_eq_some_iff]at h;obtain⟨z,hz,rs,a,hr⟩:=h;simp only[eM]at hr;subst hr;cases i with
  |zero=>simp at hx;subst hx;simp[hz]
  |succ i=>simp at hx;simpa using Lt a i x hx
def Lu{Q:Nat->α->Prop}:∀len,(∀i,i<len->∃x,Q i x)->∃xs:List α,xs.length=len/\∀i(hi:i<xs.length),Q i xs[i]
 |0,_=>⟨[],rfl,λi hi=>by simp at hi⟩
 | len+1,hall=>by
  obtain⟨xs,hl,hxs⟩:=Lu len λi hi=>hall i aa;obtain⟨x,h1⟩:=hall len aa;refine⟨xs++ [x],by simp[hl],λi hi=> ?_⟩;by_cases hlt:i<xs.length
  .rw[vY hlt];exact hxs i hlt
  .have :i=len:=by simp at hi;omega
   subst this;rw[J9 aa];simpa[hl]using h1
def Ga{k:IntKind}(he:P.underlying e=some (.int k)){sp:Nat->Bool}:∀fuel cs x,DataW.trod jU P w 0 sp true fuel e cs=some x->∃a:Int,cs=[.int k a]/\k.min<=a/\a<=k.max:=by intro fuel cs x h;obtain⟨n',rfl,_,hw⟩:=DataW.trod_int he h;refine⟨n',rfl,?_⟩;simpa[Lit.wf]using hw
def ab8{k:IntKind}(ht:P.underlying t=some (.int k))(hv:Value.okWide P w r base t v)(hd:DataW.Trod jU P w 0 (λ_=>true) true t v d p):∃a:Int,v=.int k a/\k.min<=a/\a<=k.max:=by obtain⟨a,rfl,_,_,hw⟩:=open_int ht hv hd;exact⟨a,rfl,by simpa[Lit.wf]using hw⟩
end
abbrev fR:=Int×Value×Nat
def cK(x:fR):MapEntry:={key:=.int .i64 x.1,val:=x.2.1,born:=x.2.2}
def lk(k:Int):List fR->Option Value
 | []=>none
 |x::r=>if x.1=k then some x.2.1 else lk k r
def fi(k:Int):List fR->Nat->Option (Nat×Value)
 | [],_=>none
 |x::r,j=>if x.1=k then some (j,x.2.1)else fi k r (j+1)
structure mY(es:Array MapEntry)(clock:Nat)(t:List fR):Prop where
 ja:es.toList=t.map cK
 keys:(t.map (·.1)).Nodup
 uQ:(t.map (·.2.2)).Nodup
 old:∀x∈t,x.2.2<clock
def IMap(es:Array MapEntry)(clock:Nat)(f:Int->Option Value):Prop:=∃t,mY es clock t/\∀k,f k=lk k t
def cM(f:Int->Option Value)(k:Int)(v:Value):Int->Option Value:=λx=>if x=k then some v else f x
def zD(f:Int->Option Value)(k:Int):Int->Option Value:=λx=>if x=k then none else f x
def Cd(f:Int->Option Value)(k:Int)(x y:Value):cM (cM f k x) k y=cM f k y:=by funext z;unfold cM;split<;>rfl
def uR(k:Int):∀(t:List fR)(j:Nat),Instr.findNow (.int .i64) (.int .i64 k) (t.map cK) j=some (fi k t j)
 | [],j=>rfl
 | x::t,j=>by
  simp only[dI,Instr.findNow,cK,Instr.sameNow,e7];by_cases h:x.1=k
  .subst h;simp[fi]
  .have :(k==x.1)=false:=by simpa using λe=>h e.symm
   rw[this];simp only[fi,aQ h];exact uR k t (j+1)
def xk(k:Int):∀(t:List fR)(j:Nat),(fi k t j).map (·.2)=lk k t
 | [],_=>rfl
 |x::t,j=>by
  simp only[fi,lk];split
  .rfl
  .exact xk k t (j+1)
def zE{k:Int}:∀{t:List fR}{j:Nat},fi k t j=none->∀x∈t,x.1≠k
 | [],_,_=>by intro x hx;cases hx
 | x::t,j,h=>by
  simp only[fi]at h;split at h
  .cases h
  .rename_i hx;intro y hy;rcases cV.1 hy with rfl|hy
   .exact hx
   .exact zE h y hy
def Gb{k:Int}:∀{t:List fR},(∀x∈t,x.1≠k)->lk k t=none
 | [],_=>rfl
 |x::t,h=>by simp only[lk,aQ (h x cN)];exact Gb λy hy=>h y (cZ _ hy)
def ab9{k:Int}{t s:List fR}:lk k (t++s)=(lk k t).orElse λ_=>lk k s:=by
 induction t with
 |nil=>rfl
 |cons x t ih=>
  simp only[qq,lk];split
  .rfl
  .exact ih
def zF{k:Int}{g:fR->fR}:∀{t:List fR}{j i:Nat}{v:Value},(t.map (·.1)).Nodup->fi k t j=some (i,v)->
  j<=i/\t.modify (i-j) g=t.map (λx=>if x.1=k then g x else x)
 | x::t,j,i,v,hn,h=>by
  simp only[dI,gC]at hn;simp only[fi]at h;split at h
  .rename_i hx;simp only[eM,mO]at h;obtain⟨rfl,rfl⟩:=h;refine⟨cq _,?_⟩;simp only[iE,List.modify_zero_cons,dI,aW hx];congr 1;have :∀y∈t,y.1≠k:=λy hy e=>hn.1 (by rw[hx,<-e];exact mF hy);symm;rw[jx (g:=id) (λy hy=>by simp[this y hy])];simp
  .rename_i hx;obtain⟨h1,h2⟩:=zF (g:=g) hn.2 h;refine⟨aa,?_⟩;rw[show i-j=(i-(j+1))+1 by omega];simp only[List.modify_succ_cons,dI,aQ hx,h2]
def Lv{k:Int}:∀{t:List fR}{j i:Nat}{v:Value},(t.map (·.1)).Nodup->fi k t j=some (i,v)->
  j<=i/\i-j<t.length/\t.eraseIdx (i-j)=t.filter (λx=>x.1≠k)
 | x::t,j,i,v,hn,h=>by
  simp only[dI,gC]at hn;simp only[fi]at h;split at h
  .rename_i hx;simp only[eM,mO]at h;obtain⟨rfl,rfl⟩:=h;refine⟨cq _,aP,?_⟩;have :∀y∈t,y.1≠k:=λy hy e=>hn.1 (by rw[hx,<-e];exact mF hy);simp only[iE,List.eraseIdx_zero,List.tail_cons];rw[Ka (by simp[hx]),Bn.2 (λy hy=>by simpa using this y hy)]
  .rename_i hx;obtain⟨h1,h2,h3⟩:=Lv hn.2 h;refine⟨aa,by simp;omega,?_⟩;rw[show i-j=(i-(j+1))+1 by omega];simp only[arD,h3];rw[Kb (by simpa using hx)]
def Lw{k k':Int}{v:Value}:∀{t:List fR},lk k' (t.map λx=>if x.1=k then(x.1,v,x.2.2)else x)=if k'=k then(lk k t).map (λ_=>v)else lk k' t
 | []=>by simp[lk]
 | x::t=>by
  have ih:=Lw (k:=k) (k':=k') (v:=v) (t:=t);simp only[dI,lk];by_cases hx:x.1=k
  .simp only[aW hx];by_cases hk:k'=k
   .simp[hk,hx]
   .have :¬x.1=k':=λe=>hk (by rw[<-e,hx]);simp only[this,dN,hk]at ih |-;exact ih
  .simp only[aQ hx];by_cases hk:x.1=k'
   .have :¬k'=k:=λe=>hx (by rw[hk,e]);simp[hk,this]
   .simp only[aQ hk];exact ih
def Lx{k k':Int}:∀{t:List fR},lk k' (t.filter λx=>x.1≠k)=if k'=k then none else lk k' t
 | []=>by simp[lk]
 | x::t=>by
  have ih:=Lx (k:=k) (k':=k') (t:=t);by_cases hx:x.1=k
  .rw[Ka (by simp[hx]),ih];simp only[lk];by_cases hk:k'=k
   .simp[hk]
   .have :¬x.1=k':=λe=>hk (by rw[<-e,hx]);simp[hk,this]
  .rw[Kb (by simpa using hx)];simp only[lk,ih];by_cases hk:x.1=k'
   .have :¬k'=k:=λe=>hx (by rw[hk,e]);simp[hk,this]
   .simp[hk]
def IMap.congr{es:Array MapEntry}{c:Nat}{f g:Int->Option Value}(h:IMap es c f)(hfg:∀k,f k=g k):IMap es c g:=by obtain⟨t,ht,hf⟩:=h;exact⟨t,ht,λk=>(hfg k).symm.trans (hf k)⟩
def IMap.empty:IMap #[] 0 (λ_=>none):=⟨[],⟨rfl,aP,aP,aP⟩,λ_=>rfl⟩
def map_eraseIdx{α β:Type}(g:α->β):∀(t:List α)(i:Nat),(t.eraseIdx i).map g=(t.map g).eraseIdx i
 | [],_=>aP
 |_::_,0=>aP
 |x::t,i+1=>by simp[map_eraseIdx g t i]
section
variable{h:af}{m c:Nat}{es:Array MapEntry}{f:Int->Option Value}
def xl{z:Value}{ok:Bool}{k:Int}{K:Value->Prop}(hm:h[m]? =some (.map es c))(hi:IMap es c f)
  (hk:K (if ok then .tuple #[(f k).getD z,.bool (f k).isSome]else(f k).getD z)):dP (.int .i64) z ok h (.map (some m)) (.int .i64 k) K:=by
 obtain⟨t,ht,hf⟩:=hi;simp only[dP,hm,ht.ja,BH,uR];have hlk:=xk k t 0;rw[hf k,<-hlk]at hk;cases a:fi k t 0 with
 |none=>rw[a]at hk;simpa using hk
 |some p=>rw[a]at hk;simpa using hk
def mY.set {t:List fR} {i:Nat} {k:Int} {v old:Value} (ht:mY es c t) (a:fi k t 0=some (i,old)):
  mY (es.modify i λe=>{e with key:=.int .i64 k,val:=v}) c (t.map λx=>if x.1=k then(x.1,v,x.2.2)else x):=by
 have hm:=(zF (g:=λx=>(x.1,v,x.2.2)) ht.keys a).2;rw[jl]at hm;refine⟨?_,?_,?_,?_⟩
 .rw [Array.toList_modify,ht.ja,<-hm];apply iW
  .simp
  .intro j h1 h2;simp only[List.getElem_modify,qv];split
   .rename_i e;subst e;have hlt:i<t.length:=by simpa using h1
    have :(t.modify i λx=>(x.1,v,x.2.2))[i]? =(t.map λx=>if x.1=k then(x.1,v,x.2.2)else x)[i]? :=by rw[hm]
    have hkey:t[i].1=k:=by
     have key:∀(t:List fR)(j i:Nat),fi k t j=some (i,old)->∃hlt:i-j<t.length,t[i-j].1=k/\j<=i:=by
      intro t
      induction t with
      |nil=>intro j i h;cases h
      | cons x t ih=>
       intro j i h;simp only[fi]at h;split at h
       .rename_i hx;simp only[eM,mO]at h;obtain⟨rfl,_⟩:=h;exact⟨aP,by simpa using hx,cq _⟩
       .obtain⟨h1,h2,h3⟩:=ih _ _ h;refine⟨by simp;omega,?_,aa⟩;have :i-j=(i-(j+1))+1:=aa;simp only[this,vZ];exact h2
     obtain⟨_,h2,_⟩:=key t 0 i a;simpa using h2
    simp[cK,hkey]
   .rfl
 .have :(t.map λx=>if x.1=k then(x.1,v,x.2.2)else x).map (·.1)=t.map (·.1):=by
   rw[rC];apply jx;intro x _;simp only[Function.comp];split<;>rfl
  rw[this];exact ht.keys
 .have :(t.map λx=>if x.1=k then(x.1,v,x.2.2)else x).map (·.2.2)=t.map (·.2.2):=by
   rw[rC];apply jx;intro x _;simp only[Function.comp];split<;>rfl
  rw[this];exact ht.uQ
 .intro x hx;obtain⟨y,hy,rfl⟩:=cP.1 hx;have :=ht.old y hy;split<;>exact this
def mY.push{t:List fR}{k:Int}{v:Value}(ht:mY es c t)(d:fi k t 0=none):
  mY (es.push {key:=.int .i64 k,val:=v,born:=c}) (c+1) (t++ [(k,v,c)]):=by
 refine⟨by simp[ht.ja,cK],?_,?_,?_⟩
 .rw[fq,kq];refine⟨ht.keys,aP,?_⟩;intro a ha b hb;obtain⟨x,hx,rfl⟩:=cP.1 ha;simp only[dI,sO,eP]at hb;subst hb;exact zE d x hx
 .rw[fq,kq];refine⟨ht.uQ,aP,?_⟩;intro a ha b hb;obtain⟨x,hx,rfl⟩:=cP.1 ha;simp only[dI,sO,eP]at hb;subst hb;exact yG (ht.old x hx)
 .intro x hx;rcases cS.1 hx with hx|hx
  .exact Nat.lt_succ_of_lt (ht.old x hx)
  .rw[eP.1 hx];exact EV _
def zG{t:List fR}{k:Int}{v old:Value}{i:Nat}(a:fi k t 0=some (i,old))(x:Int):
  lk x (t.map λx=>if x.1=k then(x.1,v,x.2.2)else x)=if x=k then some v else lk x t:=by
 rw[Lw];split
 .rw[<-xk k t 0,a];rfl
 .rfl
def Gc{t:List fR}{k:Int}{v:Value}{b:Nat}(a:fi k t 0=none)(x:Int):
  lk x (t++ [(k,v,b)])=if x=k then some v else lk x t:=by
 rw[ab9];by_cases hx:x=k
 .subst hx;rw[Gb (zE a)];simp[lk]
 .have :¬k=x:=λe=>hx e.symm;simp[hx,lk,this]
def Ly{k:Int}{v:Value}{K:KT}(hm:h[m]? =some (.map es c))(hi:IMap es c f)
  (hk:∀es' c',IMap es' c' (cM f k v)->K undef (bG h m (.map es' c'))):e9 (.int .i64) (.map (some m)) (.int .i64 k) v h K:=by
 obtain⟨t,ht,hf⟩:=hi;simp only[e9,hm,ht.ja,BH,uR];cases a:fi k t 0 with
 |none=>exact hk _ _ ⟨_,ht.push a,λx=>by rw[Gc a];simp[cM,hf]⟩
 |some p=>exact hk _ _ ⟨_,ht.set a,λx=>by rw[zG a];simp[cM,hf]⟩
def Ce(es:Array MapEntry)(s k:Int):Prop:=∃e∈es.toList,e.key=.int .i64 k/\(e.born:Int)=s
def zH{k:Int}{z:Value}{K:KT}(hm:h[m]? =some (.map es c))(hi:IMap es c f)
  (hk:∀es' c' s,IMap es' c' (cM f k ((f k).getD z))->Ce es' s k->K (.tuple #[(f k).getD z,.int .i64 s]) (bG h m (.map es' c'))):
  mI (.int .i64) z (.map (some m)) (.int .i64 k) h K:=by
 obtain⟨t,ht,hf⟩:=hi;simp only[mI,hm,ht.ja,BH,uR];have hlk:=xk k t 0;cases a:fi k t 0 with
 |none=>
  rw[a]at hlk;have b:f k=none:=by rw[hf];exact hlk.symm
  rw[b]at hk;refine hk _ _ _ ⟨_,ht.push a,λx=>by rw[Gc a];simp[cM,hf]⟩ ⟨{key:=.int .i64 k,val:=z,born:=c},aP,rfl,rfl⟩
 | some p=>
  obtain⟨i,v⟩:=p;rw[a]at hlk;have b:f k=some v:=by rw[hf];exact hlk.symm
  rw[b]at hk;have gp:=ht.set (v:=v) a;obtain⟨_,hmod⟩:=zF (g:=λx=>x) ht.keys a;have hi:i<t.length:=by
   have key:∀(t:List fR)(j i:Nat),fi k t j=some (i,v)->i-j<t.length/\j<=i:=by
    intro t
    induction t with
    |nil=>intro j i h;cases h
    | cons x t ih=>
     intro j i h;simp only[fi]at h;split at h
     .simp only[eM,mO]at h;obtain⟨rfl,_⟩:=h;exact⟨aP,cq _⟩
     .obtain⟨h1,h2⟩:=ih _ _ h;exact⟨by simp;omega,aa⟩
   simpa using(key t 0 i a).1
  have d:es[i]? =some (cK t[i]):=by rw[<-wg,ht.ja];simp[hi]
  have l:t[i].1=k/\t[i].2.1=v:=by obtain⟨_,e,he,hv,hs⟩:=BN (by rw[uR,a]:Instr.findNow (.int .i64) (.int .i64 k) (t.map cK) 0=some (some (i,v)));simp[hi]at he;subst he;simp[cK,Instr.sameNow]at hv hs;exact⟨hs.symm,hv⟩
  have hsame:(es.modify i λe=>{e with key:=.int .i64 k})=es.modify i λe=>{e with key:=.int .i64 k,val:=v}:=by
   apply vW
   .simp
   .intro j h1 h2;simp only[yJ];split
    .rename_i e;subst e;have hlt:i<es.size:=by simpa using h1
     have :es[i]? =some es[i]:=sL hlt;rw[d]at this;simp only[eM]at this;rw[<-this];simp[cK,l.2]
    .rfl
  dsimp only;rw[hsame,d];refine hk _ _ _ ⟨_,gp,λx=>by rw[zG a];simp[cM,hf]⟩ ?_;refine⟨{(cK t[i])with key:=.int .i64 k,val:=v},?_,rfl,rfl⟩;rw[Bo];refine mE (i:=i) ?_;simp[d]
def zI{k s:Int}{v:Value}{K:KT}(hm:h[m]? =some (.map es c))(hi:IMap es c f)(hs:Ce es s k)
  (hk:∀es',IMap es' c (cM f k v)->K undef (bG h m (.map es' c))):lP (.map (some m)) (.int .i64 s) v h K:=by
 obtain⟨t,ht,hf⟩:=hi;obtain⟨e,he,a,b⟩:=hs;rw[ht.ja]at he;obtain⟨x,hx,rfl⟩:=cP.1 he;simp only[cK,Value.int.injEq,rB]at a b;have g:x.1=k:=by simpa using a
 simp only[lP,hm];have key:∀(t:List fR),(t.map (·.1)).Nodup->(t.map (·.2.2)).Nodup->x∈t->∃i,(t.map cK).findIdx? (λe=>(e.born:Int)==s)=some i/\∀j,fi k t j=some (i+j,x.2.1):=by
  intro t
  induction t with
  |nil=>intro _ _ hx;cases hx
  | cons y t ih=>
   intro hk hb hx;simp only[dI,gC]at hk hb;by_cases hy:y=x
   .subst hy;refine⟨0,?_,λj=>by simp[fi,g]⟩;simp[Bp,cK,b]
   .have hx':x∈t:=by
     rcases cV.1 hx with h|h
     .exact(hy h.symm).elim
     .exact h
    obtain⟨i,h1,h2⟩:=ih hk.2 hb.2 hx';have l:¬((y.2.2:Int)=s):=by
     rw[<-b];intro e;have :y.2.2=x.2.2:=by exact_mod_cast e
     exact hb.1 (this▸mF hx')
    have n:y.1≠k:=λe=>hk.1 (by rw[e,<-g];exact mF hx');refine⟨i+1,?_,λj=> ?_⟩
    .rw[dI,Bp];simp only[cK,qp,l,dN];rw[show(λ(e:MapEntry)=>(e.born:Int)==s)=λe=>(e.born:Int)==s from rfl,h1];rfl
    .simp only[fi,aQ n];rw[h2 (j+1)];congr 2;omega
 obtain⟨i,h1,h2⟩:=key t ht.keys ht.uQ hx;have hidx:es.findIdx? (λe=>(e.born:Int)==s)=some i:=by have e:es=(t.map cK).toArray:=ko ht.ja;rw[e,List.findIdx?_toArray];exact h1
 rw[hidx];have d:fi k t 0=some (i,x.2.1):=by simpa using h2 0
 have gp:=ht.set (v:=v) d;have hsame:(es.modify i λe=>{e with val:=v})=es.modify i λe=>{e with key:=.int .i64 k,val:=v}:=by
  obtain⟨_,e,he,_,hs⟩:=BN (by rw[uR,d]:Instr.findNow (.int .i64) (.int .i64 k) (t.map cK) 0=some (some (i,x.2.1)));rw[jl,<-ht.ja,wg]at he;apply vW
  .simp
  .intro j h1 h2;simp only[yJ];split
   .rename_i e2;subst e2;have hlt:i<es.size:=by simpa using h1
    have h3:es[i]? =some es[i]:=sL hlt;rw[he]at h3;simp only[eM]at h3;have a:e∈es.toList:=by rw[<-wg]at he;exact mE he
    rw[ht.ja]at a;obtain⟨y,_,rfl⟩:=cP.1 a;rw[<-h3];simp only[cK,Instr.sameNow,e7,eM,qp]at hs;simp[cK,hs]
   .rfl
 dsimp only;rw[hsame];exact hk _ ⟨_,gp,λx=>by rw[zG d];simp[cM,hf]⟩
def acd{k:Int}{K:KT}(hm:h[m]? =some (.map es c))(hi:IMap es c f)
  (hk:∀es',IMap es' c (zD f k)->K (.tuple #[]) (bG h m (.map es' c))):uD (.int .i64) (.map (some m)) (.int .i64 k) h K:=by
 obtain⟨t,ht,hf⟩:=hi;simp only[uD,hm,ht.ja,BH,uR];cases a:fi k t 0 with
 |none=>
  refine hk es ⟨t,ht,λx=> ?_⟩;unfold zD;split
  .rename_i e;subst e;exact(Gb (zE a)).symm
  .exact hf x
 | some p=>
  obtain⟨i,v⟩:=p;obtain⟨_,hlt,b⟩:=Lv ht.keys a;rw[jl]at hlt b;have hsz:i<es.size:=by have :=eG List.length ht.ja;simp at this;omega
  have d:(es.eraseIdxIfInBounds i).toList=(t.filter λx=>x.1≠k).map cK:=by unfold Array.eraseIdxIfInBounds;rw[dif_pos hsz,Array.toList_eraseIdx,ht.ja,<-b,map_eraseIdx]
  refine hk _ ⟨t.filter λx=>x.1≠k,⟨d,?_,?_,?_⟩,λx=> ?_⟩
  .exact(arB.map _).nodup ht.keys
  .exact(arB.map _).nodup ht.uQ
  .intro x hx;exact ht.old x (gL.1 hx).1
  .rw[Lx];unfold zD;split
   .rfl
   .exact hf x
end
structure aS where
 F:Nat->Prop
 Q:af->Prop
 st:∀{h h':af},(∀b,F b->h'[b]? =h[b]?)->Q h->Q h'
def gX:aS:=⟨λ_=>False,λ_=>True,λ_ _=>trivial⟩
structure Own(h0 h:af)(L:List aS):Prop where
 ext:Ext h0 h
 q:∀{i:Nat}{r:aS},L[i]? =some r->r.Q h/\∀b,r.F b->h0.size<=b/\b<h.size
 ap:∀{i j:Nat}{r s:aS},L[i]? =some r->L[j]? =some s->i≠j->∀b,r.F b->¬s.F b
section
variable{h0 h h':af}{L L':List aS}{r r':aS}{i j:Nat}
def Own.start(h:af):Own h h []:=⟨.refl _ _,λh=>by simp at h,λh=>by simp at h⟩
def Own.get(o:Own h0 h L)(i:Nat)(hi:L[i]? =some r):r.Q h:=(o.q hi).1
def Own.more(o:Own h0 h L)(x:Ext h h'):Own h0 h' L:=⟨o.ext.trans x λ_ hf _=>hf,λhi=>⟨aS.st _ (λb hb=>x.same b ((o.q hi).2 b hb).2 id) (o.q hi).1,λb hb=>⟨((o.q hi).2 b hb).1,pJ ((o.q hi).2 b hb).2 x.size⟩⟩,o.ap⟩
def Own.frame(o:Own h0 h L)(o':Own h h' L'):Own h0 h' (L'++L):=by
 have o1:=o.more o'.ext;refine⟨o1.ext,λ{i r} hi=> ?_,λ{i j r s} hi hj hne b hb hs=> ?_⟩
 .by_cases hlt:i<L'.length
  .rw[aqM hlt]at hi;exact⟨(o'.q hi).1,λb hb=>⟨kR o.ext.size ((o'.q hi).2 b hb).1,((o'.q hi).2 b hb).2⟩⟩
  .rw[eR aa]at hi;exact o1.q hi
 .by_cases h1:i<L'.length<;>by_cases h2:j<L'.length
  .rw[aqM h1]at hi;rw[aqM h2]at hj;exact o'.ap hi hj hne b hb hs
  .rw[aqM h1]at hi;rw[eR aa]at hj;have a:=((o'.q hi).2 b hb).1;have c:=((o.q hj).2 b hs).2;omega
  .rw[eR aa]at hi;rw[aqM h2]at hj;have a:=((o'.q hj).2 b hs).1;have c:=((o.q hi).2 b hb).2;omega
  .rw[eR aa]at hi;rw[eR aa]at hj;exact o.ap hi hj aa b hb hs
def Own.set(o:Own h0 h L)(i:Nat)(hi:L[i]? =some r)(u:bN r.F h h')(q:r'.Q h')(g:∀b,r'.F b->(r.F b\/h.size<=b)/\b<h'.size):Own h0 h' (L.set i r'):=by
 have hlt:i<L.length:=(fu.1 hi).1;have key:∀{j s},(L.set i r')[j]? =some s->(j=i/\s=r')\/(j≠i/\L[j]? =some s):=by
  intro j s hs;by_cases e:j=i
  .subst e;rw[jo hlt]at hs;exact .inl ⟨rfl,(eV hs).symm⟩
  .rw[gD (λe'=>e e'.symm)]at hs;exact .inr ⟨e,hs⟩
 refine⟨o.ext.trans u λb hb hlt=> ?_,λ{j s} hs=> ?_,λ{j k s t} hs ht hne b hb hb'=> ?_⟩
 .have :=((o.q hi).2 b hb).1;omega
 .rcases key hs with ⟨rfl,rfl⟩|⟨hne,hs⟩
  .refine⟨q,λb hb=>⟨?_,(g b hb).2⟩⟩;rcases(g b hb).1 with h1|h1
   .exact((o.q hi).2 b h1).1
   .exact kR o.ext.size h1
  .refine⟨aS.st _ (λb hb=>u.same b ((o.q hs).2 b hb).2 (o.ap hs hi hne b hb)) (o.q hs).1,λb hb=>⟨((o.q hs).2 b hb).1,pJ ((o.q hs).2 b hb).2 u.size⟩⟩
 .rcases key hs with ⟨rfl,rfl⟩|⟨n1,hs1⟩<;>rcases key ht with ⟨rfl,rfl⟩|⟨n2,ht1⟩
  .exact hne rfl
  .rcases(g b hb).1 with h1|h1
   .exact o.ap hi ht1 hne b h1 hb'
   .have :=((o.q ht1).2 b hb').2;omega
  .rcases(g b hb').1 with h1|h1
   .exact o.ap hs1 hi hne b hb h1
   .have :=((o.q hs1).2 b hb).2;omega
  .exact o.ap hs1 ht1 hne b hb hb'
def Own.cons(o:Own h0 h L)(x:Ext h h')(q:r.Q h')(g:∀b,r.F b->h.size<=b/\b<h'.size):Own h0 h' (r::L):=
 o.frame (L':=[r]) ⟨x,λ{i s} hi=>by
  cases i with
  |zero=>simp at hi;subst hi;exact⟨q,g⟩
  |succ i=>simp at hi,λ{i j s t} hi hj hne=>by
  cases i<;>cases j<;>simp at hi hj;exact absurd rfl hne⟩
def Own.bh(o:Own h0 h L)(is:List Nat)(hn:is.Nodup):Own h0 h (is.map λi=>L.getD i gX):=by
 have key:∀{j:Nat}{s:aS},(is.map λi=>L.getD i gX)[j]? =some s->s=gX\/∃i,is[j]? =some i/\L[i]? =some s:=by
  intro j s hs;rw[pK,Bq]at hs;obtain⟨i,hi,rfl⟩:=hs;rw[cI];cases hL:L[i]? with
  |none=>exact .inl rfl
  |some s=>exact .inr ⟨i,hi,hL⟩
 refine⟨o.ext,λ{j s} hs=> ?_,λ{j k s t} hs ht hne b hb hb'=> ?_⟩
 .rcases key hs with rfl|⟨i,_,hi⟩
  .exact⟨trivial,λb hb=>hb.elim⟩
  .exact o.q hi
 .rcases key hs with rfl|⟨a,ha,hs⟩
  .exact hb.elim
  .rcases key ht with rfl|⟨c,hc,ht⟩
   .exact hb'.elim
   .refine o.ap hs ht (λe=>hne ?_) b hb hb';subst e;have h1:=(fu.1 ha);have h2:=(fu.1 hc);exact(List.getElem_inj hn).1 (h1.2.trans h2.2.symm)
def Own.tail(o:Own h0 h (r::L)):Own h0 h L:=⟨o.ext,λ{i _} hi=>o.q (i:=i+1) hi,λ{i j _ _} hi hj hne=>o.ap (i:=i+1) (j:=j+1) hi hj aa⟩
def Own.left(o:Own h0 h (L++L')):Own h0 h L:=by
 have key:∀{j:Nat}{s:aS},L[j]? =some s->(L++L')[j]? =some s:=λ{j s} hj=>by rw[aqM (fu.1 hj).1];exact hj
 exact⟨o.ext,λhi=>o.q (key hi),λhi hj hne=>o.ap (key hi) (key hj) hne⟩
def Own.erase(o:Own h0 h L)(k:Nat):Own h0 h (L.eraseIdx k):=by
 have key:∀{j:Nat}{s:aS},(L.eraseIdx k)[j]? =some s->L[if j<k then j else j+1]? =some s:=λ{j s} hj=>by
  rw[List.getElem?_eraseIdx]at hj;split at hj<;>rename_i h1
  .rw[aW h1];exact hj
  .rw[aQ h1];exact hj
 refine⟨o.ext,λhi=>o.q (key hi),λhi hj hne=>o.ap (key hi) (key hj) λe=>hne ?_⟩;split at e<;>split at e<;>omega
def Own.swap{s:aS}(o:Own h0 h (r::s::L)):Own h0 h (s::r::L):=by
 let g:Nat->Nat:=fun |0=>1|1=>0|n=>n
 have key:∀{j:Nat}{t:aS},(s::r::L)[j]? =some t->(r::s::L)[g j]? =some t:=λ{j t} hj=>by
  match j,hj with
  |0,hj=>exact hj
  |1,hj=>exact hj
  |n+2,hj=>exact hj
 refine⟨o.ext,λhi=>o.q (key hi),λ{i j _ _} hi hj hne=>o.ap (key hi) (key hj) λe=>hne ?_⟩
 match i,j,e with
 |0,0,_=>rfl
 |1,1,_=>rfl
 |0,n+2,e=>exact absurd e (by simp[g])
 |n+2,0,e=>exact absurd e (by simp[g])
 |1,n+2,e=>exact absurd e (by simp[g])
 |n+2,1,e=>exact absurd e (by simp[g])
 |n+2,m+2,e=>exact e
 |0,1,e=>exact absurd e (by simp[g])
 |1,0,e=>exact absurd e (by simp[g])
end
def ak(b:Nat)(cs:List Value)(T:TypeId):aS:=⟨λc=>c=b,λh=>h[b]? =some (.cells cs.toArray T (0,0)),λhs hq=>(hs b rfl).trans hq⟩
def Lz(b:Nat)(o:Obj):aS:=⟨λc=>c=b,λh=>h[b]? =some o,λhs hq=>(hs b rfl).trans hq⟩
section
variable{P:Program}{h0 h h':af}{L:List aS}{i b off n:Nat}{cs:List Value}{T:TypeId}{v:Value}{K:Value->Prop}{KH:KT}{KP:af->Prop}
def Own.new{x:Obj}{r:aS}(o:Own h0 h L)(q:r.Q (h.push x))(g:∀b,r.F b->b=h.size):Own h0 (h.push x) (r::L):=o.cons (bN.push _ _ _) q λb hb=>by rw[g b hb,td];omega
def Own.box(o:Own h0 h L)(hk:∀b h',Own h0 h' (ak b v.cells.toList T::L)->KH (.pointer (some ⟨b,0,none⟩)) h'):aB T v h KH:=by refine hk h.size _ (o.new ?_ λb hb=>hb);show(h.push _)[h.size]? =_;rw[gP]
def Own.load(o:Own h0 h L)(i:Nat)(hi:L[i]? =some (ak b cs T))(hv:cs[off]? =some v)(hk:K v):ag h (.pointer (some ⟨b,off,none⟩)) K:=by have :hcell h ⟨b,off,none⟩=some v:=bz (o.get i hi) (by simpa using hv);simp only[dh,this];exact hk
def Own.ace(o:Own h0 h L)(i:Nat)(hi:L[i]? =some (ak b cs T))(hn:off+n<=cs.length)(hk:K (.agg ((cs.drop off).take n).toArray)):bq n h (.pointer (some ⟨b,off,none⟩)) K:=by have :iL h b off n=some ((cs.drop off).take n):=tf (i:=0) (o.get i hi) n off hn;simp only[Ca,this];exact hk
def Own.store(o:Own h0 h L)(i:Nat)(hi:L[i]? =some (ak b cs T))(hn:v.cells.size=n)(hle:off+v.cells.size<=cs.length)(hp:∀u∈v.cells.toList,plainCell u=true)
  (hk:∀h',Own h0 h' (L.set i (ak b (over cs off v.cells.toList) T))->KH undef h'):aD n (.pointer (some ⟨b,off,none⟩)) v h KH:=by
 have hb:h[b]? =some (.cells cs.toArray T (0,0)):=o.get i hi;have hlt:=((o.q hi).2 b rfl).2;refine pY rfl hb hn hle hp (hk _ (o.set i hi (bN.bG _ _ rfl) ?_ λc hc=>⟨.inl hc,?_⟩))
 .exact aqK hlt
 .rw[iM];exact(show c=b from hc)▸hlt
def Own.put(o:Own h0 h L)(i:Nat)(hi:L[i]? =some (ak b cs T))(hv:v.cells= #[v])(hle:off<cs.length)(hp:plainCell v=true)
  (hk:∀h',Own h0 h' (L.set i (ak b (over cs off [v]) T))->KH undef h'):aD 1 (.pointer (some ⟨b,off,none⟩)) v h KH:=
 o.store i hi (by rw[hv];rfl) (by rw[hv];exact hle) (by rw[hv];simpa using hp) (by rw[hv];exact hk)
def cw(D:Nat):aS:=Lz D (.deferred (some []))
def kF(m:List Nat):aS:=⟨λc=>c∈m,λh=>m.Nodup/\∀D∈m,h[D]? =some (.deferred (some [])),λhs hq=>⟨hq.1,λD hD=>(hs D hD).trans (hq.2 D hD)⟩⟩
def Own.Cf(o:Own h0 h L):Own h0 h (kF []::L):=o.cons (.refl _ _) ⟨.nil,λ_ h=>by cases h⟩ λ_ h=>by cases h
def Own.xm{D:Nat}{m:List Nat}(o:Own h0 h (cw D::L))(j:Nat)(hj:L[j]? =some (kF m)):Own h0 h (L.set j (kF (D::m))):=by
 have hm:D∉m:=o.ap (i:=0) (j:=j+1) rfl hj aa D rfl;have q0:=o.get 0 rfl;have q1:=o.tail.get j hj;have hlt:j<L.length:=(fu.1 hj).1;have key:∀{k s},(L.set j (kF (D::m)))[k]? =some s->(k=j/\s=kF (D::m))\/(k≠j/\L[k]? =some s):=by
  intro k s hs;by_cases e:k=j
  .subst e;rw[jo hlt]at hs;exact .inl ⟨rfl,(eV hs).symm⟩
  .rw[gD (λe'=>e e'.symm)]at hs;exact .inr ⟨e,hs⟩
 refine⟨o.ext,λ{k s} hs=> ?_,λ{k l s t} hs ht hne b hb hb'=> ?_⟩
 .rcases key hs with ⟨rfl,rfl⟩|⟨_,hs⟩
  .refine⟨⟨gC.2 ⟨hm,q1.1⟩,λE hE=> ?_⟩,λb hb=> ?_⟩
   .rcases cV.1 hE with rfl|hE
    .exact q0
    .exact q1.2 E hE
   .rcases cV.1 (show b∈D::m from hb)with rfl|hb
    .exact(o.q (i:=0) rfl).2 _ rfl
    .exact(o.tail.q hj).2 b hb
  .exact o.tail.q hs
 .rcases key hs with ⟨rfl,rfl⟩|⟨n1,hs1⟩<;>rcases key ht with ⟨rfl,rfl⟩|⟨n2,ht1⟩
  .exact hne rfl
  .rcases cV.1 (show b∈D::m from hb)with rfl|hb
   .exact o.ap (i:=0) (j:=l+1) rfl ht1 aa _ rfl hb'
   .exact o.tail.ap hj ht1 hne b hb hb'
  .rcases cV.1 (show b∈D::m from hb')with rfl|hb'
   .exact o.ap (i:=0) (j:=k+1) rfl hs1 aa _ rfl hb
   .exact o.tail.ap hs1 hj hne b hb hb'
  .exact o.tail.ap hs1 ht1 hne b hb hb'
def Own.take{m:List Nat}(o:Own h0 h L)(j:Nat)(hj:L[j]? =some (kF m))(hk:∀h',Own h0 h' (L.set j gX)->KP h'):de m h KP:=by obtain⟨hn,hq⟩:=o.get j hj;refine Cc m h hq hn λh' u=>hk h' (o.set j hj u trivial λb hb=>hb.elim)
def Own.jV{D:Nat}(o:Own h0 h L)(j:Nat)(hj:L[j]? =some (cw D))(hk:∀h',Own h0 h' (L.set j gX)->KP h'):de [D] h KP:=by have hq:=o.get j hj;refine Cc [D] h (λE hE=>by simp at hE;subst hE;exact hq) aP λh' u=>hk h' (o.set j hj (u.mono λb hb _=>eP.1 hb) trivial λb hb=>hb.elim)
def Own.acf{D:Nat}{m:List Nat}(o:Own h0 h (cw D::L))(j:Nat)(hj:L[j]? =some (kF m))(hk:∀h',Own h0 h' (L.set j gX)->KP h'):de (D::m) h KP:=by have o1:=o.xm j hj;have hlt:j<L.length:=(fu.1 hj).1;refine o1.take j (jo hlt) λh' o'=>hk h' ?_;rwa[jO]at o'
def cD(l:Nat)(x:Obj):aS:=Lz l x
def Own.begin{l:Nat}{M:Loop}{p:Option Code}(o:Own h0 h L)(i:Nat)(hi:L[i]? =some (cD l (lo M .ready p)))(hk:∀h',Own h0 h' (L.set i (cD l (lo M .busy p)))->KP h'):iZ l M h KP:=by have hb:h[l]? =some (lo M .ready p):=o.get i hi;have hlt:=((o.q hi).2 l rfl).2;refine Ls hb (hk _ (o.set i hi (bN.bG _ _ rfl) (aqK hlt) λc hc=>⟨.inl hc,?_⟩));rw[iM];exact(show c=l from hc)▸hlt
def gh:(l:List Nat)->List Value->bt l
 | [],_=>()
 |_::r,[]=>(undef,gh r [])
 |_::r,v::vs=>(v,gh r vs)
def Cg:∀{l:List Nat}{vs:List Value},vs.length=l.length->nQ l (gh l vs)=vs
 | [],[],_=>rfl
 |_::_,_::_,h=>by simp only[gh,nQ];rw[Cg (by simpa using h)]
def iG(P:Program)(fv:Value)(Q:af->Prop){σ:Type}(s0:σ)(next :σ->List Value->σ->Prop)(stop:σ->Prop):Prop:=
 ∀ (yv:Value) (h0 h:af) (Rs:List aS) (K:KT) (J:σ->List aS->Prop) (E:List aS->Prop),(∃l,yv=dS l)->
  Own h0 h Rs->J s0 Rs->(∀s a h',J s a->Own h0 h' a->Q h')->
  (∀s x s' a Pr h' R,next s x s'->J s a->Own h0 h' (a++Pr)->(∀c h'',J s' c->Own h0 h'' (c++Pr)->R (.bool true) h'')->
   (∀c h'',E c->Own h0 h'' (c++Pr)->R (.bool false) h'')->aX P yv x.toArray h' R)->
  (∀a h',((∃s,stop s/\J s a)\/E a)->Own h0 h' a->K (.tuple #[]) h')->uK P fv #[yv] h K
abbrev Iter(P:Program)(fv:Value)(Q:af->Prop)(n:Nat)(f:(i:Nat)->i<n->List Value):Prop:=iG P fv Q (σ:=Nat) 0 (λi x i'=>(∃hi:i<n,x=f i hi)/\i'=i+1) (λi=>i=n)
abbrev Gd(P:Program)(fv:Value)(Q:af->Prop)(S:List Value->Prop):Prop:=iG P fv Q (σ:=Unit) () (λ_ x _=>S x) (λ_=>True)
def Own.oJ{r:aS}:∀{L:List aS},Own h0 h (r::L)->Own h0 h (L++ [r]):=by
 intro L o;have key:∀{j:Nat}{s:aS},(L++ [r])[j]? =some s->(r::L)[if j<L.length then j+1 else 0]? =some s/\j<=L.length:=λ{j s} hj=>by
  by_cases h1:j<L.length
  .rw[aqM h1]at hj;rw[aW h1];exact⟨hj,aa⟩
  .rw[eR aa]at hj;rw[aQ h1];obtain⟨h2,h3⟩:=fu.1 hj;simp at h2 h3;exact⟨by simp[h3],aa⟩
 refine⟨o.ext,λhi=>o.q (key hi).1,λhi hj hne=>o.ap (key hi).1 (key hj).1 λe=>hne ?_⟩;have a:=(key hi).2;have b:=(key hj).2;split at e<;>split at e<;>omega
def Own.range{fv:Value}{Q:af->Prop}{σ:Type}{s0:σ}{next :σ->List Value->σ->Prop}{stop:σ->Prop}{ps:List Nat}{B:Loop->bt ps->af->(Exit->af->Prop)->Prop}{m q:af->Prop}{t:List (Nat×(af->Prop))}
  (o:Own h0 h L) (hI:iG P fv Q s0 next stop) (hf:∀s x s',next s x s'->x.length=ps.length) (J:σ->List aS->Prop) (k:List aS->Prop) (l:Nat->List aS->Prop)
  (u:J s0 L) (hQ:∀s d h',J s d->Own h0 h' d->Q h')
  (step:∀M s x s' d Pr h'(R:Exit->af->Prop),next s x s'->J s d->Own h0 h' (cD (h.size+1) (lo M .ready none)::cw h.size::(d++Pr))->
   (∀a h'',J s' a->Own h0 h'' (cD (h.size+1) (lo M .busy none)::cw h.size::(a++Pr))->R .normal h'')->
   (∀a h'',k a->Own h0 h'' (cD (h.size+1) (lo M .busy none)::cw h.size::(a++Pr))->R .ret h'')->
   (∀id a h'',l id a->Own h0 h'' (cD (h.size+1) (lo M .busy none)::cw h.size::(a++Pr))->R (.exit id) h'')->B M (gh ps x) h' R)
  (fin:∀s h' d,stop s->J s d->Own h0 h' (cw h.size::d)->m h') (w:∀h' d,k d->Own h0 h' (cw h.size::d)->q h')
  (y:∀id h' d,l id d->Own h0 h' (cw h.size::d)->ta t id h'):
  gO P fv ps (h.size+1) (h.push (.deferred (some []))) B m q t:=by
 intro M hy;have e1:(h.push (.deferred (some []))).size=h.size+1:=td;have o1:Own h0 (h.push (.deferred (some []))) (cw h.size::L):=o.new (r:=cw h.size) gP λb hb=>hb;have o2:Own h0 ((h.push (.deferred (some []))).push (lo M .ready none)) (cD (h.size+1) (lo M .ready none)::cw h.size::L):=o1.new (r:=cD (h.size+1) (lo M .ready none)) (by show(Array.push _ _)[h.size+1]? =_;rw[<-e1,gP]) λb hb=>hb.trans e1.symm
 refine hI (dS (h.size+1)) h0 _ _ _ (λs Rs=>∃f,Rs=cD (h.size+1) (lo M .ready none)::cw h.size::f/\J s f)
  (λRs=>∃p f,Rs=cD (h.size+1) (lo M .done (some p))::cw h.size::f/\((p=.ret/\k f)\/∃id,p=.exit id/\l id f)) ⟨_,rfl⟩ o2 ⟨L,rfl,u⟩
  (λs d h'⟨f,e,hj⟩ o'=>hQ s f h' hj (by subst e;exact o'.tail.tail)) ?_ ?_
 .rintro s x s' _ Pr h' R hn ⟨f,rfl,hj⟩ o' hT hF;have hb:h'[h.size+1]? =some (lo M .ready none):=o'.get 0 rfl;have :=hy (gh ps x) h' R .ready none hb;rw[Cg (hf _ _ _ hn)]at this;refine this (step M s x s' f Pr h' _ hn hj o' ?_ ?_ ?_)
  .intro a h'' hj' g;have hb':h''[h.size+1]? =some (lo M .busy none):=g.get 0 rfl;have hlt:=eY hb';refine⟨none,hb',hT (cD (h.size+1) (lo M .ready none)::cw h.size::a) _ ⟨a,rfl,hj'⟩ ?_⟩;refine g.set 0 (r':=cD (h.size+1) (lo M .ready none)) rfl (bN.bG (S:=(cD (h.size+1) (lo M .busy none)).F) h'' _ rfl) (aqK hlt) λc hc=>⟨.inl hc,?_⟩;rw[qH,iM];exact(show c=h.size+1 from hc)▸hlt
  .intro a h'' hj' g;have hb':h''[h.size+1]? =some (lo M .busy none):=g.get 0 rfl;have hlt:=eY hb';refine⟨none,hb',hF (cD (h.size+1) (lo M .done (some .ret))::cw h.size::a) _ ⟨.ret,a,rfl,.inl ⟨rfl,hj'⟩⟩ ?_⟩;refine g.set 0 (r':=cD (h.size+1) (lo M .done (some .ret))) rfl (bN.bG (S:=(cD (h.size+1) (lo M .busy none)).F) h'' _ rfl) (aqK hlt) λc hc=>⟨.inl hc,?_⟩;rw[qH,iM];exact(show c=h.size+1 from hc)▸hlt
  .intro id a h'' hj' g;have hb':h''[h.size+1]? =some (lo M .busy none):=g.get 0 rfl;have hlt:=eY hb';refine⟨none,hb',hF (cD (h.size+1) (lo M .done (some (.exit id)))::cw h.size::a) _ ⟨.exit id,a,rfl,.inr ⟨id,rfl,hj'⟩⟩ ?_⟩;refine g.set 0 (r':=cD (h.size+1) (lo M .done (some (.exit id)))) rfl (bN.bG (S:=(cD (h.size+1) (lo M .busy none)).F) h'' _ rfl) (aqK hlt) λc hc=>⟨.inl hc,?_⟩;rw[qH,iM];exact(show c=h.size+1 from hc)▸hlt
 .have close:∀{f:List aS}{h':af}{st:LoopState}{p:Option Code},Own h0 h' (cD (h.size+1) (lo M st p)::cw h.size::f)->Own h0 (bG h' (h.size+1) (lo M .exhausted p)) (cw h.size::f):=by
   intro f h' st p o';have hb':h'[h.size+1]? =some (lo M st p):=o'.get 0 rfl;have hlt:=eY hb';exact(o'.set 0 (r':=gX) rfl (bN.bG (S:=(cD (h.size+1) (lo M st p)).F) h' (lo M .exhausted p) rfl) trivial λc hc=>hc.elim).tail
  rintro d h' (⟨s,hs,f,rfl,hj⟩|⟨p,f,rfl,hp⟩) o'
  .exact⟨.ready,none,az,o'.get 0 rfl,fin _ _ _ hs hj (close o')⟩
  .refine⟨.done,some p,az,o'.get 0 rfl,?_⟩;rcases hp with ⟨rfl,he⟩|⟨id,rfl,he⟩
   .exact w _ _ he (close o')
   .exact y _ _ _ he (close o')
end
abbrev ptr(b:Nat):Value:=.pointer (some ⟨b,0,none⟩)
def aJ(x:Int):List Value:=[I x]
def pZ(x:Int):(aJ x).length=1:=rfl
def jb(x:Int):∀u∈aJ x,plainCell u=true:=by intro u hu;simp[aJ]at hu;subst hu;rfl
section
variable{α:Type}{enc:α->List Value}{n:Nat}{h0 h h':af}{v w:Value}{ys xs:List α}{K:Value->Prop}{KH:KT}{k:IntKind}{i:Nat}
def Vw(enc:α->List Value)(n:Nat)(h:af)(v:Value)(ys:List α):Prop:=∃bl,kE enc n h v bl ys
def Vw.more(H:Vw enc n h v ys)(x:Ext h h'):Vw enc n h' v ys:=by obtain⟨bl,H⟩:=H;exact⟨bl,H.bG x id⟩
def Vw.nil:Vw enc n h (.slice none 0 0) []:=⟨0,none,0,rfl,cq _,.inl ⟨rfl,.inl rfl⟩⟩
def Vw.len(H:Vw enc n h v ys)(hk:K (I ys.length)):bB v K:=by obtain⟨bl,H⟩:=H;exact H.aqS hk
def Vw.kG(H:Vw enc n h v ys):∃b c,v=.slice b ys.length c:=by obtain⟨bl,b,c,e,_⟩:=H;exact⟨b,c,e⟩
def LA{b:Nat}:∀(l:List Value)(o:Nat),(∀j,j<l.length->hcell h ⟨b,o+j,none⟩=l[j]?)->iL h b o l.length=some l
 | [],o,_=>rfl
 | v::l,o,H=>by
  have h0:hcell h ⟨b,o,none⟩=some v:=by simpa using H 0 aP
  simp only[fO,iL,h0];rw[LA l (o+1) λj hj=>by have :=H (j+1) (by simp;omega);rw[show o+1+j=o+(j+1) by omega];simpa using this]
def Vw.idx(he:∀a,(enc a).length=n)(H:Vw enc n h v ys)(hi:i<ys.length)
  (hK:∀b o,(∀j,j<n->hcell h ⟨b,o+j,none⟩=(enc ys[i])[j]?)->K (.pointer (some ⟨b,o,none⟩))):aY n v (.int k i) K:=by
 obtain⟨bl,H⟩:=H;exact H.idx he hi λo ho=>hK bl o ho
def Vw.dU{e:α->Value}(H:Vw enc 1 h v ys)(he:∀a,enc a=[e a])(hi:i<ys.length)(hk:K (e ys[i])):aY 1 v (.int k i) (λt=>ag h t K):=by refine H.idx (λa=>by rw[he];rfl) hi λb o hc=> ?_;have :=hc 0 aa;rw[he]at this;simp only[sM,nG]at this;simp only[dh,this];exact hk
def Vw.Im{ys:List Int}(H:Vw aJ 1 h v ys)(hi:i<ys.length)(hk:K (I ys[i])):aY 1 v (.int k i) (λt=>ag h t K):=H.dU (e:=λx=>I x) (λ_=>rfl) hi hk
def Vw.jW(he:∀a,(enc a).length=n)(H:Vw enc n h v ys)(hi:i<ys.length)(hk:K (.agg (enc ys[i]).toArray)):aY n v (.int k i) (λt=>bq n h t K):=by refine H.idx he hi λb o hc=> ?_;have :=LA (enc ys[i]) o (λj hj=>hc j (by rw[he]at hj;exact hj));rw[he]at this;simp only[Ca,this];exact hk
def Vw.tg{j:Nat}{u:Value}(he:∀a,(enc a).length=n)(H:Vw enc n h v ys)(hi:i<ys.length)(hj:j<n)(hu:(enc ys[i])[j]? =some u)(hk:K u):
  aY n v (.int k i) (λt=>au j t λt'=>ag h t' K):=by
 refine H.idx he hi λb o hc=> ?_;have :=hc j hj;rw[hu]at this;simp only[aU,dh,this];exact hk
def Vw.sub{lo hi:Option Value}{a j:Nat}(he:∀a,(enc a).length=n)(H:Vw enc n h v ys)(hlo:aqO 0 lo=some (a:Int))(hhi:aqO ys.length hi=some (j:Int))(hij:a<=j)(hj:j<=ys.length)
  (hK:∀v',Vw enc n h v' ((ys.drop a).take (j-a))->K v'):eW n v lo hi none K:=by
 obtain⟨bl,H⟩:=H;exact H.sub he hlo hhi hij hj λv' H'=>hK v' ⟨bl,H'⟩
def Vw.cells(he:∀a,(enc a).length=n)(H:Vw enc n h v ys):∃base cap,v=.slice base ys.length cap/\gN h n ys.length base=some (row enc ys):=by obtain⟨bl,H⟩:=H;exact H.cells he
end
def rV:Value->Nat->Prop
 | .slice (some a) _ _,c=>c=a.block
 |_,_=>False
section
variable{α:Type}{enc:α->List Value}{n:Nat}{T:TypeId}{h0 h h':af}{v w:Value}{ys xs:List α}{K:Value->Prop}{KH:KT}{k:IntKind}{i:Nat}{L:List aS}
def aC(enc:α->List Value)(n:Nat)(T:TypeId)(v:Value)(xs:List α):aS:=⟨rV v,λh=>∃bl,eC enc n T h v bl xs,λ{h h'} hs hq=>by
 obtain⟨bl,H⟩:=hq;refine⟨bl,?_⟩;rcases H with H|⟨cap,rest,rfl,hb,a,c⟩
 .exact .inl H
 .exact .inr ⟨cap,rest,rfl,(hs bl rfl).trans hb,a,c⟩⟩
def Own.vw(o:Own h0 h L)(i:Nat)(hi:L[i]? =some (aC enc n T v xs)):Vw enc n h v xs:=by obtain⟨bl,H⟩:=o.get i hi;exact⟨bl,H.view⟩
def xo{bl:Nat}(H:eC enc n T h v bl xs):(aC enc n T v xs).Q h:=⟨bl,H⟩
def Own.ef(o:Own h0 h L):Own h0 h (aC enc n T (.slice none 0 0) ([]:List α)::L):=o.cons (.refl _ _) ⟨0,.inl ⟨rfl,rfl⟩⟩ λb hb=>hb.elim
def eC.blk{bl:Nat}(H:eC enc n T h v bl xs){b:Nat}(hb:rV v b):b=bl:=by
 rcases H with ⟨rfl,_⟩|⟨cap,rest,rfl,_⟩
 .exact hb.elim
 .exact hb
def eC.Ge{bl:Nat}(H:eC enc n T h v bl xs){b:Nat}(hb:rV v b):b<h.size:=by
 have e:=H.blk hb;rcases H with ⟨rfl,_⟩|⟨cap,rest,rfl,hx,_⟩
 .exact hb.elim
 .subst e;exact eY hx
def Own.fresh{c:Nat}{rest:List Value}(o:Own h0 h L)(hr:rest.length=(c-xs.length)*n)(hc:xs.length<=c):
  Own h0 (h.push (.cells (row enc xs++rest).toArray T (0,0))) (aC enc n T (.slice (some ⟨h.size,0,none⟩) xs.length c) xs::L):=
 o.new (xo (bl:=h.size) (.inr ⟨c,rest,rfl,gP,hr,hc⟩)) λb hb=>hb
def Own.make{bytes:Nat}{zero:List Value}{k':IntKind}{m:Nat}{a:α}(o:Own h0 h L)(hz:zero=enc a)(hb:(bytes:Int)*m<=2^48)(hm:m<2^63)
  (hK:∀w h',Own h0 h' (aC enc n T w (List.replicate m a)::L)->KH w h'):dG T bytes zero (.int k m) (.int k' m) h KH:=by
 subst hz;refine ab7 hb hm λw h' H x hs=>hK w h' (o.cons x (xo H) λb hb=> ?_);have :=H.blk hb;subst this;omega
def Own.build{zs:List Value}{parts:List (Nat×Nat×Value)}{len:Nat}(o:Own h0 h L)(xs:List α)(hrow:gq zs parts=row enc xs)(hsz:mH zs.length parts)(hl:len=xs.length)
  (hK:∀w h',Own h0 h' (aC enc n T w xs::L)->KH w h'):uX T zs parts len h KH:=by
 subst hl;refine⟨hsz,hK _ _ ?_⟩;have :=o.fresh (enc:=enc) (n:=n) (T:=T) (xs:=xs) (c:=xs.length) (rest:=[]) aP (cq _);rw[hrow];simpa using this
def Own.LB{bytes:Nat}{zero:List Value}(o:Own h0 h L)(i:Nat)(hi:L[i]? =some (aC enc n T v xs))(he:∀a,(enc a).length=n)(hp:∀a,∀u∈enc a,plainCell u=true)(hz:zero.length=n)
  (hby:0<bytes) (hb:(xs.length+ys.length)*bytes<=2^47) (hK:∀v' h',Own h0 h' (L.set i (aC enc n T v' (xs++ys)))->KH v' h'):qz T n bytes zero v ys.length (row enc ys) h KH:=by
 obtain⟨bl,H⟩:=o.get i hi;have hF:(∃cs,h[bl]? =some (.cells cs T (0,0)))->v=.slice none 0 0\/rV v bl:=λ_=>by
  rcases H with ⟨rfl,_⟩|⟨cap,rest,rfl,_⟩
  .exact .inl rfl
  .exact .inr rfl
 rcases H with ⟨rfl,rfl⟩|⟨cap,rest,rfl,H⟩
 ·
  have H0:eC enc n T h (.slice none 0 0) h.size ([]:List α):=.inl ⟨rfl,rfl⟩;refine F9 he hp hz H0 hby hb λv' d h' H' c u hlt=>hK v' h' (o.set i hi (u.mono λb⟨e,cs,hcs⟩ hlt=> ?_) (xo H') λb hb=> ?_)
  .subst e;exact absurd hlt (Br _)
  .have :=H'.blk hb;exact⟨.inr (by rcases c with e|e<;>omega),H'.Ge hb⟩
 .refine F9 he hp hz (.inr ⟨cap,rest,rfl,H⟩) hby hb λv' d h' H' c u hlt=>hK v' h' (o.set i hi (u.mono λb⟨e,cs,hcs⟩ _=>e) (xo H') λb hb=> ?_);have hb':=H'.blk hb;refine⟨?_,H'.Ge hb⟩;rcases c with e|e
  .exact .inl (hb'.trans e)
  .exact .inr aa
def Own.app{bytes:Nat}{zero:List Value}{x:Value}(o:Own h0 h L)(i:Nat)(hi:L[i]? =some (aC enc n T v xs))(he:∀a,(enc a).length=n)(hp:∀a,∀u∈enc a,plainCell u=true)(hz:zero.length=n)
  (hx:Vw enc n h x ys) (hby:0<bytes) (hb:(xs.length+ys.length)*bytes<=2^47) (hK:∀v' h',Own h0 h' (L.set i (aC enc n T v' (xs++ys)))->KH v' h'):uY T n bytes zero v x h KH:=by
 obtain⟨e,xc,rfl,d⟩:=hx.cells he;obtain⟨b,c,rfl⟩:=(o.vw i hi).kG;have key:=o.LB i hi he hp hz hby hb hK;simp only[uY,d];exact key
def Own.fH{bytes:Nat}{zero zs:List Value}{parts:List (Nat×Nat×Value)}(o:Own h0 h L)(i:Nat)(a:α)(hi:L[i]? =some (aC enc n T v xs))(hrow:gq zs parts=enc a)(hsz:mH zs.length parts)
  (he:∀a,(enc a).length=n) (hp:∀a,∀u∈enc a,plainCell u=true) (hz:zero.length=n) (hby:0<bytes) (hb:(xs.length+1)*bytes<=2^47)
  (hK:∀v' h',Own h0 h' (L.set i (aC enc n T v' (xs++ [a])))->KH v' h'):uX T zs parts 1 h λt h1=>uY T n bytes zero v t h1 KH:=by
 refine o.build (enc:=enc) (n:=n) [a] (by rw[hrow];simp[row]) hsz rfl λw h1 o1=> ?_;exact o1.app (i+1) hi he hp hz (o1.vw 0 rfl) hby hb λv' h' o'=>hK v' h' o'.tail
def Own.setAt{a:α}{j:Nat}(o:Own h0 h L)(i:Nat)(hi:L[i]? =some (aC enc n T v xs))(he:∀a,(enc a).length=n)(hp:∀u∈enc a,plainCell u=true)(hj:j<xs.length)(hw:w.cells.toList=enc a)
  (hK:∀h',Own h0 h' (L.set i (aC enc n T v (xs.set j a)))->KH undef h'):aY n v (.int k j) λt=>aD n t w h KH:=by
 obtain⟨bl,H⟩:=o.get i hi;refine H.idx hj (eC.set he hp H hj rfl hw rfl λh' H' u hs=>hK h' (o.set i hi (u.mono λb hb _=> ?_) (xo H') λb hb=>⟨.inl hb,H'.Ge hb⟩));subst hb;obtain⟨cap,rest,rfl,_⟩:=H.full aa;rfl
def Own.jD{xs:List Int}{z:Int}{j:Nat}(o:Own h0 h L)(i:Nat)(hi:L[i]? =some (aC aJ 1 T v xs))(hj:j<xs.length)
  (hK:∀h',Own h0 h' (L.set i (aC aJ 1 T v (xs.set j z)))->KH undef h'):aY 1 v (.int k j) λt=>aD 1 t (I z) h KH:=
 o.setAt i hi pZ (jb z) hj rfl hK
def Own.acg{j:Nat}(o:Own h0 h L)(i:Nat)(hi:L[i]? =some (aC enc n T v xs))(hj:j<xs.length)(hK:∀bl,eC enc n T h v bl xs->rV v bl->K (.pointer (some ⟨bl,j*n,none⟩))):aY n v (.int k j) K:=by obtain⟨bl,H⟩:=o.get i hi;refine H.idx hj (hK bl H ?_);obtain⟨cap,rest,rfl,_⟩:=H.full aa;rfl
end
def eD(m:Nat)(f:Int->Option Value):aS:=⟨λb=>b=m,λh=>∃es c,h[m]? =some (.map es c)/\IMap es c f,λhs⟨es,c,a,b⟩=>⟨es,c,(hs m rfl).trans a,b⟩⟩
section
variable{h0 h:af}{L:List aS}{m:Nat}{f:Int->Option Value}{K:Value->Prop}{KH:KT}{k:Int}{z v:Value}{ok:Bool}
def Own.mkMap(o:Own h0 h L)(hK:∀m h',Own h0 h' (eD m (λ_=>none)::L)->KH (.map (some m)) h'):bH h KH:=hK h.size _ (o.new (r:=eD h.size _) ⟨#[],0,gP,.empty⟩ λb hb=>hb)
def Own.look(o:Own h0 h L)(i:Nat)(hi:L[i]? =some (eD m f))(hk:K (if ok then .tuple #[(f k).getD z,.bool (f k).isSome]else(f k).getD z)):dP (.int .i64) z ok h (.map (some m)) (I k) K:=by obtain⟨es,c,hm,him⟩:=o.get i hi;exact xl hm him hk
def Own.mZ{f':Int->Option Value}(o:Own h0 h L)(i:Nat)(hi:L[i]? =some (eD m f))(hf:∀x,f' x=cM f k v x)(hK:∀h',Own h0 h' (L.set i (eD m f'))->KH undef h'):e9 (.int .i64) (.map (some m)) (I k) v h KH:=by obtain⟨es,c,hm,him⟩:=o.get i hi;have hlt:=eY hm;refine Ly hm him λes' c' a=>hK _ (o.set i hi (bN.bG _ _ rfl) ⟨es',c',aqK hlt,a.congr λx=>(hf x).symm▸rfl⟩ λb hb=>⟨.inl hb,?_⟩);rw[iM];exact(show b=m from hb)▸hlt
end
section
variable{h0 h h':af}{L L':List aS}{r r':aS}{i:Nat}
def ng{α:Type}{L:List α}{i:Nat}{r x:α}(hi:L[i]? =some r):(L.set i x)[i]? =some x:=jo (fu.1 hi).1
def Own.conv(o:Own h0 h L)(i:Nat)(hi:L[i]? =some r)(q:r'.Q h)(g:∀b,r'.F b->r.F b):Own h0 h (L.set i r'):=o.set i hi (.refl _ _) q λb hb=>⟨.inl (g b hb),((o.q hi).2 b (g b hb)).2⟩
def zJ(l:List aS):aS:=⟨λb=>∃r∈l,r.F b,λh=>∀r∈l,r.Q h,λhs hq r hr=>r.st (λb hb=>hs b ⟨r,hr,hb⟩) (hq r hr)⟩
def Own.pack:∀{l L:List aS},Own h0 h (l++L)->Own h0 h (zJ l::L):=by
 intro l L o;have key:∀{j:Nat}{s:aS},L[j]? =some s->(l++L)[l.length+j]? =some s:=λ{j s} hj=>by rw[eR aa,wh];exact hj
 have a:∀{s:aS},s∈l->∃j,j<l.length/\(l++L)[j]? =some s:=λ{s} hs=>by obtain⟨j,hj,rfl⟩:=qw.1 hs;exact⟨j,hj,by rw[aqM hj];simp⟩
 refine⟨o.ext,λ{i s} hi=> ?_,λ{i j s t} hi hj hne b hb hb'=> ?_⟩
 .cases i with
  |zero=>
   simp at hi;subst hi;refine⟨λr hr=> ?_,λb⟨r,hr,hb⟩=> ?_⟩
   .obtain⟨j,_,hj⟩:=a hr;exact(o.q hj).1
   .obtain⟨j,_,hj⟩:=a hr;exact(o.q hj).2 b hb
  |succ i=>exact o.q (key (j:=i) (by simpa using hi))
 .cases i with
  |zero=>
   simp at hi;subst hi;obtain⟨r,hr,hb⟩:=hb;obtain⟨k,hk,hkr⟩:=a hr;cases j with
   |zero=>exact hne rfl
   |succ j=>exact o.ap hkr (key (j:=j) (by simpa using hj)) aa b hb hb'
  | succ i=>
   cases j with
   |zero=>simp at hj;subst hj;obtain⟨r,hr,hb'⟩:=hb';obtain⟨k,hk,hkr⟩:=a hr;exact o.ap (key (j:=i) (by simpa using hi)) hkr aa b hb hb'
   |succ j=>exact o.ap (key (j:=i) (by simpa using hi)) (key (j:=j) (by simpa using hj)) aa b hb hb'
def Own.weak(o:Own h0 h (r::L))(q:r.Q h->r'.Q h)(g:∀b,r'.F b->r.F b):Own h0 h (r'::L):=o.conv 0 rfl (q (o.get 0 rfl)) g
def Own.front(o:Own h0 h L)(k:Nat)(is:List Nat)(hn:is.Nodup)(hk:∀i∈is,i<k):Own h0 h ((is.map λi=>L.getD i gX)++L.drop k):=by
 have key:∀{j:Nat}{s:aS},((is.map λi=>L.getD i gX)++L.drop k)[j]? =some s->s=gX\/∃i,L[i]? =some s/\((j<is.length/\is[j]? =some i)\/(is.length<=j/\i=k+(j-is.length))):=by
  intro j s hs;by_cases hj:j<is.length
  .rw[aqM (by simpa using hj),pK,Bq]at hs;obtain⟨i,hi,rfl⟩:=hs;rw[cI];cases hL:L[i]? with
   |none=>exact .inl rfl
   |some s=>exact .inr ⟨i,hL,.inl ⟨hj,hi⟩⟩
  .rw[eR (by simp;omega),gK,yN]at hs;exact .inr ⟨_,hs,.inr ⟨aa,rfl⟩⟩
 refine⟨o.ext,λ{j s} hs=> ?_,λ{j l s t} hs ht hne b hb hb'=> ?_⟩
 .rcases key hs with rfl|⟨i,hi,_⟩
  .exact⟨trivial,λb hb=>hb.elim⟩
  .exact o.q hi
 .rcases key hs with rfl|⟨a,ha,h1⟩
  .exact hb.elim
  .rcases key ht with rfl|⟨c,hc,h2⟩
   .exact hb'.elim
   .refine o.ap ha hc (λe=>hne ?_) b hb hb';subst e;rcases h1 with ⟨h1,d⟩|⟨h1,d⟩<;>rcases h2 with ⟨h2,g⟩|⟨h2,g⟩
    .have e1:=(fu.1 d);have e2:=(fu.1 g);exact(List.getElem_inj hn).1 (e1.2.trans e2.2.symm)
    .have :=hk a (mE d);omega
    .have :=hk a (mE g);omega
    .omega
def Vw.plain{α:Type}{enc:α->List Value}{n:Nat}{v:Value}{xs:List α}(H:Vw enc n h v xs):plainCell v=true:=by obtain⟨b,c,rfl⟩:=H.kG;rfl
def Vw.one{α:Type}{enc:α->List Value}{n:Nat}{v:Value}{xs:List α}(H:Vw enc n h v xs):v.cells= #[v]:=by obtain⟨b,c,rfl⟩:=H.kG;rfl
def Own.st{b off n:Nat}{cs cs' l:List Value}{T:TypeId}{v:Value}{KH:KT}(o:Own h0 h L)(i:Nat)(hi:L[i]? =some (ak b cs T))(hv:v.cells=l.toArray)(hn:l.length=n)(hle:Nat.ble (off+n) cs.length=true)(hcs:over cs off l=cs')
  (hp:∀u∈l,plainCell u=true) (hk:∀h',Own h0 h' (L.set i (ak b cs' T))->KH undef h'):aD n (.pointer (some ⟨b,off,none⟩)) v h KH:=by
 have hs:v.cells.size=n:=by rw[hv];simpa using hn
 refine o.store i hi hs (by rw[hs];exact rE hle) (by rw[hv];simpa using hp) λh' o'=>hk h' ?_;rw[hv]at o';simp only[hcs]at o';exact o'
def Own.bu{b off:Nat}{cs cs':List Value}{T:TypeId}{v:Value}{KH:KT}(o:Own h0 h L)(i:Nat)(hi:L[i]? =some (ak b cs T))(hle:Nat.blt off cs.length=true)(hcs:over cs off [v]=cs')(hv:v.cells= #[v])(hp:plainCell v=true)
  (hk:∀h',Own h0 h' (L.set i (ak b cs' T))->KH undef h'):aD 1 (.pointer (some ⟨b,off,none⟩)) v h KH:=
 o.st i hi (l:=[v]) hv rfl hle hcs (by simpa using hp) hk
def Own.bZ{b off n:Nat}{cs cs':List Value}{T:TypeId}{K:Value->Prop}(o:Own h0 h L)(i:Nat)(hi:L[i]? =some (ak b cs T))(hle:Nat.ble (off+n) cs.length=true)(hcs:(cs.drop off).take n=cs')(hk:K (.agg cs'.toArray)):bq n h (.pointer (some ⟨b,off,none⟩)) K:=o.ace i hi (rE hle) (by rw[hcs];exact hk)
def Own.oK(o:Own h0 h L):Own h0 h (L++ []):=by rwa[eO]
def Own.gi(o:Own h0 h (L++ [])):Own h0 h L:=by rwa[eO]at o
def Own.uS(o:Own h0 h L)(x:Ext h h'):Ext h0 h':=(o.more x).ext
end
def bV{σ:Type}{B:σ->af->(σ->af->Prop)->Prop}{x:σ}{h:af}(N:Nat)(I:Nat->σ->af->Prop)(h0:I 0 x h)
  (step:∀(i:Nat)(x:σ)(h:af)(Z:σ->af->Prop),i<=N->I i x h->(∀x' h',i<N->I (i+1) x' h'->Z x' h')->B x h Z):bI B x h:=by
 intro Z hZ;have key:∀k i x h,N-i=k->i<=N->I i x h->Z x h:=by
  intro k
  induction k with
  |zero=>intro i x h hk hi hI;exact hZ x h (step i x h Z hi hI λx' h' hlt=>aa)
  |succ k ih=>intro i x h hk hi hI;exact hZ x h (step i x h Z hi hI λx' h' hlt a=>ih (i+1) x' h' aa aa a)
 exact key _ 0 x h rfl (fE _) h0
def tj{σ:Type}{B:σ->af->(σ->af->Prop)->Prop}{x:σ}{h:af}(I:Nat->σ->af->Prop){k0:Nat}(h0:I k0 x h)
  (step:∀(k:Nat)(x:σ)(h:af)(Z:σ->af->Prop),I k x h->(∀x' h' k',k'<k->I k' x' h'->Z x' h')->B x h Z):bI B x h:=by
 intro Z hZ;have key:∀k x h,I k x h->Z x h:=by
  intro k
  induction k using Nat.strongRecOn with
  |_ k ih=>intro x h hI;exact hZ x h (step k x h Z hI λx' h' k' hlt a=>ih k' hlt x' h' a)
 exact key _ x h h0
def wI(n:Nat)(hn:n<9223372036854775807):IntKind.i64.wrap ((n:Int)+1)=((n+1:Nat):Int):=by rw[bK aa aa];rfl
section
variable{α:Type}{enc:α->List Value}{n:Nat}{T:TypeId}{h0 h:af}{v:Value}{ys xs:List α}{KP:af->Prop}{KH:KT}{L:List aS}
def ach{rest:List Value}{j:Nat}(he:∀a,(enc a).length=n)(hj:j+ys.length<=xs.length):
  over (row enc xs++rest) (j*n) (row enc ys)=row enc (xs.take j++ys++xs.drop (j+ys.length))++rest:=by
 have hl:=iN he xs;have hm:(j+ys.length)*n<=xs.length*n:=lJ n hj;rw[nJ]at hm;unfold over;rw[iN he ys,qt aa,B7 he,<-nJ,ET (by rw[nJ];omega),B8 he,qI,qI];simp[c7]
def Own.xq{j:Nat}(o:Own h0 h L)(i:Nat)(hi:L[i]? =some (aC enc n T v xs))(he:∀a,(enc a).length=n)(hp:∀a,∀u∈enc a,plainCell u=true){bl:Nat}(H:eC enc n T h v bl xs)(hb:rV v bl)(hj:j+ys.length<=xs.length)
  (hk:∀h',Own h0 h' (L.set i (aC enc n T v (xs.take j++ys++xs.drop (j+ys.length))))->KP h'):mU h bl (j*n) (row enc ys) KP:=by
 rcases H with ⟨rfl,_⟩|⟨cap,rest,rfl,hbk,hr,hle⟩
 .exact hb.elim
 have hl:=iN he xs;have c:=iN he ys;have hm:(j+ys.length)*n<=xs.length*n:=lJ n hj;rw[nJ]at hm;have hlen:(xs.take j++ys++xs.drop (j+ys.length)).length=xs.length:=by simp;omega
 refine xg _ _ _ _ hbk (by rw[cG];omega) (λu hu=> ?_) (hk _ ?_)
 .simp only[row,qu]at hu;obtain⟨a,_,ha⟩:=hu;exact hp a u ha
 .rw[ach he hj];refine o.set i hi (bN.bG _ _ rfl) (xo (bl:=bl) (.inr ⟨cap,rest,by rw[hlen],aqL hbk,by rw[hlen];exact hr,by rw[hlen];exact hle⟩)) λb hb'=>⟨.inl hb',?_⟩;have :b=bl:=hb';subst this;rw[iM];exact eY hbk
end
section
variable{P:Program}{fv:Value}{Q Q':af->Prop}
def iG.map{σ a:Type}{s0:σ}{t0:a}{next :σ->List Value->σ->Prop}{stop:σ->Prop}{next':a->List Value->a->Prop}{stop':a->Prop}(g:σ->a)(h:iG P fv Q s0 next stop)
  (h0:g s0=t0) (hn:∀s x s',next s x s'->next' (g s) x (g s')) (hs:∀s,stop s->stop' (g s)):iG P fv Q t0 next' stop':=by
 intro yv b0 h1 Rs K J E hl o c hQ hY hK;refine h yv b0 h1 Rs K (λs=>J (g s)) E hl o (h0▸c) (λs b h' hj=>hQ _ b h' hj) (λs x s' b Pr h' R hx=>hY _ _ _ b Pr h' R (hn _ _ _ hx)) λb h' d=>hK b h' ?_;rcases d with ⟨s,h1,h2⟩|h
 .exact .inl ⟨_,hs _ h1,h2⟩
 .exact .inr h
def Iter.toS{n:Nat}{f:(i:Nat)->i<n->List Value}{S:List Value->Prop}(h:Iter P fv Q n f)(hS:∀i hi,S (f i hi)):Gd P fv Q S:=h.map (λ_=>()) rfl (λs x s'⟨⟨hi,e⟩,_⟩=>e▸hS _ hi) λ_ _=>trivial
def iG.need{σ:Type}{s0:σ}{next :σ->List Value->σ->Prop}{stop:σ->Prop}(h:iG P fv Q s0 next stop)(hq:∀h,Q' h->Q h):iG P fv Q' s0 next stop:=λyv b0 h1 Rs K J E hl o a hQ hY hK=>h yv b0 h1 Rs K J E hl o a (λs b h' hj o'=>hq _ (hQ s b h' hj o')) hY hK
end
def cg{P:Program}{f:Nat}{first captured:Array Value}{args l:List Value}{h:af}{K:KT}(e:first.toList++args++captured.toList=l)(hc:aF P f l.toArray h K):
  aX P (.func (.func f) first captured) args.toArray h K:=by
 have :first ++args.toArray++captured=l.toArray:=by apply ko;simp[<-e]
 refine ab4 ?_;rw[this];exact hc
def jE{P:Program}{f:Nat}{first captured:Array Value}{args:Array Value}{l:List Value}{h:af}{K:KT}(e:first.toList++args.toList++captured.toList=l)(hc:aF P f l.toArray h K):
  uK P (.func (.func f) first captured) args h K:=by
 have :first ++args++captured=l.toArray:=by apply ko;simp[<-e]
 show aF P f (first ++args++captured) h K;rw[this];exact hc
def Gf(n:Nat):List (Nat×Nat×Value)->Bool
 | []=>true
 |(off,size,v)::r=>Nat.beq v.cells.size size&&(Nat.ble (off+size) n&&Gf n r)
def bW:∀{n:Nat}{l:List (Nat×Nat×Value)},Gf n l=true->mH n l
 |_,[],_=>trivial
 |_,_::_,h=>by simp only[Gf,gb]at h;exact⟨gl h.1,rE h.2.1,bW h.2.2⟩
section
variable{α:Type}{enc:α->List Value}{n:Nat}{T:TypeId}{h0 h:af}{x:Value}{KH:KT}{L:List aS}{k k':IntKind}
def Own.LC{bytes m:Nat}{zero:List Value}(o:Own h0 h L)(hb:(bytes:Int)*m<=2^48)(hm:m<2^63)
  (hK:∀bl h',Own h0 h' (ak bl (List.replicate m zero).flatten T::L)->KH (.slice (some ⟨bl,0,none⟩) m m) h'):dG T bytes zero (.int k m) (.int k' m) h KH:=by
 refine⟨aa,dQ _,hb,aa,?_⟩;simp only[fL];exact hK h.size _ (o.new (r:=ak h.size _ T) gP λb hb=>hb)
def Own.aci{bytes bl off len cap:Nat}{zero cs:List Value}{e:α->Value}{a:α}(o:Own h0 h L)(i:Nat)(hi:L[i]? =some (ak bl cs T))(he:∀a,enc a=[e a])(hp:plainCell (e a)=true)(hx:Vw enc 1 h x [a])(hlen:len+1<=cap)(hpos:off+len<cs.length)
  (hK:∀h',Own h0 h' (L.set i (ak bl (cs.set (off+len) (e a)) T))->KH (.slice (some ⟨bl,off,none⟩) (len+1) cap) h'):uY T 1 bytes zero (.slice (some ⟨bl,off,none⟩) len cap) x h KH:=by
 obtain⟨c,xc,rfl,hc⟩:=hx.cells λa=>by rw[he];rfl
 have d:gN h 1 1 c=some [e a]:=by
  have e1:Mh.row enc [a]=[e a]:=by simp[row,he]
  rw[<-e1];exact hc
 simp only[uY,mQ,d];rw[aW hlen,tZ];have hb:h[bl]? =some (.cells cs.toArray T (0,0)):=o.get i hi;have hlt:=((o.q hi).2 bl rfl).2;refine xg _ _ _ _ hb (by show off+len+1<=_;omega) (by simpa using hp) (hK _ ?_);have g:over cs (off+len) [e a]=cs.set (off+len) (e a):=by rw[Bl,aW hpos];simp[over]
 rw[g];refine o.set i hi (bN.bG _ _ rfl) (aqK hlt) λb hb'=>⟨.inl hb',?_⟩;rw[iM];exact(show b=bl from hb')▸hlt
end
def Vw.zK{h:af}{v:Value}{ys:List Int}{i:Nat}{z:Int}{k:IntKind}{K:Value->Prop}(H:Vw aJ 1 h v ys)(hq:ys[i]? =some z)(hk:K (I z)):aY 1 v (.int k i) (λt=>ag h t K):=by obtain⟨hi,rfl⟩:=fu.1 hq;exact H.Im hi hk
def nT{h h':af}{a:Addr}{v:Value}(x:Ext h h')(hc:hcell h a=some v):hcell h' a=some v:=by
 unfold hcell at *;split at hc
 .rename_i c T fz hb;rw[x.get hb];exact hc
 .cases hc
def Vw.zL{h:af}{v:Value}{ys:List Int}{i:Nat}{k:IntKind}{K:Value->Prop}(H:Vw aJ 1 h v ys)(hi:i<ys.length)(hK:∀b o,hcell h ⟨b,o,none⟩=some (I ys[i])->K (.pointer (some ⟨b,o,none⟩))):aY 1 v (.int k i) K:=H.idx (λ_=>rfl) hi λb o hc=>hK b o (by simpa[aJ]using hc 0 aa)
section
variable{P:Program}{h0 h h':af}{L:List aS}{i b off n:Nat}
def Own.comm:∀{L L':List aS},Own h0 h (L++L')->Own h0 h (L'++L)
 | [],L',o=>by rw[eO];exact o
 |r::L,L',o=>by have o1:Own h0 h ((L++L')++ [r]):=Own.oJ o;rw[c7]at o1;have o2:=Own.comm o1;rw[c7]at o2;exact o2
def uT(P:Program)(fv:Value){σ:Type}(Q:σ->af->Prop)(d:List aS)(s0:σ)(next :σ->List Value->σ->Prop)(stop:σ->Prop):Prop:=
 ∀ (yv:Value) (h0 h:af) (Rs:List aS) (K:KT) (J:σ->List aS->Prop) (E:List aS->Prop),(∃l,yv=dS l)->
  Own h0 h (Rs++d)->J s0 Rs->(∀s a h',J s a->Own h0 h' a->Q s h')->
  (∀s x s' a Pr h' R,next s x s'->J s a->Own h0 h' (a++Pr)->(∀c h'',J s' c->Own h0 h'' (c++Pr)->R (.bool true) h'')->
   (∀c h'',E c->Own h0 h'' (c++Pr)->R (.bool false) h'')->aX P yv x.toArray h' R)->
  (∀a h',((∃s,stop s/\J s a)\/E a)->Own h0 h' a->K (.tuple #[]) h')->uK P fv #[yv] h K
def Gg(P:Program)(fv:Value){σ:Type}(Q:σ->af->Prop)(d e:List aS)(s0:σ)(next :σ->List Value->σ->Prop)(stop:σ->Prop):Prop:=
 ∀ (yv:Value) (h0 h:af) (Rs:List aS) (K:KT) (J:σ->List aS->Prop) (E:List aS->Prop),(∃l,yv=dS l)->
  Own h0 h (Rs++d)->J s0 Rs->(∀s a h',J s a->Own h0 h' a->Q s h')->
  (∀s x s' a Pr h' R,next s x s'->J s a->Own h0 h' (a++Pr)->(∀c h'',J s' c->Own h0 h'' (c++Pr)->R (.bool true) h'')->
   (∀c h'',E c->Own h0 h'' (c++Pr)->R (.bool false) h'')->aX P yv x.toArray h' R)->
  (∀s a h',stop s->J s a->Own h0 h' (a++e)->K (.tuple #[]) h')->(∀a h',E a->Own h0 h' a->K (.tuple #[]) h')->uK P fv #[yv] h K
def uT.toQ{fv:Value}{c:List aS}{σ:Type}{Q:σ->af->Prop}{s0:σ}{next :σ->List Value->σ->Prop}{stop:σ->Prop}(H:uT P fv Q c s0 next stop):Gg P fv Q c [] s0 next stop:=λyv h0 h Rs K J E hy o d hQ hY hK hE=>H yv h0 h Rs K J E hy o d hQ hY λf h' g o'=>g.elim (λ⟨s,a,b⟩=>hK s f h' a b o'.oK) λe=>hE _ _ e o'
def Own.LD{fv:Value}{j m:List aS}{σ:Type}{Q:σ->af->Prop}{s0:σ}{next :σ->List Value->σ->Prop}{stop:σ->Prop}{ps:List Nat}{B:Loop->bt ps->af->(Exit->af->Prop)->Prop}{q t:af->Prop}{u:List (Nat×(af->Prop))}
  (o:Own h0 h (L++j)) (hI:Gg P fv Q j m s0 next stop) (hf:∀s x s',next s x s'->x.length=ps.length) (J:σ->List aS->Prop) (k:List aS->Prop) (l:Nat->List aS->Prop)
  (v:J s0 L) (hQ:∀s a h',J s a->Own h0 h' a->Q s h')
  (step:∀M s x s' a Pr h'(R:Exit->af->Prop),next s x s'->J s a->Own h0 h' (cD (h.size+1) (lo M .ready none)::cw h.size::(a++Pr))->
   (∀d h'',J s' d->Own h0 h'' (cD (h.size+1) (lo M .busy none)::cw h.size::(d++Pr))->R .normal h'')->
   (∀d h'',k d->Own h0 h'' (cD (h.size+1) (lo M .busy none)::cw h.size::(d++Pr))->R .ret h'')->
   (∀id d h'',l id d->Own h0 h'' (cD (h.size+1) (lo M .busy none)::cw h.size::(d++Pr))->R (.exit id) h'')->B M (gh ps x) h' R)
  (fin:∀s h' a,stop s->J s a->Own h0 h' (cw h.size::(a++m))->q h') (w:∀h' a,k a->Own h0 h' (cw h.size::a)->t h')
  (y:∀id h' a,l id a->Own h0 h' (cw h.size::a)->ta u id h'):
  gO P fv ps (h.size+1) (h.push (.deferred (some []))) B q t u:=by
 intro M hy;have e1:(h.push (.deferred (some []))).size=h.size+1:=td;have o1:Own h0 (h.push (.deferred (some []))) (cw h.size::(L++j)):=o.new (r:=cw h.size) gP λb hb=>hb;have o2:Own h0 ((h.push (.deferred (some []))).push (lo M .ready none)) (cD (h.size+1) (lo M .ready none)::cw h.size::(L++j)):=o1.new (r:=cD (h.size+1) (lo M .ready none)) (by show(Array.push _ _)[h.size+1]? =_;rw[<-e1,gP]) λb hb=>hb.trans e1.symm
 have close:∀{f:List aS}{h':af}{st:LoopState}{p:Option Code},Own h0 h' (cD (h.size+1) (lo M st p)::cw h.size::f)->Own h0 (bG h' (h.size+1) (lo M .exhausted p)) (cw h.size::f):=by intro f h' st p o';have hb':h'[h.size+1]? =some (lo M st p):=o'.get 0 rfl;have hlt:=eY hb';exact(o'.set 0 (r':=gX) rfl (bN.bG (S:=(cD (h.size+1) (lo M st p)).F) h' (lo M .exhausted p) rfl) trivial λc hc=>hc.elim).tail
 refine hI (dS (h.size+1)) h0 _ _ _ (λs Rs=>∃f,Rs=cD (h.size+1) (lo M .ready none)::cw h.size::f/\J s f)
  (λRs=>∃p f,Rs=cD (h.size+1) (lo M .done (some p))::cw h.size::f/\((p=.ret/\k f)\/∃id,p=.exit id/\l id f)) ⟨_,rfl⟩ o2 ⟨L,rfl,v⟩
  (λs a h'⟨f,e,hj⟩ o'=>hQ s f h' hj (by subst e;exact o'.tail.tail)) ?_ ?_ ?_
 .rintro s x s' _ Pr h' R hn ⟨f,rfl,hj⟩ o' hT hF;have hb:h'[h.size+1]? =some (lo M .ready none):=o'.get 0 rfl;have :=hy (gh ps x) h' R .ready none hb;rw[Cg (hf _ _ _ hn)]at this;refine this (step M s x s' f Pr h' _ hn hj o' ?_ ?_ ?_)
  .intro d h'' hj' g;have hb':h''[h.size+1]? =some (lo M .busy none):=g.get 0 rfl;have hlt:=eY hb';refine⟨none,hb',hT (cD (h.size+1) (lo M .ready none)::cw h.size::d) _ ⟨d,rfl,hj'⟩ ?_⟩;refine g.set 0 (r':=cD (h.size+1) (lo M .ready none)) rfl (bN.bG (S:=(cD (h.size+1) (lo M .busy none)).F) h'' _ rfl) (aqK hlt) λc hc=>⟨.inl hc,?_⟩;rw[qH,iM];exact(show c=h.size+1 from hc)▸hlt
  .intro d h'' hj' g;have hb':h''[h.size+1]? =some (lo M .busy none):=g.get 0 rfl;have hlt:=eY hb';refine⟨none,hb',hF (cD (h.size+1) (lo M .done (some .ret))::cw h.size::d) _ ⟨.ret,d,rfl,.inl ⟨rfl,hj'⟩⟩ ?_⟩;refine g.set 0 (r':=cD (h.size+1) (lo M .done (some .ret))) rfl (bN.bG (S:=(cD (h.size+1) (lo M .busy none)).F) h'' _ rfl) (aqK hlt) λc hc=>⟨.inl hc,?_⟩;rw[qH,iM];exact(show c=h.size+1 from hc)▸hlt
  .intro id d h'' hj' g;have hb':h''[h.size+1]? =some (lo M .busy none):=g.get 0 rfl;have hlt:=eY hb';refine⟨none,hb',hF (cD (h.size+1) (lo M .done (some (.exit id)))::cw h.size::d) _ ⟨.exit id,d,rfl,.inr ⟨id,rfl,hj'⟩⟩ ?_⟩;refine g.set 0 (r':=cD (h.size+1) (lo M .done (some (.exit id)))) rfl (bN.bG (S:=(cD (h.size+1) (lo M .busy none)).F) h'' _ rfl) (aqK hlt) λc hc=>⟨.inl hc,?_⟩;rw[qH,iM];exact(show c=h.size+1 from hc)▸hlt
 .rintro s a h' hs ⟨f,rfl,hj⟩ o';exact⟨.ready,none,az,o'.get 0 rfl,fin _ _ _ hs hj (close o')⟩
 .rintro a h' ⟨p,f,rfl,hp⟩ o';refine⟨.done,some p,az,o'.get 0 rfl,?_⟩;rcases hp with ⟨rfl,he⟩|⟨id,rfl,he⟩
  .exact w _ _ he (close o')
  .exact y _ _ _ he (close o')
def Own.LF{fv:Value}{g:List aS}{σ:Type}{Q:σ->af->Prop}{s0:σ}{next :σ->List Value->σ->Prop}{stop:σ->Prop}{ps:List Nat}{B:Loop->bt ps->af->(Exit->af->Prop)->Prop}{j k:af->Prop}{l:List (Nat×(af->Prop))}
  (o:Own h0 h (L++g)) (hI:uT P fv Q g s0 next stop) (hf:∀s x s',next s x s'->x.length=ps.length) (J:σ->List aS->Prop) (e:List aS->Prop) (f:Nat->List aS->Prop)
  (m:J s0 L) (hQ:∀s c h',J s c->Own h0 h' c->Q s h')
  (step:∀M s x s' c Pr h'(R:Exit->af->Prop),next s x s'->J s c->Own h0 h' (cD (h.size+1) (lo M .ready none)::cw h.size::(c++Pr))->
   (∀d h'',J s' d->Own h0 h'' (cD (h.size+1) (lo M .busy none)::cw h.size::(d++Pr))->R .normal h'')->
   (∀d h'',e d->Own h0 h'' (cD (h.size+1) (lo M .busy none)::cw h.size::(d++Pr))->R .ret h'')->
   (∀id d h'',f id d->Own h0 h'' (cD (h.size+1) (lo M .busy none)::cw h.size::(d++Pr))->R (.exit id) h'')->B M (gh ps x) h' R)
  (fin:∀s h' c,stop s->J s c->Own h0 h' (cw h.size::c)->j h') (p:∀h' c,e c->Own h0 h' (cw h.size::c)->k h')
  (q:∀id h' c,f id c->Own h0 h' (cw h.size::c)->ta l id h'):
  gO P fv ps (h.size+1) (h.push (.deferred (some []))) B j k l:=
 o.LD hI.toQ hf J e f m hQ step (λs h' c a b o'=>fin s h' c a b (Own.gi (L:=cw h.size::c) o')) p q
end
section
variable{P:Program}{h0 h h':af}{L:List aS}{i b off n:Nat}
def Gh(P:Program)(fv:Value){σ:Type}(Q:af->Prop)(s0:σ)(next :σ->List Value->aS->σ->Prop)(stop:σ->Prop):Prop:=
 ∀ (yv:Value) (h0 h:af) (Rs:List aS) (K:KT) (J:σ->List aS->Prop) (E:List aS->Prop),(∃l,yv=dS l)->
  Own h0 h Rs->J s0 Rs->(∀s a h',J s a->Own h0 h' a->Q h')->
  (∀s x X s' a Pr h' R,next s x X s'->J s a->Own h0 h' (X::(a++Pr))->(∀c h'',J s' c->Own h0 h'' (c++Pr)->R (.bool true) h'')->
   (∀c h'',E c->Own h0 h'' (c++Pr)->R (.bool false) h'')->aX P yv x.toArray h' R)->
  (∀a h',((∃s,stop s/\J s a)\/E a)->Own h0 h' a->K (.tuple #[]) h')->uK P fv #[yv] h K
def Own.acj{fv:Value}{σ:Type}{Q:af->Prop}{s0:σ}{next :σ->List Value->aS->σ->Prop}{stop:σ->Prop}{ps:List Nat}{B:Loop->bt ps->af->(Exit->af->Prop)->Prop}{l m:af->Prop}{q:List (Nat×(af->Prop))}
  (o:Own h0 h L) (hI:Gh P fv Q s0 next stop) (hf:∀s x X s',next s x X s'->x.length=ps.length) (J:σ->List aS->Prop) (j:List aS->Prop) (k:Nat->List aS->Prop)
  (t:J s0 L) (hQ:∀s f h',J s f->Own h0 h' f->Q h')
  (step:∀M s x X s' f Pr h'(R:Exit->af->Prop),next s x X s'->J s f->Own h0 h' (cD (h.size+1) (lo M .ready none)::X::cw h.size::(f++Pr))->
   (∀a h'',J s' a->Own h0 h'' (cD (h.size+1) (lo M .busy none)::cw h.size::(a++Pr))->R .normal h'')->
   (∀a h'',j a->Own h0 h'' (cD (h.size+1) (lo M .busy none)::cw h.size::(a++Pr))->R .ret h'')->
   (∀id a h'',k id a->Own h0 h'' (cD (h.size+1) (lo M .busy none)::cw h.size::(a++Pr))->R (.exit id) h'')->B M (gh ps x) h' R)
  (fin:∀s h' f,stop s->J s f->Own h0 h' (cw h.size::f)->l h') (u:∀h' f,j f->Own h0 h' (cw h.size::f)->m h')
  (v:∀id h' f,k id f->Own h0 h' (cw h.size::f)->ta q id h'):
  gO P fv ps (h.size+1) (h.push (.deferred (some []))) B l m q:=by
 intro M hy;have e1:(h.push (.deferred (some []))).size=h.size+1:=td;have o1:Own h0 (h.push (.deferred (some []))) (cw h.size::L):=o.new (r:=cw h.size) gP λb hb=>hb;have o2:Own h0 ((h.push (.deferred (some []))).push (lo M .ready none)) (cD (h.size+1) (lo M .ready none)::cw h.size::L):=o1.new (r:=cD (h.size+1) (lo M .ready none)) (by show(Array.push _ _)[h.size+1]? =_;rw[<-e1,gP]) λb hb=>hb.trans e1.symm
 refine hI (dS (h.size+1)) h0 _ _ _ (λs Rs=>∃d,Rs=cD (h.size+1) (lo M .ready none)::cw h.size::d/\J s d)
  (λRs=>∃p d,Rs=cD (h.size+1) (lo M .done (some p))::cw h.size::d/\((p=.ret/\j d)\/∃id,p=.exit id/\k id d)) ⟨_,rfl⟩ o2 ⟨L,rfl,t⟩
  (λs f h'⟨d,e,hj⟩ o'=>hQ s d h' hj (by subst e;exact o'.tail.tail)) ?_ ?_
 .rintro s x X s' _ Pr h' R hn ⟨d,rfl,hj⟩ o' hT hF;have o':Own h0 h' (cD (h.size+1) (lo M .ready none)::X::cw h.size::(d++Pr)):=Own.swap o';have hb:h'[h.size+1]? =some (lo M .ready none):=o'.get 0 rfl;have :=hy (gh ps x) h' R .ready none hb;rw[Cg (hf _ _ _ _ hn)]at this;refine this (step M s x X s' d Pr h' _ hn hj o' ?_ ?_ ?_)
  .intro a h'' hj' g;have hb':h''[h.size+1]? =some (lo M .busy none):=g.get 0 rfl;have hlt:=eY hb';refine⟨none,hb',hT (cD (h.size+1) (lo M .ready none)::cw h.size::a) _ ⟨a,rfl,hj'⟩ ?_⟩;refine g.set 0 (r':=cD (h.size+1) (lo M .ready none)) rfl (bN.bG (S:=(cD (h.size+1) (lo M .busy none)).F) h'' _ rfl) (aqK hlt) λc hc=>⟨.inl hc,?_⟩;rw[qH,iM];exact(show c=h.size+1 from hc)▸hlt
  .intro a h'' hj' g;have hb':h''[h.size+1]? =some (lo M .busy none):=g.get 0 rfl;have hlt:=eY hb';refine⟨none,hb',hF (cD (h.size+1) (lo M .done (some .ret))::cw h.size::a) _ ⟨.ret,a,rfl,.inl ⟨rfl,hj'⟩⟩ ?_⟩;refine g.set 0 (r':=cD (h.size+1) (lo M .done (some .ret))) rfl (bN.bG (S:=(cD (h.size+1) (lo M .busy none)).F) h'' _ rfl) (aqK hlt) λc hc=>⟨.inl hc,?_⟩;rw[qH,iM];exact(show c=h.size+1 from hc)▸hlt
  .intro id a h'' hj' g;have hb':h''[h.size+1]? =some (lo M .busy none):=g.get 0 rfl;have hlt:=eY hb';refine⟨none,hb',hF (cD (h.size+1) (lo M .done (some (.exit id)))::cw h.size::a) _ ⟨.exit id,a,rfl,.inr ⟨id,rfl,hj'⟩⟩ ?_⟩;refine g.set 0 (r':=cD (h.size+1) (lo M .done (some (.exit id)))) rfl (bN.bG (S:=(cD (h.size+1) (lo M .busy none)).F) h'' _ rfl) (aqK hlt) λc hc=>⟨.inl hc,?_⟩;rw[qH,iM];exact(show c=h.size+1 from hc)▸hlt
 .have close:∀{d:List aS}{h':af}{st:LoopState}{p:Option Code},Own h0 h' (cD (h.size+1) (lo M st p)::cw h.size::d)->Own h0 (bG h' (h.size+1) (lo M .exhausted p)) (cw h.size::d):=by
   intro d h' st p o';have hb':h'[h.size+1]? =some (lo M st p):=o'.get 0 rfl;have hlt:=eY hb';exact(o'.set 0 (r':=gX) rfl (bN.bG (S:=(cD (h.size+1) (lo M st p)).F) h' (lo M .exhausted p) rfl) trivial λc hc=>hc.elim).tail
  rintro f h' (⟨s,hs,d,rfl,hj⟩|⟨p,d,rfl,hp⟩) o'
  .exact⟨.ready,none,az,o'.get 0 rfl,fin _ _ _ hs hj (close o')⟩
  .refine⟨.done,some p,az,o'.get 0 rfl,?_⟩;rcases hp with ⟨rfl,he⟩|⟨id,rfl,he⟩
   .exact u _ _ he (close o')
   .exact v _ _ _ he (close o')
end
end Go.Mh

namespace Go.Mh.KM
open Go Go.Mh
variable{κ:Type}[DecidableEq κ]
abbrev fR(κ:Type):=κ×Value×Nat
def cK(ke:κ->Value)(x:fR κ):MapEntry:={key:=ke x.1,val:=x.2.1,born:=x.2.2}
def lk(k:κ):List (fR κ)->Option Value
 | []=>none
 |x::r=>if x.1=k then some x.2.1 else lk k r
def fi(k:κ):List (fR κ)->Nat->Option (Nat×Value)
 | [],_=>none
 |x::r,j=>if x.1=k then some (j,x.2.1)else fi k r (j+1)
structure KE(κ:Type)[DecidableEq κ]where
 ke:κ->Value
 kd:TypeDesc
 inj:∀a b,ke a=ke b->a=b
 find:∀(k:κ)(t:List (fR κ)),aqQ kd (ke k) (t.map (cK ke))=some (fi k t 0)
variable{Q:KE κ}
structure mY(Q:KE κ)(es:Array MapEntry)(clock:Nat)(t:List (fR κ)):Prop where
 ja:es.toList=t.map (cK Q.ke)
 keys:(t.map (·.1)).Nodup
 uQ:(t.map (·.2.2)).Nodup
 old:∀x∈t,x.2.2<clock
def IMap(Q:KE κ)(es:Array MapEntry)(clock:Nat)(f:κ->Option Value):Prop:=∃t,mY Q es clock t/\∀k,f k=lk k t
def cM(f:κ->Option Value)(k:κ)(v:Value):κ->Option Value:=λx=>if x=k then some v else f x
def Cd(f:κ->Option Value)(k:κ)(x y:Value):cM (cM f k x) k y=cM f k y:=by funext z;unfold cM;split<;>rfl
def arC{k:κ}:∀{t:List (fR κ)}{j i:Nat}{v:Value},fi k t j=some (i,v)->j<=i/\∃x,t[i-j]? =some x/\x.1=k/\x.2.1=v
 | x::t,j,i,v,h=>by
  simp only[fi]at h;split at h
  .rename_i hx;simp only[eM,mO]at h;obtain⟨rfl,rfl⟩:=h;exact⟨cq _,x,aP,hx,rfl⟩
  .obtain⟨h1,y,h2,h3⟩:=arC h;refine⟨aa,y,?_,h3⟩;rw[show i-j=(i-(j+1))+1 by omega];simpa using h2
def xk(k:κ):∀(t:List (fR κ))(j:Nat),(fi k t j).map (·.2)=lk k t
 | [],_=>rfl
 |x::t,j=>by
  simp only[fi,lk];split
  .rfl
  .exact xk k t (j+1)
def zE{k:κ}:∀{t:List (fR κ)}{j:Nat},fi k t j=none->∀x∈t,x.1≠k
 | [],_,_=>by intro x hx;cases hx
 | x::t,j,h=>by
  simp only[fi]at h;split at h
  .cases h
  .rename_i hx;intro y hy;rcases cV.1 hy with rfl|hy
   .exact hx
   .exact zE h y hy
def Gb{k:κ}:∀{t:List (fR κ)},(∀x∈t,x.1≠k)->lk k t=none
 | [],_=>rfl
 |x::t,h=>by simp only[lk,aQ (h x cN)];exact Gb λy hy=>h y (cZ _ hy)
def ab9{k:κ}{t s:List (fR κ)}:lk k (t++s)=(lk k t).orElse λ_=>lk k s:=by
 induction t with
 |nil=>rfl
 |cons x t ih=>
  simp only[qq,lk];split
  .rfl
  .exact ih
def zF{k:κ}{g:fR κ->fR κ}:∀{t:List (fR κ)}{j i:Nat}{v:Value},(t.map (·.1)).Nodup->fi k t j=some (i,v)->
  j<=i/\t.modify (i-j) g=t.map (λx=>if x.1=k then g x else x)
 | x::t,j,i,v,hn,h=>by
  simp only[dI,gC]at hn;simp only[fi]at h;split at h
  .rename_i hx;simp only[eM,mO]at h;obtain⟨rfl,rfl⟩:=h;refine⟨cq _,?_⟩;simp only[iE,List.modify_zero_cons,dI,aW hx];congr 1;have :∀y∈t,y.1≠k:=λy hy e=>hn.1 (by rw[hx,<-e];exact mF hy);symm;rw[jx (g:=id) (λy hy=>by simp[this y hy])];simp
  .rename_i hx;obtain⟨h1,h2⟩:=zF (g:=g) hn.2 h;refine⟨aa,?_⟩;rw[show i-j=(i-(j+1))+1 by omega];simp only[List.modify_succ_cons,dI,aQ hx,h2]
def Lw{k k':κ}{v:Value}:∀{t:List (fR κ)},lk k' (t.map λx=>if x.1=k then(x.1,v,x.2.2)else x)=if k'=k then(lk k t).map (λ_=>v)else lk k' t
 | []=>by simp[lk]
 | x::t=>by
  have ih:=Lw (k:=k) (k':=k') (v:=v) (t:=t);simp only[dI,lk];by_cases hx:x.1=k
  .simp only[aW hx];by_cases hk:k'=k
   .simp[hk,hx]
   .have :¬x.1=k':=λe=>hk (by rw[<-e,hx]);simp only[this,dN,hk]at ih |-;exact ih
  .simp only[aQ hx];by_cases hk:x.1=k'
   .have :¬k'=k:=λe=>hx (by rw[hk,e]);simp[hk,this]
   .simp only[aQ hk];exact ih
def IMap.empty:IMap Q #[] 0 (λ_=>none):=⟨[],⟨rfl,aP,aP,aP⟩,λ_=>rfl⟩
section
variable{h:af}{m c:Nat}{es:Array MapEntry}{f:κ->Option Value}
def xl{z:Value}{ok:Bool}{k:κ}{K:Value->Prop}(hm:h[m]? =some (.map es c))(hi:IMap Q es c f)
  (hk:K (if ok then .tuple #[(f k).getD z,.bool (f k).isSome]else(f k).getD z)):dP Q.kd z ok h (.map (some m)) (Q.ke k) K:=by
 obtain⟨t,ht,hf⟩:=hi;simp only[dP,hm,ht.ja,Q.find];have hlk:=xk k t 0;rw[hf k,<-hlk]at hk;cases a:fi k t 0 with
 |none=>rw[a]at hk;simpa using hk
 |some p=>rw[a]at hk;simpa using hk
def mY.set {t:List (fR κ)} {i:Nat} {k:κ} {v old:Value} (ht:mY Q es c t) (a:fi k t 0=some (i,old)):
  mY Q (es.modify i λe=>{e with key:=Q.ke k,val:=v}) c (t.map λx=>if x.1=k then(x.1,v,x.2.2)else x):=by
 have hm:=(zF (g:=λx=>(x.1,v,x.2.2)) ht.keys a).2;rw[jl]at hm;refine⟨?_,?_,?_,?_⟩
 .rw [Array.toList_modify,ht.ja,<-hm];apply iW
  .simp
  .intro j h1 h2;simp only[List.getElem_modify,qv];split
   .rename_i e;subst e;have hlt:i<t.length:=by simpa using h1
    have :(t.modify i λx=>(x.1,v,x.2.2))[i]? =(t.map λx=>if x.1=k then(x.1,v,x.2.2)else x)[i]? :=by rw[hm]
    have hkey:t[i].1=k:=by
     have key:∀(t:List (fR κ))(j i:Nat),fi k t j=some (i,old)->∃hlt:i-j<t.length,t[i-j].1=k/\j<=i:=by
      intro t
      induction t with
      |nil=>intro j i h;cases h
      | cons x t ih=>
       intro j i h;simp only[fi]at h;split at h
       .rename_i hx;simp only[eM,mO]at h;obtain⟨rfl,_⟩:=h;exact⟨aP,by simpa using hx,cq _⟩
       .obtain⟨h1,h2,h3⟩:=ih _ _ h;refine⟨by simp;omega,?_,aa⟩;have :i-j=(i-(j+1))+1:=aa;simp only[this,vZ];exact h2
     obtain⟨_,h2,_⟩:=key t 0 i a;simpa using h2
    simp[cK,hkey]
   .rfl
 .have :(t.map λx=>if x.1=k then(x.1,v,x.2.2)else x).map (·.1)=t.map (·.1):=by
   rw[rC];apply jx;intro x _;simp only[Function.comp];split<;>rfl
  rw[this];exact ht.keys
 .have :(t.map λx=>if x.1=k then(x.1,v,x.2.2)else x).map (·.2.2)=t.map (·.2.2):=by
   rw[rC];apply jx;intro x _;simp only[Function.comp];split<;>rfl
  rw[this];exact ht.uQ
 .intro x hx;obtain⟨y,hy,rfl⟩:=cP.1 hx;have :=ht.old y hy;split<;>exact this
def mY.push{t:List (fR κ)}{k:κ}{v:Value}(ht:mY Q es c t)(d:fi k t 0=none):
  mY Q (es.push {key:=Q.ke k,val:=v,born:=c}) (c+1) (t++ [(k,v,c)]):=by
 refine⟨by simp[ht.ja,cK],?_,?_,?_⟩
 .rw[fq,kq];refine⟨ht.keys,aP,?_⟩;intro a ha b hb;obtain⟨x,hx,rfl⟩:=cP.1 ha;simp only[dI,sO,eP]at hb;subst hb;exact zE d x hx
 .rw[fq,kq];refine⟨ht.uQ,aP,?_⟩;intro a ha b hb;obtain⟨x,hx,rfl⟩:=cP.1 ha;simp only[dI,sO,eP]at hb;subst hb;exact yG (ht.old x hx)
 .intro x hx;rcases cS.1 hx with hx|hx
  .exact Nat.lt_succ_of_lt (ht.old x hx)
  .rw[eP.1 hx];exact EV _
def zG{t:List (fR κ)}{k:κ}{v old:Value}{i:Nat}(a:fi k t 0=some (i,old))(x:κ):
  lk x (t.map λx=>if x.1=k then(x.1,v,x.2.2)else x)=if x=k then some v else lk x t:=by
 rw[Lw];split
 .rw[<-xk k t 0,a];rfl
 .rfl
def Gc{t:List (fR κ)}{k:κ}{v:Value}{b:Nat}(a:fi k t 0=none)(x:κ):
  lk x (t++ [(k,v,b)])=if x=k then some v else lk x t:=by
 rw[ab9];by_cases hx:x=k
 .subst hx;rw[Gb (zE a)];simp[lk]
 .have :¬k=x:=λe=>hx e.symm;simp[hx,lk,this]
def Ce(Q:KE κ)(es:Array MapEntry)(s:Int)(k:κ):Prop:=∃e∈es.toList,e.key=Q.ke k/\(e.born:Int)=s
def zH{k:κ}{z:Value}{K:KT}(hm:h[m]? =some (.map es c))(hi:IMap Q es c f)
  (hk:∀es' c' s,IMap Q es' c' (cM f k ((f k).getD z))->Ce Q es' s k->K (.tuple #[(f k).getD z,.int .i64 s]) (bG h m (.map es' c'))):
  mI Q.kd z (.map (some m)) (Q.ke k) h K:=by
 obtain⟨t,ht,hf⟩:=hi;simp only[mI,hm,ht.ja,Q.find];have hlk:=xk k t 0;cases a:fi k t 0 with
 |none=>
  rw[a]at hlk;have b:f k=none:=by rw[hf];exact hlk.symm
  rw[b]at hk;refine hk _ _ _ ⟨_,ht.push a,λx=>by rw[Gc a];simp[cM,hf]⟩ ⟨{key:=Q.ke k,val:=z,born:=c},aP,rfl,rfl⟩
 | some p=>
  obtain⟨i,v⟩:=p;rw[a]at hlk;have b:f k=some v:=by rw[hf];exact hlk.symm
  rw[b]at hk;have gp:=ht.set (v:=v) a;obtain⟨_,hmod⟩:=zF (g:=λx=>x) ht.keys a;have hi:i<t.length:=by
   have key:∀(t:List (fR κ))(j i:Nat),fi k t j=some (i,v)->i-j<t.length/\j<=i:=by
    intro t
    induction t with
    |nil=>intro j i h;cases h
    | cons x t ih=>
     intro j i h;simp only[fi]at h;split at h
     .simp only[eM,mO]at h;obtain⟨rfl,_⟩:=h;exact⟨aP,cq _⟩
     .obtain⟨h1,h2⟩:=ih _ _ h;exact⟨by simp;omega,aa⟩
   simpa using(key t 0 i a).1
  have d:es[i]? =some (cK Q.ke t[i]):=by rw[<-wg,ht.ja];simp[hi]
  have l:t[i].1=k/\t[i].2.1=v:=by obtain⟨_,x,hx,h1,h2⟩:=arC a;rw[jl,dD hi]at hx;obtain rfl:=eV hx;exact⟨h1,h2⟩
  have hsame:(es.modify i λe=>{e with key:=Q.ke k})=es.modify i λe=>{e with key:=Q.ke k,val:=v}:=by
   apply vW
   .simp
   .intro j h1 h2;simp only[yJ];split
    .rename_i e;subst e;have hlt:i<es.size:=by simpa using h1
     have :es[i]? =some es[i]:=sL hlt;rw[d]at this;simp only[eM]at this;rw[<-this];simp[cK,l.2]
    .rfl
  dsimp only;rw[hsame,d];refine hk _ _ _ ⟨_,gp,λx=>by rw[zG a];simp[cM,hf]⟩ ?_;refine⟨{(cK Q.ke t[i])with key:=Q.ke k,val:=v},?_,rfl,rfl⟩;rw[Bo];refine mE (i:=i) ?_;simp[d]
def zI{k:κ}{s:Int}{v:Value}{K:KT}(hm:h[m]? =some (.map es c))(hi:IMap Q es c f)(hs:Ce Q es s k)
  (hk:∀es',IMap Q es' c (cM f k v)->K undef (bG h m (.map es' c))):lP (.map (some m)) (.int .i64 s) v h K:=by
 obtain⟨t,ht,hf⟩:=hi;obtain⟨e,he,d,a⟩:=hs;rw[ht.ja]at he;obtain⟨x,hx,rfl⟩:=cP.1 he;simp only[cK]at d a;have g:x.1=k:=Q.inj _ _ d;simp only[lP,hm];have key:∀(t:List (fR κ)),(t.map (·.1)).Nodup->(t.map (·.2.2)).Nodup->x∈t->∃i,(t.map (cK Q.ke)).findIdx? (λe=>(e.born:Int)==s)=some i/\∀j,fi k t j=some (i+j,x.2.1):=by
  intro t
  induction t with
  |nil=>intro _ _ hx;cases hx
  | cons y t ih=>
   intro hk hb hx;simp only[dI,gC]at hk hb;by_cases hy:y=x
   .subst hy;refine⟨0,?_,λj=>by simp[fi,g]⟩;simp[Bp,cK,a]
   .have hx':x∈t:=by
     rcases cV.1 hx with h|h
     .exact(hy h.symm).elim
     .exact h
    obtain⟨i,h1,h2⟩:=ih hk.2 hb.2 hx';have l:¬((y.2.2:Int)=s):=by
     rw[<-a];intro e;have :y.2.2=x.2.2:=by exact_mod_cast e
     exact hb.1 (this▸mF hx')
    have n:y.1≠k:=λe=>hk.1 (by rw[e,<-g];exact mF hx');refine⟨i+1,?_,λj=> ?_⟩
    .rw[dI,Bp];simp only[cK,qp,l,dN];rw[show(λ(e:MapEntry)=>(e.born:Int)==s)=λe=>(e.born:Int)==s from rfl,h1];rfl
    .simp only[fi,aQ n];rw[h2 (j+1)];congr 2;omega
 obtain⟨i,h1,h2⟩:=key t ht.keys ht.uQ hx;have hidx:es.findIdx? (λe=>(e.born:Int)==s)=some i:=by have e:es=(t.map (cK Q.ke)).toArray:=ko ht.ja;rw[e,List.findIdx?_toArray];exact h1
 rw[hidx];have b:fi k t 0=some (i,x.2.1):=by simpa using h2 0
 have gp:=ht.set (v:=v) b;have hsame:(es.modify i λe=>{e with val:=v})=es.modify i λe=>{e with key:=Q.ke k,val:=v}:=by
  obtain⟨_,y0,hy0,hy1,_⟩:=arC b;rw[jl]at hy0;have he:es[i]? =some (cK Q.ke y0):=by rw[<-wg,ht.ja,pK,hy0];rfl
  apply vW
  .simp
  .intro j h1 h2;simp only[yJ];split
   .rename_i e2;subst e2;have hlt:i<es.size:=by simpa using h1
    have h3:es[i]? =some es[i]:=sL hlt;rw[he]at h3;simp only[eM]at h3;rw[<-h3];simp[cK,hy1]
   .rfl
 dsimp only;rw[hsame];exact hk _ ⟨_,gp,λx=>by rw[zG b];simp[cM,hf]⟩
end
end Go.Mh.KM

namespace Go.Mh
open Go
def p9{κ:Type}[DecidableEq κ](Q:KM.KE κ)(m:Nat)(f:κ->Option Value):aS:=⟨λb=>b=m,λh=>∃es c,h[m]? =some (.map es c)/\KM.IMap Q es c f,λhs⟨es,c,a,b⟩=>⟨es,c,(hs m rfl).trans a,b⟩⟩
section
variable{κ:Type}[DecidableEq κ]{Q:KM.KE κ}{h0 h:af}{L:List aS}{m:Nat}{f:κ->Option Value}{K:Value->Prop}{KH:KT}{k:κ}{z v:Value}{ok:Bool}
def Own.Ci(Q:KM.KE κ)(o:Own h0 h L)(hK:∀m h',Own h0 h' (p9 Q m (λ_=>none)::L)->KH (.map (some m)) h'):bH h KH:=hK h.size _ (o.new (r:=p9 Q h.size _) ⟨#[],0,gP,.empty⟩ λb hb=>hb)
def Own.Gi(o:Own h0 h L)(i:Nat)(hi:L[i]? =some (p9 Q m f))(hk:K (if ok then .tuple #[(f k).getD z,.bool (f k).isSome]else(f k).getD z)):dP Q.kd z ok h (.map (some m)) (Q.ke k) K:=by obtain⟨es,c,hm,him⟩:=o.get i hi;exact KM.xl hm him hk
def Own.ack(o:Own h0 h L)(i:Nat)(hi:L[i]? =some (p9 Q m f))
  (hK:∀h' s,Own h0 h' (L.set i (p9 Q m (KM.cM f k ((f k).getD z))))->
   (∀(v:Value)(K':KT),(∀h'',Own h0 h'' (L.set i (p9 Q m (KM.cM f k v)))->K' undef h'')->lP (.map (some m)) (.int .i64 s) v h' K')->
   KH (.tuple #[(f k).getD z,.int .i64 s]) h'):mI Q.kd z (.map (some m)) (Q.ke k) h KH:=by
 obtain⟨es,c,hm,him⟩:=o.get i hi;have hlt:=eY hm;have hF:∀b,(p9 Q m f).F b->((p9 Q m f).F b\/h.size<=b):=λb hb=>.inl hb;refine KM.zH hm him λes' c' s a hst=> ?_;have o1:Own h0 (bG h m (.map es' c')) (L.set i (p9 Q m (KM.cM f k ((f k).getD z)))):=o.set i hi (bN.bG _ _ rfl) ⟨es',c',aqK hlt,a⟩ λb hb=>⟨.inl hb,by rw[iM];exact(show b=m from hb)▸hlt⟩
 refine hK _ s o1 λv K' g=> ?_;have hm':(bG h m (.map es' c'))[m]? =some (.map es' c'):=aqK hlt;have hlt':=eY hm';refine KM.zI hm' a hst λd e=>g _ ?_;have o2:=o1.set i (ng hi) (r':=p9 Q m (KM.cM f k v)) (bN.bG _ (.map d c') rfl) ⟨d,c',aqK hlt',?_⟩ λb hb=>⟨.inl hb,by rw[iM];exact(show b=m from hb)▸hlt'⟩
 .rw[jO]at o2;exact o2
 .rw[KM.Cd]at e;exact e
end
section
variable{h0 h:af}{L:List aS}{m:Nat}{f:Int->Option Value}{KH:KT}{k:Int}{z v:Value}
def Own.Cj{f':Int->Option Value}(o:Own h0 h L)(i:Nat)(hi:L[i]? =some (eD m f))(hf:∀x,f' x=cM f k v x)(hK:∀h',Own h0 h' (L.set i (eD m f'))->KH undef h'):
  mI (.int .i64) z (.map (some m)) (I k) h λt h1=>bp t 1 λs=>lP (.map (some m)) s v h1 KH:=by
 obtain⟨es,c,hm,him⟩:=o.get i hi;have hlt:=eY hm;refine zH hm him λes' c' s a hst=> ?_;rw[uP];show lP (.map (some m)) (.int .i64 s) v (Mh.bG h m (.map es' c')) KH;have o1:Own h0 (Mh.bG h m (.map es' c')) (L.set i (eD m (cM f k ((f k).getD z)))):=o.set i hi (bN.bG _ _ rfl) ⟨es',c',aqK hlt,a⟩ λb hb=>⟨.inl hb,by rw[iM];exact(show b=m from hb)▸hlt⟩
 have hm':(Mh.bG h m (.map es' c'))[m]? =some (.map es' c'):=aqK hlt;have hlt':=eY hm';refine zI hm' a hst λd e=>hK _ ?_;have o2:=o1.set i (ng hi) (r':=eD m f') (bN.bG _ (.map d c') rfl) ⟨d,c',aqK hlt',e.congr λx=> ?_⟩ λb hb=>⟨.inl hb,by rw[iM];exact(show b=m from hb)▸hlt'⟩
 .rw[jO]at o2;exact o2
 .rw[hf];unfold cM;split<;>rfl
end
abbrev uU:=Int×Int×Int
def Ck(k:uU):Value:=.agg #[.int .i64 k.1,.int .i64 k.2.1,.int .i64 k.2.2]
def LG(k:uU):∀(t:List (KM.fR uU))(j:Nat),oE k (t.map (KM.cK Ck)) j=some (KM.fi k t j)
 | [],j=>rfl
 |x::t,j=>by
  have :uB (KM.cK Ck x).key=some x.1:=rfl;simp only[dI,oE,this,KM.fi];by_cases e:k=x.1
  .rw[aW e,aW e.symm];rfl
  .rw[aQ e,aQ (λh=>e h.symm)];exact LG k t (j+1)
def Q3(n:Nat)(e:TypeId):KM.KE uU where
 ke:=Ck
 kd:=.array n e
 inj:=λa b h=>by obtain⟨a1,a2,a3⟩:=a;obtain⟨b1,b2,b3⟩:=b;simp[Ck]at h;obtain⟨rfl,rfl,rfl⟩:=h;rfl
 find:=λk t=>LG k t 0
def toList_eq(a:ByteArray):a.toList=a.data.toList:=by
 unfold ByteArray.toList;have hsz:a.data.toList.length=a.size:=Bd;have key:∀(n i:Nat)(r:List UInt8),a.size-i=n->ByteArray.toList.loop a i r=r.reverse++a.data.toList.drop i:=by
  intro n
  induction n with
  |zero=>intro i r h;unfold ByteArray.toList.loop;rw[aQ aa,rz aa,eO]
  |succ n ih=>
   intro i r h;unfold ByteArray.toList.loop;have hi:i<a.size:=aa;rw[aW hi,ih (i+1) _ aa];have hi':i<a.data.toList.length:=aa;rw[iD hi',yO,c7];congr 1;have hd:i<a.data.size:=by rw[<-Bd];exact hi'
   simp[ByteArray.get!,yP a.data i hd]
 simpa using key a.size 0 [] aP
def toList_inj{a b:ByteArray}:a.toList=b.toList↔a=b:=by
 rw[toList_eq,toList_eq];constructor
 .intro h;cases a;cases b;simp at h;simpa using h
 .rintro rfl;rfl
section
variable{K:Value->Prop}{a b:ByteArray}
def acm:aq .eql (.string a) (.string b) K↔K (.bool (decide (a=b))):=by
 have :(a.toList==b.toList)=decide (a=b):=by
  by_cases h:a=b
  .subst h;simp
  .rw[bR h];simpa[toList_inj]using h
 simp only[aq,this]
def acn(h:a.size+b.size<=9223372036854775807)(hK:K (.string (a++b))):aq .add (.string a) (.string b) K:=⟨h,hK⟩
end
def aco(a b:ByteArray):(a==b)=decide (a=b):=by
 have :(a==b)=(a.data==b.data):=by cases a;cases b;rfl
 rw[this];by_cases h:a=b
 .subst h;simp
 .rw[bR h,rA];intro e;apply h;cases a;cases b;simpa using e
def iq(l:List aS):aS:=⟨λb=>∃r∈l,r.F b,λh=>(∀r∈l,r.Q h)/\∀{i j:Nat}{r s:aS},l[i]? =some r->l[j]? =some s->i≠j->∀b,r.F b->¬s.F b,
 λhs hq=>⟨λr hr=>r.st (λb hb=>hs b ⟨r,hr,hb⟩) (hq.1 r hr),hq.2⟩⟩
section
variable{h0 h h':af}{L l:List aS}{i j:Nat}{r:aS}
def Own.out(o:Own h0 h L)(i:Nat)(hi:L[i]? =some (iq l)):Own h0 h (l++L.set i gX):=by
 have hlt:i<L.length:=(fu.1 hi).1;have key:∀{j s},(l++L.set i gX)[j]? =some s->(j<l.length/\l[j]? =some s)\/(l.length<=j/\((j-l.length=i/\s=gX)\/(j-l.length≠i/\L[j-l.length]? =some s))):=by
  intro j s hs;by_cases h1:j<l.length
  .rw[aqM h1]at hs;exact .inl ⟨h1,hs⟩
  .rw[eR aa]at hs;refine .inr ⟨aa,?_⟩;by_cases e:j-l.length=i
   .rw[e,jo hlt]at hs;exact .inl ⟨e,(eV hs).symm⟩
   .rw[gD (λe'=>e e'.symm)]at hs;exact .inr ⟨e,hs⟩
 have q:=o.q hi;refine⟨o.ext,λ{k s} hs=> ?_,λ{a c s t} hs ht hne b hb hb'=> ?_⟩
 .rcases key hs with ⟨_,hs⟩|⟨_,⟨_,rfl⟩|⟨_,hs⟩⟩
  .have hm:=mE hs;exact⟨q.1.1 s hm,λb hb=>q.2 b ⟨s,hm,hb⟩⟩
  .exact⟨trivial,λb hb=>hb.elim⟩
  .exact o.q hs
 .rcases key hs with ⟨h1,hs⟩|⟨h1,⟨_,rfl⟩|⟨e1,hs⟩⟩<;>rcases key ht with ⟨h2,ht⟩|⟨h2,⟨_,rfl⟩|⟨e2,ht⟩⟩
  .exact q.1.2 hs ht hne b hb hb'
  .exact hb'
  .exact o.ap hi ht (λe=>e2 e.symm) b ⟨s,mE hs,hb⟩ hb'
  .exact hb
  .exact hb
  .exact hb
  .exact o.ap hi hs (λe=>e1 e.symm) b ⟨t,mE ht,hb'⟩ hb
  .exact hb'
  .exact o.ap hs ht aa b hb hb'
def Own.back(o:Own h0 h (l++L))(i:Nat)(hi:L[i]? =some gX):Own h0 h (L.set i (iq l)):=by
 have hlt:i<L.length:=(fu.1 hi).1;have kl:∀{j s},l[j]? =some s->(l++L)[j]? =some s:=λ{j s} hj=>by rw[aqM (fu.1 hj).1];exact hj
 have d:∀{j s},L[j]? =some s->(l++L)[l.length+j]? =some s:=λ{j s} hj=>by rw[eR aa,show l.length+j-l.length=j by omega];exact hj
 have key:∀{j s},(L.set i (iq l))[j]? =some s->(j=i/\s=iq l)\/(j≠i/\L[j]? =some s):=by
  intro j s hs;by_cases e:j=i
  .subst e;rw[jo hlt]at hs;exact .inl ⟨rfl,(eV hs).symm⟩
  .rw[gD (λe'=>e e'.symm)]at hs;exact .inr ⟨e,hs⟩
 refine⟨o.ext,λ{k s} hs=> ?_,λ{a c s t} hs ht hne b hb hb'=> ?_⟩
 .rcases key hs with ⟨_,rfl⟩|⟨_,hs⟩
  .refine⟨⟨λr hr=> ?_,λhi hj hne=>o.ap (kl hi) (kl hj) hne⟩,λb⟨r,hr,hb⟩=> ?_⟩
   .obtain⟨k,hk⟩:=ug hr;exact(o.q (kl hk)).1
   .obtain⟨k,hk⟩:=ug hr;exact(o.q (kl hk)).2 b hb
  .exact o.q (d hs)
 .rcases key hs with ⟨e1,rfl⟩|⟨e1,hs⟩<;>rcases key ht with ⟨e2,rfl⟩|⟨e2,ht⟩
  .exact hne (e1.trans e2.symm)
  .obtain⟨r,hr,hb⟩:=hb;obtain⟨k,hk⟩:=ug hr;have :=(fu.1 hk).1;exact o.ap (kl hk) (d ht) aa b hb hb'
  .obtain⟨r,hr,hb'⟩:=hb';obtain⟨k,hk⟩:=ug hr;have :=(fu.1 hk).1;exact o.ap (kl hk) (d hs) aa b hb' hb
  .exact o.ap (d hs) (d ht) aa b hb hb'
def Own.sep(o:Own h0 h (l++L)):Own h0 h (iq l::L):=by
 have o1:Own h0 h ((l++L)++ [gX]):=Own.oJ (o.cons (r:=gX) (.refl _ _) trivial λb hb=>hb.elim);have o2:Own h0 h (l++(L++ [gX])):=by rwa[<-c7]
 have c:=o2.back L.length (by rw[eR (cq _),iE];rfl);rw[mG _ _ (cq _),iE]at c;exact Own.comm c
end
def eA(b:UInt8):List Value:=[.int .u8 b.toNat]
def zM(x:UInt8):∀u∈eA x,plainCell u=true:=by intro u hu;simp[eA]at hu;subst hu;rfl
def tn:∀l:List UInt8,row eA l=l.map λb=>Value.int .u8 b.toNat
 | []=>rfl
 |b::l=>by have :=tn l;simp only[row,jm,dI,eA]at this |-;rw[this];rfl
def LH:∀(l:List UInt8)(s:ByteArray),qA (row eA l) s=some ⟨s.data++l.toArray⟩
 | [],s=>by simp[row,qA]
 |b::l,s=>by have :=LH l (s.push b);rw[tn]at this |-;simp only[dI,qA];rw[show UInt8.ofNat ((b.toNat:Int)).toNat=b by simp];rw[this];simp[ByteArray.push]
def qd(l:List UInt8):ByteArray:=⟨l.toArray⟩
def Vw.str{h:af}{v:Value}{l:List UInt8}{K:Value->Prop}(H:Vw eA 1 h v l)(hK:K (.string (qd l))):pR h v K:=by
 obtain⟨base,cap,rfl,hc⟩:=H.cells (enc:=eA) (n:=1) (λ_=>rfl);cases base with
 | none=>
  simp only[gN]at hc;have :l=[]:=by
   cases l with
   |nil=>rfl
   |cons a l=>simp[tn]at hc
  subst this;exact hK
 | some a=>
  obtain⟨b,o,sp⟩:=a;cases sp with
  |some _=>simp[gN]at hc
  | none=>
   simp only[gN]at hc;have e:qA (row eA l) .empty=some (qd l):=by rw[LH];show some (⟨#[]++l.toArray⟩:ByteArray)=some ⟨l.toArray⟩;rw[Array.empty_append]
   rw[tZ]at hc;simp only[pR,hc,e];exact hK
section
variable{h0 h:af}{L X Y Z l:List aS}{r:aS}{j p:Nat}
def Own.Cl(o:Own h0 h (r::L))(hj:L[j]? =some (iq l)):Own h0 h (L.set j (iq (l++ [r]))):=by have hlt:j<L.length:=(fu.1 hj).1;have o1:Own h0 h (l++(r::L.set j gX)):=o.out (j+1) hj;have e:l++(r::L.set j gX)=(l++ [r])++L.set j gX:=aP;rw[e]at o1;have o2:=o1.back j (jo hlt);rwa[jO]at o2
end
variable{α:Type}{enc:α->List Value}{n m p v:Nat}{T:TypeId}{h0 h:af}{L:List aS}
def tq{β:Type}(f:Nat->β)(p:Nat)(x:β):Nat->β:=λv=>if v=p then x else f v
def LI{β:Type}{f:Nat->β}{x:β}:tq f p x p=x:=aW rfl
def LJ{β:Type}{f:Nat->β}{x:β}(h:v≠p):tq f p x v=f v:=aQ h
def fA(enc:α->List Value)(n:Nat)(T:TypeId)(kv:Nat->Value)(ks:Nat->List α)(m:Nat):List aS:=(List.range m).map λv=>aC enc n T (kv v) (ks v)
def xu{kv:Nat->Value}{ks:Nat->List α}(hv:v<m):(fA enc n T kv ks m)[v]? =some (aC enc n T (kv v) (ks v)):=by simp[fA,hv]
def acq{kv:Nat->Value}{ks:Nat->List α}{w:Value}{ys:List α}:(fA enc n T kv ks m).set p (aC enc n T w ys)=fA enc n T (tq kv p w) (tq ks p ys) m:=by
 apply nK;intro i;by_cases hi:i<m
 .by_cases e:i=p
  .subst e;rw[jo (by simp[fA,hi]),xu hi,LI,LI]
  .rw[gD (λh=>e h.symm),xu hi,xu hi,LJ e,LJ e]
 .rw[kU (by simp[fA];omega),kU (by simp[fA];omega)]
def Own.acr(o:Own h0 h L):Own h0 h (fA enc n T (λ_=>.slice none 0 0) (λ_=>([]:List α)) m++L):=by
 unfold fA;generalize List.range m=r
 induction r with
 |nil=>exact o
 |cons a r ih=>exact ih.ef
def Own.zN{w:Value}{xs:List α}(o:Own h0 h L)(hm:aC enc n T w xs∈L):Vw enc n h w xs:=by obtain⟨i,hi⟩:=ug hm;exact o.vw i hi
def zO(cs:List Value):List (Nat×Nat×Value)->List Value
 | []=>cs
 |(off,_,v)::r=>zO (cs.set off v) r
def zP(n:Nat):List (Nat×Nat×Value)->Bool
 | []=>true
 |(off,size,_)::r=>Nat.beq size 1&&(Nat.blt off n&&zP n r)
def acs{cs:List Value}{off:Nat}{v:Value}(h:off<cs.length)(hv:v.cells= #[v]):cs.take off++v.cells.toList++cs.drop (off+v.cells.size)=cs.set off v:=by rw[hv,Bl,aW h];simp
def LK:∀{parts:List (Nat×Nat×Value)}{cs:List Value},(∀p∈parts,p.2.2.cells= #[p.2.2])->zP cs.length parts=true->mH cs.length parts/\gq cs parts=zO cs parts
 | [],_,_,_=>⟨trivial,rfl⟩
 |(off,size,v)::r,cs,h1,h2=>by simp only[zP,gb]at h2;have hs:size=1:=gl h2.1;have ho:off<cs.length:=rE h2.2.1;have hv:=h1 (off,size,v) (cN ..);have ih:=@LK r (cs.set off v) (λp hp=>h1 p (cZ _ hp)) (by rw[kV];exact h2.2.2);rw[kV]at ih;refine⟨⟨by rw[show v.cells= #[v]from hv,hs];rfl,aa,ih.1⟩,?_⟩;simp only[gq,zO];rw[acs ho hv];exact ih.2
def cE{zero cs':List Value}{parts:List (Nat×Nat×Value)}{K:Value->Prop}(h1:∀p∈parts,p.2.2.cells= #[p.2.2])(h2:zP zero.length parts=true)(hcs:zO zero parts=cs')(hk:K (.agg cs'.toArray)):aV zero parts K:=by have :=LK h1 h2;refine⟨this.1,?_⟩;rw[this.2,hcs];exact hk
end Go.Mh
